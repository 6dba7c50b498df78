/- A statement that draws its order, by what holds whatever has come up. -/
import Derived.Test.YtjlikbaamefkiaaRound
namespace Go.Proofs.Ytjlikbaamefkiaa
open Go.RowKit
set_option linter.unusedVariables false
section
variable {P : Program} {ops : Array Oper} {Q : Exit → Act → World → Prop}

theorem getD_ft {l : Array Bool} {j : Nat} (h : j < l.size) : l.getD j false = l.getD j true := by
  simp [Array.getD_eq_getD_getElem?, h]
theorem ready_nil {md : Region.Mode} {listed : Array Bool} (hwf : ∀ (i : Nat) (o : Oper), ops[i]? = some o → ∀ e ∈ o.after, e.on < i) (hs : listed.size = ops.size) (hr : Region.ready md ops listed = []) : ∀ (i : Nat), i < ops.size → listed.getD i true = true := by
  intro i
  induction i using Nat.strongRecOn with
  | _ i ih =>
    intro hi
    cases hc : listed.getD i true with
    | true => rfl
    | false =>
      exfalso
      have hm : i ∈ Region.ready md ops listed := mem_ready.2 ⟨hc, ops[i], Array.getElem?_eq_getElem hi, fun e he hb => by
        have hlt := hwf i ops[i] (Array.getElem?_eq_getElem hi) e he
        rw [getD_ft (by omega)]; exact ih e.on hlt (by omega)⟩
      rw [hr] at hm
      cases hm
def backB (ops : Array Oper) : Bool := (List.range ops.size).all fun i => match ops[i]? with | some o => o.after.all fun e => decide (e.on < i) | none => true
theorem backB_spec (h : backB ops = true) : ∀ (i : Nat) (o : Oper), ops[i]? = some o → ∀ e ∈ o.after, e.on < i := by
  intro i o ho e he
  have hlt : i < ops.size := (Array.getElem?_eq_some_iff.1 ho).1
  have := List.all_eq_true.1 h i (by simpa using hlt)
  simp only [ho] at this
  exact of_decide_eq_true (Array.all_eq_true'.1 this e he)

theorem wpAny_inv (R : (Nat → Bool) → Act → World → Prop) (hwf : ∀ (i : Nat) (o : Oper), ops[i]? = some o → ∀ e ∈ o.after, e.on < i)
    (hstep : ∀ (d : Nat → Bool) (a : Act) (w : World) (i : Nat) (o : Oper), R d a w → ops[i]? = some o → d i = false → (∀ e ∈ o.after, Region.binds .any e = true → d e.on = true) → wpOp P ops Q i (fun a' w' => ∀ d', d' i = true → (∀ j, j ≠ i → d' j = d j) → R d' a' w') a w)
    (hdone : ∀ (d : Nat → Bool) (a : Act) (w : World), (∀ i, i < ops.size → d i = true) → R d a w → Q .normal a w) :
    ∀ (g : Nat) (listed : Array Bool) (a : Act) (w : World), listed.size = ops.size → ((List.range ops.size).countP fun i => listed.getD i true == false) ≤ g → R (fun i => listed.getD i true) a w → wpAny P .any ops Q g listed a w := by
  intro g
  induction g with
  | zero =>
    intro listed a w hs hg hR
    have hall : ∀ i, i < ops.size → listed.getD i true = true := by
      intro i hi
      cases hc : listed.getD i true with
      | true => rfl
      | false =>
        have := (List.countP_pos_iff (p := fun i => listed.getD i true == false)).2 ⟨i, (by simpa using hi : i ∈ List.range ops.size), (by simp [hc] : (listed.getD i true == false) = true)⟩
        omega
    refine ⟨?_, hdone _ _ _ hall hR⟩
    apply List.eq_nil_iff_forall_not_mem.2
    intro i hi
    obtain ⟨h1, o, ho, _⟩ := mem_ready.1 hi
    rw [hall i (Array.getElem?_eq_some_iff.1 ho).1] at h1
    cases h1
  | succ g ih =>
    intro listed a w hs hg hR
    refine ⟨fun hr => hdone _ _ _ (ready_nil hwf hs hr) hR, fun i hi => ?_⟩
    obtain ⟨h1, o, ho, hall⟩ := mem_ready.1 hi
    have hlt : i < ops.size := (Array.getElem?_eq_some_iff.1 ho).1
    refine wpOp_mono (fun a' w' hK => ih (listed.setIfInBounds i true) a' w' (by simpa using hs) ?_ ?_) (hstep _ a w i o hR ho h1 (fun e he hb => by have := hwf i o ho e he; rw [← getD_ft (by omega)]; exact hall e he hb))
    · have hcnt : ∀ (l : List Nat), l.Nodup → i ∈ l → (l.countP fun j => (listed.setIfInBounds i true).getD j true == false) + 1 ≤ l.countP fun j => listed.getD j true == false := by
        intro l hl hm
        induction l with
        | nil => cases hm
        | cons j l ihl =>
          rw [List.nodup_cons] at hl
          by_cases hji : j = i
          · subst hji
            have he : (l.countP fun k => (listed.setIfInBounds j true).getD k true == false) = l.countP fun k => listed.getD k true == false := by
              apply List.countP_congr
              intro k hk
              have hkj : j ≠ k := fun e => hl.1 (e ▸ hk)
              rw [getD_set_ne true hkj]
            have hself : (listed.setIfInBounds j true).getD j true = true := by
              simp [Array.getD_eq_getD_getElem?, hs, hlt]
            rw [List.countP_cons, List.countP_cons, he, hself, h1]
            simp
          · have hm' : i ∈ l := (List.mem_cons.1 hm).resolve_left (Ne.symm hji)
            have := ihl hl.2 hm'
            rw [List.countP_cons, List.countP_cons, getD_set_ne true (Ne.symm hji)]
            omega
      have := hcnt (List.range ops.size) List.nodup_range (by simpa using hlt)
      omega
    · refine hK _ ?_ fun j hj => ?_
      · simp [Array.getD_eq_getD_getElem?, hs, hlt]
      · exact getD_set_ne true (Ne.symm hj)

theorem wp_region_inv {id : Nat} {a : Act} {w : World} (R : (Nat → Bool) → Act → World → Prop) (hm : P.follows .mixedOrders = true) (hwf : backB ops = true)
    (h0 : ∀ d : Nat → Bool, (∀ i, i < ops.size → d i = false) → R d a w.drew)
    (hstep : ∀ (d : Nat → Bool) (a : Act) (w : World) (i : Nat) (o : Oper), R d a w → ops[i]? = some o → d i = false → (∀ e ∈ o.after, Region.binds .any e = true → d e.on = true) → wpOp P ops Q i (fun a' w' => ∀ d', d' i = true → (∀ j, j ≠ i → d' j = d j) → R d' a' w') a w)
    (hdone : ∀ (d : Nat → Bool) (a : Act) (w : World), (∀ i, i < ops.size → d i = true) → R d a w → Q .normal a w) : (Code.region id ops true).wp P Q a w := by
  refine wp_region_any hm (wpAny_inv R (backB_spec hwf) hstep hdone _ _ _ _ (by simp) ?_ (h0 _ fun i hi => by simp [Array.getD_eq_getD_getElem?, hi]))
  exact Nat.le_trans List.countP_le_length (by simp)
end
end Go.Proofs.Ytjlikbaamefkiaa
