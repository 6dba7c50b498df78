/- The chain of the nearest ones: plain, no program. -/
import Derived.Test.YtjlikbaamefkiaaPass
import Derived.Test.YtjlikbaamefkiaaAll15
namespace Go.Proofs.Ytjlikbaamefkiaa
section
variable {nx : Nat → List Nat} {n : Nat}
theorem Dom.le {q p : Nat} (h : Dom nx n q p) : q ≤ n := by
  by_cases hq : q ≤ n
  · exact hq
  · exfalso
    refine h.2 ?_
    have h1 := h.1
    clear h
    generalize hm : (-1 : Int) = m at h1
    induction h1 with
    | base h => exact .base (by omega)
    | step h1 h2 h3 _ ih => exact .step h1 (by omega) h3 ih
open Classical in
theorem domB_iff {q p : Nat} : domB nx n q p = true ↔ Dom nx n q p := by
  unfold domB Dom
  exact decide_eq_true_iff
theorem domB_off {q p : Nat} (h : ¬ Av nx n (-1) p) : domB nx n q p = false := by
  cases hc : domB nx n q p with
  | false => rfl
  | true => exact absurd (domB_iff.1 hc).1 h
theorem NearP.step {p m : Nat} (h : NearP nx n p m) (q : Nat) : Dom nx n q p ↔ q = p ∨ Dom nx n q m := by
  constructor
  · intro hd
    by_cases e : q = p
    · exact .inl e
    · exact .inr (h.2.2.2 q hd.le e hd)
  · rintro (rfl | hd)
    · exact Dom.refl h.2.2.1.1
    · exact hd.trans h.2.2.1
theorem NearP.not {p m : Nat} (h : NearP nx n p m) : ¬ Dom nx n p m := fun hd => h.2.1 (h.2.2.1.antisymm hd)
theorem NearP.reach {p m : Nat} (h : NearP nx n p m) : Av nx n (-1) m := (h.2.2.2 n (Nat.le_refl _) (fun e => by subst e; exact h.2.1 h.2.2.1.top) ⟨h.2.2.1.1, fun hc => by
  have : ∀ x, Av nx n n x → False := fun x hx => by
    generalize hm : (n : Int) = m at hx
    induction hx with
    | base h => exact h hm
    | step _ _ _ _ ih => exact ih
  exact this _ hc⟩).1
/-- How many post-dominate a node. -/
noncomputable def cnt (nx : Nat → List Nat) (n p : Nat) : Nat := ((List.range (n + 1)).filter fun q => domB nx n q p).length
theorem filter_lt {α : Type} {l : List α} {f g : α → Bool} {x : α} (h : ∀ y, f y = true → g y = true) (hx : x ∈ l) (hg : g x = true) (hf : f x = false) : (l.filter f).length < (l.filter g).length := by
  have hle : ∀ l : List α, (l.filter f).length ≤ (l.filter g).length := by
    intro l
    induction l with
    | nil => simp
    | cons y l ih =>
      rw [List.filter_cons, List.filter_cons]
      by_cases h1 : f y = true
      · rw [if_pos h1, if_pos (h y h1)]; simp; exact ih
      · rw [if_neg h1]
        split
        · simp; omega
        · exact ih
  induction l with
  | nil => cases hx
  | cons y l ih =>
    rw [List.filter_cons, List.filter_cons]
    rcases List.mem_cons.1 hx with rfl | hx
    · rw [if_neg (by simp [hf]), if_pos hg]
      have := hle l
      simp
      omega
    · have := ih hx
      by_cases h1 : f y = true
      · rw [if_pos h1, if_pos (h y h1)]; simp; exact this
      · rw [if_neg h1]
        split
        · simp; omega
        · exact this
theorem NearP.cnt {p m : Nat} (h : NearP nx n p m) : cnt nx n m < cnt nx n p := by
  refine filter_lt (x := p) (fun q hq => domB_iff.2 ((h.step q).2 (.inr (domB_iff.1 hq)))) (by simp; exact Nat.lt_succ_of_le h.2.2.1.1.le) (domB_iff.2 (Dom.refl h.2.2.1.1)) ?_
  cases hc : domB nx n p m with
  | false => rfl
  | true => exact absurd (domB_iff.1 hc) h.not
def obI (o : Option Nat) : Int := match o with | none => -1 | some c => c
/-- The next of the chain. -/
theorem chain_next (hA : NearAll nx n) {x : Nat} (hx : Av nx n (-1) x) : (x = n ∧ nearI nx n x = -1) ∨ (x ≠ n ∧ ∃ m, NearP nx n x m ∧ nearI nx n x = (m : Int)) := by
  by_cases e : x = n
  · subst e; exact .inl ⟨rfl, nearI_none near_top⟩
  · obtain ⟨m, hm⟩ := hA x hx e
    exact .inr ⟨e, m, hm, nearI_of hm⟩
theorem near_off' {x : Nat} (hx : ¬ Av nx n (-1) x) : nearI nx n x = -1 := nearI_none (near_off hx)
end
section
variable {nx : Nat → List Nat} {n p : Nat}
noncomputable def yet (nx : Nat → List Nat) (n : Nat) (o : Option Nat) (q : Nat) : Bool := match o with | none => true | some x => !domB nx n q x
/-- The row that is made of a chain: what post-dominates p, but not what is yet to come. -/
structure ChainI (nx : Nat → List Nat) (n p : Nat) (o : Option Nat) (row : List Bool) : Prop where
  len : row.length = n + 1
  cur : ∀ x, o = some x → Dom nx n x p
  row : ∀ q, q ≤ n → row[q]? = some (domB nx n q p && yet nx n o q)
theorem ChainI.start (h : Av nx n (-1) p) : ChainI nx n p (some p) (List.replicate (n + 1) false) := by
  refine ⟨by simp, fun x hx => ?_, fun q hq => ?_⟩
  · obtain rfl := Option.some.inj hx; exact Dom.refl h
  · rw [List.getElem?_replicate, if_pos (by omega)]
    simp [yet]
theorem ChainI.next {x : Nat} {row : List Bool} (h : ChainI nx n p (some x) row) {o : Option Nat} (ho : (x = n ∧ o = none) ∨ (x ≠ n ∧ ∃ m, NearP nx n x m ∧ o = some m)) : ChainI nx n p o (row.set x true) := by
  have hd := h.cur x rfl
  refine ⟨by rw [List.length_set]; exact h.len, fun y hy => ?_, fun q hq => ?_⟩
  · rcases ho with ⟨-, rfl⟩ | ⟨-, m, hm, rfl⟩
    · cases hy
    · obtain rfl := Option.some.inj hy
      exact hm.2.2.1.trans hd
  · by_cases e : x = q
    · subst e
      rw [List.getElem?_set_self (by rw [h.len]; omega), domB_iff.2 hd]
      rcases ho with ⟨-, rfl⟩ | ⟨-, m, hm, rfl⟩
      · rfl
      · cases hc : domB nx n x m with
        | false => simp [yet, hc]
        | true => exact absurd (domB_iff.1 hc) hm.not
    · rw [List.getElem?_set_ne e, h.row q hq]
      congr 1
      unfold yet
      rcases ho with ⟨rfl, rfl⟩ | ⟨-, m, hm, rfl⟩
      · cases hc : domB nx x q x with
        | false => simp [hc]
        | true => exact absurd (domB_iff.1 hc).top (Ne.symm e)
      · have := hm.step q
        cases hc : domB nx n q x with
        | false =>
          cases hc2 : domB nx n q m with
          | false => simp [hc, hc2]
          | true => rw [domB_iff.2 (this.2 (.inr (domB_iff.1 hc2)))] at hc; cases hc
        | true =>
          cases hc2 : domB nx n q m with
          | true => simp [hc, hc2]
          | false =>
            rcases this.1 (domB_iff.1 hc) with h1 | h1
            · exact absurd h1.symm e
            · rw [domB_iff.2 h1] at hc2; cases hc2
theorem ChainI.done {row : List Bool} (h : ChainI nx n p none row) : row = domRow nx n p := by
  apply List.ext_getElem?
  intro q
  unfold domRow
  by_cases hq : q ≤ n
  · rw [h.row q hq, List.getElem?_map, List.getElem?_range (by omega)]
    simp [yet]
  · rw [List.getElem?_eq_none (by rw [h.len]; omega), List.getElem?_eq_none (by simp; omega)]
theorem domRow_off (h : ¬ Av nx n (-1) p) : domRow nx n p = List.replicate (n + 1) false := by
  apply List.ext_getElem?
  intro q
  unfold domRow
  by_cases hq : q ≤ n
  · rw [List.getElem?_map, List.getElem?_range (by omega), List.getElem?_replicate, if_pos (by omega)]
    simp [domB_off h]
  · rw [List.getElem?_eq_none (by simp; omega), List.getElem?_eq_none (by simp; omega)]
end
end Go.Proofs.Ytjlikbaamefkiaa
