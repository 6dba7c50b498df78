/- A statement that draws its order, inside a round of a range over a function: loads first, a last store set apart; then into the fence. -/
import Derived.Test.YtogndpckiognjaaLib
import Derived.Test.YtogndpckiognjaaProg
import Derived.RangeFuncNested
import Derived.RangeFuncBound
import Derived.RangeFuncCalls
import Derived.RangeFuncLeaves
import Derived.RangeFuncWrites
import Derived.WalkKit
import Derived.OwnWalkIn
import Derived.TacticsInMore
import Derived.LoopNIn
import Derived.LoopIn
import Derived.OrdersHeld
namespace Go.Proofs.Ytogndpckiognjaa
open Go.RowKit
set_option linter.unusedSimpArgs false
set_option linter.unusedVariables false

section
variable {P : Program} {ops : Array Oper} {Q : Exit → Act → World → Prop} {md : Region.Mode} {S : World → Prop} {E : Nat → Bool}

/-- Whatever order is picked; what S says holds behind each operation that is not set apart. -/
def wpAnyB (P : Program) (md : Region.Mode) (ops : Array Oper) (Q : Exit → Act → World → Prop) (S : World → Prop) (E : Nat → Bool) : Nat → Array Bool → Act → World → Prop
  | 0, listed, a, w => Region.ready md ops listed = [] ∧ Q .normal a w
  | g + 1, listed, a, w => (Region.ready md ops listed = [] → Q .normal a w) ∧
      ∀ i ∈ Region.ready md ops listed, wpOp P ops Q i (fun a' w' => (E i = false → S w') ∧ wpAnyB P md ops Q S E g (listed.setIfInBounds i true) a' w') a w
theorem wpAnyB_any : ∀ (g : Nat) (listed : Array Bool) (a : Act) (w : World), wpAnyB P md ops Q S E g listed a w → wpAny P md ops Q g listed a w
  | 0, _, _, _, h => h
  | g + 1, _, _, _, h => ⟨h.1, fun i hi => wpOp_mono (fun a' w' h' => wpAnyB_any g _ a' w' h'.2) (h.2 i hi)⟩

/-- What is set apart waits for i. -/
def waits (md : Region.Mode) (ops : Array Oper) (E : Nat → Bool) (i : Nat) : Prop := ∀ j oj, ops[j]? = some oj → E j = true → ∃ e ∈ oj.after, Region.binds md e = true ∧ e.on = i

theorem wpAnyB_first {i : Nat} {oi : Oper} {v : Value} (hi : ops[i]? = some oi) (hsel : ∀ (j : Nat) (o : Oper) cs b, ops[j]? = some o → o.op ≠ .select cs b) (hE : waits md ops E i) (hEi : E i = false)
    (hQ : ∀ c a w, Q (.panic c) (a.put oi.dst v) w → Q (.panic c) a w) :
    ∀ (g : Nat) (listed : Array Bool) (a : Act) (w : World),
      (∀ j oj, ops[j]? = some oj → j ≠ i → listed.getD j true = false → (∀ e ∈ oj.after, Region.binds md e = true → e.on ≠ i) → oi.apart ops oj = true) →
      i ∈ Region.ready md ops listed → YieldsIf P ops S oi v a → S w →
      wpAnyB P md ops Q S E g (listed.setIfInBounds i true) (a.put oi.dst v) w → wpAnyB P md ops Q S E (g + 1) listed a w
  | g, listed, a, w => by
    intro hfree hr hy hS H
    refine ⟨fun h => (by rw [h] at hr; cases hr), fun j hj => ?_⟩
    by_cases hji : j = i
    · subst hji
      exact hy.wpOp hi hS ⟨fun _ => hS, H⟩
    · have hm := ready_mono hj hji
      cases g with
      | zero => rw [H.1] at hm; cases hm
      | succ g =>
        have h1 := H.2 j hm
        obtain ⟨hjun, oj, hoj, hall⟩ := mem_ready.1 hj
        have hnot : ∀ e ∈ oj.after, Region.binds md e = true → e.on ≠ i := fun e he hb heq => by
          have h1 := hall e he hb
          have h0 := (mem_ready.1 hr).1
          rw [heq] at h1
          rcases Nat.lt_or_ge i listed.size with h' | h'
          · simp [h'] at h0 h1; rw [h0] at h1; cases h1
          · simp [Array.getElem?_eq_none h'] at h1
        have hEj : E j = false := by
          cases hc : E j with
          | false => rfl
          | true => obtain ⟨e, he, hb, ho⟩ := hE j oj hoj hc; exact absurd ho (hnot e he hb)
        have h2 := wpOp_putIf hoj (hfree j oj hoj hji hjun hnot) (fun cs b => hsel i oi cs b hi) (fun cs b => hsel j oj cs b hoj) hQ hy h1
        refine wpOp_mono (fun a' w' h3 => ⟨h3.2.1, wpAnyB_first hi hsel hE hEi hQ g (listed.setIfInBounds j true) a' w' ?_ (ready_mono hr (Ne.symm hji)) h3.1 (h3.2.1 hEj) ?_⟩) h2
        · intro k ok hk hki hun hno
          refine hfree k ok hk hki ?_ hno
          by_cases hjk : j = k
          · subst hjk; exact hjun
          · rw [getD_set_ne true hjk] at hun; exact hun
        · rw [Array.setIfInBounds_comm _ _ hji]
          exact h3.2.2

/-- The check of 'waits', to be reckoned. -/
def waitsB (md : Region.Mode) (ops : Array Oper) (E : Nat → Bool) (i : Nat) : Bool := (List.range ops.size).all fun j => !E j || (match ops[j]? with | some o => o.after.any fun e => Region.binds md e && e.on == i | none => true)
theorem waitsB_spec {i : Nat} (h : waitsB md ops E i = true) : waits md ops E i := by
  intro j oj hj hE
  have hlt : j < ops.size := (Array.getElem?_eq_some_iff.1 hj).1
  have := List.all_eq_true.1 h j (by simpa using hlt)
  simp only [hE, hj, Bool.not_true, Bool.false_or] at this
  obtain ⟨e, he, hb⟩ := Array.any_eq_true'.1 this
  simp only [Bool.and_eq_true, beq_iff_eq] at hb
  exact ⟨e, he, hb.1, hb.2⟩
theorem wpAnyB_take {i : Nat} {oi : Oper} {v : Value} {g : Nat} {listed : Array Bool} {a : Act} {w : World} (hi : ops[i]? = some oi)
    (hs : Region.noSelect ops = true) (hE : waitsB md ops E i = true) (hEi : E i = false) (hf : Region.free md ops listed i = true) (hr : (Region.ready md ops listed).contains i = true)
    (hQ : ∀ c a w, Q (.panic c) (a.put oi.dst v) w → Q (.panic c) a w) (hy : YieldsIf P ops S oi v a) (hS : S w)
    (h : wpAnyB P md ops Q S E g (listed.setIfInBounds i true) (a.put oi.dst v) w) : wpAnyB P md ops Q S E (g + 1) listed a w :=
  wpAnyB_first hi (Region.noSelect_spec hs) (waitsB_spec hE) hEi hQ g listed a w (Region.free_spec hi hf) (by simpa using hr) hy hS h
/-- One alone may come up. -/
theorem wpAnyB_one {i : Nat} {g : Nat} {listed : Array Bool} {a : Act} {w : World} (hr : Region.ready md ops listed = [i])
    (h : wpOp P ops Q i (fun a' w' => (E i = false → S w') ∧ wpAnyB P md ops Q S E g (listed.setIfInBounds i true) a' w') a w) : wpAnyB P md ops Q S E (g + 1) listed a w :=
  ⟨fun h0 => absurd (hr ▸ h0) (by simp), fun j hj => by rw [hr, List.mem_singleton] at hj; subst hj; exact h⟩
theorem wpAnyB_done {listed : Array Bool} {a : Act} {w : World} (hr : Region.ready md ops listed = []) (h : Q .normal a w) : ∀ g, wpAnyB P md ops Q S E g listed a w
  | 0 => ⟨hr, h⟩
  | _ + 1 => ⟨fun _ => h, by rw [hr]; simp⟩
/-- One operation by the laws on lists of them. -/
theorem wpOp_of_list {i : Nat} {o : Oper} {K : Act → World → Prop} {a : Act} {w : World} (ho : ops[i]? = some o) (h : wpList P ops (Exit.then K Q) [o] a w) : wpOp P ops Q i K a w := by
  unfold wpOp
  rw [ho]
  simp only []
  unfold wpList at h
  split
  · rename_i hw
    rw [if_pos hw] at h
    rcases h with h | ⟨h0, a', w', h⟩
    · refine .inl ?_
      unfold Oper.wp at h ⊢
      generalize (execOp a.eval o).run P w = r at h ⊢
      cases r with
      | ok n w' =>
        cases n with
        | enter f args => exact Calls.mono h fun e w'' he => by cases e <;> exact he
        | _ => exact h
      | halt x w' => cases x <;> exact h
    · exact .inr ⟨h0, a', w', h⟩
  · rename_i hw
    rw [if_neg hw] at h
    exact h
theorem toList_get {α : Type} {xs : Array α} {i : Nat} {x : α} (h : xs.toList[i]? = some x) : xs[i]? = some x := by rw [← Array.getElem?_toList]; exact h
theorem wpAnyB_take' {i : Nat} {oi : Oper} {v : Value} {g : Nat} {listed : Array Bool} {a : Act} {w : World} (hi : ops.toList[i]? = some oi)
    (hs : Region.noSelect ops = true) (hE : waitsB md ops E i = true) (hEi : E i = false) (hf : Region.free md ops listed i = true) (hr : (Region.ready md ops listed).contains i = true)
    (hQ : ∀ c a w, Q (.panic c) (a.put oi.dst v) w → Q (.panic c) a w) (hw : Region.wanted oi (yielded ops a.tmps) = true) (hS : S w) (hv : ∀ w, S w → (execOp a.eval oi).run P w = .ok (.value v) w)
    (h : wpAnyB P md ops Q S E g (listed.setIfInBounds i true) (a.put oi.dst v) w) : wpAnyB P md ops Q S E (g + 1) listed a w :=
  wpAnyB_take (toList_get hi) hs hE hEi hf hr hQ (.inl ⟨hw, hv⟩) hS h
theorem wpAnyB_one' {i : Nat} {o : Oper} {g : Nat} {listed : Array Bool} {a : Act} {w : World} (hi : ops.toList[i]? = some o) (hr : Region.ready md ops listed = [i])
    (h : wpList P ops (Exit.then (fun a' w' => (E i = false → S w') ∧ wpAnyB P md ops Q S E g (listed.setIfInBounds i true) a' w') Q) [o] a w) : wpAnyB P md ops Q S E (g + 1) listed a w :=
  wpAnyB_one hr (wpOp_of_list (toList_get hi) h)
theorem gen_act {c : Code} {a : Act} {w : World} (h : ∀ a0, a0 = a → c.wp P Q a0 w) : c.wp P Q a w := h a rfl

/-- What neither calls a function of the program nor defers. -/
def calm (o : Oper) : Bool :=
  match o.op with
  | .move _ | .assign _ | .build .. | .buildSlice .. | .load .. | .store .. | .fieldAddr .. | .indexAddr .. | .binOp .. | .unOp .. | .slice .. | .makeSlice .. | .alloc _ | .box .. | .nilCheck _ => true
  | .call c => match c.callee with | .builtin .append => c.args.size == 2 | _ => false
  | _ => false

def Plain : Result Next → Prop
  | .ok (.value _) _ => True
  | .ok .skip _ => True
  | .halt _ _ => True
  | _ => False
theorem plain_v (s : Sem Value) (w : World) : Plain ((do pure (.value (← s)) : Sem Next).run P w) := by
  rw [Sem.run_bind]
  cases s.run P w with
  | ok v w' => exact trivial
  | halt x w' => exact trivial
theorem plain_u (s : Sem Unit) (w : World) : Plain ((do s; pure .skip : Sem Next).run P w) := by
  rw [Sem.run_bind]
  cases s.run P w with
  | ok v w' => exact trivial
  | halt x w' => exact trivial
theorem calm_plain {o : Oper} (h : calm o = true) (hn : ∀ x, o.op ≠ .nilCheck x) (ρ : Operand → Value) (w : World) : Plain ((execOp ρ o).run P w) := by
  unfold calm at h
  unfold execOp
  split at h <;> rename_i he <;> simp only [he] at * <;> first
    | exact plain_v _ _
    | exact plain_u _ _
    | exact trivial
    | skip
  · exact absurd rfl (hn _)
  · split at h
    · rename_i hc
      simp only [resolve, hc, Sem.run_bind, Sem.run_pure, Result.andThen]
      exact plain_v (Builtin.append_ _ _ _) _
    · cases h
  · cases h
theorem calm_about {o : Oper} (h : calm o = true) (ρ : Operand → Value) (w : World) : o.about P w ρ = none := by
  unfold Oper.about
  split
  · rename_i c he
    unfold calm at h
    simp only [he] at h
    split at h
    · rename_i hc
      simp only [resolve, hc, Sem.run_pure]
      rfl
    · cases h
  · rfl
theorem calm_defer {o : Oper} (h : calm o = true) : ∀ c, o.op ≠ .defer c := by
  intro c hc
  unfold calm at h
  simp [hc] at h
/-- An operation that is calm is in a fence what it is outside. -/
theorem wpOp_in {F : Fence} {n i : Nat} {K : Act → World → Prop} {a : Act} {w : World} (hc : ∀ o, ops[i]? = some o → calm o = true ∧ ∀ x, o.op ≠ .nilCheck x) (hout : ∀ a w, ¬ Q .outgrown a w) (h : wpOp P ops Q i K a w) : wpOpIn F n P ops Q i K a w := by
  unfold wpOp at h
  unfold wpOpIn
  cases ho : ops[i]? with
  | none => rw [ho] at h; exact h
  | some o =>
    rw [ho] at h
    simp only [] at h ⊢
    obtain ⟨h1, h2⟩ := hc o ho
    split
    · rename_i hw
      rw [if_pos hw] at h
      rcases h with h | ⟨_, a', w', h⟩
      · refine ⟨fun f hf => ?_, ?_⟩
        · rw [calm_about h1] at hf; cases hf
        · rw [Oper.semAt_plain F _ _ (calm_defer h1)]
          unfold Oper.wp at h
          have hp := calm_plain (P := P) h1 h2 a.eval w
          generalize (execOp a.eval o).run P w = r at h hp ⊢
          cases r with
          | ok m w' => cases m <;> first | exact h | exact hp.elim
          | halt x w' => cases x <;> exact h
      · exact absurd h (hout a' w')
    · rename_i hw
      rw [if_neg hw] at h
      exact ⟨fun f hf => (by rw [calm_about h1] at hf; cases hf), h⟩
theorem wpAny_in {F : Fence} {n : Nat} (hc : ∀ (i : Nat) (o : Oper), ops[i]? = some o → calm o = true ∧ ∀ x, o.op ≠ .nilCheck x) (hout : ∀ a w, ¬ Q .outgrown a w) : ∀ (g : Nat) (listed : Array Bool) (a : Act) (w : World), wpAny P md ops Q g listed a w → wpAnyIn F n P md ops Q g listed a w
  | 0, _, _, _, h => h
  | g + 1, _, _, _, h => ⟨h.1, fun i hi => wpOpIn_mono (fun a' w' h' => wpAny_in hc hout g _ a' w' h') (wpOp_in (hc i) hout (h.2 i hi))⟩
def calmAll (ops : Array Oper) : Bool := ops.toList.all fun o => calm o && (match o.op with | .nilCheck _ => false | _ => true)
theorem calmAll_spec (h : calmAll ops = true) : ∀ (i : Nat) (o : Oper), ops[i]? = some o → calm o = true ∧ ∀ x, o.op ≠ .nilCheck x := by
  intro i o ho
  have hm : o ∈ ops.toList := by
    rw [← Array.getElem?_toList] at ho
    exact List.mem_of_getElem? ho
  have := List.all_eq_true.1 h o hm
  simp only [Bool.and_eq_true] at this
  refine ⟨this.1, fun x hx => ?_⟩
  have h2 := this.2
  rw [hx] at h2
  cases h2
/-- **A statement that draws its order, in a fence (a round's too)**: by the walk of all orders outside. -/
theorem wpIn_region_B {F : Fence} {n id : Nat} {a : Act} {w : World} (E : Nat → Bool) (S : World → Prop) (hm : P.follows .mixedOrders = true) (hc : calmAll ops = true) (hout : ∀ a w, ¬ Q .outgrown a w)
    (h : wpAnyB P .any ops Q S E ops.size (Array.replicate ops.size false) a w.drew) : (Code.region id ops true).wpIn F n P Q a w :=
  wpIn_region_any hm (wpAny_in (calmAll_spec hc) hout _ _ _ _ (wpAnyB_any _ _ _ _ h))
end
end Go.Proofs.Ytogndpckiognjaa
