/- A drawn statement, taken in an order of our own: loads whenever they may come, what is not wanted skipped, a call when it stands alone. -/
import Derived.Test.YtogndpckiognjaaRound
namespace Go.Proofs.Ytogndpckiognjaa
open Go.RowKit
set_option linter.unusedSimpArgs false
set_option linter.unusedVariables false
section
variable {P : Program} {ops : Array Oper} {Q : Exit → Act → World → Prop} {md : Region.Mode} {S : World → Prop} {E : Nat → Bool}
theorem wp_region_B {id : Nat} {a : Act} {w : World} (E : Nat → Bool) (S : World → Prop) (hm : P.follows .mixedOrders = true)
    (h : wpAnyB P .any ops Q S E ops.size (Array.replicate ops.size false) a w.drew) : (Code.region id ops true).wp P Q a w :=
  wp_region_any hm (wpAnyB_any _ _ _ _ h)
theorem wpAnyB_skip' {i : Nat} {oi : Oper} {g : Nat} {listed : Array Bool} {a : Act} {w : World} (hi : ops.toList[i]? = some oi)
    (hs : Region.noSelect ops = true) (hE : waitsB md ops E i = true) (hEi : E i = false) (hf : Region.free md ops listed i = true) (hr : (Region.ready md ops listed).contains i = true)
    (hQ : ∀ c a w, Q (.panic c) (a.put oi.dst undef) w → Q (.panic c) a w) (hw : Region.wanted oi (yielded ops a.tmps) = false) (hS : S w)
    (h : wpAnyB P md ops Q S E g (listed.setIfInBounds i true) (a.put oi.dst undef) w) : wpAnyB P md ops Q S E (g + 1) listed a w :=
  wpAnyB_take (toList_get hi) hs hE hEi hf hr hQ (.inr ⟨hw, rfl⟩) hS h
theorem wpAnyB_call {i : Nat} {oi : Oper} {f : FuncId} {args : Array Value} {R : Ending → World → Prop} {g : Nat} {listed : Array Bool} {a : Act} {w : World} (hi : ops.toList[i]? = some oi) (hr : Region.ready md ops listed = [i])
    (hw : Region.wanted oi (yielded ops a.tmps) = true) (hrun : (execOp a.eval oi).run P w = .ok (.enter f args) w) (hc : Calls P f args w R)
    (h : ∀ e w', R e w' → ∃ v, e = .returned v ∧ (E i = false → S w') ∧ wpAnyB P md ops Q S E g (listed.setIfInBounds i true) (a.put oi.dst v) w') : wpAnyB P md ops Q S E (g + 1) listed a w := by
  refine wpAnyB_one hr ?_
  unfold wpOp
  rw [toList_get hi]
  simp only []
  rw [if_pos hw]
  refine .inl ?_
  unfold Oper.wp
  rw [hrun]
  refine Calls.mono hc fun e w' hR => ?_
  obtain ⟨v, rfl, h1, h2⟩ := h e w' hR
  exact ⟨h1, h2⟩
/-- An operation that stands alone, run to its end. -/
theorem wpAnyB_do {i : Nat} {oi : Oper} {v : Value} {w1 : World} {g : Nat} {listed : Array Bool} {a : Act} {w : World} (hi : ops.toList[i]? = some oi) (hr : Region.ready md ops listed = [i])
    (hw : Region.wanted oi (yielded ops a.tmps) = true) (hrun : (execOp a.eval oi).run P w = .ok (.value v) w1)
    (h : (E i = false → S w1) ∧ wpAnyB P md ops Q S E g (listed.setIfInBounds i true) (a.put oi.dst v) w1) : wpAnyB P md ops Q S E (g + 1) listed a w := by
  refine wpAnyB_one hr ?_
  unfold wpOp
  rw [toList_get hi]
  simp only []
  rw [if_pos hw]
  refine .inl ?_
  unfold Oper.wp
  rw [hrun]
  exact h
end
end Go.Proofs.Ytogndpckiognjaa
