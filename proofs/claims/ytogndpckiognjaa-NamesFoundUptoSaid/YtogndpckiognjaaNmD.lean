/- A drawn statement in which a call and a new block may come one ahead of the other. -/
import Derived.Test.YtogndpckiognjaaNmC2
import Derived.Deep.CutBlock
import Derived.Deep.LoopGhost
namespace Go.Proofs.Ytogndpckiognjaa
open Go.RowKit
set_option linter.unusedSimpArgs false
set_option linter.unusedVariables false
section
variable {P : Program} {ops : Array Oper} {Q : Exit → Act → World → Prop} {md : Region.Mode} {S : World → Prop} {E : Nat → Bool}
theorem wpAnyB_two {i j : Nat} {g : Nat} {listed : Array Bool} {a : Act} {w : World} (hr : Region.ready md ops listed = [i, j])
    (h1 : wpOp P ops Q i (fun a' w' => (E i = false → S w') ∧ wpAnyB P md ops Q S E g (listed.setIfInBounds i true) a' w') a w)
    (h2 : wpOp P ops Q j (fun a' w' => (E j = false → S w') ∧ wpAnyB P md ops Q S E g (listed.setIfInBounds j true) a' w') a w) : wpAnyB P md ops Q S E (g + 1) listed a w := by
  refine ⟨fun h0 => absurd (hr ▸ h0) (by simp), fun k hk => ?_⟩
  rw [hr] at hk
  rcases List.mem_cons.1 hk with h | h
  · subst h; exact h1
  · rw [List.mem_singleton] at h; subst h; exact h2
theorem wpOp_call {i : Nat} {oi : Oper} {f : FuncId} {args : Array Value} {R : Ending → World → Prop} {K : Act → World → Prop} {a : Act} {w : World} (hi : ops.toList[i]? = some oi)
    (hw : Region.wanted oi (yielded ops a.tmps) = true) (hrun : (execOp a.eval oi).run P w = .ok (.enter f args) w) (hc : Calls P f args w R)
    (h : ∀ e w', R e w' → ∃ v, e = .returned v ∧ K (a.put oi.dst v) w') : wpOp P ops Q i K a w := by
  unfold wpOp
  rw [toList_get hi]
  simp only []
  rw [if_pos hw]
  refine .inl ?_
  unfold Oper.wp
  rw [hrun]
  refine Calls.mono hc fun e w' hR => ?_
  obtain ⟨v, rfl, h1⟩ := h e w' hR
  exact h1
theorem wpOp_do {i : Nat} {oi : Oper} {v : Value} {w1 : World} {K : Act → World → Prop} {a : Act} {w : World} (hi : ops.toList[i]? = some oi)
    (hw : Region.wanted oi (yielded ops a.tmps) = true) (hrun : (execOp a.eval oi).run P w = .ok (.value v) w1) (h : K (a.put oi.dst v) w1) : wpOp P ops Q i K a w := by
  unfold wpOp
  rw [toList_get hi]
  simp only []
  rw [if_pos hw]
  refine .inl ?_
  unfold Oper.wp
  rw [hrun]
  exact h
theorem run_exec_alloc {w : World} {ev : Operand → Value} {oi : Oper} {t : TypeId} {z : Value} (ho : oi.op = .alloc t) (ht : (P.info? t).map (·.zero) = some (some z)) : (execOp ev oi).run P w = .ok (.value (.pointer (some ⟨w.heap.size, 0, none⟩))) (w.alloc (.cells z.cells t)) := by
  cases hI : P.info? t with
  | none => rw [hI] at ht; cases ht
  | some I =>
    rw [hI] at ht
    have hz : I.zero = some z := by simpa using ht
    unfold execOp
    simp only [ho]
    simp [Instr.alloc, zeroValue, typeInfo, hI, hz, newVar, newRow]
end
end Go.Proofs.Ytogndpckiognjaa
