/- The kit's lent things: in memory of their own, with a mark behind each list. -/
import Derived.Test.YtjlikbaamefkiaaKit
namespace Go.Proofs.Ytjlikbaamefkiaa
open Go.RowKit
set_option linter.unusedVariables false
set_option linter.unusedSimpArgs false
set_option maxHeartbeats 400000
theorem lentLabels_calls (A : Option Addr) (c : Nat) (xs : List (Int)) (w : World) (hx : Rd Enc.u64 w A xs) (hl : xs.length ≤ 17592186043904) :
    Calls Try.prog 19 #[.slice A xs.length c] w fun e w' => ∃ A' c', e = .returned (.slice A' xs.length c') ∧ xs.length + 1 ≤ c' ∧ Mem w w' [row 23 Enc.u64.sz A' (xs.length + 1) c' (Enc.u64.all xs ++ [U 7171])] := by
  have HX := hid hx
  clear hx
  have H0 := (Mem.refl w).nilrow 23 Enc.u64.sz
  go_enter Try.func19, Try.ntmps19
  go_wp2_with (first
    | ((with_reducible refine at_append ?_); refine wpList_append_row rfl _ _ rfl elt_lab H0 0 rfl rfl rfl HX.out (by unfold maxLen; omega) (by omega) ?_; intro AH1 cH1 wH1 H1; simp only [splice, vcells_int, vcells_bool, vcells_string, vcells_pointer, vcells_slice, vcells_map, vcells_func, vcells_nilFunc, vcells_iface, vcells_nilIface, vcells_agg, List.take_zero, List.take_succ_cons, List.drop_zero, List.drop_succ_cons, List.length_cons, List.length_nil, List.nil_append, List.cons_append, List.append_nil, Nat.zero_add, List.set_cons_zero, List.set_cons_succ] at H1)
    | ((with_reducible refine at_build1 ?_); refine wpList_build1 elt_lab H1 rfl rfl (by decide) ?_; intro u_ gH2 wH2 hu_ H2; simp only [Act.eval, Act.put, List.setIfInBounds_toArray, List.set_cons_zero, List.set_cons_succ, Array.getD_eq_getD_getElem?, List.getElem?_toArray, List.getElem?_cons_zero, List.getElem?_cons_succ, Option.getD_some] at hu_; subst hu_; simp only [splice, vcells_int, vcells_bool, vcells_string, vcells_pointer, vcells_slice, vcells_map, vcells_func, vcells_nilFunc, vcells_iface, vcells_nilIface, vcells_agg, List.take_zero, List.take_succ_cons, List.drop_zero, List.drop_succ_cons, List.length_cons, List.length_nil, List.nil_append, List.cons_append, List.append_nil, Nat.zero_add, List.set_cons_zero, List.set_cons_succ] at H2)
    | ((with_reducible refine at_append ?_); refine wpList_append_row rfl _ _ rfl elt_lab H2 1 rfl rfl rfl (H2.rd 0 rfl elt_lab.pos).1 (by unfold maxLen; omega) (by omega) ?_; intro A3 c3 w3 H3; simp only [List.set_cons_succ, List.set_cons_zero, Nat.zero_add] at H3; replace H3 := H3.drop 0; obtain ⟨-, h3, h4⟩ := H3.rd 0 rfl elt_lab.pos; have h5 : xs.length ≤ c3 := (by omega); unfold maxLen at h4))

  go_ret
  exact ⟨A3, c3, by simp, by omega, H3⟩


theorem keptLabels_calls (A B : Option Addr) (c d : Nat) (xs ys : List Int) (w : World) (hx : RdC w A (xs.length + 1) Enc.u64.sz (Enc.u64.all xs ++ [U 7171])) (hc : xs.length + 1 ≤ c) (hy : Rd Enc.u64 w B ys) (hl : xs.length ≤ 17592186043904) (hm : ys.length ≤ 17592186043904) :
    Calls Try.prog 32 #[.slice A xs.length c, .slice B ys.length d] w fun e w' => e = .returned (.bool (decide (xs = ys))) ∧ Mem w w' [] := by
  obtain ⟨b, o, rfl, hk⟩ := hx.mark
  have hk0 := hk 0 _ rfl
  simp only [Enc.u64, Nat.mul_one, Nat.add_zero] at hk0
  have HX := hid (Rd.of_marked hx)
  have HY := hid hy
  clear hx hy hk
  by_cases he : xs = ys
  · have hd : decide (xs = ys) = true := by simp [he]
    have HD := hid hd
    clear hd
    have HE := hid he
    clear he
    go_enter Try.func32, Try.ntmps32
    go_wp2_with (go_at_call 38; (with_reducible refine (labels_calls _ _ c d xs ys w HX.out HY.out hl hm).mono ?_); rw [HD.out]; rintro e w1 ⟨rfl, H1⟩; have hk1 := H1.old hk0)
    go_ret
    rw [HD.out]
    exact ⟨by simp, H1⟩
  · have hd : decide (xs = ys) = false := by simp [he]
    have HD := hid hd
    clear hd
    have HE := hid he
    clear he
    go_enter Try.func32, Try.ntmps32
    go_wp2_with (go_at_call 38; (with_reducible refine (labels_calls _ _ c d xs ys w HX.out HY.out hl hm).mono ?_); rw [HD.out]; rintro e w1 ⟨rfl, H1⟩)
    go_ret
    rw [HD.out]
    exact ⟨by simp, H1⟩
end Go.Proofs.Ytjlikbaamefkiaa
