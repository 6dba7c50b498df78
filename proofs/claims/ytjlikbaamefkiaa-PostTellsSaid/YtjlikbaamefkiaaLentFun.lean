/- The kit's lent function: its three lists in memory of their own, each with a mark behind it; is it kept? -/
import Derived.Test.YtjlikbaamefkiaaNearR
namespace Go.Proofs.Ytjlikbaamefkiaa
open Go.RowKit
set_option linter.unusedVariables false
set_option linter.unusedSimpArgs false
set_option maxHeartbeats 2000000

/-- The three lists of a lent function, with the marks. -/
abbrev lentP (f : Fun) (h : FunH) : List HP := [row 63 Enc.ins.sz h.A5 (f.code.length + 1) h.c5 (Enc.ins.all f.code ++ [I (-71), I 0]), row 23 Enc.u64.sz h.A2 (f.results.length + 1) h.c2 (Enc.u64.all f.results ++ [U 7171]), row 23 Enc.u64.sz h.A1 (f.params.length + 1) h.c1 (Enc.u64.all f.params ++ [U 7171])]
def LentRes (f : Fun) (w : World) (e : Ending) (w' : World) : Prop := ∃ h : FunH, e = .returned (f.val h) ∧ f.params.length + 1 ≤ h.c1 ∧ f.results.length + 1 ≤ h.c2 ∧ f.code.length + 1 ≤ h.c5 ∧ Mem w w' (lentP f h)

set_option maxRecDepth 100000 in
theorem lentFunction_calls (f : Fun) (h : FunH) (w : World) (hR : f.Rd w h) : Calls Try.prog 5 #[f.val h] w (LentRes f w) := by
  have HR := hid hR
  clear hR
  obtain ⟨lv, ps, rs, lo, st, code⟩ := f
  obtain ⟨A1, c1, A2, c2, A5, c5⟩ := h
  have H0 := Mem.refl w
  simp only [Fun.val] at *
  go_enter Try.func5, Try.ntmps5
  go_wp2_with (first
    | ((with_reducible refine at_box ?_); refine wpList_box_box H0 ?_; intro u_ gH1 wH1 hu_ H1; simp only [Act.eval, Act.put, List.setIfInBounds_toArray, List.set_cons_zero, List.set_cons_succ, Array.getD_eq_getD_getElem?, List.getElem?_toArray, List.getElem?_cons_zero, List.getElem?_cons_succ, Option.getD_some] at hu_; subst hu_; simp only [splice, vcells_int, vcells_bool, vcells_string, vcells_pointer, vcells_slice, vcells_map, vcells_func, vcells_nilFunc, vcells_iface, vcells_nilIface, vcells_agg, List.take_zero, List.take_succ_cons, List.drop_zero, List.drop_succ_cons, List.length_cons, List.length_nil, List.nil_append, List.cons_append, List.append_nil, Nat.zero_add, List.set_cons_zero, List.set_cons_succ] at H1; (try clear b0); have b0 := H1.cells 0 rfl; simp only [cellsAre, and_true, Nat.zero_add] at b0)
    | ((with_reducible refine at_alloc ?_); refine wpList_alloc_box H1 (.agg #[.int .u64 0, .slice none 0 0, .slice none 0 0, .int .i64 0, .int .i64 0, .slice none 0 0]) (by kernel_rfl) ?_; intro gH2 wH2 H2; simp only [splice, vcells_int, vcells_bool, vcells_string, vcells_pointer, vcells_slice, vcells_map, vcells_func, vcells_nilFunc, vcells_iface, vcells_nilIface, vcells_agg, List.take_zero, List.take_succ_cons, List.drop_zero, List.drop_succ_cons, List.length_cons, List.length_nil, List.nil_append, List.cons_append, List.append_nil, Nat.zero_add, List.set_cons_zero, List.set_cons_succ] at H2; (try clear b0); have b0 := H2.cells 1 rfl; simp only [cellsAre, and_true, Nat.zero_add] at b0)
    | ((go_at_call 19; (with_reducible refine (lentLabels_calls A1 c1 ps _ (Rd.below HR.out.params H2.below) HR.out.b1).mono ?_); rintro e w3 ⟨A3, c3, rfl, h3, H3'⟩; have H3 := H2.call H3'; simp only [List.cons_append, List.nil_append] at H3; (try clear b0)); (try clear b0); have b0 := H3.cells 2 rfl; simp only [cellsAre, and_true, Nat.zero_add] at b0)
    | ((with_reducible refine at_store ?_); refine wpList_store_box H3 2 1 rfl rfl (by kernel_rfl) rfl (Nat.le_of_ble_eq_true rfl) rfl ?_; intro u_ wH4 hu_ H4; simp only [Act.eval, Act.put, List.setIfInBounds_toArray, List.set_cons_zero, List.set_cons_succ, Array.getD_eq_getD_getElem?, List.getElem?_toArray, List.getElem?_cons_zero, List.getElem?_cons_succ, Option.getD_some] at hu_; subst hu_; simp only [splice, vcells_int, vcells_bool, vcells_string, vcells_pointer, vcells_slice, vcells_map, vcells_func, vcells_nilFunc, vcells_iface, vcells_nilIface, vcells_agg, List.take_zero, List.take_succ_cons, List.drop_zero, List.drop_succ_cons, List.length_cons, List.length_nil, List.nil_append, List.cons_append, List.append_nil, Nat.zero_add, List.set_cons_zero, List.set_cons_succ] at H4; (try clear b0); have b0 := H4.cells 2 rfl; simp only [cellsAre, and_true, Nat.zero_add] at b0)
    | ((go_at_call 19; (with_reducible refine (lentLabels_calls A2 c2 rs _ (Rd.below HR.out.results H4.below) HR.out.b2).mono ?_); rintro e w5 ⟨A6, c6, rfl, h6, H5'⟩; have H5 := H4.call H5'; simp only [List.cons_append, List.nil_append] at H5; (try clear b0)); (try clear b0); have b0 := H5.cells 3 rfl; simp only [cellsAre, and_true, Nat.zero_add] at b0)
    | ((with_reducible refine at_store ?_); refine wpList_store_box H5 3 1 rfl rfl (by kernel_rfl) rfl (Nat.le_of_ble_eq_true rfl) rfl ?_; intro u_ wH6 hu_ H6; simp only [Act.eval, Act.put, List.setIfInBounds_toArray, List.set_cons_zero, List.set_cons_succ, Array.getD_eq_getD_getElem?, List.getElem?_toArray, List.getElem?_cons_zero, List.getElem?_cons_succ, Option.getD_some] at hu_; subst hu_; simp only [splice, vcells_int, vcells_bool, vcells_string, vcells_pointer, vcells_slice, vcells_map, vcells_func, vcells_nilFunc, vcells_iface, vcells_nilIface, vcells_agg, List.take_zero, List.take_succ_cons, List.drop_zero, List.drop_succ_cons, List.length_cons, List.length_nil, List.nil_append, List.cons_append, List.append_nil, Nat.zero_add, List.set_cons_zero, List.set_cons_succ] at H6; (try clear b0); have b0 := H6.cells 3 rfl; simp only [cellsAre, and_true, Nat.zero_add] at b0)
    | ((go_at_call 20; (with_reducible refine (lentCode_calls A5 c5 code _ (Rd.below HR.out.code H6.below) HR.out.b5).mono ?_); rintro e w7 ⟨A8, c8, rfl, h8, H7'⟩; have H7 := H6.call H7'; simp only [List.cons_append, List.nil_append] at H7; (try clear b0)); (try clear b0); have b0 := H7.cells 4 rfl; simp only [cellsAre, and_true, Nat.zero_add] at b0)
    | ((with_reducible refine at_store ?_); refine wpList_store_box H7 4 1 rfl rfl (by kernel_rfl) rfl (Nat.le_of_ble_eq_true rfl) rfl ?_; intro u_ wH8 hu_ H8; simp only [Act.eval, Act.put, List.setIfInBounds_toArray, List.set_cons_zero, List.set_cons_succ, Array.getD_eq_getD_getElem?, List.getElem?_toArray, List.getElem?_cons_zero, List.getElem?_cons_succ, Option.getD_some] at hu_; subst hu_; simp only [splice, vcells_int, vcells_bool, vcells_string, vcells_pointer, vcells_slice, vcells_map, vcells_func, vcells_nilFunc, vcells_iface, vcells_nilIface, vcells_agg, List.take_zero, List.take_succ_cons, List.drop_zero, List.drop_succ_cons, List.length_cons, List.length_nil, List.nil_append, List.cons_append, List.append_nil, Nat.zero_add, List.set_cons_zero, List.set_cons_succ] at H8; (try clear b0); have b0 := H8.cells 4 rfl; simp only [cellsAre, and_true, Nat.zero_add] at b0)
    | ((with_reducible refine at_store ?_); refine wpList_store_box H8 3 6 rfl rfl (by kernel_rfl) rfl (Nat.le_of_ble_eq_true rfl) rfl ?_; intro u_ wH9 hu_ H9; simp only [Act.eval, Act.put, List.setIfInBounds_toArray, List.set_cons_zero, List.set_cons_succ, Array.getD_eq_getD_getElem?, List.getElem?_toArray, List.getElem?_cons_zero, List.getElem?_cons_succ, Option.getD_some] at hu_; subst hu_; simp only [splice, vcells_int, vcells_bool, vcells_string, vcells_pointer, vcells_slice, vcells_map, vcells_func, vcells_nilFunc, vcells_iface, vcells_nilIface, vcells_agg, List.take_zero, List.take_succ_cons, List.drop_zero, List.drop_succ_cons, List.length_cons, List.length_nil, List.nil_append, List.cons_append, List.append_nil, Nat.zero_add, List.set_cons_zero, List.set_cons_succ] at H9; (try clear b9); have b9 := H9.cells 3 rfl; simp only [cellsAre, and_true, Nat.zero_add] at b9))
  refine bodyPost_ret (v := Fun.val ⟨lv, ps, rs, lo, st, code⟩ ⟨A3, c3, A6, c6, A8, c8⟩) (by simp [results, Try.results5, go_sem, b9]) rfl ?_
  exact ⟨⟨A3, c3, A6, c6, A8, c8⟩, rfl, h3, h6, h8, (H9.drop 3).drop 3⟩

/-- A lent function that is read as it was lent. -/
structure Marked (w : World) (f : Fun) (h : FunH) : Prop where
  m5 : RdC w h.A5 (f.code.length + 1) Enc.ins.sz (Enc.ins.all f.code ++ [I (-71), I 0])
  m2 : RdC w h.A2 (f.results.length + 1) Enc.u64.sz (Enc.u64.all f.results ++ [U 7171])
  m1 : RdC w h.A1 (f.params.length + 1) Enc.u64.sz (Enc.u64.all f.params ++ [U 7171])
  l5 : f.code.length + 1 ≤ h.c5
  l2 : f.results.length + 1 ≤ h.c2
  l1 : f.params.length + 1 ≤ h.c1
  b1 : f.params.length ≤ 17592186043904
  b2 : f.results.length ≤ 17592186043904
  b5 : f.code.length ≤ 1000000000000
theorem Marked.below {w w' : World} {f : Fun} {h : FunH} (H : Marked w f h) (hb : Below w.heap.size w w') : Marked w' f h := ⟨RdC.below H.m5 hb, RdC.below H.m2 hb, RdC.below H.m1 hb, H.l5, H.l2, H.l1, H.b1, H.b2, H.b5⟩
theorem Marked.rd {w : World} {f : Fun} {h : FunH} (H : Marked w f h) : f.Rd w h := ⟨Rd.of_marked H.m1, Rd.of_marked H.m2, Rd.of_marked H.m5, H.b1, H.b2, H.b5⟩
theorem Mem.marked {w0 w : World} {f : Fun} {h : FunH} {As : List HP} (H : Mem w0 w As) (i j k : Nat) (hi : As[i]? = some (row 63 Enc.ins.sz h.A5 (f.code.length + 1) h.c5 (Enc.ins.all f.code ++ [I (-71), I 0]))) (hj : As[j]? = some (row 23 Enc.u64.sz h.A2 (f.results.length + 1) h.c2 (Enc.u64.all f.results ++ [U 7171]))) (hk : As[k]? = some (row 23 Enc.u64.sz h.A1 (f.params.length + 1) h.c1 (Enc.u64.all f.params ++ [U 7171])))
    (l5 : f.code.length + 1 ≤ h.c5) (l2 : f.results.length + 1 ≤ h.c2) (l1 : f.params.length + 1 ≤ h.c1) (b1 : f.params.length ≤ 17592186043904) (b2 : f.results.length ≤ 17592186043904) (b5 : f.code.length ≤ 1000000000000) : Marked w f h :=
  ⟨(H.rd i hi (by decide)).1, (H.rd j hj (by decide)).1, (H.rd k hk (by decide)).1, l5, l2, l1, b1, b2, b5⟩

set_option maxRecDepth 100000 in
theorem keptFunction_calls (f : Fun) (h k : FunH) (w : World) (hM : Marked w f h) (hR : f.Rd w k) : Calls Try.prog 16 #[f.val h, f.val k] w fun e w' => e = .returned (.bool true) ∧ Mem w w' [] := by
  have HM := hid hM
  have HR := hid hR
  clear hR hM
  obtain ⟨lv, ps, rs, lo, st, code⟩ := f
  obtain ⟨A1, c1, A2, c2, A5, c5⟩ := h
  obtain ⟨B1, d1, B2, d2, B5, d5⟩ := k
  have H0 := Mem.refl w
  simp only [Fun.val] at *
  have g0 : (lv == lv) = true := by simp
  have g1 : (lo == lo) = true := by simp
  have g2 : (st == st) = true := by simp
  go_enter Try.func16, Try.ntmps16
  go_wp2_with (first
    | ((with_reducible refine at_box ?_); refine wpList_box_box H0 ?_; intro u_ gH1 wH1 hu_ H1; simp only [Act.eval, Act.put, List.setIfInBounds_toArray, List.set_cons_zero, List.set_cons_succ, Array.getD_eq_getD_getElem?, List.getElem?_toArray, List.getElem?_cons_zero, List.getElem?_cons_succ, Option.getD_some] at hu_; subst hu_; simp only [splice, vcells_int, vcells_bool, vcells_string, vcells_pointer, vcells_slice, vcells_map, vcells_func, vcells_nilFunc, vcells_iface, vcells_nilIface, vcells_agg, List.take_zero, List.take_succ_cons, List.drop_zero, List.drop_succ_cons, List.length_cons, List.length_nil, List.nil_append, List.cons_append, List.append_nil, Nat.zero_add, List.set_cons_zero, List.set_cons_succ] at H1; (try clear b0); have b0 := H1.cells 0 rfl; simp only [cellsAre, and_true, Nat.zero_add] at b0)
    | ((with_reducible refine at_box ?_); refine wpList_box_box H1 ?_; intro u_ gH2 wH2 hu_ H2; simp only [Act.eval, Act.put, List.setIfInBounds_toArray, List.set_cons_zero, List.set_cons_succ, Array.getD_eq_getD_getElem?, List.getElem?_toArray, List.getElem?_cons_zero, List.getElem?_cons_succ, Option.getD_some] at hu_; subst hu_; simp only [splice, vcells_int, vcells_bool, vcells_string, vcells_pointer, vcells_slice, vcells_map, vcells_func, vcells_nilFunc, vcells_iface, vcells_nilIface, vcells_agg, List.take_zero, List.take_succ_cons, List.drop_zero, List.drop_succ_cons, List.length_cons, List.length_nil, List.nil_append, List.cons_append, List.append_nil, Nat.zero_add, List.set_cons_zero, List.set_cons_succ] at H2; (try clear b1); have b1 := H2.cells 0 rfl; simp only [cellsAre, and_true, Nat.zero_add] at b1; (try clear b0); have b0 := H2.cells 1 rfl; simp only [cellsAre, and_true, Nat.zero_add] at b0)
    | ((go_at_call 32; (with_reducible refine (keptLabels_calls A1 B1 c1 d1 ps ps _ (RdC.below HM.out.m1 H2.below) HM.out.l1 (Rd.below HR.out.params H2.below) HR.out.b1 HR.out.b1).mono ?_); rintro e w3 ⟨rfl, H3'⟩; rw [show decide (ps = ps) = true from (by simp)]; have H3 := H2.call H3'; simp only [List.nil_append] at H3; (try clear b0 b1)); (try clear b1); have b1 := H3.cells 0 rfl; simp only [cellsAre, and_true, Nat.zero_add] at b1; (try clear b0); have b0 := H3.cells 1 rfl; simp only [cellsAre, and_true, Nat.zero_add] at b0)
    | ((go_at_call 32; (with_reducible refine (keptLabels_calls A2 B2 c2 d2 rs rs _ (RdC.below HM.out.m2 H3.below) HM.out.l2 (Rd.below HR.out.results H3.below) HR.out.b2 HR.out.b2).mono ?_); rintro e w4 ⟨rfl, H4'⟩; rw [show decide (rs = rs) = true from (by simp)]; have H4 := H3.call H4'; simp only [List.nil_append] at H4; (try clear b0 b1)); (try clear b1); have b1 := H4.cells 0 rfl; simp only [cellsAre, and_true, Nat.zero_add] at b1; (try clear b0); have b0 := H4.cells 1 rfl; simp only [cellsAre, and_true, Nat.zero_add] at b0)
    | ((go_at_call 33; (with_reducible refine (keptCode_calls A5 B5 c5 d5 code code _ (RdC.below HM.out.m5 H4.below) HM.out.l5 (Rd.below HR.out.code H4.below) HR.out.b5 HR.out.b5).mono ?_); rintro e w5 ⟨rfl, H5'⟩; rw [show decide (code = code) = true from (by simp)]; have H5 := H4.call H5'; simp only [List.nil_append] at H5)))
  go_ret
  exact ⟨rfl, (H5.drop 0).drop 0⟩
end Go.Proofs.Ytjlikbaamefkiaa
