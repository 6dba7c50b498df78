/- Names: what is declared for all; Find. -/
import Derived.Test.YtogndpckiognjaaNmB
namespace Go.Proofs.Ytogndpckiognjaa
open Go.RowKit
set_option linter.unusedVariables false
set_option linter.unusedSimpArgs false
set_option maxHeartbeats 2000000
theorem RdFs.names {w : World} {h : Hdr} {l : List FDecl} {hs : List FuncH} (H : RdFs w h l hs) : hs.map (·.name) = l.map (·.name) := by
  apply List.ext_getElem?
  intro i
  rw [List.getElem?_map, List.getElem?_map]
  cases h1 : hs[i]? with
  | none =>
    have : l[i]? = none := by rw [List.getElem?_eq_none_iff] at h1 ⊢; rw [← H.len]; exact h1
    rw [this]
    rfl
  | some a =>
    obtain ⟨b, hb⟩ : ∃ b, l[i]? = some b := ⟨_, List.getElem?_eq_getElem (by rw [← H.len]; exact (List.getElem?_eq_some_iff.1 h1).1)⟩
    rw [hb]
    simp only [Option.map_some]
    rw [(H.each i a b h1 hb).name]
/-- What a name stands for that is declared for all functions. -/
def Src.glob (s : Src) (nm : ByteArray) : Int × Int × Bool :=
  if 0 ≤ pos (s.globals.map (·.name)) nm then (2, pos (s.globals.map (·.name)) nm, true)
  else if 0 ≤ pos (s.arrays.map (·.name)) nm then (3, pos (s.arrays.map (·.name)) nm, true)
  else if 0 ≤ pos (s.channels.map (·.name)) nm then (4, pos (s.channels.map (·.name)) nm, true)
  else if 0 ≤ pos (s.funcs.map (·.name)) nm then (5, pos (s.funcs.map (·.name)) nm, true)
  else (0, 0, false)
abbrev refV (r : Int × Int × Bool) : Value := .tuple #[.agg #[I r.1, I r.2.1], .bool r.2.2]
set_option maxRecDepth 100000 in
theorem global_calls (h : SrcH) (s : Src) (nm : ByteArray) (w : World) (R : RdSrc w h s) (ok : s.Ok) :
    Calls Try.prog 28 #[h.val, .string nm] w fun e w' => e = .returned (refV (s.glob nm)) ∧ Mem w w' [] := by
  have l1 : s.globals.length ≤ 5000000 := Nat.le_trans ok.globals (by decide)
  have l2 : s.arrays.length ≤ 5000000 := Nat.le_trans ok.arrays (by decide)
  have l3 : s.channels.length ≤ 5000000 := Nat.le_trans ok.channels (by decide)
  have l4 : h.fs.length ≤ 5000000 := by rw [R.funcs.len]; exact Nat.le_trans ok.funcs (by decide)
  have L1 := hid l1
  have L2 := hid l2
  have L3 := hid l3
  have L4 := hid l4
  have n1 := R.globals.n
  have n2 := R.arrays.n
  have n3 := R.channels.n
  have n4 := R.funcs.hdr.n
  obtain ⟨p, ⟨gA, gn, gc⟩, ⟨aA, an, ac⟩, ⟨cA, cn, cc⟩, ⟨fA, fn, fc⟩, fs⟩ := h
  simp only at n1 n2 n3 n4 l4 L4
  subst n1 n2 n3 n4
  have HR := hid R
  obtain ⟨p1, hp1⟩ : ∃ p1, pos (s.globals.map (·.name)) nm = p1 := ⟨_, rfl⟩
  obtain ⟨p2, hp2⟩ : ∃ p1, pos (s.arrays.map (·.name)) nm = p1 := ⟨_, rfl⟩
  obtain ⟨p3, hp3⟩ : ∃ p1, pos (s.channels.map (·.name)) nm = p1 := ⟨_, rfl⟩
  obtain ⟨p4, hp4⟩ : ∃ p1, pos (s.funcs.map (·.name)) nm = p1 := ⟨_, rfl⟩
  have hg : s.glob nm = if 0 ≤ p1 then (2, p1, true) else if 0 ≤ p2 then (3, p2, true) else if 0 ≤ p3 then (4, p3, true) else if 0 ≤ p4 then (5, p4, true) else (0, 0, false) := by
    unfold Src.glob
    rw [hp1, hp2, hp3, hp4]
  rw [← R.funcs.names] at hp4
  have P1 := hid hp1
  have P2 := hid hp2
  have P3 := hid hp3
  have P4 := hid hp4
  have HG := hid hg
  clear hp1 hp2 hp3 hp4 hg R ok l1 l2 l3 l4
  have H0 := Mem.refl w
  simp only [SrcH.val]
  go_enter Try.func28, Try.ntmps28
  by_cases c1 : 0 ≤ p1
  · go_wp2_with (first
      | ((with_reducible refine at_box ?_); refine wpList_box_box H0 ?_; intro u_ gH1 wH1 hu_ H1; simp only [Act.eval, Act.put, List.setIfInBounds_toArray, List.set_cons_zero, List.set_cons_succ, Array.getD_eq_getD_getElem?, List.getElem?_toArray, List.getElem?_cons_zero, List.getElem?_cons_succ, Option.getD_some] at hu_; subst hu_; simp only [splice, vcells_int, vcells_bool, vcells_string, vcells_pointer, vcells_slice, vcells_map, vcells_func, vcells_nilFunc, vcells_iface, vcells_nilIface, vcells_agg, List.take_zero, List.take_succ_cons, List.drop_zero, List.drop_succ_cons, List.length_cons, List.length_nil, List.nil_append, List.cons_append, List.append_nil, Nat.zero_add, List.set_cons_zero, List.set_cons_succ] at H1; (try clear b0); have b0 := H1.cells 0 rfl; simp only [cellsAre, and_true, Nat.zero_add] at b0)
      | ((with_reducible refine at_alloc ?_); refine wpList_alloc_box H1 (.agg #[.int .i64 0, .int .i64 0]) (by kernel_rfl) ?_; intro gH2 wH2 H2; simp only [splice, vcells_int, vcells_bool, vcells_string, vcells_pointer, vcells_slice, vcells_map, vcells_func, vcells_nilFunc, vcells_iface, vcells_nilIface, vcells_agg, List.take_zero, List.take_succ_cons, List.drop_zero, List.drop_succ_cons, List.length_cons, List.length_nil, List.nil_append, List.cons_append, List.append_nil, Nat.zero_add, List.set_cons_zero, List.set_cons_succ] at H2; (try clear b0); have b0 := H2.cells 1 rfl; simp only [cellsAre, and_true, Nat.zero_add] at b0)
      | ((go_at_call 26; (with_reducible refine (atDecl_calls gA gc s.globals nm _ (Rd.below HR.out.globals.rd H2.below) L1.out).mono ?_); rintro e w3 ⟨rfl, H3'⟩; rw [P1.out]; have H3 := H2.call H3'; simp only [List.nil_append] at H3; (try clear b0)); (try clear b0); have b0 := H3.cells 1 rfl; simp only [cellsAre, and_true, Nat.zero_add] at b0)
      | ((with_reducible refine at_store ?_); refine wpList_store_box H3 0 2 rfl rfl (by kernel_rfl) rfl (Nat.le_of_ble_eq_true rfl) rfl ?_; intro u_ wH4 hu_ H4; simp only [Act.eval, Act.put, List.setIfInBounds_toArray, List.set_cons_zero, List.set_cons_succ, Array.getD_eq_getD_getElem?, List.getElem?_toArray, List.getElem?_cons_zero, List.getElem?_cons_succ, Option.getD_some] at hu_; subst hu_; simp only [splice, vcells_int, vcells_bool, vcells_string, vcells_pointer, vcells_slice, vcells_map, vcells_func, vcells_nilFunc, vcells_iface, vcells_nilIface, vcells_agg, List.take_zero, List.take_succ_cons, List.drop_zero, List.drop_succ_cons, List.length_cons, List.length_nil, List.nil_append, List.cons_append, List.append_nil, Nat.zero_add, List.set_cons_zero, List.set_cons_succ] at H4; (try clear b0); have b0 := H4.cells 0 rfl; simp only [cellsAre, and_true, Nat.zero_add] at b0))
    have hv : s.glob nm = (2, p1, true) := by rw [HG.out]; simp [c1]
    rw [hv]
    refine bodyPost_ret (v := refV (2, p1, true)) (by simp [results, Try.results28, go_sem, b0]) rfl ?_
    exact ⟨rfl, H4.none⟩
  · have c1' : p1 < 0 := by omega
    by_cases c2 : 0 ≤ p2
    · go_wp2_with (first
        | ((with_reducible refine at_box ?_); refine wpList_box_box H0 ?_; intro u_ gH1 wH1 hu_ H1; simp only [Act.eval, Act.put, List.setIfInBounds_toArray, List.set_cons_zero, List.set_cons_succ, Array.getD_eq_getD_getElem?, List.getElem?_toArray, List.getElem?_cons_zero, List.getElem?_cons_succ, Option.getD_some] at hu_; subst hu_; simp only [splice, vcells_int, vcells_bool, vcells_string, vcells_pointer, vcells_slice, vcells_map, vcells_func, vcells_nilFunc, vcells_iface, vcells_nilIface, vcells_agg, List.take_zero, List.take_succ_cons, List.drop_zero, List.drop_succ_cons, List.length_cons, List.length_nil, List.nil_append, List.cons_append, List.append_nil, Nat.zero_add, List.set_cons_zero, List.set_cons_succ] at H1; (try clear b0); have b0 := H1.cells 0 rfl; simp only [cellsAre, and_true, Nat.zero_add] at b0)
        | ((with_reducible refine at_alloc ?_); refine wpList_alloc_box H1 (.agg #[.int .i64 0, .int .i64 0]) (by kernel_rfl) ?_; intro gH2 wH2 H2; simp only [splice, vcells_int, vcells_bool, vcells_string, vcells_pointer, vcells_slice, vcells_map, vcells_func, vcells_nilFunc, vcells_iface, vcells_nilIface, vcells_agg, List.take_zero, List.take_succ_cons, List.drop_zero, List.drop_succ_cons, List.length_cons, List.length_nil, List.nil_append, List.cons_append, List.append_nil, Nat.zero_add, List.set_cons_zero, List.set_cons_succ] at H2; (try clear b0); have b0 := H2.cells 1 rfl; simp only [cellsAre, and_true, Nat.zero_add] at b0)
        | ((go_at_call 26; (with_reducible refine (atDecl_calls gA gc s.globals nm _ (Rd.below HR.out.globals.rd H2.below) L1.out).mono ?_); rintro e w3 ⟨rfl, H3'⟩; rw [P1.out]; have H3 := H2.call H3'; simp only [List.nil_append] at H3; (try clear b0)); (try clear b0); have b0 := H3.cells 1 rfl; simp only [cellsAre, and_true, Nat.zero_add] at b0)
        | ((go_at_call 46; (with_reducible refine (atArr_calls aA ac s.arrays nm _ (Rd.below HR.out.arrays.rd H3.below) L2.out).mono ?_); rintro e w4 ⟨rfl, H4'⟩; rw [P2.out]; have H4 := H3.call H4'; simp only [List.nil_append] at H4; (try clear b0)); (try clear b0); have b0 := H4.cells 1 rfl; simp only [cellsAre, and_true, Nat.zero_add] at b0)
        | ((with_reducible refine at_store ?_); refine wpList_store_box H4 0 2 rfl rfl (by kernel_rfl) rfl (Nat.le_of_ble_eq_true rfl) rfl ?_; intro u_ wH5 hu_ H5; simp only [Act.eval, Act.put, List.setIfInBounds_toArray, List.set_cons_zero, List.set_cons_succ, Array.getD_eq_getD_getElem?, List.getElem?_toArray, List.getElem?_cons_zero, List.getElem?_cons_succ, Option.getD_some] at hu_; subst hu_; simp only [splice, vcells_int, vcells_bool, vcells_string, vcells_pointer, vcells_slice, vcells_map, vcells_func, vcells_nilFunc, vcells_iface, vcells_nilIface, vcells_agg, List.take_zero, List.take_succ_cons, List.drop_zero, List.drop_succ_cons, List.length_cons, List.length_nil, List.nil_append, List.cons_append, List.append_nil, Nat.zero_add, List.set_cons_zero, List.set_cons_succ] at H5; (try clear b0); have b0 := H5.cells 0 rfl; simp only [cellsAre, and_true, Nat.zero_add] at b0))
      have hv : s.glob nm = (3, p2, true) := by rw [HG.out]; simp [Int.not_le.2 c1', c2]
      rw [hv]
      refine bodyPost_ret (v := refV (3, p2, true)) (by simp [results, Try.results28, go_sem, b0]) rfl ?_
      exact ⟨rfl, H5.none⟩
    · have c2' : p2 < 0 := by omega
      by_cases c3 : 0 ≤ p3
      · go_wp2_with (first
          | ((with_reducible refine at_box ?_); refine wpList_box_box H0 ?_; intro u_ gH1 wH1 hu_ H1; simp only [Act.eval, Act.put, List.setIfInBounds_toArray, List.set_cons_zero, List.set_cons_succ, Array.getD_eq_getD_getElem?, List.getElem?_toArray, List.getElem?_cons_zero, List.getElem?_cons_succ, Option.getD_some] at hu_; subst hu_; simp only [splice, vcells_int, vcells_bool, vcells_string, vcells_pointer, vcells_slice, vcells_map, vcells_func, vcells_nilFunc, vcells_iface, vcells_nilIface, vcells_agg, List.take_zero, List.take_succ_cons, List.drop_zero, List.drop_succ_cons, List.length_cons, List.length_nil, List.nil_append, List.cons_append, List.append_nil, Nat.zero_add, List.set_cons_zero, List.set_cons_succ] at H1; (try clear b0); have b0 := H1.cells 0 rfl; simp only [cellsAre, and_true, Nat.zero_add] at b0)
          | ((with_reducible refine at_alloc ?_); refine wpList_alloc_box H1 (.agg #[.int .i64 0, .int .i64 0]) (by kernel_rfl) ?_; intro gH2 wH2 H2; simp only [splice, vcells_int, vcells_bool, vcells_string, vcells_pointer, vcells_slice, vcells_map, vcells_func, vcells_nilFunc, vcells_iface, vcells_nilIface, vcells_agg, List.take_zero, List.take_succ_cons, List.drop_zero, List.drop_succ_cons, List.length_cons, List.length_nil, List.nil_append, List.cons_append, List.append_nil, Nat.zero_add, List.set_cons_zero, List.set_cons_succ] at H2; (try clear b0); have b0 := H2.cells 1 rfl; simp only [cellsAre, and_true, Nat.zero_add] at b0)
          | ((go_at_call 26; (with_reducible refine (atDecl_calls gA gc s.globals nm _ (Rd.below HR.out.globals.rd H2.below) L1.out).mono ?_); rintro e w3 ⟨rfl, H3'⟩; rw [P1.out]; have H3 := H2.call H3'; simp only [List.nil_append] at H3; (try clear b0)); (try clear b0); have b0 := H3.cells 1 rfl; simp only [cellsAre, and_true, Nat.zero_add] at b0)
          | ((go_at_call 46; (with_reducible refine (atArr_calls aA ac s.arrays nm _ (Rd.below HR.out.arrays.rd H3.below) L2.out).mono ?_); rintro e w4 ⟨rfl, H4'⟩; rw [P2.out]; have H4 := H3.call H4'; simp only [List.nil_append] at H4; (try clear b0)); (try clear b0); have b0 := H4.cells 1 rfl; simp only [cellsAre, and_true, Nat.zero_add] at b0)
          | ((go_at_call 26; (with_reducible refine (atDecl_calls cA cc s.channels nm _ (Rd.below HR.out.channels.rd H4.below) L3.out).mono ?_); rintro e w5 ⟨rfl, H5'⟩; rw [P3.out]; have H5 := H4.call H5'; simp only [List.nil_append] at H5; (try clear b0)); (try clear b0); have b0 := H5.cells 1 rfl; simp only [cellsAre, and_true, Nat.zero_add] at b0)
          | ((with_reducible refine at_store ?_); refine wpList_store_box H5 0 2 rfl rfl (by kernel_rfl) rfl (Nat.le_of_ble_eq_true rfl) rfl ?_; intro u_ wH6 hu_ H6; simp only [Act.eval, Act.put, List.setIfInBounds_toArray, List.set_cons_zero, List.set_cons_succ, Array.getD_eq_getD_getElem?, List.getElem?_toArray, List.getElem?_cons_zero, List.getElem?_cons_succ, Option.getD_some] at hu_; subst hu_; simp only [splice, vcells_int, vcells_bool, vcells_string, vcells_pointer, vcells_slice, vcells_map, vcells_func, vcells_nilFunc, vcells_iface, vcells_nilIface, vcells_agg, List.take_zero, List.take_succ_cons, List.drop_zero, List.drop_succ_cons, List.length_cons, List.length_nil, List.nil_append, List.cons_append, List.append_nil, Nat.zero_add, List.set_cons_zero, List.set_cons_succ] at H6; (try clear b0); have b0 := H6.cells 0 rfl; simp only [cellsAre, and_true, Nat.zero_add] at b0))
        have hv : s.glob nm = (4, p3, true) := by rw [HG.out]; simp [Int.not_le.2 c1', Int.not_le.2 c2', c3]
        rw [hv]
        refine bodyPost_ret (v := refV (4, p3, true)) (by simp [results, Try.results28, go_sem, b0]) rfl ?_
        exact ⟨rfl, H6.none⟩
      · have c3' : p3 < 0 := by omega
        by_cases c4 : 0 ≤ p4
        · go_wp2_with (first
            | ((with_reducible refine at_box ?_); refine wpList_box_box H0 ?_; intro u_ gH1 wH1 hu_ H1; simp only [Act.eval, Act.put, List.setIfInBounds_toArray, List.set_cons_zero, List.set_cons_succ, Array.getD_eq_getD_getElem?, List.getElem?_toArray, List.getElem?_cons_zero, List.getElem?_cons_succ, Option.getD_some] at hu_; subst hu_; simp only [splice, vcells_int, vcells_bool, vcells_string, vcells_pointer, vcells_slice, vcells_map, vcells_func, vcells_nilFunc, vcells_iface, vcells_nilIface, vcells_agg, List.take_zero, List.take_succ_cons, List.drop_zero, List.drop_succ_cons, List.length_cons, List.length_nil, List.nil_append, List.cons_append, List.append_nil, Nat.zero_add, List.set_cons_zero, List.set_cons_succ] at H1; (try clear b0); have b0 := H1.cells 0 rfl; simp only [cellsAre, and_true, Nat.zero_add] at b0)
            | ((with_reducible refine at_alloc ?_); refine wpList_alloc_box H1 (.agg #[.int .i64 0, .int .i64 0]) (by kernel_rfl) ?_; intro gH2 wH2 H2; simp only [splice, vcells_int, vcells_bool, vcells_string, vcells_pointer, vcells_slice, vcells_map, vcells_func, vcells_nilFunc, vcells_iface, vcells_nilIface, vcells_agg, List.take_zero, List.take_succ_cons, List.drop_zero, List.drop_succ_cons, List.length_cons, List.length_nil, List.nil_append, List.cons_append, List.append_nil, Nat.zero_add, List.set_cons_zero, List.set_cons_succ] at H2; (try clear b0); have b0 := H2.cells 1 rfl; simp only [cellsAre, and_true, Nat.zero_add] at b0)
            | ((go_at_call 26; (with_reducible refine (atDecl_calls gA gc s.globals nm _ (Rd.below HR.out.globals.rd H2.below) L1.out).mono ?_); rintro e w3 ⟨rfl, H3'⟩; rw [P1.out]; have H3 := H2.call H3'; simp only [List.nil_append] at H3; (try clear b0)); (try clear b0); have b0 := H3.cells 1 rfl; simp only [cellsAre, and_true, Nat.zero_add] at b0)
            | ((go_at_call 46; (with_reducible refine (atArr_calls aA ac s.arrays nm _ (Rd.below HR.out.arrays.rd H3.below) L2.out).mono ?_); rintro e w4 ⟨rfl, H4'⟩; rw [P2.out]; have H4 := H3.call H4'; simp only [List.nil_append] at H4; (try clear b0)); (try clear b0); have b0 := H4.cells 1 rfl; simp only [cellsAre, and_true, Nat.zero_add] at b0)
            | ((go_at_call 26; (with_reducible refine (atDecl_calls cA cc s.channels nm _ (Rd.below HR.out.channels.rd H4.below) L3.out).mono ?_); rintro e w5 ⟨rfl, H5'⟩; rw [P3.out]; have H5 := H4.call H5'; simp only [List.nil_append] at H5; (try clear b0)); (try clear b0); have b0 := H5.cells 1 rfl; simp only [cellsAre, and_true, Nat.zero_add] at b0)
            | ((go_at_call 48; (with_reducible refine (atFunc_calls fA fc fs nm _ (Rd.below HR.out.funcs.hdr.rd H5.below) L4.out).mono ?_); rintro e w6 ⟨rfl, H6'⟩; rw [P4.out]; have H6 := H5.call H6'; simp only [List.nil_append] at H6; (try clear b0)); (try clear b0); have b0 := H6.cells 1 rfl; simp only [cellsAre, and_true, Nat.zero_add] at b0)
            | ((with_reducible refine at_store ?_); refine wpList_store_box H6 0 2 rfl rfl (by kernel_rfl) rfl (Nat.le_of_ble_eq_true rfl) rfl ?_; intro u_ wH7 hu_ H7; simp only [Act.eval, Act.put, List.setIfInBounds_toArray, List.set_cons_zero, List.set_cons_succ, Array.getD_eq_getD_getElem?, List.getElem?_toArray, List.getElem?_cons_zero, List.getElem?_cons_succ, Option.getD_some] at hu_; subst hu_; simp only [splice, vcells_int, vcells_bool, vcells_string, vcells_pointer, vcells_slice, vcells_map, vcells_func, vcells_nilFunc, vcells_iface, vcells_nilIface, vcells_agg, List.take_zero, List.take_succ_cons, List.drop_zero, List.drop_succ_cons, List.length_cons, List.length_nil, List.nil_append, List.cons_append, List.append_nil, Nat.zero_add, List.set_cons_zero, List.set_cons_succ] at H7; (try clear b0); have b0 := H7.cells 0 rfl; simp only [cellsAre, and_true, Nat.zero_add] at b0))
          have hv : s.glob nm = (5, p4, true) := by rw [HG.out]; simp [Int.not_le.2 c1', Int.not_le.2 c2', Int.not_le.2 c3', c4]
          rw [hv]
          refine bodyPost_ret (v := refV (5, p4, true)) (by simp [results, Try.results28, go_sem, b0]) rfl ?_
          exact ⟨rfl, H7.none⟩
        · have c4' : p4 < 0 := by omega
          go_wp2_with (first
            | ((with_reducible refine at_box ?_); refine wpList_box_box H0 ?_; intro u_ gH1 wH1 hu_ H1; simp only [Act.eval, Act.put, List.setIfInBounds_toArray, List.set_cons_zero, List.set_cons_succ, Array.getD_eq_getD_getElem?, List.getElem?_toArray, List.getElem?_cons_zero, List.getElem?_cons_succ, Option.getD_some] at hu_; subst hu_; simp only [splice, vcells_int, vcells_bool, vcells_string, vcells_pointer, vcells_slice, vcells_map, vcells_func, vcells_nilFunc, vcells_iface, vcells_nilIface, vcells_agg, List.take_zero, List.take_succ_cons, List.drop_zero, List.drop_succ_cons, List.length_cons, List.length_nil, List.nil_append, List.cons_append, List.append_nil, Nat.zero_add, List.set_cons_zero, List.set_cons_succ] at H1; (try clear b0); have b0 := H1.cells 0 rfl; simp only [cellsAre, and_true, Nat.zero_add] at b0)
            | ((with_reducible refine at_alloc ?_); refine wpList_alloc_box H1 (.agg #[.int .i64 0, .int .i64 0]) (by kernel_rfl) ?_; intro gH2 wH2 H2; simp only [splice, vcells_int, vcells_bool, vcells_string, vcells_pointer, vcells_slice, vcells_map, vcells_func, vcells_nilFunc, vcells_iface, vcells_nilIface, vcells_agg, List.take_zero, List.take_succ_cons, List.drop_zero, List.drop_succ_cons, List.length_cons, List.length_nil, List.nil_append, List.cons_append, List.append_nil, Nat.zero_add, List.set_cons_zero, List.set_cons_succ] at H2; (try clear b0); have b0 := H2.cells 1 rfl; simp only [cellsAre, and_true, Nat.zero_add] at b0)
            | ((go_at_call 26; (with_reducible refine (atDecl_calls gA gc s.globals nm _ (Rd.below HR.out.globals.rd H2.below) L1.out).mono ?_); rintro e w3 ⟨rfl, H3'⟩; rw [P1.out]; have H3 := H2.call H3'; simp only [List.nil_append] at H3; (try clear b0)); (try clear b0); have b0 := H3.cells 1 rfl; simp only [cellsAre, and_true, Nat.zero_add] at b0)
            | ((go_at_call 46; (with_reducible refine (atArr_calls aA ac s.arrays nm _ (Rd.below HR.out.arrays.rd H3.below) L2.out).mono ?_); rintro e w4 ⟨rfl, H4'⟩; rw [P2.out]; have H4 := H3.call H4'; simp only [List.nil_append] at H4; (try clear b0)); (try clear b0); have b0 := H4.cells 1 rfl; simp only [cellsAre, and_true, Nat.zero_add] at b0)
            | ((go_at_call 26; (with_reducible refine (atDecl_calls cA cc s.channels nm _ (Rd.below HR.out.channels.rd H4.below) L3.out).mono ?_); rintro e w5 ⟨rfl, H5'⟩; rw [P3.out]; have H5 := H4.call H5'; simp only [List.nil_append] at H5; (try clear b0)); (try clear b0); have b0 := H5.cells 1 rfl; simp only [cellsAre, and_true, Nat.zero_add] at b0)
            | ((go_at_call 48; (with_reducible refine (atFunc_calls fA fc fs nm _ (Rd.below HR.out.funcs.hdr.rd H5.below) L4.out).mono ?_); rintro e w6 ⟨rfl, H6'⟩; rw [P4.out]; have H6 := H5.call H6'; simp only [List.nil_append] at H6; (try clear b0)); (try clear b0); have b0 := H6.cells 1 rfl; simp only [cellsAre, and_true, Nat.zero_add] at b0)
            | ((with_reducible refine at_store ?_); refine wpList_store_box H6 0 2 rfl rfl (by kernel_rfl) rfl (Nat.le_of_ble_eq_true rfl) rfl ?_; intro u_ wH7 hu_ H7; simp only [Act.eval, Act.put, List.setIfInBounds_toArray, List.set_cons_zero, List.set_cons_succ, Array.getD_eq_getD_getElem?, List.getElem?_toArray, List.getElem?_cons_zero, List.getElem?_cons_succ, Option.getD_some] at hu_; subst hu_; simp only [splice, vcells_int, vcells_bool, vcells_string, vcells_pointer, vcells_slice, vcells_map, vcells_func, vcells_nilFunc, vcells_iface, vcells_nilIface, vcells_agg, List.take_zero, List.take_succ_cons, List.drop_zero, List.drop_succ_cons, List.length_cons, List.length_nil, List.nil_append, List.cons_append, List.append_nil, Nat.zero_add, List.set_cons_zero, List.set_cons_succ] at H7; (try clear b0); have b0 := H7.cells 0 rfl; simp only [cellsAre, and_true, Nat.zero_add] at b0))
          have hv : s.glob nm = (0, 0, false) := by rw [HG.out]; simp [Int.not_le.2 c1', Int.not_le.2 c2', Int.not_le.2 c3', Int.not_le.2 c4']
          rw [hv]
          refine bodyPost_ret (v := refV (0, 0, false)) (by simp [results, Try.results28, go_sem, b0]) rfl ?_
          exact ⟨rfl, H7.none⟩
end Go.Proofs.Ytogndpckiognjaa
