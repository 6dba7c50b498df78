/- Names: expressions and statements that are in order; how deep blocks nest. -/
import Derived.Test.YtogndpckiognjaaNmW
namespace Go.Proofs.Ytogndpckiognjaa
open Go.RowKit
set_option linter.unusedVariables false
set_option linter.unusedSimpArgs false
set_option maxHeartbeats 2000000
theorem nameEmpty {s : ByteArray} (h : ¬ s = ByteArray.empty) : (s.toList == []) = false := sNeL h
theorem emptyL : ByteArray.empty.toList = [] := by rw [ByteArray.toList_eq]; rfl
theorem emptyFalse {s : ByteArray} (h : ¬ s = ByteArray.empty) : s.toList.isEmpty = false := by
  have h1 := nameEmpty h
  cases h2 : s.toList with
  | nil => rw [h2] at h1; cases h1
  | cons a b => rfl
/-- One part of an expression: how many values there are behind it; none if it does not fit. -/
def wstep (t : Term) (n : Int) : Option Int :=
  if t.kind = 1 then if 0 ≤ t.value ∧ t.name = ByteArray.empty then some (n + 1) else none
  else if t.kind = 2 then if t.value = 0 then some (n + 1) else none
  else if t.kind = 3 then if 1 ≤ n ∧ t.value = 0 then some n else none
  else if t.kind = 4 then if 1 ≤ n ∧ t.name = ByteArray.empty ∧ 15 ≤ t.value ∧ t.value ≤ 17 then some n else none
  else if t.kind = 5 then if 2 ≤ n ∧ t.name = ByteArray.empty ∧ 1 ≤ t.value ∧ t.value ≤ 14 then some (n - 1) else none
  else none
def wholeF : List Term → Int → Bool
  | [], n => decide (n = 1)
  | t :: ts, n => match wstep t n with
    | some m => wholeF ts m
    | none => false
theorem whole_some {l : List Term} {k : Nat} {t : Term} {n m : Int} (h : l[k]? = some t) (hs : wstep t n = some m) : wholeF (l.drop k) n = wholeF (l.drop (k + 1)) m := by
  obtain ⟨hk, rfl⟩ := List.getElem?_eq_some_iff.1 h
  rw [List.drop_eq_getElem_cons hk, wholeF, hs]
theorem whole_none {l : List Term} {k : Nat} {t : Term} {n : Int} (h : l[k]? = some t) (hs : wstep t n = none) : wholeF (l.drop k) n = false := by
  obtain ⟨hk, rfl⟩ := List.getElem?_eq_some_iff.1 h
  rw [List.drop_eq_getElem_cons hk, wholeF, hs]
theorem wstep_le {t : Term} {n m : Int} (h : wstep t n = some m) : n - 1 ≤ m ∧ m ≤ n + 1 := by
  unfold wstep at h
  repeat' split at h
  all_goals first | (cases h; done) | (obtain rfl := Option.some.inj h; omega)
set_option maxRecDepth 100000 in
theorem whole_calls (A : Option Addr) (c : Nat) (ts : List Term) (w : World) (hR : Rd Enc.term w A ts) (hl : ts.length ≤ 2000000) :
    Calls Try.prog 29 #[.slice A ts.length c] w fun e w' => e = .returned (.bool (wholeF ts 0)) ∧ Mem w w' [] := by
  have HR := hid hR
  clear hR
  have H0 := Mem.refl w
  go_enter Try.func29, Try.ntmps29
  go_wp2
  go_loopw [3, 9] (fun v3 v wr => ∃ (k : Nat) (n : Int), v = .int .i64 k ∧ v3 = .int .i64 n ∧ k ≤ ts.length ∧ -(k : Int) ≤ n ∧ n ≤ (k : Int) ∧ Hd (wholeF ts 0 = wholeF (ts.drop k) n) ∧ Mem w wr []) (fun _ v _ => ts.length - (intOf v).toNat)
  case atStart => exact ⟨0, 0, rfl, rfl, Nat.zero_le _, by omega, by omega, ⟨rfl⟩, H0⟩
  case round =>
    clear H0
    obtain ⟨k, n, rfl, rfl, hk, n0, n1, HT, H1⟩ := hrel
    obtain ⟨wo, rfl⟩ : ∃ wo : World, wo = wr := ⟨_, rfl⟩
    by_cases hlt : k < ts.length
    · obtain ⟨t, ht⟩ : ∃ x, ts[k]? = some x := ⟨_, List.getElem?_eq_getElem hlt⟩
      obtain ⟨fb, fo, rfl, p0, p1, p2⟩ := HR.out.get3 rfl ht rfl
      have e0 := H1.old p0
      have e1 := H1.old p1
      have e2 := H1.old p2
      have SM := hid (fun m h => whole_some (n := n) (m := m) ht h)
      have NO := hid (fun h => whole_none (n := n) ht h)
      have LE := hid (fun m h => wstep_le (t := t) (n := n) (m := m) h)
      obtain ⟨kd, v, nm⟩ := t
      simp only at e0 e1 e2
      clear ht p0 p1 p2
      by_cases d1 : kd = 1
      · subst d1
        by_cases q1 : 0 ≤ v
        · by_cases q2 : nm = ByteArray.empty
          · have hv : wstep ⟨1, v, nm⟩ n = some (n + 1) := by
              simp only [wstep]
              (repeat' split) <;> first | rfl | (exfalso; simp_all; done) | (exfalso; omega) | (exfalso; simp_all; omega)
            have HV := hid hv
            have hle := LE.out _ hv
            have f1 : decide ((0 : Int) ≤ v) = true := by simp; omega
            have f2 : (nm.toList == []) = true := by rw [q2, emptyL]; rfl
            have f2' : nm.toList.isEmpty = true := by rw [q2, emptyL]; rfl
            clear hv 
            go_wp2_with (first
              | ((with_reducible refine at_alloc ?_); refine wpList_alloc_box H1 (.agg #[.int .i64 0, .int .i64 0, .string ByteArray.empty]) (by kernel_rfl) ?_; intro gH2 wH2 H2; simp only [splice, vcells_int, vcells_bool, vcells_string, vcells_pointer, vcells_slice, vcells_map, vcells_func, vcells_nilFunc, vcells_iface, vcells_nilIface, vcells_agg, List.take_zero, List.take_succ_cons, List.drop_zero, List.drop_succ_cons, List.length_cons, List.length_nil, List.nil_append, List.cons_append, List.append_nil, Nat.zero_add, List.set_cons_zero, List.set_cons_succ] at H2)
              | ((with_reducible refine at_store ?_); refine wpList_store_box H2 0 3 rfl rfl (by kernel_rfl) rfl (Nat.le_of_ble_eq_true rfl) rfl ?_; intro u_ wH3 hu_ H3; simp only [Act.eval, Act.put, List.setIfInBounds_toArray, List.set_cons_zero, List.set_cons_succ, Array.getD_eq_getD_getElem?, List.getElem?_toArray, List.getElem?_cons_zero, List.getElem?_cons_succ, Option.getD_some] at hu_; subst hu_; simp only [splice, vcells_int, vcells_bool, vcells_string, vcells_pointer, vcells_slice, vcells_map, vcells_func, vcells_nilFunc, vcells_iface, vcells_nilIface, vcells_agg, List.take_zero, List.take_succ_cons, List.drop_zero, List.drop_succ_cons, List.length_cons, List.length_nil, List.nil_append, List.cons_append, List.append_nil, Nat.zero_add, List.set_cons_zero, List.set_cons_succ] at H3; (try clear b0); have b0 := H3.cells 0 rfl; simp only [cellsAre, and_true, Nat.zero_add] at b0))
            go_roundw
            case rel => exact ⟨k + 1, n + 1, by go_num, by first | rfl | go_num, by omega, by omega, by omega, ⟨HT.out.trans (SM.out _ HV.out)⟩, H3.none⟩
            case measure => first | (simp [intOf]; done) | (simp [intOf]; omega)
          · have hv : wstep ⟨1, v, nm⟩ n = none := by
              simp only [wstep]
              (repeat' split) <;> first | rfl | (exfalso; simp_all; done) | (exfalso; omega) | (exfalso; simp_all; omega)
            have HV := hid hv
            have f1 : decide ((0 : Int) ≤ v) = true := by simp; omega
            have f2 := nameEmpty q2
            have f2' := emptyFalse q2
            clear hv 
            go_wp2_with (first
              | ((with_reducible refine at_alloc ?_); refine wpList_alloc_box H1 (.agg #[.int .i64 0, .int .i64 0, .string ByteArray.empty]) (by kernel_rfl) ?_; intro gH2 wH2 H2; simp only [splice, vcells_int, vcells_bool, vcells_string, vcells_pointer, vcells_slice, vcells_map, vcells_func, vcells_nilFunc, vcells_iface, vcells_nilIface, vcells_agg, List.take_zero, List.take_succ_cons, List.drop_zero, List.drop_succ_cons, List.length_cons, List.length_nil, List.nil_append, List.cons_append, List.append_nil, Nat.zero_add, List.set_cons_zero, List.set_cons_succ] at H2)
              | ((with_reducible refine at_store ?_); refine wpList_store_box H2 0 3 rfl rfl (by kernel_rfl) rfl (Nat.le_of_ble_eq_true rfl) rfl ?_; intro u_ wH3 hu_ H3; simp only [Act.eval, Act.put, List.setIfInBounds_toArray, List.set_cons_zero, List.set_cons_succ, Array.getD_eq_getD_getElem?, List.getElem?_toArray, List.getElem?_cons_zero, List.getElem?_cons_succ, Option.getD_some] at hu_; subst hu_; simp only [splice, vcells_int, vcells_bool, vcells_string, vcells_pointer, vcells_slice, vcells_map, vcells_func, vcells_nilFunc, vcells_iface, vcells_nilIface, vcells_agg, List.take_zero, List.take_succ_cons, List.drop_zero, List.drop_succ_cons, List.length_cons, List.length_nil, List.nil_append, List.cons_append, List.append_nil, Nat.zero_add, List.set_cons_zero, List.set_cons_succ] at H3; (try clear b0); have b0 := H3.cells 0 rfl; simp only [cellsAre, and_true, Nat.zero_add] at b0))
            go_ret
            refine ⟨?_, H3.none⟩
            rw [HT.out, NO.out HV.out]
            rfl
        · have hv : wstep ⟨1, v, nm⟩ n = none := by
            simp only [wstep]
            (repeat' split) <;> first | rfl | (exfalso; simp_all; done) | (exfalso; omega) | (exfalso; simp_all; omega)
          have HV := hid hv
          have f1 : decide ((0 : Int) ≤ v) = false := by simp; omega
          clear hv 
          go_wp2_with (first
            | ((with_reducible refine at_alloc ?_); refine wpList_alloc_box H1 (.agg #[.int .i64 0, .int .i64 0, .string ByteArray.empty]) (by kernel_rfl) ?_; intro gH2 wH2 H2; simp only [splice, vcells_int, vcells_bool, vcells_string, vcells_pointer, vcells_slice, vcells_map, vcells_func, vcells_nilFunc, vcells_iface, vcells_nilIface, vcells_agg, List.take_zero, List.take_succ_cons, List.drop_zero, List.drop_succ_cons, List.length_cons, List.length_nil, List.nil_append, List.cons_append, List.append_nil, Nat.zero_add, List.set_cons_zero, List.set_cons_succ] at H2)
            | ((with_reducible refine at_store ?_); refine wpList_store_box H2 0 3 rfl rfl (by kernel_rfl) rfl (Nat.le_of_ble_eq_true rfl) rfl ?_; intro u_ wH3 hu_ H3; simp only [Act.eval, Act.put, List.setIfInBounds_toArray, List.set_cons_zero, List.set_cons_succ, Array.getD_eq_getD_getElem?, List.getElem?_toArray, List.getElem?_cons_zero, List.getElem?_cons_succ, Option.getD_some] at hu_; subst hu_; simp only [splice, vcells_int, vcells_bool, vcells_string, vcells_pointer, vcells_slice, vcells_map, vcells_func, vcells_nilFunc, vcells_iface, vcells_nilIface, vcells_agg, List.take_zero, List.take_succ_cons, List.drop_zero, List.drop_succ_cons, List.length_cons, List.length_nil, List.nil_append, List.cons_append, List.append_nil, Nat.zero_add, List.set_cons_zero, List.set_cons_succ] at H3; (try clear b0); have b0 := H3.cells 0 rfl; simp only [cellsAre, and_true, Nat.zero_add] at b0))
          go_ret
          refine ⟨?_, H3.none⟩
          rw [HT.out, NO.out HV.out]
          rfl
      · have c1 : (kd == 1) = false := by simpa using d1
        by_cases d2 : kd = 2
        · subst d2
          by_cases q5 : v = 0
          · have hv : wstep ⟨2, v, nm⟩ n = some (n + 1) := by
              simp only [wstep]
              (repeat' split) <;> first | rfl | (exfalso; simp_all; done) | (exfalso; omega) | (exfalso; simp_all; omega)
            have HV := hid hv
            have hle := LE.out _ hv
            have f5 : (v == 0) = true := by simp; omega
            clear hv 
            go_wp2_with (first
              | ((with_reducible refine at_alloc ?_); refine wpList_alloc_box H1 (.agg #[.int .i64 0, .int .i64 0, .string ByteArray.empty]) (by kernel_rfl) ?_; intro gH2 wH2 H2; simp only [splice, vcells_int, vcells_bool, vcells_string, vcells_pointer, vcells_slice, vcells_map, vcells_func, vcells_nilFunc, vcells_iface, vcells_nilIface, vcells_agg, List.take_zero, List.take_succ_cons, List.drop_zero, List.drop_succ_cons, List.length_cons, List.length_nil, List.nil_append, List.cons_append, List.append_nil, Nat.zero_add, List.set_cons_zero, List.set_cons_succ] at H2)
              | ((with_reducible refine at_store ?_); refine wpList_store_box H2 0 3 rfl rfl (by kernel_rfl) rfl (Nat.le_of_ble_eq_true rfl) rfl ?_; intro u_ wH3 hu_ H3; simp only [Act.eval, Act.put, List.setIfInBounds_toArray, List.set_cons_zero, List.set_cons_succ, Array.getD_eq_getD_getElem?, List.getElem?_toArray, List.getElem?_cons_zero, List.getElem?_cons_succ, Option.getD_some] at hu_; subst hu_; simp only [splice, vcells_int, vcells_bool, vcells_string, vcells_pointer, vcells_slice, vcells_map, vcells_func, vcells_nilFunc, vcells_iface, vcells_nilIface, vcells_agg, List.take_zero, List.take_succ_cons, List.drop_zero, List.drop_succ_cons, List.length_cons, List.length_nil, List.nil_append, List.cons_append, List.append_nil, Nat.zero_add, List.set_cons_zero, List.set_cons_succ] at H3; (try clear b0); have b0 := H3.cells 0 rfl; simp only [cellsAre, and_true, Nat.zero_add] at b0))
            go_roundw
            case rel => exact ⟨k + 1, n + 1, by go_num, by first | rfl | go_num, by omega, by omega, by omega, ⟨HT.out.trans (SM.out _ HV.out)⟩, H3.none⟩
            case measure => first | (simp [intOf]; done) | (simp [intOf]; omega)
          · have hv : wstep ⟨2, v, nm⟩ n = none := by
              simp only [wstep]
              (repeat' split) <;> first | rfl | (exfalso; simp_all; done) | (exfalso; omega) | (exfalso; simp_all; omega)
            have HV := hid hv
            have f5 : (v == 0) = false := by simp; omega
            clear hv 
            go_wp2_with (first
              | ((with_reducible refine at_alloc ?_); refine wpList_alloc_box H1 (.agg #[.int .i64 0, .int .i64 0, .string ByteArray.empty]) (by kernel_rfl) ?_; intro gH2 wH2 H2; simp only [splice, vcells_int, vcells_bool, vcells_string, vcells_pointer, vcells_slice, vcells_map, vcells_func, vcells_nilFunc, vcells_iface, vcells_nilIface, vcells_agg, List.take_zero, List.take_succ_cons, List.drop_zero, List.drop_succ_cons, List.length_cons, List.length_nil, List.nil_append, List.cons_append, List.append_nil, Nat.zero_add, List.set_cons_zero, List.set_cons_succ] at H2)
              | ((with_reducible refine at_store ?_); refine wpList_store_box H2 0 3 rfl rfl (by kernel_rfl) rfl (Nat.le_of_ble_eq_true rfl) rfl ?_; intro u_ wH3 hu_ H3; simp only [Act.eval, Act.put, List.setIfInBounds_toArray, List.set_cons_zero, List.set_cons_succ, Array.getD_eq_getD_getElem?, List.getElem?_toArray, List.getElem?_cons_zero, List.getElem?_cons_succ, Option.getD_some] at hu_; subst hu_; simp only [splice, vcells_int, vcells_bool, vcells_string, vcells_pointer, vcells_slice, vcells_map, vcells_func, vcells_nilFunc, vcells_iface, vcells_nilIface, vcells_agg, List.take_zero, List.take_succ_cons, List.drop_zero, List.drop_succ_cons, List.length_cons, List.length_nil, List.nil_append, List.cons_append, List.append_nil, Nat.zero_add, List.set_cons_zero, List.set_cons_succ] at H3; (try clear b0); have b0 := H3.cells 0 rfl; simp only [cellsAre, and_true, Nat.zero_add] at b0))
            go_ret
            refine ⟨?_, H3.none⟩
            rw [HT.out, NO.out HV.out]
            rfl
        · have c2 : (kd == 2) = false := by simpa using d2
          by_cases d3 : kd = 3
          · subst d3
            by_cases q3 : 1 ≤ n
            · by_cases q5 : v = 0
              · have hv : wstep ⟨3, v, nm⟩ n = some (n) := by
                  simp only [wstep]
                  (repeat' split) <;> first | rfl | (exfalso; simp_all; done) | (exfalso; omega) | (exfalso; simp_all; omega)
                have HV := hid hv
                have hle := LE.out _ hv
                have f3 : decide ((1 : Int) ≤ n) = true := by simp; omega
                have f5 : (v == 0) = true := by simp; omega
                clear hv 
                go_wp2_with (first
                  | ((with_reducible refine at_alloc ?_); refine wpList_alloc_box H1 (.agg #[.int .i64 0, .int .i64 0, .string ByteArray.empty]) (by kernel_rfl) ?_; intro gH2 wH2 H2; simp only [splice, vcells_int, vcells_bool, vcells_string, vcells_pointer, vcells_slice, vcells_map, vcells_func, vcells_nilFunc, vcells_iface, vcells_nilIface, vcells_agg, List.take_zero, List.take_succ_cons, List.drop_zero, List.drop_succ_cons, List.length_cons, List.length_nil, List.nil_append, List.cons_append, List.append_nil, Nat.zero_add, List.set_cons_zero, List.set_cons_succ] at H2)
                  | ((with_reducible refine at_store ?_); refine wpList_store_box H2 0 3 rfl rfl (by kernel_rfl) rfl (Nat.le_of_ble_eq_true rfl) rfl ?_; intro u_ wH3 hu_ H3; simp only [Act.eval, Act.put, List.setIfInBounds_toArray, List.set_cons_zero, List.set_cons_succ, Array.getD_eq_getD_getElem?, List.getElem?_toArray, List.getElem?_cons_zero, List.getElem?_cons_succ, Option.getD_some] at hu_; subst hu_; simp only [splice, vcells_int, vcells_bool, vcells_string, vcells_pointer, vcells_slice, vcells_map, vcells_func, vcells_nilFunc, vcells_iface, vcells_nilIface, vcells_agg, List.take_zero, List.take_succ_cons, List.drop_zero, List.drop_succ_cons, List.length_cons, List.length_nil, List.nil_append, List.cons_append, List.append_nil, Nat.zero_add, List.set_cons_zero, List.set_cons_succ] at H3; (try clear b0); have b0 := H3.cells 0 rfl; simp only [cellsAre, and_true, Nat.zero_add] at b0))
                go_roundw
                case rel => exact ⟨k + 1, n, by go_num, by first | rfl | go_num, by omega, by omega, by omega, ⟨HT.out.trans (SM.out _ HV.out)⟩, H3.none⟩
                case measure => first | (simp [intOf]; done) | (simp [intOf]; omega)
              · have hv : wstep ⟨3, v, nm⟩ n = none := by
                  simp only [wstep]
                  (repeat' split) <;> first | rfl | (exfalso; simp_all; done) | (exfalso; omega) | (exfalso; simp_all; omega)
                have HV := hid hv
                have f3 : decide ((1 : Int) ≤ n) = true := by simp; omega
                have f5 : (v == 0) = false := by simp; omega
                clear hv 
                go_wp2_with (first
                  | ((with_reducible refine at_alloc ?_); refine wpList_alloc_box H1 (.agg #[.int .i64 0, .int .i64 0, .string ByteArray.empty]) (by kernel_rfl) ?_; intro gH2 wH2 H2; simp only [splice, vcells_int, vcells_bool, vcells_string, vcells_pointer, vcells_slice, vcells_map, vcells_func, vcells_nilFunc, vcells_iface, vcells_nilIface, vcells_agg, List.take_zero, List.take_succ_cons, List.drop_zero, List.drop_succ_cons, List.length_cons, List.length_nil, List.nil_append, List.cons_append, List.append_nil, Nat.zero_add, List.set_cons_zero, List.set_cons_succ] at H2)
                  | ((with_reducible refine at_store ?_); refine wpList_store_box H2 0 3 rfl rfl (by kernel_rfl) rfl (Nat.le_of_ble_eq_true rfl) rfl ?_; intro u_ wH3 hu_ H3; simp only [Act.eval, Act.put, List.setIfInBounds_toArray, List.set_cons_zero, List.set_cons_succ, Array.getD_eq_getD_getElem?, List.getElem?_toArray, List.getElem?_cons_zero, List.getElem?_cons_succ, Option.getD_some] at hu_; subst hu_; simp only [splice, vcells_int, vcells_bool, vcells_string, vcells_pointer, vcells_slice, vcells_map, vcells_func, vcells_nilFunc, vcells_iface, vcells_nilIface, vcells_agg, List.take_zero, List.take_succ_cons, List.drop_zero, List.drop_succ_cons, List.length_cons, List.length_nil, List.nil_append, List.cons_append, List.append_nil, Nat.zero_add, List.set_cons_zero, List.set_cons_succ] at H3; (try clear b0); have b0 := H3.cells 0 rfl; simp only [cellsAre, and_true, Nat.zero_add] at b0))
                go_ret
                refine ⟨?_, H3.none⟩
                rw [HT.out, NO.out HV.out]
                rfl
            · have hv : wstep ⟨3, v, nm⟩ n = none := by
                simp only [wstep]
                (repeat' split) <;> first | rfl | (exfalso; simp_all; done) | (exfalso; omega) | (exfalso; simp_all; omega)
              have HV := hid hv
              have f3 : decide ((1 : Int) ≤ n) = false := by simp; omega
              clear hv 
              go_wp2_with (first
                | ((with_reducible refine at_alloc ?_); refine wpList_alloc_box H1 (.agg #[.int .i64 0, .int .i64 0, .string ByteArray.empty]) (by kernel_rfl) ?_; intro gH2 wH2 H2; simp only [splice, vcells_int, vcells_bool, vcells_string, vcells_pointer, vcells_slice, vcells_map, vcells_func, vcells_nilFunc, vcells_iface, vcells_nilIface, vcells_agg, List.take_zero, List.take_succ_cons, List.drop_zero, List.drop_succ_cons, List.length_cons, List.length_nil, List.nil_append, List.cons_append, List.append_nil, Nat.zero_add, List.set_cons_zero, List.set_cons_succ] at H2)
                | ((with_reducible refine at_store ?_); refine wpList_store_box H2 0 3 rfl rfl (by kernel_rfl) rfl (Nat.le_of_ble_eq_true rfl) rfl ?_; intro u_ wH3 hu_ H3; simp only [Act.eval, Act.put, List.setIfInBounds_toArray, List.set_cons_zero, List.set_cons_succ, Array.getD_eq_getD_getElem?, List.getElem?_toArray, List.getElem?_cons_zero, List.getElem?_cons_succ, Option.getD_some] at hu_; subst hu_; simp only [splice, vcells_int, vcells_bool, vcells_string, vcells_pointer, vcells_slice, vcells_map, vcells_func, vcells_nilFunc, vcells_iface, vcells_nilIface, vcells_agg, List.take_zero, List.take_succ_cons, List.drop_zero, List.drop_succ_cons, List.length_cons, List.length_nil, List.nil_append, List.cons_append, List.append_nil, Nat.zero_add, List.set_cons_zero, List.set_cons_succ] at H3; (try clear b0); have b0 := H3.cells 0 rfl; simp only [cellsAre, and_true, Nat.zero_add] at b0))
              go_ret
              refine ⟨?_, H3.none⟩
              rw [HT.out, NO.out HV.out]
              rfl
          · have c3 : (kd == 3) = false := by simpa using d3
            by_cases d4 : kd = 4
            · subst d4
              by_cases q3 : 1 ≤ n
              · by_cases q2 : nm = ByteArray.empty
                · by_cases q6 : 15 ≤ v
                  · by_cases q7 : v ≤ 17
                    · have hv : wstep ⟨4, v, nm⟩ n = some (n) := by
                        simp only [wstep]
                        (repeat' split) <;> first | rfl | (exfalso; simp_all; done) | (exfalso; omega) | (exfalso; simp_all; omega)
                      have HV := hid hv
                      have hle := LE.out _ hv
                      have f3 : decide ((1 : Int) ≤ n) = true := by simp; omega
                      have f2 : (nm.toList == []) = true := by rw [q2, emptyL]; rfl
                      have f2' : nm.toList.isEmpty = true := by rw [q2, emptyL]; rfl
                      have f6 : decide ((15 : Int) ≤ v) = true := by simp; omega
                      have f7 : decide (v ≤ (17 : Int)) = true := by simp; omega
                      clear hv 
                      go_wp2_with (first
                        | ((with_reducible refine at_alloc ?_); refine wpList_alloc_box H1 (.agg #[.int .i64 0, .int .i64 0, .string ByteArray.empty]) (by kernel_rfl) ?_; intro gH2 wH2 H2; simp only [splice, vcells_int, vcells_bool, vcells_string, vcells_pointer, vcells_slice, vcells_map, vcells_func, vcells_nilFunc, vcells_iface, vcells_nilIface, vcells_agg, List.take_zero, List.take_succ_cons, List.drop_zero, List.drop_succ_cons, List.length_cons, List.length_nil, List.nil_append, List.cons_append, List.append_nil, Nat.zero_add, List.set_cons_zero, List.set_cons_succ] at H2)
                        | ((with_reducible refine at_store ?_); refine wpList_store_box H2 0 3 rfl rfl (by kernel_rfl) rfl (Nat.le_of_ble_eq_true rfl) rfl ?_; intro u_ wH3 hu_ H3; simp only [Act.eval, Act.put, List.setIfInBounds_toArray, List.set_cons_zero, List.set_cons_succ, Array.getD_eq_getD_getElem?, List.getElem?_toArray, List.getElem?_cons_zero, List.getElem?_cons_succ, Option.getD_some] at hu_; subst hu_; simp only [splice, vcells_int, vcells_bool, vcells_string, vcells_pointer, vcells_slice, vcells_map, vcells_func, vcells_nilFunc, vcells_iface, vcells_nilIface, vcells_agg, List.take_zero, List.take_succ_cons, List.drop_zero, List.drop_succ_cons, List.length_cons, List.length_nil, List.nil_append, List.cons_append, List.append_nil, Nat.zero_add, List.set_cons_zero, List.set_cons_succ] at H3; (try clear b0); have b0 := H3.cells 0 rfl; simp only [cellsAre, and_true, Nat.zero_add] at b0))
                      go_roundw
                      case rel => exact ⟨k + 1, n, by go_num, by first | rfl | go_num, by omega, by omega, by omega, ⟨HT.out.trans (SM.out _ HV.out)⟩, H3.none⟩
                      case measure => first | (simp [intOf]; done) | (simp [intOf]; omega)
                    · have hv : wstep ⟨4, v, nm⟩ n = none := by
                        simp only [wstep]
                        (repeat' split) <;> first | rfl | (exfalso; simp_all; done) | (exfalso; omega) | (exfalso; simp_all; omega)
                      have HV := hid hv
                      have f3 : decide ((1 : Int) ≤ n) = true := by simp; omega
                      have f2 : (nm.toList == []) = true := by rw [q2, emptyL]; rfl
                      have f2' : nm.toList.isEmpty = true := by rw [q2, emptyL]; rfl
                      have f6 : decide ((15 : Int) ≤ v) = true := by simp; omega
                      have f7 : decide (v ≤ (17 : Int)) = false := by simp; omega
                      clear hv 
                      go_wp2_with (first
                        | ((with_reducible refine at_alloc ?_); refine wpList_alloc_box H1 (.agg #[.int .i64 0, .int .i64 0, .string ByteArray.empty]) (by kernel_rfl) ?_; intro gH2 wH2 H2; simp only [splice, vcells_int, vcells_bool, vcells_string, vcells_pointer, vcells_slice, vcells_map, vcells_func, vcells_nilFunc, vcells_iface, vcells_nilIface, vcells_agg, List.take_zero, List.take_succ_cons, List.drop_zero, List.drop_succ_cons, List.length_cons, List.length_nil, List.nil_append, List.cons_append, List.append_nil, Nat.zero_add, List.set_cons_zero, List.set_cons_succ] at H2)
                        | ((with_reducible refine at_store ?_); refine wpList_store_box H2 0 3 rfl rfl (by kernel_rfl) rfl (Nat.le_of_ble_eq_true rfl) rfl ?_; intro u_ wH3 hu_ H3; simp only [Act.eval, Act.put, List.setIfInBounds_toArray, List.set_cons_zero, List.set_cons_succ, Array.getD_eq_getD_getElem?, List.getElem?_toArray, List.getElem?_cons_zero, List.getElem?_cons_succ, Option.getD_some] at hu_; subst hu_; simp only [splice, vcells_int, vcells_bool, vcells_string, vcells_pointer, vcells_slice, vcells_map, vcells_func, vcells_nilFunc, vcells_iface, vcells_nilIface, vcells_agg, List.take_zero, List.take_succ_cons, List.drop_zero, List.drop_succ_cons, List.length_cons, List.length_nil, List.nil_append, List.cons_append, List.append_nil, Nat.zero_add, List.set_cons_zero, List.set_cons_succ] at H3; (try clear b0); have b0 := H3.cells 0 rfl; simp only [cellsAre, and_true, Nat.zero_add] at b0))
                      go_ret
                      refine ⟨?_, H3.none⟩
                      rw [HT.out, NO.out HV.out]
                      rfl
                  · have hv : wstep ⟨4, v, nm⟩ n = none := by
                      simp only [wstep]
                      (repeat' split) <;> first | rfl | (exfalso; simp_all; done) | (exfalso; omega) | (exfalso; simp_all; omega)
                    have HV := hid hv
                    have f3 : decide ((1 : Int) ≤ n) = true := by simp; omega
                    have f2 : (nm.toList == []) = true := by rw [q2, emptyL]; rfl
                    have f2' : nm.toList.isEmpty = true := by rw [q2, emptyL]; rfl
                    have f6 : decide ((15 : Int) ≤ v) = false := by simp; omega
                    clear hv 
                    go_wp2_with (first
                      | ((with_reducible refine at_alloc ?_); refine wpList_alloc_box H1 (.agg #[.int .i64 0, .int .i64 0, .string ByteArray.empty]) (by kernel_rfl) ?_; intro gH2 wH2 H2; simp only [splice, vcells_int, vcells_bool, vcells_string, vcells_pointer, vcells_slice, vcells_map, vcells_func, vcells_nilFunc, vcells_iface, vcells_nilIface, vcells_agg, List.take_zero, List.take_succ_cons, List.drop_zero, List.drop_succ_cons, List.length_cons, List.length_nil, List.nil_append, List.cons_append, List.append_nil, Nat.zero_add, List.set_cons_zero, List.set_cons_succ] at H2)
                      | ((with_reducible refine at_store ?_); refine wpList_store_box H2 0 3 rfl rfl (by kernel_rfl) rfl (Nat.le_of_ble_eq_true rfl) rfl ?_; intro u_ wH3 hu_ H3; simp only [Act.eval, Act.put, List.setIfInBounds_toArray, List.set_cons_zero, List.set_cons_succ, Array.getD_eq_getD_getElem?, List.getElem?_toArray, List.getElem?_cons_zero, List.getElem?_cons_succ, Option.getD_some] at hu_; subst hu_; simp only [splice, vcells_int, vcells_bool, vcells_string, vcells_pointer, vcells_slice, vcells_map, vcells_func, vcells_nilFunc, vcells_iface, vcells_nilIface, vcells_agg, List.take_zero, List.take_succ_cons, List.drop_zero, List.drop_succ_cons, List.length_cons, List.length_nil, List.nil_append, List.cons_append, List.append_nil, Nat.zero_add, List.set_cons_zero, List.set_cons_succ] at H3; (try clear b0); have b0 := H3.cells 0 rfl; simp only [cellsAre, and_true, Nat.zero_add] at b0))
                    go_ret
                    refine ⟨?_, H3.none⟩
                    rw [HT.out, NO.out HV.out]
                    rfl
                · have hv : wstep ⟨4, v, nm⟩ n = none := by
                    simp only [wstep]
                    (repeat' split) <;> first | rfl | (exfalso; simp_all; done) | (exfalso; omega) | (exfalso; simp_all; omega)
                  have HV := hid hv
                  have f3 : decide ((1 : Int) ≤ n) = true := by simp; omega
                  have f2 := nameEmpty q2
                  have f2' := emptyFalse q2
                  clear hv 
                  go_wp2_with (first
                    | ((with_reducible refine at_alloc ?_); refine wpList_alloc_box H1 (.agg #[.int .i64 0, .int .i64 0, .string ByteArray.empty]) (by kernel_rfl) ?_; intro gH2 wH2 H2; simp only [splice, vcells_int, vcells_bool, vcells_string, vcells_pointer, vcells_slice, vcells_map, vcells_func, vcells_nilFunc, vcells_iface, vcells_nilIface, vcells_agg, List.take_zero, List.take_succ_cons, List.drop_zero, List.drop_succ_cons, List.length_cons, List.length_nil, List.nil_append, List.cons_append, List.append_nil, Nat.zero_add, List.set_cons_zero, List.set_cons_succ] at H2)
                    | ((with_reducible refine at_store ?_); refine wpList_store_box H2 0 3 rfl rfl (by kernel_rfl) rfl (Nat.le_of_ble_eq_true rfl) rfl ?_; intro u_ wH3 hu_ H3; simp only [Act.eval, Act.put, List.setIfInBounds_toArray, List.set_cons_zero, List.set_cons_succ, Array.getD_eq_getD_getElem?, List.getElem?_toArray, List.getElem?_cons_zero, List.getElem?_cons_succ, Option.getD_some] at hu_; subst hu_; simp only [splice, vcells_int, vcells_bool, vcells_string, vcells_pointer, vcells_slice, vcells_map, vcells_func, vcells_nilFunc, vcells_iface, vcells_nilIface, vcells_agg, List.take_zero, List.take_succ_cons, List.drop_zero, List.drop_succ_cons, List.length_cons, List.length_nil, List.nil_append, List.cons_append, List.append_nil, Nat.zero_add, List.set_cons_zero, List.set_cons_succ] at H3; (try clear b0); have b0 := H3.cells 0 rfl; simp only [cellsAre, and_true, Nat.zero_add] at b0))
                  go_ret
                  refine ⟨?_, H3.none⟩
                  rw [HT.out, NO.out HV.out]
                  rfl
              · have hv : wstep ⟨4, v, nm⟩ n = none := by
                  simp only [wstep]
                  (repeat' split) <;> first | rfl | (exfalso; simp_all; done) | (exfalso; omega) | (exfalso; simp_all; omega)
                have HV := hid hv
                have f3 : decide ((1 : Int) ≤ n) = false := by simp; omega
                clear hv 
                go_wp2_with (first
                  | ((with_reducible refine at_alloc ?_); refine wpList_alloc_box H1 (.agg #[.int .i64 0, .int .i64 0, .string ByteArray.empty]) (by kernel_rfl) ?_; intro gH2 wH2 H2; simp only [splice, vcells_int, vcells_bool, vcells_string, vcells_pointer, vcells_slice, vcells_map, vcells_func, vcells_nilFunc, vcells_iface, vcells_nilIface, vcells_agg, List.take_zero, List.take_succ_cons, List.drop_zero, List.drop_succ_cons, List.length_cons, List.length_nil, List.nil_append, List.cons_append, List.append_nil, Nat.zero_add, List.set_cons_zero, List.set_cons_succ] at H2)
                  | ((with_reducible refine at_store ?_); refine wpList_store_box H2 0 3 rfl rfl (by kernel_rfl) rfl (Nat.le_of_ble_eq_true rfl) rfl ?_; intro u_ wH3 hu_ H3; simp only [Act.eval, Act.put, List.setIfInBounds_toArray, List.set_cons_zero, List.set_cons_succ, Array.getD_eq_getD_getElem?, List.getElem?_toArray, List.getElem?_cons_zero, List.getElem?_cons_succ, Option.getD_some] at hu_; subst hu_; simp only [splice, vcells_int, vcells_bool, vcells_string, vcells_pointer, vcells_slice, vcells_map, vcells_func, vcells_nilFunc, vcells_iface, vcells_nilIface, vcells_agg, List.take_zero, List.take_succ_cons, List.drop_zero, List.drop_succ_cons, List.length_cons, List.length_nil, List.nil_append, List.cons_append, List.append_nil, Nat.zero_add, List.set_cons_zero, List.set_cons_succ] at H3; (try clear b0); have b0 := H3.cells 0 rfl; simp only [cellsAre, and_true, Nat.zero_add] at b0))
                go_ret
                refine ⟨?_, H3.none⟩
                rw [HT.out, NO.out HV.out]
                rfl
            · have c4 : (kd == 4) = false := by simpa using d4
              by_cases d5 : kd = 5
              · subst d5
                by_cases q3 : 2 ≤ n
                · by_cases q2 : nm = ByteArray.empty
                  · by_cases q6 : 1 ≤ v
                    · by_cases q7 : v ≤ 14
                      · have hv : wstep ⟨5, v, nm⟩ n = some (n - 1) := by
                          simp only [wstep]
                          (repeat' split) <;> first | rfl | (exfalso; simp_all; done) | (exfalso; omega) | (exfalso; simp_all; omega)
                        have HV := hid hv
                        have hle := LE.out _ hv
                        have f3 : decide ((2 : Int) ≤ n) = true := by simp; omega
                        have f2 : (nm.toList == []) = true := by rw [q2, emptyL]; rfl
                        have f2' : nm.toList.isEmpty = true := by rw [q2, emptyL]; rfl
                        have f6 : decide ((1 : Int) ≤ v) = true := by simp; omega
                        have f7 : decide (v ≤ (14 : Int)) = true := by simp; omega
                        clear hv 
                        go_wp2_with (first
                          | ((with_reducible refine at_alloc ?_); refine wpList_alloc_box H1 (.agg #[.int .i64 0, .int .i64 0, .string ByteArray.empty]) (by kernel_rfl) ?_; intro gH2 wH2 H2; simp only [splice, vcells_int, vcells_bool, vcells_string, vcells_pointer, vcells_slice, vcells_map, vcells_func, vcells_nilFunc, vcells_iface, vcells_nilIface, vcells_agg, List.take_zero, List.take_succ_cons, List.drop_zero, List.drop_succ_cons, List.length_cons, List.length_nil, List.nil_append, List.cons_append, List.append_nil, Nat.zero_add, List.set_cons_zero, List.set_cons_succ] at H2)
                          | ((with_reducible refine at_store ?_); refine wpList_store_box H2 0 3 rfl rfl (by kernel_rfl) rfl (Nat.le_of_ble_eq_true rfl) rfl ?_; intro u_ wH3 hu_ H3; simp only [Act.eval, Act.put, List.setIfInBounds_toArray, List.set_cons_zero, List.set_cons_succ, Array.getD_eq_getD_getElem?, List.getElem?_toArray, List.getElem?_cons_zero, List.getElem?_cons_succ, Option.getD_some] at hu_; subst hu_; simp only [splice, vcells_int, vcells_bool, vcells_string, vcells_pointer, vcells_slice, vcells_map, vcells_func, vcells_nilFunc, vcells_iface, vcells_nilIface, vcells_agg, List.take_zero, List.take_succ_cons, List.drop_zero, List.drop_succ_cons, List.length_cons, List.length_nil, List.nil_append, List.cons_append, List.append_nil, Nat.zero_add, List.set_cons_zero, List.set_cons_succ] at H3; (try clear b0); have b0 := H3.cells 0 rfl; simp only [cellsAre, and_true, Nat.zero_add] at b0))
                        go_roundw
                        case rel => exact ⟨k + 1, n - 1, by go_num, by first | rfl | go_num, by omega, by omega, by omega, ⟨HT.out.trans (SM.out _ HV.out)⟩, H3.none⟩
                        case measure => first | (simp [intOf]; done) | (simp [intOf]; omega)
                      · have hv : wstep ⟨5, v, nm⟩ n = none := by
                          simp only [wstep]
                          (repeat' split) <;> first | rfl | (exfalso; simp_all; done) | (exfalso; omega) | (exfalso; simp_all; omega)
                        have HV := hid hv
                        have f3 : decide ((2 : Int) ≤ n) = true := by simp; omega
                        have f2 : (nm.toList == []) = true := by rw [q2, emptyL]; rfl
                        have f2' : nm.toList.isEmpty = true := by rw [q2, emptyL]; rfl
                        have f6 : decide ((1 : Int) ≤ v) = true := by simp; omega
                        have f7 : decide (v ≤ (14 : Int)) = false := by simp; omega
                        clear hv 
                        go_wp2_with (first
                          | ((with_reducible refine at_alloc ?_); refine wpList_alloc_box H1 (.agg #[.int .i64 0, .int .i64 0, .string ByteArray.empty]) (by kernel_rfl) ?_; intro gH2 wH2 H2; simp only [splice, vcells_int, vcells_bool, vcells_string, vcells_pointer, vcells_slice, vcells_map, vcells_func, vcells_nilFunc, vcells_iface, vcells_nilIface, vcells_agg, List.take_zero, List.take_succ_cons, List.drop_zero, List.drop_succ_cons, List.length_cons, List.length_nil, List.nil_append, List.cons_append, List.append_nil, Nat.zero_add, List.set_cons_zero, List.set_cons_succ] at H2)
                          | ((with_reducible refine at_store ?_); refine wpList_store_box H2 0 3 rfl rfl (by kernel_rfl) rfl (Nat.le_of_ble_eq_true rfl) rfl ?_; intro u_ wH3 hu_ H3; simp only [Act.eval, Act.put, List.setIfInBounds_toArray, List.set_cons_zero, List.set_cons_succ, Array.getD_eq_getD_getElem?, List.getElem?_toArray, List.getElem?_cons_zero, List.getElem?_cons_succ, Option.getD_some] at hu_; subst hu_; simp only [splice, vcells_int, vcells_bool, vcells_string, vcells_pointer, vcells_slice, vcells_map, vcells_func, vcells_nilFunc, vcells_iface, vcells_nilIface, vcells_agg, List.take_zero, List.take_succ_cons, List.drop_zero, List.drop_succ_cons, List.length_cons, List.length_nil, List.nil_append, List.cons_append, List.append_nil, Nat.zero_add, List.set_cons_zero, List.set_cons_succ] at H3; (try clear b0); have b0 := H3.cells 0 rfl; simp only [cellsAre, and_true, Nat.zero_add] at b0))
                        go_ret
                        refine ⟨?_, H3.none⟩
                        rw [HT.out, NO.out HV.out]
                        rfl
                    · have hv : wstep ⟨5, v, nm⟩ n = none := by
                        simp only [wstep]
                        (repeat' split) <;> first | rfl | (exfalso; simp_all; done) | (exfalso; omega) | (exfalso; simp_all; omega)
                      have HV := hid hv
                      have f3 : decide ((2 : Int) ≤ n) = true := by simp; omega
                      have f2 : (nm.toList == []) = true := by rw [q2, emptyL]; rfl
                      have f2' : nm.toList.isEmpty = true := by rw [q2, emptyL]; rfl
                      have f6 : decide ((1 : Int) ≤ v) = false := by simp; omega
                      clear hv 
                      go_wp2_with (first
                        | ((with_reducible refine at_alloc ?_); refine wpList_alloc_box H1 (.agg #[.int .i64 0, .int .i64 0, .string ByteArray.empty]) (by kernel_rfl) ?_; intro gH2 wH2 H2; simp only [splice, vcells_int, vcells_bool, vcells_string, vcells_pointer, vcells_slice, vcells_map, vcells_func, vcells_nilFunc, vcells_iface, vcells_nilIface, vcells_agg, List.take_zero, List.take_succ_cons, List.drop_zero, List.drop_succ_cons, List.length_cons, List.length_nil, List.nil_append, List.cons_append, List.append_nil, Nat.zero_add, List.set_cons_zero, List.set_cons_succ] at H2)
                        | ((with_reducible refine at_store ?_); refine wpList_store_box H2 0 3 rfl rfl (by kernel_rfl) rfl (Nat.le_of_ble_eq_true rfl) rfl ?_; intro u_ wH3 hu_ H3; simp only [Act.eval, Act.put, List.setIfInBounds_toArray, List.set_cons_zero, List.set_cons_succ, Array.getD_eq_getD_getElem?, List.getElem?_toArray, List.getElem?_cons_zero, List.getElem?_cons_succ, Option.getD_some] at hu_; subst hu_; simp only [splice, vcells_int, vcells_bool, vcells_string, vcells_pointer, vcells_slice, vcells_map, vcells_func, vcells_nilFunc, vcells_iface, vcells_nilIface, vcells_agg, List.take_zero, List.take_succ_cons, List.drop_zero, List.drop_succ_cons, List.length_cons, List.length_nil, List.nil_append, List.cons_append, List.append_nil, Nat.zero_add, List.set_cons_zero, List.set_cons_succ] at H3; (try clear b0); have b0 := H3.cells 0 rfl; simp only [cellsAre, and_true, Nat.zero_add] at b0))
                      go_ret
                      refine ⟨?_, H3.none⟩
                      rw [HT.out, NO.out HV.out]
                      rfl
                  · have hv : wstep ⟨5, v, nm⟩ n = none := by
                      simp only [wstep]
                      (repeat' split) <;> first | rfl | (exfalso; simp_all; done) | (exfalso; omega) | (exfalso; simp_all; omega)
                    have HV := hid hv
                    have f3 : decide ((2 : Int) ≤ n) = true := by simp; omega
                    have f2 := nameEmpty q2
                    have f2' := emptyFalse q2
                    clear hv 
                    go_wp2_with (first
                      | ((with_reducible refine at_alloc ?_); refine wpList_alloc_box H1 (.agg #[.int .i64 0, .int .i64 0, .string ByteArray.empty]) (by kernel_rfl) ?_; intro gH2 wH2 H2; simp only [splice, vcells_int, vcells_bool, vcells_string, vcells_pointer, vcells_slice, vcells_map, vcells_func, vcells_nilFunc, vcells_iface, vcells_nilIface, vcells_agg, List.take_zero, List.take_succ_cons, List.drop_zero, List.drop_succ_cons, List.length_cons, List.length_nil, List.nil_append, List.cons_append, List.append_nil, Nat.zero_add, List.set_cons_zero, List.set_cons_succ] at H2)
                      | ((with_reducible refine at_store ?_); refine wpList_store_box H2 0 3 rfl rfl (by kernel_rfl) rfl (Nat.le_of_ble_eq_true rfl) rfl ?_; intro u_ wH3 hu_ H3; simp only [Act.eval, Act.put, List.setIfInBounds_toArray, List.set_cons_zero, List.set_cons_succ, Array.getD_eq_getD_getElem?, List.getElem?_toArray, List.getElem?_cons_zero, List.getElem?_cons_succ, Option.getD_some] at hu_; subst hu_; simp only [splice, vcells_int, vcells_bool, vcells_string, vcells_pointer, vcells_slice, vcells_map, vcells_func, vcells_nilFunc, vcells_iface, vcells_nilIface, vcells_agg, List.take_zero, List.take_succ_cons, List.drop_zero, List.drop_succ_cons, List.length_cons, List.length_nil, List.nil_append, List.cons_append, List.append_nil, Nat.zero_add, List.set_cons_zero, List.set_cons_succ] at H3; (try clear b0); have b0 := H3.cells 0 rfl; simp only [cellsAre, and_true, Nat.zero_add] at b0))
                    go_ret
                    refine ⟨?_, H3.none⟩
                    rw [HT.out, NO.out HV.out]
                    rfl
                · have hv : wstep ⟨5, v, nm⟩ n = none := by
                    simp only [wstep]
                    (repeat' split) <;> first | rfl | (exfalso; simp_all; done) | (exfalso; omega) | (exfalso; simp_all; omega)
                  have HV := hid hv
                  have f3 : decide ((2 : Int) ≤ n) = false := by simp; omega
                  clear hv 
                  go_wp2_with (first
                    | ((with_reducible refine at_alloc ?_); refine wpList_alloc_box H1 (.agg #[.int .i64 0, .int .i64 0, .string ByteArray.empty]) (by kernel_rfl) ?_; intro gH2 wH2 H2; simp only [splice, vcells_int, vcells_bool, vcells_string, vcells_pointer, vcells_slice, vcells_map, vcells_func, vcells_nilFunc, vcells_iface, vcells_nilIface, vcells_agg, List.take_zero, List.take_succ_cons, List.drop_zero, List.drop_succ_cons, List.length_cons, List.length_nil, List.nil_append, List.cons_append, List.append_nil, Nat.zero_add, List.set_cons_zero, List.set_cons_succ] at H2)
                    | ((with_reducible refine at_store ?_); refine wpList_store_box H2 0 3 rfl rfl (by kernel_rfl) rfl (Nat.le_of_ble_eq_true rfl) rfl ?_; intro u_ wH3 hu_ H3; simp only [Act.eval, Act.put, List.setIfInBounds_toArray, List.set_cons_zero, List.set_cons_succ, Array.getD_eq_getD_getElem?, List.getElem?_toArray, List.getElem?_cons_zero, List.getElem?_cons_succ, Option.getD_some] at hu_; subst hu_; simp only [splice, vcells_int, vcells_bool, vcells_string, vcells_pointer, vcells_slice, vcells_map, vcells_func, vcells_nilFunc, vcells_iface, vcells_nilIface, vcells_agg, List.take_zero, List.take_succ_cons, List.drop_zero, List.drop_succ_cons, List.length_cons, List.length_nil, List.nil_append, List.cons_append, List.append_nil, Nat.zero_add, List.set_cons_zero, List.set_cons_succ] at H3; (try clear b0); have b0 := H3.cells 0 rfl; simp only [cellsAre, and_true, Nat.zero_add] at b0))
                  go_ret
                  refine ⟨?_, H3.none⟩
                  rw [HT.out, NO.out HV.out]
                  rfl
              · have c5 : (kd == 5) = false := by simpa using d5
                have hv : wstep ⟨kd, v, nm⟩ n = none := by
                  simp only [wstep]
                  (repeat' split) <;> first | rfl | (exfalso; simp_all; done) | (exfalso; omega) | (exfalso; simp_all; omega)
                have HV := hid hv
                clear hv 
                go_wp2_with (first
                  | ((with_reducible refine at_alloc ?_); refine wpList_alloc_box H1 (.agg #[.int .i64 0, .int .i64 0, .string ByteArray.empty]) (by kernel_rfl) ?_; intro gH2 wH2 H2; simp only [splice, vcells_int, vcells_bool, vcells_string, vcells_pointer, vcells_slice, vcells_map, vcells_func, vcells_nilFunc, vcells_iface, vcells_nilIface, vcells_agg, List.take_zero, List.take_succ_cons, List.drop_zero, List.drop_succ_cons, List.length_cons, List.length_nil, List.nil_append, List.cons_append, List.append_nil, Nat.zero_add, List.set_cons_zero, List.set_cons_succ] at H2)
                  | ((with_reducible refine at_store ?_); refine wpList_store_box H2 0 3 rfl rfl (by kernel_rfl) rfl (Nat.le_of_ble_eq_true rfl) rfl ?_; intro u_ wH3 hu_ H3; simp only [Act.eval, Act.put, List.setIfInBounds_toArray, List.set_cons_zero, List.set_cons_succ, Array.getD_eq_getD_getElem?, List.getElem?_toArray, List.getElem?_cons_zero, List.getElem?_cons_succ, Option.getD_some] at hu_; subst hu_; simp only [splice, vcells_int, vcells_bool, vcells_string, vcells_pointer, vcells_slice, vcells_map, vcells_func, vcells_nilFunc, vcells_iface, vcells_nilIface, vcells_agg, List.take_zero, List.take_succ_cons, List.drop_zero, List.drop_succ_cons, List.length_cons, List.length_nil, List.nil_append, List.cons_append, List.append_nil, Nat.zero_add, List.set_cons_zero, List.set_cons_succ] at H3; (try clear b0); have b0 := H3.cells 0 rfl; simp only [cellsAre, and_true, Nat.zero_add] at b0))
                go_ret
                refine ⟨?_, H3.none⟩
                rw [HT.out, NO.out HV.out]
                rfl
    · obtain rfl : k = ts.length := by omega
      have hv : wholeF ts 0 = decide (n = 1) := by rw [HT.out, List.drop_eq_nil_of_le (Nat.le_refl _)]; rfl
      have HV := hid hv
      clear hv
      by_cases h1 : n = 1
      · subst h1
        go_wp2
        go_ret
        rw [HV.out]
        exact ⟨rfl, H1⟩
      · have g1 : (n == 1) = false := by simpa using h1
        go_wp2
        go_ret
        rw [HV.out, decide_eq_false h1]
        exact ⟨rfl, H1⟩
end Go.Proofs.Ytogndpckiognjaa
