/- Names: where blocks end. -/
import Derived.Test.YtogndpckiognjaaNmE
namespace Go.Proofs.Ytogndpckiognjaa
open Go.RowKit
set_option linter.unusedVariables false
set_option linter.unusedSimpArgs false
set_option maxHeartbeats 2000000
/-- Do blocks nest? The statements' kinds; the open ones; where their other ways begin. -/
def endsGo (ks : List Int) : List Int → Nat → List Int → List Int → Bool
  | [], _, op, _ => decide (op = [])
  | k :: r, i, op, els =>
    if k = 5 ∨ k = 7 then endsGo ks r (i + 1) (op ++ [(i : Int)]) els
    else if k = 6 then match op.getLast? with
      | none => false
      | some j => if ks.getD j.toNat 0 = 5 then (if 0 ≤ els.getD j.toNat 0 then false else endsGo ks r (i + 1) op (els.set j.toNat (i : Int))) else false
    else if k = 8 then match op.getLast? with
      | none => false
      | some j => endsGo ks r (i + 1) op.dropLast els
    else endsGo ks r (i + 1) op els
def nests (ks : List Int) : Bool := endsGo ks ks 0 [] (List.replicate ks.length (-1))
theorem ends_at {ks : List Int} {k : Nat} {t : Int} {op els : List Int} (h : ks[k]? = some t) : endsGo ks (ks.drop k) k op els = endsGo ks (t :: ks.drop (k + 1)) k op els := by
  obtain ⟨hk, rfl⟩ := List.getElem?_eq_some_iff.1 h
  rw [List.drop_eq_getElem_cons hk]
def EndsRes (b : Bool) (w : World) (e : Ending) (w' : World) : Prop := ∃ v0 v1, e = .returned (.tuple #[v0, v1, .bool b]) ∧ Mem w w' []
set_option maxRecDepth 100000 in
theorem ends_calls (A : Option Addr) (c : Nat) (xs : List StmtH) (w : World) (hR : Rd Enc.stmt w A xs) (hl : xs.length ≤ 2000000) :
    Calls Try.prog 35 #[.slice A xs.length c] w (EndsRes (nests (xs.map (·.kind))) w) := by
  have HR := hid hR
  clear hR
  have H0 : Mem w w [own Enc.i64 3 none 0 []] := (Mem.refl w).nilrow 3 1
  obtain ⟨R, hR⟩ : ∃ R, nests (xs.map (·.kind)) = R := ⟨_, rfl⟩
  have HRR := hid hR
  rw [hR]
  clear hR
  go_enter Try.func35, Try.ntmps35
  go_wp2_with (first
    | (((with_reducible refine at_build1 ?_); refine wpList_build1 elt_int H0 rfl rfl (by decide) ?_; intro u_ gH1 wH1 hu_ H1; simp only [Act.eval, Act.put, List.setIfInBounds_toArray, List.set_cons_zero, List.set_cons_succ, Array.getD_eq_getD_getElem?, List.getElem?_toArray, List.getElem?_cons_zero, List.getElem?_cons_succ, Option.getD_some] at hu_; subst hu_; simp only [splice, vcells_int, vcells_bool, vcells_string, vcells_pointer, vcells_slice, vcells_map, vcells_func, vcells_nilFunc, vcells_iface, vcells_nilIface, vcells_agg, List.take_zero, List.take_succ_cons, List.drop_zero, List.drop_succ_cons, List.length_cons, List.length_nil, List.nil_append, List.cons_append, List.append_nil, Nat.zero_add, List.set_cons_zero, List.set_cons_succ] at H1); have R1 : Rd Enc.i64 wH1 (some ⟨gH1, 0, none⟩) [-1] := (H1.rd 0 rfl elt_int.pos).1)
    | (go_at_call 51; (with_reducible refine (repeat_calls _ xs.length (-1) _ R1 hl).mono ?_); rintro e w2 ⟨g2, rfl, H2'⟩; have H2 := (H1.drop 0).call H2'; simp only [List.cons_append, List.nil_append, List.eraseIdx_cons_zero] at H2)
    | (((with_reducible refine at_build1 ?_); refine wpList_build1 elt_int H2 rfl rfl (by decide) ?_; intro u_ gH3 wH3 hu_ H3; simp only [Act.eval, Act.put, List.setIfInBounds_toArray, List.set_cons_zero, List.set_cons_succ, Array.getD_eq_getD_getElem?, List.getElem?_toArray, List.getElem?_cons_zero, List.getElem?_cons_succ, Option.getD_some] at hu_; subst hu_; simp only [splice, vcells_int, vcells_bool, vcells_string, vcells_pointer, vcells_slice, vcells_map, vcells_func, vcells_nilFunc, vcells_iface, vcells_nilIface, vcells_agg, List.take_zero, List.take_succ_cons, List.drop_zero, List.drop_succ_cons, List.length_cons, List.length_nil, List.nil_append, List.cons_append, List.append_nil, Nat.zero_add, List.set_cons_zero, List.set_cons_succ] at H3); have R3 : Rd Enc.i64 wH3 (some ⟨gH3, 0, none⟩) [-1] := (H3.rd 0 rfl elt_int.pos).1)
    | (go_at_call 51; (with_reducible refine (repeat_calls _ xs.length (-1) _ R3 hl).mono ?_); rintro e w4 ⟨g4, rfl, H4'⟩; have H4 := (H3.drop 0).call H4'; simp only [List.cons_append, List.nil_append, List.eraseIdx_cons_zero] at H4))
  have H5 := H4.mv 2 rfl
  replace H5 := H5.mv 2 rfl
  simp only [List.eraseIdx_cons_succ, List.eraseIdx_cons_zero] at H5
  replace H5 := H5.mv 1 rfl
  simp only [List.eraseIdx_cons_succ, List.eraseIdx_cons_zero] at H5
  clear H0 H1 H2 H3 H4 H2' H4'
  go_loopw [7, 23] (fun v7 v wr => ∃ (k : Nat) (A7 : Option Addr) (c7 : Nat) (op x5 x6 : List Int), v = .int .i64 k ∧ v7 = .slice A7 op.length c7 ∧ k ≤ xs.length ∧ op.length ≤ k ∧ Hd (∀ j ∈ op, 0 ≤ j ∧ j < (k : Int)) ∧ Hd (x5.length = xs.length ∧ x6.length = xs.length ∧ ∀ e ∈ x6, e < (xs.length : Int)) ∧ Hd (endsGo (xs.map (·.kind)) ((xs.map (·.kind)).drop k) k op x6 = R) ∧ Mem w wr [own Enc.i64 3 A7 c7 op, own Enc.i64 3 (some ⟨g2, 0, none⟩) xs.length x5, own Enc.i64 3 (some ⟨g4, 0, none⟩) xs.length x6]) (fun _ v _ => xs.length - (intOf v).toNat)
  case atStart =>
    refine ⟨0, none, 0, [], List.replicate xs.length (-1), List.replicate xs.length (-1), rfl, rfl, Nat.zero_le _, Nat.le_refl _, ⟨by simp⟩, ⟨by simp, by simp, fun e he => by rw [(List.mem_replicate.1 he).2]; omega⟩, ⟨by rw [← HRR.out]; unfold nests; simp⟩, H5⟩
  case round =>
    clear H5
    obtain ⟨k, A7, c7, op, x5, x6, rfl, rfl, hk, hop, OP, EL, HT, H1⟩ := hrel
    obtain ⟨wo, rfl⟩ : ∃ wo : World, wo = wr := ⟨_, rfl⟩
    by_cases hlt : k < xs.length
    · obtain ⟨t, ht⟩ : ∃ x, xs[k]? = some x := ⟨_, List.getElem?_eq_getElem hlt⟩
      obtain ⟨fb, fo, hA, p0, p1, p2, p3⟩ := HR.out.get4 rfl ht rfl
      have HRR2 := hid HR.out
      subst hA
      have e0 := H1.old p0
      have e1 := H1.old p1
      have e2 := H1.old p2
      have e3 := H1.old p3
      have htk : (xs.map (·.kind))[k]? = some t.kind := by rw [List.getElem?_map, ht]; rfl
      have HT2 : Hd (endsGo (xs.map (·.kind)) (t.kind :: (xs.map (·.kind)).drop (k + 1)) k op x6 = R) := ⟨by rw [← ends_at htk]; exact HT.out⟩
      obtain ⟨hc7, hc7'⟩ := (H1.own_rd 0 rfl (by decide)).2
      unfold maxLen at hc7'
      obtain ⟨kd, nm, tt, te⟩ := t
      simp only at e0 e1 e2 e3 HT2
      clear ht p0 p1 p2 p3 htk HT
      by_cases d5 : kd = 5
      · subst d5
        have HV : Hd (endsGo (xs.map (·.kind)) ((xs.map (·.kind)).drop (k + 1)) (k + 1) (op ++ [(k : Int)]) x6 = R) := ⟨by have hv := HT2.out; rw [endsGo, if_pos (by simp)] at hv; exact hv⟩
        clear HT2
        go_wp2_with (first
          | ((with_reducible refine at_alloc ?_); refine wpList_alloc_box H1 (.agg #[.int .i64 0, .string ByteArray.empty, .slice none 0 0, .slice none 0 0]) (by kernel_rfl) ?_; intro gH2 wH2 H2; simp only [splice, vcells_int, vcells_bool, vcells_string, vcells_pointer, vcells_slice, vcells_map, vcells_func, vcells_nilFunc, vcells_iface, vcells_nilIface, vcells_agg, List.take_zero, List.take_succ_cons, List.drop_zero, List.drop_succ_cons, List.length_cons, List.length_nil, List.nil_append, List.cons_append, List.append_nil, Nat.zero_add, List.set_cons_zero, List.set_cons_succ] at H2)
          | ((with_reducible refine at_store ?_); refine wpList_store_box H2 0 4 rfl rfl (by kernel_rfl) rfl (Nat.le_of_ble_eq_true rfl) rfl ?_; intro u_ wH3 hu_ H3; simp only [Act.eval, Act.put, List.setIfInBounds_toArray, List.set_cons_zero, List.set_cons_succ, Array.getD_eq_getD_getElem?, List.getElem?_toArray, List.getElem?_cons_zero, List.getElem?_cons_succ, Option.getD_some] at hu_; subst hu_; simp only [splice, vcells_int, vcells_bool, vcells_string, vcells_pointer, vcells_slice, vcells_map, vcells_func, vcells_nilFunc, vcells_iface, vcells_nilIface, vcells_agg, List.take_zero, List.take_succ_cons, List.drop_zero, List.drop_succ_cons, List.length_cons, List.length_nil, List.nil_append, List.cons_append, List.append_nil, Nat.zero_add, List.set_cons_zero, List.set_cons_succ] at H3; (try clear b0); have b0 := H3.cells 0 rfl; simp only [cellsAre, and_true, Nat.zero_add] at b0)
          | ((with_reducible refine at_build1 ?_); refine wpList_build1 elt_int H3 rfl rfl (by decide) ?_; intro u_ gH4 wH4 hu_ H4; simp only [Act.eval, Act.put, List.setIfInBounds_toArray, List.set_cons_zero, List.set_cons_succ, Array.getD_eq_getD_getElem?, List.getElem?_toArray, List.getElem?_cons_zero, List.getElem?_cons_succ, Option.getD_some] at hu_; subst hu_; simp only [splice, vcells_int, vcells_bool, vcells_string, vcells_pointer, vcells_slice, vcells_map, vcells_func, vcells_nilFunc, vcells_iface, vcells_nilIface, vcells_agg, List.take_zero, List.take_succ_cons, List.drop_zero, List.drop_succ_cons, List.length_cons, List.length_nil, List.nil_append, List.cons_append, List.append_nil, Nat.zero_add, List.set_cons_zero, List.set_cons_succ] at H4)
          | ((with_reducible refine at_append ?_); refine wpList_append_own1 (E := Enc.i64) elt_int H4 2 (k : Int) rfl rfl rfl rfl (H4.rd 0 rfl elt_int.pos).1 (by omega) (by decide) ?_; intro AH5 cH5 wH5 H5; simp only [List.set_cons_zero, List.set_cons_succ] at H5; replace H5 := H5.drop 0; simp only [List.eraseIdx_cons_zero] at H5))
        have H6 := H5.drop 0
        simp only [List.eraseIdx_cons_zero] at H6
        go_roundw
        case rel =>
          refine ⟨k + 1, AH5, cH5, op ++ [(k : Int)], x5, x6, by go_num, ?_, by omega, ?_, ⟨?_⟩, ⟨?_⟩, HV, H6⟩
          · rw [List.length_append]; rfl
          · rw [List.length_append]; simp; omega
          · exact fun j hj => by rcases List.mem_append.1 hj with h | h; (have := OP.out j h; omega); (rw [List.mem_singleton.1 h]; omega)
          · exact EL.out
        case measure => first | (simp [intOf]; done) | (simp [intOf]; omega)
      · have c5 : (kd == 5) = false := by simpa using d5
        by_cases d7 : kd = 7
        · subst d7
          have HV : Hd (endsGo (xs.map (·.kind)) ((xs.map (·.kind)).drop (k + 1)) (k + 1) (op ++ [(k : Int)]) x6 = R) := ⟨by have hv := HT2.out; rw [endsGo, if_pos (by simp)] at hv; exact hv⟩
          clear HT2
          go_wp2_with (first
            | ((with_reducible refine at_alloc ?_); refine wpList_alloc_box H1 (.agg #[.int .i64 0, .string ByteArray.empty, .slice none 0 0, .slice none 0 0]) (by kernel_rfl) ?_; intro gH2 wH2 H2; simp only [splice, vcells_int, vcells_bool, vcells_string, vcells_pointer, vcells_slice, vcells_map, vcells_func, vcells_nilFunc, vcells_iface, vcells_nilIface, vcells_agg, List.take_zero, List.take_succ_cons, List.drop_zero, List.drop_succ_cons, List.length_cons, List.length_nil, List.nil_append, List.cons_append, List.append_nil, Nat.zero_add, List.set_cons_zero, List.set_cons_succ] at H2)
            | ((with_reducible refine at_store ?_); refine wpList_store_box H2 0 4 rfl rfl (by kernel_rfl) rfl (Nat.le_of_ble_eq_true rfl) rfl ?_; intro u_ wH3 hu_ H3; simp only [Act.eval, Act.put, List.setIfInBounds_toArray, List.set_cons_zero, List.set_cons_succ, Array.getD_eq_getD_getElem?, List.getElem?_toArray, List.getElem?_cons_zero, List.getElem?_cons_succ, Option.getD_some] at hu_; subst hu_; simp only [splice, vcells_int, vcells_bool, vcells_string, vcells_pointer, vcells_slice, vcells_map, vcells_func, vcells_nilFunc, vcells_iface, vcells_nilIface, vcells_agg, List.take_zero, List.take_succ_cons, List.drop_zero, List.drop_succ_cons, List.length_cons, List.length_nil, List.nil_append, List.cons_append, List.append_nil, Nat.zero_add, List.set_cons_zero, List.set_cons_succ] at H3; (try clear b0); have b0 := H3.cells 0 rfl; simp only [cellsAre, and_true, Nat.zero_add] at b0)
            | ((with_reducible refine at_build1 ?_); refine wpList_build1 elt_int H3 rfl rfl (by decide) ?_; intro u_ gH4 wH4 hu_ H4; simp only [Act.eval, Act.put, List.setIfInBounds_toArray, List.set_cons_zero, List.set_cons_succ, Array.getD_eq_getD_getElem?, List.getElem?_toArray, List.getElem?_cons_zero, List.getElem?_cons_succ, Option.getD_some] at hu_; subst hu_; simp only [splice, vcells_int, vcells_bool, vcells_string, vcells_pointer, vcells_slice, vcells_map, vcells_func, vcells_nilFunc, vcells_iface, vcells_nilIface, vcells_agg, List.take_zero, List.take_succ_cons, List.drop_zero, List.drop_succ_cons, List.length_cons, List.length_nil, List.nil_append, List.cons_append, List.append_nil, Nat.zero_add, List.set_cons_zero, List.set_cons_succ] at H4)
            | ((with_reducible refine at_append ?_); refine wpList_append_own1 (E := Enc.i64) elt_int H4 2 (k : Int) rfl rfl rfl rfl (H4.rd 0 rfl elt_int.pos).1 (by omega) (by decide) ?_; intro AH5 cH5 wH5 H5; simp only [List.set_cons_zero, List.set_cons_succ] at H5; replace H5 := H5.drop 0; simp only [List.eraseIdx_cons_zero] at H5))
          have H6 := H5.drop 0
          simp only [List.eraseIdx_cons_zero] at H6
          go_roundw
          case rel =>
            refine ⟨k + 1, AH5, cH5, op ++ [(k : Int)], x5, x6, by go_num, ?_, by omega, ?_, ⟨?_⟩, ⟨?_⟩, HV, H6⟩
            · rw [List.length_append]; rfl
            · rw [List.length_append]; simp; omega
            · exact fun j hj => by rcases List.mem_append.1 hj with h | h; (have := OP.out j h; omega); (rw [List.mem_singleton.1 h]; omega)
            · exact EL.out
          case measure => first | (simp [intOf]; done) | (simp [intOf]; omega)
        · have c7k : (kd == 7) = false := by simpa using d7
          by_cases d6 : kd = 6
          · subst d6
            rcases List.eq_nil_or_concat op with h0 | ⟨op', j, h0⟩
            · subst h0
              have HV : Hd (false = R) := ⟨by have hv := HT2.out; rw [endsGo, if_neg (by simp), if_pos rfl] at hv; exact hv⟩
              clear HT2
              go_wp2_with (first
                | ((with_reducible refine at_alloc ?_); refine wpList_alloc_box H1 (.agg #[.int .i64 0, .string ByteArray.empty, .slice none 0 0, .slice none 0 0]) (by kernel_rfl) ?_; intro gH2 wH2 H2; simp only [splice, vcells_int, vcells_bool, vcells_string, vcells_pointer, vcells_slice, vcells_map, vcells_func, vcells_nilFunc, vcells_iface, vcells_nilIface, vcells_agg, List.take_zero, List.take_succ_cons, List.drop_zero, List.drop_succ_cons, List.length_cons, List.length_nil, List.nil_append, List.cons_append, List.append_nil, Nat.zero_add, List.set_cons_zero, List.set_cons_succ] at H2)
                | ((with_reducible refine at_store ?_); refine wpList_store_box H2 0 4 rfl rfl (by kernel_rfl) rfl (Nat.le_of_ble_eq_true rfl) rfl ?_; intro u_ wH3 hu_ H3; simp only [Act.eval, Act.put, List.setIfInBounds_toArray, List.set_cons_zero, List.set_cons_succ, Array.getD_eq_getD_getElem?, List.getElem?_toArray, List.getElem?_cons_zero, List.getElem?_cons_succ, Option.getD_some] at hu_; subst hu_; simp only [splice, vcells_int, vcells_bool, vcells_string, vcells_pointer, vcells_slice, vcells_map, vcells_func, vcells_nilFunc, vcells_iface, vcells_nilIface, vcells_agg, List.take_zero, List.take_succ_cons, List.drop_zero, List.drop_succ_cons, List.length_cons, List.length_nil, List.nil_append, List.cons_append, List.append_nil, Nat.zero_add, List.set_cons_zero, List.set_cons_succ] at H3; (try clear b0); have b0 := H3.cells 0 rfl; simp only [cellsAre, and_true, Nat.zero_add] at b0))
              refine bodyPost_ret (v := .tuple #[.slice none 0 0, .slice none 0 0, .bool false]) (by simp [results, Try.results35, go_sem]) rfl ?_
              refine ⟨.slice none 0 0, .slice none 0 0, ?_, H3.none⟩
              rw [← HV.out]
            · rw [List.concat_eq_append] at h0
              subst h0
              have hj := OP.out j (by simp)
              obtain ⟨q, rfl⟩ := Int.eq_ofNat_of_zero_le hj.1
              have hq : q < xs.length := by omega
              obtain ⟨tq, htq⟩ : ∃ x, xs[q]? = some x := ⟨_, List.getElem?_eq_getElem hq⟩
              obtain ⟨fb', fo', hA, q0, q1, q2, q3⟩ := HR.out.get4 rfl htq rfl
              obtain ⟨rfl, rfl⟩ : fb = fb' ∧ fo = fo' := by simpa using hA
              have d0 := H1.old q0
              have QO := hid q0
              have htk2 : (xs.map (·.kind)).getD q 0 = tq.kind := by rw [List.getD_eq_getElem?_getD, List.getElem?_map, htq]; rfl
              obtain ⟨y, hy⟩ : ∃ y, x6[q]? = some y := ⟨_, List.getElem?_eq_getElem (by rw [EL.out.2.1]; exact hq)⟩
              have hyd : x6.getD q 0 = y := by rw [List.getD_eq_getElem?_getD, hy]; rfl
              have hyb := EL.out.2.2 y (List.mem_of_getElem? hy)
              obtain ⟨i1, -⟩ := H1.own_get0 (g := g4) 2 rfl rfl hy rfl
              have hol : (op' ++ [(q : Int)]).length = op'.length + 1 := by simp
              obtain ⟨ob, oo, hA7, o1, -, -, -⟩ := H1.row_at 0 rfl (by rw [hol]; omega)
              subst hA7
              obtain ⟨j1, -⟩ := H1.own_get1 0 rfl rfl (k := op'.length) (x := (q : Int)) (by simp) rfl
              have hkq : (q : Int) < (xs.length : Int) := by omega
              have HYD := hid hyd
              have HYG := hid hy
              have HTK := hid htk2
              have HOL := hid hol
              rw [hol] at hc7 hop ⊢
              obtain ⟨kq, nq, tq', eq'⟩ := tq
              simp only at d0 HTK
              clear o1 hy hyd htq htk2 hol q0 q1 q2 q3 hA hj
              by_cases c1 : kq = 5
              · subst c1
                by_cases c2 : 0 ≤ y
                · have gg2 : decide ((0 : Int) ≤ y) = true := by simp; omega
                  have HV : Hd (false = R) := ⟨by have hv := HT2.out; rw [endsGo, if_neg (by simp), if_pos rfl, List.getLast?_concat] at hv; simp only [Int.toNat_natCast, HTK.out, if_true, HYD.out] at hv; rw [if_pos c2] at hv; exact hv⟩
                  clear HT2
                  go_wp2_with (first
                    | ((with_reducible refine at_alloc ?_); refine wpList_alloc_box H1 (.agg #[.int .i64 0, .string ByteArray.empty, .slice none 0 0, .slice none 0 0]) (by kernel_rfl) ?_; intro gH2 wH2 H2; simp only [splice, vcells_int, vcells_bool, vcells_string, vcells_pointer, vcells_slice, vcells_map, vcells_func, vcells_nilFunc, vcells_iface, vcells_nilIface, vcells_agg, List.take_zero, List.take_succ_cons, List.drop_zero, List.drop_succ_cons, List.length_cons, List.length_nil, List.nil_append, List.cons_append, List.append_nil, Nat.zero_add, List.set_cons_zero, List.set_cons_succ] at H2)
                    | (((with_reducible refine at_store ?_); refine wpList_store_box H2 0 4 rfl rfl (by kernel_rfl) rfl (Nat.le_of_ble_eq_true rfl) rfl ?_; intro u_ wH3 hu_ H3; simp only [Act.eval, Act.put, List.setIfInBounds_toArray, List.set_cons_zero, List.set_cons_succ, Array.getD_eq_getD_getElem?, List.getElem?_toArray, List.getElem?_cons_zero, List.getElem?_cons_succ, Option.getD_some] at hu_; subst hu_; simp only [splice, vcells_int, vcells_bool, vcells_string, vcells_pointer, vcells_slice, vcells_map, vcells_func, vcells_nilFunc, vcells_iface, vcells_nilIface, vcells_agg, List.take_zero, List.take_succ_cons, List.drop_zero, List.drop_succ_cons, List.length_cons, List.length_nil, List.nil_append, List.cons_append, List.append_nil, Nat.zero_add, List.set_cons_zero, List.set_cons_succ] at H3; (try clear b0); have b0 := H3.cells 0 rfl; simp only [cellsAre, and_true, Nat.zero_add] at b0); clear d0 i1 j1; have d0 := H3.old QO.out; have i1 := (H3.own_get0 (g := g4) 3 rfl rfl HYG.out rfl).1; have j1 := (H3.own_get1 1 rfl rfl (k := op'.length) (x := (q : Int)) (by simp) rfl).1))
                  refine bodyPost_ret (v := .tuple #[.slice none 0 0, .slice none 0 0, .bool false]) (by simp [results, Try.results35, go_sem]) rfl ?_
                  refine ⟨.slice none 0 0, .slice none 0 0, ?_, H3.none⟩
                  rw [← HV.out]
                · have gg2 : decide ((0 : Int) ≤ y) = false := by simp; omega
                  have HV : Hd (endsGo (xs.map (·.kind)) ((xs.map (·.kind)).drop (k + 1)) (k + 1) (op' ++ [(q : Int)]) (x6.set q (k : Int)) = R) := ⟨by have hv := HT2.out; rw [endsGo, if_neg (by simp), if_pos rfl, List.getLast?_concat] at hv; simp only [Int.toNat_natCast, HTK.out, if_true, HYD.out] at hv; rw [if_neg c2] at hv; exact hv⟩
                  clear HT2
                  have hlx : q < x6.length := by rw [EL.out.2.1]; exact hq
                  go_wp2_with (first
                    | ((with_reducible refine at_alloc ?_); refine wpList_alloc_box H1 (.agg #[.int .i64 0, .string ByteArray.empty, .slice none 0 0, .slice none 0 0]) (by kernel_rfl) ?_; intro gH2 wH2 H2; simp only [splice, vcells_int, vcells_bool, vcells_string, vcells_pointer, vcells_slice, vcells_map, vcells_func, vcells_nilFunc, vcells_iface, vcells_nilIface, vcells_agg, List.take_zero, List.take_succ_cons, List.drop_zero, List.drop_succ_cons, List.length_cons, List.length_nil, List.nil_append, List.cons_append, List.append_nil, Nat.zero_add, List.set_cons_zero, List.set_cons_succ] at H2)
                    | (((with_reducible refine at_store ?_); refine wpList_store_box H2 0 4 rfl rfl (by kernel_rfl) rfl (Nat.le_of_ble_eq_true rfl) rfl ?_; intro u_ wH3 hu_ H3; simp only [Act.eval, Act.put, List.setIfInBounds_toArray, List.set_cons_zero, List.set_cons_succ, Array.getD_eq_getD_getElem?, List.getElem?_toArray, List.getElem?_cons_zero, List.getElem?_cons_succ, Option.getD_some] at hu_; subst hu_; simp only [splice, vcells_int, vcells_bool, vcells_string, vcells_pointer, vcells_slice, vcells_map, vcells_func, vcells_nilFunc, vcells_iface, vcells_nilIface, vcells_agg, List.take_zero, List.take_succ_cons, List.drop_zero, List.drop_succ_cons, List.length_cons, List.length_nil, List.nil_append, List.cons_append, List.append_nil, Nat.zero_add, List.set_cons_zero, List.set_cons_succ] at H3; (try clear b0); have b0 := H3.cells 0 rfl; simp only [cellsAre, and_true, Nat.zero_add] at b0); clear d0 i1 j1; have d0 := H3.old QO.out; have i1 := (H3.own_get0 (g := g4) 3 rfl rfl HYG.out rfl).1; have j1 := (H3.own_get1 1 rfl rfl (k := op'.length) (x := (q : Int)) (by simp) rfl).1)
                    | ((with_reducible refine at_store ?_); refine wpList_store_own H3 3 q (k : Int) rfl rfl (by simp) rfl rfl (by kernel_rfl) hlx ?_; intro wH4 H4; simp only [List.set_cons_zero, List.set_cons_succ] at H4))
                  have H6 := H4.drop 0
                  simp only [List.eraseIdx_cons_zero] at H6
                  go_roundw
                  case rel =>
                    refine ⟨k + 1, _, c7, op' ++ [(q : Int)], x5, x6.set q (k : Int), by go_num, ?_, by omega, ?_, ⟨?_⟩, ⟨?_⟩, HV, H6⟩
                    · rw [HOL.out]
                    · rw [HOL.out]; omega
                    · exact fun j hj => by have := OP.out j hj; omega
                    · exact ⟨EL.out.1, by rw [List.length_set]; exact EL.out.2.1, fun e he => by rcases List.mem_or_eq_of_mem_set he with h | h; (exact EL.out.2.2 e h); (rw [h]; omega)⟩
                  case measure => first | (simp [intOf]; done) | (simp [intOf]; omega)
              · have gg1 : (kq == 5) = false := by simpa using c1
                have gg1' : (kq != 5) = true := by simpa using c1
                have HV : Hd (false = R) := ⟨by have hv := HT2.out; rw [endsGo, if_neg (by simp), if_pos rfl, List.getLast?_concat] at hv; simp only [Int.toNat_natCast, HTK.out, if_neg c1] at hv; exact hv⟩
                clear HT2 c1
                go_wp2_with (first
                  | ((with_reducible refine at_alloc ?_); refine wpList_alloc_box H1 (.agg #[.int .i64 0, .string ByteArray.empty, .slice none 0 0, .slice none 0 0]) (by kernel_rfl) ?_; intro gH2 wH2 H2; simp only [splice, vcells_int, vcells_bool, vcells_string, vcells_pointer, vcells_slice, vcells_map, vcells_func, vcells_nilFunc, vcells_iface, vcells_nilIface, vcells_agg, List.take_zero, List.take_succ_cons, List.drop_zero, List.drop_succ_cons, List.length_cons, List.length_nil, List.nil_append, List.cons_append, List.append_nil, Nat.zero_add, List.set_cons_zero, List.set_cons_succ] at H2)
                  | (((with_reducible refine at_store ?_); refine wpList_store_box H2 0 4 rfl rfl (by kernel_rfl) rfl (Nat.le_of_ble_eq_true rfl) rfl ?_; intro u_ wH3 hu_ H3; simp only [Act.eval, Act.put, List.setIfInBounds_toArray, List.set_cons_zero, List.set_cons_succ, Array.getD_eq_getD_getElem?, List.getElem?_toArray, List.getElem?_cons_zero, List.getElem?_cons_succ, Option.getD_some] at hu_; subst hu_; simp only [splice, vcells_int, vcells_bool, vcells_string, vcells_pointer, vcells_slice, vcells_map, vcells_func, vcells_nilFunc, vcells_iface, vcells_nilIface, vcells_agg, List.take_zero, List.take_succ_cons, List.drop_zero, List.drop_succ_cons, List.length_cons, List.length_nil, List.nil_append, List.cons_append, List.append_nil, Nat.zero_add, List.set_cons_zero, List.set_cons_succ] at H3; (try clear b0); have b0 := H3.cells 0 rfl; simp only [cellsAre, and_true, Nat.zero_add] at b0); clear d0 i1 j1; have d0 := H3.old QO.out; have i1 := (H3.own_get0 (g := g4) 3 rfl rfl HYG.out rfl).1; have j1 := (H3.own_get1 1 rfl rfl (k := op'.length) (x := (q : Int)) (by simp) rfl).1))
                refine bodyPost_ret (v := .tuple #[.slice none 0 0, .slice none 0 0, .bool false]) (by simp [results, Try.results35, go_sem]) rfl ?_
                refine ⟨.slice none 0 0, .slice none 0 0, ?_, H3.none⟩
                rw [← HV.out]
          · have c6 : (kd == 6) = false := by simpa using d6
            by_cases d8 : kd = 8
            · subst d8
              rcases List.eq_nil_or_concat op with h0 | ⟨op', j, h0⟩
              · subst h0
                have HV : Hd (false = R) := ⟨by have hv := HT2.out; rw [endsGo, if_neg (by simp), if_neg (by simp), if_pos rfl] at hv; exact hv⟩
                clear HT2
                go_wp2_with (first
                  | ((with_reducible refine at_alloc ?_); refine wpList_alloc_box H1 (.agg #[.int .i64 0, .string ByteArray.empty, .slice none 0 0, .slice none 0 0]) (by kernel_rfl) ?_; intro gH2 wH2 H2; simp only [splice, vcells_int, vcells_bool, vcells_string, vcells_pointer, vcells_slice, vcells_map, vcells_func, vcells_nilFunc, vcells_iface, vcells_nilIface, vcells_agg, List.take_zero, List.take_succ_cons, List.drop_zero, List.drop_succ_cons, List.length_cons, List.length_nil, List.nil_append, List.cons_append, List.append_nil, Nat.zero_add, List.set_cons_zero, List.set_cons_succ] at H2)
                  | ((with_reducible refine at_store ?_); refine wpList_store_box H2 0 4 rfl rfl (by kernel_rfl) rfl (Nat.le_of_ble_eq_true rfl) rfl ?_; intro u_ wH3 hu_ H3; simp only [Act.eval, Act.put, List.setIfInBounds_toArray, List.set_cons_zero, List.set_cons_succ, Array.getD_eq_getD_getElem?, List.getElem?_toArray, List.getElem?_cons_zero, List.getElem?_cons_succ, Option.getD_some] at hu_; subst hu_; simp only [splice, vcells_int, vcells_bool, vcells_string, vcells_pointer, vcells_slice, vcells_map, vcells_func, vcells_nilFunc, vcells_iface, vcells_nilIface, vcells_agg, List.take_zero, List.take_succ_cons, List.drop_zero, List.drop_succ_cons, List.length_cons, List.length_nil, List.nil_append, List.cons_append, List.append_nil, Nat.zero_add, List.set_cons_zero, List.set_cons_succ] at H3; (try clear b0); have b0 := H3.cells 0 rfl; simp only [cellsAre, and_true, Nat.zero_add] at b0))
                refine bodyPost_ret (v := .tuple #[.slice none 0 0, .slice none 0 0, .bool false]) (by simp [results, Try.results35, go_sem]) rfl ?_
                refine ⟨.slice none 0 0, .slice none 0 0, ?_, H3.none⟩
                rw [← HV.out]
              · rw [List.concat_eq_append] at h0
                subst h0
                have hj := OP.out j (by simp)
                obtain ⟨q, rfl⟩ := Int.eq_ofNat_of_zero_le hj.1
                have hq : q < xs.length := by omega
                obtain ⟨tq, htq⟩ : ∃ x, xs[q]? = some x := ⟨_, List.getElem?_eq_getElem hq⟩
                obtain ⟨fb', fo', hA, q0, q1, q2, q3⟩ := HR.out.get4 rfl htq rfl
                obtain ⟨rfl, rfl⟩ : fb = fb' ∧ fo = fo' := by simpa using hA
                have d0 := H1.old q0
                have QO := hid q0
                have htk2 : (xs.map (·.kind)).getD q 0 = tq.kind := by rw [List.getD_eq_getElem?_getD, List.getElem?_map, htq]; rfl
                obtain ⟨y, hy⟩ : ∃ y, x6[q]? = some y := ⟨_, List.getElem?_eq_getElem (by rw [EL.out.2.1]; exact hq)⟩
                have hyd : x6.getD q 0 = y := by rw [List.getD_eq_getElem?_getD, hy]; rfl
                have hyb := EL.out.2.2 y (List.mem_of_getElem? hy)
                obtain ⟨i1, -⟩ := H1.own_get0 (g := g4) 2 rfl rfl hy rfl
                have hol : (op' ++ [(q : Int)]).length = op'.length + 1 := by simp
                obtain ⟨ob, oo, hA7, o1, -, -, -⟩ := H1.row_at 0 rfl (by rw [hol]; omega)
                subst hA7
                obtain ⟨j1, -⟩ := H1.own_get1 0 rfl rfl (k := op'.length) (x := (q : Int)) (by simp) rfl
                have hkq : (q : Int) < (xs.length : Int) := by omega
                have HYD := hid hyd
                have HYG := hid hy
                have HTK := hid htk2
                have HOL := hid hol
                rw [hol] at hc7 hop ⊢
                obtain ⟨kq, nq, tq', eq'⟩ := tq
                simp only at d0 HTK
                clear o1 hy hyd htq htk2 hol q0 q1 q2 q3 hA hj
                have HV : Hd (endsGo (xs.map (·.kind)) ((xs.map (·.kind)).drop (k + 1)) (k + 1) op' x6 = R) := ⟨by have hv := HT2.out; rw [endsGo, if_neg (by simp), if_neg (by simp), if_pos rfl, List.getLast?_concat] at hv; simp only [List.dropLast_concat] at hv; exact hv⟩
                clear HT2
                have hlx : q < x5.length := by rw [EL.out.1]; exact hq
                have HOPE : Hd ((op' ++ [(q : Int)]).take op'.length = op') := ⟨List.take_left⟩
                by_cases c2 : 0 ≤ y
                · have gg2 : decide ((0 : Int) ≤ y) = true := by simp; omega
                  obtain ⟨z, rfl⟩ := Int.eq_ofNat_of_zero_le c2
                  have hlz : z < (x5.set q (k : Int)).length := by rw [List.length_set, EL.out.1]; omega
                  have hz1 : (z : Int) < (xs.length : Int) := hyb
                  go_wp2_with (first
                    | ((with_reducible refine at_alloc ?_); refine wpList_alloc_box H1 (.agg #[.int .i64 0, .string ByteArray.empty, .slice none 0 0, .slice none 0 0]) (by kernel_rfl) ?_; intro gH2 wH2 H2; simp only [splice, vcells_int, vcells_bool, vcells_string, vcells_pointer, vcells_slice, vcells_map, vcells_func, vcells_nilFunc, vcells_iface, vcells_nilIface, vcells_agg, List.take_zero, List.take_succ_cons, List.drop_zero, List.drop_succ_cons, List.length_cons, List.length_nil, List.nil_append, List.cons_append, List.append_nil, Nat.zero_add, List.set_cons_zero, List.set_cons_succ] at H2)
                    | (((with_reducible refine at_store ?_); refine wpList_store_box H2 0 4 rfl rfl (by kernel_rfl) rfl (Nat.le_of_ble_eq_true rfl) rfl ?_; intro u_ wH3 hu_ H3; simp only [Act.eval, Act.put, List.setIfInBounds_toArray, List.set_cons_zero, List.set_cons_succ, Array.getD_eq_getD_getElem?, List.getElem?_toArray, List.getElem?_cons_zero, List.getElem?_cons_succ, Option.getD_some] at hu_; subst hu_; simp only [splice, vcells_int, vcells_bool, vcells_string, vcells_pointer, vcells_slice, vcells_map, vcells_func, vcells_nilFunc, vcells_iface, vcells_nilIface, vcells_agg, List.take_zero, List.take_succ_cons, List.drop_zero, List.drop_succ_cons, List.length_cons, List.length_nil, List.nil_append, List.cons_append, List.append_nil, Nat.zero_add, List.set_cons_zero, List.set_cons_succ] at H3; (try clear b0); have b0 := H3.cells 0 rfl; simp only [cellsAre, and_true, Nat.zero_add] at b0); clear d0 i1 j1; have d0 := H3.old QO.out; have i1 := (H3.own_get0 (g := g4) 3 rfl rfl HYG.out rfl).1; have j1 := (H3.own_get1 1 rfl rfl (k := op'.length) (x := (q : Int)) (by simp) rfl).1)
                    | (((with_reducible refine at_store ?_); refine wpList_store_own H3 2 q (k : Int) rfl rfl (by simp) rfl rfl (by kernel_rfl) hlx ?_; intro wH4 H4; simp only [List.set_cons_zero, List.set_cons_succ] at H4); clear d0 i1 j1; have i1 := (H4.own_get0 (g := g4) 3 rfl rfl HYG.out rfl).1; have j1 := (H4.own_get1 1 rfl rfl (k := op'.length) (x := (q : Int)) (by simp) rfl).1)
                    | ((with_reducible refine at_store ?_); refine wpList_store_own H4 2 z (k : Int) rfl rfl (by simp) rfl rfl (by kernel_rfl) hlz ?_; intro wH5 H5; simp only [List.set_cons_zero, List.set_cons_succ] at H5))
                  have H6 := (H5.drop 0).row_take 0 rfl (k := op'.length) (by rw [HOL.out]; omega)
                  simp only [List.eraseIdx_cons_zero, List.set_cons_zero] at H6
                  rw [Enc.all_take, HOPE.out] at H6
                  go_roundw
                  case rel =>
                    refine ⟨k + 1, _, c7, op', (x5.set q (k : Int)).set z (k : Int), x6, by go_num, ?_, by omega, ?_, ⟨?_⟩, ⟨?_⟩, HV, H6⟩
                    · rfl
                    · omega
                    · exact fun j hj => by have := OP.out j (List.mem_append_left _ hj); omega
                    · exact ⟨by rw [List.length_set, List.length_set]; exact EL.out.1, EL.out.2⟩
                  case measure => first | (simp [intOf]; done) | (simp [intOf]; omega)
                · have gg2 : decide ((0 : Int) ≤ y) = false := by simp; omega
                  go_wp2_with (first
                    | ((with_reducible refine at_alloc ?_); refine wpList_alloc_box H1 (.agg #[.int .i64 0, .string ByteArray.empty, .slice none 0 0, .slice none 0 0]) (by kernel_rfl) ?_; intro gH2 wH2 H2; simp only [splice, vcells_int, vcells_bool, vcells_string, vcells_pointer, vcells_slice, vcells_map, vcells_func, vcells_nilFunc, vcells_iface, vcells_nilIface, vcells_agg, List.take_zero, List.take_succ_cons, List.drop_zero, List.drop_succ_cons, List.length_cons, List.length_nil, List.nil_append, List.cons_append, List.append_nil, Nat.zero_add, List.set_cons_zero, List.set_cons_succ] at H2)
                    | (((with_reducible refine at_store ?_); refine wpList_store_box H2 0 4 rfl rfl (by kernel_rfl) rfl (Nat.le_of_ble_eq_true rfl) rfl ?_; intro u_ wH3 hu_ H3; simp only [Act.eval, Act.put, List.setIfInBounds_toArray, List.set_cons_zero, List.set_cons_succ, Array.getD_eq_getD_getElem?, List.getElem?_toArray, List.getElem?_cons_zero, List.getElem?_cons_succ, Option.getD_some] at hu_; subst hu_; simp only [splice, vcells_int, vcells_bool, vcells_string, vcells_pointer, vcells_slice, vcells_map, vcells_func, vcells_nilFunc, vcells_iface, vcells_nilIface, vcells_agg, List.take_zero, List.take_succ_cons, List.drop_zero, List.drop_succ_cons, List.length_cons, List.length_nil, List.nil_append, List.cons_append, List.append_nil, Nat.zero_add, List.set_cons_zero, List.set_cons_succ] at H3; (try clear b0); have b0 := H3.cells 0 rfl; simp only [cellsAre, and_true, Nat.zero_add] at b0); clear d0 i1 j1; have d0 := H3.old QO.out; have i1 := (H3.own_get0 (g := g4) 3 rfl rfl HYG.out rfl).1; have j1 := (H3.own_get1 1 rfl rfl (k := op'.length) (x := (q : Int)) (by simp) rfl).1)
                    | (((with_reducible refine at_store ?_); refine wpList_store_own H3 2 q (k : Int) rfl rfl (by simp) rfl rfl (by kernel_rfl) hlx ?_; intro wH4 H4; simp only [List.set_cons_zero, List.set_cons_succ] at H4); clear d0 i1 j1; have i1 := (H4.own_get0 (g := g4) 3 rfl rfl HYG.out rfl).1; have j1 := (H4.own_get1 1 rfl rfl (k := op'.length) (x := (q : Int)) (by simp) rfl).1))
                  have H6 := (H4.drop 0).row_take 0 rfl (k := op'.length) (by rw [HOL.out]; omega)
                  simp only [List.eraseIdx_cons_zero, List.set_cons_zero] at H6
                  rw [Enc.all_take, HOPE.out] at H6
                  go_roundw
                  case rel =>
                    refine ⟨k + 1, _, c7, op', x5.set q (k : Int), x6, by go_num, ?_, by omega, ?_, ⟨?_⟩, ⟨?_⟩, HV, H6⟩
                    · rfl
                    · omega
                    · exact fun j hj => by have := OP.out j (List.mem_append_left _ hj); omega
                    · exact ⟨by rw [List.length_set]; exact EL.out.1, EL.out.2⟩
                  case measure => first | (simp [intOf]; done) | (simp [intOf]; omega)
            · have c8 : (kd == 8) = false := by simpa using d8
              have HV : Hd (endsGo (xs.map (·.kind)) ((xs.map (·.kind)).drop (k + 1)) (k + 1) op x6 = R) := ⟨by have hv := HT2.out; rw [endsGo, if_neg (by simp [d5, d7]), if_neg d6, if_neg d8] at hv; exact hv⟩
              clear HT2 d5 d6 d7 d8
              go_wp2_with (first
                | ((with_reducible refine at_alloc ?_); refine wpList_alloc_box H1 (.agg #[.int .i64 0, .string ByteArray.empty, .slice none 0 0, .slice none 0 0]) (by kernel_rfl) ?_; intro gH2 wH2 H2; simp only [splice, vcells_int, vcells_bool, vcells_string, vcells_pointer, vcells_slice, vcells_map, vcells_func, vcells_nilFunc, vcells_iface, vcells_nilIface, vcells_agg, List.take_zero, List.take_succ_cons, List.drop_zero, List.drop_succ_cons, List.length_cons, List.length_nil, List.nil_append, List.cons_append, List.append_nil, Nat.zero_add, List.set_cons_zero, List.set_cons_succ] at H2)
                | ((with_reducible refine at_store ?_); refine wpList_store_box H2 0 4 rfl rfl (by kernel_rfl) rfl (Nat.le_of_ble_eq_true rfl) rfl ?_; intro u_ wH3 hu_ H3; simp only [Act.eval, Act.put, List.setIfInBounds_toArray, List.set_cons_zero, List.set_cons_succ, Array.getD_eq_getD_getElem?, List.getElem?_toArray, List.getElem?_cons_zero, List.getElem?_cons_succ, Option.getD_some] at hu_; subst hu_; simp only [splice, vcells_int, vcells_bool, vcells_string, vcells_pointer, vcells_slice, vcells_map, vcells_func, vcells_nilFunc, vcells_iface, vcells_nilIface, vcells_agg, List.take_zero, List.take_succ_cons, List.drop_zero, List.drop_succ_cons, List.length_cons, List.length_nil, List.nil_append, List.cons_append, List.append_nil, Nat.zero_add, List.set_cons_zero, List.set_cons_succ] at H3; (try clear b0); have b0 := H3.cells 0 rfl; simp only [cellsAre, and_true, Nat.zero_add] at b0))
              have H6 := H3.drop 0
              simp only [List.eraseIdx_cons_zero] at H6
              go_roundw
              case rel =>
                refine ⟨k + 1, A7, c7, op, x5, x6, by go_num, ?_, by omega, ?_, ⟨?_⟩, ⟨?_⟩, HV, H6⟩
                · rfl
                · omega
                · exact fun j hj => by have := OP.out j hj; omega
                · exact EL.out
              case measure => first | (simp [intOf]; done) | (simp [intOf]; omega)
    · obtain rfl : k = xs.length := by omega
      have hv : decide (op = []) = R := by
        have h1 := HT.out
        rw [List.drop_eq_nil_of_le (by simp)] at h1
        exact h1
      have HV := hid hv
      clear hv
      by_cases h0 : op.length = 0
      · have h1 : op = [] := List.eq_nil_of_length_eq_zero h0
        subst h1
        go_wp2
        refine bodyPost_ret (v := .tuple #[.slice (some ⟨g2, 0, none⟩) xs.length xs.length, .slice (some ⟨g4, 0, none⟩) xs.length xs.length, .bool true]) (by simp [results, Try.results35, go_sem]) rfl ?_
        refine ⟨.slice (some ⟨g2, 0, none⟩) xs.length xs.length, .slice (some ⟨g4, 0, none⟩) xs.length xs.length, ?_, H1.none⟩
        rw [← HV.out]
        rfl
      · have h1 : 0 < op.length := by omega
        have h2 : (0 : Int) < (op.length : Int) := by omega
        have hn : ¬ op = [] := fun h => h0 (by rw [h]; rfl)
        have HN := hid hn
        clear hn h0
        go_wp2
        refine bodyPost_ret (v := .tuple #[.slice none 0 0, .slice none 0 0, .bool false]) (by simp [results, Try.results35, go_sem]) rfl ?_
        refine ⟨.slice none 0 0, .slice none 0 0, ?_, H1.none⟩
        rw [← HV.out, decide_eq_false HN.out]
end Go.Proofs.Ytogndpckiognjaa
