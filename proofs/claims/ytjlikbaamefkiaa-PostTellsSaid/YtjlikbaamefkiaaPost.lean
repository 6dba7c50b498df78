/- louverlaw15.PostTells: the law's walk. -/
import Derived.Test.YtjlikbaamefkiaaAwake
import Derived.Test.YtjlikbaamefkiaaDrawn
namespace Go.Proofs.Ytjlikbaamefkiaa
open Go.RowKit
set_option linter.unusedVariables false
set_option linter.unusedSimpArgs false
set_option maxHeartbeats 4000000

theorem listOk {n : Nat} {nx : Nat → List Nat} (hn : n ≤ 1000000) : ∀ r ∈ domTab nx n, r.length ≤ 17592186043904 := by
  intro r hr
  unfold domTab at hr
  obtain ⟨p, _, rfl⟩ := List.mem_map.1 hr
  rw [domRow_len]
  omega
/-- The i-th row when it is turned and two are behind it. -/
noncomputable def flipR (nx : Nat → List Nat) (n p : Nat) : List Bool := (domRow nx n p).map (!·) ++ [true, true]
noncomputable def tabF (nx : Nat → List Nat) (n i : Nat) : List (List Bool) := (List.range (n + 1)).map fun p => if p < i then flipR nx n p else domRow nx n p
theorem tabF_len (nx : Nat → List Nat) (n i : Nat) : (tabF nx n i).length = n + 1 := by simp [tabF]
theorem tabF_zero (nx : Nat → List Nat) (n : Nat) : tabF nx n 0 = domTab nx n := by simp [tabF, domTab]
theorem tabF_get {nx : Nat → List Nat} {n i p : Nat} (hp : p ≤ n) : (tabF nx n i)[p]? = some (if p < i then flipR nx n p else domRow nx n p) := by
  unfold tabF
  rw [List.getElem?_map, List.getElem?_range (by omega)]
  rfl
theorem tabF_self {nx : Nat → List Nat} {n i : Nat} (hi : i ≤ n) : (tabF nx n i)[i]? = some (domRow nx n i) := by rw [tabF_get hi, if_neg (Nat.lt_irrefl _)]
theorem tabF_set {nx : Nat → List Nat} {n i : Nat} (hi : i ≤ n) : (tabF nx n i).set i (flipR nx n i) = tabF nx n (i + 1) := by
  apply List.ext_getElem?
  intro k
  by_cases hk : k ≤ n
  · by_cases e : i = k
    · subst e
      rw [List.getElem?_set_self (by rw [tabF_len]; omega), tabF_get hi, if_pos (by omega)]
    · rw [List.getElem?_set_ne e, tabF_get hk, tabF_get hk]
      by_cases h : k < i
      · rw [if_pos h, if_pos (by omega)]
      · rw [if_neg h, if_neg (by omega)]
  · rw [List.getElem?_eq_none (by simp [tabF_len]; omega), List.getElem?_eq_none (by rw [tabF_len]; omega)]
theorem flipR_len (nx : Nat → List Nat) (n p : Nat) : (flipR nx n p).length = n + 3 := by simp [flipR, domRow_len]
theorem flipR_get {nx : Nat → List Nat} {n p q : Nat} (hq : q ≤ n) : (flipR nx n p)[q]? = some (!domB nx n q p) := by
  unfold flipR
  rw [List.getElem?_append_left (by simp [domRow_len]; omega), List.getElem?_map, domRow_get hq]
  rfl
theorem Mem.none {w0 w : World} {As : List HP} (H : Mem w0 w As) : Mem w0 w [] := by
  obtain ⟨F, hs, hF, hb⟩ := H.out
  exact ⟨fun _ => False, fun _ h => h, fun _ h => h.elim, hb⟩
theorem Rd.cell1 {α : Type} {E : Enc α} {w : World} {b o : Nat} {xs : List α} (h : Rd E w (some ⟨b, o, none⟩) xs) (hs : E.sz = 1) {k : Nat} {x : α} (hk : xs[k]? = some x) {v : Value} (hv : E.enc x = [v]) : w.cell? ⟨b, o + k, none⟩ = some v := by
  obtain ⟨b', o', e, hc⟩ := h.get1 hs hk hv
  obtain ⟨rfl, rfl⟩ : b = b' ∧ o = o' := by simpa using e
  exact hc
theorem rows_true {nx : Nat → List Nat} {n : Nat} {A B : Option Addr} {c d : Nat} {hs gs : List Hdr} {w : World} (hx : RdRows Enc.bool w A (domTab nx n) hs) (hy : RdRows Enc.bool w B (domTab nx n) gs) (hn : n ≤ 1000000) :
    Calls Try.prog 10 #[.slice A (n + 1) c, .slice B (n + 1) d] w fun e w' => e = .returned (.bool true) ∧ Mem w w' [] := by
  have h := rows_calls A B c d (domTab nx n) (domTab nx n) hs gs w hx hy (by rw [domTab_len]; omega) (by rw [domTab_len]; omega) (listOk hn) (listOk hn)
  rw [domTab_len] at h
  exact h.mono (by rintro e w' ⟨rfl, h⟩; exact ⟨by simp, h⟩)
theorem ints_true {nx : Nat → List Nat} {n : Nat} {A B : Option Addr} {c d : Nat} {w : World} (hx : Rd Enc.i64 w A (treeL nx n)) (hy : Rd Enc.i64 w B (treeL nx n)) (hn : n ≤ 1000000) :
    Calls Try.prog 11 #[.slice A (n + 1) c, .slice B (n + 1) d] w fun e w' => e = .returned (.bool true) ∧ Mem w w' [] := by
  have h := ints_calls A B c d (treeL nx n) (treeL nx n) w hx hy (by rw [treeL_len]; omega) (by rw [treeL_len]; omega)
  rw [treeL_len] at h
  exact h.mono (by rintro e w' ⟨rfl, h⟩; exact ⟨by simp, h⟩)
set_option maxRecDepth 100000 in
theorem postTells_calls (f : Fun) (h : FunH) (w : World) (hR0 : f.code.length ≤ 40 → f.Rd w h) (hcl : f.code.length ≤ 9223372036854775807) (p q : Int) (ho : ∀ i ∈ f.code, -9223372036854775808 ≤ i.a ∧ i.a ≤ 9223372036854775807) :
    Calls Try.prog 3 #[f.val h, I p, I q] w fun e w' => e = .returned (.bool true) ∧ Mem w w' [] := by
  by_cases hn : f.code.length ≤ 40
  · have hR := hR0 hn
    have hn6 : f.code.length ≤ 1000000 := by omega
    have HR := hid hR
    have FA := hid (fun (w' : World) (h : FunH) (hR' : f.Rd w' h) => all_calls f h w' hR' hn6 ho)
    have FB := hid (fun (w' : World) (h : FunH) (hR' : f.Rd w' h) => all15_calls f h w' hR' hn6 ho)
    have FT := hid (fun (w' : World) (h : FunH) (hR' : f.Rd w' h) => tree_calls f h w' hR' hn6 ho)
    have FU := hid (fun (w' : World) (h : FunH) (hR' : f.Rd w' h) => tree15_calls f h w' hR' hn6 ho)
    have FN := hid (fun (w' : World) (h : FunH) (hR' : f.Rd w' h) (p : Int) => near_calls f h w' hR' hn6 ho p)
    have FM := hid (fun (w' : World) (h : FunH) (hR' : f.Rd w' h) (p : Int) => nearR_calls f h w' hR' hn6 ho p)
    have FD := hid (fun (w' : World) (h : FunH) (hR' : f.Rd w' h) (q p : Int) => dom_calls f h w' hR' hn6 ho q p)
    have FE := hid (fun (w' : World) (h : FunH) (hR' : f.Rd w' h) (q p : Int) => dom15_calls f h w' hR' hn6 ho q p)
    have FK := hid (fun (w' : World) (h k : FunH) (hM : Marked w' f h) (hR' : f.Rd w' k) => keptFunction_calls f h k w' hM hR')
    have FL := hid (lentFunction_calls f)
    clear hR ho
    obtain ⟨lv, ps, rs, lo, st, code⟩ := f
    obtain ⟨A1, c1, A2, c2, A5, c5⟩ := h
    simp only [] at hn hn6
    have H0 := Mem.refl w
    simp only [Fun.val] at *
    go_enter Try.func3, Try.ntmps3
    go_wp2_with (first
      | ((with_reducible refine at_box ?_); refine wpList_box_box H0 ?_; intro u_ gH1 wH1 hu_ H1; simp only [Act.eval, Act.put, List.setIfInBounds_toArray, List.set_cons_zero, List.set_cons_succ, Array.getD_eq_getD_getElem?, List.getElem?_toArray, List.getElem?_cons_zero, List.getElem?_cons_succ, Option.getD_some] at hu_; subst hu_; simp only [splice, vcells_int, vcells_bool, vcells_string, vcells_pointer, vcells_slice, vcells_map, vcells_func, vcells_nilFunc, vcells_iface, vcells_nilIface, vcells_agg, List.take_zero, List.take_succ_cons, List.drop_zero, List.drop_succ_cons, List.length_cons, List.length_nil, List.nil_append, List.cons_append, List.append_nil, Nat.zero_add, List.set_cons_zero, List.set_cons_succ] at H1; (try clear b0); have b0 := H1.cells 0 rfl; simp only [cellsAre, and_true, Nat.zero_add] at b0)
      | ((go_at_call 5; (with_reducible refine (FL.out _ _ (Fun.Rd.below HR.out H1.below)).mono ?_); rintro e w2 ⟨⟨D1, d1, D2, d2, D5, d5⟩, rfl, l1, l2, l5, H2'⟩; have H2 := H1.call H2'; simp only [List.cons_append, List.nil_append, lentP] at H2 l1 l2 l5; (try clear b0)); (try clear b0); have b0 := H2.cells 3 rfl; simp only [cellsAre, and_true, Nat.zero_add] at b0)
      | ((with_reducible refine at_alloc ?_); refine wpList_alloc_box H2 (.agg #[.int .u64 0, .slice none 0 0, .slice none 0 0, .int .i64 0, .int .i64 0, .slice none 0 0]) (by kernel_rfl) ?_; intro gH3 wH3 H3; simp only [splice, vcells_int, vcells_bool, vcells_string, vcells_pointer, vcells_slice, vcells_map, vcells_func, vcells_nilFunc, vcells_iface, vcells_nilIface, vcells_agg, List.take_zero, List.take_succ_cons, List.drop_zero, List.drop_succ_cons, List.length_cons, List.length_nil, List.nil_append, List.cons_append, List.append_nil, Nat.zero_add, List.set_cons_zero, List.set_cons_succ] at H3; (try clear b0); have b0 := H3.cells 4 rfl; simp only [cellsAre, and_true, Nat.zero_add] at b0)
      | ((with_reducible refine at_store ?_); refine wpList_store_box H3 0 6 rfl rfl (by kernel_rfl) rfl (Nat.le_of_ble_eq_true rfl) rfl ?_; intro u_ wH4 hu_ H4; simp only [Act.eval, Act.put, List.setIfInBounds_toArray, List.set_cons_zero, List.set_cons_succ, Array.getD_eq_getD_getElem?, List.getElem?_toArray, List.getElem?_cons_zero, List.getElem?_cons_succ, Option.getD_some] at hu_; subst hu_; simp only [splice, vcells_int, vcells_bool, vcells_string, vcells_pointer, vcells_slice, vcells_map, vcells_func, vcells_nilFunc, vcells_iface, vcells_nilIface, vcells_agg, List.take_zero, List.take_succ_cons, List.drop_zero, List.drop_succ_cons, List.length_cons, List.length_nil, List.nil_append, List.cons_append, List.append_nil, Nat.zero_add, List.set_cons_zero, List.set_cons_succ] at H4; (try clear b8); have b8 := H4.cells 0 rfl; simp only [cellsAre, and_true, Nat.zero_add] at b8; (try clear b0); have b0 := H4.cells 4 rfl; simp only [cellsAre, and_true, Nat.zero_add] at b0)
      | ((go_at_call 6; (with_reducible refine (FB.out _ ⟨A1, c1, A2, c2, A5, c5⟩ (Fun.Rd.below HR.out H4.below)).mono ?_); rintro e w5 ⟨B9, e9, h9, rfl, k9, n9, f9, H5'⟩; have H5 := H4.call H5'; simp only [List.cons_append, List.nil_append, domTab_len] at H5 n9 ⊢; have N9 := hid n9; have F9 := hid f9; clear n9 f9 k9 H5'; (try clear b8 b0)); (try clear b8); have b8 := H5.cells 2 rfl; simp only [cellsAre, and_true, Nat.zero_add] at b8; (try clear b0); have b0 := H5.cells 6 rfl; simp only [cellsAre, and_true, Nat.zero_add] at b0)
      | ((go_at_call 7; (with_reducible refine (FA.out _ ⟨D1, d1, D2, d2, D5, d5⟩ (H5.marked (f := ⟨lv, ps, rs, lo, st, code⟩) (h := ⟨D1, d1, D2, d2, D5, d5⟩) 3 4 5 rfl rfl rfl l5 l2 l1 HR.out.b1 HR.out.b2 HR.out.b5).rd).mono ?_); rintro e w6 ⟨B10, e10, h10, rfl, k10, n10, f10, H6'⟩; have H6 := H5.call H6'; simp only [List.cons_append, List.nil_append, domTab_len] at H6 n10 ⊢; have N10 := hid n10; have F10 := hid f10; clear n10 f10 k10 H6'; (try clear b8 b0)); (try clear b8); have b8 := H6.cells 4 rfl; simp only [cellsAre, and_true, Nat.zero_add] at b8; (try clear b0); have b0 := H6.cells 8 rfl; simp only [cellsAre, and_true, Nat.zero_add] at b0)
      | ((go_at_call 7; (with_reducible refine (FA.out _ ⟨D1, d1, D2, d2, D5, d5⟩ (H6.marked (f := ⟨lv, ps, rs, lo, st, code⟩) (h := ⟨D1, d1, D2, d2, D5, d5⟩) 5 6 7 rfl rfl rfl l5 l2 l1 HR.out.b1 HR.out.b2 HR.out.b5).rd).mono ?_); rintro e w7 ⟨B11, e11, h11, rfl, k11, n11, f11, H7'⟩; have H7 := H6.call H7'; simp only [List.cons_append, List.nil_append, domTab_len] at H7 n11 ⊢; have N11 := hid n11; have F11 := hid f11; clear n11 f11 k11 H7'; (try clear b8 b0)); (try clear b8); have b8 := H7.cells 6 rfl; simp only [cellsAre, and_true, Nat.zero_add] at b8; (try clear b0); have b0 := H7.cells 10 rfl; simp only [cellsAre, and_true, Nat.zero_add] at b0)
      | ((go_at_call 8; (with_reducible refine (FT.out _ ⟨D1, d1, D2, d2, D5, d5⟩ (H7.marked (f := ⟨lv, ps, rs, lo, st, code⟩) (h := ⟨D1, d1, D2, d2, D5, d5⟩) 7 8 9 rfl rfl rfl l5 l2 l1 HR.out.b1 HR.out.b2 HR.out.b5).rd).mono ?_); rintro e w8 ⟨⟨B12, e12, rfl, k12, H8'⟩, hA12⟩; have H8 := H7.call H8'; simp only [List.cons_append, List.nil_append, treeL_len] at H8 ⊢; have K12 := k12; have NA12 := hid hA12; clear hA12 k12; clear H8'; (try clear b8 b0)); (try clear b8); have b8 := H8.cells 7 rfl; simp only [cellsAre, and_true, Nat.zero_add] at b8; (try clear b0); have b0 := H8.cells 11 rfl; simp only [cellsAre, and_true, Nat.zero_add] at b0)
      | ((go_at_call 8; (with_reducible refine (FT.out _ ⟨D1, d1, D2, d2, D5, d5⟩ (H8.marked (f := ⟨lv, ps, rs, lo, st, code⟩) (h := ⟨D1, d1, D2, d2, D5, d5⟩) 8 9 10 rfl rfl rfl l5 l2 l1 HR.out.b1 HR.out.b2 HR.out.b5).rd).mono ?_); rintro e w9 ⟨⟨B13, e13, rfl, k13, H9'⟩, hA13⟩; have H9 := H8.call H9'; simp only [List.cons_append, List.nil_append, treeL_len] at H9 ⊢; have K13 := k13; have NA13 := hid hA13; clear hA13 k13; clear H9'; (try clear b8 b0)); (try clear b8); have b8 := H9.cells 8 rfl; simp only [cellsAre, and_true, Nat.zero_add] at b8; (try clear b0); have b0 := H9.cells 12 rfl; simp only [cellsAre, and_true, Nat.zero_add] at b0)
      | ((go_at_call 9; (with_reducible refine (FU.out _ ⟨A1, c1, A2, c2, A5, c5⟩ (Fun.Rd.below HR.out H9.below)).mono ?_); rintro e w10 ⟨B14, e14, rfl, k14, H10'⟩; have H10 := H9.call H10'; simp only [List.cons_append, List.nil_append, treeL_len] at H10 ⊢; clear k14; clear H10'; (try clear b8 b0)); (try clear b8); have b8 := H10.cells 9 rfl; simp only [cellsAre, and_true, Nat.zero_add] at b8; (try clear b0); have b0 := H10.cells 13 rfl; simp only [cellsAre, and_true, Nat.zero_add] at b0))
    go_wp2_with (first
      | (go_at_call 10; (with_reducible refine (rows_true (H10.rdRows 6 5 rfl rfl (by rw [N10.out, domTab_len]) F10.out (by decide)) (H10.rdRows 8 7 rfl rfl (by rw [N9.out, domTab_len]) F9.out (by decide)) hn6).mono ?_); rintro e w11 ⟨rfl, H11'⟩; have H11 := H10.call H11'; simp only [List.nil_append] at H11; clear H11')
      | (go_at_call 10; (with_reducible refine (rows_true (H11.rdRows 4 3 rfl rfl (by rw [N11.out, domTab_len]) F11.out (by decide)) (H11.rdRows 8 7 rfl rfl (by rw [N9.out, domTab_len]) F9.out (by decide)) hn6).mono ?_); rintro e w12 ⟨rfl, H12'⟩; have H12 := H11.call H12'; simp only [List.nil_append] at H12; clear H12')
      | (go_at_call 11; (with_reducible refine (ints_true (H12.own_rd 2 rfl (by decide)).1 (H12.own_rd 0 rfl (by decide)).1 hn6).mono ?_); rintro e w13 ⟨rfl, H13'⟩; have H13 := H12.call H13'; simp only [List.nil_append] at H13; clear H13')
      | (go_at_call 11; (with_reducible refine (ints_true (H13.own_rd 1 rfl (by decide)).1 (H13.own_rd 0 rfl (by decide)).1 hn6).mono ?_); rintro e w14 ⟨rfl, H14'⟩; have H14 := H13.call H14'; simp only [List.nil_append] at H14; clear H14'))
    clear H13 H12 H11 H10 H9 H8 H7 H6 H5 H4 H3 H2 H2' H1 b0 b8
    obtain ⟨b14, o14, rfl, -⟩ := (H14.own_rd 0 rfl (by decide)).1.get1 rfl (treeL_get (Nat.zero_le _)) rfl
    obtain ⟨b9, o9, A9, c9, rfl, e9', -, r9⟩ := ((H14.rdRows 8 7 rfl rfl (by rw [N9.out, domTab_len]) F9.out (by decide))).row (domTab_get (Nat.zero_le _))
    obtain ⟨br, ob, rfl, -⟩ := r9.get1 rfl (domRow_get (Nat.zero_le _)) rfl
    obtain ⟨⟨Ah, nh, ch⟩, hh9⟩ : ∃ hd, h9[0]? = some hd := ⟨_, List.getElem?_eq_getElem (by rw [N9.out]; omega)⟩
    have hnh := F9.out 0 _ _ hh9 (domTab_get (Nat.zero_le _))
    simp only [domRow_len] at hnh
    subst hnh
    have r9' := (H14.rows_get 7 rfl (by decide) hh9 (domTab_get (Nat.zero_le _))).1
    simp only [] at r9'
    obtain ⟨bh, oh, rfl, -⟩ := r9'.get1 rfl (domRow_get (Nat.zero_le _)) rfl
    have HS : Hd (∀ (i : Nat), i ≤ code.length → ∀ w', Mem w w' [own Enc.i64 3 (some ⟨b14, o14, none⟩) e14 (treeL (nxt code) code.length), own Enc.i64 3 B13 e13 (treeL (nxt code) code.length), own Enc.i64 3 B12 e12 (treeL (nxt code) code.length), rowsP Enc.bool 4 h11 (domTab (nxt code) code.length), own Enc.hdr 39 B11 e11 h11, rowsP Enc.bool 4 h10 (domTab (nxt code) code.length), own Enc.hdr 39 B10 e10 h10, rowsP Enc.bool 4 h9 (domTab (nxt code) code.length), own Enc.hdr 39 (some ⟨b9, o9, none⟩) e9 h9, box gH3 27 #[.int .u64 lv, .slice D1 ps.length d1, .slice D2 rs.length d2, .int .i64 lo, .int .i64 st, .slice D5 code.length d5], row 63 Enc.ins.sz D5 (code.length + 1) d5 (Enc.ins.all code ++ [I (-71), I 0]), row 23 Enc.u64.sz D2 (rs.length + 1) d2 (Enc.u64.all rs ++ [U 7171]), row 23 Enc.u64.sz D1 (ps.length + 1) d1 (Enc.u64.all ps ++ [U 7171]), box gH1 27 #[.int .u64 lv, .slice A1 ps.length c1, .slice A2 rs.length c2, .int .i64 lo, .int .i64 st, .slice A5 code.length c5]] → w'.cell? ⟨gH3, 0, none⟩ = some (.int .u64 lv) ∧ w'.cell? ⟨gH3, 1, none⟩ = some (.slice D1 ps.length d1) ∧ w'.cell? ⟨gH3, 2, none⟩ = some (.slice D2 rs.length d2) ∧ w'.cell? ⟨gH3, 3, none⟩ = some (.int .i64 lo) ∧ w'.cell? ⟨gH3, 4, none⟩ = some (.int .i64 st) ∧ w'.cell? ⟨gH3, 5, none⟩ = some (.slice D5 code.length d5) ∧ w'.cell? ⟨b14, o14 + i, none⟩ = some (I (nearI (nxt code) code.length i)) ∧ w'.cell? ⟨b9, o9, none⟩ = some (.slice (some ⟨bh, oh, none⟩) (code.length + 1) ch) ∧ w'.cell? ⟨bh, oh + i, none⟩ = some (.bool (domB (nxt code) code.length i 0))) := ⟨fun i hi w' H => ⟨(H.box_cell 9 rfl).1 0, (H.box_cell 9 rfl).1 1, (H.box_cell 9 rfl).1 2, (H.box_cell 9 rfl).1 3, (H.box_cell 9 rfl).1 4, (H.box_cell 9 rfl).1 5, (H.own_get1 0 rfl rfl (treeL_get hi) rfl).1, (H.own_get1 8 rfl rfl hh9 rfl).1, (Rd.cell1 (H.rows_get 7 rfl (by decide) hh9 (domTab_get (Nat.zero_le _))).1 rfl (domRow_get hi) rfl)⟩⟩
    clear e9' r9 r9' hh9
    go_loopw [15] (fun v15 wr => ∃ (i : Nat), v15 = .int .i64 i ∧ i ≤ code.length + 1 ∧ Mem w wr [own Enc.i64 3 (some ⟨b14, o14, none⟩) e14 (treeL (nxt code) code.length), own Enc.i64 3 B13 e13 (treeL (nxt code) code.length), own Enc.i64 3 B12 e12 (treeL (nxt code) code.length), rowsP Enc.bool 4 h11 (domTab (nxt code) code.length), own Enc.hdr 39 B11 e11 h11, rowsP Enc.bool 4 h10 (domTab (nxt code) code.length), own Enc.hdr 39 B10 e10 h10, rowsP Enc.bool 4 h9 (domTab (nxt code) code.length), own Enc.hdr 39 (some ⟨b9, o9, none⟩) e9 h9, box gH3 27 #[.int .u64 lv, .slice D1 ps.length d1, .slice D2 rs.length d2, .int .i64 lo, .int .i64 st, .slice D5 code.length d5], row 63 Enc.ins.sz D5 (code.length + 1) d5 (Enc.ins.all code ++ [I (-71), I 0]), row 23 Enc.u64.sz D2 (rs.length + 1) d2 (Enc.u64.all rs ++ [U 7171]), row 23 Enc.u64.sz D1 (ps.length + 1) d1 (Enc.u64.all ps ++ [U 7171]), box gH1 27 #[.int .u64 lv, .slice A1 ps.length c1, .slice A2 rs.length c2, .int .i64 lo, .int .i64 st, .slice A5 code.length c5]]) (fun v _ => code.length + 1 - (intOf v).toNat)
    case atStart => exact ⟨0, rfl, Nat.zero_le _, H14⟩
    case round =>
      clear H14
      obtain ⟨i, rfl, hi, H15⟩ := hrel
      obtain ⟨wo, rfl⟩ : ∃ wo : World, wo = wr := ⟨_, rfl⟩
      by_cases hlt : i < code.length + 1
      · have hcase : (nearI (nxt code) code.length i = -1 ∧ nearZV (nxt code) code.length (i : Int) = .tuple #[I 0, .bool false]) ∨ ∃ m : Nat, nearI (nxt code) code.length i = (m : Int) ∧ nearZV (nxt code) code.length (i : Int) = .tuple #[I m, .bool true] := by
          have hz : nrZ (nxt code) code.length (i : Int) = nearI (nxt code) code.length i := by unfold nrZ; rw [if_pos ⟨by omega, by omega⟩]; rfl
          unfold nearZV
          rw [hz]
          rcases nrZ_cases (nxt code) code.length (i : Int) with h | ⟨m, _, h⟩
          · rw [hz] at h; rw [h]; exact .inl ⟨rfl, rfl⟩
          · rw [hz] at h; rw [h]; exact .inr ⟨m, rfl, by simp⟩
        have hdz : domZ (nxt code) code.length (i : Int) 0 = domB (nxt code) code.length i 0 := domZ_nat (p := 0) (by omega) (Nat.zero_le _)
        have HDZ := hid hdz
        clear hdz
        have b8 := H15.cells 9 rfl
        simp only [cellsAre, and_true, Nat.zero_add] at b8
        rcases hcase with ⟨q1, q2⟩ | ⟨m, q1, q2⟩
        · have Q1 := hid q1
          have Q2 := hid q2
          clear q1 q2
          go_wp2_with (first
            | (go_at_call 12; (with_reducible refine (FN.out _ ⟨D1, d1, D2, d2, D5, d5⟩ (H15.marked (f := ⟨lv, ps, rs, lo, st, code⟩) (h := ⟨D1, d1, D2, d2, D5, d5⟩) 10 11 12 rfl rfl rfl l5 l2 l1 HR.out.b1 HR.out.b2 HR.out.b5).rd (i : Int)).mono ?_); rintro e w16 ⟨rfl, H16'⟩; rw [Q2.out]; have H16 := H15.call H16'; simp only [List.nil_append] at H16; clear H16'))
          obtain ⟨d, hd⟩ : ∃ d, d = domB (nxt code) code.length i 0 := ⟨_, rfl⟩
          have HDD := hid hd
          clear hd
          have HS2 : Hd (∀ w', Mem w w' [own Enc.i64 3 (some ⟨b14, o14, none⟩) e14 (treeL (nxt code) code.length), own Enc.i64 3 B13 e13 (treeL (nxt code) code.length), own Enc.i64 3 B12 e12 (treeL (nxt code) code.length), rowsP Enc.bool 4 h11 (domTab (nxt code) code.length), own Enc.hdr 39 B11 e11 h11, rowsP Enc.bool 4 h10 (domTab (nxt code) code.length), own Enc.hdr 39 B10 e10 h10, rowsP Enc.bool 4 h9 (domTab (nxt code) code.length), own Enc.hdr 39 (some ⟨b9, o9, none⟩) e9 h9, box gH3 27 #[.int .u64 lv, .slice D1 ps.length d1, .slice D2 rs.length d2, .int .i64 lo, .int .i64 st, .slice D5 code.length d5], row 63 Enc.ins.sz D5 (code.length + 1) d5 (Enc.ins.all code ++ [I (-71), I 0]), row 23 Enc.u64.sz D2 (rs.length + 1) d2 (Enc.u64.all rs ++ [U 7171]), row 23 Enc.u64.sz D1 (ps.length + 1) d1 (Enc.u64.all ps ++ [U 7171]), box gH1 27 #[.int .u64 lv, .slice A1 ps.length c1, .slice A2 rs.length c2, .int .i64 lo, .int .i64 st, .slice A5 code.length c5]] → w'.cell? ⟨gH3, 0, none⟩ = some (.int .u64 lv) ∧ w'.cell? ⟨gH3, 1, none⟩ = some (.slice D1 ps.length d1) ∧ w'.cell? ⟨gH3, 2, none⟩ = some (.slice D2 rs.length d2) ∧ w'.cell? ⟨gH3, 3, none⟩ = some (.int .i64 lo) ∧ w'.cell? ⟨gH3, 4, none⟩ = some (.int .i64 st) ∧ w'.cell? ⟨gH3, 5, none⟩ = some (.slice D5 code.length d5) ∧ w'.cell? ⟨b14, o14 + i, none⟩ = some (I (-1)) ∧ w'.cell? ⟨b9, o9, none⟩ = some (.slice (some ⟨bh, oh, none⟩) (code.length + 1) ch) ∧ w'.cell? ⟨bh, oh + i, none⟩ = some (.bool d)) := ⟨fun w' H => by have := HS.out i (by omega) w' H; rw [Q1.out, ← HDD.out] at this; exact this⟩
          have hdd : (d != d) = false := by cases d <;> rfl
          have hi1 : (i : Int) < (code.length : Int) + 1 := by omega
          have hi0 : (0 : Int) ≤ (i : Int) := by omega
          clear b8
          go_cut [116] from 79 to 115 (fun v116 wc => v116 = .bool false ∧ Mem w wc [own Enc.i64 3 (some ⟨b14, o14, none⟩) e14 (treeL (nxt code) code.length), own Enc.i64 3 B13 e13 (treeL (nxt code) code.length), own Enc.i64 3 B12 e12 (treeL (nxt code) code.length), rowsP Enc.bool 4 h11 (domTab (nxt code) code.length), own Enc.hdr 39 B11 e11 h11, rowsP Enc.bool 4 h10 (domTab (nxt code) code.length), own Enc.hdr 39 B10 e10 h10, rowsP Enc.bool 4 h9 (domTab (nxt code) code.length), own Enc.hdr 39 (some ⟨b9, o9, none⟩) e9 h9, box gH3 27 #[.int .u64 lv, .slice D1 ps.length d1, .slice D2 rs.length d2, .int .i64 lo, .int .i64 st, .slice D5 code.length d5], row 63 Enc.ins.sz D5 (code.length + 1) d5 (Enc.ins.all code ++ [I (-71), I 0]), row 23 Enc.u64.sz D2 (rs.length + 1) d2 (Enc.u64.all rs ++ [U 7171]), row 23 Enc.u64.sz D1 (ps.length + 1) d1 (Enc.u64.all ps ++ [U 7171]), box gH1 27 #[.int .u64 lv, .slice A1 ps.length c1, .slice A2 rs.length c2, .int .i64 lo, .int .i64 st, .slice A5 code.length c5]])
          case first =>
            refine wp_region_B (fun _ => false) (fun w' => w'.cell? ⟨gH3, 0, none⟩ = some (.int .u64 lv) ∧ w'.cell? ⟨gH3, 1, none⟩ = some (.slice D1 ps.length d1) ∧ w'.cell? ⟨gH3, 2, none⟩ = some (.slice D2 rs.length d2) ∧ w'.cell? ⟨gH3, 3, none⟩ = some (.int .i64 lo) ∧ w'.cell? ⟨gH3, 4, none⟩ = some (.int .i64 st) ∧ w'.cell? ⟨gH3, 5, none⟩ = some (.slice D5 code.length d5) ∧ w'.cell? ⟨b14, o14 + i, none⟩ = some (I (-1)) ∧ w'.cell? ⟨b9, o9, none⟩ = some (.slice (some ⟨bh, oh, none⟩) (code.length + 1) ch) ∧ w'.cell? ⟨bh, oh + i, none⟩ = some (.bool d)) (by kernel_rfl) ?_
            have hS := HS2.out _ H16.drew
            have H17 := H16.drew
            obtain ⟨w17, hw17⟩ : ∃ w17, w17 = w16.drew := ⟨_, rfl⟩
            rw [← hw17] at hS H17 ⊢
            clear hw17
            refine wpAnyB_take' (i := 0) (v := .bool false) rfl (by kernel_rfl) (by kernel_rfl) rfl (by kernel_rfl) (by kernel_rfl) (fun _ _ _ h => h) (by rfl) hS (by intro w' hS'; obtain ⟨k1, k2, k3, k4, k5, k6, k7, k8, k9⟩ := hS'; first | (go_simp; done) | (go_simp; rfl) | (go_simp; assumption)) ?_
            simp only [Act.put, List.setIfInBounds_toArray, List.set_cons_zero, List.set_cons_succ]
            refine wpAnyB_take' (i := 1) (v := .slice (some ⟨b14, o14, none⟩) (code.length + 1) e14) rfl (by kernel_rfl) (by kernel_rfl) rfl (by kernel_rfl) (by kernel_rfl) (fun _ _ _ h => h) (by rfl) hS (by intro w' hS'; obtain ⟨k1, k2, k3, k4, k5, k6, k7, k8, k9⟩ := hS'; first | (go_simp; done) | (go_simp; rfl) | (go_simp; assumption)) ?_
            simp only [Act.put, List.setIfInBounds_toArray, List.set_cons_zero, List.set_cons_succ]
            refine wpAnyB_take' (i := 2) (v := I (i : Int)) rfl (by kernel_rfl) (by kernel_rfl) rfl (by kernel_rfl) (by kernel_rfl) (fun _ _ _ h => h) (by rfl) hS (by intro w' hS'; obtain ⟨k1, k2, k3, k4, k5, k6, k7, k8, k9⟩ := hS'; first | (go_simp; done) | (go_simp; rfl) | (go_simp; assumption)) ?_
            simp only [Act.put, List.setIfInBounds_toArray, List.set_cons_zero, List.set_cons_succ]
            refine wpAnyB_take' (i := 3) (v := .pointer (some ⟨b14, o14 + i, none⟩)) rfl (by kernel_rfl) (by kernel_rfl) rfl (by kernel_rfl) (by kernel_rfl) (fun _ _ _ h => h) (by rfl) hS (by intro w' hS'; obtain ⟨k1, k2, k3, k4, k5, k6, k7, k8, k9⟩ := hS'; first | (go_simp; done) | (go_simp; rfl) | (go_simp; assumption)) ?_
            simp only [Act.put, List.setIfInBounds_toArray, List.set_cons_zero, List.set_cons_succ]
            refine wpAnyB_take' (i := 4) (v := I (-1)) rfl (by kernel_rfl) (by kernel_rfl) rfl (by kernel_rfl) (by kernel_rfl) (fun _ _ _ h => h) (by rfl) hS (by intro w' hS'; obtain ⟨k1, k2, k3, k4, k5, k6, k7, k8, k9⟩ := hS'; first | (go_simp; done) | (go_simp; rfl) | (go_simp; assumption)) ?_
            simp only [Act.put, List.setIfInBounds_toArray, List.set_cons_zero, List.set_cons_succ]
            refine wpAnyB_take' (i := 5) (v := .bool false) rfl (by kernel_rfl) (by kernel_rfl) rfl (by kernel_rfl) (by kernel_rfl) (fun _ _ _ h => h) (by rfl) hS (by intro w' hS'; obtain ⟨k1, k2, k3, k4, k5, k6, k7, k8, k9⟩ := hS'; first | (go_simp; done) | (go_simp; rfl) | (go_simp; assumption)) ?_
            simp only [Act.put, List.setIfInBounds_toArray, List.set_cons_zero, List.set_cons_succ]
            refine wpAnyB_take' (i := 6) (v := .bool false) rfl (by kernel_rfl) (by kernel_rfl) rfl (by kernel_rfl) (by kernel_rfl) (fun _ _ _ h => h) (by rfl) hS (by intro w' hS'; obtain ⟨k1, k2, k3, k4, k5, k6, k7, k8, k9⟩ := hS'; first | (go_simp; done) | (go_simp; rfl) | (go_simp; assumption)) ?_
            simp only [Act.put, List.setIfInBounds_toArray, List.set_cons_zero, List.set_cons_succ]
            refine wpAnyB_take' (i := 7) (v := .bool false) rfl (by kernel_rfl) (by kernel_rfl) rfl (by kernel_rfl) (by kernel_rfl) (fun _ _ _ h => h) (by rfl) hS (by intro w' hS'; obtain ⟨k1, k2, k3, k4, k5, k6, k7, k8, k9⟩ := hS'; first | (go_simp; done) | (go_simp; rfl) | (go_simp; assumption)) ?_
            simp only [Act.put, List.setIfInBounds_toArray, List.set_cons_zero, List.set_cons_succ]
            refine wpAnyB_take' (i := 8) (v := .bool false) rfl (by kernel_rfl) (by kernel_rfl) rfl (by kernel_rfl) (by kernel_rfl) (fun _ _ _ h => h) (by rfl) hS (by intro w' hS'; obtain ⟨k1, k2, k3, k4, k5, k6, k7, k8, k9⟩ := hS'; first | (go_simp; done) | (go_simp; rfl) | (go_simp; assumption)) ?_
            simp only [Act.put, List.setIfInBounds_toArray, List.set_cons_zero, List.set_cons_succ]
            refine wpAnyB_take' (i := 9) (v := .bool false) rfl (by kernel_rfl) (by kernel_rfl) rfl (by kernel_rfl) (by kernel_rfl) (fun _ _ _ h => h) (by rfl) hS (by intro w' hS'; obtain ⟨k1, k2, k3, k4, k5, k6, k7, k8, k9⟩ := hS'; first | (go_simp; done) | (go_simp; rfl) | (go_simp; assumption)) ?_
            simp only [Act.put, List.setIfInBounds_toArray, List.set_cons_zero, List.set_cons_succ]
            refine wpAnyB_skip' (i := 10) rfl (by kernel_rfl) (by kernel_rfl) rfl (by kernel_rfl) (by kernel_rfl) (fun _ _ _ h => h) (by rfl) hS ?_
            simp only [Act.put, List.setIfInBounds_toArray, List.set_cons_zero, List.set_cons_succ]
            refine wpAnyB_skip' (i := 11) rfl (by kernel_rfl) (by kernel_rfl) rfl (by kernel_rfl) (by kernel_rfl) (fun _ _ _ h => h) (by rfl) hS ?_
            simp only [Act.put, List.setIfInBounds_toArray, List.set_cons_zero, List.set_cons_succ]
            refine wpAnyB_skip' (i := 12) rfl (by kernel_rfl) (by kernel_rfl) rfl (by kernel_rfl) (by kernel_rfl) (fun _ _ _ h => h) (by rfl) hS ?_
            simp only [Act.put, List.setIfInBounds_toArray, List.set_cons_zero, List.set_cons_succ]
            refine wpAnyB_skip' (i := 13) rfl (by kernel_rfl) (by kernel_rfl) rfl (by kernel_rfl) (by kernel_rfl) (fun _ _ _ h => h) (by rfl) hS ?_
            simp only [Act.put, List.setIfInBounds_toArray, List.set_cons_zero, List.set_cons_succ]
            refine wpAnyB_skip' (i := 14) rfl (by kernel_rfl) (by kernel_rfl) rfl (by kernel_rfl) (by kernel_rfl) (fun _ _ _ h => h) (by rfl) hS ?_
            simp only [Act.put, List.setIfInBounds_toArray, List.set_cons_zero, List.set_cons_succ]
            refine wpAnyB_skip' (i := 15) rfl (by kernel_rfl) (by kernel_rfl) rfl (by kernel_rfl) (by kernel_rfl) (fun _ _ _ h => h) (by rfl) hS ?_
            simp only [Act.put, List.setIfInBounds_toArray, List.set_cons_zero, List.set_cons_succ]
            refine wpAnyB_take' (i := 16) (v := .bool false) rfl (by kernel_rfl) (by kernel_rfl) rfl (by kernel_rfl) (by kernel_rfl) (fun _ _ _ h => h) (by rfl) hS (by intro w' hS'; obtain ⟨k1, k2, k3, k4, k5, k6, k7, k8, k9⟩ := hS'; first | (go_simp; done) | (go_simp; rfl) | (go_simp; assumption)) ?_
            simp only [Act.put, List.setIfInBounds_toArray, List.set_cons_zero, List.set_cons_succ]
            refine wpAnyB_take' (i := 17) (v := .bool false) rfl (by kernel_rfl) (by kernel_rfl) rfl (by kernel_rfl) (by kernel_rfl) (fun _ _ _ h => h) (by rfl) hS (by intro w' hS'; obtain ⟨k1, k2, k3, k4, k5, k6, k7, k8, k9⟩ := hS'; first | (go_simp; done) | (go_simp; rfl) | (go_simp; assumption)) ?_
            simp only [Act.put, List.setIfInBounds_toArray, List.set_cons_zero, List.set_cons_succ]
            refine wpAnyB_take' (i := 18) (v := .bool false) rfl (by kernel_rfl) (by kernel_rfl) rfl (by kernel_rfl) (by kernel_rfl) (fun _ _ _ h => h) (by rfl) hS (by intro w' hS'; obtain ⟨k1, k2, k3, k4, k5, k6, k7, k8, k9⟩ := hS'; first | (go_simp; done) | (go_simp; rfl) | (go_simp; assumption)) ?_
            simp only [Act.put, List.setIfInBounds_toArray, List.set_cons_zero, List.set_cons_succ]
            refine wpAnyB_take' (i := 19) (v := .bool false) rfl (by kernel_rfl) (by kernel_rfl) rfl (by kernel_rfl) (by kernel_rfl) (fun _ _ _ h => h) (by rfl) hS (by intro w' hS'; obtain ⟨k1, k2, k3, k4, k5, k6, k7, k8, k9⟩ := hS'; first | (go_simp; done) | (go_simp; rfl) | (go_simp; assumption)) ?_
            simp only [Act.put, List.setIfInBounds_toArray, List.set_cons_zero, List.set_cons_succ]
            refine wpAnyB_take' (i := 20) (v := .bool true) rfl (by kernel_rfl) (by kernel_rfl) rfl (by kernel_rfl) (by kernel_rfl) (fun _ _ _ h => h) (by rfl) hS (by intro w' hS'; obtain ⟨k1, k2, k3, k4, k5, k6, k7, k8, k9⟩ := hS'; first | (go_simp; done) | (go_simp; rfl) | (go_simp; assumption)) ?_
            simp only [Act.put, List.setIfInBounds_toArray, List.set_cons_zero, List.set_cons_succ]
            refine wpAnyB_take' (i := 21) (v := .bool true) rfl (by kernel_rfl) (by kernel_rfl) rfl (by kernel_rfl) (by kernel_rfl) (fun _ _ _ h => h) (by rfl) hS (by intro w' hS'; obtain ⟨k1, k2, k3, k4, k5, k6, k7, k8, k9⟩ := hS'; first | (go_simp; done) | (go_simp; rfl) | (go_simp; assumption)) ?_
            simp only [Act.put, List.setIfInBounds_toArray, List.set_cons_zero, List.set_cons_succ]
            refine wpAnyB_take' (i := 22) (v := I 0) rfl (by kernel_rfl) (by kernel_rfl) rfl (by kernel_rfl) (by kernel_rfl) (fun _ _ _ h => h) (by rfl) hS (by intro w' hS'; obtain ⟨k1, k2, k3, k4, k5, k6, k7, k8, k9⟩ := hS'; first | (go_simp; done) | (go_simp; rfl) | (go_simp; assumption)) ?_
            simp only [Act.put, List.setIfInBounds_toArray, List.set_cons_zero, List.set_cons_succ]
            refine wpAnyB_take' (i := 23) (v := .bool false) rfl (by kernel_rfl) (by kernel_rfl) rfl (by kernel_rfl) (by kernel_rfl) (fun _ _ _ h => h) (by rfl) hS (by intro w' hS'; obtain ⟨k1, k2, k3, k4, k5, k6, k7, k8, k9⟩ := hS'; first | (go_simp; done) | (go_simp; rfl) | (go_simp; assumption)) ?_
            simp only [Act.put, List.setIfInBounds_toArray, List.set_cons_zero, List.set_cons_succ]
            refine wpAnyB_take' (i := 24) (v := .bool false) rfl (by kernel_rfl) (by kernel_rfl) rfl (by kernel_rfl) (by kernel_rfl) (fun _ _ _ h => h) (by rfl) hS (by intro w' hS'; obtain ⟨k1, k2, k3, k4, k5, k6, k7, k8, k9⟩ := hS'; first | (go_simp; done) | (go_simp; rfl) | (go_simp; assumption)) ?_
            simp only [Act.put, List.setIfInBounds_toArray, List.set_cons_zero, List.set_cons_succ]
            refine wpAnyB_take' (i := 25) (v := .bool false) rfl (by kernel_rfl) (by kernel_rfl) rfl (by kernel_rfl) (by kernel_rfl) (fun _ _ _ h => h) (by rfl) hS (by intro w' hS'; obtain ⟨k1, k2, k3, k4, k5, k6, k7, k8, k9⟩ := hS'; first | (go_simp; done) | (go_simp; rfl) | (go_simp; assumption)) ?_
            simp only [Act.put, List.setIfInBounds_toArray, List.set_cons_zero, List.set_cons_succ]
            refine wpAnyB_take' (i := 26) (v := .bool false) rfl (by kernel_rfl) (by kernel_rfl) rfl (by kernel_rfl) (by kernel_rfl) (fun _ _ _ h => h) (by rfl) hS (by intro w' hS'; obtain ⟨k1, k2, k3, k4, k5, k6, k7, k8, k9⟩ := hS'; first | (go_simp; done) | (go_simp; rfl) | (go_simp; assumption)) ?_
            simp only [Act.put, List.setIfInBounds_toArray, List.set_cons_zero, List.set_cons_succ]
            refine wpAnyB_take' (i := 27) (v := .agg #[.int .u64 lv, .slice D1 ps.length d1, .slice D2 rs.length d2, .int .i64 lo, .int .i64 st, .slice D5 code.length d5]) rfl (by kernel_rfl) (by kernel_rfl) rfl (by kernel_rfl) (by kernel_rfl) (fun _ _ _ h => h) (by rfl) hS (by intro w' hS'; obtain ⟨k1, k2, k3, k4, k5, k6, k7, k8, k9⟩ := hS'; first | (go_simp; done) | (go_simp; rfl) | (go_simp; assumption)) ?_
            simp only [Act.put, List.setIfInBounds_toArray, List.set_cons_zero, List.set_cons_succ]
            refine wpAnyB_take' (i := 28) (v := I (i : Int)) rfl (by kernel_rfl) (by kernel_rfl) rfl (by kernel_rfl) (by kernel_rfl) (fun _ _ _ h => h) (by rfl) hS (by intro w' hS'; obtain ⟨k1, k2, k3, k4, k5, k6, k7, k8, k9⟩ := hS'; first | (go_simp; done) | (go_simp; rfl) | (go_simp; assumption)) ?_
            simp only [Act.put, List.setIfInBounds_toArray, List.set_cons_zero, List.set_cons_succ]
            refine wpAnyB_take' (i := 30) (v := .slice (some ⟨b9, o9, none⟩) (code.length + 1) e9) rfl (by kernel_rfl) (by kernel_rfl) rfl (by kernel_rfl) (by kernel_rfl) (fun _ _ _ h => h) (by rfl) hS (by intro w' hS'; obtain ⟨k1, k2, k3, k4, k5, k6, k7, k8, k9⟩ := hS'; first | (go_simp; done) | (go_simp; rfl) | (go_simp; assumption)) ?_
            simp only [Act.put, List.setIfInBounds_toArray, List.set_cons_zero, List.set_cons_succ]
            refine wpAnyB_take' (i := 31) (v := .pointer (some ⟨b9, o9, none⟩)) rfl (by kernel_rfl) (by kernel_rfl) rfl (by kernel_rfl) (by kernel_rfl) (fun _ _ _ h => h) (by rfl) hS (by intro w' hS'; obtain ⟨k1, k2, k3, k4, k5, k6, k7, k8, k9⟩ := hS'; first | (go_simp; done) | (go_simp; rfl) | (go_simp; assumption)) ?_
            simp only [Act.put, List.setIfInBounds_toArray, List.set_cons_zero, List.set_cons_succ]
            refine wpAnyB_take' (i := 32) (v := .slice (some ⟨bh, oh, none⟩) (code.length + 1) ch) rfl (by kernel_rfl) (by kernel_rfl) rfl (by kernel_rfl) (by kernel_rfl) (fun _ _ _ h => h) (by rfl) hS (by intro w' hS'; obtain ⟨k1, k2, k3, k4, k5, k6, k7, k8, k9⟩ := hS'; first | (go_simp; done) | (go_simp; rfl) | (go_simp; assumption)) ?_
            simp only [Act.put, List.setIfInBounds_toArray, List.set_cons_zero, List.set_cons_succ]
            refine wpAnyB_take' (i := 33) (v := I (i : Int)) rfl (by kernel_rfl) (by kernel_rfl) rfl (by kernel_rfl) (by kernel_rfl) (fun _ _ _ h => h) (by rfl) hS (by intro w' hS'; obtain ⟨k1, k2, k3, k4, k5, k6, k7, k8, k9⟩ := hS'; first | (go_simp; done) | (go_simp; rfl) | (go_simp; assumption)) ?_
            simp only [Act.put, List.setIfInBounds_toArray, List.set_cons_zero, List.set_cons_succ]
            refine wpAnyB_take' (i := 34) (v := .pointer (some ⟨bh, oh + i, none⟩)) rfl (by kernel_rfl) (by kernel_rfl) rfl (by kernel_rfl) (by kernel_rfl) (fun _ _ _ h => h) (by rfl) hS (by intro w' hS'; obtain ⟨k1, k2, k3, k4, k5, k6, k7, k8, k9⟩ := hS'; first | (go_simp; done) | (go_simp; rfl) | (go_simp; assumption)) ?_
            simp only [Act.put, List.setIfInBounds_toArray, List.set_cons_zero, List.set_cons_succ]
            refine wpAnyB_take' (i := 35) (v := .bool d) rfl (by kernel_rfl) (by kernel_rfl) rfl (by kernel_rfl) (by kernel_rfl) (fun _ _ _ h => h) (by rfl) hS (by intro w' hS'; obtain ⟨k1, k2, k3, k4, k5, k6, k7, k8, k9⟩ := hS'; first | (go_simp; done) | (go_simp; rfl) | (go_simp; assumption)) ?_
            simp only [Act.put, List.setIfInBounds_toArray, List.set_cons_zero, List.set_cons_succ]
            refine wpAnyB_call (i := 29) rfl (by kernel_rfl) (by rfl) (by first | rfl | (go_simp; done) | (go_simp; rfl)) (FD.out _ ⟨D1, d1, D2, d2, D5, d5⟩ (H17.marked (f := ⟨lv, ps, rs, lo, st, code⟩) (h := ⟨D1, d1, D2, d2, D5, d5⟩) 10 11 12 rfl rfl rfl l5 l2 l1 HR.out.b1 HR.out.b2 HR.out.b5).rd (i : Int) 0) ?_
            rintro e w18 ⟨rfl, H18'⟩
            have H18 := H17.call H18'
            simp only [List.nil_append] at H18
            clear H18'
            rw [HDZ.out, ← HDD.out]
            clear hS
            have hS := HS2.out _ H18
            refine ⟨_, rfl, fun _ => hS, ?_⟩
            simp only [Act.put, List.setIfInBounds_toArray, List.set_cons_zero, List.set_cons_succ]
            refine wpAnyB_take' (i := 36) (v := .bool false) rfl (by kernel_rfl) (by kernel_rfl) rfl (by kernel_rfl) (by kernel_rfl) (fun _ _ _ h => h) (by rfl) hS (by intro w' hS'; obtain ⟨k1, k2, k3, k4, k5, k6, k7, k8, k9⟩ := hS'; first | (go_simp; done) | (go_simp; rfl) | (go_simp; assumption)) ?_
            simp only [Act.put, List.setIfInBounds_toArray, List.set_cons_zero, List.set_cons_succ]
            refine wpAnyB_take' (i := 37) (v := .bool false) rfl (by kernel_rfl) (by kernel_rfl) rfl (by kernel_rfl) (by kernel_rfl) (fun _ _ _ h => h) (by rfl) hS (by intro w' hS'; obtain ⟨k1, k2, k3, k4, k5, k6, k7, k8, k9⟩ := hS'; first | (go_simp; done) | (go_simp; rfl) | (go_simp; assumption)) ?_
            simp only [Act.put, List.setIfInBounds_toArray, List.set_cons_zero, List.set_cons_succ]
            refine wpAnyB_done (by kernel_rfl) ?_ _
            go_wp2
            go_meet
            exact ⟨rfl, H18⟩
          case rest =>
          obtain ⟨rfl, H17⟩ := hcut
          go_wp2
          go_roundw
          case rel => exact ⟨i + 1, by go_num, by omega, H17⟩
          case measure => first | (simp [intOf]; done) | (simp [intOf]; omega)
        · have Q1 := hid q1
          have Q2 := hid q2
          clear q1 q2
          go_wp2_with (first
            | (go_at_call 12; (with_reducible refine (FN.out _ ⟨D1, d1, D2, d2, D5, d5⟩ (H15.marked (f := ⟨lv, ps, rs, lo, st, code⟩) (h := ⟨D1, d1, D2, d2, D5, d5⟩) 10 11 12 rfl rfl rfl l5 l2 l1 HR.out.b1 HR.out.b2 HR.out.b5).rd (i : Int)).mono ?_); rintro e w16 ⟨rfl, H16'⟩; rw [Q2.out]; have H16 := H15.call H16'; simp only [List.nil_append] at H16; clear H16'))
          obtain ⟨d, hd⟩ : ∃ d, d = domB (nxt code) code.length i 0 := ⟨_, rfl⟩
          have HDD := hid hd
          clear hd
          have HS2 : Hd (∀ w', Mem w w' [own Enc.i64 3 (some ⟨b14, o14, none⟩) e14 (treeL (nxt code) code.length), own Enc.i64 3 B13 e13 (treeL (nxt code) code.length), own Enc.i64 3 B12 e12 (treeL (nxt code) code.length), rowsP Enc.bool 4 h11 (domTab (nxt code) code.length), own Enc.hdr 39 B11 e11 h11, rowsP Enc.bool 4 h10 (domTab (nxt code) code.length), own Enc.hdr 39 B10 e10 h10, rowsP Enc.bool 4 h9 (domTab (nxt code) code.length), own Enc.hdr 39 (some ⟨b9, o9, none⟩) e9 h9, box gH3 27 #[.int .u64 lv, .slice D1 ps.length d1, .slice D2 rs.length d2, .int .i64 lo, .int .i64 st, .slice D5 code.length d5], row 63 Enc.ins.sz D5 (code.length + 1) d5 (Enc.ins.all code ++ [I (-71), I 0]), row 23 Enc.u64.sz D2 (rs.length + 1) d2 (Enc.u64.all rs ++ [U 7171]), row 23 Enc.u64.sz D1 (ps.length + 1) d1 (Enc.u64.all ps ++ [U 7171]), box gH1 27 #[.int .u64 lv, .slice A1 ps.length c1, .slice A2 rs.length c2, .int .i64 lo, .int .i64 st, .slice A5 code.length c5]] → w'.cell? ⟨gH3, 0, none⟩ = some (.int .u64 lv) ∧ w'.cell? ⟨gH3, 1, none⟩ = some (.slice D1 ps.length d1) ∧ w'.cell? ⟨gH3, 2, none⟩ = some (.slice D2 rs.length d2) ∧ w'.cell? ⟨gH3, 3, none⟩ = some (.int .i64 lo) ∧ w'.cell? ⟨gH3, 4, none⟩ = some (.int .i64 st) ∧ w'.cell? ⟨gH3, 5, none⟩ = some (.slice D5 code.length d5) ∧ w'.cell? ⟨b14, o14 + i, none⟩ = some (I (m : Int)) ∧ w'.cell? ⟨b9, o9, none⟩ = some (.slice (some ⟨bh, oh, none⟩) (code.length + 1) ch) ∧ w'.cell? ⟨bh, oh + i, none⟩ = some (.bool d)) := ⟨fun w' H => by have := HS.out i (by omega) w' H; rw [Q1.out, ← HDD.out] at this; exact this⟩
          have hdd : (d != d) = false := by cases d <;> rfl
          have hi1 : (i : Int) < (code.length : Int) + 1 := by omega
          have hi0 : (0 : Int) ≤ (i : Int) := by omega
          clear b8
          go_cut [116] from 79 to 115 (fun v116 wc => v116 = .bool false ∧ Mem w wc [own Enc.i64 3 (some ⟨b14, o14, none⟩) e14 (treeL (nxt code) code.length), own Enc.i64 3 B13 e13 (treeL (nxt code) code.length), own Enc.i64 3 B12 e12 (treeL (nxt code) code.length), rowsP Enc.bool 4 h11 (domTab (nxt code) code.length), own Enc.hdr 39 B11 e11 h11, rowsP Enc.bool 4 h10 (domTab (nxt code) code.length), own Enc.hdr 39 B10 e10 h10, rowsP Enc.bool 4 h9 (domTab (nxt code) code.length), own Enc.hdr 39 (some ⟨b9, o9, none⟩) e9 h9, box gH3 27 #[.int .u64 lv, .slice D1 ps.length d1, .slice D2 rs.length d2, .int .i64 lo, .int .i64 st, .slice D5 code.length d5], row 63 Enc.ins.sz D5 (code.length + 1) d5 (Enc.ins.all code ++ [I (-71), I 0]), row 23 Enc.u64.sz D2 (rs.length + 1) d2 (Enc.u64.all rs ++ [U 7171]), row 23 Enc.u64.sz D1 (ps.length + 1) d1 (Enc.u64.all ps ++ [U 7171]), box gH1 27 #[.int .u64 lv, .slice A1 ps.length c1, .slice A2 rs.length c2, .int .i64 lo, .int .i64 st, .slice A5 code.length c5]])
          case first =>
            refine wp_region_B (fun _ => false) (fun w' => w'.cell? ⟨gH3, 0, none⟩ = some (.int .u64 lv) ∧ w'.cell? ⟨gH3, 1, none⟩ = some (.slice D1 ps.length d1) ∧ w'.cell? ⟨gH3, 2, none⟩ = some (.slice D2 rs.length d2) ∧ w'.cell? ⟨gH3, 3, none⟩ = some (.int .i64 lo) ∧ w'.cell? ⟨gH3, 4, none⟩ = some (.int .i64 st) ∧ w'.cell? ⟨gH3, 5, none⟩ = some (.slice D5 code.length d5) ∧ w'.cell? ⟨b14, o14 + i, none⟩ = some (I (m : Int)) ∧ w'.cell? ⟨b9, o9, none⟩ = some (.slice (some ⟨bh, oh, none⟩) (code.length + 1) ch) ∧ w'.cell? ⟨bh, oh + i, none⟩ = some (.bool d)) (by kernel_rfl) ?_
            have hS := HS2.out _ H16.drew
            have H17 := H16.drew
            obtain ⟨w17, hw17⟩ : ∃ w17, w17 = w16.drew := ⟨_, rfl⟩
            rw [← hw17] at hS H17 ⊢
            clear hw17
            refine wpAnyB_take' (i := 0) (v := .bool true) rfl (by kernel_rfl) (by kernel_rfl) rfl (by kernel_rfl) (by kernel_rfl) (fun _ _ _ h => h) (by rfl) hS (by intro w' hS'; obtain ⟨k1, k2, k3, k4, k5, k6, k7, k8, k9⟩ := hS'; first | (go_simp; done) | (go_simp; rfl) | (go_simp; assumption)) ?_
            simp only [Act.put, List.setIfInBounds_toArray, List.set_cons_zero, List.set_cons_succ]
            refine wpAnyB_take' (i := 1) (v := .slice (some ⟨b14, o14, none⟩) (code.length + 1) e14) rfl (by kernel_rfl) (by kernel_rfl) rfl (by kernel_rfl) (by kernel_rfl) (fun _ _ _ h => h) (by rfl) hS (by intro w' hS'; obtain ⟨k1, k2, k3, k4, k5, k6, k7, k8, k9⟩ := hS'; first | (go_simp; done) | (go_simp; rfl) | (go_simp; assumption)) ?_
            simp only [Act.put, List.setIfInBounds_toArray, List.set_cons_zero, List.set_cons_succ]
            refine wpAnyB_take' (i := 2) (v := I (i : Int)) rfl (by kernel_rfl) (by kernel_rfl) rfl (by kernel_rfl) (by kernel_rfl) (fun _ _ _ h => h) (by rfl) hS (by intro w' hS'; obtain ⟨k1, k2, k3, k4, k5, k6, k7, k8, k9⟩ := hS'; first | (go_simp; done) | (go_simp; rfl) | (go_simp; assumption)) ?_
            simp only [Act.put, List.setIfInBounds_toArray, List.set_cons_zero, List.set_cons_succ]
            refine wpAnyB_take' (i := 3) (v := .pointer (some ⟨b14, o14 + i, none⟩)) rfl (by kernel_rfl) (by kernel_rfl) rfl (by kernel_rfl) (by kernel_rfl) (fun _ _ _ h => h) (by rfl) hS (by intro w' hS'; obtain ⟨k1, k2, k3, k4, k5, k6, k7, k8, k9⟩ := hS'; first | (go_simp; done) | (go_simp; rfl) | (go_simp; assumption)) ?_
            simp only [Act.put, List.setIfInBounds_toArray, List.set_cons_zero, List.set_cons_succ]
            refine wpAnyB_take' (i := 4) (v := I (m : Int)) rfl (by kernel_rfl) (by kernel_rfl) rfl (by kernel_rfl) (by kernel_rfl) (fun _ _ _ h => h) (by rfl) hS (by intro w' hS'; obtain ⟨k1, k2, k3, k4, k5, k6, k7, k8, k9⟩ := hS'; first | (go_simp; done) | (go_simp; rfl) | (go_simp; assumption)) ?_
            simp only [Act.put, List.setIfInBounds_toArray, List.set_cons_zero, List.set_cons_succ]
            refine wpAnyB_take' (i := 5) (v := .bool true) rfl (by kernel_rfl) (by kernel_rfl) rfl (by kernel_rfl) (by kernel_rfl) (fun _ _ _ h => h) (by rfl) hS (by intro w' hS'; obtain ⟨k1, k2, k3, k4, k5, k6, k7, k8, k9⟩ := hS'; first | (go_simp; done) | (go_simp; rfl) | (go_simp; assumption)) ?_
            simp only [Act.put, List.setIfInBounds_toArray, List.set_cons_zero, List.set_cons_succ]
            refine wpAnyB_take' (i := 6) (v := .bool false) rfl (by kernel_rfl) (by kernel_rfl) rfl (by kernel_rfl) (by kernel_rfl) (fun _ _ _ h => h) (by rfl) hS (by intro w' hS'; obtain ⟨k1, k2, k3, k4, k5, k6, k7, k8, k9⟩ := hS'; first | (go_simp; done) | (go_simp; rfl) | (go_simp; assumption)) ?_
            simp only [Act.put, List.setIfInBounds_toArray, List.set_cons_zero, List.set_cons_succ]
            refine wpAnyB_take' (i := 7) (v := .bool false) rfl (by kernel_rfl) (by kernel_rfl) rfl (by kernel_rfl) (by kernel_rfl) (fun _ _ _ h => h) (by rfl) hS (by intro w' hS'; obtain ⟨k1, k2, k3, k4, k5, k6, k7, k8, k9⟩ := hS'; first | (go_simp; done) | (go_simp; rfl) | (go_simp; assumption)) ?_
            simp only [Act.put, List.setIfInBounds_toArray, List.set_cons_zero, List.set_cons_succ]
            refine wpAnyB_take' (i := 8) (v := .bool true) rfl (by kernel_rfl) (by kernel_rfl) rfl (by kernel_rfl) (by kernel_rfl) (fun _ _ _ h => h) (by rfl) hS (by intro w' hS'; obtain ⟨k1, k2, k3, k4, k5, k6, k7, k8, k9⟩ := hS'; first | (go_simp; done) | (go_simp; rfl) | (go_simp; assumption)) ?_
            simp only [Act.put, List.setIfInBounds_toArray, List.set_cons_zero, List.set_cons_succ]
            refine wpAnyB_take' (i := 9) (v := .bool true) rfl (by kernel_rfl) (by kernel_rfl) rfl (by kernel_rfl) (by kernel_rfl) (fun _ _ _ h => h) (by rfl) hS (by intro w' hS'; obtain ⟨k1, k2, k3, k4, k5, k6, k7, k8, k9⟩ := hS'; first | (go_simp; done) | (go_simp; rfl) | (go_simp; assumption)) ?_
            simp only [Act.put, List.setIfInBounds_toArray, List.set_cons_zero, List.set_cons_succ]
            refine wpAnyB_take' (i := 10) (v := I (m : Int)) rfl (by kernel_rfl) (by kernel_rfl) rfl (by kernel_rfl) (by kernel_rfl) (fun _ _ _ h => h) (by rfl) hS (by intro w' hS'; obtain ⟨k1, k2, k3, k4, k5, k6, k7, k8, k9⟩ := hS'; first | (go_simp; done) | (go_simp; rfl) | (go_simp; assumption)) ?_
            simp only [Act.put, List.setIfInBounds_toArray, List.set_cons_zero, List.set_cons_succ]
            refine wpAnyB_take' (i := 11) (v := .slice (some ⟨b14, o14, none⟩) (code.length + 1) e14) rfl (by kernel_rfl) (by kernel_rfl) rfl (by kernel_rfl) (by kernel_rfl) (fun _ _ _ h => h) (by rfl) hS (by intro w' hS'; obtain ⟨k1, k2, k3, k4, k5, k6, k7, k8, k9⟩ := hS'; first | (go_simp; done) | (go_simp; rfl) | (go_simp; assumption)) ?_
            simp only [Act.put, List.setIfInBounds_toArray, List.set_cons_zero, List.set_cons_succ]
            refine wpAnyB_take' (i := 12) (v := I (i : Int)) rfl (by kernel_rfl) (by kernel_rfl) rfl (by kernel_rfl) (by kernel_rfl) (fun _ _ _ h => h) (by rfl) hS (by intro w' hS'; obtain ⟨k1, k2, k3, k4, k5, k6, k7, k8, k9⟩ := hS'; first | (go_simp; done) | (go_simp; rfl) | (go_simp; assumption)) ?_
            simp only [Act.put, List.setIfInBounds_toArray, List.set_cons_zero, List.set_cons_succ]
            refine wpAnyB_take' (i := 13) (v := .pointer (some ⟨b14, o14 + i, none⟩)) rfl (by kernel_rfl) (by kernel_rfl) rfl (by kernel_rfl) (by kernel_rfl) (fun _ _ _ h => h) (by rfl) hS (by intro w' hS'; obtain ⟨k1, k2, k3, k4, k5, k6, k7, k8, k9⟩ := hS'; first | (go_simp; done) | (go_simp; rfl) | (go_simp; assumption)) ?_
            simp only [Act.put, List.setIfInBounds_toArray, List.set_cons_zero, List.set_cons_succ]
            refine wpAnyB_take' (i := 14) (v := I (m : Int)) rfl (by kernel_rfl) (by kernel_rfl) rfl (by kernel_rfl) (by kernel_rfl) (fun _ _ _ h => h) (by rfl) hS (by intro w' hS'; obtain ⟨k1, k2, k3, k4, k5, k6, k7, k8, k9⟩ := hS'; first | (go_simp; done) | (go_simp; rfl) | (go_simp; assumption)) ?_
            simp only [Act.put, List.setIfInBounds_toArray, List.set_cons_zero, List.set_cons_succ]
            refine wpAnyB_take' (i := 15) (v := .bool false) rfl (by kernel_rfl) (by kernel_rfl) rfl (by kernel_rfl) (by kernel_rfl) (fun _ _ _ h => h) (by rfl) hS (by intro w' hS'; obtain ⟨k1, k2, k3, k4, k5, k6, k7, k8, k9⟩ := hS'; first | (go_simp; done) | (go_simp; rfl) | (go_simp; assumption)) ?_
            simp only [Act.put, List.setIfInBounds_toArray, List.set_cons_zero, List.set_cons_succ]
            refine wpAnyB_take' (i := 16) (v := .bool false) rfl (by kernel_rfl) (by kernel_rfl) rfl (by kernel_rfl) (by kernel_rfl) (fun _ _ _ h => h) (by rfl) hS (by intro w' hS'; obtain ⟨k1, k2, k3, k4, k5, k6, k7, k8, k9⟩ := hS'; first | (go_simp; done) | (go_simp; rfl) | (go_simp; assumption)) ?_
            simp only [Act.put, List.setIfInBounds_toArray, List.set_cons_zero, List.set_cons_succ]
            refine wpAnyB_take' (i := 17) (v := .bool false) rfl (by kernel_rfl) (by kernel_rfl) rfl (by kernel_rfl) (by kernel_rfl) (fun _ _ _ h => h) (by rfl) hS (by intro w' hS'; obtain ⟨k1, k2, k3, k4, k5, k6, k7, k8, k9⟩ := hS'; first | (go_simp; done) | (go_simp; rfl) | (go_simp; assumption)) ?_
            simp only [Act.put, List.setIfInBounds_toArray, List.set_cons_zero, List.set_cons_succ]
            refine wpAnyB_take' (i := 18) (v := .bool false) rfl (by kernel_rfl) (by kernel_rfl) rfl (by kernel_rfl) (by kernel_rfl) (fun _ _ _ h => h) (by rfl) hS (by intro w' hS'; obtain ⟨k1, k2, k3, k4, k5, k6, k7, k8, k9⟩ := hS'; first | (go_simp; done) | (go_simp; rfl) | (go_simp; assumption)) ?_
            simp only [Act.put, List.setIfInBounds_toArray, List.set_cons_zero, List.set_cons_succ]
            refine wpAnyB_take' (i := 19) (v := .bool true) rfl (by kernel_rfl) (by kernel_rfl) rfl (by kernel_rfl) (by kernel_rfl) (fun _ _ _ h => h) (by rfl) hS (by intro w' hS'; obtain ⟨k1, k2, k3, k4, k5, k6, k7, k8, k9⟩ := hS'; first | (go_simp; done) | (go_simp; rfl) | (go_simp; assumption)) ?_
            simp only [Act.put, List.setIfInBounds_toArray, List.set_cons_zero, List.set_cons_succ]
            refine wpAnyB_take' (i := 20) (v := .bool false) rfl (by kernel_rfl) (by kernel_rfl) rfl (by kernel_rfl) (by kernel_rfl) (fun _ _ _ h => h) (by rfl) hS (by intro w' hS'; obtain ⟨k1, k2, k3, k4, k5, k6, k7, k8, k9⟩ := hS'; first | (go_simp; done) | (go_simp; rfl) | (go_simp; assumption)) ?_
            simp only [Act.put, List.setIfInBounds_toArray, List.set_cons_zero, List.set_cons_succ]
            refine wpAnyB_take' (i := 21) (v := .bool false) rfl (by kernel_rfl) (by kernel_rfl) rfl (by kernel_rfl) (by kernel_rfl) (fun _ _ _ h => h) (by rfl) hS (by intro w' hS'; obtain ⟨k1, k2, k3, k4, k5, k6, k7, k8, k9⟩ := hS'; first | (go_simp; done) | (go_simp; rfl) | (go_simp; assumption)) ?_
            simp only [Act.put, List.setIfInBounds_toArray, List.set_cons_zero, List.set_cons_succ]
            refine wpAnyB_skip' (i := 22) rfl (by kernel_rfl) (by kernel_rfl) rfl (by kernel_rfl) (by kernel_rfl) (fun _ _ _ h => h) (by rfl) hS ?_
            simp only [Act.put, List.setIfInBounds_toArray, List.set_cons_zero, List.set_cons_succ]
            refine wpAnyB_skip' (i := 23) rfl (by kernel_rfl) (by kernel_rfl) rfl (by kernel_rfl) (by kernel_rfl) (fun _ _ _ h => h) (by rfl) hS ?_
            simp only [Act.put, List.setIfInBounds_toArray, List.set_cons_zero, List.set_cons_succ]
            refine wpAnyB_take' (i := 24) (v := .bool false) rfl (by kernel_rfl) (by kernel_rfl) rfl (by kernel_rfl) (by kernel_rfl) (fun _ _ _ h => h) (by rfl) hS (by intro w' hS'; obtain ⟨k1, k2, k3, k4, k5, k6, k7, k8, k9⟩ := hS'; first | (go_simp; done) | (go_simp; rfl) | (go_simp; assumption)) ?_
            simp only [Act.put, List.setIfInBounds_toArray, List.set_cons_zero, List.set_cons_succ]
            refine wpAnyB_take' (i := 25) (v := .bool false) rfl (by kernel_rfl) (by kernel_rfl) rfl (by kernel_rfl) (by kernel_rfl) (fun _ _ _ h => h) (by rfl) hS (by intro w' hS'; obtain ⟨k1, k2, k3, k4, k5, k6, k7, k8, k9⟩ := hS'; first | (go_simp; done) | (go_simp; rfl) | (go_simp; assumption)) ?_
            simp only [Act.put, List.setIfInBounds_toArray, List.set_cons_zero, List.set_cons_succ]
            refine wpAnyB_take' (i := 26) (v := .bool false) rfl (by kernel_rfl) (by kernel_rfl) rfl (by kernel_rfl) (by kernel_rfl) (fun _ _ _ h => h) (by rfl) hS (by intro w' hS'; obtain ⟨k1, k2, k3, k4, k5, k6, k7, k8, k9⟩ := hS'; first | (go_simp; done) | (go_simp; rfl) | (go_simp; assumption)) ?_
            simp only [Act.put, List.setIfInBounds_toArray, List.set_cons_zero, List.set_cons_succ]
            refine wpAnyB_take' (i := 27) (v := .agg #[.int .u64 lv, .slice D1 ps.length d1, .slice D2 rs.length d2, .int .i64 lo, .int .i64 st, .slice D5 code.length d5]) rfl (by kernel_rfl) (by kernel_rfl) rfl (by kernel_rfl) (by kernel_rfl) (fun _ _ _ h => h) (by rfl) hS (by intro w' hS'; obtain ⟨k1, k2, k3, k4, k5, k6, k7, k8, k9⟩ := hS'; first | (go_simp; done) | (go_simp; rfl) | (go_simp; assumption)) ?_
            simp only [Act.put, List.setIfInBounds_toArray, List.set_cons_zero, List.set_cons_succ]
            refine wpAnyB_take' (i := 28) (v := I (i : Int)) rfl (by kernel_rfl) (by kernel_rfl) rfl (by kernel_rfl) (by kernel_rfl) (fun _ _ _ h => h) (by rfl) hS (by intro w' hS'; obtain ⟨k1, k2, k3, k4, k5, k6, k7, k8, k9⟩ := hS'; first | (go_simp; done) | (go_simp; rfl) | (go_simp; assumption)) ?_
            simp only [Act.put, List.setIfInBounds_toArray, List.set_cons_zero, List.set_cons_succ]
            refine wpAnyB_take' (i := 30) (v := .slice (some ⟨b9, o9, none⟩) (code.length + 1) e9) rfl (by kernel_rfl) (by kernel_rfl) rfl (by kernel_rfl) (by kernel_rfl) (fun _ _ _ h => h) (by rfl) hS (by intro w' hS'; obtain ⟨k1, k2, k3, k4, k5, k6, k7, k8, k9⟩ := hS'; first | (go_simp; done) | (go_simp; rfl) | (go_simp; assumption)) ?_
            simp only [Act.put, List.setIfInBounds_toArray, List.set_cons_zero, List.set_cons_succ]
            refine wpAnyB_take' (i := 31) (v := .pointer (some ⟨b9, o9, none⟩)) rfl (by kernel_rfl) (by kernel_rfl) rfl (by kernel_rfl) (by kernel_rfl) (fun _ _ _ h => h) (by rfl) hS (by intro w' hS'; obtain ⟨k1, k2, k3, k4, k5, k6, k7, k8, k9⟩ := hS'; first | (go_simp; done) | (go_simp; rfl) | (go_simp; assumption)) ?_
            simp only [Act.put, List.setIfInBounds_toArray, List.set_cons_zero, List.set_cons_succ]
            refine wpAnyB_take' (i := 32) (v := .slice (some ⟨bh, oh, none⟩) (code.length + 1) ch) rfl (by kernel_rfl) (by kernel_rfl) rfl (by kernel_rfl) (by kernel_rfl) (fun _ _ _ h => h) (by rfl) hS (by intro w' hS'; obtain ⟨k1, k2, k3, k4, k5, k6, k7, k8, k9⟩ := hS'; first | (go_simp; done) | (go_simp; rfl) | (go_simp; assumption)) ?_
            simp only [Act.put, List.setIfInBounds_toArray, List.set_cons_zero, List.set_cons_succ]
            refine wpAnyB_take' (i := 33) (v := I (i : Int)) rfl (by kernel_rfl) (by kernel_rfl) rfl (by kernel_rfl) (by kernel_rfl) (fun _ _ _ h => h) (by rfl) hS (by intro w' hS'; obtain ⟨k1, k2, k3, k4, k5, k6, k7, k8, k9⟩ := hS'; first | (go_simp; done) | (go_simp; rfl) | (go_simp; assumption)) ?_
            simp only [Act.put, List.setIfInBounds_toArray, List.set_cons_zero, List.set_cons_succ]
            refine wpAnyB_take' (i := 34) (v := .pointer (some ⟨bh, oh + i, none⟩)) rfl (by kernel_rfl) (by kernel_rfl) rfl (by kernel_rfl) (by kernel_rfl) (fun _ _ _ h => h) (by rfl) hS (by intro w' hS'; obtain ⟨k1, k2, k3, k4, k5, k6, k7, k8, k9⟩ := hS'; first | (go_simp; done) | (go_simp; rfl) | (go_simp; assumption)) ?_
            simp only [Act.put, List.setIfInBounds_toArray, List.set_cons_zero, List.set_cons_succ]
            refine wpAnyB_take' (i := 35) (v := .bool d) rfl (by kernel_rfl) (by kernel_rfl) rfl (by kernel_rfl) (by kernel_rfl) (fun _ _ _ h => h) (by rfl) hS (by intro w' hS'; obtain ⟨k1, k2, k3, k4, k5, k6, k7, k8, k9⟩ := hS'; first | (go_simp; done) | (go_simp; rfl) | (go_simp; assumption)) ?_
            simp only [Act.put, List.setIfInBounds_toArray, List.set_cons_zero, List.set_cons_succ]
            refine wpAnyB_call (i := 29) rfl (by kernel_rfl) (by rfl) (by first | rfl | (go_simp; done) | (go_simp; rfl)) (FD.out _ ⟨D1, d1, D2, d2, D5, d5⟩ (H17.marked (f := ⟨lv, ps, rs, lo, st, code⟩) (h := ⟨D1, d1, D2, d2, D5, d5⟩) 10 11 12 rfl rfl rfl l5 l2 l1 HR.out.b1 HR.out.b2 HR.out.b5).rd (i : Int) 0) ?_
            rintro e w18 ⟨rfl, H18'⟩
            have H18 := H17.call H18'
            simp only [List.nil_append] at H18
            clear H18'
            rw [HDZ.out, ← HDD.out]
            clear hS
            have hS := HS2.out _ H18
            refine ⟨_, rfl, fun _ => hS, ?_⟩
            simp only [Act.put, List.setIfInBounds_toArray, List.set_cons_zero, List.set_cons_succ]
            refine wpAnyB_take' (i := 36) (v := .bool false) rfl (by kernel_rfl) (by kernel_rfl) rfl (by kernel_rfl) (by kernel_rfl) (fun _ _ _ h => h) (by rfl) hS (by intro w' hS'; obtain ⟨k1, k2, k3, k4, k5, k6, k7, k8, k9⟩ := hS'; first | (go_simp; done) | (go_simp; rfl) | (go_simp; assumption)) ?_
            simp only [Act.put, List.setIfInBounds_toArray, List.set_cons_zero, List.set_cons_succ]
            refine wpAnyB_take' (i := 37) (v := .bool false) rfl (by kernel_rfl) (by kernel_rfl) rfl (by kernel_rfl) (by kernel_rfl) (fun _ _ _ h => h) (by rfl) hS (by intro w' hS'; obtain ⟨k1, k2, k3, k4, k5, k6, k7, k8, k9⟩ := hS'; first | (go_simp; done) | (go_simp; rfl) | (go_simp; assumption)) ?_
            simp only [Act.put, List.setIfInBounds_toArray, List.set_cons_zero, List.set_cons_succ]
            refine wpAnyB_done (by kernel_rfl) ?_ _
            go_wp2
            go_meet
            exact ⟨rfl, H18⟩
          case rest =>
          obtain ⟨rfl, H17⟩ := hcut
          go_wp2
          go_roundw
          case rel => exact ⟨i + 1, by go_num, by omega, H17⟩
          case measure => first | (simp [intOf]; done) | (simp [intOf]; omega)
      · obtain rfl : i = code.length + 1 := by omega
        rw [show ((code.length + 1 : Nat) : Int) = (code.length : Int) + 1 from rfl]
        clear hlt hi
        obtain ⟨x, y, hxy⟩ : ∃ (x : Int) (y : Bool), nearZV (nxt code) code.length p = .tuple #[I x, .bool y] := ⟨_, _, rfl⟩
        have HXY := hid hxy
        have b8 := H15.cells 9 rfl
        simp only [cellsAre, and_true, Nat.zero_add] at b8
        have b0 := H15.cells 13 rfl
        simp only [cellsAre, and_true, Nat.zero_add] at b0
        clear hxy
        go_wp2_with (first
          | ((go_at_call 12; (with_reducible refine (FN.out _ ⟨D1, d1, D2, d2, D5, d5⟩ (H15.marked (f := ⟨lv, ps, rs, lo, st, code⟩) (h := ⟨D1, d1, D2, d2, D5, d5⟩) 10 11 12 rfl rfl rfl l5 l2 l1 HR.out.b1 HR.out.b2 HR.out.b5).rd p).mono ?_); rintro e w16 ⟨rfl, H16'⟩; rw [HXY.out]; have H16 := H15.call H16'; simp only [List.nil_append] at H16; clear H16' b8 b0); (try clear b8); have b8 := H16.cells 9 rfl; simp only [cellsAre, and_true, Nat.zero_add] at b8; (try clear b0); have b0 := H16.cells 13 rfl; simp only [cellsAre, and_true, Nat.zero_add] at b0)
          | (go_at_call 14; (with_reducible refine (FM.out _ ⟨A1, c1, A2, c2, A5, c5⟩ (Fun.Rd.below HR.out H16.below) p).mono ?_); rintro e w17 ⟨rfl, H17'⟩; rw [HXY.out]; have H17 := H16.call H17'; simp only [List.nil_append] at H17; clear H17'))
        obtain ⟨d, hd⟩ : ∃ d, d = domZ (nxt code) code.length q p := ⟨_, rfl⟩
        have HDD := hid hd
        have HS3 : Hd (∀ w', Mem w w' [own Enc.i64 3 (some ⟨b14, o14, none⟩) e14 (treeL (nxt code) code.length), own Enc.i64 3 B13 e13 (treeL (nxt code) code.length), own Enc.i64 3 B12 e12 (treeL (nxt code) code.length), rowsP Enc.bool 4 h11 (domTab (nxt code) code.length), own Enc.hdr 39 B11 e11 h11, rowsP Enc.bool 4 h10 (domTab (nxt code) code.length), own Enc.hdr 39 B10 e10 h10, rowsP Enc.bool 4 h9 (domTab (nxt code) code.length), own Enc.hdr 39 (some ⟨b9, o9, none⟩) e9 h9, box gH3 27 #[.int .u64 lv, .slice D1 ps.length d1, .slice D2 rs.length d2, .int .i64 lo, .int .i64 st, .slice D5 code.length d5], row 63 Enc.ins.sz D5 (code.length + 1) d5 (Enc.ins.all code ++ [I (-71), I 0]), row 23 Enc.u64.sz D2 (rs.length + 1) d2 (Enc.u64.all rs ++ [U 7171]), row 23 Enc.u64.sz D1 (ps.length + 1) d1 (Enc.u64.all ps ++ [U 7171]), box gH1 27 #[.int .u64 lv, .slice A1 ps.length c1, .slice A2 rs.length c2, .int .i64 lo, .int .i64 st, .slice A5 code.length c5]] → w'.cell? ⟨gH3, 0, none⟩ = some (.int .u64 lv) ∧ w'.cell? ⟨gH3, 1, none⟩ = some (.slice D1 ps.length d1) ∧ w'.cell? ⟨gH3, 2, none⟩ = some (.slice D2 rs.length d2) ∧ w'.cell? ⟨gH3, 3, none⟩ = some (.int .i64 lo) ∧ w'.cell? ⟨gH3, 4, none⟩ = some (.int .i64 st) ∧ w'.cell? ⟨gH3, 5, none⟩ = some (.slice D5 code.length d5) ∧ w'.cell? ⟨gH1, 0, none⟩ = some (.int .u64 lv) ∧ w'.cell? ⟨gH1, 1, none⟩ = some (.slice A1 ps.length c1) ∧ w'.cell? ⟨gH1, 2, none⟩ = some (.slice A2 rs.length c2) ∧ w'.cell? ⟨gH1, 3, none⟩ = some (.int .i64 lo) ∧ w'.cell? ⟨gH1, 4, none⟩ = some (.int .i64 st) ∧ w'.cell? ⟨gH1, 5, none⟩ = some (.slice A5 code.length c5)) := ⟨fun w' H => ⟨(H.box_cell 9 rfl).1 0, (H.box_cell 9 rfl).1 1, (H.box_cell 9 rfl).1 2, (H.box_cell 9 rfl).1 3, (H.box_cell 9 rfl).1 4, (H.box_cell 9 rfl).1 5, (H.box_cell 13 rfl).1 0, (H.box_cell 13 rfl).1 1, (H.box_cell 13 rfl).1 2, (H.box_cell 13 rfl).1 3, (H.box_cell 13 rfl).1 4, (H.box_cell 13 rfl).1 5⟩⟩
        have HS4 : Hd (∀ w', Mem w w' [own Enc.i64 3 (some ⟨b14, o14, none⟩) e14 (treeL (nxt code) code.length), rowsP Enc.bool 4 h11 (domTab (nxt code) code.length), own Enc.hdr 39 B11 e11 h11, rowsP Enc.bool 4 h10 (domTab (nxt code) code.length), own Enc.hdr 39 B10 e10 h10, rowsP Enc.bool 4 h9 (domTab (nxt code) code.length), own Enc.hdr 39 (some ⟨b9, o9, none⟩) e9 h9, box gH3 27 #[.int .u64 lv, .slice D1 ps.length d1, .slice D2 rs.length d2, .int .i64 lo, .int .i64 st, .slice D5 code.length d5], row 63 Enc.ins.sz D5 (code.length + 1) d5 (Enc.ins.all code ++ [I (-71), I 0]), row 23 Enc.u64.sz D2 (rs.length + 1) d2 (Enc.u64.all rs ++ [U 7171]), row 23 Enc.u64.sz D1 (ps.length + 1) d1 (Enc.u64.all ps ++ [U 7171]), box gH1 27 #[.int .u64 lv, .slice A1 ps.length c1, .slice A2 rs.length c2, .int .i64 lo, .int .i64 st, .slice A5 code.length c5]] → w'.cell? ⟨gH3, 0, none⟩ = some (.int .u64 lv) ∧ w'.cell? ⟨gH3, 1, none⟩ = some (.slice D1 ps.length d1) ∧ w'.cell? ⟨gH3, 2, none⟩ = some (.slice D2 rs.length d2) ∧ w'.cell? ⟨gH3, 3, none⟩ = some (.int .i64 lo) ∧ w'.cell? ⟨gH3, 4, none⟩ = some (.int .i64 st) ∧ w'.cell? ⟨gH3, 5, none⟩ = some (.slice D5 code.length d5) ∧ w'.cell? ⟨gH1, 0, none⟩ = some (.int .u64 lv) ∧ w'.cell? ⟨gH1, 1, none⟩ = some (.slice A1 ps.length c1) ∧ w'.cell? ⟨gH1, 2, none⟩ = some (.slice A2 rs.length c2) ∧ w'.cell? ⟨gH1, 3, none⟩ = some (.int .i64 lo) ∧ w'.cell? ⟨gH1, 4, none⟩ = some (.int .i64 st) ∧ w'.cell? ⟨gH1, 5, none⟩ = some (.slice A5 code.length c5)) := ⟨fun w' H => ⟨(H.box_cell 7 rfl).1 0, (H.box_cell 7 rfl).1 1, (H.box_cell 7 rfl).1 2, (H.box_cell 7 rfl).1 3, (H.box_cell 7 rfl).1 4, (H.box_cell 7 rfl).1 5, (H.box_cell 11 rfl).1 0, (H.box_cell 11 rfl).1 1, (H.box_cell 11 rfl).1 2, (H.box_cell 11 rfl).1 3, (H.box_cell 11 rfl).1 4, (H.box_cell 11 rfl).1 5⟩⟩
        clear hd b8 b0 H15 H16
        go_cut [160] from 129 to 159 (fun v160 wc => v160 = .bool false ∧ Mem w wc [own Enc.i64 3 (some ⟨b14, o14, none⟩) e14 (treeL (nxt code) code.length), rowsP Enc.bool 4 h11 (domTab (nxt code) code.length), own Enc.hdr 39 B11 e11 h11, rowsP Enc.bool 4 h10 (domTab (nxt code) code.length), own Enc.hdr 39 B10 e10 h10, rowsP Enc.bool 4 h9 (domTab (nxt code) code.length), own Enc.hdr 39 (some ⟨b9, o9, none⟩) e9 h9, box gH3 27 #[.int .u64 lv, .slice D1 ps.length d1, .slice D2 rs.length d2, .int .i64 lo, .int .i64 st, .slice D5 code.length d5], row 63 Enc.ins.sz D5 (code.length + 1) d5 (Enc.ins.all code ++ [I (-71), I 0]), row 23 Enc.u64.sz D2 (rs.length + 1) d2 (Enc.u64.all rs ++ [U 7171]), row 23 Enc.u64.sz D1 (ps.length + 1) d1 (Enc.u64.all ps ++ [U 7171]), box gH1 27 #[.int .u64 lv, .slice A1 ps.length c1, .slice A2 rs.length c2, .int .i64 lo, .int .i64 st, .slice A5 code.length c5]])
        case first =>
          refine wp_region_B (fun _ => false) (fun w' => w'.cell? ⟨gH3, 0, none⟩ = some (.int .u64 lv) ∧ w'.cell? ⟨gH3, 1, none⟩ = some (.slice D1 ps.length d1) ∧ w'.cell? ⟨gH3, 2, none⟩ = some (.slice D2 rs.length d2) ∧ w'.cell? ⟨gH3, 3, none⟩ = some (.int .i64 lo) ∧ w'.cell? ⟨gH3, 4, none⟩ = some (.int .i64 st) ∧ w'.cell? ⟨gH3, 5, none⟩ = some (.slice D5 code.length d5) ∧ w'.cell? ⟨gH1, 0, none⟩ = some (.int .u64 lv) ∧ w'.cell? ⟨gH1, 1, none⟩ = some (.slice A1 ps.length c1) ∧ w'.cell? ⟨gH1, 2, none⟩ = some (.slice A2 rs.length c2) ∧ w'.cell? ⟨gH1, 3, none⟩ = some (.int .i64 lo) ∧ w'.cell? ⟨gH1, 4, none⟩ = some (.int .i64 st) ∧ w'.cell? ⟨gH1, 5, none⟩ = some (.slice A5 code.length c5)) (by kernel_rfl) ?_
          have hS := HS3.out _ H17.drew
          have H18 := H17.drew
          obtain ⟨w18, hw18⟩ : ∃ w18, w18 = w17.drew := ⟨_, rfl⟩
          rw [← hw18] at hS H18 ⊢
          clear hw18 H17
          refine wpAnyB_take' (i := 0) (v := I x) rfl (by kernel_rfl) (by kernel_rfl) rfl (by kernel_rfl) (by kernel_rfl) (fun _ _ _ h => h) (by rfl) hS (by intro w' hS'; obtain ⟨k1, k2, k3, k4, k5, k6, k7, k8, k9, k10, k11, k12⟩ := hS'; first | (go_simp; done) | (go_simp; rfl) | (go_simp; assumption)) ?_
          simp only [Act.put, List.setIfInBounds_toArray, List.set_cons_zero, List.set_cons_succ]
          refine wpAnyB_take' (i := 1) (v := I x) rfl (by kernel_rfl) (by kernel_rfl) rfl (by kernel_rfl) (by kernel_rfl) (fun _ _ _ h => h) (by rfl) hS (by intro w' hS'; obtain ⟨k1, k2, k3, k4, k5, k6, k7, k8, k9, k10, k11, k12⟩ := hS'; first | (go_simp; done) | (go_simp; rfl) | (go_simp; assumption)) ?_
          simp only [Act.put, List.setIfInBounds_toArray, List.set_cons_zero, List.set_cons_succ]
          refine wpAnyB_take' (i := 2) (v := .bool false) rfl (by kernel_rfl) (by kernel_rfl) rfl (by kernel_rfl) (by kernel_rfl) (fun _ _ _ h => h) (by rfl) hS (by intro w' hS'; obtain ⟨k1, k2, k3, k4, k5, k6, k7, k8, k9, k10, k11, k12⟩ := hS'; first | (go_simp; done) | (go_simp; rfl) | (go_simp; assumption)) ?_
          simp only [Act.put, List.setIfInBounds_toArray, List.set_cons_zero, List.set_cons_succ]
          refine wpAnyB_take' (i := 3) (v := .bool false) rfl (by kernel_rfl) (by kernel_rfl) rfl (by kernel_rfl) (by kernel_rfl) (fun _ _ _ h => h) (by rfl) hS (by intro w' hS'; obtain ⟨k1, k2, k3, k4, k5, k6, k7, k8, k9, k10, k11, k12⟩ := hS'; first | (go_simp; done) | (go_simp; rfl) | (go_simp; assumption)) ?_
          simp only [Act.put, List.setIfInBounds_toArray, List.set_cons_zero, List.set_cons_succ]
          refine wpAnyB_take' (i := 4) (v := .bool y) rfl (by kernel_rfl) (by kernel_rfl) rfl (by kernel_rfl) (by kernel_rfl) (fun _ _ _ h => h) (by rfl) hS (by intro w' hS'; obtain ⟨k1, k2, k3, k4, k5, k6, k7, k8, k9, k10, k11, k12⟩ := hS'; first | (go_simp; done) | (go_simp; rfl) | (go_simp; assumption)) ?_
          simp only [Act.put, List.setIfInBounds_toArray, List.set_cons_zero, List.set_cons_succ]
          refine wpAnyB_take' (i := 5) (v := .bool y) rfl (by kernel_rfl) (by kernel_rfl) rfl (by kernel_rfl) (by kernel_rfl) (fun _ _ _ h => h) (by rfl) hS (by intro w' hS'; obtain ⟨k1, k2, k3, k4, k5, k6, k7, k8, k9, k10, k11, k12⟩ := hS'; first | (go_simp; done) | (go_simp; rfl) | (go_simp; assumption)) ?_
          simp only [Act.put, List.setIfInBounds_toArray, List.set_cons_zero, List.set_cons_succ]
          refine wpAnyB_take' (i := 6) (v := .bool false) rfl (by kernel_rfl) (by kernel_rfl) rfl (by kernel_rfl) (by kernel_rfl) (fun _ _ _ h => h) (by rfl) hS (by intro w' hS'; obtain ⟨k1, k2, k3, k4, k5, k6, k7, k8, k9, k10, k11, k12⟩ := hS'; first | (go_simp; done) | (go_simp; rfl) | (go_simp; assumption)) ?_
          simp only [Act.put, List.setIfInBounds_toArray, List.set_cons_zero, List.set_cons_succ]
          refine wpAnyB_take' (i := 7) (v := .bool false) rfl (by kernel_rfl) (by kernel_rfl) rfl (by kernel_rfl) (by kernel_rfl) (fun _ _ _ h => h) (by rfl) hS (by intro w' hS'; obtain ⟨k1, k2, k3, k4, k5, k6, k7, k8, k9, k10, k11, k12⟩ := hS'; first | (go_simp; done) | (go_simp; rfl) | (go_simp; assumption)) ?_
          simp only [Act.put, List.setIfInBounds_toArray, List.set_cons_zero, List.set_cons_succ]
          refine wpAnyB_take' (i := 8) (v := .bool false) rfl (by kernel_rfl) (by kernel_rfl) rfl (by kernel_rfl) (by kernel_rfl) (fun _ _ _ h => h) (by rfl) hS (by intro w' hS'; obtain ⟨k1, k2, k3, k4, k5, k6, k7, k8, k9, k10, k11, k12⟩ := hS'; first | (go_simp; done) | (go_simp; rfl) | (go_simp; assumption)) ?_
          simp only [Act.put, List.setIfInBounds_toArray, List.set_cons_zero, List.set_cons_succ]
          refine wpAnyB_take' (i := 9) (v := .agg #[.int .u64 lv, .slice D1 ps.length d1, .slice D2 rs.length d2, .int .i64 lo, .int .i64 st, .slice D5 code.length d5]) rfl (by kernel_rfl) (by kernel_rfl) rfl (by kernel_rfl) (by kernel_rfl) (fun _ _ _ h => h) (by rfl) hS (by intro w' hS'; obtain ⟨k1, k2, k3, k4, k5, k6, k7, k8, k9, k10, k11, k12⟩ := hS'; first | (go_simp; done) | (go_simp; rfl) | (go_simp; assumption)) ?_
          simp only [Act.put, List.setIfInBounds_toArray, List.set_cons_zero, List.set_cons_succ]
          refine wpAnyB_take' (i := 10) (v := I q) rfl (by kernel_rfl) (by kernel_rfl) rfl (by kernel_rfl) (by kernel_rfl) (fun _ _ _ h => h) (by rfl) hS (by intro w' hS'; obtain ⟨k1, k2, k3, k4, k5, k6, k7, k8, k9, k10, k11, k12⟩ := hS'; first | (go_simp; done) | (go_simp; rfl) | (go_simp; assumption)) ?_
          simp only [Act.put, List.setIfInBounds_toArray, List.set_cons_zero, List.set_cons_succ]
          refine wpAnyB_take' (i := 11) (v := I p) rfl (by kernel_rfl) (by kernel_rfl) rfl (by kernel_rfl) (by kernel_rfl) (fun _ _ _ h => h) (by rfl) hS (by intro w' hS'; obtain ⟨k1, k2, k3, k4, k5, k6, k7, k8, k9, k10, k11, k12⟩ := hS'; first | (go_simp; done) | (go_simp; rfl) | (go_simp; assumption)) ?_
          simp only [Act.put, List.setIfInBounds_toArray, List.set_cons_zero, List.set_cons_succ]
          refine wpAnyB_take' (i := 13) (v := .agg #[.int .u64 lv, .slice A1 ps.length c1, .slice A2 rs.length c2, .int .i64 lo, .int .i64 st, .slice A5 code.length c5]) rfl (by kernel_rfl) (by kernel_rfl) rfl (by kernel_rfl) (by kernel_rfl) (fun _ _ _ h => h) (by rfl) hS (by intro w' hS'; obtain ⟨k1, k2, k3, k4, k5, k6, k7, k8, k9, k10, k11, k12⟩ := hS'; first | (go_simp; done) | (go_simp; rfl) | (go_simp; assumption)) ?_
          simp only [Act.put, List.setIfInBounds_toArray, List.set_cons_zero, List.set_cons_succ]
          refine wpAnyB_take' (i := 14) (v := I q) rfl (by kernel_rfl) (by kernel_rfl) rfl (by kernel_rfl) (by kernel_rfl) (fun _ _ _ h => h) (by rfl) hS (by intro w' hS'; obtain ⟨k1, k2, k3, k4, k5, k6, k7, k8, k9, k10, k11, k12⟩ := hS'; first | (go_simp; done) | (go_simp; rfl) | (go_simp; assumption)) ?_
          simp only [Act.put, List.setIfInBounds_toArray, List.set_cons_zero, List.set_cons_succ]
          refine wpAnyB_take' (i := 15) (v := I p) rfl (by kernel_rfl) (by kernel_rfl) rfl (by kernel_rfl) (by kernel_rfl) (fun _ _ _ h => h) (by rfl) hS (by intro w' hS'; obtain ⟨k1, k2, k3, k4, k5, k6, k7, k8, k9, k10, k11, k12⟩ := hS'; first | (go_simp; done) | (go_simp; rfl) | (go_simp; assumption)) ?_
          simp only [Act.put, List.setIfInBounds_toArray, List.set_cons_zero, List.set_cons_succ]
          refine wpAnyB_call (i := 12) rfl (by kernel_rfl) (by rfl) (by first | rfl | (go_simp; done) | (go_simp; rfl)) (FD.out _ ⟨D1, d1, D2, d2, D5, d5⟩ (H18.marked (f := ⟨lv, ps, rs, lo, st, code⟩) (h := ⟨D1, d1, D2, d2, D5, d5⟩) 10 11 12 rfl rfl rfl l5 l2 l1 HR.out.b1 HR.out.b2 HR.out.b5).rd q p) ?_
          rintro e w19 ⟨rfl, H19'⟩
          have H19 := H18.call H19'
          simp only [List.nil_append] at H19
          clear H19'
          rw [← HDD.out]
          clear hS
          have hS := HS3.out _ H19
          refine ⟨_, rfl, fun _ => hS, ?_⟩
          simp only [Act.put, List.setIfInBounds_toArray, List.set_cons_zero, List.set_cons_succ]
          refine wpAnyB_call (i := 16) rfl (by kernel_rfl) (by rfl) (by first | rfl | (go_simp; done) | (go_simp; rfl)) (FE.out _ ⟨A1, c1, A2, c2, A5, c5⟩ (Fun.Rd.below HR.out H19.below) q p) ?_
          rintro e w20 ⟨rfl, H20'⟩
          have H20 := H19.call H20'
          simp only [List.nil_append] at H20
          clear H20'
          rw [← HDD.out]
          clear hS
          have hS := HS3.out _ H20
          refine ⟨_, rfl, fun _ => hS, ?_⟩
          simp only [Act.put, List.setIfInBounds_toArray, List.set_cons_zero, List.set_cons_succ]
          refine wpAnyB_take' (i := 17) (v := .bool false) rfl (by kernel_rfl) (by kernel_rfl) rfl (by kernel_rfl) (by kernel_rfl) (fun _ _ _ h => h) (by rfl) hS (by intro w' hS'; obtain ⟨k1, k2, k3, k4, k5, k6, k7, k8, k9, k10, k11, k12⟩ := hS'; first | (go_simp; done) | (go_simp; rfl) | (go_simp; assumption)) ?_
          simp only [Act.put, List.setIfInBounds_toArray, List.set_cons_zero, List.set_cons_succ]
          refine wpAnyB_take' (i := 18) (v := .bool false) rfl (by kernel_rfl) (by kernel_rfl) rfl (by kernel_rfl) (by kernel_rfl) (fun _ _ _ h => h) (by rfl) hS (by intro w' hS'; obtain ⟨k1, k2, k3, k4, k5, k6, k7, k8, k9, k10, k11, k12⟩ := hS'; first | (go_simp; done) | (go_simp; rfl) | (go_simp; assumption)) ?_
          simp only [Act.put, List.setIfInBounds_toArray, List.set_cons_zero, List.set_cons_succ]
          refine wpAnyB_take' (i := 19) (v := .bool false) rfl (by kernel_rfl) (by kernel_rfl) rfl (by kernel_rfl) (by kernel_rfl) (fun _ _ _ h => h) (by rfl) hS (by intro w' hS'; obtain ⟨k1, k2, k3, k4, k5, k6, k7, k8, k9, k10, k11, k12⟩ := hS'; first | (go_simp; done) | (go_simp; rfl) | (go_simp; assumption)) ?_
          simp only [Act.put, List.setIfInBounds_toArray, List.set_cons_zero, List.set_cons_succ]
          refine wpAnyB_take' (i := 20) (v := .agg #[.int .u64 lv, .slice D1 ps.length d1, .slice D2 rs.length d2, .int .i64 lo, .int .i64 st, .slice D5 code.length d5]) rfl (by kernel_rfl) (by kernel_rfl) rfl (by kernel_rfl) (by kernel_rfl) (fun _ _ _ h => h) (by rfl) hS (by intro w' hS'; obtain ⟨k1, k2, k3, k4, k5, k6, k7, k8, k9, k10, k11, k12⟩ := hS'; first | (go_simp; done) | (go_simp; rfl) | (go_simp; assumption)) ?_
          simp only [Act.put, List.setIfInBounds_toArray, List.set_cons_zero, List.set_cons_succ]
          refine wpAnyB_take' (i := 21) (v := .agg #[.int .u64 lv, .slice A1 ps.length c1, .slice A2 rs.length c2, .int .i64 lo, .int .i64 st, .slice A5 code.length c5]) rfl (by kernel_rfl) (by kernel_rfl) rfl (by kernel_rfl) (by kernel_rfl) (fun _ _ _ h => h) (by rfl) hS (by intro w' hS'; obtain ⟨k1, k2, k3, k4, k5, k6, k7, k8, k9, k10, k11, k12⟩ := hS'; first | (go_simp; done) | (go_simp; rfl) | (go_simp; assumption)) ?_
          simp only [Act.put, List.setIfInBounds_toArray, List.set_cons_zero, List.set_cons_succ]
          refine wpAnyB_call (i := 22) rfl (by kernel_rfl) (by rfl) (by first | rfl | (go_simp; done) | (go_simp; rfl)) (FK.out _ ⟨D1, d1, D2, d2, D5, d5⟩ ⟨A1, c1, A2, c2, A5, c5⟩ (H20.marked (f := ⟨lv, ps, rs, lo, st, code⟩) (h := ⟨D1, d1, D2, d2, D5, d5⟩) 10 11 12 rfl rfl rfl l5 l2 l1 HR.out.b1 HR.out.b2 HR.out.b5) (Fun.Rd.below HR.out H20.below)) ?_
          rintro e w21 ⟨rfl, H21'⟩
          have H21 := H20.call H21'
          simp only [List.nil_append] at H21
          clear H21'
          clear hS
          have hS := HS3.out _ H21
          refine ⟨_, rfl, fun _ => hS, ?_⟩
          simp only [Act.put, List.setIfInBounds_toArray, List.set_cons_zero, List.set_cons_succ]
          refine wpAnyB_take' (i := 23) (v := .bool false) rfl (by kernel_rfl) (by kernel_rfl) rfl (by kernel_rfl) (by kernel_rfl) (fun _ _ _ h => h) (by rfl) hS (by intro w' hS'; obtain ⟨k1, k2, k3, k4, k5, k6, k7, k8, k9, k10, k11, k12⟩ := hS'; first | (go_simp; done) | (go_simp; rfl) | (go_simp; assumption)) ?_
          simp only [Act.put, List.setIfInBounds_toArray, List.set_cons_zero, List.set_cons_succ]
          refine wpAnyB_take' (i := 24) (v := .bool false) rfl (by kernel_rfl) (by kernel_rfl) rfl (by kernel_rfl) (by kernel_rfl) (fun _ _ _ h => h) (by rfl) hS (by intro w' hS'; obtain ⟨k1, k2, k3, k4, k5, k6, k7, k8, k9, k10, k11, k12⟩ := hS'; first | (go_simp; done) | (go_simp; rfl) | (go_simp; assumption)) ?_
          simp only [Act.put, List.setIfInBounds_toArray, List.set_cons_zero, List.set_cons_succ]
          refine wpAnyB_take' (i := 25) (v := .bool false) rfl (by kernel_rfl) (by kernel_rfl) rfl (by kernel_rfl) (by kernel_rfl) (fun _ _ _ h => h) (by rfl) hS (by intro w' hS'; obtain ⟨k1, k2, k3, k4, k5, k6, k7, k8, k9, k10, k11, k12⟩ := hS'; first | (go_simp; done) | (go_simp; rfl) | (go_simp; assumption)) ?_
          simp only [Act.put, List.setIfInBounds_toArray, List.set_cons_zero, List.set_cons_succ]
          refine wpAnyB_take' (i := 26) (v := .slice B12 (code.length + 1) e12) rfl (by kernel_rfl) (by kernel_rfl) rfl (by kernel_rfl) (by kernel_rfl) (fun _ _ _ h => h) (by rfl) hS (by intro w' hS'; obtain ⟨k1, k2, k3, k4, k5, k6, k7, k8, k9, k10, k11, k12⟩ := hS'; first | (go_simp; done) | (go_simp; rfl) | (go_simp; assumption)) ?_
          simp only [Act.put, List.setIfInBounds_toArray, List.set_cons_zero, List.set_cons_succ]
          refine wpAnyB_take' (i := 27) (v := .slice B13 (code.length + 1) e13) rfl (by kernel_rfl) (by kernel_rfl) rfl (by kernel_rfl) (by kernel_rfl) (fun _ _ _ h => h) (by rfl) hS (by intro w' hS'; obtain ⟨k1, k2, k3, k4, k5, k6, k7, k8, k9, k10, k11, k12⟩ := hS'; first | (go_simp; done) | (go_simp; rfl) | (go_simp; assumption)) ?_
          simp only [Act.put, List.setIfInBounds_toArray, List.set_cons_zero, List.set_cons_succ]
          have H22 := (H21.alloc 32 #[.slice B12 (code.length + 1) e12, .slice B13 (code.length + 1) e13]).row_of_box (sz := 1) (n := 2) 0 rfl rfl (by decide) (fun u hu => List.all_eq_true.1 (show List.all [.slice B12 (code.length + 1) e12, .slice B13 (code.length + 1) e13] Value.oneCell' = true from rfl) u hu)
          simp only [List.set_cons_zero] at H22
          refine wpAnyB_do (i := 28) (v := .slice (some ⟨w21.heap.size, 0, none⟩) 2 2) (w1 := w21.alloc (.cells #[.slice B12 (code.length + 1) e12, .slice B13 (code.length + 1) e13] 32)) rfl (by kernel_rfl) (by rfl) (by first | (go_simp; done) | (go_simp; rfl)) ⟨fun _ => ?_, ?_⟩
          · exact ⟨(H22.box_cell 10 rfl).1 0, (H22.box_cell 10 rfl).1 1, (H22.box_cell 10 rfl).1 2, (H22.box_cell 10 rfl).1 3, (H22.box_cell 10 rfl).1 4, (H22.box_cell 10 rfl).1 5, (H22.box_cell 14 rfl).1 0, (H22.box_cell 14 rfl).1 1, (H22.box_cell 14 rfl).1 2, (H22.box_cell 14 rfl).1 3, (H22.box_cell 14 rfl).1 4, (H22.box_cell 14 rfl).1 5⟩
          simp only [Act.put, List.setIfInBounds_toArray, List.set_cons_zero, List.set_cons_succ]
          have HAP := (((((H22.mv 3 rfl).rows_nil Enc.i64 3).perm (List.Perm.swap _ _ _)).rows_push rfl).mv 3 rfl).rows_push rfl
          simp only [List.eraseIdx_cons_succ, List.eraseIdx_cons_zero, List.nil_append, List.cons_append, treeL_len] at HAP
          have hful : FullOk ([⟨B12, code.length + 1, e12⟩, ⟨B13, code.length + 1, e13⟩] : List Hdr) [(treeL (nxt code) code.length), (treeL (nxt code) code.length)] := by
            refine ⟨rfl, fun k hd r h1 h2 => ?_⟩
            have k12 := K12.out
            have k13 := K13.out
            have hl := treeL_len (nxt code) code.length
            rw [hl] at k12 k13
            match k, h1, h2 with
            | 0, h1, h2 => obtain rfl := Option.some.inj h1; obtain rfl := Option.some.inj h2; exact ⟨hl.symm, by rw [hl]; exact k12, by rw [hl]; omega, by rw [hl]; omega⟩
            | 1, h1, h2 => obtain rfl := Option.some.inj h1; obtain rfl := Option.some.inj h2; exact ⟨hl.symm, by rw [hl]; exact k13, by rw [hl]; omega, by rw [hl]; omega⟩
            | k + 2, h1, h2 => simp at h1
          have hap := apart_calls w (w21.alloc (.cells #[.slice B12 (code.length + 1) e12, .slice B13 (code.length + 1) e13] 32)) [own Enc.i64 3 (some ⟨b14, o14, none⟩) e14 (treeL (nxt code) code.length), rowsP Enc.bool 4 h11 (domTab (nxt code) code.length), own Enc.hdr 39 B11 e11 h11, rowsP Enc.bool 4 h10 (domTab (nxt code) code.length), own Enc.hdr 39 B10 e10 h10, rowsP Enc.bool 4 h9 (domTab (nxt code) code.length), own Enc.hdr 39 (some ⟨b9, o9, none⟩) e9 h9, box gH3 27 #[.int .u64 lv, .slice D1 ps.length d1, .slice D2 rs.length d2, .int .i64 lo, .int .i64 st, .slice D5 code.length d5], row 63 Enc.ins.sz D5 (code.length + 1) d5 (Enc.ins.all code ++ [I (-71), I 0]), row 23 Enc.u64.sz D2 (rs.length + 1) d2 (Enc.u64.all rs ++ [U 7171]), row 23 Enc.u64.sz D1 (ps.length + 1) d1 (Enc.u64.all ps ++ [U 7171]), box gH1 27 #[.int .u64 lv, .slice A1 ps.length c1, .slice A2 rs.length c2, .int .i64 lo, .int .i64 st, .slice A5 code.length c5]] (some ⟨w21.heap.size, 0, none⟩) 2 [⟨B12, code.length + 1, e12⟩, ⟨B13, code.length + 1, e13⟩] [(treeL (nxt code) code.length), (treeL (nxt code) code.length)] hful (by simp) HAP
          refine wpAnyB_call (i := 29) rfl (by kernel_rfl) (by rfl) (by first | rfl | (go_simp; done) | (go_simp; rfl)) hap ?_
          rintro e w23 ⟨rfl, H23⟩
          clear hS
          have hS := HS4.out _ H23
          refine ⟨_, rfl, fun _ => hS, ?_⟩
          simp only [Act.put, List.setIfInBounds_toArray, List.set_cons_zero, List.set_cons_succ]
          refine wpAnyB_take' (i := 30) (v := .bool false) rfl (by kernel_rfl) (by kernel_rfl) rfl (by kernel_rfl) (by kernel_rfl) (fun _ _ _ h => h) (by rfl) hS (by intro w' hS'; obtain ⟨k1, k2, k3, k4, k5, k6, k7, k8, k9, k10, k11, k12⟩ := hS'; first | (go_simp; done) | (go_simp; rfl) | (go_simp; assumption)) ?_
          simp only [Act.put, List.setIfInBounds_toArray, List.set_cons_zero, List.set_cons_succ]
          refine wpAnyB_take' (i := 31) (v := .bool false) rfl (by kernel_rfl) (by kernel_rfl) rfl (by kernel_rfl) (by kernel_rfl) (fun _ _ _ h => h) (by rfl) hS (by intro w' hS'; obtain ⟨k1, k2, k3, k4, k5, k6, k7, k8, k9, k10, k11, k12⟩ := hS'; first | (go_simp; done) | (go_simp; rfl) | (go_simp; assumption)) ?_
          simp only [Act.put, List.setIfInBounds_toArray, List.set_cons_zero, List.set_cons_succ]
          refine wpAnyB_done (by kernel_rfl) ?_ _
          go_wp2
          go_meet
          exact ⟨rfl, H23⟩
        case rest =>
        obtain ⟨rfl, H18⟩ := hcut
        obtain ⟨⟨A', n', c'⟩, hk0⟩ : ∃ hd, h10[0]? = some hd := ⟨_, List.getElem?_eq_getElem (by rw [N10.out]; omega)⟩
        obtain ⟨b10, o10, rfl, -⟩ := (H18.own_rd 4 rfl (by decide)).1.get1 rfl hk0 rfl
        clear hk0 A' n' c'
        have HG0 : Hd (h10.length = code.length + 1 ∧ ∀ (k : Nat) (hd : Hdr) (r : List Bool), h10[k]? = some hd → (tabF (nxt code) code.length 0)[k]? = some r → hd.n = r.length) := ⟨N10.out, fun k hd r h1 h2 => F10.out k hd r h1 (by rw [← tabF_zero]; exact h2)⟩
        rw [← tabF_zero (nxt code) code.length] at H18
        clear H17
        go_wp2
        trace_state
        go_loopw [22] (fun v22 wr => ∃ (i : Nat) (g10 : List Hdr), v22 = .int .i64 i ∧ i ≤ code.length + 1 ∧ Hd (g10.length = code.length + 1 ∧ ∀ (k : Nat) (hd : Hdr) (r : List Bool), g10[k]? = some hd → (tabF (nxt code) code.length i)[k]? = some r → hd.n = r.length) ∧ Mem w wr [own Enc.i64 3 (some ⟨b14, o14, none⟩) e14 (treeL (nxt code) code.length), rowsP Enc.bool 4 h11 (domTab (nxt code) code.length), own Enc.hdr 39 B11 e11 h11, rowsP Enc.bool 4 g10 (tabF (nxt code) code.length i), own Enc.hdr 39 (some ⟨b10, o10, none⟩) e10 g10, rowsP Enc.bool 4 h9 (domTab (nxt code) code.length), own Enc.hdr 39 (some ⟨b9, o9, none⟩) e9 h9, box gH3 27 #[.int .u64 lv, .slice D1 ps.length d1, .slice D2 rs.length d2, .int .i64 lo, .int .i64 st, .slice D5 code.length d5], row 63 Enc.ins.sz D5 (code.length + 1) d5 (Enc.ins.all code ++ [I (-71), I 0]), row 23 Enc.u64.sz D2 (rs.length + 1) d2 (Enc.u64.all rs ++ [U 7171]), row 23 Enc.u64.sz D1 (ps.length + 1) d1 (Enc.u64.all ps ++ [U 7171]), box gH1 27 #[.int .u64 lv, .slice A1 ps.length c1, .slice A2 rs.length c2, .int .i64 lo, .int .i64 st, .slice A5 code.length c5]]) (fun v _ => code.length + 1 - (intOf v).toNat)
        case atStart => exact ⟨0, h10, rfl, Nat.zero_le _, HG0, H18⟩
        case round =>
          clear H18 HG0
          obtain ⟨i, g10, rfl, hi, HG, H1⟩ := hrel
          obtain ⟨wo, rfl⟩ : ∃ wo : World, wo = wr := ⟨_, rfl⟩
          by_cases hlt : i < code.length + 1
          · have hiN : i ≤ code.length := by omega
            obtain ⟨⟨A', n', c'⟩, hhd⟩ : ∃ hd, g10[i]? = some hd := ⟨_, List.getElem?_eq_getElem (by rw [HG.out.1]; omega)⟩
            have hn' := HG.out.2 i _ _ hhd (tabF_self hiN)
            simp only [domRow_len] at hn'
            subst hn'
            have H2 := (H1.mv 3 rfl).rows_out hhd (tabF_self hiN)
            simp only [List.eraseIdx_cons_succ, List.eraseIdx_cons_zero] at H2
            obtain ⟨g', o', rfl, -⟩ := (H2.own_rd 0 rfl (by decide)).1.get1 rfl (domRow_get (Nat.zero_le _)) rfl
            have HHD := hid hhd
            have HR0 : Hd ((domRow (nxt code) code.length i).length = code.length + 1 ∧ (∀ (j : Nat), j < 0 → (domRow (nxt code) code.length i)[j]? = some (!domB (nxt code) code.length j i)) ∧ ∀ (j : Nat), 0 ≤ j → j ≤ code.length → (domRow (nxt code) code.length i)[j]? = some (domB (nxt code) code.length j i)) := ⟨domRow_len _ _ _, fun j hj => by omega, fun j _ hj => domRow_get hj⟩
            clear hhd H1
            go_wp2
            go_loopw [23] (fun v23 wr => ∃ (k : Nat) (r' : List Bool), v23 = .int .i64 k ∧ k ≤ code.length + 1 ∧ Hd (r'.length = code.length + 1 ∧ (∀ (j : Nat), j < k → r'[j]? = some (!domB (nxt code) code.length j i)) ∧ ∀ (j : Nat), k ≤ j → j ≤ code.length → r'[j]? = some (domB (nxt code) code.length j i)) ∧ Mem w wr [own Enc.bool 4 (some ⟨g', o', none⟩) c' r', rowsP Enc.bool 4 (g10.set i ⟨none, 0, 0⟩) ((tabF (nxt code) code.length i).set i []), own Enc.i64 3 (some ⟨b14, o14, none⟩) e14 (treeL (nxt code) code.length), rowsP Enc.bool 4 h11 (domTab (nxt code) code.length), own Enc.hdr 39 B11 e11 h11, own Enc.hdr 39 (some ⟨b10, o10, none⟩) e10 g10, rowsP Enc.bool 4 h9 (domTab (nxt code) code.length), own Enc.hdr 39 (some ⟨b9, o9, none⟩) e9 h9, box gH3 27 #[.int .u64 lv, .slice D1 ps.length d1, .slice D2 rs.length d2, .int .i64 lo, .int .i64 st, .slice D5 code.length d5], row 63 Enc.ins.sz D5 (code.length + 1) d5 (Enc.ins.all code ++ [I (-71), I 0]), row 23 Enc.u64.sz D2 (rs.length + 1) d2 (Enc.u64.all rs ++ [U 7171]), row 23 Enc.u64.sz D1 (ps.length + 1) d1 (Enc.u64.all ps ++ [U 7171]), box gH1 27 #[.int .u64 lv, .slice A1 ps.length c1, .slice A2 rs.length c2, .int .i64 lo, .int .i64 st, .slice A5 code.length c5]]) (fun v _ => code.length + 1 - (intOf v).toNat)
            case atStart => exact ⟨0, _, rfl, Nat.zero_le _, HR0, H2⟩
            case round =>
              clear H2 HR0
              obtain ⟨k, r', rfl, hk, HRL, H3⟩ := hrel
              obtain ⟨w3, rfl⟩ : ∃ w3 : World, w3 = wr := ⟨_, rfl⟩
              by_cases hkl : k < code.length + 1
              · obtain ⟨d, hd⟩ : ∃ d, d = domB (nxt code) code.length k i := ⟨_, rfl⟩
                have hrk := HRL.out.2.2 k (Nat.le_refl _) (by omega)
                rw [← hd] at hrk
                have HDK := hid hd
                have HRK := hid hrk
                clear hd hrk
                have hi1 : (i : Int) < (code.length : Int) + 1 := by omega
                have hk1 : (k : Int) < (code.length : Int) + 1 := by omega
                go_wp2
                refine wp_region_B (fun i => i == 14) (fun w' => w'.cell? ⟨b10, o10 + i, none⟩ = some (.slice (some ⟨g', o', none⟩) (code.length + 1) c') ∧ w'.cell? ⟨g', o' + k, none⟩ = some (.bool d)) (by kernel_rfl) ?_
                have H4 := H3.drew
                obtain ⟨w4, hw4⟩ : ∃ w4, w4 = w3.drew := ⟨_, rfl⟩
                rw [← hw4] at H4 ⊢
                clear hw4
                have hS : w4.cell? ⟨b10, o10 + i, none⟩ = some (.slice (some ⟨g', o', none⟩) (code.length + 1) c') ∧ w4.cell? ⟨g', o' + k, none⟩ = some (.bool d) := ⟨(H4.own_get1 5 rfl rfl HHD.out rfl).1, (H4.own_get1 0 rfl rfl HRK.out rfl).1⟩
                refine wpAnyB_take' (i := 0) (v := .slice (some ⟨b10, o10, none⟩) (code.length + 1) e10) rfl (by kernel_rfl) (by kernel_rfl) rfl (by kernel_rfl) (by kernel_rfl) (fun _ _ _ h => h) (by rfl) hS (by intro w' hS'; obtain ⟨k1, k2⟩ := hS'; first | (go_simp; done) | (go_simp; rfl) | (go_simp; assumption)) ?_
                simp only [Act.put, List.setIfInBounds_toArray, List.set_cons_zero, List.set_cons_succ]
                refine wpAnyB_take' (i := 1) (v := I (i : Int)) rfl (by kernel_rfl) (by kernel_rfl) rfl (by kernel_rfl) (by kernel_rfl) (fun _ _ _ h => h) (by rfl) hS (by intro w' hS'; obtain ⟨k1, k2⟩ := hS'; first | (go_simp; done) | (go_simp; rfl) | (go_simp; assumption)) ?_
                simp only [Act.put, List.setIfInBounds_toArray, List.set_cons_zero, List.set_cons_succ]
                refine wpAnyB_take' (i := 2) (v := .pointer (some ⟨b10, o10 + i, none⟩)) rfl (by kernel_rfl) (by kernel_rfl) rfl (by kernel_rfl) (by kernel_rfl) (fun _ _ _ h => h) (by rfl) hS (by intro w' hS'; obtain ⟨k1, k2⟩ := hS'; first | (go_simp; done) | (go_simp; rfl) | (go_simp; assumption)) ?_
                simp only [Act.put, List.setIfInBounds_toArray, List.set_cons_zero, List.set_cons_succ]
                refine wpAnyB_take' (i := 3) (v := .slice (some ⟨g', o', none⟩) (code.length + 1) c') rfl (by kernel_rfl) (by kernel_rfl) rfl (by kernel_rfl) (by kernel_rfl) (fun _ _ _ h => h) (by rfl) hS (by intro w' hS'; obtain ⟨k1, k2⟩ := hS'; first | (go_simp; done) | (go_simp; rfl) | (go_simp; assumption)) ?_
                simp only [Act.put, List.setIfInBounds_toArray, List.set_cons_zero, List.set_cons_succ]
                refine wpAnyB_take' (i := 4) (v := I (k : Int)) rfl (by kernel_rfl) (by kernel_rfl) rfl (by kernel_rfl) (by kernel_rfl) (fun _ _ _ h => h) (by rfl) hS (by intro w' hS'; obtain ⟨k1, k2⟩ := hS'; first | (go_simp; done) | (go_simp; rfl) | (go_simp; assumption)) ?_
                simp only [Act.put, List.setIfInBounds_toArray, List.set_cons_zero, List.set_cons_succ]
                refine wpAnyB_take' (i := 5) (v := .slice (some ⟨b10, o10, none⟩) (code.length + 1) e10) rfl (by kernel_rfl) (by kernel_rfl) rfl (by kernel_rfl) (by kernel_rfl) (fun _ _ _ h => h) (by rfl) hS (by intro w' hS'; obtain ⟨k1, k2⟩ := hS'; first | (go_simp; done) | (go_simp; rfl) | (go_simp; assumption)) ?_
                simp only [Act.put, List.setIfInBounds_toArray, List.set_cons_zero, List.set_cons_succ]
                refine wpAnyB_take' (i := 6) (v := I (i : Int)) rfl (by kernel_rfl) (by kernel_rfl) rfl (by kernel_rfl) (by kernel_rfl) (fun _ _ _ h => h) (by rfl) hS (by intro w' hS'; obtain ⟨k1, k2⟩ := hS'; first | (go_simp; done) | (go_simp; rfl) | (go_simp; assumption)) ?_
                simp only [Act.put, List.setIfInBounds_toArray, List.set_cons_zero, List.set_cons_succ]
                refine wpAnyB_take' (i := 7) (v := .pointer (some ⟨b10, o10 + i, none⟩)) rfl (by kernel_rfl) (by kernel_rfl) rfl (by kernel_rfl) (by kernel_rfl) (fun _ _ _ h => h) (by rfl) hS (by intro w' hS'; obtain ⟨k1, k2⟩ := hS'; first | (go_simp; done) | (go_simp; rfl) | (go_simp; assumption)) ?_
                simp only [Act.put, List.setIfInBounds_toArray, List.set_cons_zero, List.set_cons_succ]
                refine wpAnyB_take' (i := 8) (v := .slice (some ⟨g', o', none⟩) (code.length + 1) c') rfl (by kernel_rfl) (by kernel_rfl) rfl (by kernel_rfl) (by kernel_rfl) (fun _ _ _ h => h) (by rfl) hS (by intro w' hS'; obtain ⟨k1, k2⟩ := hS'; first | (go_simp; done) | (go_simp; rfl) | (go_simp; assumption)) ?_
                simp only [Act.put, List.setIfInBounds_toArray, List.set_cons_zero, List.set_cons_succ]
                refine wpAnyB_take' (i := 9) (v := I (k : Int)) rfl (by kernel_rfl) (by kernel_rfl) rfl (by kernel_rfl) (by kernel_rfl) (fun _ _ _ h => h) (by rfl) hS (by intro w' hS'; obtain ⟨k1, k2⟩ := hS'; first | (go_simp; done) | (go_simp; rfl) | (go_simp; assumption)) ?_
                simp only [Act.put, List.setIfInBounds_toArray, List.set_cons_zero, List.set_cons_succ]
                refine wpAnyB_take' (i := 10) (v := .pointer (some ⟨g', o' + k, none⟩)) rfl (by kernel_rfl) (by kernel_rfl) rfl (by kernel_rfl) (by kernel_rfl) (fun _ _ _ h => h) (by rfl) hS (by intro w' hS'; obtain ⟨k1, k2⟩ := hS'; first | (go_simp; done) | (go_simp; rfl) | (go_simp; assumption)) ?_
                simp only [Act.put, List.setIfInBounds_toArray, List.set_cons_zero, List.set_cons_succ]
                refine wpAnyB_take' (i := 11) (v := .bool d) rfl (by kernel_rfl) (by kernel_rfl) rfl (by kernel_rfl) (by kernel_rfl) (fun _ _ _ h => h) (by rfl) hS (by intro w' hS'; obtain ⟨k1, k2⟩ := hS'; first | (go_simp; done) | (go_simp; rfl) | (go_simp; assumption)) ?_
                simp only [Act.put, List.setIfInBounds_toArray, List.set_cons_zero, List.set_cons_succ]
                refine wpAnyB_take' (i := 12) (v := .bool (!d)) rfl (by kernel_rfl) (by kernel_rfl) rfl (by kernel_rfl) (by kernel_rfl) (fun _ _ _ h => h) (by rfl) hS (by intro w' hS'; obtain ⟨k1, k2⟩ := hS'; first | (go_simp; done) | (go_simp; rfl) | (go_simp; assumption)) ?_
                simp only [Act.put, List.setIfInBounds_toArray, List.set_cons_zero, List.set_cons_succ]
                refine wpAnyB_take' (i := 13) (v := .pointer (some ⟨g', o' + k, none⟩)) rfl (by kernel_rfl) (by kernel_rfl) rfl (by kernel_rfl) (by kernel_rfl) (fun _ _ _ h => h) (by rfl) hS (by intro w' hS'; obtain ⟨k1, k2⟩ := hS'; first | (go_simp; done) | (go_simp; rfl) | (go_simp; assumption)) ?_
                simp only [Act.put, List.setIfInBounds_toArray, List.set_cons_zero, List.set_cons_succ]
                refine wpAnyB_one' (i := 14) rfl (by kernel_rfl) ?_
                refine wpList_store_own H4 0 k (!d) rfl rfl rfl rfl rfl (by kernel_rfl) (by have := HRL.out.1; omega) ?_
                intro w5 H5
                simp only [List.set_cons_zero, List.set_cons_succ] at H5
                refine And.intro (fun h => by cases h) ?_
                refine wpAnyB_done (by kernel_rfl) ?_ _
                clear hS H3 H4
                go_wp2
                go_roundw
                case rel =>
                  refine ⟨k + 1, r'.set k (!d), by go_num, by omega, ⟨by rw [List.length_set]; exact HRL.out.1, fun j hj => ?_, fun j hj hjn => ?_⟩, H5⟩
                  · by_cases e : k = j
                    · subst e
                      rw [List.getElem?_set_self (by rw [HRL.out.1]; omega), HDK.out]
                    · rw [List.getElem?_set_ne e]
                      exact HRL.out.2.1 j (by omega)
                  · rw [List.getElem?_set_ne (by omega)]
                    exact HRL.out.2.2 j (by omega) hjn
                case measure => first | (simp [intOf]; done) | (simp [intOf]; omega)
              · obtain rfl : k = code.length + 1 := by omega
                have hr' : r' = (domRow (nxt code) code.length i).map (!·) := by
                  apply List.ext_getElem?
                  intro j
                  by_cases hj : j ≤ code.length
                  · rw [HRL.out.2.1 j (by omega), List.getElem?_map, domRow_get hj]
                    rfl
                  · rw [List.getElem?_eq_none (by rw [HRL.out.1]; omega), List.getElem?_eq_none (by simp [domRow_len]; omega)]
                have hrl : r'.length = code.length + 1 := HRL.out.1
                have eo : own Enc.bool 4 (some ⟨g', o', none⟩) c' r' = row 4 1 (some ⟨g', o', none⟩) (code.length + 1) c' (Enc.bool.all r') := by unfold own; rw [hrl]; rfl
                have e5 := (H3.own_get1 5 rfl rfl HHD.out rfl).1
                rw [eo] at H3
                have HRR := hid hr'
                have HRLN := hid hrl
                clear hr' hrl eo
                go_wp2_with (first
                  | ((with_reducible refine at_append ?_)
                     have H6 := (H3.alloc 4 #[.bool true, .bool true]).row_of_box (sz := 1) (n := 2) 0 rfl rfl (by decide) (fun u hu => List.all_eq_true.1 (show List.all [.bool true, .bool true] Value.oneCell' = true from rfl) u hu)
                     simp only [List.set_cons_zero] at H6
                     refine wpList_append_row rfl _ _ rfl elt_bool H6 1 rfl rfl rfl (H6.rd 0 rfl elt_bool.pos).1 (by unfold maxLen; omega) (by omega) ?_
                     intro A7 c7 w7 H7
                     simp only [List.set_cons_succ, List.set_cons_zero] at H7
                     replace H7 := H7.drop 0
                     simp only [List.eraseIdx_cons_zero] at H7)
                  | ((with_reducible refine at_store ?_); refine wpList_store_own H7 5 i (⟨A7, code.length + 3, c7⟩ : Hdr) rfl rfl rfl rfl rfl (by kernel_rfl) (by rw [HG.out.1]; omega) ?_; intro wH8 H8; simp only [List.set_cons_zero, List.set_cons_succ] at H8))
                go_roundw
                case rel =>
                  have eo7 : row 4 1 A7 (code.length + 1 + 2) c7 (Enc.bool.all r' ++ [.bool true, .bool true]) = own Enc.bool 4 A7 c7 (flipR (nxt code) code.length i) := by
                    have hl := flipR_len (nxt code) code.length i
                    have hf : flipR (nxt code) code.length i = r' ++ [true, true] := by rw [HRR.out]; rfl
                    unfold own
                    rw [hl, hf, Enc.all_append]
                    rfl
                  have H9 := H8
                  rw [eo7] at H9
                  have H10 := H9.rows_in (k := i) (by rw [List.getElem?_set_self (by rw [HG.out.1]; omega)]) (by rw [List.getElem?_set_self (by rw [tabF_len]; omega)])
                  rw [List.set_set, List.set_set, tabF_set hiN, flipR_len] at H10
                  have H11 := ((H10.mv 3 rfl).mv 3 rfl).mv 3 rfl
                  simp only [List.eraseIdx_cons_succ, List.eraseIdx_cons_zero] at H11
                  refine ⟨i + 1, g10.set i ⟨A7, code.length + 3, c7⟩, by go_num, by omega, ⟨by rw [List.length_set]; exact HG.out.1, fun k hd r h1 h2 => ?_⟩, H11⟩
                  rw [← tabF_set hiN] at h2
                  by_cases e : i = k
                  · subst e
                    rw [List.getElem?_set_self (by rw [HG.out.1]; omega)] at h1
                    rw [List.getElem?_set_self (by rw [tabF_len]; omega)] at h2
                    obtain rfl := Option.some.inj h1
                    obtain rfl := Option.some.inj h2
                    exact (flipR_len _ _ _).symm
                  · rw [List.getElem?_set_ne e] at h1 h2
                    exact HG.out.2 k hd r h1 h2
                case measure => first | (simp [intOf]; done) | (simp [intOf]; omega)
          · obtain rfl : i = code.length + 1 := by omega
            rw [show ((code.length + 1 : Nat) : Int) = (code.length : Int) + 1 from rfl]
            clear hlt hi
            go_wp2
            go_loopw [24] (fun v24 wr => ∃ (i : Nat), v24 = .int .i64 i ∧ i ≤ code.length + 1 ∧ Mem w wr [own Enc.i64 3 (some ⟨b14, o14, none⟩) e14 (treeL (nxt code) code.length), rowsP Enc.bool 4 h11 (domTab (nxt code) code.length), own Enc.hdr 39 B11 e11 h11, rowsP Enc.bool 4 g10 (tabF (nxt code) code.length (code.length + 1)), own Enc.hdr 39 (some ⟨b10, o10, none⟩) e10 g10, rowsP Enc.bool 4 h9 (domTab (nxt code) code.length), own Enc.hdr 39 (some ⟨b9, o9, none⟩) e9 h9, box gH3 27 #[.int .u64 lv, .slice D1 ps.length d1, .slice D2 rs.length d2, .int .i64 lo, .int .i64 st, .slice D5 code.length d5], row 63 Enc.ins.sz D5 (code.length + 1) d5 (Enc.ins.all code ++ [I (-71), I 0]), row 23 Enc.u64.sz D2 (rs.length + 1) d2 (Enc.u64.all rs ++ [U 7171]), row 23 Enc.u64.sz D1 (ps.length + 1) d1 (Enc.u64.all ps ++ [U 7171]), box gH1 27 #[.int .u64 lv, .slice A1 ps.length c1, .slice A2 rs.length c2, .int .i64 lo, .int .i64 st, .slice A5 code.length c5]]) (fun v _ => code.length + 1 - (intOf v).toNat)
            case atStart => exact ⟨0, rfl, Nat.zero_le _, H1⟩
            case round =>
              clear H1
              obtain ⟨i, rfl, hi, H1⟩ := hrel
              obtain ⟨w2, rfl⟩ : ∃ w2 : World, w2 = wr := ⟨_, rfl⟩
              by_cases hlt : i < code.length + 1
              · have hiN : i ≤ code.length := by omega
                have hta := tabF_get (nx := nxt code) (i := code.length + 1) hiN
                rw [if_pos hlt] at hta
                have htw := domTab_get (nx := nxt code) hiN
                obtain ⟨⟨Aa, na, ca⟩, hha⟩ : ∃ hd, g10[i]? = some hd := ⟨_, List.getElem?_eq_getElem (by rw [HG.out.1]; omega)⟩
                have hna := HG.out.2 i _ _ hha hta
                simp only [flipR_len] at hna
                subst hna
                obtain ⟨⟨Aw, nw, cw⟩, hhw⟩ : ∃ hd, h9[i]? = some hd := ⟨_, List.getElem?_eq_getElem (by rw [N9.out]; omega)⟩
                have hnw := F9.out i _ _ hhw htw
                simp only [domRow_len] at hnw
                subst hnw
                have ra := (H1.rows_get 3 rfl (by decide) hha hta).1
                have rw' := (H1.rows_get 5 rfl (by decide) hhw htw).1
                simp only [] at ra rw'
                obtain ⟨ga, oa, rfl, -⟩ := ra.get1 rfl (flipR_get (Nat.zero_le _)) rfl
                obtain ⟨gw, ow, rfl, -⟩ := rw'.get1 rfl (domRow_get (Nat.zero_le _)) rfl
                have HHA := hid hha
                have HHW := hid hhw
                have HTA := hid hta
                have HTW := hid htw
                have hi1 : (i : Int) < (code.length : Int) + 1 := by omega
                clear hha hhw hta htw ra rw'
                go_wp2
                go_loopw [25] (fun v25 wr => ∃ (k : Nat), v25 = .int .i64 k ∧ k ≤ code.length + 1 ∧ Mem w wr [own Enc.i64 3 (some ⟨b14, o14, none⟩) e14 (treeL (nxt code) code.length), rowsP Enc.bool 4 h11 (domTab (nxt code) code.length), own Enc.hdr 39 B11 e11 h11, rowsP Enc.bool 4 g10 (tabF (nxt code) code.length (code.length + 1)), own Enc.hdr 39 (some ⟨b10, o10, none⟩) e10 g10, rowsP Enc.bool 4 h9 (domTab (nxt code) code.length), own Enc.hdr 39 (some ⟨b9, o9, none⟩) e9 h9, box gH3 27 #[.int .u64 lv, .slice D1 ps.length d1, .slice D2 rs.length d2, .int .i64 lo, .int .i64 st, .slice D5 code.length d5], row 63 Enc.ins.sz D5 (code.length + 1) d5 (Enc.ins.all code ++ [I (-71), I 0]), row 23 Enc.u64.sz D2 (rs.length + 1) d2 (Enc.u64.all rs ++ [U 7171]), row 23 Enc.u64.sz D1 (ps.length + 1) d1 (Enc.u64.all ps ++ [U 7171]), box gH1 27 #[.int .u64 lv, .slice A1 ps.length c1, .slice A2 rs.length c2, .int .i64 lo, .int .i64 st, .slice A5 code.length c5]]) (fun v _ => code.length + 1 - (intOf v).toNat)
                case atStart => exact ⟨0, rfl, Nat.zero_le _, H1⟩
                case round =>
                  clear H1
                  obtain ⟨k, rfl, hk, H2⟩ := hrel
                  obtain ⟨w3, rfl⟩ : ∃ w3 : World, w3 = wr := ⟨_, rfl⟩
                  by_cases hkl : k < code.length + 1
                  · have hkN : k ≤ code.length := by omega
                    obtain ⟨d, hd⟩ : ∃ d, d = domB (nxt code) code.length k i := ⟨_, rfl⟩
                    have e1 := (H2.own_get1 4 rfl rfl HHA.out rfl).1
                    have e2 := Rd.cell1 (H2.rows_get 3 rfl (by decide) HHA.out HTA.out).1 rfl (flipR_get hkN) rfl
                    have e3 := (H2.own_get1 6 rfl rfl HHW.out rfl).1
                    have e4 := Rd.cell1 (H2.rows_get 5 rfl (by decide) HHW.out HTW.out).1 rfl (domRow_get hkN) rfl
                    rw [← hd] at e2 e4
                    clear hd
                    have hk1 : (k : Int) < (code.length : Int) + 1 := by omega
                    have hk3 : (k : Int) < (code.length : Int) + 3 := by omega
                    cases d with
                    | true =>
                      go_wp2
                      go_quiet (fail)
                      have H3 := H2.drewN nq
                      obtain ⟨w4, hw4⟩ : ∃ w4, w4 = w3.drewN nq := ⟨_, rfl⟩
                      rw [← hw4] at H3 ⊢
                      clear e1 e2 e3 e4 hw4
                      go_wp2
                      go_roundw
                      case rel => exact ⟨k + 1, by go_num, by omega, H3⟩
                      case measure => first | (simp [intOf]; done) | (simp [intOf]; omega)
                    | false =>
                      go_wp2
                      go_quiet (fail)
                      have H3 := H2.drewN nq
                      obtain ⟨w4, hw4⟩ : ∃ w4, w4 = w3.drewN nq := ⟨_, rfl⟩
                      rw [← hw4] at H3 ⊢
                      clear e1 e2 e3 e4 hw4
                      go_wp2
                      go_roundw
                      case rel => exact ⟨k + 1, by go_num, by omega, H3⟩
                      case measure => first | (simp [intOf]; done) | (simp [intOf]; omega)
                  · obtain rfl : k = code.length + 1 := by omega
                    go_wp2
                    go_roundw
                    case rel => exact ⟨i + 1, by go_num, by omega, H2⟩
                    case measure => first | (simp [intOf]; done) | (simp [intOf]; omega)
              · obtain rfl : i = code.length + 1 := by omega
                have b8 := H1.cells 7 rfl
                simp only [cellsAre, and_true, Nat.zero_add] at b8
                have b0 := H1.cells 11 rfl
                simp only [cellsAre, and_true, Nat.zero_add] at b0
                go_wp2_with (first
                  | ((go_at_call 10; (with_reducible refine (rows_true (H1.rdRows 2 1 rfl rfl (by rw [N11.out, domTab_len]) F11.out (by decide)) (H1.rdRows 6 5 rfl rfl (by rw [N9.out, domTab_len]) F9.out (by decide)) hn6).mono ?_); rintro e w3 ⟨rfl, H2'⟩; have H2 := H1.call H2'; simp only [List.nil_append] at H2; clear H2' b8 b0); (try clear b8); have b8 := H2.cells 7 rfl; simp only [cellsAre, and_true, Nat.zero_add] at b8; (try clear b0); have b0 := H2.cells 11 rfl; simp only [cellsAre, and_true, Nat.zero_add] at b0)
                  | (go_at_call 16; (with_reducible refine (FK.out _ ⟨D1, d1, D2, d2, D5, d5⟩ ⟨A1, c1, A2, c2, A5, c5⟩ (H2.marked (f := ⟨lv, ps, rs, lo, st, code⟩) (h := ⟨D1, d1, D2, d2, D5, d5⟩) 8 9 10 rfl rfl rfl l5 l2 l1 HR.out.b1 HR.out.b2 HR.out.b5) (Fun.Rd.below HR.out H2.below)).mono ?_); rintro e w4 ⟨rfl, H3'⟩; have H3 := H2.call H3'; simp only [List.nil_append] at H3; clear H3' b8 b0)
                  | (go_at_call 4; (with_reducible refine (awake_calls _).mono ?_); rintro e w5 ⟨rfl, H4'⟩; have H4 := H3.call H4'; simp only [List.nil_append] at H4))
                go_ret
                exact ⟨rfl, H4.none⟩
  · have H0 := Mem.refl w
    obtain ⟨lv, ps, rs, lo, st, code⟩ := f
    obtain ⟨A1, c1, A2, c2, A5, c5⟩ := h
    clear hR0
    simp only [] at hn hcl
    simp only [Fun.val] at *
    go_enter Try.func3, Try.ntmps3
    go_wp2_with (first
      | ((with_reducible refine at_box ?_); refine wpList_box_box H0 ?_; intro u_ gH1 wH1 hu_ H1; simp only [Act.eval, Act.put, List.setIfInBounds_toArray, List.set_cons_zero, List.set_cons_succ, Array.getD_eq_getD_getElem?, List.getElem?_toArray, List.getElem?_cons_zero, List.getElem?_cons_succ, Option.getD_some] at hu_; subst hu_; simp only [splice, vcells_int, vcells_bool, vcells_string, vcells_pointer, vcells_slice, vcells_map, vcells_func, vcells_nilFunc, vcells_iface, vcells_nilIface, vcells_agg, List.take_zero, List.take_succ_cons, List.drop_zero, List.drop_succ_cons, List.length_cons, List.length_nil, List.nil_append, List.cons_append, List.append_nil, Nat.zero_add, List.set_cons_zero, List.set_cons_succ] at H1; (try clear b0); have b0 := H1.cells 0 rfl; simp only [cellsAre, and_true, Nat.zero_add] at b0)
      | (go_at_call 4; (with_reducible refine (awake_calls _).mono ?_); rintro e w2 ⟨rfl, H2'⟩; have H2 := H1.call H2'))
    go_ret
    exact ⟨rfl, H2.none⟩
end Go.Proofs.Ytjlikbaamefkiaa
