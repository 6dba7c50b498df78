/- Names: lent sources. -/
import Derived.Test.YtogndpckiognjaaNmL2
namespace Go.Proofs.Ytogndpckiognjaa
open Go.RowKit
set_option linter.unusedVariables false
set_option linter.unusedSimpArgs false
set_option maxHeartbeats 2000000
def footF (B : Nat) (hs : List FuncH) (l : List FDecl) (w : World) : Prop := ∀ (i : Nat) (hd : FuncH) (s : FDecl), hs[i]? = some hd → l[i]? = some s → LF B w hd s
theorem footF.snoc {B : Nat} {hs : List FuncH} {l : List FDecl} {w : World} {hd : FuncH} {r : FDecl} (h : footF B hs l w) (hr : l[hs.length]? = some r) (hl : LF B w hd r) : footF B (hs ++ [hd]) l w := by
  intro i x y h1 h2
  rcases snoc_get h1 with h3 | ⟨rfl, rfl⟩
  · exact h i x y h3 h2
  · rw [hr] at h2
    obtain rfl := Option.some.inj h2
    exact hl
structure footQ (B : Nat) (s : Src) (P G C A : Hdr) (w : World) : Prop where
  p : LH Enc.str B w P s.principals
  g : LH Enc.decl B w G s.globals
  c : LH Enc.decl B w C s.channels
  a : LH Enc.arr B w A s.arrays
def LentSrcRes (s : Src) (w : World) (e : Ending) (w' : World) : Prop := ∃ h : SrcH, e = .returned h.val ∧ Mem w w' [foot (fun w' => LSrc w.heap.size w' h s)]
set_option maxRecDepth 100000 in
theorem lentSource_calls (h : SrcH) (s : Src) (w : World) (R : RdSrc w h s) (ok : s.Ok) :
    Calls Try.prog 7 #[h.val] w (LentSrcRes s w) := by
  have HR := hid R
  have HO := hid ok
  have lp := ok.principals
  have lg := ok.globals
  have la := ok.arrays
  have lc := ok.channels
  have lf := ok.funcs
  have hpn : h.p.n = s.principals.length := R.principals.n
  have hgn : h.g.n = s.globals.length := R.globals.n
  have han : h.a.n = s.arrays.length := R.arrays.n
  have hcn : h.c.n = s.channels.length := R.channels.n
  have hfn : h.f.n = s.funcs.length := by rw [R.funcs.hdr.n, R.funcs.len]
  obtain ⟨B, hB⟩ : ∃ B, B = w.heap.size := ⟨_, rfl⟩
  have HB := hid hB
  have H0 := Mem.refl w
  simp only [SrcH.val, hpn, hgn, han, hcn, hfn]
  clear R ok hpn hgn han hcn hfn hB
  go_enter Try.func7, Try.ntmps7
  go_wp2_with (first
    | ((with_reducible refine at_box ?_); refine wpList_box_box H0 ?_; intro u_ gH1 wH1 hu_ H1; simp only [Act.eval, Act.put, List.setIfInBounds_toArray, List.set_cons_zero, List.set_cons_succ, Array.getD_eq_getD_getElem?, List.getElem?_toArray, List.getElem?_cons_zero, List.getElem?_cons_succ, Option.getD_some] at hu_; subst hu_; simp only [splice, vcells_int, vcells_bool, vcells_string, vcells_pointer, vcells_slice, vcells_map, vcells_func, vcells_nilFunc, vcells_iface, vcells_nilIface, vcells_agg, List.take_zero, List.take_succ_cons, List.drop_zero, List.drop_succ_cons, List.length_cons, List.length_nil, List.nil_append, List.cons_append, List.append_nil, Nat.zero_add, List.set_cons_zero, List.set_cons_succ] at H1; (try clear b1); have b1 := H1.cells 0 rfl; simp only [cellsAre, and_true, Nat.zero_add] at b1)
    | ((with_reducible refine at_alloc ?_); refine wpList_alloc_box H1 (.agg #[.slice none 0 0, .slice none 0 0, .slice none 0 0, .slice none 0 0, .slice none 0 0]) (by kernel_rfl) ?_; intro gH2 wH2 H2; simp only [splice, vcells_int, vcells_bool, vcells_string, vcells_pointer, vcells_slice, vcells_map, vcells_func, vcells_nilFunc, vcells_iface, vcells_nilIface, vcells_agg, List.take_zero, List.take_succ_cons, List.drop_zero, List.drop_succ_cons, List.length_cons, List.length_nil, List.nil_append, List.cons_append, List.append_nil, Nat.zero_add, List.set_cons_zero, List.set_cons_succ] at H2; (try clear b1); have b1 := H2.cells 1 rfl; simp only [cellsAre, and_true, Nat.zero_add] at b1)
    | ((with_reducible refine at_alloc ?_); refine wpList_alloc_box H2 (.agg #[.slice none 0 0, .slice none 0 0, .slice none 0 0, .slice none 0 0, .slice none 0 0]) (by kernel_rfl) ?_; intro gH3 wH3 H3; simp only [splice, vcells_int, vcells_bool, vcells_string, vcells_pointer, vcells_slice, vcells_map, vcells_func, vcells_nilFunc, vcells_iface, vcells_nilIface, vcells_agg, List.take_zero, List.take_succ_cons, List.drop_zero, List.drop_succ_cons, List.length_cons, List.length_nil, List.nil_append, List.cons_append, List.append_nil, Nat.zero_add, List.set_cons_zero, List.set_cons_succ] at H3; (try clear b1); have b1 := H3.cells 2 rfl; simp only [cellsAre, and_true, Nat.zero_add] at b1)
    | ((go_at_call 21; (with_reducible refine (lentStrings_foot h.p.A h.p.c s.principals _ (Rd.below HR.out.principals.rd H3.below) lp).mono ?_); rintro e w4 ⟨A4, c4, rfl, H4'⟩; have H4 := H3.call H4'; simp only [List.cons_append, List.nil_append] at H4; clear b1); (try clear b1); have b1 := H4.cells 3 rfl; simp only [cellsAre, and_true, Nat.zero_add] at b1)
    | ((with_reducible refine at_store ?_); refine wpList_store_box H4 1 1 rfl rfl (by kernel_rfl) rfl (Nat.le_of_ble_eq_true rfl) rfl ?_; intro u_ wH5 hu_ H5; simp only [Act.eval, Act.put, List.setIfInBounds_toArray, List.set_cons_zero, List.set_cons_succ, Array.getD_eq_getD_getElem?, List.getElem?_toArray, List.getElem?_cons_zero, List.getElem?_cons_succ, Option.getD_some] at hu_; subst hu_; simp only [splice, vcells_int, vcells_bool, vcells_string, vcells_pointer, vcells_slice, vcells_map, vcells_func, vcells_nilFunc, vcells_iface, vcells_nilIface, vcells_agg, List.take_zero, List.take_succ_cons, List.drop_zero, List.drop_succ_cons, List.length_cons, List.length_nil, List.nil_append, List.cons_append, List.append_nil, Nat.zero_add, List.set_cons_zero, List.set_cons_succ] at H5; (try clear b1); have b1 := H5.cells 3 rfl; simp only [cellsAre, and_true, Nat.zero_add] at b1)
    | ((go_at_call 22; (with_reducible refine (lentDecls_foot h.g.A h.g.c s.globals _ (Rd.below HR.out.globals.rd H5.below) lg).mono ?_); rintro e w6 ⟨A6, c6, rfl, H6'⟩; have H6 := H5.call H6'; simp only [List.cons_append, List.nil_append] at H6; clear b1); (try clear b1); have b1 := H6.cells 4 rfl; simp only [cellsAre, and_true, Nat.zero_add] at b1)
    | ((with_reducible refine at_store ?_); refine wpList_store_box H6 2 1 rfl rfl (by kernel_rfl) rfl (Nat.le_of_ble_eq_true rfl) rfl ?_; intro u_ wH7 hu_ H7; simp only [Act.eval, Act.put, List.setIfInBounds_toArray, List.set_cons_zero, List.set_cons_succ, Array.getD_eq_getD_getElem?, List.getElem?_toArray, List.getElem?_cons_zero, List.getElem?_cons_succ, Option.getD_some] at hu_; subst hu_; simp only [splice, vcells_int, vcells_bool, vcells_string, vcells_pointer, vcells_slice, vcells_map, vcells_func, vcells_nilFunc, vcells_iface, vcells_nilIface, vcells_agg, List.take_zero, List.take_succ_cons, List.drop_zero, List.drop_succ_cons, List.length_cons, List.length_nil, List.nil_append, List.cons_append, List.append_nil, Nat.zero_add, List.set_cons_zero, List.set_cons_succ] at H7; (try clear b1); have b1 := H7.cells 4 rfl; simp only [cellsAre, and_true, Nat.zero_add] at b1)
    | ((go_at_call 22; (with_reducible refine (lentDecls_foot h.c.A h.c.c s.channels _ (Rd.below HR.out.channels.rd H7.below) lc).mono ?_); rintro e w8 ⟨AC, cC, rfl, H8'⟩; have H8 := H7.call H8'; simp only [List.cons_append, List.nil_append] at H8; clear b1); (try clear b1); have b1 := H8.cells 5 rfl; simp only [cellsAre, and_true, Nat.zero_add] at b1)
    | (((with_reducible refine at_store ?_); refine wpList_store_box H8 3 1 rfl rfl (by kernel_rfl) rfl (Nat.le_of_ble_eq_true rfl) rfl ?_; intro u_ wH9 hu_ H9; simp only [Act.eval, Act.put, List.setIfInBounds_toArray, List.set_cons_zero, List.set_cons_succ, Array.getD_eq_getD_getElem?, List.getElem?_toArray, List.getElem?_cons_zero, List.getElem?_cons_succ, Option.getD_some] at hu_; subst hu_; simp only [splice, vcells_int, vcells_bool, vcells_string, vcells_pointer, vcells_slice, vcells_map, vcells_func, vcells_nilFunc, vcells_iface, vcells_nilIface, vcells_agg, List.take_zero, List.take_succ_cons, List.drop_zero, List.drop_succ_cons, List.length_cons, List.length_nil, List.nil_append, List.cons_append, List.append_nil, Nat.zero_add, List.set_cons_zero, List.set_cons_succ] at H9; (try clear b1); have b1 := H9.cells 5 rfl; simp only [cellsAre, and_true, Nat.zero_add] at b1); have H10 := H9.nilrow 39 3; have RA := Rd.below HR.out.arrays.rd H10.below)
    | ((with_reducible refine at_append ?_); refine wpList_append_row rfl _ _ rfl elt_arr H10 0 rfl rfl rfl RA (by unfold maxLen; omega) (by omega) ?_; intro A11 c11 w11 H11; simp only [List.set_cons_zero, Nat.zero_add, List.nil_append] at H11 ⊢; clear b1; have b1 := H11.cells 6 rfl; simp only [cellsAre, and_true, Nat.zero_add] at b1)
    | (((with_reducible refine at_build1 ?_); refine wpList_build1 elt_arr H11 rfl rfl (by decide) ?_; intro u_ gH12 wH12 hu_ H12; simp only [Act.eval, Act.put, List.setIfInBounds_toArray, List.set_cons_zero, List.set_cons_succ, Array.getD_eq_getD_getElem?, List.getElem?_toArray, List.getElem?_cons_zero, List.getElem?_cons_succ, Option.getD_some] at hu_; subst hu_; simp only [splice, vcells_int, vcells_bool, vcells_string, vcells_pointer, vcells_slice, vcells_map, vcells_func, vcells_nilFunc, vcells_iface, vcells_nilIface, vcells_agg, List.take_zero, List.take_succ_cons, List.drop_zero, List.drop_succ_cons, List.length_cons, List.length_nil, List.nil_append, List.cons_append, List.append_nil, Nat.zero_add, List.set_cons_zero, List.set_cons_succ] at H12); clear b1; have b1 := H12.cells 7 rfl; simp only [cellsAre, and_true, Nat.zero_add] at b1)
    | ((with_reducible refine at_append ?_); refine wpList_append_row rfl _ _ rfl elt_arr H12 1 rfl rfl rfl (H12.rd 0 rfl elt_arr.pos).1 (by unfold maxLen; omega) (by omega) ?_; intro A13 c13 w13 H13; simp only [List.set_cons_zero, List.set_cons_succ] at H13; obtain ⟨-, hc13, hc13'⟩ := H13.rd 1 rfl elt_arr.pos; unfold maxLen at hc13'; clear b1; have b1 := H13.cells 7 rfl; simp only [cellsAre, and_true, Nat.zero_add] at b1)
    | ((with_reducible refine at_store ?_); refine wpList_store_box H13 5 1 rfl rfl (by kernel_rfl) rfl (Nat.le_of_ble_eq_true rfl) rfl ?_; intro u_ wH14 hu_ H14; simp only [Act.eval, Act.put, List.setIfInBounds_toArray, List.set_cons_zero, List.set_cons_succ, Array.getD_eq_getD_getElem?, List.getElem?_toArray, List.getElem?_cons_zero, List.getElem?_cons_succ, Option.getD_some] at hu_; subst hu_; simp only [splice, vcells_int, vcells_bool, vcells_string, vcells_pointer, vcells_slice, vcells_map, vcells_func, vcells_nilFunc, vcells_iface, vcells_nilIface, vcells_agg, List.take_zero, List.take_succ_cons, List.drop_zero, List.drop_succ_cons, List.length_cons, List.length_nil, List.nil_append, List.cons_append, List.append_nil, Nat.zero_add, List.set_cons_zero, List.set_cons_succ] at H14))
  have hB3 : B ≤ wH3.heap.size := by rw [HB.out]; exact H3.below.size
  have hB5 : B ≤ wH5.heap.size := by rw [HB.out]; exact H5.below.size
  have hB7 : B ≤ wH7.heap.size := by rw [HB.out]; exact H7.below.size
  have H15 := (((H14.drop 0).toFoot (K := fun w' => LH Enc.arr B w' ⟨A13, s.arrays.length, c13⟩ s.arrays) fun F w' hP hF => LH.of_row (T := 39) (mk := [.string ⟨#[109, 97, 114, 107]⟩, .int .i64 0, .int .u64 0]) (by decide) F w' hP (by rw [HB.out]; exact hF)).ftAnd.ftAnd.ftAnd).ftMono (K' := footQ B s ⟨A4, s.principals.length, c4⟩ ⟨A6, s.globals.length, c6⟩ ⟨AC, s.channels.length, cC⟩ ⟨A13, s.arrays.length, c13⟩) fun w' h => ⟨h.2.less hB3, h.1.2.less hB5, h.1.1.2.less hB7, h.1.1.1⟩
  have H16 : Mem w wH14 (foot (footF B [] s.funcs) :: own Enc.func 43 none 0 [] :: foot (footQ B s ⟨A4, s.principals.length, c4⟩ ⟨A6, s.globals.length, c6⟩ ⟨AC, s.channels.length, cC⟩ ⟨A13, s.arrays.length, c13⟩) :: box gH3 27 #[.slice A4 s.principals.length c4, .slice A6 s.globals.length c6, .slice A13 s.arrays.length c13, .slice AC s.channels.length cC, .slice none 0 0] :: box gH2 27 #[.slice none 0 0, .slice none 0 0, .slice none 0 0, .slice none 0 0, .slice none 0 0] :: box gH1 27 #[.slice h.p.A s.principals.length h.p.c, .slice h.g.A s.globals.length h.g.c, .slice h.a.A s.arrays.length h.a.c, .slice h.c.A s.channels.length h.c.c, .slice h.f.A s.funcs.length h.f.c] :: []) := (H15.nilrow 43 6).ftNew fun w' i hd s h1 => by simp at h1
  clear H0 H1 H2 H3 H4 H5 H6 H7 H8 H9 H10 H11 H12 H13 H14 H15 H4' H6' H8' RA b1 hB3 hB5 hB7
  go_loopw [5, 6] (fun v5 v wr => ∃ (k : Nat) (A5 : Option Addr) (c5 : Nat) (xs : List FuncH), v = .int .i64 k ∧ v5 = .slice A5 xs.length c5 ∧ k ≤ s.funcs.length ∧ xs.length ≤ 2000000 ∧ Hd (xs.length = k) ∧ Mem w wr (foot (footF B xs s.funcs) :: own Enc.func 43 A5 c5 xs :: foot (footQ B s ⟨A4, s.principals.length, c4⟩ ⟨A6, s.globals.length, c6⟩ ⟨AC, s.channels.length, cC⟩ ⟨A13, s.arrays.length, c13⟩) :: box gH3 27 #[.slice A4 s.principals.length c4, .slice A6 s.globals.length c6, .slice A13 s.arrays.length c13, .slice AC s.channels.length cC, .slice none 0 0] :: box gH2 27 #[.slice none 0 0, .slice none 0 0, .slice none 0 0, .slice none 0 0, .slice none 0 0] :: box gH1 27 #[.slice h.p.A s.principals.length h.p.c, .slice h.g.A s.globals.length h.g.c, .slice h.a.A s.arrays.length h.a.c, .slice h.c.A s.channels.length h.c.c, .slice h.f.A s.funcs.length h.f.c] :: [])) (fun _ v _ => s.funcs.length - (intOf v).toNat)
  case atStart => exact ⟨0, none, 0, [], rfl, rfl, Nat.zero_le _, by simp, ⟨rfl⟩, H16⟩
  case round =>
    clear H16
    obtain ⟨k, A5, c5, xs, rfl, rfl, hk, hxl, HX, H1⟩ := hrel
    obtain ⟨w1, rfl⟩ : ∃ wo : World, wo = wr := ⟨_, rfl⟩
    have b1 := H1.cells 5 rfl
    simp only [cellsAre, and_true, Nat.zero_add] at b1
    by_cases hlt : k < s.funcs.length
    · obtain ⟨g, hg⟩ : ∃ p, s.funcs[k]? = some p := ⟨_, List.getElem?_eq_getElem hlt⟩
      have og := HO.out.func g (List.mem_of_getElem? hg)
      have hg1 := og.params
      have hg2 := og.results
      have hg3 := og.vars
      have hg4 := og.body
      have hg5 := og.stmt
      obtain ⟨fb, fo, hd, hA, -, RF, p0, p1, p2, p3, p4, p5⟩ := HR.out.funcs.at' hg
      obtain ⟨bs, hbs⟩ := RF.body
      have HBS := hid hbs
      have HRF := hid RF
      have e0 := H1.old p0
      have e1 := H1.old p1
      have e2 := H1.old p2
      have e3 := H1.old p3
      have e4 := H1.old p4
      have e5 := H1.old p5
      have HG := hid hg
      have HA := hid hA
      rw [hA] at b1
      have HG5 := hid hg5
      clear hg og hbs RF p0 p1 p2 p3 p4 p5 hg5 hA
      go_wp2_with (first
        | ((with_reducible refine at_alloc ?_); refine wpList_alloc_box H1 (.agg #[.string ByteArray.empty, .int .u64 0, .slice none 0 0, .slice none 0 0, .slice none 0 0, .slice none 0 0]) (by kernel_rfl) ?_; intro gH2 wH2 H2; simp only [splice, vcells_int, vcells_bool, vcells_string, vcells_pointer, vcells_slice, vcells_map, vcells_func, vcells_nilFunc, vcells_iface, vcells_nilIface, vcells_agg, List.take_zero, List.take_succ_cons, List.drop_zero, List.drop_succ_cons, List.length_cons, List.length_nil, List.nil_append, List.cons_append, List.append_nil, Nat.zero_add, List.set_cons_zero, List.set_cons_succ] at H2)
        | (((with_reducible refine at_store ?_); refine wpList_store_box H2 0 6 rfl rfl (by kernel_rfl) rfl (Nat.le_of_ble_eq_true rfl) rfl ?_; intro u_ wH3 hu_ H3; simp only [Act.eval, Act.put, List.setIfInBounds_toArray, List.set_cons_zero, List.set_cons_succ, Array.getD_eq_getD_getElem?, List.getElem?_toArray, List.getElem?_cons_zero, List.getElem?_cons_succ, Option.getD_some] at hu_; subst hu_; simp only [splice, vcells_int, vcells_bool, vcells_string, vcells_pointer, vcells_slice, vcells_map, vcells_func, vcells_nilFunc, vcells_iface, vcells_nilIface, vcells_agg, List.take_zero, List.take_succ_cons, List.drop_zero, List.drop_succ_cons, List.length_cons, List.length_nil, List.nil_append, List.cons_append, List.append_nil, Nat.zero_add, List.set_cons_zero, List.set_cons_succ] at H3; (try clear b0); have b0 := H3.cells 0 rfl; simp only [cellsAre, and_true, Nat.zero_add] at b0); clear e0 e1 e2 e3 e4 e5 b1)
        | ((go_at_call 22; (with_reducible refine (lentDecls_foot hd.p.A hd.p.c g.params _ (Rd.below HRF.out.params.rd H3.below) hg1).mono ?_); rintro e w4 ⟨A20, c20, rfl, H4'⟩; have H4 := H3.call H4'; simp only [List.cons_append, List.nil_append] at H4; clear b0); (try clear b0); have b0 := H4.cells 1 rfl; simp only [cellsAre, and_true, Nat.zero_add] at b0)
        | ((with_reducible refine at_store ?_); refine wpList_store_box H4 1 1 rfl rfl (by kernel_rfl) rfl (Nat.le_of_ble_eq_true rfl) rfl ?_; intro u_ wH5 hu_ H5; simp only [Act.eval, Act.put, List.setIfInBounds_toArray, List.set_cons_zero, List.set_cons_succ, Array.getD_eq_getD_getElem?, List.getElem?_toArray, List.getElem?_cons_zero, List.getElem?_cons_succ, Option.getD_some] at hu_; subst hu_; simp only [splice, vcells_int, vcells_bool, vcells_string, vcells_pointer, vcells_slice, vcells_map, vcells_func, vcells_nilFunc, vcells_iface, vcells_nilIface, vcells_agg, List.take_zero, List.take_succ_cons, List.drop_zero, List.drop_succ_cons, List.length_cons, List.length_nil, List.nil_append, List.cons_append, List.append_nil, Nat.zero_add, List.set_cons_zero, List.set_cons_succ] at H5; (try clear b0); have b0 := H5.cells 1 rfl; simp only [cellsAre, and_true, Nat.zero_add] at b0)
        | ((go_at_call 23; (with_reducible refine (lentLabels_foot hd.r.A hd.r.c g.results _ (Rd.below HRF.out.results.rd H5.below) hg2).mono ?_); rintro e w6 ⟨A21, c21, rfl, H6'⟩; have H6 := H5.call H6'; simp only [List.cons_append, List.nil_append] at H6; clear b0); (try clear b0); have b0 := H6.cells 2 rfl; simp only [cellsAre, and_true, Nat.zero_add] at b0)
        | ((with_reducible refine at_store ?_); refine wpList_store_box H6 2 1 rfl rfl (by kernel_rfl) rfl (Nat.le_of_ble_eq_true rfl) rfl ?_; intro u_ wH7 hu_ H7; simp only [Act.eval, Act.put, List.setIfInBounds_toArray, List.set_cons_zero, List.set_cons_succ, Array.getD_eq_getD_getElem?, List.getElem?_toArray, List.getElem?_cons_zero, List.getElem?_cons_succ, Option.getD_some] at hu_; subst hu_; simp only [splice, vcells_int, vcells_bool, vcells_string, vcells_pointer, vcells_slice, vcells_map, vcells_func, vcells_nilFunc, vcells_iface, vcells_nilIface, vcells_agg, List.take_zero, List.take_succ_cons, List.drop_zero, List.drop_succ_cons, List.length_cons, List.length_nil, List.nil_append, List.cons_append, List.append_nil, Nat.zero_add, List.set_cons_zero, List.set_cons_succ] at H7; (try clear b0); have b0 := H7.cells 2 rfl; simp only [cellsAre, and_true, Nat.zero_add] at b0)
        | ((go_at_call 22; (with_reducible refine (lentDecls_foot hd.v.A hd.v.c g.vars _ (Rd.below HRF.out.vars.rd H7.below) hg3).mono ?_); rintro e w8 ⟨A22, c22, rfl, H8'⟩; have H8 := H7.call H8'; simp only [List.cons_append, List.nil_append] at H8; clear b0); (try clear b0); have b0 := H8.cells 3 rfl; simp only [cellsAre, and_true, Nat.zero_add] at b0)
        | ((with_reducible refine at_store ?_); refine wpList_store_box H8 3 1 rfl rfl (by kernel_rfl) rfl (Nat.le_of_ble_eq_true rfl) rfl ?_; intro u_ wH9 hu_ H9; simp only [Act.eval, Act.put, List.setIfInBounds_toArray, List.set_cons_zero, List.set_cons_succ, Array.getD_eq_getD_getElem?, List.getElem?_toArray, List.getElem?_cons_zero, List.getElem?_cons_succ, Option.getD_some] at hu_; subst hu_; simp only [splice, vcells_int, vcells_bool, vcells_string, vcells_pointer, vcells_slice, vcells_map, vcells_func, vcells_nilFunc, vcells_iface, vcells_nilIface, vcells_agg, List.take_zero, List.take_succ_cons, List.drop_zero, List.drop_succ_cons, List.length_cons, List.length_nil, List.nil_append, List.cons_append, List.append_nil, Nat.zero_add, List.set_cons_zero, List.set_cons_succ] at H9; (try clear b0); have b0 := H9.cells 3 rfl; simp only [cellsAre, and_true, Nat.zero_add] at b0)
        | ((go_at_call 24; (with_reducible refine (lentStmts_calls hd.b g.body bs _ (RdB.below HBS.out H9.below) hg4 HG5.out).mono ?_); rintro e w10 ⟨A23, c23, rfl, H10'⟩; have H10 := H9.call H10'; simp only [List.cons_append, List.nil_append] at H10; clear b0); (try clear b0); have b0 := H10.cells 4 rfl; simp only [cellsAre, and_true, Nat.zero_add] at b0)
        | ((with_reducible refine at_store ?_); refine wpList_store_box H10 4 1 rfl rfl (by kernel_rfl) rfl (Nat.le_of_ble_eq_true rfl) rfl ?_; intro u_ wH11 hu_ H11; simp only [Act.eval, Act.put, List.setIfInBounds_toArray, List.set_cons_zero, List.set_cons_succ, Array.getD_eq_getD_getElem?, List.getElem?_toArray, List.getElem?_cons_zero, List.getElem?_cons_succ, Option.getD_some] at hu_; subst hu_; simp only [splice, vcells_int, vcells_bool, vcells_string, vcells_pointer, vcells_slice, vcells_map, vcells_func, vcells_nilFunc, vcells_iface, vcells_nilIface, vcells_agg, List.take_zero, List.take_succ_cons, List.drop_zero, List.drop_succ_cons, List.length_cons, List.length_nil, List.nil_append, List.cons_append, List.append_nil, Nat.zero_add, List.set_cons_zero, List.set_cons_succ] at H11; (try clear b0); have b0 := H11.cells 4 rfl; simp only [cellsAre, and_true, Nat.zero_add] at b0)
        | ((with_reducible refine at_build1 ?_); refine wpList_build1 elt_func H11 rfl rfl (by decide) ?_; intro u_ gH12 wH12 hu_ H12; simp only [Act.eval, Act.put, List.setIfInBounds_toArray, List.set_cons_zero, List.set_cons_succ, Array.getD_eq_getD_getElem?, List.getElem?_toArray, List.getElem?_cons_zero, List.getElem?_cons_succ, Option.getD_some] at hu_; subst hu_; simp only [splice, vcells_int, vcells_bool, vcells_string, vcells_pointer, vcells_slice, vcells_map, vcells_func, vcells_nilFunc, vcells_iface, vcells_nilIface, vcells_agg, List.take_zero, List.take_succ_cons, List.drop_zero, List.drop_succ_cons, List.length_cons, List.length_nil, List.nil_append, List.cons_append, List.append_nil, Nat.zero_add, List.set_cons_zero, List.set_cons_succ] at H12)
        | ((with_reducible refine at_append ?_); refine wpList_append_own2 (E := Enc.func) elt_func H12 7 (⟨g.name, g.level, ⟨A20, g.params.length, c20⟩, ⟨A21, g.results.length, c21⟩, ⟨A22, g.vars.length, c22⟩, ⟨A23, g.body.length, c23⟩⟩ : FuncH) rfl rfl rfl rfl (H12.rd 0 rfl elt_func.pos).1 (by omega) (by decide) ?_; intro AH13 cH13 wH13 H13; simp only [List.set_cons_zero, List.set_cons_succ] at H13; replace H13 := H13.drop 0; simp only [List.eraseIdx_cons_zero] at H13))
      have hB3 : B ≤ wH3.heap.size := by rw [HB.out]; exact H3.below.size
      have hB5 : B ≤ wH5.heap.size := by rw [HB.out]; exact H5.below.size
      have hB7 : B ≤ wH7.heap.size := by rw [HB.out]; exact H7.below.size
      have hB9 : B ≤ wH9.heap.size := by rw [HB.out]; exact H9.below.size
      have H14 := (((H13.drop 4).ftAnd).ftAnd).ftAnd.ftAnd.ftMono (K' := footF B (xs ++ [⟨g.name, g.level, ⟨A20, g.params.length, c20⟩, ⟨A21, g.results.length, c21⟩, ⟨A22, g.vars.length, c22⟩, ⟨A23, g.body.length, c23⟩⟩]) s.funcs) fun w' h => h.2.snoc (by rw [HX.out]; exact HG.out) ⟨rfl, rfl, h.1.2.less hB3, h.1.1.2.less hB5, h.1.1.1.2.less hB7, by obtain ⟨hs, hh⟩ := h.1.1.1.1; exact ⟨hs, hh.less hB9⟩⟩
      go_roundw
      case rel =>
        refine ⟨k + 1, AH13, cH13, xs ++ [⟨g.name, g.level, ⟨A20, g.params.length, c20⟩, ⟨A21, g.results.length, c21⟩, ⟨A22, g.vars.length, c22⟩, ⟨A23, g.body.length, c23⟩⟩], by go_num, by rw [List.length_append]; rfl, by omega, ?_, ⟨?_⟩, H14⟩
        · rw [List.length_append, HX.out]; simp; omega
        · rw [List.length_append, HX.out]; rfl
      case measure => first | (simp [intOf]; done) | (simp [intOf]; omega)
    · obtain rfl : k = s.funcs.length := by omega
      have hxl2 : xs.length = s.funcs.length := HX.out
      rw [hxl2] at hxl ⊢
      have HXL := hid hxl2
      clear hxl2 hlt hk
      go_wp2_with (first
        | (((with_reducible refine at_build1 ?_); refine wpList_build1 elt_func H1 rfl rfl (by decide) ?_; intro u_ gH2 wH2 hu_ H2; simp only [Act.eval, Act.put, List.setIfInBounds_toArray, List.set_cons_zero, List.set_cons_succ, Array.getD_eq_getD_getElem?, List.getElem?_toArray, List.getElem?_cons_zero, List.getElem?_cons_succ, Option.getD_some] at hu_; subst hu_; simp only [splice, vcells_int, vcells_bool, vcells_string, vcells_pointer, vcells_slice, vcells_map, vcells_func, vcells_nilFunc, vcells_iface, vcells_nilIface, vcells_agg, List.take_zero, List.take_succ_cons, List.drop_zero, List.drop_succ_cons, List.length_cons, List.length_nil, List.nil_append, List.cons_append, List.append_nil, Nat.zero_add, List.set_cons_zero, List.set_cons_succ] at H2); clear b1; have b1 := H2.cells 6 rfl; simp only [cellsAre, and_true, Nat.zero_add] at b1)
        | ((with_reducible refine at_append ?_); refine wpList_append_row rfl _ _ rfl elt_func H2 2 rfl (by rw [HXL.out]; rfl) rfl (H2.rd 0 rfl elt_func.pos).1 (by rw [HXL.out]; unfold maxLen; omega) (by rw [HXL.out]; omega) ?_; intro A8 c8' w8 H3; simp only [List.set_cons_zero, List.set_cons_succ] at H3; rw [HXL.out] at H3 ⊢; obtain ⟨-, hc8, hc8'⟩ := H3.rd 2 rfl elt_func.pos; unfold maxLen at hc8'; clear b1; have b1 := H3.cells 6 rfl; simp only [cellsAre, and_true, Nat.zero_add] at b1)
        | ((with_reducible refine at_store ?_); refine wpList_store_box H3 4 1 rfl rfl (by kernel_rfl) rfl (Nat.le_of_ble_eq_true rfl) rfl ?_; intro u_ wH4 hu_ H4; simp only [Act.eval, Act.put, List.setIfInBounds_toArray, List.set_cons_zero, List.set_cons_succ, Array.getD_eq_getD_getElem?, List.getElem?_toArray, List.getElem?_cons_zero, List.getElem?_cons_succ, Option.getD_some] at hu_; subst hu_; simp only [splice, vcells_int, vcells_bool, vcells_string, vcells_pointer, vcells_slice, vcells_map, vcells_func, vcells_nilFunc, vcells_iface, vcells_nilIface, vcells_agg, List.take_zero, List.take_succ_cons, List.drop_zero, List.drop_succ_cons, List.length_cons, List.length_nil, List.nil_append, List.cons_append, List.append_nil, Nat.zero_add, List.set_cons_zero, List.set_cons_succ] at H4; (try clear b0); have b0 := H4.cells 4 rfl; simp only [cellsAre, and_true, Nat.zero_add] at b0)
        | ((with_reducible refine at_store ?_); refine wpList_store_box H4 5 5 rfl rfl (by kernel_rfl) rfl (Nat.le_of_ble_eq_true rfl) rfl ?_; intro u_ wH5 hu_ H5; simp only [Act.eval, Act.put, List.setIfInBounds_toArray, List.set_cons_zero, List.set_cons_succ, Array.getD_eq_getD_getElem?, List.getElem?_toArray, List.getElem?_cons_zero, List.getElem?_cons_succ, Option.getD_some] at hu_; subst hu_; simp only [splice, vcells_int, vcells_bool, vcells_string, vcells_pointer, vcells_slice, vcells_map, vcells_func, vcells_nilFunc, vcells_iface, vcells_nilIface, vcells_agg, List.take_zero, List.take_succ_cons, List.drop_zero, List.drop_succ_cons, List.length_cons, List.length_nil, List.nil_append, List.cons_append, List.append_nil, Nat.zero_add, List.set_cons_zero, List.set_cons_succ] at H5; (try clear b2); have b2 := H5.cells 5 rfl; simp only [cellsAre, and_true, Nat.zero_add] at b2))
      have H6 := (H5.drop 0).mv 1 rfl
      simp only [List.eraseIdx_cons_succ, List.eraseIdx_cons_zero] at H6
      have H7 := (H6.toFoot (K := fun w' => LH Enc.func B w' ⟨A8, xs.length, c8'⟩ xs) fun F w' hP hF => LH.of_row (T := 43) (mk := [.string ⟨#[109, 97, 114, 107]⟩, .int .u64 0, .slice none 0 0, .slice none 0 0, .slice none 0 0, .slice none 0 0]) (by decide) F w' (by rw [HXL.out]; exact hP) (by rw [HB.out]; exact hF)).ftAnd.ftAnd
      have H8 := ((H7.drop 3).drop 2).drop 1
      simp only [List.eraseIdx_cons_succ, List.eraseIdx_cons_zero] at H8
      refine bodyPost_ret (v := SrcH.val ⟨⟨A4, s.principals.length, c4⟩, ⟨A6, s.globals.length, c6⟩, ⟨A13, s.arrays.length, c13⟩, ⟨AC, s.channels.length, cC⟩, ⟨A8, s.funcs.length, c8'⟩, xs⟩) (by simp [results, Try.results7, go_sem, b2]) rfl ?_
      refine ⟨_, rfl, H8.ftMono fun w' h => ⟨?_, ?_, ?_, ?_, HXL.out, ?_, ?_⟩⟩
      · rw [← HB.out]; exact h.2.p
      · rw [← HB.out]; exact h.2.g
      · rw [← HB.out]; exact h.2.a
      · rw [← HB.out]; exact h.2.c
      · rw [← HB.out, ← HXL.out]; exact h.1.1
      · rw [← HB.out]; exact h.1.2
end Go.Proofs.Ytogndpckiognjaa
