/- Names: names.Check. -/
import Derived.Test.YtogndpckiognjaaNmS
namespace Go.Proofs.Ytogndpckiognjaa
open Go.RowKit
set_option linter.unusedVariables false
set_option linter.unusedSimpArgs false
set_option maxHeartbeats 2000000
theorem elt_fn : Elt Try.prog 69 68 1 8 .nilFunc := elt_of Try.underlying69 (by kernel_rfl) rfl (by decide) rfl
abbrev fnV (g3 g1 : Nat) : Bool → Value
  | true => .func (.func 16) #[] #[pt g3]
  | false => .func (.func 18) #[] #[pt g3, pt g1]
def Enc.fn (g3 g1 : Nat) : Enc Bool := ⟨1, fun b => [fnV g3 g1 b], fun _ => rfl, fun b u h => by rw [List.mem_singleton.1 h]; cases b <;> rfl⟩
/-- A function's statements, as long as there is no fault. -/
def bodyF (s : Src) (f : Int) (g : FDecl) : List Stmt → Nat → Flt → Flt
  | [], _, x => x
  | st :: r, a, x => if x.1 = 0 then bodyF s f g r (a + 1) (stmtF s f a g st x) else x
theorem body_at {s : Src} {f : Int} {g : FDecl} {l : List Stmt} {k : Nat} {st : Stmt} {x : Flt} (h : l[k]? = some st) : bodyF s f g (l.drop k) k x = if x.1 = 0 then bodyF s f g (l.drop (k + 1)) (k + 1) (stmtF s f k g st x) else x := by
  obtain ⟨hk, rfl⟩ := List.getElem?_eq_some_iff.1 h
  rw [List.drop_eq_getElem_cons hk, bodyF]
def funF (s : Src) (f : Int) (g : FDecl) (x : Flt) : Flt := bodyF s f g g.body 0 (headF s f g x)
def funsF (s : Src) : List FDecl → Nat → Flt → Flt
  | [], _, x => x
  | g :: r, k, x => if x.1 = 0 then funsF s r (k + 1) (funF s k g x) else x
theorem funs_at {s : Src} {l : List FDecl} {k : Nat} {g : FDecl} {x : Flt} (h : l[k]? = some g) : funsF s (l.drop k) k x = if x.1 = 0 then funsF s (l.drop (k + 1)) (k + 1) (funF s k g x) else x := by
  obtain ⟨hk, rfl⟩ := List.getElem?_eq_some_iff.1 h
  rw [List.drop_eq_getElem_cons hk, funsF]
/-- What the check answers. -/
def checkF (s : Src) : Flt := funsF s s.funcs 0 (declF s (0, 0, 0))
theorem check1_calls {w0 w : World} {As : List HP} {gc g3 : Nat} {h : SrcH} {s : Src} {x : Flt} (R : RdSrc w0 h s) (ok : s.Ok) (f : Int) (H : Mem w0 w (ckB gc h x :: box g3 65 #[pt gc] :: As)) :
    Calls Try.prog 16 #[.int .i64 f, pt g3] w fun e w' => e = .returned (.tuple #[]) ∧ Mem w0 w' (ckB gc h (declF s x) :: box g3 65 #[pt gc] :: As) := by
  have c1 := H.cell1 1 rfl
  have HD := hid (declarations_calls R ok H)
  clear R ok
  go_enter Try.func16, Try.ntmps16
  go_wp2_with (first | (go_at_call 17; (with_reducible refine HD.out.mono ?_); rintro e w1 ⟨rfl, H1⟩))
  go_end0
  exact ⟨rfl, H1⟩
abbrev srcB (b : Nat) (h : SrcH) : HP := box b 27 #[.slice h.p.A h.p.n h.p.c, .slice h.g.A h.g.n h.g.c, .slice h.a.A h.a.n h.a.c, .slice h.c.A h.c.n h.c.c, .slice h.f.A h.f.n h.f.c]
theorem Mem.ckE {w0 w : World} {As : List HP} {gc : Nat} {h : SrcH} {x : Flt} (H : Mem w0 w (ckB gc h x :: As)) : w.cell? ⟨gc, 5, Option.none⟩ = some (.int .i64 x.1) := by
  simpa using (H.box_cell 0 rfl).1 5
set_option maxRecDepth 100000 in
theorem check2_calls {w0 w : World} {As : List HP} {gc g3 g1 : Nat} {h : SrcH} {s : Src} {x : Flt} (R : RdSrc w0 h s) (ok : s.Ok) (k : Nat) (g : FDecl) (hg : s.funcs[k]? = some g) (H : Mem w0 w (ckB gc h x :: box g3 65 #[pt gc] :: srcB g1 h :: As)) :
    Calls Try.prog 18 #[.int .i64 k, pt g3, pt g1] w fun e w' => e = .returned (.tuple #[]) ∧ Mem w0 w' (ckB gc h (funF s k g x) :: box g3 65 #[pt gc] :: srcB g1 h :: As) := by
  have hkl : k < s.funcs.length := (List.getElem?_eq_some_iff.1 hg).1
  have lf := ok.funcs
  have lb := (ok.func g (List.mem_of_getElem? hg)).body
  have hfn : h.f.n = s.funcs.length := by rw [R.funcs.hdr.n, R.funcs.len]
  have HFN := hid hfn
  obtain ⟨fb, fo, hd, hA, -, RF, p0, p1, p2, p3, p4, p5⟩ := R.funcs.at' hg
  have HA := hid hA
  have P5 := hid p5
  have HD := hid (head_calls R ok k g hg H)
  have ST := hid (fun (w' : World) (As' : List HP) (y : Flt) (a : Nat) (st : Stmt) (hst : g.body[a]? = some st) (H' : Mem w0 w' (ckB gc h y :: As')) => stmt_calls R ok k g hg a st hst H')
  have c1 := H.cell1 1 rfl
  obtain ⟨R9, hR9⟩ : ∃ R9, funF s k g x = R9 := ⟨_, rfl⟩
  have HR9 := hid hR9
  rw [hR9]
  clear R ok hg hfn hA RF p0 p1 p2 p3 p4 p5 hR9 H
  go_enter Try.func18, Try.ntmps18
  go_wp2_with (first
    | ((go_at_call 19; (with_reducible refine HD.out.mono ?_); rintro e w1 ⟨rfl, H1⟩; clear c1); have c1 := H1.cell1 1 rfl; have c2 := (H1.box_cell 2 rfl).1 4; (have c3 : _ = some (Value.slice h.f.A h.f.n h.f.c) := (by simpa using c2)); rw [HFN.out, HA.out] at c3; have e5 := H1.old P5.out; clear c2))
  clear c3 e5 c1
  obtain ⟨x1, hx1⟩ : ∃ y, headF s k g x = y := ⟨_, rfl⟩
  have HX1 := hid hx1
  rw [hx1] at H1
  clear hx1
  go_loopw [15] (fun v wr => ∃ (i : Nat) (z : Flt), v = .int .i64 i ∧ i ≤ g.body.length ∧ Hd (bodyF s k g g.body 0 x1 = bodyF s k g (g.body.drop i) i z) ∧ Mem w0 wr (ckB gc h z :: box g3 65 #[pt gc] :: srcB g1 h :: As)) (fun v _ => g.body.length - (intOf v).toNat)
  case atStart => exact ⟨0, x1, rfl, Nat.zero_le _, ⟨rfl⟩, H1⟩
  case round =>
    clear H1
    obtain ⟨i, z, rfl, hi, HT, H1⟩ := hrel
    obtain ⟨w2, rfl⟩ : ∃ wo : World, wo = wr := ⟨_, rfl⟩
    by_cases hlt : i < g.body.length
    · obtain ⟨st, hst⟩ : ∃ p, g.body[i]? = some p := ⟨_, List.getElem?_eq_getElem hlt⟩
      have HB := hid (body_at (s := s) (f := k) (g := g) (x := z) hst)
      have HS := hid (ST.out _ _ z i st hst H1)
      have c1 := H1.cell1 1 rfl
      have e1 := H1.ckE
      clear hst
      by_cases hz : z.1 = 0
      · have g0 : (z.1 == 0) = true := by simpa using hz
        have g1' : (z.1 != 0) = false := by simpa using hz
        have hb := HB.out
        rw [if_pos hz] at hb
        have HB2 := hid hb
        clear hb hz
        go_wp2_with (first | (go_at_call 20; (with_reducible refine HS.out.mono ?_); rintro e w3 ⟨rfl, H3⟩))
        go_roundw
        case rel => exact ⟨i + 1, _, by go_num, by omega, ⟨HT.out.trans HB2.out⟩, H3⟩
        case measure => first | (simp [intOf]; done) | (simp [intOf]; omega)
      · have g1' : (z.1 != 0) = true := by simpa using hz
        have hb := HB.out
        rw [if_neg hz] at hb
        have hr : R9 = z := by rw [← HR9.out]; unfold funF; rw [HX1.out, HT.out, hb]
        have HR := hid hr
        clear hb hz hr
        go_wp2
        refine bodyPost_ret (results_none rfl _ _ _) rfl ?_
        rw [HR.out]
        exact ⟨rfl, H1⟩
    · obtain rfl : i = g.body.length := by omega
      have hr : R9 = z := by rw [← HR9.out]; unfold funF; rw [HX1.out, HT.out, List.drop_eq_nil_of_le (Nat.le_refl _)]; rfl
      have HR := hid hr
      clear hr
      go_wp2
      go_end0
      rw [HR.out]
      exact ⟨rfl, H1⟩
set_option maxRecDepth 100000 in
theorem check_calls (h : SrcH) (s : Src) (w : World) (R : RdSrc w h s) (ok : s.Ok) :
    Calls Try.prog 6 #[h.val] w fun e w' => e = .returned (.agg #[.int .i64 (checkF s).1, .int .i64 (checkF s).2.1, .int .i64 (checkF s).2.2]) ∧ Mem w w' [] := by
  have lf := ok.funcs
  have hfn : h.f.n = s.funcs.length := by rw [R.funcs.hdr.n, R.funcs.len]
  have HFN := hid hfn
  have HR := hid R
  have HO := hid ok
  have hval : h.val = .agg #[.slice h.p.A h.p.n h.p.c, .slice h.g.A h.g.n h.g.c, .slice h.a.A h.a.n h.a.c, .slice h.c.A h.c.n h.c.c, .slice h.f.A h.f.n h.f.c] := rfl
  obtain ⟨R9, hR9⟩ : ∃ R9, checkF s = R9 := ⟨_, rfl⟩
  have HR9 := hid hR9
  rw [hR9, hval]
  clear R ok hfn hR9 hval
  have H0 := Mem.refl w
  go_enter Try.func6, Try.ntmps6
  go_wp2_with (first
    | ((with_reducible refine at_box ?_); refine wpList_box_box H0 ?_; intro u_ gH1 wH1 hu_ H1; simp only [Act.eval, Act.put, List.setIfInBounds_toArray, List.set_cons_zero, List.set_cons_succ, Array.getD_eq_getD_getElem?, List.getElem?_toArray, List.getElem?_cons_zero, List.getElem?_cons_succ, Option.getD_some] at hu_; subst hu_; simp only [splice, vcells_int, vcells_bool, vcells_string, vcells_pointer, vcells_slice, vcells_map, vcells_func, vcells_nilFunc, vcells_iface, vcells_nilIface, vcells_agg, List.take_zero, List.take_succ_cons, List.drop_zero, List.drop_succ_cons, List.length_cons, List.length_nil, List.nil_append, List.cons_append, List.append_nil, Nat.zero_add, List.set_cons_zero, List.set_cons_succ] at H1)
    | ((with_reducible refine at_alloc ?_); refine wpList_alloc_box H1 (.agg #[.int .i64 0, .int .i64 0, .int .i64 0]) (by kernel_rfl) ?_; intro gH2 wH2 H2; simp only [splice, vcells_int, vcells_bool, vcells_string, vcells_pointer, vcells_slice, vcells_map, vcells_func, vcells_nilFunc, vcells_iface, vcells_nilIface, vcells_agg, List.take_zero, List.take_succ_cons, List.drop_zero, List.drop_succ_cons, List.length_cons, List.length_nil, List.nil_append, List.cons_append, List.append_nil, Nat.zero_add, List.set_cons_zero, List.set_cons_succ] at H2; (try clear b1); have b1 := H2.cells 1 rfl; simp only [cellsAre, and_true, Nat.zero_add] at b1)
    | ((with_reducible refine at_box ?_); refine wpList_box_box H2 ?_; intro u_ gH3 wH3 hu_ H3; simp only [Act.eval, Act.put, List.setIfInBounds_toArray, List.set_cons_zero, List.set_cons_succ, Array.getD_eq_getD_getElem?, List.getElem?_toArray, List.getElem?_cons_zero, List.getElem?_cons_succ, Option.getD_some] at hu_; subst hu_; simp only [splice, vcells_int, vcells_bool, vcells_string, vcells_pointer, vcells_slice, vcells_map, vcells_func, vcells_nilFunc, vcells_iface, vcells_nilIface, vcells_agg, List.take_zero, List.take_succ_cons, List.drop_zero, List.drop_succ_cons, List.length_cons, List.length_nil, List.nil_append, List.cons_append, List.append_nil, Nat.zero_add, List.set_cons_zero, List.set_cons_succ] at H3)
    | ((with_reducible refine at_alloc ?_); refine wpList_alloc_box H3 (.pointer none) (by kernel_rfl) ?_; intro gH4 wH4 H4; simp only [splice, vcells_int, vcells_bool, vcells_string, vcells_pointer, vcells_slice, vcells_map, vcells_func, vcells_nilFunc, vcells_iface, vcells_nilIface, vcells_agg, List.take_zero, List.take_succ_cons, List.drop_zero, List.drop_succ_cons, List.length_cons, List.length_nil, List.nil_append, List.cons_append, List.append_nil, Nat.zero_add, List.set_cons_zero, List.set_cons_succ] at H4; (try clear b1); have b1 := H4.cells 3 rfl; simp only [cellsAre, and_true, Nat.zero_add] at b1)
    | ((with_reducible refine at_store ?_); refine wpList_store_box H4 0 1 rfl rfl (by kernel_rfl) rfl (Nat.le_of_ble_eq_true rfl) rfl ?_; intro u_ wH5 hu_ H5; simp only [Act.eval, Act.put, List.setIfInBounds_toArray, List.set_cons_zero, List.set_cons_succ, Array.getD_eq_getD_getElem?, List.getElem?_toArray, List.getElem?_cons_zero, List.getElem?_cons_succ, Option.getD_some] at hu_; subst hu_; simp only [splice, vcells_int, vcells_bool, vcells_string, vcells_pointer, vcells_slice, vcells_map, vcells_func, vcells_nilFunc, vcells_iface, vcells_nilIface, vcells_agg, List.take_zero, List.take_succ_cons, List.drop_zero, List.drop_succ_cons, List.length_cons, List.length_nil, List.nil_append, List.cons_append, List.append_nil, Nat.zero_add, List.set_cons_zero, List.set_cons_succ] at H5; (try clear b1); have b1 := H5.cells 3 rfl; simp only [cellsAre, and_true, Nat.zero_add] at b1)
    | (((with_reducible refine at_build1 ?_); refine wpList_build1 elt_fn H5 rfl rfl (by decide) ?_; intro u_ gH6 wH6 hu_ H6; simp only [Act.eval, Act.put, List.setIfInBounds_toArray, List.set_cons_zero, List.set_cons_succ, Array.getD_eq_getD_getElem?, List.getElem?_toArray, List.getElem?_cons_zero, List.getElem?_cons_succ, Option.getD_some] at hu_; subst hu_; simp only [splice, vcells_int, vcells_bool, vcells_string, vcells_pointer, vcells_slice, vcells_map, vcells_func, vcells_nilFunc, vcells_iface, vcells_nilIface, vcells_agg, List.take_zero, List.take_succ_cons, List.drop_zero, List.drop_succ_cons, List.length_cons, List.length_nil, List.nil_append, List.cons_append, List.append_nil, Nat.zero_add, List.set_cons_zero, List.set_cons_succ] at H6); clear b1; have b1 := H6.cells 4 rfl; simp only [cellsAre, and_true, Nat.zero_add] at b1; rw [HFN.out] at b1))
  have H7 := ((((H6.mv 3 rfl).mv 1 rfl).mv 4 rfl).mv 3 rfl).mv 4 rfl
  simp only [List.eraseIdx_cons_succ, List.eraseIdx_cons_zero] at H7
  have H7 : Mem w wH6 [ckB gH3 h (0, 0, 0), box gH4 65 #[pt gH3], srcB gH1 h, own (Enc.fn gH4 gH1) 68 (some ⟨gH6, 0, none⟩) 1 [true], box gH2 31 #[.int .i64 0, .int .i64 0, .int .i64 0]] := H7
  clear H0 H1 H2 H3 H4 H5 H6 b1
  go_loopw [4, 15] (fun v4 v wr => ∃ (k : Nat) (A4 : Option Addr) (c4 : Nat) (xs : List Bool), v = .int .i64 k ∧ v4 = .slice A4 xs.length c4 ∧ k ≤ s.funcs.length ∧ xs.length ≤ 2000001 ∧ Hd (xs = true :: List.replicate k false) ∧ Mem w wr [ckB gH3 h (0, 0, 0), box gH4 65 #[pt gH3], srcB gH1 h, own (Enc.fn gH4 gH1) 68 A4 c4 xs, box gH2 31 #[.int .i64 0, .int .i64 0, .int .i64 0]]) (fun _ v _ => s.funcs.length - (intOf v).toNat)
  case atStart => exact ⟨0, _, _, [true], rfl, rfl, Nat.zero_le _, by simp, ⟨rfl⟩, H7⟩
  case round =>
    clear H7
    obtain ⟨k, A4, c4, xs, rfl, rfl, hk, hxl, HX, H1⟩ := hrel
    obtain ⟨w2, rfl⟩ : ∃ wo : World, wo = wr := ⟨_, rfl⟩
    by_cases hlt : k < s.funcs.length
    · go_wp2_with (first
        | ((with_reducible refine at_build1 ?_); refine wpList_build1 elt_fn H1 rfl rfl (by decide) ?_; intro u_ gH2 wH2 hu_ H2; simp only [Act.eval, Act.put, List.setIfInBounds_toArray, List.set_cons_zero, List.set_cons_succ, Array.getD_eq_getD_getElem?, List.getElem?_toArray, List.getElem?_cons_zero, List.getElem?_cons_succ, Option.getD_some] at hu_; subst hu_; simp only [splice, vcells_int, vcells_bool, vcells_string, vcells_pointer, vcells_slice, vcells_map, vcells_func, vcells_nilFunc, vcells_iface, vcells_nilIface, vcells_agg, List.take_zero, List.take_succ_cons, List.drop_zero, List.drop_succ_cons, List.length_cons, List.length_nil, List.nil_append, List.cons_append, List.append_nil, Nat.zero_add, List.set_cons_zero, List.set_cons_succ] at H2)
        | ((with_reducible refine at_append ?_); refine wpList_append_own1 (E := (Enc.fn gH4 gH1)) elt_fn H2 4 false rfl rfl rfl rfl (H2.rd 0 rfl elt_fn.pos).1 (by omega) (by decide) ?_; intro AH3 cH3 wH3 H3; simp only [List.set_cons_zero, List.set_cons_succ] at H3; replace H3 := H3.drop 0; simp only [List.eraseIdx_cons_zero] at H3))
      go_roundw
      case rel =>
        refine ⟨k + 1, AH3, cH3, xs ++ [false], by go_num, by rw [List.length_append]; rfl, by omega, ?_, ⟨?_⟩, H3⟩
        · rw [HX.out]; simp; omega
        · rw [HX.out, List.cons_append, ← List.replicate_succ']
      case measure => first | (simp [intOf]; done) | (simp [intOf]; omega)
    · obtain rfl : k = s.funcs.length := by omega
      have hxl2 : xs.length = s.funcs.length + 1 := by rw [HX.out]; simp
      rw [hxl2] at hxl ⊢
      have HXL := hid hxl2
      clear hxl2 hlt hk
      go_wp2
      go_loopw [24] (fun v wr => ∃ (i : Nat) (z : Flt), v = .int .i64 i ∧ i ≤ s.funcs.length + 1 ∧ Hd (i = 0 → z = (0, 0, 0)) ∧ Hd (∀ j, i = j + 1 → checkF s = funsF s (s.funcs.drop j) j z) ∧ Mem w wr [ckB gH3 h z, box gH4 65 #[pt gH3], srcB gH1 h, own (Enc.fn gH4 gH1) 68 A4 c4 xs, box gH2 31 #[.int .i64 0, .int .i64 0, .int .i64 0]]) (fun v _ => s.funcs.length + 1 - (intOf v).toNat)
      case atStart => exact ⟨0, (0, 0, 0), rfl, Nat.zero_le _, ⟨fun _ => rfl⟩, ⟨fun j hj => by omega⟩, H1⟩
      case round =>
        clear H1
        obtain ⟨i, z, rfl, hi, HZ, HT, H1⟩ := hrel
        obtain ⟨w3, rfl⟩ : ∃ wo : World, wo = wr := ⟨_, rfl⟩
        by_cases hlt : i < s.funcs.length + 1
        · have hil : (i : Int) < (s.funcs.length : Int) + 1 := by omega
          have c1 := H1.cell1 1 rfl
          have e1 := H1.ckE
          have hro := (H1.own_rd 3 rfl (Nat.le_refl 1)).1
          cases i with
          | zero =>
            have hz := HZ.out rfl
            subst hz
            obtain ⟨fb, fo, hA, p0⟩ := hro.get1 (k := 0) (x := true) rfl (by rw [HX.out]; rfl) rfl
            have HC := hid (check1_calls HR.out HO.out (-1) H1)
            subst hA
            clear hro
            simp only [Int.natCast_zero, Nat.add_zero] at *
            go_wp2_with (first | (go_at_call 16; (with_reducible refine HC.out.mono ?_); rintro e w4 ⟨rfl, H4⟩))
            go_roundw
            case rel =>
              refine ⟨1, _, by first | rfl | go_num, by omega, ⟨fun h => by omega⟩, ⟨fun j hj => ?_⟩, H4⟩
              obtain rfl : j = 0 := by omega
              rfl
            case measure => first | (simp [intOf]; done) | (simp [intOf]; omega)
          | succ j =>
            have hj : j < s.funcs.length := by omega
            obtain ⟨g, hg⟩ : ∃ g, s.funcs[j]? = some g := ⟨_, List.getElem?_eq_getElem hj⟩
            have hx1 : xs[j + 1]? = some false := by rw [HX.out, List.getElem?_cons_succ, List.getElem?_replicate, if_pos hj]
            obtain ⟨fb, fo, hA, p0⟩ := hro.get1 (k := j + 1) (x := false) rfl hx1 rfl
            have HC := hid (check2_calls HR.out HO.out j g hg H1)
            have HF := hid (funs_at (s := s) (x := z) hg)
            subst hA
            have hj1 : ((j + 1 : Nat) : Int) = (j : Int) + 1 := by omega
            rw [hj1] at hil ⊢
            clear hro hg hx1 hj1
            by_cases hz : z.1 = 0
            · have g1' : (z.1 != 0) = false := by simpa using hz
              have hb := HF.out
              rw [if_pos hz] at hb
              have HB := hid hb
              clear hb hz
              go_wp2_with (first | (go_at_call 18; (with_reducible refine HC.out.mono ?_); rintro e w4 ⟨rfl, H4⟩))
              go_roundw
              case rel =>
                refine ⟨j + 2, _, by go_num, by omega, ⟨fun h => by omega⟩, ⟨fun j' hj' => ?_⟩, H4⟩
                obtain rfl : j' = j + 1 := by omega
                exact (HT.out j rfl).trans HB.out
              case measure => first | (simp [intOf]; done) | (simp [intOf]; omega)
            · have g1' : (z.1 != 0) = true := by simpa using hz
              have hb := HF.out
              rw [if_neg hz] at hb
              have hr : R9 = z := by rw [← HR9.out, HT.out j rfl, hb]
              have HRz := hid hr
              have b0 := H1.cells 0 rfl
              simp only [cellsAre, and_true, Nat.zero_add] at b0
              clear hb hz hr c1 e1
              have c1 := H1.cell1 1 rfl
              go_wp2_with (first | ((with_reducible refine at_store ?_); refine wpList_store_box H1 4 3 rfl rfl (by kernel_rfl) rfl (Nat.le_of_ble_eq_true rfl) rfl ?_; intro u_ wH2 hu_ H2; simp only [Act.eval, Act.put, List.setIfInBounds_toArray, List.set_cons_zero, List.set_cons_succ, Array.getD_eq_getD_getElem?, List.getElem?_toArray, List.getElem?_cons_zero, List.getElem?_cons_succ, Option.getD_some] at hu_; subst hu_; simp only [splice, vcells_int, vcells_bool, vcells_string, vcells_pointer, vcells_slice, vcells_map, vcells_func, vcells_nilFunc, vcells_iface, vcells_nilIface, vcells_agg, List.take_zero, List.take_succ_cons, List.drop_zero, List.drop_succ_cons, List.length_cons, List.length_nil, List.nil_append, List.cons_append, List.append_nil, Nat.zero_add, List.set_cons_zero, List.set_cons_succ] at H2; (try clear b2); have b2 := H2.cells 4 rfl; simp only [cellsAre, and_true, Nat.zero_add] at b2))
              rw [HRz.out]
              refine bodyPost_ret (v := .agg #[.int .i64 z.1, .int .i64 z.2.1, .int .i64 z.2.2]) (by simp [results, Try.results6, go_sem, b2]) rfl ?_
              exact ⟨rfl, H2.none⟩
        · obtain rfl : i = s.funcs.length + 1 := by omega
          have hr : R9 = z := by rw [← HR9.out, HT.out _ rfl, List.drop_eq_nil_of_le (Nat.le_refl _)]; rfl
          have HRz := hid hr
          have b0 := H1.cells 0 rfl
          simp only [cellsAre, and_true, Nat.zero_add] at b0
          have c1 := H1.cell1 1 rfl
          clear hr
          go_wp2_with (first | ((with_reducible refine at_store ?_); refine wpList_store_box H1 4 3 rfl rfl (by kernel_rfl) rfl (Nat.le_of_ble_eq_true rfl) rfl ?_; intro u_ wH2 hu_ H2; simp only [Act.eval, Act.put, List.setIfInBounds_toArray, List.set_cons_zero, List.set_cons_succ, Array.getD_eq_getD_getElem?, List.getElem?_toArray, List.getElem?_cons_zero, List.getElem?_cons_succ, Option.getD_some] at hu_; subst hu_; simp only [splice, vcells_int, vcells_bool, vcells_string, vcells_pointer, vcells_slice, vcells_map, vcells_func, vcells_nilFunc, vcells_iface, vcells_nilIface, vcells_agg, List.take_zero, List.take_succ_cons, List.drop_zero, List.drop_succ_cons, List.length_cons, List.length_nil, List.nil_append, List.cons_append, List.append_nil, Nat.zero_add, List.set_cons_zero, List.set_cons_succ] at H2; (try clear b2); have b2 := H2.cells 4 rfl; simp only [cellsAre, and_true, Nat.zero_add] at b2))
          rw [HRz.out]
          refine bodyPost_ret (v := .agg #[.int .i64 z.1, .int .i64 z.2.1, .int .i64 z.2.2]) (by simp [results, Try.results6, go_sem, b2]) rfl ?_
          exact ⟨rfl, H2.none⟩
end Go.Proofs.Ytogndpckiognjaa
