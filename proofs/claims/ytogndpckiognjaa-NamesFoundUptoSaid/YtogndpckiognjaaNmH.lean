/- Names: the checker: a function's head. -/
import Derived.Test.YtogndpckiognjaaNmD
namespace Go.Proofs.Ytogndpckiognjaa
open Go.RowKit
set_option linter.unusedVariables false
set_option linter.unusedSimpArgs false
set_option maxHeartbeats 2000000
theorem RdB.kinds {w : World} {h : Hdr} {l : List Stmt} {hs : List StmtH} (H : RdB w h l hs) : hs.map (·.kind) = l.map (·.kind) := by
  apply List.ext_getElem?
  intro i
  rw [List.getElem?_map, List.getElem?_map]
  cases h1 : hs[i]? with
  | none =>
    have : l[i]? = none := by rw [List.getElem?_eq_none_iff] at h1 ⊢; rw [← H.len]; exact h1
    rw [this]
    rfl
  | some a =>
    obtain ⟨b, hb⟩ : ∃ b, l[i]? = some b := ⟨_, List.getElem?_eq_getElem (by rw [← H.len]; exact (List.getElem?_eq_some_iff.1 h1).1)⟩
    rw [hb]
    simp only [Option.map_some]
    rw [(H.each i a b h1 hb).kind]
/-- The names of a function's own. -/
def locF (s : Src) (f : Int) (ls : List Decl) : List Decl → Nat → Flt → Flt
  | [], _, x => x
  | d :: r, i, x => locF s f ls r (i + 1) (tellF (foreignF s.principals.length d.label) 10 f (-1) (tellF ((s.glob d.name).2.2 || decide (0 ≤ pos ((ls.take i).map (·.name)) d.name)) 70 f (-1) (tellF (!nameOk d.name) 1 f (-1) x)))
theorem loc_at {s : Src} {f : Int} {ls l : List Decl} {k : Nat} {d : Decl} {x : Flt} (h : l[k]? = some d) : locF s f ls (l.drop k) k x = locF s f ls (l.drop (k + 1)) (k + 1) (tellF (foreignF s.principals.length d.label) 10 f (-1) (tellF ((s.glob d.name).2.2 || decide (0 ≤ pos ((ls.take k).map (·.name)) d.name)) 70 f (-1) (tellF (!nameOk d.name) 1 f (-1) x))) := by
  obtain ⟨hk, rfl⟩ := List.getElem?_eq_some_iff.1 h
  rw [List.drop_eq_getElem_cons hk, locF]
def resF (np : Nat) (f : Int) : List Int → Flt → Flt
  | [], x => x
  | l :: r, x => resF np f r (tellF (foreignF np l) 10 f (-1) x)
theorem res_at {np : Nat} {f : Int} {l : List Int} {k : Nat} {d : Int} {x : Flt} (h : l[k]? = some d) : resF np f (l.drop k) x = resF np f (l.drop (k + 1)) (tellF (foreignF np d) 10 f (-1) x) := by
  obtain ⟨hk, rfl⟩ := List.getElem?_eq_some_iff.1 h
  rw [List.drop_eq_getElem_cons hk, resF]
def lastRet (ks : List Int) : Int := posB (ks.map fun k => k == 9) 0
def manyF (g : FDecl) : Bool := decide (8 < g.params.length ∨ 4 < g.results.length ∨ 32 < g.vars.length ∨ 256 < g.body.length)
def nestF (ks : List Int) : Bool := !nests ks || decide (12 < deepF ks 0 0)
def endF (ks : List Int) : Bool := decide (lastRet ks < 0) || (lastRet ks != (ks.length : Int) - 1)
/-- A function's head. -/
def headF (s : Src) (f : Int) (g : FDecl) (x : Flt) : Flt :=
  tellF (endF (g.body.map (·.kind))) 50 f (-1) (tellF (nestF (g.body.map (·.kind))) 50 f (-1) (resF s.principals.length f g.results (locF s f g.locals g.locals 0 (tellF (foreignF s.principals.length g.level) 10 f (-1) (tellF (manyF g) 74 f (-1) x)))))
abbrev fnB (b : Nat) (hd : FuncH) (g : FDecl) : HP := box b 43 #[.string g.name, .int .u64 g.level, .slice hd.p.A g.params.length hd.p.c, .slice hd.r.A g.results.length hd.r.c, .slice hd.v.A g.vars.length hd.v.c, .slice hd.b.A g.body.length hd.b.c]
set_option maxRecDepth 100000 in
theorem head_calls {w0 w : World} {As : List HP} {gc : Nat} {h : SrcH} {s : Src} {x : Flt} (R : RdSrc w0 h s) (ok : s.Ok) (k : Nat) (g : FDecl) (hg : s.funcs[k]? = some g) (H : Mem w0 w (ckB gc h x :: As)) :
    Calls Try.prog 19 #[pt gc, .int .i64 k] w fun e w' => e = .returned (.tuple #[]) ∧ Mem w0 w' (ckB gc h (headF s k g x) :: As) := by
  have hkl : k < s.funcs.length := (List.getElem?_eq_some_iff.1 hg).1
  have HR := hid R
  have HO := hid ok
  have og := ok.func g (List.mem_of_getElem? hg)
  have HOG := hid og
  have hb1 := og.params
  have hb2 := og.results
  have hb3 := og.vars
  have hb4 := og.body
  have lp := ok.principals
  have lf := ok.funcs
  have hpn : h.p.n = s.principals.length := R.principals.n
  have hfn : h.f.n = s.funcs.length := by rw [R.funcs.hdr.n, R.funcs.len]
  obtain ⟨fb, fo, hd, hA, -, RF, p0, p1, p2, p3, p4, p5⟩ := R.funcs.at' hg
  have HRF := hid RF
  have HPN := hid hpn
  have k4 := H.ck.2.2.2.2
  rw [hfn, hA] at k4
  have e0 := H.old p0
  have e1 := H.old p1
  have e2 := H.old p2
  have e3 := H.old p3
  have e4 := H.old p4
  have e5 := H.old p5
  obtain ⟨np, hnp⟩ : ∃ np, s.principals.length = np := ⟨_, rfl⟩
  have hhd : headF s k g x = tellF (endF (g.body.map (·.kind))) 50 k (-1) (tellF (nestF (g.body.map (·.kind))) 50 k (-1) (resF np k g.results (locF s k g.locals g.locals 0 (tellF (foreignF np g.level) 10 k (-1) (tellF (manyF g) 74 k (-1) x))))) := by rw [← hnp]; rfl
  have HHD := hid hhd
  rw [hnp] at lp hpn
  have HPN := hid hpn
  have HNP := hid hnp
  clear R ok hg og RF p0 p1 p2 p3 p4 p5 hA hfn hhd hpn hnp
  go_enter Try.func19, Try.ntmps19
  go_upto_region 1 with (first
    | ((with_reducible refine at_alloc ?_); refine wpList_alloc_box H (.agg #[.string ByteArray.empty, .int .u64 0, .slice none 0 0, .slice none 0 0, .slice none 0 0, .slice none 0 0]) (by kernel_rfl) ?_; intro gH1 wH1 H1; simp only [splice, vcells_int, vcells_bool, vcells_string, vcells_pointer, vcells_slice, vcells_map, vcells_func, vcells_nilFunc, vcells_iface, vcells_nilIface, vcells_agg, List.take_zero, List.take_succ_cons, List.drop_zero, List.drop_succ_cons, List.length_cons, List.length_nil, List.nil_append, List.cons_append, List.append_nil, Nat.zero_add, List.set_cons_zero, List.set_cons_succ] at H1)
    | (((with_reducible refine at_store ?_); refine wpList_store_box H1 0 6 rfl rfl (by kernel_rfl) rfl (Nat.le_of_ble_eq_true rfl) rfl ?_; intro u_ wH2 hu_ H2; simp only [Act.eval, Act.put, List.setIfInBounds_toArray, List.set_cons_zero, List.set_cons_succ, Array.getD_eq_getD_getElem?, List.getElem?_toArray, List.getElem?_cons_zero, List.getElem?_cons_succ, Option.getD_some] at hu_; subst hu_; simp only [splice, vcells_int, vcells_bool, vcells_string, vcells_pointer, vcells_slice, vcells_map, vcells_func, vcells_nilFunc, vcells_iface, vcells_nilIface, vcells_agg, List.take_zero, List.take_succ_cons, List.drop_zero, List.drop_succ_cons, List.length_cons, List.length_nil, List.nil_append, List.cons_append, List.append_nil, Nat.zero_add, List.set_cons_zero, List.set_cons_succ] at H2; (try clear b0); have b0 := H2.cells 0 rfl; simp only [cellsAre, and_true, Nat.zero_add] at b0); clear k4 e0 e1 e2 e3 e4 e5))
  simp only [Act.put, List.setIfInBounds_toArray, List.set_cons_zero, List.set_cons_succ]
  have H2 : Mem w0 wH2 (fnB gH1 hd g :: ckB gc h x :: As) := H2
  go_cut [] from 24 to 48 (fun wc => Mem w0 wc (ckB gc h (tellF (manyF g) 74 k (-1) x) :: fnB gH1 hd g :: As))
  case first =>
    by_cases m0 : 8 < g.params.length
    · have n0 : (8 : Int) < (g.params.length : Int) := by omega
      have hm : manyF g = true := by unfold manyF; simp [m0]
      have HM := hid hm
      clear hm
      go_wp2_with (first | (go_at_call 31; (with_reducible refine (tell_calls (true) 74 (k : Int) (-1) (H2.mv 1 rfl)).mono ?_); rintro e w3 ⟨rfl, H3⟩; simp only [List.eraseIdx_cons_succ, List.eraseIdx_cons_zero] at H3))
      go_meet
      rw [HM.out]
      exact H3
    · have n0 : decide ((8 : Int) < (g.params.length : Int)) = false := by simp; omega
      by_cases m1 : 4 < g.results.length
      · have n1 : (4 : Int) < (g.results.length : Int) := by omega
        have hm : manyF g = true := by unfold manyF; simp [m1]
        have HM := hid hm
        clear hm
        go_wp2_with (first | (go_at_call 31; (with_reducible refine (tell_calls (true) 74 (k : Int) (-1) (H2.mv 1 rfl)).mono ?_); rintro e w3 ⟨rfl, H3⟩; simp only [List.eraseIdx_cons_succ, List.eraseIdx_cons_zero] at H3))
        go_meet
        rw [HM.out]
        exact H3
      · have n1 : decide ((4 : Int) < (g.results.length : Int)) = false := by simp; omega
        by_cases m2 : 32 < g.vars.length
        · have n2 : (32 : Int) < (g.vars.length : Int) := by omega
          have hm : manyF g = true := by unfold manyF; simp [m2]
          have HM := hid hm
          clear hm
          go_wp2_with (first | (go_at_call 31; (with_reducible refine (tell_calls (true) 74 (k : Int) (-1) (H2.mv 1 rfl)).mono ?_); rintro e w3 ⟨rfl, H3⟩; simp only [List.eraseIdx_cons_succ, List.eraseIdx_cons_zero] at H3))
          go_meet
          rw [HM.out]
          exact H3
        · have n2 : decide ((32 : Int) < (g.vars.length : Int)) = false := by simp; omega
          have hm : manyF g = decide ((256 : Int) < (g.body.length : Int)) := by unfold manyF; by_cases h4 : 256 < g.body.length <;> simp [m0, m1, m2, h4] <;> omega
          have HM := hid hm
          clear hm
          go_wp2_with (first | (go_at_call 31; (with_reducible refine (tell_calls (decide ((256 : Int) < (g.body.length : Int))) 74 (k : Int) (-1) (H2.mv 1 rfl)).mono ?_); rintro e w3 ⟨rfl, H3⟩; simp only [List.eraseIdx_cons_succ, List.eraseIdx_cons_zero] at H3))
          go_meet
          rw [HM.out]
          exact H3
  case rest =>
  have H3 := hcut
  clear hcut H1 H2 H b0
  have b0 := H3.cells 1 rfl
  simp only [cellsAre, and_true, Nat.zero_add] at b0
  have hfl : List.flatten [g.params, g.vars] = g.locals := by simp [FDecl.locals]
  have hll : g.locals.length ≤ 5000000 := by
    simp only [FDecl.locals, List.length_append]
    omega
  have HOL : Hd (∀ d ∈ g.locals, okName d.name) := ⟨by
    intro d hd
    rcases List.mem_append.1 hd with h1 | h1
    · exact HOG.out.param d h1
    · exact HOG.out.var d h1⟩
  obtain ⟨ls, hls⟩ : ∃ ls, g.locals = ls := ⟨_, rfl⟩
  rw [hls] at HOL hll hfl
  have HLS := hid hls
  have HFL := hid hfl
  clear hfl hls
  go_wp2_with (first
    | (go_at_call 34; (with_reducible refine (foreign_calls g.level np HPN.out lp H3).mono ?_); rintro e w4 ⟨rfl, hw4⟩; rw [hw4])
    | ((go_at_call 31; (with_reducible refine (tell_calls (foreignF np g.level) 10 (k : Int) (-1) H3).mono ?_); rintro e w5 ⟨rfl, H5⟩; clear b0); have b0 := H5.cells 1 rfl; simp only [cellsAre, and_true, Nat.zero_add] at b0)
    | (go_at_call 25; (have H6 := (H5.alloc 23 #[.slice hd.p.A g.params.length hd.p.c, .slice hd.v.A g.vars.length hd.v.c]).row_of_box (sz := 1) (n := 2) 0 rfl rfl (by decide) (by intro u hu; simp at hu; rcases hu with rfl | rfl <;> rfl)); (simp only [List.set_cons_zero] at H6); (have RW : RdHs Enc.decl _ ⟨some ⟨w5.heap.size, 0, none⟩, 2, 2⟩ [g.params, g.vars] [⟨hd.p.A, g.params.length, hd.p.c⟩, ⟨hd.v.A, g.vars.length, hd.v.c⟩] := ⟨rfl, ⟨rfl, Nat.le_refl _, (H6.rd 0 rfl (by decide)).1⟩, fun i x r h1 h2 => (by
        have hRF := HRF.out.below H6.below
        match i, h1, h2 with
        | 0, h1, h2 => obtain rfl := Option.some.inj h1; obtain rfl := Option.some.inj h2; exact ⟨rfl, hRF.params.c, hRF.params.rd⟩
        | 1, h1, h2 => obtain rfl := Option.some.inj h1; obtain rfl := Option.some.inj h2; exact ⟨rfl, hRF.vars.c, hRF.vars.rd⟩
        | i + 2, h1, h2 => simp at h1)⟩); ((with_reducible refine (concat_calls _ 2 2 [g.params, g.vars] _ _ RW (by simp) (by intro r hr; simp at hr; rcases hr with rfl | rfl; exact HOG.out.params; exact HOG.out.vars)).mono ?_); rintro e w7 ⟨A7, c7, rfl, H7'⟩; rw [HFL.out] at H7' ⊢; have H7 := H6.call H7'; simp only [List.nil_append, List.cons_append] at H7; clear b0 RW)))
  clear H3 H5 H6 H7'
  have H8 := ((H7.drop 1).mv 2 rfl).mv 2 rfl
  simp only [List.eraseIdx_cons_succ, List.eraseIdx_cons_zero] at H8
  clear H7
  obtain ⟨x2, hx2⟩ : ∃ y, tellF (foreignF np g.level) 10 k (-1) (tellF (manyF g) 74 k (-1) x) = y := ⟨_, rfl⟩
  have HX2 := hid hx2
  rw [hx2] at H8
  clear hx2
  go_loopw [64] (fun v wr => ∃ (i : Nat) (z : Flt), v = .int .i64 i ∧ i ≤ ls.length ∧ Hd (locF s k ls ls 0 x2 = locF s k ls (ls.drop i) i z) ∧ Mem w0 wr (ckB gc h z :: fnB gH1 hd g :: own Enc.decl 37 A7 c7 ls :: As)) (fun v _ => ls.length - (intOf v).toNat)
  case atStart => exact ⟨0, x2, rfl, Nat.zero_le _, ⟨rfl⟩, H8⟩
  case round =>
    clear H8
    obtain ⟨i, z, rfl, hi, HT, H1⟩ := hrel
    obtain ⟨w1, rfl⟩ : ∃ wo : World, wo = wr := ⟨_, rfl⟩
    obtain ⟨hro, hc7, hc7'⟩ := H1.own_rd 2 rfl (by decide)
    unfold maxLen at hc7'
    by_cases hlt : i < ls.length
    · obtain ⟨d, hd1⟩ : ∃ p, ls[i]? = some p := ⟨_, List.getElem?_eq_getElem hlt⟩
      have hds : d.name.size ≤ 2000000 := HOL.out d (List.mem_of_getElem? hd1)
      obtain ⟨lb, lo, rfl, e0, e1⟩ := hro.get2 rfl hd1 rfl
      have HPA := hid (loc_at (s := s) (f := k) (ls := ls) (x := z) hd1)
      clear hd1
      obtain ⟨r0, r1, r2, hq⟩ : ∃ r0 r1 r2, s.glob d.name = (r0, r1, r2) := ⟨_, _, _, rfl⟩
      have HQ := hid hq
      clear hq hro
      go_upto_region 7 with (first
        | ((with_reducible refine at_alloc ?_); refine wpList_alloc_box H1 (.agg #[.string ByteArray.empty, .int .u64 0]) (by kernel_rfl) ?_; intro gH2 wH2 H2; simp only [splice, vcells_int, vcells_bool, vcells_string, vcells_pointer, vcells_slice, vcells_map, vcells_func, vcells_nilFunc, vcells_iface, vcells_nilIface, vcells_agg, List.take_zero, List.take_succ_cons, List.drop_zero, List.drop_succ_cons, List.length_cons, List.length_nil, List.nil_append, List.cons_append, List.append_nil, Nat.zero_add, List.set_cons_zero, List.set_cons_succ] at H2)
        | (((with_reducible refine at_store ?_); refine wpList_store_box H2 0 2 rfl rfl (by kernel_rfl) rfl (Nat.le_of_ble_eq_true rfl) rfl ?_; intro u_ wH3 hu_ H3; simp only [Act.eval, Act.put, List.setIfInBounds_toArray, List.set_cons_zero, List.set_cons_succ, Array.getD_eq_getD_getElem?, List.getElem?_toArray, List.getElem?_cons_zero, List.getElem?_cons_succ, Option.getD_some] at hu_; subst hu_; simp only [splice, vcells_int, vcells_bool, vcells_string, vcells_pointer, vcells_slice, vcells_map, vcells_func, vcells_nilFunc, vcells_iface, vcells_nilIface, vcells_agg, List.take_zero, List.take_succ_cons, List.drop_zero, List.drop_succ_cons, List.length_cons, List.length_nil, List.nil_append, List.cons_append, List.append_nil, Nat.zero_add, List.set_cons_zero, List.set_cons_succ] at H3; (try clear b0); have b0 := H3.cells 0 rfl; simp only [cellsAre, and_true, Nat.zero_add] at b0); clear e0 e1))
      have H4 := ((H3.mv 3 rfl).mv 3 rfl).mv 3 rfl
      simp only [List.eraseIdx_cons_succ, List.eraseIdx_cons_zero] at H4
      have H4 : Mem w0 wH3 (ckB gc h z :: fnB gH1 hd g :: own Enc.decl 37 (some ⟨lb, lo, none⟩) c7 ls :: box gH2 37 #[.string d.name, .int .u64 d.label] :: As) := H4
      clear H2 H3 b0 H1
      go_cut [8, 9] from 69 to 78 (fun v8 v9 wc => ∃ g8, v8 = pt g8 ∧ v9 = .bool r2 ∧ Mem w0 wc (ckB gc h z :: fnB gH1 hd g :: own Enc.decl 37 (some ⟨lb, lo, none⟩) c7 ls :: box gH2 37 #[.string d.name, .int .u64 d.label] :: As))
      case first =>
        refine wp_region_B (fun _ => false) (fun w' => w'.cell? ⟨gc, 0, none⟩ = some (.slice h.p.A h.p.n h.p.c) ∧ w'.cell? ⟨gc, 1, none⟩ = some (.slice h.g.A h.g.n h.g.c) ∧ w'.cell? ⟨gc, 2, none⟩ = some (.slice h.a.A h.a.n h.a.c) ∧ w'.cell? ⟨gc, 3, none⟩ = some (.slice h.c.A h.c.n h.c.c) ∧ w'.cell? ⟨gc, 4, none⟩ = some (.slice h.f.A h.f.n h.f.c) ∧ w'.cell? ⟨gH2, 0, none⟩ = some (.string d.name)) (by kernel_rfl) ?_
        have H5 := H4.drew
        obtain ⟨w5, hw⟩ : ∃ wq, wq = wH3.drew := ⟨_, rfl⟩
        rw [← hw] at H5 ⊢
        clear hw
        have hS : w5.cell? ⟨gc, 0, none⟩ = some (.slice h.p.A h.p.n h.p.c) ∧ w5.cell? ⟨gc, 1, none⟩ = some (.slice h.g.A h.g.n h.g.c) ∧ w5.cell? ⟨gc, 2, none⟩ = some (.slice h.a.A h.a.n h.a.c) ∧ w5.cell? ⟨gc, 3, none⟩ = some (.slice h.c.A h.c.n h.c.c) ∧ w5.cell? ⟨gc, 4, none⟩ = some (.slice h.f.A h.f.n h.f.c) ∧ w5.cell? ⟨gH2, 0, none⟩ = some (.string d.name) := by
              have hh := (H5.box_cell 0 rfl).1
              have h2 := (H5.box_cell 3 rfl).1
              exact ⟨by simpa using hh 0, by simpa using hh 1, by simpa using hh 2, by simpa using hh 3, by simpa using hh 4, by simpa using h2 0⟩
        refine wpAnyB_take' (i := 0) (v := pt gc) rfl (by kernel_rfl) (by kernel_rfl) rfl (by kernel_rfl) (by kernel_rfl) (fun _ _ _ h => h) (by rfl) hS (by intro w' hS'; obtain ⟨k1, k2, k3, k4, k5, k6⟩ := hS'; first | (go_simp; done) | (go_simp; rfl) | (go_simp; omega) | (go_simp; assumption)) ?_
        simp only [Act.put, List.setIfInBounds_toArray, List.set_cons_zero, List.set_cons_succ]
        refine wpAnyB_take' (i := 1) (v := pt gc) rfl (by kernel_rfl) (by kernel_rfl) rfl (by kernel_rfl) (by kernel_rfl) (fun _ _ _ h => h) (by rfl) hS (by intro w' hS'; obtain ⟨k1, k2, k3, k4, k5, k6⟩ := hS'; first | (go_simp; done) | (go_simp; rfl) | (go_simp; omega) | (go_simp; assumption)) ?_
        simp only [Act.put, List.setIfInBounds_toArray, List.set_cons_zero, List.set_cons_succ]
        refine wpAnyB_take' (i := 2) (v := pt gc) rfl (by kernel_rfl) (by kernel_rfl) rfl (by kernel_rfl) (by kernel_rfl) (fun _ _ _ h => h) (by rfl) hS (by intro w' hS'; obtain ⟨k1, k2, k3, k4, k5, k6⟩ := hS'; first | (go_simp; done) | (go_simp; rfl) | (go_simp; omega) | (go_simp; assumption)) ?_
        simp only [Act.put, List.setIfInBounds_toArray, List.set_cons_zero, List.set_cons_succ]
        refine wpAnyB_take' (i := 3) (v := h.val) rfl (by kernel_rfl) (by kernel_rfl) rfl (by kernel_rfl) (by kernel_rfl) (fun _ _ _ h => h) (by rfl) hS (by intro w' hS'; obtain ⟨k1, k2, k3, k4, k5, k6⟩ := hS'; first | (go_simp; done) | (go_simp; rfl) | (go_simp; omega) | (go_simp; assumption)) ?_
        simp only [Act.put, List.setIfInBounds_toArray, List.set_cons_zero, List.set_cons_succ]
        refine wpAnyB_take' (i := 4) (v := pt gH2) rfl (by kernel_rfl) (by kernel_rfl) rfl (by kernel_rfl) (by kernel_rfl) (fun _ _ _ h => h) (by rfl) hS (by intro w' hS'; obtain ⟨k1, k2, k3, k4, k5, k6⟩ := hS'; first | (go_simp; done) | (go_simp; rfl) | (go_simp; omega) | (go_simp; assumption)) ?_
        simp only [Act.put, List.setIfInBounds_toArray, List.set_cons_zero, List.set_cons_succ]
        refine wpAnyB_take' (i := 5) (v := .string d.name) rfl (by kernel_rfl) (by kernel_rfl) rfl (by kernel_rfl) (by kernel_rfl) (fun _ _ _ h => h) (by rfl) hS (by intro w' hS'; obtain ⟨k1, k2, k3, k4, k5, k6⟩ := hS'; first | (go_simp; done) | (go_simp; rfl) | (go_simp; omega) | (go_simp; assumption)) ?_
        simp only [Act.put, List.setIfInBounds_toArray, List.set_cons_zero, List.set_cons_succ]
        refine wpAnyB_two (i := 6) (j := 10) (by kernel_rfl) ?_ ?_
        · refine wpOp_call rfl (by kernel_rfl) (by first | rfl | (go_simp; done) | (go_simp; rfl)) (global_calls h s d.name w5 (HR.out.below H5.below) HO.out) ?_
          rintro e w6 ⟨rfl, H6'⟩
          rw [HQ.out]
          have H6 := H5.call H6'
          simp only [List.nil_append] at H6
          clear hS
          have hS : w6.cell? ⟨gc, 0, none⟩ = some (.slice h.p.A h.p.n h.p.c) ∧ w6.cell? ⟨gc, 1, none⟩ = some (.slice h.g.A h.g.n h.g.c) ∧ w6.cell? ⟨gc, 2, none⟩ = some (.slice h.a.A h.a.n h.a.c) ∧ w6.cell? ⟨gc, 3, none⟩ = some (.slice h.c.A h.c.n h.c.c) ∧ w6.cell? ⟨gc, 4, none⟩ = some (.slice h.f.A h.f.n h.f.c) ∧ w6.cell? ⟨gH2, 0, none⟩ = some (.string d.name) := by
              have hh := (H6.box_cell 0 rfl).1
              have h2 := (H6.box_cell 3 rfl).1
              exact ⟨by simpa using hh 0, by simpa using hh 1, by simpa using hh 2, by simpa using hh 3, by simpa using hh 4, by simpa using h2 0⟩
          refine ⟨_, rfl, fun _ => hS, ?_⟩
          simp only [Act.put, List.setIfInBounds_toArray, List.set_cons_zero, List.set_cons_succ]
          refine wpAnyB_take' (i := 7) (v := refV (r0, r1, r2)) rfl (by kernel_rfl) (by kernel_rfl) rfl (by kernel_rfl) (by kernel_rfl) (fun _ _ _ h => h) (by rfl) hS (by intro w' hS'; obtain ⟨k1, k2, k3, k4, k5, k6⟩ := hS'; first | (go_simp; done) | (go_simp; rfl) | (go_simp; omega) | (go_simp; assumption)) ?_
          simp only [Act.put, List.setIfInBounds_toArray, List.set_cons_zero, List.set_cons_succ]
          refine wpAnyB_take' (i := 8) (v := .agg #[I r0, I r1]) rfl (by kernel_rfl) (by kernel_rfl) rfl (by kernel_rfl) (by kernel_rfl) (fun _ _ _ h => h) (by rfl) hS (by intro w' hS'; obtain ⟨k1, k2, k3, k4, k5, k6⟩ := hS'; first | (go_simp; done) | (go_simp; rfl) | (go_simp; omega) | (go_simp; assumption)) ?_
          simp only [Act.put, List.setIfInBounds_toArray, List.set_cons_zero, List.set_cons_succ]
          refine wpAnyB_take' (i := 9) (v := .bool r2) rfl (by kernel_rfl) (by kernel_rfl) rfl (by kernel_rfl) (by kernel_rfl) (fun _ _ _ h => h) (by rfl) hS (by intro w' hS'; obtain ⟨k1, k2, k3, k4, k5, k6⟩ := hS'; first | (go_simp; done) | (go_simp; rfl) | (go_simp; omega) | (go_simp; assumption)) ?_
          simp only [Act.put, List.setIfInBounds_toArray, List.set_cons_zero, List.set_cons_succ]
          refine wpAnyB_do (i := 10) (v := pt w6.heap.size) (w1 := w6.alloc (.cells (Value.cells (.agg #[.int .i64 0, .int .i64 0])) 52)) rfl (by kernel_rfl) (by rfl) (run_exec_alloc rfl (by kernel_rfl)) ?_
          have H8 := H6.alloc 52 (Value.cells (.agg #[.int .i64 0, .int .i64 0]))
          obtain ⟨w8, hw5⟩ : ∃ y, y = w6.alloc (.cells (Value.cells (.agg #[.int .i64 0, .int .i64 0])) 52) := ⟨_, rfl⟩
          obtain ⟨g8, hg8⟩ : ∃ y, y = w6.heap.size := ⟨_, rfl⟩
          rw [← hw5, ← hg8] at H8 ⊢
          clear hw5 hg8 hS
          have hS : w8.cell? ⟨gc, 0, none⟩ = some (.slice h.p.A h.p.n h.p.c) ∧ w8.cell? ⟨gc, 1, none⟩ = some (.slice h.g.A h.g.n h.g.c) ∧ w8.cell? ⟨gc, 2, none⟩ = some (.slice h.a.A h.a.n h.a.c) ∧ w8.cell? ⟨gc, 3, none⟩ = some (.slice h.c.A h.c.n h.c.c) ∧ w8.cell? ⟨gc, 4, none⟩ = some (.slice h.f.A h.f.n h.f.c) ∧ w8.cell? ⟨gH2, 0, none⟩ = some (.string d.name) := by
              have hh := (H8.box_cell 1 rfl).1
              have h2 := (H8.box_cell 4 rfl).1
              exact ⟨by simpa using hh 0, by simpa using hh 1, by simpa using hh 2, by simpa using hh 3, by simpa using hh 4, by simpa using h2 0⟩
          refine ⟨fun _ => hS, ?_⟩
          simp only [Act.put, List.setIfInBounds_toArray, List.set_cons_zero, List.set_cons_succ]
          refine wpAnyB_one' (i := 11) rfl (by kernel_rfl) ?_
          (with_reducible refine at_store ?_); refine wpList_store_box H8 0 2 rfl rfl (by kernel_rfl) rfl (Nat.le_of_ble_eq_true rfl) rfl ?_; intro u_ w9 hu_ H9
          simp only [List.set_cons_zero] at H9
          have H10 := H9.drop 0
          simp only [List.eraseIdx_cons_zero] at H10
          refine wpList_nil ?_
          clear hS
          have hS : w9.cell? ⟨gc, 0, none⟩ = some (.slice h.p.A h.p.n h.p.c) ∧ w9.cell? ⟨gc, 1, none⟩ = some (.slice h.g.A h.g.n h.g.c) ∧ w9.cell? ⟨gc, 2, none⟩ = some (.slice h.a.A h.a.n h.a.c) ∧ w9.cell? ⟨gc, 3, none⟩ = some (.slice h.c.A h.c.n h.c.c) ∧ w9.cell? ⟨gc, 4, none⟩ = some (.slice h.f.A h.f.n h.f.c) ∧ w9.cell? ⟨gH2, 0, none⟩ = some (.string d.name) := by
              have hh := (H10.box_cell 0 rfl).1
              have h2 := (H10.box_cell 3 rfl).1
              exact ⟨by simpa using hh 0, by simpa using hh 1, by simpa using hh 2, by simpa using hh 3, by simpa using hh 4, by simpa using h2 0⟩
          refine ⟨fun _ => hS, ?_⟩
          refine wpAnyB_take' (i := 12) (v := .bool r2) rfl (by kernel_rfl) (by kernel_rfl) rfl (by kernel_rfl) (by kernel_rfl) (fun _ _ _ h => h) (by rfl) hS (by intro w' hS'; first | rfl | (go_simp; done) | (go_simp; rfl)) ?_
          simp only [Act.put, List.setIfInBounds_toArray, List.set_cons_zero, List.set_cons_succ]
          refine wpAnyB_done (by kernel_rfl) ?_ _
          go_wp2
          go_meet
          exact ⟨g8, rfl, rfl, H10⟩
        · refine wpOp_do (v := pt w5.heap.size) (w1 := w5.alloc (.cells (Value.cells (.agg #[.int .i64 0, .int .i64 0])) 52)) rfl (by kernel_rfl) (run_exec_alloc rfl (by kernel_rfl)) ?_
          have H6 := H5.alloc 52 (Value.cells (.agg #[.int .i64 0, .int .i64 0]))
          obtain ⟨w6, hw5⟩ : ∃ y, y = w5.alloc (.cells (Value.cells (.agg #[.int .i64 0, .int .i64 0])) 52) := ⟨_, rfl⟩
          obtain ⟨g8, hg8⟩ : ∃ y, y = w5.heap.size := ⟨_, rfl⟩
          rw [← hw5, ← hg8] at H6 ⊢
          clear hw5 hg8 hS
          have hS : w6.cell? ⟨gc, 0, none⟩ = some (.slice h.p.A h.p.n h.p.c) ∧ w6.cell? ⟨gc, 1, none⟩ = some (.slice h.g.A h.g.n h.g.c) ∧ w6.cell? ⟨gc, 2, none⟩ = some (.slice h.a.A h.a.n h.a.c) ∧ w6.cell? ⟨gc, 3, none⟩ = some (.slice h.c.A h.c.n h.c.c) ∧ w6.cell? ⟨gc, 4, none⟩ = some (.slice h.f.A h.f.n h.f.c) ∧ w6.cell? ⟨gH2, 0, none⟩ = some (.string d.name) := by
              have hh := (H6.box_cell 1 rfl).1
              have h2 := (H6.box_cell 4 rfl).1
              exact ⟨by simpa using hh 0, by simpa using hh 1, by simpa using hh 2, by simpa using hh 3, by simpa using hh 4, by simpa using h2 0⟩
          refine ⟨fun _ => hS, ?_⟩
          simp only [Act.put, List.setIfInBounds_toArray, List.set_cons_zero, List.set_cons_succ]
          refine wpAnyB_one (i := 6) (by kernel_rfl) ?_
          refine wpOp_call rfl (by kernel_rfl) (by first | rfl | (go_simp; done) | (go_simp; rfl)) (global_calls h s d.name w6 (HR.out.below H6.below) HO.out) ?_
          rintro e w8 ⟨rfl, H8'⟩
          rw [HQ.out]
          have H8 := H6.call H8'
          simp only [List.nil_append] at H8
          clear hS
          have hS : w8.cell? ⟨gc, 0, none⟩ = some (.slice h.p.A h.p.n h.p.c) ∧ w8.cell? ⟨gc, 1, none⟩ = some (.slice h.g.A h.g.n h.g.c) ∧ w8.cell? ⟨gc, 2, none⟩ = some (.slice h.a.A h.a.n h.a.c) ∧ w8.cell? ⟨gc, 3, none⟩ = some (.slice h.c.A h.c.n h.c.c) ∧ w8.cell? ⟨gc, 4, none⟩ = some (.slice h.f.A h.f.n h.f.c) ∧ w8.cell? ⟨gH2, 0, none⟩ = some (.string d.name) := by
              have hh := (H8.box_cell 1 rfl).1
              have h2 := (H8.box_cell 4 rfl).1
              exact ⟨by simpa using hh 0, by simpa using hh 1, by simpa using hh 2, by simpa using hh 3, by simpa using hh 4, by simpa using h2 0⟩
          refine ⟨_, rfl, fun _ => hS, ?_⟩
          simp only [Act.put, List.setIfInBounds_toArray, List.set_cons_zero, List.set_cons_succ]
          refine wpAnyB_take' (i := 7) (v := refV (r0, r1, r2)) rfl (by kernel_rfl) (by kernel_rfl) rfl (by kernel_rfl) (by kernel_rfl) (fun _ _ _ h => h) (by rfl) hS (by intro w' hS'; obtain ⟨k1, k2, k3, k4, k5, k6⟩ := hS'; first | (go_simp; done) | (go_simp; rfl) | (go_simp; omega) | (go_simp; assumption)) ?_
          simp only [Act.put, List.setIfInBounds_toArray, List.set_cons_zero, List.set_cons_succ]
          refine wpAnyB_take' (i := 8) (v := .agg #[I r0, I r1]) rfl (by kernel_rfl) (by kernel_rfl) rfl (by kernel_rfl) (by kernel_rfl) (fun _ _ _ h => h) (by rfl) hS (by intro w' hS'; obtain ⟨k1, k2, k3, k4, k5, k6⟩ := hS'; first | (go_simp; done) | (go_simp; rfl) | (go_simp; omega) | (go_simp; assumption)) ?_
          simp only [Act.put, List.setIfInBounds_toArray, List.set_cons_zero, List.set_cons_succ]
          refine wpAnyB_take' (i := 9) (v := .bool r2) rfl (by kernel_rfl) (by kernel_rfl) rfl (by kernel_rfl) (by kernel_rfl) (fun _ _ _ h => h) (by rfl) hS (by intro w' hS'; obtain ⟨k1, k2, k3, k4, k5, k6⟩ := hS'; first | (go_simp; done) | (go_simp; rfl) | (go_simp; omega) | (go_simp; assumption)) ?_
          simp only [Act.put, List.setIfInBounds_toArray, List.set_cons_zero, List.set_cons_succ]
          refine wpAnyB_one' (i := 11) rfl (by kernel_rfl) ?_
          (with_reducible refine at_store ?_); refine wpList_store_box H8 0 2 rfl rfl (by kernel_rfl) rfl (Nat.le_of_ble_eq_true rfl) rfl ?_; intro u_ w9 hu_ H9
          simp only [List.set_cons_zero] at H9
          have H10 := H9.drop 0
          simp only [List.eraseIdx_cons_zero] at H10
          refine wpList_nil ?_
          clear hS
          have hS : w9.cell? ⟨gc, 0, none⟩ = some (.slice h.p.A h.p.n h.p.c) ∧ w9.cell? ⟨gc, 1, none⟩ = some (.slice h.g.A h.g.n h.g.c) ∧ w9.cell? ⟨gc, 2, none⟩ = some (.slice h.a.A h.a.n h.a.c) ∧ w9.cell? ⟨gc, 3, none⟩ = some (.slice h.c.A h.c.n h.c.c) ∧ w9.cell? ⟨gc, 4, none⟩ = some (.slice h.f.A h.f.n h.f.c) ∧ w9.cell? ⟨gH2, 0, none⟩ = some (.string d.name) := by
              have hh := (H10.box_cell 0 rfl).1
              have h2 := (H10.box_cell 3 rfl).1
              exact ⟨by simpa using hh 0, by simpa using hh 1, by simpa using hh 2, by simpa using hh 3, by simpa using hh 4, by simpa using h2 0⟩
          refine ⟨fun _ => hS, ?_⟩
          refine wpAnyB_take' (i := 12) (v := .bool r2) rfl (by kernel_rfl) (by kernel_rfl) rfl (by kernel_rfl) (by kernel_rfl) (fun _ _ _ h => h) (by rfl) hS (by intro w' hS'; first | rfl | (go_simp; done) | (go_simp; rfl)) ?_
          simp only [Act.put, List.setIfInBounds_toArray, List.set_cons_zero, List.set_cons_succ]
          refine wpAnyB_done (by kernel_rfl) ?_ _
          go_wp2
          go_meet
          exact ⟨g8, rfl, rfl, H10⟩
      case rest =>
      obtain ⟨g8, rfl, rfl, H5⟩ := hcut
      clear H4
      have b0 := H5.cells 3 rfl
      simp only [cellsAre, and_true, Nat.zero_add] at b0
      have hic : i ≤ c7 := by omega
      have HIC := hid hic
      obtain ⟨q, hqq⟩ : ∃ q, pos ((ls.take i).map (·.name)) d.name = q := ⟨_, rfl⟩
      have HPQ := hid hqq
      clear hqq
      have hpa := HPA.out
      rw [HQ.out, HPQ.out, HNP.out] at hpa
      have HPA2 := hid hpa
      clear hpa HPA
      go_upto_region 9 with (first
        | ((go_at_call 8; (with_reducible refine (name_calls d.name _ hds).mono ?_); rintro e w6 ⟨rfl, H6'⟩; have H6 := H5.call H6'; simp only [List.nil_append] at H6))
        | ((go_at_call 31; (with_reducible refine (tell_calls (!nameOk d.name) 1 (k : Int) (-1) H6).mono ?_); rintro e w7 ⟨rfl, H7⟩; clear b0)))
      cases r2 with
      | true =>
        refine wp_region_B (fun _ => false) (fun w' => w'.cell? ⟨gH2, 0, none⟩ = some (.string d.name) ∧ True) (by kernel_rfl) ?_
        have H8 := H7.drew
        obtain ⟨w8, hw⟩ : ∃ wq, wq = w7.drew := ⟨_, rfl⟩
        rw [← hw] at H8 ⊢
        clear hw
        have hS : w8.cell? ⟨gH2, 0, none⟩ = some (.string d.name) ∧ True := ⟨by simpa using (H8.box_cell 3 rfl).1 0, trivial⟩
        refine wpAnyB_take' (i := 0) (v := pt gc) rfl (by kernel_rfl) (by kernel_rfl) rfl (by kernel_rfl) (by kernel_rfl) (fun _ _ _ h => h) (by rfl) hS (by intro w' hS'; obtain ⟨k1, k2⟩ := hS'; first | (go_simp; done) | (go_simp; rfl) | (go_simp; omega) | (go_simp; assumption)) ?_
        simp only [Act.put, List.setIfInBounds_toArray, List.set_cons_zero, List.set_cons_succ]
        refine wpAnyB_take' (i := 1) (v := .bool true) rfl (by kernel_rfl) (by kernel_rfl) rfl (by kernel_rfl) (by kernel_rfl) (fun _ _ _ h => h) (by rfl) hS (by intro w' hS'; obtain ⟨k1, k2⟩ := hS'; first | (go_simp; done) | (go_simp; rfl) | (go_simp; omega) | (go_simp; assumption)) ?_
        simp only [Act.put, List.setIfInBounds_toArray, List.set_cons_zero, List.set_cons_succ]
        refine wpAnyB_take' (i := 2) (v := .bool true) rfl (by kernel_rfl) (by kernel_rfl) rfl (by kernel_rfl) (by kernel_rfl) (fun _ _ _ h => h) (by rfl) hS (by intro w' hS'; obtain ⟨k1, k2⟩ := hS'; first | (go_simp; done) | (go_simp; rfl) | (go_simp; omega) | (go_simp; assumption)) ?_
        simp only [Act.put, List.setIfInBounds_toArray, List.set_cons_zero, List.set_cons_succ]
        refine wpAnyB_skip' (i := 3) rfl (by kernel_rfl) (by kernel_rfl) rfl (by kernel_rfl) (by kernel_rfl) (fun _ _ _ h => h) (by rfl) hS ?_
        simp only [Act.put, List.setIfInBounds_toArray, List.set_cons_zero, List.set_cons_succ]
        refine wpAnyB_skip' (i := 4) rfl (by kernel_rfl) (by kernel_rfl) rfl (by kernel_rfl) (by kernel_rfl) (fun _ _ _ h => h) (by rfl) hS ?_
        simp only [Act.put, List.setIfInBounds_toArray, List.set_cons_zero, List.set_cons_succ]
        refine wpAnyB_skip' (i := 5) rfl (by kernel_rfl) (by kernel_rfl) rfl (by kernel_rfl) (by kernel_rfl) (fun _ _ _ h => h) (by rfl) hS ?_
        simp only [Act.put, List.setIfInBounds_toArray, List.set_cons_zero, List.set_cons_succ]
        refine wpAnyB_skip' (i := 6) rfl (by kernel_rfl) (by kernel_rfl) rfl (by kernel_rfl) (by kernel_rfl) (fun _ _ _ h => h) (by rfl) hS ?_
        simp only [Act.put, List.setIfInBounds_toArray, List.set_cons_zero, List.set_cons_succ]
        refine wpAnyB_skip' (i := 7) rfl (by kernel_rfl) (by kernel_rfl) rfl (by kernel_rfl) (by kernel_rfl) (fun _ _ _ h => h) (by rfl) hS ?_
        simp only [Act.put, List.setIfInBounds_toArray, List.set_cons_zero, List.set_cons_succ]
        refine wpAnyB_skip' (i := 8) rfl (by kernel_rfl) (by kernel_rfl) rfl (by kernel_rfl) (by kernel_rfl) (fun _ _ _ h => h) (by rfl) hS ?_
        simp only [Act.put, List.setIfInBounds_toArray, List.set_cons_zero, List.set_cons_succ]
        refine wpAnyB_skip' (i := 9) rfl (by kernel_rfl) (by kernel_rfl) rfl (by kernel_rfl) (by kernel_rfl) (fun _ _ _ h => h) (by rfl) hS ?_
        simp only [Act.put, List.setIfInBounds_toArray, List.set_cons_zero, List.set_cons_succ]
        refine wpAnyB_take' (i := 10) (v := .bool true) rfl (by kernel_rfl) (by kernel_rfl) rfl (by kernel_rfl) (by kernel_rfl) (fun _ _ _ h => h) (by rfl) hS (by intro w' hS'; obtain ⟨k1, k2⟩ := hS'; first | (go_simp; done) | (go_simp; rfl) | (go_simp; omega) | (go_simp; assumption)) ?_
        simp only [Act.put, List.setIfInBounds_toArray, List.set_cons_zero, List.set_cons_succ]
        refine wpAnyB_take' (i := 11) (v := I (k : Int)) rfl (by kernel_rfl) (by kernel_rfl) rfl (by kernel_rfl) (by kernel_rfl) (fun _ _ _ h => h) (by rfl) hS (by intro w' hS'; obtain ⟨k1, k2⟩ := hS'; first | (go_simp; done) | (go_simp; rfl) | (go_simp; omega) | (go_simp; assumption)) ?_
        simp only [Act.put, List.setIfInBounds_toArray, List.set_cons_zero, List.set_cons_succ]
        refine wpAnyB_call (i := 12) rfl (by kernel_rfl) (by rfl) (by first | rfl | (go_simp; done) | (go_simp; rfl)) (tell_calls (true) 70 (k : Int) (-1) H8) ?_
        rintro e w10 ⟨rfl, H10⟩
        clear hS
        have hS : w10.cell? ⟨gH2, 0, none⟩ = some (.string d.name) ∧ True := ⟨by simpa using (H10.box_cell 3 rfl).1 0, trivial⟩
        refine ⟨_, rfl, fun _ => hS, ?_⟩
        simp only [Act.put, List.setIfInBounds_toArray, List.set_cons_zero, List.set_cons_succ]
        refine wpAnyB_done (by kernel_rfl) ?_ _
        clear hS
        have b0 := H10.cells 3 rfl
        simp only [cellsAre, and_true, Nat.zero_add] at b0
        go_wp2_with (first
          | (go_at_call 34; (with_reducible refine (foreign_calls d.label np HPN.out lp H10).mono ?_); rintro e w11 ⟨rfl, hw11⟩; rw [hw11])
          | ((go_at_call 31; (with_reducible refine (tell_calls (foreignF np d.label) 10 (k : Int) (-1) H10).mono ?_); rintro e w12 ⟨rfl, H12⟩)))
        have H13 := H12.drop 3
        simp only [List.eraseIdx_cons_succ, List.eraseIdx_cons_zero] at H13
        go_roundw
        case rel =>
          refine ⟨i + 1, _, by go_num, by omega, ⟨HT.out.trans HPA2.out⟩, ?_⟩
          rw [Bool.true_or]
          exact H13
        case measure => first | (simp [intOf]; done) | (simp [intOf]; omega)
      | false =>
        refine wp_region_B (fun _ => false) (fun w' => w'.cell? ⟨gH2, 0, none⟩ = some (.string d.name) ∧ True) (by kernel_rfl) ?_
        have H8 := H7.drew
        obtain ⟨w8, hw⟩ : ∃ wq, wq = w7.drew := ⟨_, rfl⟩
        rw [← hw] at H8 ⊢
        clear hw
        have hS : w8.cell? ⟨gH2, 0, none⟩ = some (.string d.name) ∧ True := ⟨by simpa using (H8.box_cell 3 rfl).1 0, trivial⟩
        refine wpAnyB_take' (i := 0) (v := pt gc) rfl (by kernel_rfl) (by kernel_rfl) rfl (by kernel_rfl) (by kernel_rfl) (fun _ _ _ h => h) (by rfl) hS (by intro w' hS'; obtain ⟨k1, k2⟩ := hS'; first | (go_simp; done) | (go_simp; rfl) | (go_simp; omega) | (go_simp; assumption)) ?_
        simp only [Act.put, List.setIfInBounds_toArray, List.set_cons_zero, List.set_cons_succ]
        refine wpAnyB_take' (i := 1) (v := .bool false) rfl (by kernel_rfl) (by kernel_rfl) rfl (by kernel_rfl) (by kernel_rfl) (fun _ _ _ h => h) (by rfl) hS (by intro w' hS'; obtain ⟨k1, k2⟩ := hS'; first | (go_simp; done) | (go_simp; rfl) | (go_simp; omega) | (go_simp; assumption)) ?_
        simp only [Act.put, List.setIfInBounds_toArray, List.set_cons_zero, List.set_cons_succ]
        refine wpAnyB_take' (i := 2) (v := .bool false) rfl (by kernel_rfl) (by kernel_rfl) rfl (by kernel_rfl) (by kernel_rfl) (fun _ _ _ h => h) (by rfl) hS (by intro w' hS'; obtain ⟨k1, k2⟩ := hS'; first | (go_simp; done) | (go_simp; rfl) | (go_simp; omega) | (go_simp; assumption)) ?_
        simp only [Act.put, List.setIfInBounds_toArray, List.set_cons_zero, List.set_cons_succ]
        refine wpAnyB_take' (i := 3) (v := .slice (some ⟨lb, lo, none⟩) ls.length c7) rfl (by kernel_rfl) (by kernel_rfl) rfl (by kernel_rfl) (by kernel_rfl) (fun _ _ _ h => h) (by rfl) hS (by intro w' hS'; obtain ⟨k1, k2⟩ := hS'; first | (go_simp; done) | (go_simp; rfl) | (go_simp; omega) | (go_simp; assumption)) ?_
        simp only [Act.put, List.setIfInBounds_toArray, List.set_cons_zero, List.set_cons_succ]
        refine wpAnyB_take' (i := 4) (v := I (i : Int)) rfl (by kernel_rfl) (by kernel_rfl) rfl (by kernel_rfl) (by kernel_rfl) (fun _ _ _ h => h) (by rfl) hS (by intro w' hS'; obtain ⟨k1, k2⟩ := hS'; first | (go_simp; done) | (go_simp; rfl) | (go_simp; omega) | (go_simp; assumption)) ?_
        simp only [Act.put, List.setIfInBounds_toArray, List.set_cons_zero, List.set_cons_succ]
        refine wpAnyB_take' (i := 5) (v := .slice (some ⟨lb, lo, none⟩) i c7) rfl (by kernel_rfl) (by kernel_rfl) rfl (by kernel_rfl) (by kernel_rfl) (fun _ _ _ h => h) (by rfl) hS (by intro w' hS'; obtain ⟨k1, k2⟩ := hS'; first | (go_simp; done) | (go_simp; rfl) | (go_simp; omega) | (go_simp; assumption)) ?_
        simp only [Act.put, List.setIfInBounds_toArray, List.set_cons_zero, List.set_cons_succ]
        refine wpAnyB_take' (i := 6) (v := pt gH2) rfl (by kernel_rfl) (by kernel_rfl) rfl (by kernel_rfl) (by kernel_rfl) (fun _ _ _ h => h) (by rfl) hS (by intro w' hS'; obtain ⟨k1, k2⟩ := hS'; first | (go_simp; done) | (go_simp; rfl) | (go_simp; omega) | (go_simp; assumption)) ?_
        simp only [Act.put, List.setIfInBounds_toArray, List.set_cons_zero, List.set_cons_succ]
        refine wpAnyB_take' (i := 7) (v := .string d.name) rfl (by kernel_rfl) (by kernel_rfl) rfl (by kernel_rfl) (by kernel_rfl) (fun _ _ _ h => h) (by rfl) hS (by intro w' hS'; obtain ⟨k1, k2⟩ := hS'; first | (go_simp; done) | (go_simp; rfl) | (go_simp; omega) | (go_simp; assumption)) ?_
        simp only [Act.put, List.setIfInBounds_toArray, List.set_cons_zero, List.set_cons_succ]
        refine wpAnyB_take' (i := 11) (v := I (k : Int)) rfl (by kernel_rfl) (by kernel_rfl) rfl (by kernel_rfl) (by kernel_rfl) (fun _ _ _ h => h) (by rfl) hS (by intro w' hS'; obtain ⟨k1, k2⟩ := hS'; first | (go_simp; done) | (go_simp; rfl) | (go_simp; omega) | (go_simp; assumption)) ?_
        simp only [Act.put, List.setIfInBounds_toArray, List.set_cons_zero, List.set_cons_succ]
        refine wpAnyB_call (i := 8) rfl (by kernel_rfl) (by rfl) (by first | rfl | (go_simp; done) | (go_simp; rfl)) (show Calls Try.prog 26 #[.slice (some ⟨lb, lo, none⟩) i c7, .string d.name, .func (.func 27) #[] #[]] w8 _ from (by have := atDecl_calls (some ⟨lb, lo, none⟩) c7 (ls.take i) d.name w8 (by have hr := (H8.own_rd 2 rfl (by decide)).1; have h2 := RdC.take hr (k := i) (by omega); rw [Enc.all_take] at h2; unfold Rd; rw [List.length_take, Nat.min_eq_left (by omega)]; exact h2) (by rw [List.length_take]; omega); rw [List.length_take, Nat.min_eq_left (by omega), HPQ.out] at this; exact this)) ?_
        rintro e w9 ⟨rfl, H9'⟩
        have H9 := H8.call H9'
        simp only [List.nil_append, List.cons_append] at H9
        clear hS H9'
        have hS : w9.cell? ⟨gH2, 0, none⟩ = some (.string d.name) ∧ True := ⟨by simpa using (H9.box_cell 3 rfl).1 0, trivial⟩
        refine ⟨_, rfl, fun _ => hS, ?_⟩
        simp only [Act.put, List.setIfInBounds_toArray, List.set_cons_zero, List.set_cons_succ]
        refine wpAnyB_take' (i := 9) (v := .bool (decide (0 ≤ q))) rfl (by kernel_rfl) (by kernel_rfl) rfl (by kernel_rfl) (by kernel_rfl) (fun _ _ _ h => h) (by rfl) hS (by intro w' hS'; obtain ⟨k1, k2⟩ := hS'; first | (go_simp; done) | (go_simp; rfl) | (go_simp; omega) | (go_simp; assumption)) ?_
        simp only [Act.put, List.setIfInBounds_toArray, List.set_cons_zero, List.set_cons_succ]
        refine wpAnyB_take' (i := 10) (v := .bool (decide (0 ≤ q))) rfl (by kernel_rfl) (by kernel_rfl) rfl (by kernel_rfl) (by kernel_rfl) (fun _ _ _ h => h) (by rfl) hS (by intro w' hS'; obtain ⟨k1, k2⟩ := hS'; first | (go_simp; done) | (go_simp; rfl) | (go_simp; omega) | (go_simp; assumption)) ?_
        simp only [Act.put, List.setIfInBounds_toArray, List.set_cons_zero, List.set_cons_succ]
        refine wpAnyB_call (i := 12) rfl (by kernel_rfl) (by rfl) (by first | rfl | (go_simp; done) | (go_simp; rfl)) (tell_calls (decide (0 ≤ q)) 70 (k : Int) (-1) H9) ?_
        rintro e w10 ⟨rfl, H10⟩
        clear hS
        have hS : w10.cell? ⟨gH2, 0, none⟩ = some (.string d.name) ∧ True := ⟨by simpa using (H10.box_cell 3 rfl).1 0, trivial⟩
        refine ⟨_, rfl, fun _ => hS, ?_⟩
        simp only [Act.put, List.setIfInBounds_toArray, List.set_cons_zero, List.set_cons_succ]
        refine wpAnyB_done (by kernel_rfl) ?_ _
        clear hS
        have b0 := H10.cells 3 rfl
        simp only [cellsAre, and_true, Nat.zero_add] at b0
        go_wp2_with (first
          | (go_at_call 34; (with_reducible refine (foreign_calls d.label np HPN.out lp H10).mono ?_); rintro e w11 ⟨rfl, hw11⟩; rw [hw11])
          | ((go_at_call 31; (with_reducible refine (tell_calls (foreignF np d.label) 10 (k : Int) (-1) H10).mono ?_); rintro e w12 ⟨rfl, H12⟩)))
        have H13 := H12.drop 3
        simp only [List.eraseIdx_cons_succ, List.eraseIdx_cons_zero] at H13
        go_roundw
        case rel =>
          refine ⟨i + 1, _, by go_num, by omega, ⟨HT.out.trans HPA2.out⟩, ?_⟩
          rw [Bool.false_or]
          exact H13
        case measure => first | (simp [intOf]; done) | (simp [intOf]; omega)
    · obtain rfl : i = ls.length := by omega
      have hx3 : locF s k ls ls 0 x2 = z := by rw [HT.out, List.drop_eq_nil_of_le (Nat.le_refl _)]; rfl
      have HX3 := hid hx3
      clear hx3 hlt hi HT
      have H2 := H1.drop 2
      simp only [List.eraseIdx_cons_succ, List.eraseIdx_cons_zero] at H2
      have b0 := H2.cells 1 rfl
      simp only [cellsAre, and_true, Nat.zero_add] at b0
      clear H1 hro
      go_wp2
      clear b0
      go_loopw [110] (fun v wr => ∃ (i : Nat) (y : Flt), v = .int .i64 i ∧ i ≤ g.results.length ∧ Hd (resF np k g.results z = resF np k (g.results.drop i) y) ∧ Mem w0 wr (ckB gc h y :: fnB gH1 hd g :: As)) (fun v _ => g.results.length - (intOf v).toNat)
      case atStart => exact ⟨0, z, rfl, Nat.zero_le _, ⟨rfl⟩, H2⟩
      case round =>
        clear H2
        obtain ⟨i, y, rfl, hi, HT, H1⟩ := hrel
        obtain ⟨w1, rfl⟩ : ∃ wo : World, wo = wr := ⟨_, rfl⟩
        by_cases hlt : i < g.results.length
        · obtain ⟨l, hl1⟩ : ∃ p, g.results[i]? = some p := ⟨_, List.getElem?_eq_getElem hlt⟩
          obtain ⟨rb, ro, hrA, q0⟩ := HRF.out.results.rd.get1 rfl hl1 rfl
          have HRA := hid hrA
          have e0 := H1.old q0
          have HPA := hid (res_at (np := np) (f := k) (x := y) hl1)
          clear hl1 hrA q0
          rw [HRA.out]
          go_wp2_with (first
            | (go_at_call 34; (with_reducible refine (foreign_calls l np HPN.out lp H1).mono ?_); rintro e w11 ⟨rfl, hw11⟩; rw [hw11])
            | ((go_at_call 31; (with_reducible refine (tell_calls (foreignF np l) 10 (k : Int) (-1) H1).mono ?_); rintro e w12 ⟨rfl, H12⟩)))
          go_roundw
          case rel => exact ⟨i + 1, _, by go_num, by omega, ⟨HT.out.trans HPA.out⟩, H12⟩
          case measure => first | (simp [intOf]; done) | (simp [intOf]; omega)
        · obtain rfl : i = g.results.length := by omega
          have hx4 : resF np k g.results z = y := by rw [HT.out, List.drop_eq_nil_of_le (Nat.le_refl _)]; rfl
          have HX4 := hid hx4
          clear hx4 hlt hi HT
          obtain ⟨bs, hbs⟩ := HRF.out.body
          have hbl : bs.length = g.body.length := hbs.len
          have hks : bs.map (·.kind) = g.body.map (·.kind) := hbs.kinds
          have HBS := hid hbs
          obtain ⟨ks, hks2⟩ : ∃ ks, g.body.map (·.kind) = ks := ⟨_, rfl⟩
          rw [hks2] at hks
          have HKS := hid hks
          have HK2 := hid hks2
          have hkl2 : ks.length = g.body.length := by rw [← hks2]; simp
          have HKL := hid hkl2
          obtain ⟨nn, hnn⟩ : ∃ n, nests ks = n := ⟨_, rfl⟩
          obtain ⟨dd, hdd⟩ : ∃ n, deepF ks 0 0 = n := ⟨_, rfl⟩
          obtain ⟨ll, hll2⟩ : ∃ n, lastRet ks = n := ⟨_, rfl⟩
          have hlr : -1 ≤ ll ∧ ll ≤ 2000000 := by
            rw [← hll2]
            unfold lastRet
            have := posB_range (ks.map fun k => k == 9) 0
            rw [List.length_map, hkl2] at this
            omega
          obtain ⟨hlr0, hlr1⟩ := hlr
          have HNN := hid hnn
          have HDD := hid hdd
          have HLL := hid hll2
          have hbl3 : bs.length ≤ 2000000 := by omega
          have CE := hid (fun (w' : World) (hb : Below w0.heap.size w0 w') => by have := ends_calls hd.b.A hd.b.c bs w' (Rd.below HBS.out.hdr.rd hb) hbl3; rw [HKS.out, HNN.out, hbl] at this; exact this)
          have CD := hid (fun (w' : World) (hb : Below w0.heap.size w0 w') => by have := deep_calls hd.b.A hd.b.c bs w' (Rd.below HBS.out.hdr.rd hb) (by omega); rw [HKS.out, HDD.out, hbl] at this; exact this)
          have CI := hid (fun (w' : World) (hb : Below w0.heap.size w0 w') => by have := indexRet_calls hd.b.A hd.b.c bs w' (Rd.below HBS.out.hdr.rd hb) (by omega); rw [hbl] at this; have e : posB (bs.map fun x => x.kind == 9) 0 = ll := (by rw [← HLL.out, ← HKS.out]; unfold lastRet; rw [List.map_map]; rfl); rw [e] at this; exact this)
          clear hbs hbl hks hks2 hkl2 hnn hdd hll2
          have b0 := H1.cells 1 rfl
          simp only [cellsAre, and_true, Nat.zero_add] at b0
          go_upto_region 18 with ((go_at_call 35; (with_reducible refine (CE.out _ H1.below).mono ?_); rintro e w2 ⟨v0, v1, rfl, H2'⟩; have H2 := H1.call H2'; simp only [List.nil_append] at H2; clear b0); (try clear b0); have b0 := H2.cells 1 rfl; simp only [cellsAre, and_true, Nat.zero_add] at b0)
          go_cut [] from 128 to 138 (fun wc => Mem w0 wc (ckB gc h (tellF (nestF ks) 50 k (-1) y) :: fnB gH1 hd g :: As))
          case first =>
            cases nn with
            | true =>
              have hm : nestF ks = decide (12 < dd) := by unfold nestF; rw [HNN.out, HDD.out]; rfl
              have HM := hid hm
              clear hm
              go_wp2_with (first
                | ((go_at_call 36; (with_reducible refine (CD.out _ H2.below).mono ?_); rintro e w3 ⟨rfl, H3'⟩; have H3 := H2.call H3'; simp only [List.nil_append] at H3; clear b0))
                | ((go_at_call 31; (with_reducible refine (tell_calls (decide (12 < dd)) 50 (k : Int) (-1) H3).mono ?_); rintro e w4 ⟨rfl, H4⟩)))
              go_meet
              rw [HM.out]
              exact H4
            | false =>
              have hm : nestF ks = true := by unfold nestF; rw [HNN.out]; rfl
              have HM := hid hm
              clear hm
              go_wp2_with (first
                | ((go_at_call 31; (with_reducible refine (tell_calls true 50 (k : Int) (-1) H2).mono ?_); rintro e w4 ⟨rfl, H4⟩)))
              go_meet
              rw [HM.out]
              exact H4
          case rest =>
          have H3 := hcut
          clear hcut H1 H2 b0
          have b0 := H3.cells 1 rfl
          simp only [cellsAre, and_true, Nat.zero_add] at b0
          by_cases h0 : ll < 0
          · have hm : endF ks = true := by unfold endF; rw [HLL.out, decide_eq_true h0]; rfl
            have HM := hid hm
            clear hm
            go_wp2_with (first
              | ((go_at_call 37; (with_reducible refine (CI.out _ H3.below).mono ?_); rintro e w4 ⟨rfl, H4'⟩; have H4 := H3.call H4'; simp only [List.nil_append] at H4; clear b0); (try clear b0); have b0 := H4.cells 1 rfl; simp only [cellsAre, and_true, Nat.zero_add] at b0)
              | ((go_at_call 31; (with_reducible refine (tell_calls true 50 (k : Int) (-1) H4).mono ?_); rintro e w5 ⟨rfl, H5⟩)))
            go_end0
            rw [HHD.out, HLS.out, HX2.out, HX3.out, HX4.out, HK2.out, HM.out]
            have H6 := H5.drop 1
            simp only [List.eraseIdx_cons_succ, List.eraseIdx_cons_zero] at H6
            exact ⟨rfl, H6⟩
          · have hm : endF ks = (ll != (g.body.length : Int) - 1) := by unfold endF; rw [HLL.out, decide_eq_false h0, HKL.out]; rfl
            have HM := hid hm
            have h0' : decide (ll < 0) = false := decide_eq_false h0
            clear hm h0
            go_wp2_with (first
              | ((go_at_call 37; (with_reducible refine (CI.out _ H3.below).mono ?_); rintro e w4 ⟨rfl, H4'⟩; have H4 := H3.call H4'; simp only [List.nil_append] at H4; clear b0); (try clear b0); have b0 := H4.cells 1 rfl; simp only [cellsAre, and_true, Nat.zero_add] at b0)
              | ((go_at_call 31; (with_reducible refine (tell_calls (ll != (g.body.length : Int) - 1) 50 (k : Int) (-1) H4).mono ?_); rintro e w5 ⟨rfl, H5⟩)))
            go_end0
            rw [HHD.out, HLS.out, HX2.out, HX3.out, HX4.out, HK2.out, HM.out]
            have H6 := H5.drop 1
            simp only [List.eraseIdx_cons_succ, List.eraseIdx_cons_zero] at H6
            exact ⟨rfl, H6⟩
end Go.Proofs.Ytogndpckiognjaa
