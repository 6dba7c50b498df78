/- Names: Find. -/
import Derived.Test.YtogndpckiognjaaNmG
namespace Go.Proofs.Ytogndpckiognjaa
open Go.RowKit
set_option linter.unusedVariables false
set_option linter.unusedSimpArgs false
set_option maxHeartbeats 2000000
def FDecl.locals (g : FDecl) : List Decl := g.params ++ g.vars
/-- What a name stands for in a function. -/
def Src.find (s : Src) (f : Int) (nm : ByteArray) : Int × Int × Bool :=
  match (if 0 ≤ f then s.funcs[f.toNat]? else none) with
  | some g => if 0 ≤ pos (g.locals.map (·.name)) nm then (1, pos (g.locals.map (·.name)) nm, true) else s.glob nm
  | none => s.glob nm
theorem find_some {s : Src} {k : Nat} {nm : ByteArray} {g : FDecl} (h : s.funcs[k]? = some g) : s.find (k : Int) nm = if 0 ≤ pos (g.locals.map (·.name)) nm then (1, pos (g.locals.map (·.name)) nm, true) else s.glob nm := by
  unfold Src.find
  rw [if_pos (by omega), Int.toNat_natCast, h]
theorem find_none {s : Src} {f : Int} {nm : ByteArray} (h : f < 0 ∨ (s.funcs.length : Int) ≤ f) : s.find f nm = s.glob nm := by
  unfold Src.find
  by_cases h0 : 0 ≤ f
  · rw [if_pos h0, List.getElem?_eq_none (by omega)]
  · rw [if_neg h0]
theorem RdFs.at' {w : World} {h : Hdr} {l : List FDecl} {hs : List FuncH} (H : RdFs w h l hs) {k : Nat} {g : FDecl} (hk : l[k]? = some g) :
    ∃ b o hd, h.A = some ⟨b, o, none⟩ ∧ hs[k]? = some hd ∧ RdF w hd g ∧ w.cell? ⟨b, o + k * 6, none⟩ = some (.string g.name) ∧ w.cell? ⟨b, o + k * 6 + 1, none⟩ = some (.int .u64 g.level) ∧ w.cell? ⟨b, o + k * 6 + 2, none⟩ = some (.slice hd.p.A g.params.length hd.p.c) ∧ w.cell? ⟨b, o + k * 6 + 3, none⟩ = some (.slice hd.r.A g.results.length hd.r.c) ∧ w.cell? ⟨b, o + k * 6 + 4, none⟩ = some (.slice hd.v.A g.vars.length hd.v.c) ∧ w.cell? ⟨b, o + k * 6 + 5, none⟩ = some (.slice hd.b.A g.body.length hd.b.c) := by
  obtain ⟨hd, hhd⟩ : ∃ hd, hs[k]? = some hd := ⟨_, List.getElem?_eq_getElem (by rw [H.len]; exact (List.getElem?_eq_some_iff.1 hk).1)⟩
  obtain ⟨b, o, e, p0, p1, p2, p3, p4, p5⟩ := H.hdr.rd.get6 rfl hhd rfl
  have R := H.each k hd g hhd hk
  obtain ⟨bs, hbs⟩ := R.body
  rw [R.name] at p0
  rw [R.level] at p1
  rw [R.params.n] at p2
  rw [R.results.n] at p3
  rw [R.vars.n] at p4
  rw [hbs.hdr.n, hbs.len] at p5
  exact ⟨b, o, hd, e, hhd, R, p0, p1, p2, p3, p4, p5⟩
set_option maxRecDepth 100000 in
theorem find_calls (h : SrcH) (s : Src) (f : Int) (nm : ByteArray) (w : World) (R : RdSrc w h s) (ok : s.Ok) :
    Calls Try.prog 10 #[h.val, .int .i64 f, .string nm] w fun e w' => e = .returned (refV (s.find f nm)) ∧ Mem w w' [] := by
  have hfn : h.f.n = s.funcs.length := by rw [R.funcs.hdr.n, R.funcs.len]
  have lf : s.funcs.length ≤ 2000000 := ok.funcs
  have HR := hid R
  have HO := hid ok
  clear R ok
  have HG := hid (fun (w' : World) (hb : Below w.heap.size w w') => global_calls h s nm w' (RdSrc.below HR.out hb) HO.out)
  have HF := hid hfn
  have hval : h.val = .agg #[.slice h.p.A h.p.n h.p.c, .slice h.g.A h.g.n h.g.c, .slice h.a.A h.a.n h.a.c, .slice h.c.A h.c.n h.c.c, .slice h.f.A s.funcs.length h.f.c] := by
    unfold SrcH.val
    rw [hfn]
  have HV := hid hval
  rw [HV.out]
  obtain ⟨hv, hvd⟩ : ∃ hv, hv = h.val := ⟨_, rfl⟩
  clear hfn hval
  have H0 := Mem.refl w
  obtain ⟨r0, r1, r2, hq⟩ : ∃ r0 r1 r2, s.glob nm = (r0, r1, r2) := ⟨_, _, _, rfl⟩
  have HQ := hid hq
  clear hq
  by_cases c1 : 0 ≤ f
  · by_cases c2 : f < (s.funcs.length : Int)
    · obtain ⟨k, rfl⟩ := Int.eq_ofNat_of_zero_le c1
      have c2' : k < s.funcs.length := by omega
      obtain ⟨g, hg⟩ : ∃ g, s.funcs[k]? = some g := ⟨_, List.getElem?_eq_getElem c2'⟩
      have og := HO.out.func g (List.mem_of_getElem? hg)
      have hfs := @find_some s k nm g hg
      have HFS := hid hfs
      have HOG := hid og
      obtain ⟨fb, fo, hd, eA, -, RF, p0, p1, p2, p3, p4, p5⟩ := HR.out.funcs.at' hg
      rw [eA] at HV ⊢
      have HRF := hid RF
      clear hg hfs og eA RF p0 p1 p3 p5
      obtain ⟨gA, gn, gc, rows, hs2, hrr⟩ : ∃ (gA : Option Addr) (gn gc : Nat) (rows : List (List Decl)) (hs2 : List Hdr), True := ⟨none, 0, 0, [], [], trivial⟩
      go_enter Try.func10, Try.ntmps10
      go_wp2_with (first
        | ((with_reducible refine at_box ?_); refine wpList_box_box H0 ?_; intro u_ gH1 wH1 hu_ H1; simp only [Act.eval, Act.put, List.setIfInBounds_toArray, List.set_cons_zero, List.set_cons_succ, Array.getD_eq_getD_getElem?, List.getElem?_toArray, List.getElem?_cons_zero, List.getElem?_cons_succ, Option.getD_some] at hu_; subst hu_; simp only [splice, vcells_int, vcells_bool, vcells_string, vcells_pointer, vcells_slice, vcells_map, vcells_func, vcells_nilFunc, vcells_iface, vcells_nilIface, vcells_agg, List.take_zero, List.take_succ_cons, List.drop_zero, List.drop_succ_cons, List.length_cons, List.length_nil, List.nil_append, List.cons_append, List.append_nil, Nat.zero_add, List.set_cons_zero, List.set_cons_succ] at H1; (try clear b1); have b1 := H1.cells 0 rfl; simp only [cellsAre, and_true, Nat.zero_add] at b1)
        | ((with_reducible refine at_alloc ?_); refine wpList_alloc_box H1 (.agg #[.int .i64 0, .int .i64 0]) (by kernel_rfl) ?_; intro gH2 wH2 H2; simp only [splice, vcells_int, vcells_bool, vcells_string, vcells_pointer, vcells_slice, vcells_map, vcells_func, vcells_nilFunc, vcells_iface, vcells_nilIface, vcells_agg, List.take_zero, List.take_succ_cons, List.drop_zero, List.drop_succ_cons, List.length_cons, List.length_nil, List.nil_append, List.cons_append, List.append_nil, Nat.zero_add, List.set_cons_zero, List.set_cons_succ] at H2; (try clear b0); have b0 := H2.cells 0 rfl; simp only [cellsAre, and_true, Nat.zero_add] at b0; (try clear b1); have b1 := H2.cells 1 rfl; simp only [cellsAre, and_true, Nat.zero_add] at b1))
      refine wp_region_B (fun _ => false) (fun w' => w'.cell? ⟨gH1, 4, none⟩ = some (.slice (some ⟨fb, fo, none⟩) s.funcs.length h.f.c) ∧ w'.cell? ⟨fb, fo + k * 6 + 2, none⟩ = some (.slice hd.p.A g.params.length hd.p.c) ∧ w'.cell? ⟨fb, fo + k * 6 + 4, none⟩ = some (.slice hd.v.A g.vars.length hd.v.c)) (by kernel_rfl) ?_
      have H3 := H2.drew
      obtain ⟨w3, hw⟩ : ∃ w2, w2 = wH2.drew := ⟨_, rfl⟩
      rw [← hw] at H3 ⊢
      clear hw
      have hS : w3.cell? ⟨gH1, 4, none⟩ = some (.slice (some ⟨fb, fo, none⟩) s.funcs.length h.f.c) ∧ w3.cell? ⟨fb, fo + k * 6 + 2, none⟩ = some (.slice hd.p.A g.params.length hd.p.c) ∧ w3.cell? ⟨fb, fo + k * 6 + 4, none⟩ = some (.slice hd.v.A g.vars.length hd.v.c) := by
        have hC := H3.cells 1 rfl
        simp only [cellsAre, and_true, Nat.zero_add] at hC
        exact ⟨hC.2.2.2.2.1, H3.old p2, H3.old p4⟩
      refine wpAnyB_take' (i := 0) (v := .pointer (some ⟨gH1, 4, none⟩)) rfl (by kernel_rfl) (by kernel_rfl) rfl (by kernel_rfl) (by kernel_rfl) (fun _ _ _ h => h) (by rfl) hS (by intro w' hS'; obtain ⟨k1, k2, k3⟩ := hS'; first | (go_simp; done) | (go_simp; rfl) | (go_simp; omega) | (go_simp; assumption)) ?_
      simp only [Act.put, List.setIfInBounds_toArray, List.set_cons_zero, List.set_cons_succ]
      refine wpAnyB_take' (i := 1) (v := .slice (some ⟨fb, fo, none⟩) s.funcs.length h.f.c) rfl (by kernel_rfl) (by kernel_rfl) rfl (by kernel_rfl) (by kernel_rfl) (fun _ _ _ h => h) (by rfl) hS (by intro w' hS'; obtain ⟨k1, k2, k3⟩ := hS'; first | (go_simp; done) | (go_simp; rfl) | (go_simp; omega) | (go_simp; assumption)) ?_
      simp only [Act.put, List.setIfInBounds_toArray, List.set_cons_zero, List.set_cons_succ]
      refine wpAnyB_take' (i := 2) (v := I (k : Int)) rfl (by kernel_rfl) (by kernel_rfl) rfl (by kernel_rfl) (by kernel_rfl) (fun _ _ _ h => h) (by rfl) hS (by intro w' hS'; obtain ⟨k1, k2, k3⟩ := hS'; first | (go_simp; done) | (go_simp; rfl) | (go_simp; omega) | (go_simp; assumption)) ?_
      simp only [Act.put, List.setIfInBounds_toArray, List.set_cons_zero, List.set_cons_succ]
      refine wpAnyB_take' (i := 3) (v := .pointer (some ⟨fb, fo + k * 6, none⟩)) rfl (by kernel_rfl) (by kernel_rfl) rfl (by kernel_rfl) (by kernel_rfl) (fun _ _ _ h => h) (by rfl) hS (by intro w' hS'; obtain ⟨k1, k2, k3⟩ := hS'; first | (go_simp; done) | (go_simp; rfl) | (go_simp; omega) | (go_simp; assumption)) ?_
      simp only [Act.put, List.setIfInBounds_toArray, List.set_cons_zero, List.set_cons_succ]
      refine wpAnyB_take' (i := 4) (v := .pointer (some ⟨fb, fo + k * 6 + 2, none⟩)) rfl (by kernel_rfl) (by kernel_rfl) rfl (by kernel_rfl) (by kernel_rfl) (fun _ _ _ h => h) (by rfl) hS (by intro w' hS'; obtain ⟨k1, k2, k3⟩ := hS'; first | (go_simp; done) | (go_simp; rfl) | (go_simp; omega) | (go_simp; assumption)) ?_
      simp only [Act.put, List.setIfInBounds_toArray, List.set_cons_zero, List.set_cons_succ]
      refine wpAnyB_take' (i := 5) (v := .slice hd.p.A g.params.length hd.p.c) rfl (by kernel_rfl) (by kernel_rfl) rfl (by kernel_rfl) (by kernel_rfl) (fun _ _ _ h => h) (by rfl) hS (by intro w' hS'; obtain ⟨k1, k2, k3⟩ := hS'; first | (go_simp; done) | (go_simp; rfl) | (go_simp; omega) | (go_simp; assumption)) ?_
      simp only [Act.put, List.setIfInBounds_toArray, List.set_cons_zero, List.set_cons_succ]
      refine wpAnyB_take' (i := 6) (v := .pointer (some ⟨gH1, 4, none⟩)) rfl (by kernel_rfl) (by kernel_rfl) rfl (by kernel_rfl) (by kernel_rfl) (fun _ _ _ h => h) (by rfl) hS (by intro w' hS'; obtain ⟨k1, k2, k3⟩ := hS'; first | (go_simp; done) | (go_simp; rfl) | (go_simp; omega) | (go_simp; assumption)) ?_
      simp only [Act.put, List.setIfInBounds_toArray, List.set_cons_zero, List.set_cons_succ]
      refine wpAnyB_take' (i := 7) (v := .slice (some ⟨fb, fo, none⟩) s.funcs.length h.f.c) rfl (by kernel_rfl) (by kernel_rfl) rfl (by kernel_rfl) (by kernel_rfl) (fun _ _ _ h => h) (by rfl) hS (by intro w' hS'; obtain ⟨k1, k2, k3⟩ := hS'; first | (go_simp; done) | (go_simp; rfl) | (go_simp; omega) | (go_simp; assumption)) ?_
      simp only [Act.put, List.setIfInBounds_toArray, List.set_cons_zero, List.set_cons_succ]
      refine wpAnyB_take' (i := 8) (v := I (k : Int)) rfl (by kernel_rfl) (by kernel_rfl) rfl (by kernel_rfl) (by kernel_rfl) (fun _ _ _ h => h) (by rfl) hS (by intro w' hS'; obtain ⟨k1, k2, k3⟩ := hS'; first | (go_simp; done) | (go_simp; rfl) | (go_simp; omega) | (go_simp; assumption)) ?_
      simp only [Act.put, List.setIfInBounds_toArray, List.set_cons_zero, List.set_cons_succ]
      refine wpAnyB_take' (i := 9) (v := .pointer (some ⟨fb, fo + k * 6, none⟩)) rfl (by kernel_rfl) (by kernel_rfl) rfl (by kernel_rfl) (by kernel_rfl) (fun _ _ _ h => h) (by rfl) hS (by intro w' hS'; obtain ⟨k1, k2, k3⟩ := hS'; first | (go_simp; done) | (go_simp; rfl) | (go_simp; omega) | (go_simp; assumption)) ?_
      simp only [Act.put, List.setIfInBounds_toArray, List.set_cons_zero, List.set_cons_succ]
      refine wpAnyB_take' (i := 10) (v := .pointer (some ⟨fb, fo + k * 6 + 4, none⟩)) rfl (by kernel_rfl) (by kernel_rfl) rfl (by kernel_rfl) (by kernel_rfl) (fun _ _ _ h => h) (by rfl) hS (by intro w' hS'; obtain ⟨k1, k2, k3⟩ := hS'; first | (go_simp; done) | (go_simp; rfl) | (go_simp; omega) | (go_simp; assumption)) ?_
      simp only [Act.put, List.setIfInBounds_toArray, List.set_cons_zero, List.set_cons_succ]
      refine wpAnyB_take' (i := 11) (v := .slice hd.v.A g.vars.length hd.v.c) rfl (by kernel_rfl) (by kernel_rfl) rfl (by kernel_rfl) (by kernel_rfl) (fun _ _ _ h => h) (by rfl) hS (by intro w' hS'; obtain ⟨k1, k2, k3⟩ := hS'; first | (go_simp; done) | (go_simp; rfl) | (go_simp; omega) | (go_simp; assumption)) ?_
      simp only [Act.put, List.setIfInBounds_toArray, List.set_cons_zero, List.set_cons_succ]
      refine wpAnyB_do (i := 12) (v := .slice (some ⟨w3.heap.size, 0, none⟩) 2 2) (w1 := w3.alloc (.cells #[.slice hd.p.A g.params.length hd.p.c, .slice hd.v.A g.vars.length hd.v.c] 23)) rfl (by kernel_rfl) (by rfl) (by first | rfl | (go_simp; done) | (go_simp; rfl)) ?_
      have H4 := H3.alloc 23 #[.slice hd.p.A g.params.length hd.p.c, .slice hd.v.A g.vars.length hd.v.c]
      have H5 := H4.row_of_box (sz := 1) (n := 2) 0 rfl rfl (by decide) (by intro u hu; simp at hu; rcases hu with rfl | rfl <;> rfl)
      simp only [List.set_cons_zero] at H5
      obtain ⟨w5, hw5⟩ : ∃ x, x = w3.alloc (.cells #[.slice hd.p.A g.params.length hd.p.c, .slice hd.v.A g.vars.length hd.v.c] 23) := ⟨_, rfl⟩
      obtain ⟨g5, hg5⟩ : ∃ x, x = w3.heap.size := ⟨_, rfl⟩
      rw [← hw5, ← hg5] at H5 ⊢
      clear hw5 hg5 H4 hS
      have hS : w5.cell? ⟨gH1, 4, none⟩ = some (.slice (some ⟨fb, fo, none⟩) s.funcs.length h.f.c) ∧ w5.cell? ⟨fb, fo + k * 6 + 2, none⟩ = some (.slice hd.p.A g.params.length hd.p.c) ∧ w5.cell? ⟨fb, fo + k * 6 + 4, none⟩ = some (.slice hd.v.A g.vars.length hd.v.c) := by
        have hC := H5.cells 2 rfl
        simp only [cellsAre, and_true, Nat.zero_add] at hC
        exact ⟨hC.2.2.2.2.1, H5.old p2, H5.old p4⟩
      refine ⟨fun _ => hS, ?_⟩
      simp only [Act.put, List.setIfInBounds_toArray, List.set_cons_zero, List.set_cons_succ]
      have RW : RdHs Enc.decl w5 ⟨some ⟨g5, 0, none⟩, 2, 2⟩ [g.params, g.vars] [⟨hd.p.A, g.params.length, hd.p.c⟩, ⟨hd.v.A, g.vars.length, hd.v.c⟩] := by
        refine ⟨rfl, ⟨rfl, Nat.le_refl _, (H5.rd 0 rfl (by decide)).1⟩, fun i x r h1 h2 => ?_⟩
        have hRF := HRF.out.below H5.below
        match i, h1, h2 with
        | 0, h1, h2 => obtain rfl := Option.some.inj h1; obtain rfl := Option.some.inj h2; exact ⟨rfl, hRF.params.c, hRF.params.rd⟩
        | 1, h1, h2 => obtain rfl := Option.some.inj h1; obtain rfl := Option.some.inj h2; exact ⟨rfl, hRF.vars.c, hRF.vars.rd⟩
        | i + 2, h1, h2 => simp at h1
      refine wpAnyB_call (i := 13) rfl (by kernel_rfl) (by rfl) (by first | rfl | (go_simp; done) | (go_simp; rfl)) (concat_calls _ 2 2 [g.params, g.vars] _ w5 RW (by simp) (by intro r hr; simp at hr; rcases hr with rfl | rfl; exact HOG.out.params; exact HOG.out.vars)) ?_
      rintro e w6 ⟨A6, c6, rfl, H6'⟩
      have H6 := H5.call H6'
      simp only [List.nil_append, List.cons_append] at H6
      clear hS H6'
      have hS : w6.cell? ⟨gH1, 4, none⟩ = some (.slice (some ⟨fb, fo, none⟩) s.funcs.length h.f.c) ∧ w6.cell? ⟨fb, fo + k * 6 + 2, none⟩ = some (.slice hd.p.A g.params.length hd.p.c) ∧ w6.cell? ⟨fb, fo + k * 6 + 4, none⟩ = some (.slice hd.v.A g.vars.length hd.v.c) := by
        have hC := H6.cells 3 rfl
        simp only [cellsAre, and_true, Nat.zero_add] at hC
        exact ⟨hC.2.2.2.2.1, H6.old p2, H6.old p4⟩
      refine ⟨_, rfl, fun _ => hS, ?_⟩
      simp only [Act.put, List.setIfInBounds_toArray, List.set_cons_zero, List.set_cons_succ]
      refine wpAnyB_take' (i := 14) (v := .slice A6 (List.flatten [g.params, g.vars]).length c6) rfl (by kernel_rfl) (by kernel_rfl) rfl (by kernel_rfl) (by kernel_rfl) (fun _ _ _ h => h) (by rfl) hS (by intro w' hS'; obtain ⟨k1, k2, k3⟩ := hS'; first | (go_simp; done) | (go_simp; rfl) | (go_simp; omega) | (go_simp; assumption)) ?_
      simp only [Act.put, List.setIfInBounds_toArray, List.set_cons_zero, List.set_cons_succ]
      refine wpAnyB_done (by kernel_rfl) ?_ _
      have hfl : List.flatten [g.params, g.vars] = g.locals := by simp [FDecl.locals]
      rw [hfl] at H6 ⊢
      have hll : g.locals.length ≤ 5000000 := by
        have h1 := HOG.out.params
        have h2 := HOG.out.vars
        simp only [FDecl.locals, List.length_append]
        omega
      have HFL := hid hfl
      have HLL := hid hll
      have RL := hid (H6.own_rd 0 rfl (by decide)).1
      have b0 := H6.cells 2 rfl
      simp only [cellsAre, and_true, Nat.zero_add] at b0
      have b1' := H6.cells 3 rfl
      simp only [cellsAre, and_true, Nat.zero_add] at b1'
      clear hfl hll hS H0 H1 H2 H3 H5 p2 p4
      obtain ⟨q, hqq⟩ : ∃ q, pos (g.locals.map (·.name)) nm = q := ⟨_, rfl⟩
      have HP := hid hqq
      clear hqq
      by_cases c3 : 0 ≤ q
      · have hv : s.find (k : Int) nm = (1, q, true) := by rw [HFS.out, HP.out, if_pos c3]
        have HV2 := hid hv
        clear hv
        go_wp2_with (first
          | ((go_at_call 26; (with_reducible refine (atDecl_calls A6 c6 g.locals nm _ RL.out HLL.out).mono ?_); rintro e w7 ⟨rfl, H7'⟩; rw [HP.out]; have H7 := H6.call H7'; simp only [List.nil_append] at H7; clear b0 b1'); (try clear b0); have b0 := H7.cells 2 rfl; simp only [cellsAre, and_true, Nat.zero_add] at b0)
          | ((with_reducible refine at_store ?_); refine wpList_store_box H7 2 2 rfl rfl (by kernel_rfl) rfl (Nat.le_of_ble_eq_true rfl) rfl ?_; intro u_ wH8 hu_ H8; simp only [Act.eval, Act.put, List.setIfInBounds_toArray, List.set_cons_zero, List.set_cons_succ, Array.getD_eq_getD_getElem?, List.getElem?_toArray, List.getElem?_cons_zero, List.getElem?_cons_succ, Option.getD_some] at hu_; subst hu_; simp only [splice, vcells_int, vcells_bool, vcells_string, vcells_pointer, vcells_slice, vcells_map, vcells_func, vcells_nilFunc, vcells_iface, vcells_nilIface, vcells_agg, List.take_zero, List.take_succ_cons, List.drop_zero, List.drop_succ_cons, List.length_cons, List.length_nil, List.nil_append, List.cons_append, List.append_nil, Nat.zero_add, List.set_cons_zero, List.set_cons_succ] at H8; (try clear b0); have b0 := H8.cells 2 rfl; simp only [cellsAre, and_true, Nat.zero_add] at b0))
        rw [HV2.out]
        refine bodyPost_ret (v := refV (1, q, true)) (by simp [results, Try.results10, go_sem, b0]) rfl ?_
        exact ⟨rfl, H8.none⟩
      · have c3' : q < 0 := by omega
        have hv : s.find (k : Int) nm = s.glob nm := by rw [HFS.out, HP.out, if_neg c3]
        have HV2 := hid hv
        clear hv c3
        go_wp2_with (first
          | ((go_at_call 26; (with_reducible refine (atDecl_calls A6 c6 g.locals nm _ RL.out HLL.out).mono ?_); rintro e w7 ⟨rfl, H7'⟩; rw [HP.out]; have H7 := H6.call H7'; simp only [List.nil_append] at H7; clear b0 b1'); (try clear b0); have b0 := H7.cells 2 rfl; simp only [cellsAre, and_true, Nat.zero_add] at b0; (try clear b1'); have b1' := H7.cells 3 rfl; simp only [cellsAre, and_true, Nat.zero_add] at b1')
          | ((go_at_call 28; with_reducible (rw [← HV.out]; refine (HG.out _ H7.below).mono ?_); rintro e w8 ⟨rfl, H8'⟩; rw [HQ.out]; have H8 := H7.call H8'; simp only [List.nil_append] at H8; clear b0 b1'); (try clear b0); have b0 := H8.cells 2 rfl; simp only [cellsAre, and_true, Nat.zero_add] at b0)
          | ((with_reducible refine at_store ?_); refine wpList_store_box H8 2 2 rfl rfl (by kernel_rfl) rfl (Nat.le_of_ble_eq_true rfl) rfl ?_; intro u_ wH9 hu_ H9; simp only [Act.eval, Act.put, List.setIfInBounds_toArray, List.set_cons_zero, List.set_cons_succ, Array.getD_eq_getD_getElem?, List.getElem?_toArray, List.getElem?_cons_zero, List.getElem?_cons_succ, Option.getD_some] at hu_; subst hu_; simp only [splice, vcells_int, vcells_bool, vcells_string, vcells_pointer, vcells_slice, vcells_map, vcells_func, vcells_nilFunc, vcells_iface, vcells_nilIface, vcells_agg, List.take_zero, List.take_succ_cons, List.drop_zero, List.drop_succ_cons, List.length_cons, List.length_nil, List.nil_append, List.cons_append, List.append_nil, Nat.zero_add, List.set_cons_zero, List.set_cons_succ] at H9; (try clear b0); have b0 := H9.cells 2 rfl; simp only [cellsAre, and_true, Nat.zero_add] at b0))
        rw [HV2.out, HQ.out]
        refine bodyPost_ret (v := refV (r0, r1, r2)) (by simp [results, Try.results10, go_sem, b0]) rfl ?_
        exact ⟨rfl, H9.none⟩
    · have c2b : (s.funcs.length : Int) ≤ f := by omega
      have hv : s.find f nm = s.glob nm := find_none (by omega)
      have HV2 := hid hv
      clear hv
      go_enter Try.func10, Try.ntmps10
      go_wp2_with (first
        | ((with_reducible refine at_box ?_); refine wpList_box_box H0 ?_; intro u_ gH1 wH1 hu_ H1; simp only [Act.eval, Act.put, List.setIfInBounds_toArray, List.set_cons_zero, List.set_cons_succ, Array.getD_eq_getD_getElem?, List.getElem?_toArray, List.getElem?_cons_zero, List.getElem?_cons_succ, Option.getD_some] at hu_; subst hu_; simp only [splice, vcells_int, vcells_bool, vcells_string, vcells_pointer, vcells_slice, vcells_map, vcells_func, vcells_nilFunc, vcells_iface, vcells_nilIface, vcells_agg, List.take_zero, List.take_succ_cons, List.drop_zero, List.drop_succ_cons, List.length_cons, List.length_nil, List.nil_append, List.cons_append, List.append_nil, Nat.zero_add, List.set_cons_zero, List.set_cons_succ] at H1; (try clear b1); have b1 := H1.cells 0 rfl; simp only [cellsAre, and_true, Nat.zero_add] at b1)
        | ((with_reducible refine at_alloc ?_); refine wpList_alloc_box H1 (.agg #[.int .i64 0, .int .i64 0]) (by kernel_rfl) ?_; intro gH2 wH2 H2; simp only [splice, vcells_int, vcells_bool, vcells_string, vcells_pointer, vcells_slice, vcells_map, vcells_func, vcells_nilFunc, vcells_iface, vcells_nilIface, vcells_agg, List.take_zero, List.take_succ_cons, List.drop_zero, List.drop_succ_cons, List.length_cons, List.length_nil, List.nil_append, List.cons_append, List.append_nil, Nat.zero_add, List.set_cons_zero, List.set_cons_succ] at H2; (try clear b0); have b0 := H2.cells 0 rfl; simp only [cellsAre, and_true, Nat.zero_add] at b0; (try clear b1); have b1 := H2.cells 1 rfl; simp only [cellsAre, and_true, Nat.zero_add] at b1)
        | ((go_at_call 28; with_reducible (rw [← HV.out]; refine (HG.out _ H2.below).mono ?_); rintro e w8 ⟨rfl, H8'⟩; rw [HQ.out]; have H8 := H2.call H8'; simp only [List.nil_append] at H8; clear b0 b1); (try clear b0); have b0 := H8.cells 0 rfl; simp only [cellsAre, and_true, Nat.zero_add] at b0)
        | ((with_reducible refine at_store ?_); refine wpList_store_box H8 0 2 rfl rfl (by kernel_rfl) rfl (Nat.le_of_ble_eq_true rfl) rfl ?_; intro u_ wH9 hu_ H9; simp only [Act.eval, Act.put, List.setIfInBounds_toArray, List.set_cons_zero, List.set_cons_succ, Array.getD_eq_getD_getElem?, List.getElem?_toArray, List.getElem?_cons_zero, List.getElem?_cons_succ, Option.getD_some] at hu_; subst hu_; simp only [splice, vcells_int, vcells_bool, vcells_string, vcells_pointer, vcells_slice, vcells_map, vcells_func, vcells_nilFunc, vcells_iface, vcells_nilIface, vcells_agg, List.take_zero, List.take_succ_cons, List.drop_zero, List.drop_succ_cons, List.length_cons, List.length_nil, List.nil_append, List.cons_append, List.append_nil, Nat.zero_add, List.set_cons_zero, List.set_cons_succ] at H9; (try clear b0); have b0 := H9.cells 0 rfl; simp only [cellsAre, and_true, Nat.zero_add] at b0))
      rw [HV2.out, HQ.out]
      refine bodyPost_ret (v := refV (r0, r1, r2)) (by simp [results, Try.results10, go_sem, b0]) rfl ?_
      exact ⟨rfl, H9.none⟩
  · have c1b : f < 0 := by omega
    have hv : s.find f nm = s.glob nm := find_none (by omega)
    have HV2 := hid hv
    clear hv
    go_enter Try.func10, Try.ntmps10
    go_wp2_with (first
      | ((with_reducible refine at_box ?_); refine wpList_box_box H0 ?_; intro u_ gH1 wH1 hu_ H1; simp only [Act.eval, Act.put, List.setIfInBounds_toArray, List.set_cons_zero, List.set_cons_succ, Array.getD_eq_getD_getElem?, List.getElem?_toArray, List.getElem?_cons_zero, List.getElem?_cons_succ, Option.getD_some] at hu_; subst hu_; simp only [splice, vcells_int, vcells_bool, vcells_string, vcells_pointer, vcells_slice, vcells_map, vcells_func, vcells_nilFunc, vcells_iface, vcells_nilIface, vcells_agg, List.take_zero, List.take_succ_cons, List.drop_zero, List.drop_succ_cons, List.length_cons, List.length_nil, List.nil_append, List.cons_append, List.append_nil, Nat.zero_add, List.set_cons_zero, List.set_cons_succ] at H1; (try clear b1); have b1 := H1.cells 0 rfl; simp only [cellsAre, and_true, Nat.zero_add] at b1)
      | ((with_reducible refine at_alloc ?_); refine wpList_alloc_box H1 (.agg #[.int .i64 0, .int .i64 0]) (by kernel_rfl) ?_; intro gH2 wH2 H2; simp only [splice, vcells_int, vcells_bool, vcells_string, vcells_pointer, vcells_slice, vcells_map, vcells_func, vcells_nilFunc, vcells_iface, vcells_nilIface, vcells_agg, List.take_zero, List.take_succ_cons, List.drop_zero, List.drop_succ_cons, List.length_cons, List.length_nil, List.nil_append, List.cons_append, List.append_nil, Nat.zero_add, List.set_cons_zero, List.set_cons_succ] at H2; (try clear b0); have b0 := H2.cells 0 rfl; simp only [cellsAre, and_true, Nat.zero_add] at b0; (try clear b1); have b1 := H2.cells 1 rfl; simp only [cellsAre, and_true, Nat.zero_add] at b1)
      | ((go_at_call 28; with_reducible (rw [← HV.out]; refine (HG.out _ H2.below).mono ?_); rintro e w8 ⟨rfl, H8'⟩; rw [HQ.out]; have H8 := H2.call H8'; simp only [List.nil_append] at H8; clear b0 b1); (try clear b0); have b0 := H8.cells 0 rfl; simp only [cellsAre, and_true, Nat.zero_add] at b0)
      | ((with_reducible refine at_store ?_); refine wpList_store_box H8 0 2 rfl rfl (by kernel_rfl) rfl (Nat.le_of_ble_eq_true rfl) rfl ?_; intro u_ wH9 hu_ H9; simp only [Act.eval, Act.put, List.setIfInBounds_toArray, List.set_cons_zero, List.set_cons_succ, Array.getD_eq_getD_getElem?, List.getElem?_toArray, List.getElem?_cons_zero, List.getElem?_cons_succ, Option.getD_some] at hu_; subst hu_; simp only [splice, vcells_int, vcells_bool, vcells_string, vcells_pointer, vcells_slice, vcells_map, vcells_func, vcells_nilFunc, vcells_iface, vcells_nilIface, vcells_agg, List.take_zero, List.take_succ_cons, List.drop_zero, List.drop_succ_cons, List.length_cons, List.length_nil, List.nil_append, List.cons_append, List.append_nil, Nat.zero_add, List.set_cons_zero, List.set_cons_succ] at H9; (try clear b0); have b0 := H9.cells 0 rfl; simp only [cellsAre, and_true, Nat.zero_add] at b0))
    rw [HV2.out, HQ.out]
    refine bodyPost_ret (v := refV (r0, r1, r2)) (by simp [results, Try.results10, go_sem, b0]) rfl ?_
    exact ⟨rfl, H9.none⟩
end Go.Proofs.Ytogndpckiognjaa
