/- Names: the checker: a statement. -/
import Derived.Test.YtogndpckiognjaaNmFt
namespace Go.Proofs.Ytogndpckiognjaa
open Go.RowKit
set_option linter.unusedVariables false
set_option linter.unusedSimpArgs false
set_option maxHeartbeats 2000000
theorem foldl_at {α β : Type} {l : List α} {k : Nat} {a : α} (f : β → α → β) (z : β) (h : l[k]? = some a) : (l.drop k).foldl f z = (l.drop (k + 1)).foldl f (f z a) := by
  obtain ⟨hk, rfl⟩ := List.getElem?_eq_some_iff.1 h
  rw [List.drop_eq_getElem_cons hk, List.foldl_cons]
theorem RdB.at' {w : World} {h : Hdr} {l : List Stmt} {hs : List StmtH} (H : RdB w h l hs) {k : Nat} {s : Stmt} (hk : l[k]? = some s) :
    ∃ b o hd, h.A = some ⟨b, o, none⟩ ∧ hs[k]? = some hd ∧ RdS w hd s ∧ w.cell? ⟨b, o + k * 4, none⟩ = some (.int .i64 s.kind) ∧ w.cell? ⟨b, o + k * 4 + 1, none⟩ = some (.string s.name) ∧ w.cell? ⟨b, o + k * 4 + 2, none⟩ = some (.slice hd.t.A s.targets.length hd.t.c) ∧ w.cell? ⟨b, o + k * 4 + 3, none⟩ = some (.slice hd.e.A s.exprs.length hd.e.c) := by
  obtain ⟨hd, hhd⟩ : ∃ hd, hs[k]? = some hd := ⟨_, List.getElem?_eq_getElem (by rw [H.len]; exact (List.getElem?_eq_some_iff.1 hk).1)⟩
  obtain ⟨b, o, e, p0, p1, p2, p3⟩ := H.hdr.rd.get4 rfl hhd rfl
  have R := H.each k hd s hhd hk
  obtain ⟨es, hes⟩ := R.exprs
  rw [R.kind] at p0
  rw [R.name] at p1
  rw [R.targets.n] at p2
  rw [hes.hdr.n, hes.len] at p3
  exact ⟨b, o, hd, e, hhd, R, p0, p1, p2, p3⟩
theorem RdHs.at' {α : Type} {E : Enc α} {w : World} {h : Hdr} {rows : List (List α)} {hs : List Hdr} (H : RdHs E w h rows hs) {k : Nat} {r : List α} (hk : rows[k]? = some r) :
    ∃ b o hd, h.A = some ⟨b, o, none⟩ ∧ hs[k]? = some hd ∧ RdH E w hd r ∧ w.cell? ⟨b, o + k, none⟩ = some (.slice hd.A r.length hd.c) := by
  obtain ⟨hd, hhd⟩ : ∃ hd, hs[k]? = some hd := ⟨_, List.getElem?_eq_getElem (by rw [H.len]; exact (List.getElem?_eq_some_iff.1 hk).1)⟩
  obtain ⟨b, o, e, p0⟩ := H.hdr.rd.get1 rfl hhd rfl
  have R := H.each k hd r hhd hk
  rw [R.n] at p0
  exact ⟨b, o, hd, e, hhd, R, p0⟩
/-- The uses of a part of an expression. -/
def termF (s : Src) (f a : Int) (x : Flt) (t : Term) : Flt := if t.kind = 2 then useF s f a t.name [1, 2] x else if t.kind = 3 then useF s f a t.name [3] x else x
def kindUse (s : Src) (f a : Int) (st : Stmt) (x : Flt) : Flt := if st.kind = 2 then useF s f a st.name [3] x else if st.kind = 3 then useF s f a st.name [4] x else if st.kind = 4 then useF s f a st.name [5] x else x
def exprF (s : Src) (f a : Int) (x : Flt) (e : List Term) : Flt := e.foldl (termF s f a) x
def usesF (s : Src) (f a : Int) (st : Stmt) (x : Flt) : Flt := st.exprs.foldl (exprF s f a) (kindUse s f a st (st.targets.foldl (fun x nm => useF s f a nm [1, 2] x) x))
def retF (f a : Int) (g : FDecl) (st : Stmt) (x : Flt) : Flt := if st.kind = 9 then tellF ((st.exprs.length : Int) != (g.results.length : Int)) 73 f a x else x
/-- Does a call fit what it calls? -/
def callBad (st : Stmt) (c : FDecl) : Bool := decide (st.exprs.length ≠ c.params.length ∨ (0 < st.targets.length ∧ st.targets.length ≠ c.results.length))
def callF (s : Src) (f a : Int) (st : Stmt) (x : Flt) : Flt :=
  if st.kind = 4 ∧ (s.find f st.name).1 = 5 then
    match s.funcs[(s.find f st.name).2.1.toNat]? with
    | some c => tellF (callBad st c) 73 f a x
    | none => x
  else x
def longF (st : Stmt) : Bool := st.exprs.any (fun e => decide (48 < (e.length : Int))) || decide (8 < (st.exprs.length : Int))
/-- A statement. -/
def stmtF (s : Src) (f a : Int) (g : FDecl) (st : Stmt) (x : Flt) : Flt :=
  callF s f a st (retF f a g st (usesF s f a st (tellF (longF st) 74 f a (tellF (!st.fits) 50 f a x))))
theorem glob_fun {s : Src} {nm : ByteArray} (h : (s.glob nm).1 = 5) : ∃ q : Nat, (s.glob nm).2.1 = q ∧ q < s.funcs.length := by
  unfold Src.glob at h ⊢
  split at h
  · simp at h
  · split at h
    · simp at h
    · split at h
      · simp at h
      · split at h
        · rename_i h1 h2 h3 h4
          rw [if_neg h1, if_neg h2, if_neg h3, if_pos h4]
          simp only
          obtain ⟨q, hq⟩ := Int.eq_ofNat_of_zero_le h4
          refine ⟨q, hq, ?_⟩
          have hr : ∀ (l : List ByteArray) (x : ByteArray) (n : Nat), posL l x n = -1 ∨ posL l x n < n + l.length := by
            intro l
            induction l with
            | nil => intro x n; exact .inl rfl
            | cons y ys ih =>
              intro x n
              unfold posL
              split
              · right; simp; omega
              · rcases ih x (n + 1) with h | h
                · exact .inl h
                · right; simp only [List.length_cons]; push_cast at h ⊢; omega
          have := hr (s.funcs.map (·.name)) nm 0
          unfold pos at hq h4
          rw [hq] at this
          simp at this
          omega
        · simp at h
theorem find_fun {s : Src} {f : Int} {nm : ByteArray} (h : (s.find f nm).1 = 5) : ∃ q : Nat, (s.find f nm).2.1 = q ∧ q < s.funcs.length := by
  unfold Src.find at h ⊢
  cases hg : (if 0 ≤ f then s.funcs[f.toNat]? else none) with
  | none => rw [hg] at h; exact glob_fun h
  | some g =>
    rw [hg] at h
    simp only at h ⊢
    split at h
    · simp at h
    · rename_i h1
      rw [if_neg h1]
      exact glob_fun h
theorem any_len {w : World} {h : Hdr} {rows : List (List Term)} {hs : List Hdr} (H : RdHs Enc.term w h rows hs) : (hs.any fun x => decide (48 < (x.n : Int))) = rows.any fun e => decide (48 < (e.length : Int)) := by
  have : hs.map (·.n) = rows.map (·.length) := by
    apply List.ext_getElem?
    intro i
    rw [List.getElem?_map, List.getElem?_map]
    cases h1 : hs[i]? with
    | none =>
      have : rows[i]? = none := by rw [List.getElem?_eq_none_iff] at h1 ⊢; rw [← H.len]; exact h1
      rw [this]
      rfl
    | some a =>
      obtain ⟨b, hb⟩ : ∃ b, rows[i]? = some b := ⟨_, List.getElem?_eq_getElem (by rw [← H.len]; exact (List.getElem?_eq_some_iff.1 h1).1)⟩
      rw [hb]
      simp only [Option.map_some]
      rw [(H.each i a b h1 hb).n]
  have h1 : (hs.any fun x => decide (48 < (x.n : Int))) = (hs.map (·.n)).any fun (n : Nat) => decide (48 < (n : Int)) := by rw [List.any_map]; rfl
  have h2 : (rows.any fun e => decide (48 < (e.length : Int))) = (rows.map (·.length)).any fun (n : Nat) => decide (48 < (n : Int)) := by rw [List.any_map]; rfl
  rw [h1, h2, this]
set_option maxRecDepth 100000 in
theorem stmt_calls {w0 w : World} {As : List HP} {gc : Nat} {h : SrcH} {s : Src} {x : Flt} (R : RdSrc w0 h s) (ok : s.Ok) (k : Nat) (g : FDecl) (hg : s.funcs[k]? = some g) (a : Nat) (st : Stmt) (hst : g.body[a]? = some st) (H : Mem w0 w (ckB gc h x :: As)) :
    Calls Try.prog 20 #[pt gc, .int .i64 k, .int .i64 a] w fun e w' => e = .returned (.tuple #[]) ∧ Mem w0 w' (ckB gc h (stmtF s k a g st x) :: As) := by
  have hkl : k < s.funcs.length := (List.getElem?_eq_some_iff.1 hg).1
  have hal : a < g.body.length := (List.getElem?_eq_some_iff.1 hst).1
  have HR := hid R
  have HO := hid ok
  have og := ok.func g (List.mem_of_getElem? hg)
  have ost := og.stmt st (List.mem_of_getElem? hst)
  have HOS := hid ost
  have hb2 := og.results
  have hb4 := og.body
  have hb5 := ost.targets
  have hb6 := ost.exprs
  have lf := ok.funcs
  have hfn : h.f.n = s.funcs.length := by rw [R.funcs.hdr.n, R.funcs.len]
  have HFN := hid hfn
  obtain ⟨fb, fo, hd, hA, -, RF, p0, p1, p2, p3, p4, p5⟩ := R.funcs.at' hg
  have HA := hid hA
  obtain ⟨bs, hbs⟩ := RF.body
  obtain ⟨bb, bo, sh, hbA, -, RS, q0, q1, q2, q3⟩ := hbs.at' hst
  have HRS := hid RS
  obtain ⟨es, hes⟩ := RS.exprs
  have hesl : es.length = st.exprs.length := hes.len
  obtain ⟨lg, hlg⟩ : ∃ lg, st.exprs.any (fun e => decide (48 < (e.length : Int))) = lg := ⟨_, rfl⟩
  have HLG := hid hlg
  have CL := hid (fun (w' : World) (hb : Below w0.heap.size w0 w') => by have := containsLong_calls sh.e.A sh.e.c es w' (Rd.below hes.hdr.rd hb) (by omega); rw [any_len hes, hlg, hesl] at this; exact this)
  have HES := hid hes
  clear hes hesl hlg
  have USE := hid (fun (w' : World) (As' : List HP) (y : Flt) (nm : ByteArray) (A : Option Addr) (c n : Nat) (ks : List Int) (hn : ks.length = n) (hl : ks.length ≤ 100) (H' : Mem w0 w' (ckB gc h y :: own Enc.i64 3 A c ks :: As')) => by have := use_calls R ok (k : Int) (a : Int) nm A c ks hl H'; rw [hn] at this; exact this)
  have k4 := H.ck.2.2.2.2
  rw [hfn, hA] at k4
  rw [hbA] at p5
  have e3 := H.old p3
  have e5 := H.old p5
  have d0 := H.old q0
  have d1 := H.old q1
  have d2 := H.old q2
  have d3 := H.old q3
  have P3 := hid p3
  obtain ⟨R9, hR9⟩ : ∃ R9, stmtF s k a g st x = R9 := ⟨_, rfl⟩
  have HR9 := hid hR9
  rw [hR9]
  clear R ok hg hst og ost RF p0 p1 p2 p3 p4 p5 hA hfn hbs hbA RS q0 q1 q2 q3 hR9 e3
  go_enter Try.func20, Try.ntmps20
  go_upto_region 3 with (first
    | ((with_reducible refine at_alloc ?_); refine wpList_alloc_box H (.agg #[.int .i64 0, .string ByteArray.empty, .slice none 0 0, .slice none 0 0]) (by kernel_rfl) ?_; intro gH1 wH1 H1; simp only [splice, vcells_int, vcells_bool, vcells_string, vcells_pointer, vcells_slice, vcells_map, vcells_func, vcells_nilFunc, vcells_iface, vcells_nilIface, vcells_agg, List.take_zero, List.take_succ_cons, List.drop_zero, List.drop_succ_cons, List.length_cons, List.length_nil, List.nil_append, List.cons_append, List.append_nil, Nat.zero_add, List.set_cons_zero, List.set_cons_succ] at H1)
    | (((with_reducible refine at_store ?_); refine wpList_store_box H1 0 4 rfl rfl (by kernel_rfl) rfl (Nat.le_of_ble_eq_true rfl) rfl ?_; intro u_ wH2 hu_ H2; simp only [Act.eval, Act.put, List.setIfInBounds_toArray, List.set_cons_zero, List.set_cons_succ, Array.getD_eq_getD_getElem?, List.getElem?_toArray, List.getElem?_cons_zero, List.getElem?_cons_succ, Option.getD_some] at hu_; subst hu_; simp only [splice, vcells_int, vcells_bool, vcells_string, vcells_pointer, vcells_slice, vcells_map, vcells_func, vcells_nilFunc, vcells_iface, vcells_nilIface, vcells_agg, List.take_zero, List.take_succ_cons, List.drop_zero, List.drop_succ_cons, List.length_cons, List.length_nil, List.nil_append, List.cons_append, List.append_nil, Nat.zero_add, List.set_cons_zero, List.set_cons_succ] at H2; (try clear b0); have b0 := H2.cells 0 rfl; simp only [cellsAre, and_true, Nat.zero_add] at b0); clear k4 e5 d0 d1 d2 d3)
    | ((go_at_call 11; (with_reducible refine (fits_calls sh st _ (HRS.out.below H2.below) HOS.out).mono ?_); rintro e w3 ⟨rfl, H3'⟩; have H3 := H2.call H3'; simp only [List.nil_append] at H3))
    | ((go_at_call 31; (with_reducible refine (tell_calls (!st.fits) 50 (k : Int) (a : Int) (H3.mv 1 rfl)).mono ?_); rintro e w4 ⟨rfl, H4⟩; simp only [List.eraseIdx_cons_succ, List.eraseIdx_cons_zero] at H4; clear b0); (try clear b0); have b0 := H4.cells 1 rfl; simp only [cellsAre, and_true, Nat.zero_add] at b0)
    | ((go_at_call 39; (with_reducible refine (CL.out _ H4.below).mono ?_); rintro e w6 ⟨rfl, H6'⟩; have H6 := H4.call H6'; simp only [List.nil_append] at H6; clear b0)))
  have H6 : Mem w0 w6 (ckB gc h (tellF (!st.fits) 50 k a x) :: stB gH1 sh st :: As) := H6
  clear H1 H2 H3 H4 H H3' H6'
  have b0 := H6.cells 1 rfl
  simp only [cellsAre, and_true, Nat.zero_add] at b0
  obtain ⟨x1, hx1⟩ : ∃ y, tellF (!st.fits) 50 k a x = y := ⟨_, rfl⟩
  have HX1 := hid hx1
  rw [hx1] at H6
  clear hx1
  go_cut [] from 39 to 49 (fun wc => Mem w0 wc (ckB gc h (tellF (longF st) 74 k a x1) :: stB gH1 sh st :: As))
  case first =>
    cases lg with
    | true =>
      have hm : longF st = true := by unfold longF; rw [HLG.out]; rfl
      have HM := hid hm
      clear hm
      go_wp2_with (first | (go_at_call 31; (with_reducible refine (tell_calls true 74 (k : Int) (a : Int) H6).mono ?_); rintro e w7 ⟨rfl, H7⟩))
      go_meet
      rw [HM.out]
      exact H7
    | false =>
      have hm : longF st = decide (8 < (st.exprs.length : Int)) := by unfold longF; rw [HLG.out]; rfl
      have HM := hid hm
      clear hm
      go_wp2_with (first | (go_at_call 31; (with_reducible refine (tell_calls (decide (8 < (st.exprs.length : Int))) 74 (k : Int) (a : Int) H6).mono ?_); rintro e w7 ⟨rfl, H7⟩))
      go_meet
      rw [HM.out]
      exact H7
  case rest =>
  have H7 := hcut
  clear hcut H6 b0
  obtain ⟨x2, hx2⟩ : ∃ y, tellF (longF st) 74 k a x1 = y := ⟨_, rfl⟩
  have HX2 := hid hx2
  rw [hx2] at H7
  clear hx2
  have b0 := H7.cells 1 rfl
  simp only [cellsAre, and_true, Nat.zero_add] at b0
  go_wp2
  clear b0
  go_loopw [53] (fun v wr => ∃ (i : Nat) (z : Flt), v = .int .i64 i ∧ i ≤ st.targets.length ∧ Hd (st.targets.foldl (fun x nm => useF s k a nm [1, 2] x) x2 = (st.targets.drop i).foldl (fun x nm => useF s k a nm [1, 2] x) z) ∧ Mem w0 wr (ckB gc h z :: stB gH1 sh st :: As)) (fun v _ => st.targets.length - (intOf v).toNat)
  case atStart => exact ⟨0, x2, rfl, Nat.zero_le _, ⟨rfl⟩, H7⟩
  case round =>
    clear H7
    obtain ⟨i, z, rfl, hi, HT, H1⟩ := hrel
    obtain ⟨w1, rfl⟩ : ∃ wo : World, wo = wr := ⟨_, rfl⟩
    by_cases hlt : i < st.targets.length
    · obtain ⟨nm, hnm⟩ : ∃ p, st.targets[i]? = some p := ⟨_, List.getElem?_eq_getElem hlt⟩
      obtain ⟨tb, to_, htA, t0⟩ := HRS.out.targets.rd.get1 rfl hnm rfl
      have HTA := hid htA
      have e0 := H1.old t0
      have HPA := hid (foldl_at (fun x nm => useF s k a nm [1, 2] x) z hnm)
      clear hnm htA t0
      rw [HTA.out]
      go_wp2_with (first | (go_at_call 41; (have HL := (H1.alloc 3 #[.int .i64 1, .int .i64 2]).row_of_box (sz := 1) (n := 2) 0 rfl rfl (by decide) (by intro u hu; simp at hu; rcases hu with rfl | rfl <;> rfl)); (simp only [List.set_cons_zero] at HL); (have HM := HL.mv 1 rfl); (simp only [List.eraseIdx_cons_succ, List.eraseIdx_cons_zero] at HM); (have HM : Mem w0 _ (ckB gc h z :: own Enc.i64 3 (some ⟨w1.heap.size, 0, none⟩) 2 [1, 2] :: stB gH1 sh st :: As) := HM); ((with_reducible refine (USE.out _ _ z nm _ 2 2 [1, 2] rfl (by decide) HM).mono ?_); rintro e' w5 ⟨rfl, H5⟩; clear HL HM)))
      have H6 := H5.drop 1
      simp only [List.eraseIdx_cons_succ, List.eraseIdx_cons_zero] at H6
      go_roundw
      case rel => exact ⟨i + 1, _, by go_num, by omega, ⟨HT.out.trans HPA.out⟩, H6⟩
      case measure => first | (simp [intOf]; done) | (simp [intOf]; omega)
    · obtain rfl : i = st.targets.length := by omega
      have hx3 : st.targets.foldl (fun x nm => useF s k a nm [1, 2] x) x2 = z := by rw [HT.out, List.drop_eq_nil_of_le (Nat.le_refl _)]; rfl
      have HX3 := hid hx3
      clear hx3 hlt hi HT
      have b0 := H1.cells 1 rfl
      simp only [cellsAre, and_true, Nat.zero_add] at b0
      go_upto_block 2 with (fail)
      go_cut [] from 66 to 92 (fun wc => Mem w0 wc (ckB gc h (kindUse s k a st z) :: stB gH1 sh st :: As))
      case first =>
        by_cases k2 : st.kind = 2
        · have k2' : (st.kind == 2) = true := by simpa using k2
          have hm : kindUse s k a st z = useF s k a st.name [3] z := by unfold kindUse; simp [k2]
          have HM' := hid hm
          clear hm k2
          go_wp2_with (first | (((with_reducible refine at_build1 ?_); refine wpList_build1 elt_int H1 rfl rfl (by decide) ?_; intro u_ gH2 wH2 hu_ H2; simp only [Act.eval, Act.put, List.setIfInBounds_toArray, List.set_cons_zero, List.set_cons_succ, Array.getD_eq_getD_getElem?, List.getElem?_toArray, List.getElem?_cons_zero, List.getElem?_cons_succ, Option.getD_some] at hu_; subst hu_; simp only [splice, vcells_int, vcells_bool, vcells_string, vcells_pointer, vcells_slice, vcells_map, vcells_func, vcells_nilFunc, vcells_iface, vcells_nilIface, vcells_agg, List.take_zero, List.take_succ_cons, List.drop_zero, List.drop_succ_cons, List.length_cons, List.length_nil, List.nil_append, List.cons_append, List.append_nil, Nat.zero_add, List.set_cons_zero, List.set_cons_succ] at H2); clear b0; have b0 := H2.cells 2 rfl; simp only [cellsAre, and_true, Nat.zero_add] at b0) | (go_at_call 41; (have HM := H2.mv 1 rfl); (simp only [List.eraseIdx_cons_succ, List.eraseIdx_cons_zero] at HM); (have HM : Mem w0 _ (ckB gc h z :: own Enc.i64 3 (some ⟨gH2, 0, none⟩) 1 [3] :: stB gH1 sh st :: As) := HM); ((with_reducible refine (USE.out _ _ z st.name _ 1 1 [3] rfl (by decide) HM).mono ?_); rintro e' w5 ⟨rfl, H5⟩; clear HM)))
          have H6 := H5.drop 1
          simp only [List.eraseIdx_cons_succ, List.eraseIdx_cons_zero] at H6
          go_meet
          rw [HM'.out]
          exact H6
        · have k2' : (st.kind == 2) = false := by simpa using k2
          by_cases k3 : st.kind = 3
          · have k3' : (st.kind == 3) = true := by simpa using k3
            have hm : kindUse s k a st z = useF s k a st.name [4] z := by unfold kindUse; simp [k3]
            have HM' := hid hm
            clear hm k3
            go_wp2_with (first | (((with_reducible refine at_build1 ?_); refine wpList_build1 elt_int H1 rfl rfl (by decide) ?_; intro u_ gH2 wH2 hu_ H2; simp only [Act.eval, Act.put, List.setIfInBounds_toArray, List.set_cons_zero, List.set_cons_succ, Array.getD_eq_getD_getElem?, List.getElem?_toArray, List.getElem?_cons_zero, List.getElem?_cons_succ, Option.getD_some] at hu_; subst hu_; simp only [splice, vcells_int, vcells_bool, vcells_string, vcells_pointer, vcells_slice, vcells_map, vcells_func, vcells_nilFunc, vcells_iface, vcells_nilIface, vcells_agg, List.take_zero, List.take_succ_cons, List.drop_zero, List.drop_succ_cons, List.length_cons, List.length_nil, List.nil_append, List.cons_append, List.append_nil, Nat.zero_add, List.set_cons_zero, List.set_cons_succ] at H2); clear b0; have b0 := H2.cells 2 rfl; simp only [cellsAre, and_true, Nat.zero_add] at b0) | (go_at_call 41; (have HM := H2.mv 1 rfl); (simp only [List.eraseIdx_cons_succ, List.eraseIdx_cons_zero] at HM); (have HM : Mem w0 _ (ckB gc h z :: own Enc.i64 3 (some ⟨gH2, 0, none⟩) 1 [4] :: stB gH1 sh st :: As) := HM); ((with_reducible refine (USE.out _ _ z st.name _ 1 1 [4] rfl (by decide) HM).mono ?_); rintro e' w5 ⟨rfl, H5⟩; clear HM)))
            have H6 := H5.drop 1
            simp only [List.eraseIdx_cons_succ, List.eraseIdx_cons_zero] at H6
            go_meet
            rw [HM'.out]
            exact H6
          · have k3' : (st.kind == 3) = false := by simpa using k3
            by_cases k4 : st.kind = 4
            · have k4' : (st.kind == 4) = true := by simpa using k4
              have hm : kindUse s k a st z = useF s k a st.name [5] z := by unfold kindUse; simp [k4]
              have HM' := hid hm
              clear hm k4
              go_wp2_with (first | (((with_reducible refine at_build1 ?_); refine wpList_build1 elt_int H1 rfl rfl (by decide) ?_; intro u_ gH2 wH2 hu_ H2; simp only [Act.eval, Act.put, List.setIfInBounds_toArray, List.set_cons_zero, List.set_cons_succ, Array.getD_eq_getD_getElem?, List.getElem?_toArray, List.getElem?_cons_zero, List.getElem?_cons_succ, Option.getD_some] at hu_; subst hu_; simp only [splice, vcells_int, vcells_bool, vcells_string, vcells_pointer, vcells_slice, vcells_map, vcells_func, vcells_nilFunc, vcells_iface, vcells_nilIface, vcells_agg, List.take_zero, List.take_succ_cons, List.drop_zero, List.drop_succ_cons, List.length_cons, List.length_nil, List.nil_append, List.cons_append, List.append_nil, Nat.zero_add, List.set_cons_zero, List.set_cons_succ] at H2); clear b0; have b0 := H2.cells 2 rfl; simp only [cellsAre, and_true, Nat.zero_add] at b0) | (go_at_call 41; (have HM := H2.mv 1 rfl); (simp only [List.eraseIdx_cons_succ, List.eraseIdx_cons_zero] at HM); (have HM : Mem w0 _ (ckB gc h z :: own Enc.i64 3 (some ⟨gH2, 0, none⟩) 1 [5] :: stB gH1 sh st :: As) := HM); ((with_reducible refine (USE.out _ _ z st.name _ 1 1 [5] rfl (by decide) HM).mono ?_); rintro e' w5 ⟨rfl, H5⟩; clear HM)))
              have H6 := H5.drop 1
              simp only [List.eraseIdx_cons_succ, List.eraseIdx_cons_zero] at H6
              go_meet
              rw [HM'.out]
              exact H6
            · have k4' : (st.kind == 4) = false := by simpa using k4
              have hm : kindUse s k a st z = z := by unfold kindUse; simp [k2, k3, k4]
              have HM' := hid hm
              clear hm
              go_wp2
              go_meet
              rw [HM'.out]
              exact H1
      case rest =>
      have H2 := hcut
      clear hcut H1 b0
      obtain ⟨x4, hx4⟩ : ∃ y, kindUse s k a st z = y := ⟨_, rfl⟩
      have HX4 := hid hx4
      rw [hx4] at H2
      clear hx4
      have b0 := H2.cells 1 rfl
      simp only [cellsAre, and_true, Nat.zero_add] at b0
      go_wp2
      clear b0
      go_loopw [96] (fun v wr => ∃ (i : Nat) (y : Flt), v = .int .i64 i ∧ i ≤ st.exprs.length ∧ Hd (st.exprs.foldl (exprF s k a) x4 = (st.exprs.drop i).foldl (exprF s k a) y) ∧ Mem w0 wr (ckB gc h y :: stB gH1 sh st :: As)) (fun v _ => st.exprs.length - (intOf v).toNat)
      case atStart => exact ⟨0, x4, rfl, Nat.zero_le _, ⟨rfl⟩, H2⟩
      case round =>
        clear H2
        obtain ⟨i, y, rfl, hi, HT, H1⟩ := hrel
        obtain ⟨w1, rfl⟩ : ∃ wo : World, wo = wr := ⟨_, rfl⟩
        by_cases hlt : i < st.exprs.length
        · obtain ⟨ex, hex⟩ : ∃ p, st.exprs[i]? = some p := ⟨_, List.getElem?_eq_getElem hlt⟩
          obtain ⟨tb, to_, eh, htA, -, RX, t0⟩ := HES.out.at' hex
          have HTA := hid htA
          have e0 := H1.old t0
          have HPA := hid (foldl_at (exprF s k a) y hex)
          have hexl : ex.length ≤ 2000000 := HOS.out.expr ex (List.mem_of_getElem? hex)
          have HRX := hid RX
          clear hex htA t0 RX
          rw [HTA.out]
          go_wp2
          clear e0
          go_loopw [102] (fun v wr => ∃ (j : Nat) (u : Flt), v = .int .i64 j ∧ j ≤ ex.length ∧ Hd (ex.foldl (termF s k a) y = (ex.drop j).foldl (termF s k a) u) ∧ Mem w0 wr (ckB gc h u :: stB gH1 sh st :: As)) (fun v _ => ex.length - (intOf v).toNat)
          case atStart => exact ⟨0, y, rfl, Nat.zero_le _, ⟨rfl⟩, H1⟩
          case round =>
            clear H1
            obtain ⟨j, u, rfl, hj, HT2, H1⟩ := hrel
            obtain ⟨w2, rfl⟩ : ∃ wo : World, wo = wr := ⟨_, rfl⟩
            by_cases hlj : j < ex.length
            · obtain ⟨t, ht⟩ : ∃ p, ex[j]? = some p := ⟨_, List.getElem?_eq_getElem hlj⟩
              obtain ⟨xb, xo, hxA, t0, t1, t2⟩ := HRX.out.rd.get3 rfl ht rfl
              have HXA := hid hxA
              have e0 := H1.old t0
              have e1 := H1.old t1
              have e2 := H1.old t2
              have HPB := hid (foldl_at (termF s k a) u ht)
              clear ht hxA t0 t1 t2
              rw [HXA.out]
              by_cases k2 : t.kind = 2
              · have k2' : (t.kind == 2) = true := by simpa using k2
                have hm : termF s k a u t = useF s k a t.name [1, 2] u := by unfold termF; simp [k2]
                have HM' := hid hm
                clear hm k2
                go_wp2_with (first
                  | ((with_reducible refine at_alloc ?_); refine wpList_alloc_box H1 (.agg #[.int .i64 0, .int .i64 0, .string ByteArray.empty]) (by kernel_rfl) ?_; intro gH2 wH2 H2; simp only [splice, vcells_int, vcells_bool, vcells_string, vcells_pointer, vcells_slice, vcells_map, vcells_func, vcells_nilFunc, vcells_iface, vcells_nilIface, vcells_agg, List.take_zero, List.take_succ_cons, List.drop_zero, List.drop_succ_cons, List.length_cons, List.length_nil, List.nil_append, List.cons_append, List.append_nil, Nat.zero_add, List.set_cons_zero, List.set_cons_succ] at H2)
                  | (((with_reducible refine at_store ?_); refine wpList_store_box H2 0 3 rfl rfl (by kernel_rfl) rfl (Nat.le_of_ble_eq_true rfl) rfl ?_; intro u_ wH3 hu_ H3; simp only [Act.eval, Act.put, List.setIfInBounds_toArray, List.set_cons_zero, List.set_cons_succ, Array.getD_eq_getD_getElem?, List.getElem?_toArray, List.getElem?_cons_zero, List.getElem?_cons_succ, Option.getD_some] at hu_; subst hu_; simp only [splice, vcells_int, vcells_bool, vcells_string, vcells_pointer, vcells_slice, vcells_map, vcells_func, vcells_nilFunc, vcells_iface, vcells_nilIface, vcells_agg, List.take_zero, List.take_succ_cons, List.drop_zero, List.drop_succ_cons, List.length_cons, List.length_nil, List.nil_append, List.cons_append, List.append_nil, Nat.zero_add, List.set_cons_zero, List.set_cons_succ] at H3; (try clear b0); have b0 := H3.cells 0 rfl; simp only [cellsAre, and_true, Nat.zero_add] at b0); have H4 := (H3.mv 2 rfl).mv 2 rfl; simp only [List.eraseIdx_cons_succ, List.eraseIdx_cons_zero] at H4)
                  | (go_at_call 41; (have HL := (H4.alloc 3 #[.int .i64 1, .int .i64 2]).row_of_box (sz := 1) (n := 2) 0 rfl rfl (by decide) (by intro u hu; simp at hu; rcases hu with rfl | rfl <;> rfl)); (simp only [List.set_cons_zero] at HL); (have HM := HL.mv 1 rfl); (simp only [List.eraseIdx_cons_succ, List.eraseIdx_cons_zero] at HM); (have HM : Mem w0 _ (ckB gc h u :: own Enc.i64 3 (some ⟨wH3.heap.size, 0, none⟩) 2 [1, 2] :: stB gH1 sh st :: box gH2 62 #[.int .i64 t.kind, .int .i64 t.value, .string t.name] :: As) := HM); ((with_reducible refine (USE.out _ _ u t.name _ 2 2 [1, 2] rfl (by decide) HM).mono ?_); rintro e' w5 ⟨rfl, H5⟩; clear HL HM)))
                have H7 := (H5.drop 1).drop 2
                simp only [List.eraseIdx_cons_succ, List.eraseIdx_cons_zero] at H7
                go_roundw
                case rel =>
                  refine ⟨j + 1, _, by go_num, by omega, ⟨HT2.out.trans HPB.out⟩, ?_⟩
                  rw [HM'.out]
                  exact H7
                case measure => first | (simp [intOf]; done) | (simp [intOf]; omega)
              · have k2' : (t.kind == 2) = false := by simpa using k2
                by_cases k3 : t.kind = 3
                · have k3' : (t.kind == 3) = true := by simpa using k3
                  have hm : termF s k a u t = useF s k a t.name [3] u := by unfold termF; simp [k3]
                  have HM' := hid hm
                  clear hm k3
                  go_wp2_with (first
                    | ((with_reducible refine at_alloc ?_); refine wpList_alloc_box H1 (.agg #[.int .i64 0, .int .i64 0, .string ByteArray.empty]) (by kernel_rfl) ?_; intro gH2 wH2 H2; simp only [splice, vcells_int, vcells_bool, vcells_string, vcells_pointer, vcells_slice, vcells_map, vcells_func, vcells_nilFunc, vcells_iface, vcells_nilIface, vcells_agg, List.take_zero, List.take_succ_cons, List.drop_zero, List.drop_succ_cons, List.length_cons, List.length_nil, List.nil_append, List.cons_append, List.append_nil, Nat.zero_add, List.set_cons_zero, List.set_cons_succ] at H2)
                    | (((with_reducible refine at_store ?_); refine wpList_store_box H2 0 3 rfl rfl (by kernel_rfl) rfl (Nat.le_of_ble_eq_true rfl) rfl ?_; intro u_ wH3 hu_ H3; simp only [Act.eval, Act.put, List.setIfInBounds_toArray, List.set_cons_zero, List.set_cons_succ, Array.getD_eq_getD_getElem?, List.getElem?_toArray, List.getElem?_cons_zero, List.getElem?_cons_succ, Option.getD_some] at hu_; subst hu_; simp only [splice, vcells_int, vcells_bool, vcells_string, vcells_pointer, vcells_slice, vcells_map, vcells_func, vcells_nilFunc, vcells_iface, vcells_nilIface, vcells_agg, List.take_zero, List.take_succ_cons, List.drop_zero, List.drop_succ_cons, List.length_cons, List.length_nil, List.nil_append, List.cons_append, List.append_nil, Nat.zero_add, List.set_cons_zero, List.set_cons_succ] at H3; (try clear b0); have b0 := H3.cells 0 rfl; simp only [cellsAre, and_true, Nat.zero_add] at b0); have H4 := (H3.mv 2 rfl).mv 2 rfl; simp only [List.eraseIdx_cons_succ, List.eraseIdx_cons_zero] at H4)
                    | (((with_reducible refine at_build1 ?_); refine wpList_build1 elt_int H4 rfl rfl (by decide) ?_; intro u_ gH6 wH6 hu_ H6; simp only [Act.eval, Act.put, List.setIfInBounds_toArray, List.set_cons_zero, List.set_cons_succ, Array.getD_eq_getD_getElem?, List.getElem?_toArray, List.getElem?_cons_zero, List.getElem?_cons_succ, Option.getD_some] at hu_; subst hu_; simp only [splice, vcells_int, vcells_bool, vcells_string, vcells_pointer, vcells_slice, vcells_map, vcells_func, vcells_nilFunc, vcells_iface, vcells_nilIface, vcells_agg, List.take_zero, List.take_succ_cons, List.drop_zero, List.drop_succ_cons, List.length_cons, List.length_nil, List.nil_append, List.cons_append, List.append_nil, Nat.zero_add, List.set_cons_zero, List.set_cons_succ] at H6); clear b0; have b0 := H6.cells 3 rfl; simp only [cellsAre, and_true, Nat.zero_add] at b0)
                    | (go_at_call 41; (have HM := H6.mv 1 rfl); (simp only [List.eraseIdx_cons_succ, List.eraseIdx_cons_zero] at HM); (have HM : Mem w0 _ (ckB gc h u :: own Enc.i64 3 (some ⟨gH6, 0, none⟩) 1 [3] :: stB gH1 sh st :: box gH2 62 #[.int .i64 t.kind, .int .i64 t.value, .string t.name] :: As) := HM); ((with_reducible refine (USE.out _ _ u t.name _ 1 1 [3] rfl (by decide) HM).mono ?_); rintro e' w5 ⟨rfl, H5⟩; clear HM)))
                  have H7 := (H5.drop 1).drop 2
                  simp only [List.eraseIdx_cons_succ, List.eraseIdx_cons_zero] at H7
                  go_roundw
                  case rel =>
                    refine ⟨j + 1, _, by go_num, by omega, ⟨HT2.out.trans HPB.out⟩, ?_⟩
                    rw [HM'.out]
                    exact H7
                  case measure => first | (simp [intOf]; done) | (simp [intOf]; omega)
                · have k3' : (t.kind == 3) = false := by simpa using k3
                  have hm : termF s k a u t = u := by unfold termF; simp [k2, k3]
                  have HM' := hid hm
                  clear hm 
                  go_wp2_with (first
                    | ((with_reducible refine at_alloc ?_); refine wpList_alloc_box H1 (.agg #[.int .i64 0, .int .i64 0, .string ByteArray.empty]) (by kernel_rfl) ?_; intro gH2 wH2 H2; simp only [splice, vcells_int, vcells_bool, vcells_string, vcells_pointer, vcells_slice, vcells_map, vcells_func, vcells_nilFunc, vcells_iface, vcells_nilIface, vcells_agg, List.take_zero, List.take_succ_cons, List.drop_zero, List.drop_succ_cons, List.length_cons, List.length_nil, List.nil_append, List.cons_append, List.append_nil, Nat.zero_add, List.set_cons_zero, List.set_cons_succ] at H2)
                    | (((with_reducible refine at_store ?_); refine wpList_store_box H2 0 3 rfl rfl (by kernel_rfl) rfl (Nat.le_of_ble_eq_true rfl) rfl ?_; intro u_ wH3 hu_ H3; simp only [Act.eval, Act.put, List.setIfInBounds_toArray, List.set_cons_zero, List.set_cons_succ, Array.getD_eq_getD_getElem?, List.getElem?_toArray, List.getElem?_cons_zero, List.getElem?_cons_succ, Option.getD_some] at hu_; subst hu_; simp only [splice, vcells_int, vcells_bool, vcells_string, vcells_pointer, vcells_slice, vcells_map, vcells_func, vcells_nilFunc, vcells_iface, vcells_nilIface, vcells_agg, List.take_zero, List.take_succ_cons, List.drop_zero, List.drop_succ_cons, List.length_cons, List.length_nil, List.nil_append, List.cons_append, List.append_nil, Nat.zero_add, List.set_cons_zero, List.set_cons_succ] at H3; (try clear b0); have b0 := H3.cells 0 rfl; simp only [cellsAre, and_true, Nat.zero_add] at b0); have H4 := (H3.mv 2 rfl).mv 2 rfl; simp only [List.eraseIdx_cons_succ, List.eraseIdx_cons_zero] at H4))
                  have H7 := H4.drop 2
                  simp only [List.eraseIdx_cons_succ, List.eraseIdx_cons_zero] at H7
                  go_roundw
                  case rel =>
                    refine ⟨j + 1, _, by go_num, by omega, ⟨HT2.out.trans HPB.out⟩, ?_⟩
                    rw [HM'.out]
                    exact H7
                  case measure => first | (simp [intOf]; done) | (simp [intOf]; omega)
            · obtain rfl : j = ex.length := by omega
              have hx5 : exprF s k a y ex = u := by unfold exprF; rw [HT2.out, List.drop_eq_nil_of_le (Nat.le_refl _)]; rfl
              have HX5 := hid hx5
              clear hx5 hlj hj HT2
              go_wp2
              go_roundw
              case rel =>
                refine ⟨i + 1, _, by go_num, by omega, ⟨HT.out.trans HPA.out⟩, ?_⟩
                rw [HX5.out]
                exact H1
              case measure => first | (simp [intOf]; done) | (simp [intOf]; omega)
        · obtain rfl : i = st.exprs.length := by omega
          have hx6 : usesF s k a st x2 = y := by unfold usesF; rw [HX3.out, HX4.out, HT.out, List.drop_eq_nil_of_le (Nat.le_refl _)]; rfl
          have HX6 := hid hx6
          clear hx6 hlt hi HT
          have b0 := H1.cells 1 rfl
          simp only [cellsAre, and_true, Nat.zero_add] at b0
          go_upto_if 130 with (fail)
          go_cut [] from 131 to 148 (fun wc => Mem w0 wc (ckB gc h (retF k a g st y) :: stB gH1 sh st :: As))
          case first =>
            by_cases k9 : st.kind = 9
            · have k9' : (st.kind == 9) = true := by simpa using k9
              have hm : retF k a g st y = tellF ((st.exprs.length : Int) != (g.results.length : Int)) 73 k a y := by unfold retF; rw [if_pos k9]
              have HM' := hid hm
              clear hm k9
              go_wp2
              refine wp_region_B (fun _ => false) (fun w' => w'.cell? ⟨gH1, 3, none⟩ = some (.slice sh.e.A st.exprs.length sh.e.c) ∧ w'.cell? ⟨gc, 4, none⟩ = some (.slice (some ⟨fb, fo, none⟩) s.funcs.length h.f.c) ∧ w'.cell? ⟨fb, fo + k * 6 + 3, none⟩ = some (.slice hd.r.A g.results.length hd.r.c)) (by kernel_rfl) ?_
              have H2 := H1.drew
              obtain ⟨w2, hw⟩ : ∃ wq, wq = w1.drew := ⟨_, rfl⟩
              rw [← hw] at H2 ⊢
              clear hw
              have hS : w2.cell? ⟨gH1, 3, none⟩ = some (.slice sh.e.A st.exprs.length sh.e.c) ∧ w2.cell? ⟨gc, 4, none⟩ = some (.slice (some ⟨fb, fo, none⟩) s.funcs.length h.f.c) ∧ w2.cell? ⟨fb, fo + k * 6 + 3, none⟩ = some (.slice hd.r.A g.results.length hd.r.c) := ⟨by simpa using (H2.box_cell 1 rfl).1 3, by have := H2.ck.2.2.2.2; rw [HFN.out, HA.out] at this; exact this, H2.old P3.out⟩
              refine wpAnyB_take' (i := 0) (v := pt gc) rfl (by kernel_rfl) (by kernel_rfl) rfl (by kernel_rfl) (by kernel_rfl) (fun _ _ _ h => h) (by rfl) hS (by intro w' hS'; obtain ⟨k1, k2, k3⟩ := hS'; first | (go_simp; done) | (go_simp; rfl) | (go_simp; omega) | (go_simp; assumption)) ?_
              simp only [Act.put, List.setIfInBounds_toArray, List.set_cons_zero, List.set_cons_succ]
              refine wpAnyB_take' (i := 1) (v := .pointer (some ⟨gH1, 3, none⟩)) rfl (by kernel_rfl) (by kernel_rfl) rfl (by kernel_rfl) (by kernel_rfl) (fun _ _ _ h => h) (by rfl) hS (by intro w' hS'; obtain ⟨k1, k2, k3⟩ := hS'; first | (go_simp; done) | (go_simp; rfl) | (go_simp; omega) | (go_simp; assumption)) ?_
              simp only [Act.put, List.setIfInBounds_toArray, List.set_cons_zero, List.set_cons_succ]
              refine wpAnyB_take' (i := 2) (v := .slice sh.e.A st.exprs.length sh.e.c) rfl (by kernel_rfl) (by kernel_rfl) rfl (by kernel_rfl) (by kernel_rfl) (fun _ _ _ h => h) (by rfl) hS (by intro w' hS'; obtain ⟨k1, k2, k3⟩ := hS'; first | (go_simp; done) | (go_simp; rfl) | (go_simp; omega) | (go_simp; assumption)) ?_
              simp only [Act.put, List.setIfInBounds_toArray, List.set_cons_zero, List.set_cons_succ]
              refine wpAnyB_take' (i := 3) (v := I (st.exprs.length : Int)) rfl (by kernel_rfl) (by kernel_rfl) rfl (by kernel_rfl) (by kernel_rfl) (fun _ _ _ h => h) (by rfl) hS (by intro w' hS'; obtain ⟨k1, k2, k3⟩ := hS'; first | (go_simp; done) | (go_simp; rfl) | (go_simp; omega) | (go_simp; assumption)) ?_
              simp only [Act.put, List.setIfInBounds_toArray, List.set_cons_zero, List.set_cons_succ]
              refine wpAnyB_take' (i := 4) (v := pt gc) rfl (by kernel_rfl) (by kernel_rfl) rfl (by kernel_rfl) (by kernel_rfl) (fun _ _ _ h => h) (by rfl) hS (by intro w' hS'; obtain ⟨k1, k2, k3⟩ := hS'; first | (go_simp; done) | (go_simp; rfl) | (go_simp; omega) | (go_simp; assumption)) ?_
              simp only [Act.put, List.setIfInBounds_toArray, List.set_cons_zero, List.set_cons_succ]
              refine wpAnyB_take' (i := 5) (v := pt gc) rfl (by kernel_rfl) (by kernel_rfl) rfl (by kernel_rfl) (by kernel_rfl) (fun _ _ _ h => h) (by rfl) hS (by intro w' hS'; obtain ⟨k1, k2, k3⟩ := hS'; first | (go_simp; done) | (go_simp; rfl) | (go_simp; omega) | (go_simp; assumption)) ?_
              simp only [Act.put, List.setIfInBounds_toArray, List.set_cons_zero, List.set_cons_succ]
              refine wpAnyB_take' (i := 6) (v := pt gc) rfl (by kernel_rfl) (by kernel_rfl) rfl (by kernel_rfl) (by kernel_rfl) (fun _ _ _ h => h) (by rfl) hS (by intro w' hS'; obtain ⟨k1, k2, k3⟩ := hS'; first | (go_simp; done) | (go_simp; rfl) | (go_simp; omega) | (go_simp; assumption)) ?_
              simp only [Act.put, List.setIfInBounds_toArray, List.set_cons_zero, List.set_cons_succ]
              refine wpAnyB_take' (i := 7) (v := .pointer (some ⟨gc, 4, none⟩)) rfl (by kernel_rfl) (by kernel_rfl) rfl (by kernel_rfl) (by kernel_rfl) (fun _ _ _ h => h) (by rfl) hS (by intro w' hS'; obtain ⟨k1, k2, k3⟩ := hS'; first | (go_simp; done) | (go_simp; rfl) | (go_simp; omega) | (go_simp; assumption)) ?_
              simp only [Act.put, List.setIfInBounds_toArray, List.set_cons_zero, List.set_cons_succ]
              refine wpAnyB_take' (i := 8) (v := .slice (some ⟨fb, fo, none⟩) s.funcs.length h.f.c) rfl (by kernel_rfl) (by kernel_rfl) rfl (by kernel_rfl) (by kernel_rfl) (fun _ _ _ h => h) (by rfl) hS (by intro w' hS'; obtain ⟨k1, k2, k3⟩ := hS'; first | (go_simp; done) | (go_simp; rfl) | (go_simp; omega) | (go_simp; assumption)) ?_
              simp only [Act.put, List.setIfInBounds_toArray, List.set_cons_zero, List.set_cons_succ]
              refine wpAnyB_take' (i := 9) (v := I (k : Int)) rfl (by kernel_rfl) (by kernel_rfl) rfl (by kernel_rfl) (by kernel_rfl) (fun _ _ _ h => h) (by rfl) hS (by intro w' hS'; obtain ⟨k1, k2, k3⟩ := hS'; first | (go_simp; done) | (go_simp; rfl) | (go_simp; omega) | (go_simp; assumption)) ?_
              simp only [Act.put, List.setIfInBounds_toArray, List.set_cons_zero, List.set_cons_succ]
              refine wpAnyB_take' (i := 10) (v := .pointer (some ⟨fb, fo + k * 6, none⟩)) rfl (by kernel_rfl) (by kernel_rfl) rfl (by kernel_rfl) (by kernel_rfl) (fun _ _ _ h => h) (by rfl) hS (by intro w' hS'; obtain ⟨k1, k2, k3⟩ := hS'; first | (go_simp; done) | (go_simp; rfl) | (go_simp; omega) | (go_simp; assumption)) ?_
              simp only [Act.put, List.setIfInBounds_toArray, List.set_cons_zero, List.set_cons_succ]
              refine wpAnyB_take' (i := 11) (v := .pointer (some ⟨fb, fo + k * 6 + 3, none⟩)) rfl (by kernel_rfl) (by kernel_rfl) rfl (by kernel_rfl) (by kernel_rfl) (fun _ _ _ h => h) (by rfl) hS (by intro w' hS'; obtain ⟨k1, k2, k3⟩ := hS'; first | (go_simp; done) | (go_simp; rfl) | (go_simp; omega) | (go_simp; assumption)) ?_
              simp only [Act.put, List.setIfInBounds_toArray, List.set_cons_zero, List.set_cons_succ]
              refine wpAnyB_take' (i := 12) (v := .slice hd.r.A g.results.length hd.r.c) rfl (by kernel_rfl) (by kernel_rfl) rfl (by kernel_rfl) (by kernel_rfl) (fun _ _ _ h => h) (by rfl) hS (by intro w' hS'; obtain ⟨k1, k2, k3⟩ := hS'; first | (go_simp; done) | (go_simp; rfl) | (go_simp; omega) | (go_simp; assumption)) ?_
              simp only [Act.put, List.setIfInBounds_toArray, List.set_cons_zero, List.set_cons_succ]
              refine wpAnyB_take' (i := 13) (v := I (g.results.length : Int)) rfl (by kernel_rfl) (by kernel_rfl) rfl (by kernel_rfl) (by kernel_rfl) (fun _ _ _ h => h) (by rfl) hS (by intro w' hS'; obtain ⟨k1, k2, k3⟩ := hS'; first | (go_simp; done) | (go_simp; rfl) | (go_simp; omega) | (go_simp; assumption)) ?_
              simp only [Act.put, List.setIfInBounds_toArray, List.set_cons_zero, List.set_cons_succ]
              refine wpAnyB_take' (i := 14) (v := .bool ((st.exprs.length : Int) != (g.results.length : Int))) rfl (by kernel_rfl) (by kernel_rfl) rfl (by kernel_rfl) (by kernel_rfl) (fun _ _ _ h => h) (by rfl) hS (by intro w' hS'; obtain ⟨k1, k2, k3⟩ := hS'; first | (go_simp; done) | (go_simp; rfl) | (go_simp; omega) | (go_simp; assumption)) ?_
              simp only [Act.put, List.setIfInBounds_toArray, List.set_cons_zero, List.set_cons_succ]
              refine wpAnyB_take' (i := 15) (v := I (k : Int)) rfl (by kernel_rfl) (by kernel_rfl) rfl (by kernel_rfl) (by kernel_rfl) (fun _ _ _ h => h) (by rfl) hS (by intro w' hS'; obtain ⟨k1, k2, k3⟩ := hS'; first | (go_simp; done) | (go_simp; rfl) | (go_simp; omega) | (go_simp; assumption)) ?_
              simp only [Act.put, List.setIfInBounds_toArray, List.set_cons_zero, List.set_cons_succ]
              refine wpAnyB_take' (i := 16) (v := I (a : Int)) rfl (by kernel_rfl) (by kernel_rfl) rfl (by kernel_rfl) (by kernel_rfl) (fun _ _ _ h => h) (by rfl) hS (by intro w' hS'; obtain ⟨k1, k2, k3⟩ := hS'; first | (go_simp; done) | (go_simp; rfl) | (go_simp; omega) | (go_simp; assumption)) ?_
              simp only [Act.put, List.setIfInBounds_toArray, List.set_cons_zero, List.set_cons_succ]
              refine wpAnyB_call (i := 17) rfl (by kernel_rfl) (by rfl) (by first | rfl | (go_simp; done) | (go_simp; rfl)) (tell_calls ((st.exprs.length : Int) != (g.results.length : Int)) 73 (k : Int) (a : Int) H2) ?_
              rintro e w3 ⟨rfl, H3⟩
              clear hS
              have hS : w3.cell? ⟨gH1, 3, none⟩ = some (.slice sh.e.A st.exprs.length sh.e.c) ∧ w3.cell? ⟨gc, 4, none⟩ = some (.slice (some ⟨fb, fo, none⟩) s.funcs.length h.f.c) ∧ w3.cell? ⟨fb, fo + k * 6 + 3, none⟩ = some (.slice hd.r.A g.results.length hd.r.c) := ⟨by simpa using (H3.box_cell 1 rfl).1 3, by have := H3.ck.2.2.2.2; rw [HFN.out, HA.out] at this; exact this, H3.old P3.out⟩
              refine ⟨_, rfl, fun _ => hS, ?_⟩
              simp only [Act.put, List.setIfInBounds_toArray, List.set_cons_zero, List.set_cons_succ]
              refine wpAnyB_done (by kernel_rfl) ?_ _
              go_wp2
              go_meet
              rw [HM'.out]
              exact H3
            · have k9' : (st.kind == 9) = false := by simpa using k9
              have hm : retF k a g st y = y := by unfold retF; rw [if_neg k9]
              have HM' := hid hm
              clear hm
              go_wp2
              go_meet
              rw [HM'.out]
              exact H1
          case rest =>
          have H2 := hcut
          clear hcut H1 b0
          obtain ⟨x7, hx7⟩ : ∃ y', retF k a g st y = y' := ⟨_, rfl⟩
          have HX7 := hid hx7
          rw [hx7] at H2
          clear hx7
          have hst9 : R9 = callF s k a st x7 := by rw [← HR9.out]; unfold stmtF; rw [HX1.out, HX2.out, HX6.out, HX7.out]
          have HST := hid hst9
          clear hst9
          obtain ⟨r0, r1, r2, hq⟩ : ∃ r0 r1 r2, s.find k st.name = (r0, r1, r2) := ⟨_, _, _, rfl⟩
          have HQ := hid hq
          clear hq
          go_upto_region 31 with (fail)
          go_cut [14, 15] from 149 to 159 (fun v14 v15 wc => ∃ g14, v14 = pt g14 ∧ v15 = .bool r2 ∧ Mem w0 wc (ckB gc h x7 :: stB gH1 sh st :: box g14 52 #[.int .i64 r0, .int .i64 r1] :: As))
          case first =>
            refine wp_region_B (fun _ => false) (fun w' => w'.cell? ⟨gc, 0, none⟩ = some (.slice h.p.A h.p.n h.p.c) ∧ w'.cell? ⟨gc, 1, none⟩ = some (.slice h.g.A h.g.n h.g.c) ∧ w'.cell? ⟨gc, 2, none⟩ = some (.slice h.a.A h.a.n h.a.c) ∧ w'.cell? ⟨gc, 3, none⟩ = some (.slice h.c.A h.c.n h.c.c) ∧ w'.cell? ⟨gc, 4, none⟩ = some (.slice h.f.A h.f.n h.f.c) ∧ w'.cell? ⟨gH1, 1, none⟩ = some (.string st.name)) (by kernel_rfl) ?_
            have H5 := H2.drew
            obtain ⟨w5, hw⟩ : ∃ wq, wq = wc.drew := ⟨_, rfl⟩
            rw [← hw] at H5 ⊢
            clear hw
            have hS : w5.cell? ⟨gc, 0, none⟩ = some (.slice h.p.A h.p.n h.p.c) ∧ w5.cell? ⟨gc, 1, none⟩ = some (.slice h.g.A h.g.n h.g.c) ∧ w5.cell? ⟨gc, 2, none⟩ = some (.slice h.a.A h.a.n h.a.c) ∧ w5.cell? ⟨gc, 3, none⟩ = some (.slice h.c.A h.c.n h.c.c) ∧ w5.cell? ⟨gc, 4, none⟩ = some (.slice h.f.A h.f.n h.f.c) ∧ w5.cell? ⟨gH1, 1, none⟩ = some (.string st.name) := by
                  have hh := (H5.box_cell 0 rfl).1
                  have h2 := (H5.box_cell 1 rfl).1
                  exact ⟨by simpa using hh 0, by simpa using hh 1, by simpa using hh 2, by simpa using hh 3, by simpa using hh 4, by simpa using h2 1⟩
            refine wpAnyB_take' (i := 0) (v := pt gc) rfl (by kernel_rfl) (by kernel_rfl) rfl (by kernel_rfl) (by kernel_rfl) (fun _ _ _ h => h) (by rfl) hS (by intro w' hS'; obtain ⟨k1, k2, k3, k4, k5, k6⟩ := hS'; first | (go_simp; done) | (go_simp; rfl) | (go_simp; omega) | (go_simp; assumption)) ?_
            simp only [Act.put, List.setIfInBounds_toArray, List.set_cons_zero, List.set_cons_succ]
            refine wpAnyB_take' (i := 1) (v := pt gc) rfl (by kernel_rfl) (by kernel_rfl) rfl (by kernel_rfl) (by kernel_rfl) (fun _ _ _ h => h) (by rfl) hS (by intro w' hS'; obtain ⟨k1, k2, k3, k4, k5, k6⟩ := hS'; first | (go_simp; done) | (go_simp; rfl) | (go_simp; omega) | (go_simp; assumption)) ?_
            simp only [Act.put, List.setIfInBounds_toArray, List.set_cons_zero, List.set_cons_succ]
            refine wpAnyB_take' (i := 2) (v := pt gc) rfl (by kernel_rfl) (by kernel_rfl) rfl (by kernel_rfl) (by kernel_rfl) (fun _ _ _ h => h) (by rfl) hS (by intro w' hS'; obtain ⟨k1, k2, k3, k4, k5, k6⟩ := hS'; first | (go_simp; done) | (go_simp; rfl) | (go_simp; omega) | (go_simp; assumption)) ?_
            simp only [Act.put, List.setIfInBounds_toArray, List.set_cons_zero, List.set_cons_succ]
            refine wpAnyB_take' (i := 3) (v := h.val) rfl (by kernel_rfl) (by kernel_rfl) rfl (by kernel_rfl) (by kernel_rfl) (fun _ _ _ h => h) (by rfl) hS (by intro w' hS'; obtain ⟨k1, k2, k3, k4, k5, k6⟩ := hS'; first | (go_simp; done) | (go_simp; rfl) | (go_simp; omega) | (go_simp; assumption)) ?_
            simp only [Act.put, List.setIfInBounds_toArray, List.set_cons_zero, List.set_cons_succ]
            refine wpAnyB_take' (i := 4) (v := I (k : Int)) rfl (by kernel_rfl) (by kernel_rfl) rfl (by kernel_rfl) (by kernel_rfl) (fun _ _ _ h => h) (by rfl) hS (by intro w' hS'; obtain ⟨k1, k2, k3, k4, k5, k6⟩ := hS'; first | (go_simp; done) | (go_simp; rfl) | (go_simp; omega) | (go_simp; assumption)) ?_
            simp only [Act.put, List.setIfInBounds_toArray, List.set_cons_zero, List.set_cons_succ]
            refine wpAnyB_take' (i := 5) (v := .pointer (some ⟨gH1, 1, none⟩)) rfl (by kernel_rfl) (by kernel_rfl) rfl (by kernel_rfl) (by kernel_rfl) (fun _ _ _ h => h) (by rfl) hS (by intro w' hS'; obtain ⟨k1, k2, k3, k4, k5, k6⟩ := hS'; first | (go_simp; done) | (go_simp; rfl) | (go_simp; omega) | (go_simp; assumption)) ?_
            simp only [Act.put, List.setIfInBounds_toArray, List.set_cons_zero, List.set_cons_succ]
            refine wpAnyB_take' (i := 6) (v := .string st.name) rfl (by kernel_rfl) (by kernel_rfl) rfl (by kernel_rfl) (by kernel_rfl) (fun _ _ _ h => h) (by rfl) hS (by intro w' hS'; obtain ⟨k1, k2, k3, k4, k5, k6⟩ := hS'; first | (go_simp; done) | (go_simp; rfl) | (go_simp; omega) | (go_simp; assumption)) ?_
            simp only [Act.put, List.setIfInBounds_toArray, List.set_cons_zero, List.set_cons_succ]
            refine wpAnyB_two (i := 7) (j := 11) (by kernel_rfl) ?_ ?_
            · refine wpOp_call rfl (by kernel_rfl) (by first | rfl | (go_simp; done) | (go_simp; rfl)) (find_calls h s (k : Int) st.name w5 (HR.out.below H5.below) HO.out) ?_
              rintro e w6 ⟨rfl, H6'⟩
              rw [HQ.out]
              have H6 := H5.call H6'
              simp only [List.nil_append] at H6
              clear hS
              have hS : w6.cell? ⟨gc, 0, none⟩ = some (.slice h.p.A h.p.n h.p.c) ∧ w6.cell? ⟨gc, 1, none⟩ = some (.slice h.g.A h.g.n h.g.c) ∧ w6.cell? ⟨gc, 2, none⟩ = some (.slice h.a.A h.a.n h.a.c) ∧ w6.cell? ⟨gc, 3, none⟩ = some (.slice h.c.A h.c.n h.c.c) ∧ w6.cell? ⟨gc, 4, none⟩ = some (.slice h.f.A h.f.n h.f.c) ∧ w6.cell? ⟨gH1, 1, none⟩ = some (.string st.name) := by
                  have hh := (H6.box_cell 0 rfl).1
                  have h2 := (H6.box_cell 1 rfl).1
                  exact ⟨by simpa using hh 0, by simpa using hh 1, by simpa using hh 2, by simpa using hh 3, by simpa using hh 4, by simpa using h2 1⟩
              refine ⟨_, rfl, fun _ => hS, ?_⟩
              simp only [Act.put, List.setIfInBounds_toArray, List.set_cons_zero, List.set_cons_succ]
              refine wpAnyB_take' (i := 8) (v := refV (r0, r1, r2)) rfl (by kernel_rfl) (by kernel_rfl) rfl (by kernel_rfl) (by kernel_rfl) (fun _ _ _ h => h) (by rfl) hS (by intro w' hS'; obtain ⟨k1, k2, k3, k4, k5, k6⟩ := hS'; first | (go_simp; done) | (go_simp; rfl) | (go_simp; omega) | (go_simp; assumption)) ?_
              simp only [Act.put, List.setIfInBounds_toArray, List.set_cons_zero, List.set_cons_succ]
              refine wpAnyB_take' (i := 9) (v := .agg #[I r0, I r1]) rfl (by kernel_rfl) (by kernel_rfl) rfl (by kernel_rfl) (by kernel_rfl) (fun _ _ _ h => h) (by rfl) hS (by intro w' hS'; obtain ⟨k1, k2, k3, k4, k5, k6⟩ := hS'; first | (go_simp; done) | (go_simp; rfl) | (go_simp; omega) | (go_simp; assumption)) ?_
              simp only [Act.put, List.setIfInBounds_toArray, List.set_cons_zero, List.set_cons_succ]
              refine wpAnyB_take' (i := 10) (v := .bool r2) rfl (by kernel_rfl) (by kernel_rfl) rfl (by kernel_rfl) (by kernel_rfl) (fun _ _ _ h => h) (by rfl) hS (by intro w' hS'; obtain ⟨k1, k2, k3, k4, k5, k6⟩ := hS'; first | (go_simp; done) | (go_simp; rfl) | (go_simp; omega) | (go_simp; assumption)) ?_
              simp only [Act.put, List.setIfInBounds_toArray, List.set_cons_zero, List.set_cons_succ]
              refine wpAnyB_do (i := 11) (v := pt w6.heap.size) (w1 := w6.alloc (.cells (Value.cells (.agg #[.int .i64 0, .int .i64 0])) 52)) rfl (by kernel_rfl) (by rfl) (run_exec_alloc rfl (by kernel_rfl)) ?_
              have H8 := H6.alloc 52 (Value.cells (.agg #[.int .i64 0, .int .i64 0]))
              obtain ⟨w8, hw5⟩ : ∃ y, y = w6.alloc (.cells (Value.cells (.agg #[.int .i64 0, .int .i64 0])) 52) := ⟨_, rfl⟩
              obtain ⟨g14, hg8⟩ : ∃ y, y = w6.heap.size := ⟨_, rfl⟩
              rw [← hw5, ← hg8] at H8 ⊢
              clear hw5 hg8 hS
              have hS : w8.cell? ⟨gc, 0, none⟩ = some (.slice h.p.A h.p.n h.p.c) ∧ w8.cell? ⟨gc, 1, none⟩ = some (.slice h.g.A h.g.n h.g.c) ∧ w8.cell? ⟨gc, 2, none⟩ = some (.slice h.a.A h.a.n h.a.c) ∧ w8.cell? ⟨gc, 3, none⟩ = some (.slice h.c.A h.c.n h.c.c) ∧ w8.cell? ⟨gc, 4, none⟩ = some (.slice h.f.A h.f.n h.f.c) ∧ w8.cell? ⟨gH1, 1, none⟩ = some (.string st.name) := by
                  have hh := (H8.box_cell 1 rfl).1
                  have h2 := (H8.box_cell 2 rfl).1
                  exact ⟨by simpa using hh 0, by simpa using hh 1, by simpa using hh 2, by simpa using hh 3, by simpa using hh 4, by simpa using h2 1⟩
              refine ⟨fun _ => hS, ?_⟩
              simp only [Act.put, List.setIfInBounds_toArray, List.set_cons_zero, List.set_cons_succ]
              refine wpAnyB_one' (i := 12) rfl (by kernel_rfl) ?_
              (with_reducible refine at_store ?_); refine wpList_store_box H8 0 2 rfl rfl (by kernel_rfl) rfl (Nat.le_of_ble_eq_true rfl) rfl ?_; intro u_ w9 hu_ H9
              simp only [splice, vcells, Act.eval, Act.put, List.setIfInBounds_toArray, List.set_cons_zero, List.set_cons_succ, Array.getD_eq_getD_getElem?, List.getElem?_toArray, List.getElem?_cons_zero, List.getElem?_cons_succ, Option.getD_some] at hu_; subst hu_; simp only [splice, vcells_agg, List.take_zero, List.drop_zero, List.length_cons, List.length_nil, List.nil_append, List.cons_append, Nat.zero_add, List.drop_succ_cons, List.append_nil, List.set_cons_zero] at H9
              have H10 := (H9.mv 2 rfl).mv 2 rfl
              simp only [List.eraseIdx_cons_succ, List.eraseIdx_cons_zero] at H10
              refine wpList_nil ?_
              clear hS
              have hS : w9.cell? ⟨gc, 0, none⟩ = some (.slice h.p.A h.p.n h.p.c) ∧ w9.cell? ⟨gc, 1, none⟩ = some (.slice h.g.A h.g.n h.g.c) ∧ w9.cell? ⟨gc, 2, none⟩ = some (.slice h.a.A h.a.n h.a.c) ∧ w9.cell? ⟨gc, 3, none⟩ = some (.slice h.c.A h.c.n h.c.c) ∧ w9.cell? ⟨gc, 4, none⟩ = some (.slice h.f.A h.f.n h.f.c) ∧ w9.cell? ⟨gH1, 1, none⟩ = some (.string st.name) := by
                  have hh := (H10.box_cell 0 rfl).1
                  have h2 := (H10.box_cell 1 rfl).1
                  exact ⟨by simpa using hh 0, by simpa using hh 1, by simpa using hh 2, by simpa using hh 3, by simpa using hh 4, by simpa using h2 1⟩
              refine ⟨fun _ => hS, ?_⟩
              refine wpAnyB_take' (i := 13) (v := .bool r2) rfl (by kernel_rfl) (by kernel_rfl) rfl (by kernel_rfl) (by kernel_rfl) (fun _ _ _ h => h) (by rfl) hS (by intro w' hS'; first | rfl | (go_simp; done) | (go_simp; rfl)) ?_
              simp only [Act.put, List.setIfInBounds_toArray, List.set_cons_zero, List.set_cons_succ]
              refine wpAnyB_done (by kernel_rfl) ?_ _
              go_wp2
              go_meet
              exact ⟨g14, rfl, rfl, H10⟩
            · refine wpOp_do (v := pt w5.heap.size) (w1 := w5.alloc (.cells (Value.cells (.agg #[.int .i64 0, .int .i64 0])) 52)) rfl (by kernel_rfl) (run_exec_alloc rfl (by kernel_rfl)) ?_
              have H6 := H5.alloc 52 (Value.cells (.agg #[.int .i64 0, .int .i64 0]))
              obtain ⟨w6, hw5⟩ : ∃ y, y = w5.alloc (.cells (Value.cells (.agg #[.int .i64 0, .int .i64 0])) 52) := ⟨_, rfl⟩
              obtain ⟨g14, hg8⟩ : ∃ y, y = w5.heap.size := ⟨_, rfl⟩
              rw [← hw5, ← hg8] at H6 ⊢
              clear hw5 hg8 hS
              have hS : w6.cell? ⟨gc, 0, none⟩ = some (.slice h.p.A h.p.n h.p.c) ∧ w6.cell? ⟨gc, 1, none⟩ = some (.slice h.g.A h.g.n h.g.c) ∧ w6.cell? ⟨gc, 2, none⟩ = some (.slice h.a.A h.a.n h.a.c) ∧ w6.cell? ⟨gc, 3, none⟩ = some (.slice h.c.A h.c.n h.c.c) ∧ w6.cell? ⟨gc, 4, none⟩ = some (.slice h.f.A h.f.n h.f.c) ∧ w6.cell? ⟨gH1, 1, none⟩ = some (.string st.name) := by
                  have hh := (H6.box_cell 1 rfl).1
                  have h2 := (H6.box_cell 2 rfl).1
                  exact ⟨by simpa using hh 0, by simpa using hh 1, by simpa using hh 2, by simpa using hh 3, by simpa using hh 4, by simpa using h2 1⟩
              refine ⟨fun _ => hS, ?_⟩
              simp only [Act.put, List.setIfInBounds_toArray, List.set_cons_zero, List.set_cons_succ]
              refine wpAnyB_one (i := 7) (by kernel_rfl) ?_
              refine wpOp_call rfl (by kernel_rfl) (by first | rfl | (go_simp; done) | (go_simp; rfl)) (find_calls h s (k : Int) st.name w6 (HR.out.below H6.below) HO.out) ?_
              rintro e w8 ⟨rfl, H8'⟩
              rw [HQ.out]
              have H8 := H6.call H8'
              simp only [List.nil_append] at H8
              clear hS
              have hS : w8.cell? ⟨gc, 0, none⟩ = some (.slice h.p.A h.p.n h.p.c) ∧ w8.cell? ⟨gc, 1, none⟩ = some (.slice h.g.A h.g.n h.g.c) ∧ w8.cell? ⟨gc, 2, none⟩ = some (.slice h.a.A h.a.n h.a.c) ∧ w8.cell? ⟨gc, 3, none⟩ = some (.slice h.c.A h.c.n h.c.c) ∧ w8.cell? ⟨gc, 4, none⟩ = some (.slice h.f.A h.f.n h.f.c) ∧ w8.cell? ⟨gH1, 1, none⟩ = some (.string st.name) := by
                  have hh := (H8.box_cell 1 rfl).1
                  have h2 := (H8.box_cell 2 rfl).1
                  exact ⟨by simpa using hh 0, by simpa using hh 1, by simpa using hh 2, by simpa using hh 3, by simpa using hh 4, by simpa using h2 1⟩
              refine ⟨_, rfl, fun _ => hS, ?_⟩
              simp only [Act.put, List.setIfInBounds_toArray, List.set_cons_zero, List.set_cons_succ]
              refine wpAnyB_take' (i := 8) (v := refV (r0, r1, r2)) rfl (by kernel_rfl) (by kernel_rfl) rfl (by kernel_rfl) (by kernel_rfl) (fun _ _ _ h => h) (by rfl) hS (by intro w' hS'; obtain ⟨k1, k2, k3, k4, k5, k6⟩ := hS'; first | (go_simp; done) | (go_simp; rfl) | (go_simp; omega) | (go_simp; assumption)) ?_
              simp only [Act.put, List.setIfInBounds_toArray, List.set_cons_zero, List.set_cons_succ]
              refine wpAnyB_take' (i := 9) (v := .agg #[I r0, I r1]) rfl (by kernel_rfl) (by kernel_rfl) rfl (by kernel_rfl) (by kernel_rfl) (fun _ _ _ h => h) (by rfl) hS (by intro w' hS'; obtain ⟨k1, k2, k3, k4, k5, k6⟩ := hS'; first | (go_simp; done) | (go_simp; rfl) | (go_simp; omega) | (go_simp; assumption)) ?_
              simp only [Act.put, List.setIfInBounds_toArray, List.set_cons_zero, List.set_cons_succ]
              refine wpAnyB_take' (i := 10) (v := .bool r2) rfl (by kernel_rfl) (by kernel_rfl) rfl (by kernel_rfl) (by kernel_rfl) (fun _ _ _ h => h) (by rfl) hS (by intro w' hS'; obtain ⟨k1, k2, k3, k4, k5, k6⟩ := hS'; first | (go_simp; done) | (go_simp; rfl) | (go_simp; omega) | (go_simp; assumption)) ?_
              simp only [Act.put, List.setIfInBounds_toArray, List.set_cons_zero, List.set_cons_succ]
              refine wpAnyB_one' (i := 12) rfl (by kernel_rfl) ?_
              (with_reducible refine at_store ?_); refine wpList_store_box H8 0 2 rfl rfl (by kernel_rfl) rfl (Nat.le_of_ble_eq_true rfl) rfl ?_; intro u_ w9 hu_ H9
              simp only [splice, vcells, Act.eval, Act.put, List.setIfInBounds_toArray, List.set_cons_zero, List.set_cons_succ, Array.getD_eq_getD_getElem?, List.getElem?_toArray, List.getElem?_cons_zero, List.getElem?_cons_succ, Option.getD_some] at hu_; subst hu_; simp only [splice, vcells_agg, List.take_zero, List.drop_zero, List.length_cons, List.length_nil, List.nil_append, List.cons_append, Nat.zero_add, List.drop_succ_cons, List.append_nil, List.set_cons_zero] at H9
              have H10 := (H9.mv 2 rfl).mv 2 rfl
              simp only [List.eraseIdx_cons_succ, List.eraseIdx_cons_zero] at H10
              refine wpList_nil ?_
              clear hS
              have hS : w9.cell? ⟨gc, 0, none⟩ = some (.slice h.p.A h.p.n h.p.c) ∧ w9.cell? ⟨gc, 1, none⟩ = some (.slice h.g.A h.g.n h.g.c) ∧ w9.cell? ⟨gc, 2, none⟩ = some (.slice h.a.A h.a.n h.a.c) ∧ w9.cell? ⟨gc, 3, none⟩ = some (.slice h.c.A h.c.n h.c.c) ∧ w9.cell? ⟨gc, 4, none⟩ = some (.slice h.f.A h.f.n h.f.c) ∧ w9.cell? ⟨gH1, 1, none⟩ = some (.string st.name) := by
                  have hh := (H10.box_cell 0 rfl).1
                  have h2 := (H10.box_cell 1 rfl).1
                  exact ⟨by simpa using hh 0, by simpa using hh 1, by simpa using hh 2, by simpa using hh 3, by simpa using hh 4, by simpa using h2 1⟩
              refine ⟨fun _ => hS, ?_⟩
              refine wpAnyB_take' (i := 13) (v := .bool r2) rfl (by kernel_rfl) (by kernel_rfl) rfl (by kernel_rfl) (by kernel_rfl) (fun _ _ _ h => h) (by rfl) hS (by intro w' hS'; first | rfl | (go_simp; done) | (go_simp; rfl)) ?_
              simp only [Act.put, List.setIfInBounds_toArray, List.set_cons_zero, List.set_cons_succ]
              refine wpAnyB_done (by kernel_rfl) ?_ _
              go_wp2
              go_meet
              exact ⟨g14, rfl, rfl, H10⟩
          case rest =>
          obtain ⟨g14, rfl, rfl, H3⟩ := hcut
          clear H2
          have b0 := H3.cells 1 rfl
          simp only [cellsAre, and_true, Nat.zero_add] at b0
          have b1 := H3.cells 2 rfl
          simp only [cellsAre, and_true, Nat.zero_add] at b1
          by_cases k4 : st.kind = 4
          · have k4' : (st.kind == 4) = true := by simpa using k4
            by_cases k5 : r0 = 5
            · subst k5
              obtain ⟨q, hq1, hq2⟩ := find_fun (s := s) (f := k) (nm := st.name) (by rw [HQ.out])
              rw [HQ.out] at hq1
              simp only at hq1
              subst hq1
              obtain ⟨cf, hcf⟩ : ∃ c, s.funcs[q]? = some c := ⟨_, List.getElem?_eq_getElem hq2⟩
              have hcall : callF s k a st x7 = tellF (callBad st cf) 73 k a x7 := by
                unfold callF
                rw [HQ.out]
                simp only [Int.toNat_natCast, hcf]
                rw [if_pos ⟨k4, trivial⟩]
              have HCALL := hid hcall
              obtain ⟨fb', fo', hd', hA', -, RF', c0, c1, c2, c3, c4, c5⟩ := HR.out.funcs.at' hcf
              obtain ⟨rfl, rfl⟩ : fb = fb' ∧ fo = fo' := by rw [HA.out] at hA'; simpa using hA'
              have ocf := HO.out.func cf (List.mem_of_getElem? hcf)
              have hcp := ocf.params
              have hcr := ocf.results
              have C0 := hid (And.intro c0 (And.intro c1 (And.intro c2 (And.intro c3 (And.intro c4 c5)))))
              clear k4 hcall hcf hA' RF' c0 c1 c2 c3 c4 c5 ocf
              have hqi : (q : Int) < (s.funcs.length : Int) := by omega
              go_wp2
              refine wp_region_B (fun _ => false) (fun w' => w'.cell? ⟨gc, 4, none⟩ = some (.slice (some ⟨fb, fo, none⟩) s.funcs.length h.f.c) ∧ w'.cell? ⟨g14, 1, none⟩ = some (.int .i64 q) ∧ w'.cell? ⟨fb, fo + q * 6, none⟩ = some (.string cf.name) ∧ w'.cell? ⟨fb, fo + q * 6 + 1, none⟩ = some (.int .u64 cf.level) ∧ w'.cell? ⟨fb, fo + q * 6 + 2, none⟩ = some (.slice hd'.p.A cf.params.length hd'.p.c) ∧ w'.cell? ⟨fb, fo + q * 6 + 3, none⟩ = some (.slice hd'.r.A cf.results.length hd'.r.c) ∧ w'.cell? ⟨fb, fo + q * 6 + 4, none⟩ = some (.slice hd'.v.A cf.vars.length hd'.v.c) ∧ w'.cell? ⟨fb, fo + q * 6 + 5, none⟩ = some (.slice hd'.b.A cf.body.length hd'.b.c)) (by kernel_rfl) ?_
              have H5 := H3.drew
              obtain ⟨w5, hw⟩ : ∃ wq, wq = wc.drew := ⟨_, rfl⟩
              rw [← hw] at H5 ⊢
              clear hw
              have hS : w5.cell? ⟨gc, 4, none⟩ = some (.slice (some ⟨fb, fo, none⟩) s.funcs.length h.f.c) ∧ w5.cell? ⟨g14, 1, none⟩ = some (.int .i64 q) ∧ w5.cell? ⟨fb, fo + q * 6, none⟩ = some (.string cf.name) ∧ w5.cell? ⟨fb, fo + q * 6 + 1, none⟩ = some (.int .u64 cf.level) ∧ w5.cell? ⟨fb, fo + q * 6 + 2, none⟩ = some (.slice hd'.p.A cf.params.length hd'.p.c) ∧ w5.cell? ⟨fb, fo + q * 6 + 3, none⟩ = some (.slice hd'.r.A cf.results.length hd'.r.c) ∧ w5.cell? ⟨fb, fo + q * 6 + 4, none⟩ = some (.slice hd'.v.A cf.vars.length hd'.v.c) ∧ w5.cell? ⟨fb, fo + q * 6 + 5, none⟩ = some (.slice hd'.b.A cf.body.length hd'.b.c) := by
                have h3 := (H5.box_cell 0 rfl).1 4
                have h2 := (H5.box_cell 2 rfl).1 1
                have h4 : w5.cell? ⟨gc, 4, none⟩ = some (.slice h.f.A h.f.n h.f.c) := by simpa using h3
                rw [HFN.out, HA.out] at h4
                exact ⟨h4, by simpa using h2, H5.old C0.out.1, H5.old C0.out.2.1, H5.old C0.out.2.2.1, H5.old C0.out.2.2.2.1, H5.old C0.out.2.2.2.2.1, H5.old C0.out.2.2.2.2.2⟩
              refine wpAnyB_take' (i := 0) (v := pt gc) rfl (by kernel_rfl) (by kernel_rfl) rfl (by kernel_rfl) (by kernel_rfl) (fun _ _ _ h => h) (by rfl) hS (by intro w' hS'; obtain ⟨k1, k2, k3, k4, k5, k6, k7, k8⟩ := hS'; first | (go_simp; done) | (go_simp; rfl) | (go_simp; omega) | (go_simp; assumption)) ?_
              simp only [Act.put, List.setIfInBounds_toArray, List.set_cons_zero, List.set_cons_succ]
              refine wpAnyB_take' (i := 1) (v := pt gc) rfl (by kernel_rfl) (by kernel_rfl) rfl (by kernel_rfl) (by kernel_rfl) (fun _ _ _ h => h) (by rfl) hS (by intro w' hS'; obtain ⟨k1, k2, k3, k4, k5, k6, k7, k8⟩ := hS'; first | (go_simp; done) | (go_simp; rfl) | (go_simp; omega) | (go_simp; assumption)) ?_
              simp only [Act.put, List.setIfInBounds_toArray, List.set_cons_zero, List.set_cons_succ]
              refine wpAnyB_take' (i := 2) (v := pt gc) rfl (by kernel_rfl) (by kernel_rfl) rfl (by kernel_rfl) (by kernel_rfl) (fun _ _ _ h => h) (by rfl) hS (by intro w' hS'; obtain ⟨k1, k2, k3, k4, k5, k6, k7, k8⟩ := hS'; first | (go_simp; done) | (go_simp; rfl) | (go_simp; omega) | (go_simp; assumption)) ?_
              simp only [Act.put, List.setIfInBounds_toArray, List.set_cons_zero, List.set_cons_succ]
              refine wpAnyB_take' (i := 3) (v := .pointer (some ⟨gc, 4, none⟩)) rfl (by kernel_rfl) (by kernel_rfl) rfl (by kernel_rfl) (by kernel_rfl) (fun _ _ _ h => h) (by rfl) hS (by intro w' hS'; obtain ⟨k1, k2, k3, k4, k5, k6, k7, k8⟩ := hS'; first | (go_simp; done) | (go_simp; rfl) | (go_simp; omega) | (go_simp; assumption)) ?_
              simp only [Act.put, List.setIfInBounds_toArray, List.set_cons_zero, List.set_cons_succ]
              refine wpAnyB_take' (i := 4) (v := .slice (some ⟨fb, fo, none⟩) s.funcs.length h.f.c) rfl (by kernel_rfl) (by kernel_rfl) rfl (by kernel_rfl) (by kernel_rfl) (fun _ _ _ h => h) (by rfl) hS (by intro w' hS'; obtain ⟨k1, k2, k3, k4, k5, k6, k7, k8⟩ := hS'; first | (go_simp; done) | (go_simp; rfl) | (go_simp; omega) | (go_simp; assumption)) ?_
              simp only [Act.put, List.setIfInBounds_toArray, List.set_cons_zero, List.set_cons_succ]
              refine wpAnyB_take' (i := 5) (v := .pointer (some ⟨g14, 1, none⟩)) rfl (by kernel_rfl) (by kernel_rfl) rfl (by kernel_rfl) (by kernel_rfl) (fun _ _ _ h => h) (by rfl) hS (by intro w' hS'; obtain ⟨k1, k2, k3, k4, k5, k6, k7, k8⟩ := hS'; first | (go_simp; done) | (go_simp; rfl) | (go_simp; omega) | (go_simp; assumption)) ?_
              simp only [Act.put, List.setIfInBounds_toArray, List.set_cons_zero, List.set_cons_succ]
              refine wpAnyB_take' (i := 6) (v := I (q : Int)) rfl (by kernel_rfl) (by kernel_rfl) rfl (by kernel_rfl) (by kernel_rfl) (fun _ _ _ h => h) (by rfl) hS (by intro w' hS'; obtain ⟨k1, k2, k3, k4, k5, k6, k7, k8⟩ := hS'; first | (go_simp; done) | (go_simp; rfl) | (go_simp; omega) | (go_simp; assumption)) ?_
              simp only [Act.put, List.setIfInBounds_toArray, List.set_cons_zero, List.set_cons_succ]
              refine wpAnyB_take' (i := 7) (v := .pointer (some ⟨fb, fo + q * 6, none⟩)) rfl (by kernel_rfl) (by kernel_rfl) rfl (by kernel_rfl) (by kernel_rfl) (fun _ _ _ h => h) (by rfl) hS (by intro w' hS'; obtain ⟨k1, k2, k3, k4, k5, k6, k7, k8⟩ := hS'; first | (go_simp; done) | (go_simp; rfl) | (go_simp; omega) | (go_simp; assumption)) ?_
              simp only [Act.put, List.setIfInBounds_toArray, List.set_cons_zero, List.set_cons_succ]
              refine wpAnyB_take' (i := 8) (v := .agg #[.string cf.name, .int .u64 cf.level, .slice hd'.p.A cf.params.length hd'.p.c, .slice hd'.r.A cf.results.length hd'.r.c, .slice hd'.v.A cf.vars.length hd'.v.c, .slice hd'.b.A cf.body.length hd'.b.c]) rfl (by kernel_rfl) (by kernel_rfl) rfl (by kernel_rfl) (by kernel_rfl) (fun _ _ _ h => h) (by rfl) hS (by intro w' hS'; obtain ⟨k1, k2, k3, k4, k5, k6, k7, k8⟩ := hS'; first | (go_simp; done) | (go_simp; rfl) | (go_simp; omega) | (go_simp; assumption)) ?_
              simp only [Act.put, List.setIfInBounds_toArray, List.set_cons_zero, List.set_cons_succ]
              refine wpAnyB_one' (i := 9) rfl (by kernel_rfl) ?_
              (with_reducible refine at_alloc ?_); refine wpList_alloc_box H5 (.agg #[.string ByteArray.empty, .int .u64 0, .slice none 0 0, .slice none 0 0, .slice none 0 0, .slice none 0 0]) (by kernel_rfl) ?_; intro g16 w6 H6
              simp only [vcells_agg] at H6
              refine wpList_nil ?_
              clear hS
              have hS : w6.cell? ⟨gc, 4, none⟩ = some (.slice (some ⟨fb, fo, none⟩) s.funcs.length h.f.c) ∧ w6.cell? ⟨g14, 1, none⟩ = some (.int .i64 q) ∧ w6.cell? ⟨fb, fo + q * 6, none⟩ = some (.string cf.name) ∧ w6.cell? ⟨fb, fo + q * 6 + 1, none⟩ = some (.int .u64 cf.level) ∧ w6.cell? ⟨fb, fo + q * 6 + 2, none⟩ = some (.slice hd'.p.A cf.params.length hd'.p.c) ∧ w6.cell? ⟨fb, fo + q * 6 + 3, none⟩ = some (.slice hd'.r.A cf.results.length hd'.r.c) ∧ w6.cell? ⟨fb, fo + q * 6 + 4, none⟩ = some (.slice hd'.v.A cf.vars.length hd'.v.c) ∧ w6.cell? ⟨fb, fo + q * 6 + 5, none⟩ = some (.slice hd'.b.A cf.body.length hd'.b.c) := by
                have h3 := (H6.box_cell 1 rfl).1 4
                have h2 := (H6.box_cell 3 rfl).1 1
                have h4 : w6.cell? ⟨gc, 4, none⟩ = some (.slice h.f.A h.f.n h.f.c) := by simpa using h3
                rw [HFN.out, HA.out] at h4
                exact ⟨h4, by simpa using h2, H6.old C0.out.1, H6.old C0.out.2.1, H6.old C0.out.2.2.1, H6.old C0.out.2.2.2.1, H6.old C0.out.2.2.2.2.1, H6.old C0.out.2.2.2.2.2⟩
              refine ⟨fun _ => hS, ?_⟩
              simp only [Act.put, List.setIfInBounds_toArray, List.set_cons_zero, List.set_cons_succ]
              refine wpAnyB_one' (i := 10) rfl (by kernel_rfl) ?_
              (with_reducible refine at_store ?_); refine wpList_store_box H6 0 6 rfl rfl (by kernel_rfl) rfl (Nat.le_of_ble_eq_true rfl) rfl ?_; intro u_ w9 hu_ H9
              simp only [splice, vcells, Act.eval, Act.put, List.setIfInBounds_toArray, List.set_cons_zero, List.set_cons_succ, Array.getD_eq_getD_getElem?, List.getElem?_toArray, List.getElem?_cons_zero, List.getElem?_cons_succ, Option.getD_some] at hu_; subst hu_; simp only [splice, vcells_agg, List.take_zero, List.drop_zero, List.length_cons, List.length_nil, List.nil_append, List.cons_append, Nat.zero_add, List.drop_succ_cons, List.append_nil, List.set_cons_zero] at H9
              refine wpList_nil ?_
              clear hS
              have hS : w9.cell? ⟨gc, 4, none⟩ = some (.slice (some ⟨fb, fo, none⟩) s.funcs.length h.f.c) ∧ w9.cell? ⟨g14, 1, none⟩ = some (.int .i64 q) ∧ w9.cell? ⟨fb, fo + q * 6, none⟩ = some (.string cf.name) ∧ w9.cell? ⟨fb, fo + q * 6 + 1, none⟩ = some (.int .u64 cf.level) ∧ w9.cell? ⟨fb, fo + q * 6 + 2, none⟩ = some (.slice hd'.p.A cf.params.length hd'.p.c) ∧ w9.cell? ⟨fb, fo + q * 6 + 3, none⟩ = some (.slice hd'.r.A cf.results.length hd'.r.c) ∧ w9.cell? ⟨fb, fo + q * 6 + 4, none⟩ = some (.slice hd'.v.A cf.vars.length hd'.v.c) ∧ w9.cell? ⟨fb, fo + q * 6 + 5, none⟩ = some (.slice hd'.b.A cf.body.length hd'.b.c) := by
                have h3 := (H9.box_cell 1 rfl).1 4
                have h2 := (H9.box_cell 3 rfl).1 1
                have h4 : w9.cell? ⟨gc, 4, none⟩ = some (.slice h.f.A h.f.n h.f.c) := by simpa using h3
                rw [HFN.out, HA.out] at h4
                exact ⟨h4, by simpa using h2, H9.old C0.out.1, H9.old C0.out.2.1, H9.old C0.out.2.2.1, H9.old C0.out.2.2.2.1, H9.old C0.out.2.2.2.2.1, H9.old C0.out.2.2.2.2.2⟩
              refine ⟨fun _ => hS, ?_⟩
              refine wpAnyB_done (by kernel_rfl) ?_ _
              clear hS b0 b1
              have b0 := H9.cells 2 rfl
              simp only [cellsAre, and_true, Nat.zero_add] at b0
              have b1 := H9.cells 0 rfl
              simp only [cellsAre, and_true, Nat.zero_add] at b1
              by_cases m1 : st.exprs.length = cf.params.length
              · by_cases m2 : 0 < st.targets.length
                · have hm : callBad st cf = ((st.targets.length : Int) != (cf.results.length : Int)) := by unfold callBad; by_cases m3 : st.targets.length = cf.results.length; (rw [decide_eq_false (by omega), m3]; simp); (rw [decide_eq_true (by omega)]; symm; simp; omega)
                  have HM' := hid hm
                  have f1 : ((st.exprs.length : Int) != (cf.params.length : Int)) = false := by simp; omega
                  have f2 : (0 : Int) < (st.targets.length : Int) := by omega
                  clear m1
                  clear hm
                  go_wp2_with (first | (go_at_call 31; (with_reducible refine (tell_calls (((st.targets.length : Int) != (cf.results.length : Int))) 73 (k : Int) (a : Int) (H9.mv 1 rfl)).mono ?_); rintro e w10 ⟨rfl, H10⟩; simp only [List.eraseIdx_cons_succ, List.eraseIdx_cons_zero] at H10))
                  go_end0
                  rw [HST.out, HCALL.out, HM'.out]
                  have H11 := ((H10.drop 3).drop 2).drop 1
                  simp only [List.eraseIdx_cons_succ, List.eraseIdx_cons_zero] at H11
                  exact ⟨rfl, H11⟩
                · have hm : callBad st cf = false := by unfold callBad; exact decide_eq_false (by omega)
                  have HM' := hid hm
                  have f1 : ((st.exprs.length : Int) != (cf.params.length : Int)) = false := by simp; omega
                  have f2 : decide ((0 : Int) < (st.targets.length : Int)) = false := decide_eq_false (by omega)
                  clear m1
                  clear hm
                  go_wp2_with (first | (go_at_call 31; (with_reducible refine (tell_calls (false) 73 (k : Int) (a : Int) (H9.mv 1 rfl)).mono ?_); rintro e w10 ⟨rfl, H10⟩; simp only [List.eraseIdx_cons_succ, List.eraseIdx_cons_zero] at H10))
                  go_end0
                  rw [HST.out, HCALL.out, HM'.out]
                  have H11 := ((H10.drop 3).drop 2).drop 1
                  simp only [List.eraseIdx_cons_succ, List.eraseIdx_cons_zero] at H11
                  exact ⟨rfl, H11⟩
              · have hm : callBad st cf = true := by unfold callBad; exact decide_eq_true (.inl m1)
                have HM' := hid hm
                have f1 : ((st.exprs.length : Int) != (cf.params.length : Int)) = true := by simp; omega
                clear hm
                go_wp2_with (first | (go_at_call 31; (with_reducible refine (tell_calls (true) 73 (k : Int) (a : Int) (H9.mv 1 rfl)).mono ?_); rintro e w10 ⟨rfl, H10⟩; simp only [List.eraseIdx_cons_succ, List.eraseIdx_cons_zero] at H10))
                go_end0
                rw [HST.out, HCALL.out, HM'.out]
                have H11 := ((H10.drop 3).drop 2).drop 1
                simp only [List.eraseIdx_cons_succ, List.eraseIdx_cons_zero] at H11
                exact ⟨rfl, H11⟩
            · have k5' : (r0 == 5) = false := by simpa using k5
              have hcall : callF s k a st x7 = x7 := by unfold callF; rw [HQ.out]; simp [k5]
              have HCALL := hid hcall
              clear hcall
              (try clear k4)
              go_wp2
              go_end0
              rw [HST.out, HCALL.out]
              have H11 := (H3.drop 2).drop 1
              simp only [List.eraseIdx_cons_succ, List.eraseIdx_cons_zero] at H11
              exact ⟨rfl, H11⟩
          · have k4' : (st.kind == 4) = false := by simpa using k4
            have hcall : callF s k a st x7 = x7 := by unfold callF; rw [HQ.out]; simp [k4]
            have HCALL := hid hcall
            clear hcall
            skip
            go_wp2
            go_end0
            rw [HST.out, HCALL.out]
            have H11 := (H3.drop 2).drop 1
            simp only [List.eraseIdx_cons_succ, List.eraseIdx_cons_zero] at H11
            exact ⟨rfl, H11⟩
end Go.Proofs.Ytogndpckiognjaa
