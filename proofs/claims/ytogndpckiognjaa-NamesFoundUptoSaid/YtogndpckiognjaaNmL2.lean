/- Names: lent statements. -/
import Derived.Test.YtogndpckiognjaaNmL
namespace Go.Proofs.Ytogndpckiognjaa
open Go.RowKit
set_option linter.unusedVariables false
set_option linter.unusedSimpArgs false
set_option maxHeartbeats 2000000
theorem lentStrings_foot (A : Option Addr) (c : Nat) (xs : List ByteArray) (w : World) (hx : Rd Enc.str w A xs) (hl : xs.length ≤ 2000000) :
    Calls Try.prog 21 #[.slice A xs.length c] w fun e w' => ∃ A' c', e = .returned (.slice A' xs.length c') ∧ Mem w w' [foot (fun w' => LH Enc.str w.heap.size w' ⟨A', xs.length, c'⟩ xs)] :=
  (lentStrings_calls A c xs w hx (by omega)).mono fun e w' h => by
    obtain ⟨A', c', he, _, hM⟩ := h
    exact ⟨A', c', he, hM.toFoot fun F w hP hB => LH.of_row (by decide) F w hP hB⟩
theorem lentDecls_foot (A : Option Addr) (c : Nat) (xs : List Decl) (w : World) (hx : Rd Enc.decl w A xs) (hl : xs.length ≤ 2000000) :
    Calls Try.prog 22 #[.slice A xs.length c] w fun e w' => ∃ A' c', e = .returned (.slice A' xs.length c') ∧ Mem w w' [foot (fun w' => LH Enc.decl w.heap.size w' ⟨A', xs.length, c'⟩ xs)] :=
  (lentDecls_calls A c xs w hx (by omega)).mono fun e w' h => by
    obtain ⟨A', c', he, _, hM⟩ := h
    exact ⟨A', c', he, hM.toFoot fun F w hP hB => LH.of_row (by decide) F w hP hB⟩
theorem lentTerms_foot (A : Option Addr) (c : Nat) (xs : List Term) (w : World) (hx : Rd Enc.term w A xs) (hl : xs.length ≤ 2000000) :
    Calls Try.prog 42 #[.slice A xs.length c] w fun e w' => ∃ A' c', e = .returned (.slice A' xs.length c') ∧ Mem w w' [foot (fun w' => LH Enc.term w.heap.size w' ⟨A', xs.length, c'⟩ xs)] :=
  (lentTerms_calls A c xs w hx (by omega)).mono fun e w' h => by
    obtain ⟨A', c', he, _, hM⟩ := h
    exact ⟨A', c', he, hM.toFoot fun F w hP hB => LH.of_row (by decide) F w hP hB⟩
theorem lentLabels_foot (A : Option Addr) (c : Nat) (xs : List Int) (w : World) (hx : Rd Enc.u64 w A xs) (hl : xs.length ≤ 2000000) :
    Calls Try.prog 23 #[.slice A xs.length c] w fun e w' => ∃ A' c', e = .returned (.slice A' xs.length c') ∧ Mem w w' [foot (fun w' => LH Enc.u64 w.heap.size w' ⟨A', xs.length, c'⟩ xs)] :=
  (lentLabels_calls A c xs w hx (by omega)).mono fun e w' h => by
    obtain ⟨A', c', he, _, hM⟩ := h
    exact ⟨A', c', he, hM.toFoot fun F w hP hB => LH.of_row (by decide) F w hP hB⟩
def footT (B : Nat) (es : List Hdr) (rows : List (List Term)) (w : World) : Prop := ∀ (i : Nat) (hd : Hdr) (r : List Term), es[i]? = some hd → rows[i]? = some r → LH Enc.term B w hd r
def footS (B : Nat) (hs : List StmtH) (l : List Stmt) (w : World) : Prop := ∀ (i : Nat) (hd : StmtH) (s : Stmt), hs[i]? = some hd → l[i]? = some s → LS B w hd s
theorem snoc_get {α : Type} {xs : List α} {a x : α} {i : Nat} (h : (xs ++ [a])[i]? = some x) : xs[i]? = some x ∨ (i = xs.length ∧ a = x) := by
  rcases Nat.lt_or_ge i xs.length with h1 | h1
  · left; rwa [List.getElem?_append_left h1] at h
  · right
    have h2 := (List.getElem?_eq_some_iff.1 h).1
    have : i = xs.length := by simp at h2; omega
    subst this
    rw [List.getElem?_append_right (Nat.le_refl _), Nat.sub_self] at h
    exact ⟨rfl, by simpa using h⟩
theorem footT.snoc {B : Nat} {es : List Hdr} {rows : List (List Term)} {w : World} {hd : Hdr} {r : List Term} (h : footT B es rows w) (hr : rows[es.length]? = some r) (hl : LH Enc.term B w hd r) : footT B (es ++ [hd]) rows w := by
  intro i x y h1 h2
  rcases snoc_get h1 with h3 | ⟨rfl, rfl⟩
  · exact h i x y h3 h2
  · rw [hr] at h2
    obtain rfl := Option.some.inj h2
    exact hl
theorem footS.snoc {B : Nat} {hs : List StmtH} {l : List Stmt} {w : World} {hd : StmtH} {r : Stmt} (h : footS B hs l w) (hr : l[hs.length]? = some r) (hl : LS B w hd r) : footS B (hs ++ [hd]) l w := by
  intro i x y h1 h2
  rcases snoc_get h1 with h3 | ⟨rfl, rfl⟩
  · exact h i x y h3 h2
  · rw [hr] at h2
    obtain rfl := Option.some.inj h2
    exact hl
def LentRes (l : List Stmt) (w : World) (e : Ending) (w' : World) : Prop := ∃ A c, e = .returned (.slice A l.length c) ∧ Mem w w' [foot (fun w' => ∃ hs, LB w.heap.size w' ⟨A, l.length, c⟩ l hs)]
set_option maxRecDepth 100000 in
theorem lentStmts_calls (h : Hdr) (l : List Stmt) (hs : List StmtH) (w : World) (R : RdB w h l hs) (hl : l.length ≤ 2000000) (ok : ∀ s ∈ l, s.Ok) :
    Calls Try.prog 24 #[.slice h.A l.length h.c] w (LentRes l w) := by
  have HR := hid R
  have HO := hid ok
  clear R ok
  obtain ⟨B, hB⟩ : ∃ B, B = w.heap.size := ⟨_, rfl⟩
  have H0 : Mem w w [foot (footS B [] l), own Enc.stmt 47 none 0 []] := ((Mem.refl w).nilrow 47 4).ftNew fun w' i hd s h1 => by simp at h1
  have HB := hid hB
  clear hB
  go_enter Try.func24, Try.ntmps24
  go_wp2
  go_loopw [3, 4] (fun v3 v wr => ∃ (k : Nat) (A3 : Option Addr) (c3 : Nat) (xs : List StmtH), v = .int .i64 k ∧ v3 = .slice A3 xs.length c3 ∧ k ≤ l.length ∧ xs.length ≤ 2000000 ∧ Hd (xs.length = k) ∧ Mem w wr [foot (footS B xs l), own Enc.stmt 47 A3 c3 xs]) (fun _ v _ => l.length - (intOf v).toNat)
  case atStart => exact ⟨0, none, 0, [], rfl, rfl, Nat.zero_le _, by simp, ⟨rfl⟩, H0⟩
  case round =>
    clear H0
    obtain ⟨k, A3, c3, xs, rfl, rfl, hk, hxl, HX, H1⟩ := hrel
    obtain ⟨w1, rfl⟩ : ∃ wo : World, wo = wr := ⟨_, rfl⟩
    by_cases hlt : k < l.length
    · obtain ⟨st, hst⟩ : ∃ p, l[k]? = some p := ⟨_, List.getElem?_eq_getElem hlt⟩
      have ost := HO.out st (List.mem_of_getElem? hst)
      have HOS := hid ost
      have hel := ost.exprs
      have htl := ost.targets
      obtain ⟨fb, fo, sh, hA, -, RS, p0, p1, p2, p3⟩ := HR.out.at' hst
      obtain ⟨es, hes⟩ := RS.exprs
      have HES := hid hes
      have HRS := hid RS
      have P3 := hid p3
      have e0 := H1.old p0
      have e1 := H1.old p1
      have e2 := H1.old p2
      have e3 := H1.old p3
      have HST := hid hst
      have HA := hid hA
      clear hst ost hes RS p0 p1 p2 p3 hA
      rw [HA.out]
      go_wp2_with (first
        | ((with_reducible refine at_alloc ?_); refine wpList_alloc_box H1 (.agg #[.int .i64 0, .string ByteArray.empty, .slice none 0 0, .slice none 0 0]) (by kernel_rfl) ?_; intro gH2 wH2 H2; simp only [splice, vcells_int, vcells_bool, vcells_string, vcells_pointer, vcells_slice, vcells_map, vcells_func, vcells_nilFunc, vcells_iface, vcells_nilIface, vcells_agg, List.take_zero, List.take_succ_cons, List.drop_zero, List.drop_succ_cons, List.length_cons, List.length_nil, List.nil_append, List.cons_append, List.append_nil, Nat.zero_add, List.set_cons_zero, List.set_cons_succ] at H2)
        | (((with_reducible refine at_store ?_); refine wpList_store_box H2 0 4 rfl rfl (by kernel_rfl) rfl (Nat.le_of_ble_eq_true rfl) rfl ?_; intro u_ wH3 hu_ H3; simp only [Act.eval, Act.put, List.setIfInBounds_toArray, List.set_cons_zero, List.set_cons_succ, Array.getD_eq_getD_getElem?, List.getElem?_toArray, List.getElem?_cons_zero, List.getElem?_cons_succ, Option.getD_some] at hu_; subst hu_; simp only [splice, vcells_int, vcells_bool, vcells_string, vcells_pointer, vcells_slice, vcells_map, vcells_func, vcells_nilFunc, vcells_iface, vcells_nilIface, vcells_agg, List.take_zero, List.take_succ_cons, List.drop_zero, List.drop_succ_cons, List.length_cons, List.length_nil, List.nil_append, List.cons_append, List.append_nil, Nat.zero_add, List.set_cons_zero, List.set_cons_succ] at H3; (try clear b0); have b0 := H3.cells 0 rfl; simp only [cellsAre, and_true, Nat.zero_add] at b0); clear e0 e1 e2 e3)
        | ((go_at_call 21; (with_reducible refine (lentStrings_foot sh.t.A sh.t.c st.targets _ (Rd.below HRS.out.targets.rd H3.below) htl).mono ?_); rintro e w4 ⟨A4, c4, rfl, H4'⟩; have H4 := H3.call H4'; simp only [List.cons_append, List.nil_append] at H4; clear b0); (try clear b0); have b0 := H4.cells 1 rfl; simp only [cellsAre, and_true, Nat.zero_add] at b0)
        | (((with_reducible refine at_store ?_); refine wpList_store_box H4 1 1 rfl rfl (by kernel_rfl) rfl (Nat.le_of_ble_eq_true rfl) rfl ?_; intro u_ wH5 hu_ H5; simp only [Act.eval, Act.put, List.setIfInBounds_toArray, List.set_cons_zero, List.set_cons_succ, Array.getD_eq_getD_getElem?, List.getElem?_toArray, List.getElem?_cons_zero, List.getElem?_cons_succ, Option.getD_some] at hu_; subst hu_; simp only [splice, vcells_int, vcells_bool, vcells_string, vcells_pointer, vcells_slice, vcells_map, vcells_func, vcells_nilFunc, vcells_iface, vcells_nilIface, vcells_agg, List.take_zero, List.take_succ_cons, List.drop_zero, List.drop_succ_cons, List.length_cons, List.length_nil, List.nil_append, List.cons_append, List.append_nil, Nat.zero_add, List.set_cons_zero, List.set_cons_succ] at H5; (try clear b0); have b0 := H5.cells 1 rfl; simp only [cellsAre, and_true, Nat.zero_add] at b0); have e3 := H5.old P3.out))
      have H6 : Mem w wH5 (foot (footT B [] st.exprs) :: own Enc.hdr 60 none 0 [] :: foot (fun w' => LH Enc.str wH3.heap.size w' ⟨A4, st.targets.length, c4⟩ st.targets) :: box gH2 47 #[.int .i64 st.kind, .string st.name, .slice A4 st.targets.length c4, .slice sh.e.A st.exprs.length sh.e.c] :: foot (footS B xs l) :: own Enc.stmt 47 A3 c3 xs :: []) := (H5.nilrow 60 1).ftNew fun w' i hd s h1 => by simp at h1
      have hBw : B ≤ wH3.heap.size := by rw [HB.out]; exact H3.below.size
      have HBW := hid hBw
      clear H2 H3 H4 H4' H5 H1 b0 e3 hBw
      go_loopw [6, 7] (fun v6 v wr => ∃ (j : Nat) (A6 : Option Addr) (c6 : Nat) (ys : List Hdr), v = .int .i64 j ∧ v6 = .slice A6 ys.length c6 ∧ j ≤ st.exprs.length ∧ ys.length ≤ 2000000 ∧ Hd (ys.length = j) ∧ Mem w wr (foot (footT B ys st.exprs) :: own Enc.hdr 60 A6 c6 ys :: foot (fun w' => LH Enc.str wH3.heap.size w' ⟨A4, st.targets.length, c4⟩ st.targets) :: box gH2 47 #[.int .i64 st.kind, .string st.name, .slice A4 st.targets.length c4, .slice sh.e.A st.exprs.length sh.e.c] :: foot (footS B xs l) :: own Enc.stmt 47 A3 c3 xs :: [])) (fun _ v _ => st.exprs.length - (intOf v).toNat)
      case atStart => exact ⟨0, none, 0, [], rfl, rfl, Nat.zero_le _, by simp, ⟨rfl⟩, H6⟩
      case round =>
        clear H6
        obtain ⟨j, A6, c6, ys, rfl, rfl, hj, hyl, HY, H1⟩ := hrel
        obtain ⟨w5, rfl⟩ : ∃ wo : World, wo = wr := ⟨_, rfl⟩
        have e3 := H1.old P3.out
        by_cases hlj : j < st.exprs.length
        · obtain ⟨ex, hex⟩ : ∃ p, st.exprs[j]? = some p := ⟨_, List.getElem?_eq_getElem hlj⟩
          obtain ⟨xb, xo, eh, hxA, -, RX, t0⟩ := HES.out.at' hex
          have hexl : ex.length ≤ 2000000 := HOS.out.expr ex (List.mem_of_getElem? hex)
          have HRX := hid RX
          have HEX := hid hex
          have HXA := hid hxA
          have f0 := H1.old t0
          rw [hxA] at e3
          clear hex RX t0 hxA
          have hB5 : B ≤ w5.heap.size := by rw [HB.out]; exact H1.below.size
          go_wp2_with (first
            | (go_at_call 42; (with_reducible refine (lentTerms_foot eh.A eh.c ex _ (Rd.below HRX.out.rd H1.below) hexl).mono ?_); rintro e w6 ⟨A7, c7, rfl, H2'⟩; have H2 := H1.call H2'; simp only [List.cons_append, List.nil_append] at H2; clear e3 f0)
            | ((with_reducible refine at_build1 ?_); refine wpList_build1 elt_terms H2 rfl rfl (by decide) ?_; intro u_ gH3 wH3 hu_ H3; simp only [Act.eval, Act.put, List.setIfInBounds_toArray, List.set_cons_zero, List.set_cons_succ, Array.getD_eq_getD_getElem?, List.getElem?_toArray, List.getElem?_cons_zero, List.getElem?_cons_succ, Option.getD_some] at hu_; subst hu_; simp only [splice, vcells_int, vcells_bool, vcells_string, vcells_pointer, vcells_slice, vcells_map, vcells_func, vcells_nilFunc, vcells_iface, vcells_nilIface, vcells_agg, List.take_zero, List.take_succ_cons, List.drop_zero, List.drop_succ_cons, List.length_cons, List.length_nil, List.nil_append, List.cons_append, List.append_nil, Nat.zero_add, List.set_cons_zero, List.set_cons_succ] at H3)
            | ((with_reducible refine at_append ?_); refine wpList_append_own1 (E := Enc.hdr) elt_terms H3 3 (⟨A7, ex.length, c7⟩ : Hdr) rfl rfl rfl rfl (H3.rd 0 rfl elt_terms.pos).1 (by omega) (by decide) ?_; intro AH4 cH4 wH4 H4; simp only [List.set_cons_zero, List.set_cons_succ] at H4; replace H4 := H4.drop 0; simp only [List.eraseIdx_cons_zero] at H4))
          have H5 := H4.ftAnd.ftMono (K' := footT B (ys ++ [⟨A7, ex.length, c7⟩]) st.exprs) fun w' h => h.2.snoc (by rw [HY.out]; exact HEX.out) (h.1.less hB5)
          go_roundw
          case rel =>
            refine ⟨j + 1, AH4, cH4, ys ++ [⟨A7, ex.length, c7⟩], by go_num, by rw [List.length_append]; rfl, by omega, ?_, ⟨?_⟩, H5⟩
            · rw [List.length_append, HY.out]; simp; omega
            · rw [List.length_append, HY.out]; rfl
          case measure => first | (simp [intOf]; done) | (simp [intOf]; omega)
        · obtain rfl : j = st.exprs.length := by omega
          have hyl2 : ys.length = st.exprs.length := HY.out
          rw [hyl2] at hyl ⊢
          have HYL := hid hyl2
          clear hyl2 hlj hj
          have b0 := H1.cells 3 rfl
          simp only [cellsAre, and_true, Nat.zero_add] at b0
          obtain ⟨-, hc6, hc6'⟩ := H1.own_rd 1 rfl (by decide)
          rw [HYL.out] at hc6
          unfold maxLen at hc6'
          go_wp2_with (first
            | (((with_reducible refine at_build1 ?_); refine wpList_build1 elt_terms H1 rfl rfl (by decide) ?_; intro u_ gH2 wH2 hu_ H2; simp only [Act.eval, Act.put, List.setIfInBounds_toArray, List.set_cons_zero, List.set_cons_succ, Array.getD_eq_getD_getElem?, List.getElem?_toArray, List.getElem?_cons_zero, List.getElem?_cons_succ, Option.getD_some] at hu_; subst hu_; simp only [splice, vcells_int, vcells_bool, vcells_string, vcells_pointer, vcells_slice, vcells_map, vcells_func, vcells_nilFunc, vcells_iface, vcells_nilIface, vcells_agg, List.take_zero, List.take_succ_cons, List.drop_zero, List.drop_succ_cons, List.length_cons, List.length_nil, List.nil_append, List.cons_append, List.append_nil, Nat.zero_add, List.set_cons_zero, List.set_cons_succ] at H2); clear b0 e3; have b0 := H2.cells 4 rfl; simp only [cellsAre, and_true, Nat.zero_add] at b0; have e3 := H2.old P3.out)
            | ((with_reducible refine at_append ?_); refine wpList_append_row rfl _ _ rfl elt_terms H2 2 rfl (by rw [HYL.out]; rfl) rfl (H2.rd 0 rfl elt_terms.pos).1 (by rw [HYL.out]; unfold maxLen; omega) (by rw [HYL.out]; omega) ?_; intro A8 c8 w8 H3; simp only [List.set_cons_zero, List.set_cons_succ] at H3; rw [HYL.out] at H3 ⊢; clear b0 e3; have b0 := H3.cells 4 rfl; simp only [cellsAre, and_true, Nat.zero_add] at b0; have e3 := H3.old P3.out; obtain ⟨-, hc8, hc8'⟩ := H3.rd 2 rfl elt_terms.pos; unfold maxLen at hc8')
            | (((with_reducible refine at_store ?_); refine wpList_store_box H3 4 1 rfl rfl (by kernel_rfl) rfl (Nat.le_of_ble_eq_true rfl) rfl ?_; intro u_ wH5 hu_ H5; simp only [Act.eval, Act.put, List.setIfInBounds_toArray, List.set_cons_zero, List.set_cons_succ, Array.getD_eq_getD_getElem?, List.getElem?_toArray, List.getElem?_cons_zero, List.getElem?_cons_succ, Option.getD_some] at hu_; subst hu_; simp only [splice, vcells_int, vcells_bool, vcells_string, vcells_pointer, vcells_slice, vcells_map, vcells_func, vcells_nilFunc, vcells_iface, vcells_nilIface, vcells_agg, List.take_zero, List.take_succ_cons, List.drop_zero, List.drop_succ_cons, List.length_cons, List.length_nil, List.nil_append, List.cons_append, List.append_nil, Nat.zero_add, List.set_cons_zero, List.set_cons_succ] at H5; (try clear b0); have b0 := H5.cells 4 rfl; simp only [cellsAre, and_true, Nat.zero_add] at b0))
            | ((with_reducible refine at_build1 ?_); refine wpList_build1 elt_stmt H5 rfl rfl (by decide) ?_; intro u_ gH6 wH6 hu_ H6; simp only [Act.eval, Act.put, List.setIfInBounds_toArray, List.set_cons_zero, List.set_cons_succ, Array.getD_eq_getD_getElem?, List.getElem?_toArray, List.getElem?_cons_zero, List.getElem?_cons_succ, Option.getD_some] at hu_; subst hu_; simp only [splice, vcells_int, vcells_bool, vcells_string, vcells_pointer, vcells_slice, vcells_map, vcells_func, vcells_nilFunc, vcells_iface, vcells_nilIface, vcells_agg, List.take_zero, List.take_succ_cons, List.drop_zero, List.drop_succ_cons, List.length_cons, List.length_nil, List.nil_append, List.cons_append, List.append_nil, Nat.zero_add, List.set_cons_zero, List.set_cons_succ] at H6)
            | ((with_reducible refine at_append ?_); refine wpList_append_own2 (E := Enc.stmt) elt_stmt H6 7 (⟨st.kind, st.name, ⟨A4, st.targets.length, c4⟩, ⟨A8, st.exprs.length, c8⟩⟩ : StmtH) rfl rfl rfl rfl (H6.rd 0 rfl elt_stmt.pos).1 (by omega) (by decide) ?_; intro AH7 cH7 wH7 H7; simp only [List.set_cons_zero, List.set_cons_succ] at H7; replace H7 := H7.drop 0; simp only [List.eraseIdx_cons_zero] at H7))
          have H8 := (H7.drop 0).mv 1 rfl
          simp only [List.eraseIdx_cons_succ, List.eraseIdx_cons_zero] at H8
          have H9 := (H8.toFoot (K := fun w' => LH Enc.hdr B w' ⟨A8, ys.length, c8⟩ ys) fun F w' hP hF => LH.of_row (T := 60) (mk := [.slice none 0 0]) (by decide) F w' (by rw [HYL.out]; exact hP) (by rw [HB.out]; exact hF)).ftAnd.ftAnd
          have H10 := (H9.drop 1).ftAnd.ftMono (K' := footS B (xs ++ [⟨st.kind, st.name, ⟨A4, st.targets.length, c4⟩, ⟨A8, st.exprs.length, c8⟩⟩]) l) fun w' h => h.2.snoc (by rw [HX.out]; exact HST.out) ⟨rfl, rfl, h.1.2.less HBW.out, ys, HYL.out, by rw [← HYL.out]; exact h.1.1.1, h.1.1.2⟩
          go_roundw
          case rel =>
            refine ⟨k + 1, AH7, cH7, xs ++ [⟨st.kind, st.name, ⟨A4, st.targets.length, c4⟩, ⟨A8, st.exprs.length, c8⟩⟩], by go_num, by rw [List.length_append]; rfl, by omega, ?_, ⟨?_⟩, H10⟩
            · rw [List.length_append, HX.out]; simp; omega
            · rw [List.length_append, HX.out]; rfl
          case measure => first | (simp [intOf]; done) | (simp [intOf]; omega)
    · obtain rfl : k = l.length := by omega
      have hxl2 : xs.length = l.length := HX.out
      rw [hxl2] at hxl ⊢
      have HXL := hid hxl2
      clear hxl2 hlt hk
      obtain ⟨-, hc3, hc3'⟩ := H1.own_rd 1 rfl (by decide)
      rw [HXL.out] at hc3
      unfold maxLen at hc3'
      go_wp2_with (first
        | ((with_reducible refine at_build1 ?_); refine wpList_build1 elt_stmt H1 rfl rfl (by decide) ?_; intro u_ gH2 wH2 hu_ H2; simp only [Act.eval, Act.put, List.setIfInBounds_toArray, List.set_cons_zero, List.set_cons_succ, Array.getD_eq_getD_getElem?, List.getElem?_toArray, List.getElem?_cons_zero, List.getElem?_cons_succ, Option.getD_some] at hu_; subst hu_; simp only [splice, vcells_int, vcells_bool, vcells_string, vcells_pointer, vcells_slice, vcells_map, vcells_func, vcells_nilFunc, vcells_iface, vcells_nilIface, vcells_agg, List.take_zero, List.take_succ_cons, List.drop_zero, List.drop_succ_cons, List.length_cons, List.length_nil, List.nil_append, List.cons_append, List.append_nil, Nat.zero_add, List.set_cons_zero, List.set_cons_succ] at H2)
        | ((with_reducible refine at_append ?_); refine wpList_append_row rfl _ _ rfl elt_stmt H2 2 rfl (by rw [HXL.out]; rfl) rfl (H2.rd 0 rfl elt_stmt.pos).1 (by rw [HXL.out]; unfold maxLen; omega) (by rw [HXL.out]; omega) ?_; intro A8 c8 w8 H3; simp only [List.set_cons_zero, List.set_cons_succ] at H3; rw [HXL.out] at H3 ⊢; obtain ⟨-, hc8, hc8'⟩ := H3.rd 2 rfl elt_stmt.pos; unfold maxLen at hc8'))
      go_ret
      have H4 := (H3.drop 0).mv 1 rfl
      simp only [List.eraseIdx_cons_succ, List.eraseIdx_cons_zero] at H4
      have H5 := (H4.toFoot (K := fun w' => LH Enc.stmt B w' ⟨A8, xs.length, c8⟩ xs) fun F w' hP hF => LH.of_row (T := 47) (mk := [.int .i64 (-71), .string ByteArray.empty, .slice none 0 0, .slice none 0 0]) (by decide) F w' (by rw [HXL.out]; exact hP) (by rw [HB.out]; exact hF)).ftAnd
      refine ⟨A8, c8, rfl, H5.ftMono fun w' h => ⟨xs, HXL.out, ?_, ?_⟩⟩
      · rw [← HB.out, ← HXL.out]; exact h.1
      · rw [← HB.out]; exact h.2
end Go.Proofs.Ytogndpckiognjaa
