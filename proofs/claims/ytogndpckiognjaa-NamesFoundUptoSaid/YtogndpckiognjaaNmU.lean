/- Names: a statement's uses, listed. -/
import Derived.Test.YtogndpckiognjaaNmP
namespace Go.Proofs.Ytogndpckiognjaa
open Go.RowKit
set_option linter.unusedVariables false
set_option linter.unusedSimpArgs false
set_option maxHeartbeats 2000000
theorem elt_pair : Elt Try.prog 48 55 2 16 (.agg #[.int .i64 0, .int .i64 0]) := elt_of Try.underlying48 (by kernel_rfl) rfl (by decide) rfl
def Enc.pair : Enc (Int × Int) := ⟨2, fun x => [.int .i64 x.1, .int .i64 x.2], fun _ => rfl, fun _ u h => by simp at h; rcases h with rfl | rfl <;> rfl⟩
abbrev uN (l : List (ByteArray × Int × Int)) : List ByteArray := l.map (·.1)
abbrev uK (l : List (ByteArray × Int × Int)) : List (Int × Int) := l.map (·.2)
def KindsRes (U : List (ByteArray × Int × Int)) (w : World) (e : Ending) (w' : World) : Prop := ∃ A c B d, e = .returned (.tuple #[.slice A U.length c, .slice B U.length d]) ∧ Mem w w' [own Enc.str 9 A c (uN U), own Enc.pair 55 B d (uK U)]
theorem flat_at {α β : Type} {l : List α} {k : Nat} {a : α} (f : α → List β) (h : l[k]? = some a) : (l.take (k + 1)).flatMap f = (l.take k).flatMap f ++ f a := by
  rw [List.take_add_one, h]
  simp
theorem uterm_len (t : Term) : (uterm t).length ≤ 1 := by unfold uterm; split <;> (try split) <;> simp
theorem flat_bound {α β : Type} (f : α → List β) (N : Nat) : ∀ (l : List α), (∀ a ∈ l, (f a).length ≤ N) → (l.flatMap f).length ≤ l.length * N
  | [], _ => by simp
  | a :: l, h => by
    have h1 := flat_bound f N l fun b hb => h b (by simp [hb])
    have h2 := h a (by simp)
    rw [List.flatMap_cons, List.length_append, List.length_cons, Nat.succ_mul]
    omega
theorem flat_le {α β : Type} (f : α → List β) (N : Nat) (l : List α) (h : ∀ a ∈ l, (f a).length ≤ N) (k : Nat) : ((l.take k).flatMap f).length ≤ k * N := by
  refine Nat.le_trans (flat_bound f N _ fun a ha => h a (List.mem_of_mem_take ha)) (Nat.mul_le_mul_right _ (by simp; omega))
set_option maxRecDepth 100000 in
theorem kinds_calls (sh : StmtH) (st : Stmt) (w : World) (R : RdS w sh st) (ok : st.Ok) (h8 : st.exprs.length ≤ 8) (h48 : ∀ e ∈ st.exprs, e.length ≤ 48) :
    Calls Try.prog 9 #[stV sh st] w (KindsRes (useL st) w) := by
  obtain ⟨es, hes⟩ := R.exprs
  have HES := hid hes
  have HRS := hid R
  have HE8 := hid h48
  have hlt := ok.targets
  obtain ⟨UT, hUT⟩ : ∃ U, st.targets.map (fun n => (n, (1 : Int), (2 : Int))) ++ ukind st = U := ⟨_, rfl⟩
  have hULn : UT.length ≤ 2000001 := by
    rw [← hUT, List.length_append, List.length_map]
    have : (ukind st).length ≤ 1 := by unfold ukind; split <;> simp
    omega
  have HUT := hid hUT
  have HUX : Hd (∀ i, ((st.exprs.take i).flatMap fun e => e.flatMap uterm).length ≤ 384) := ⟨fun i => by
    have h1 := flat_bound (fun e : List Term => e.flatMap uterm) 48 (st.exprs.take i) fun e he => by
      have h2 := flat_bound uterm 1 e fun t _ => uterm_len t
      have h3 := h48 e (List.mem_of_mem_take he)
      omega
    have h4 : (st.exprs.take i).length ≤ 8 := by simp; omega
    exact Nat.le_trans h1 (Nat.mul_le_mul_right 48 h4)⟩
  have HUI : Hd (∀ (e : List Term) j, e.length ≤ 48 → ((e.take j).flatMap uterm).length ≤ 48) := ⟨fun e j he => by
    have h1 := flat_bound uterm 1 (e.take j) fun t _ => uterm_len t
    have h4 : (e.take j).length ≤ 48 := by simp; omega
    omega⟩
  have H0 : Mem w w [own Enc.str 9 none 0 [], own Enc.pair 55 none 0 []] := ((Mem.refl w).nilrow 55 2).nilrow 9 1
  clear R ok hes h48 hUT
  simp only [stV]
  go_enter Try.func9, Try.ntmps9
  go_wp2_with (first | ((with_reducible refine at_box ?_); refine wpList_box_box H0 ?_; intro u_ gH1 wH1 hu_ H1; simp only [Act.eval, Act.put, List.setIfInBounds_toArray, List.set_cons_zero, List.set_cons_succ, Array.getD_eq_getD_getElem?, List.getElem?_toArray, List.getElem?_cons_zero, List.getElem?_cons_succ, Option.getD_some] at hu_; subst hu_; simp only [splice, vcells_int, vcells_bool, vcells_string, vcells_pointer, vcells_slice, vcells_map, vcells_func, vcells_nilFunc, vcells_iface, vcells_nilIface, vcells_agg, List.take_zero, List.take_succ_cons, List.drop_zero, List.drop_succ_cons, List.length_cons, List.length_nil, List.nil_append, List.cons_append, List.append_nil, Nat.zero_add, List.set_cons_zero, List.set_cons_succ] at H1; (try clear b0); have b0 := H1.cells 0 rfl; simp only [cellsAre, and_true, Nat.zero_add] at b0))
  clear b0
  have H1 : Mem w wH1 [stB gH1 sh st, own Enc.str 9 none 0 [], own Enc.pair 55 none 0 []] := H1
  go_loopw [4, 5, 6] (fun v4 v5 v wr => ∃ (i : Nat) (A4 : Option Addr) (c4 : Nat) (xs : List ByteArray) (A5 : Option Addr) (c5 : Nat) (ys : List (Int × Int)), v = .int .i64 i ∧ v4 = .slice A4 xs.length c4 ∧ v5 = .slice A5 ys.length c5 ∧ i ≤ st.targets.length ∧ xs.length ≤ 2000000 ∧ ys.length ≤ 2000000 ∧ Hd (xs = uN ((st.targets.take i).map fun n => (n, (1 : Int), (2 : Int)))) ∧ Hd (ys = uK ((st.targets.take i).map fun n => (n, (1 : Int), (2 : Int)))) ∧ Mem w wr [stB gH1 sh st, own Enc.str 9 A4 c4 xs, own Enc.pair 55 A5 c5 ys]) (fun _ _ v _ => st.targets.length - (intOf v).toNat)
  case atStart => exact ⟨0, none, 0, [], none, 0, [], rfl, rfl, rfl, Nat.zero_le _, by simp, by simp, ⟨rfl⟩, ⟨rfl⟩, H1⟩
  case round =>
    clear H1 H0
    obtain ⟨i, A4, c4, xs, A5, c5, ys, rfl, rfl, rfl, hi, hxl, hyl, HX, HY, H1⟩ := hrel
    obtain ⟨w1, rfl⟩ : ∃ wo : World, wo = wr := ⟨_, rfl⟩
    have b0 := H1.cells 0 rfl
    simp only [cellsAre, and_true, Nat.zero_add] at b0
    by_cases hlt2 : i < st.targets.length
    · obtain ⟨nm, hnm⟩ : ∃ p, st.targets[i]? = some p := ⟨_, List.getElem?_eq_getElem hlt2⟩
      obtain ⟨tb, to_, htA, t0⟩ := HRS.out.targets.rd.get1 rfl hnm rfl
      have HTA := hid htA
      have e0 := H1.old t0
      rw [htA] at b0
      have HNM := hid hnm
      clear hnm htA t0
      go_wp2_with (first
        | (((with_reducible refine at_build1 ?_); refine wpList_build1 elt_str H1 rfl rfl (by decide) ?_; intro u_ gH2 wH2 hu_ H2; simp only [Act.eval, Act.put, List.setIfInBounds_toArray, List.set_cons_zero, List.set_cons_succ, Array.getD_eq_getD_getElem?, List.getElem?_toArray, List.getElem?_cons_zero, List.getElem?_cons_succ, Option.getD_some] at hu_; subst hu_; simp only [splice, vcells_int, vcells_bool, vcells_string, vcells_pointer, vcells_slice, vcells_map, vcells_func, vcells_nilFunc, vcells_iface, vcells_nilIface, vcells_agg, List.take_zero, List.take_succ_cons, List.drop_zero, List.drop_succ_cons, List.length_cons, List.length_nil, List.nil_append, List.cons_append, List.append_nil, Nat.zero_add, List.set_cons_zero, List.set_cons_succ] at H2); clear b0 e0)
        | ((with_reducible refine at_append ?_); refine wpList_append_own1 (E := Enc.str) elt_str H2 2 nm rfl rfl rfl rfl (H2.rd 0 rfl elt_str.pos).1 (by omega) (by decide) ?_; intro AH3 cH3 wH3 H3; simp only [List.set_cons_zero, List.set_cons_succ] at H3; replace H3 := H3.drop 0; simp only [List.eraseIdx_cons_zero] at H3)
        | ((with_reducible refine at_build1 ?_); refine wpList_build1 elt_pair H3 rfl rfl (by decide) ?_; intro u_ gH4 wH4 hu_ H4; simp only [Act.eval, Act.put, List.setIfInBounds_toArray, List.set_cons_zero, List.set_cons_succ, Array.getD_eq_getD_getElem?, List.getElem?_toArray, List.getElem?_cons_zero, List.getElem?_cons_succ, Option.getD_some] at hu_; subst hu_; simp only [splice, vcells_int, vcells_bool, vcells_string, vcells_pointer, vcells_slice, vcells_map, vcells_func, vcells_nilFunc, vcells_iface, vcells_nilIface, vcells_agg, List.take_zero, List.take_succ_cons, List.drop_zero, List.drop_succ_cons, List.length_cons, List.length_nil, List.nil_append, List.cons_append, List.append_nil, Nat.zero_add, List.set_cons_zero, List.set_cons_succ] at H4)
        | ((with_reducible refine at_append ?_); refine wpList_append_own1 (E := Enc.pair) elt_pair H4 3 ((1, 2) : Int × Int) rfl rfl rfl rfl (H4.rd 0 rfl elt_pair.pos).1 (by omega) (by decide) ?_; intro AH5 cH5 wH5 H5; simp only [List.set_cons_zero, List.set_cons_succ] at H5; replace H5 := H5.drop 0; simp only [List.eraseIdx_cons_zero] at H5))
      go_roundw
      case rel =>
        have hx2 : xs ++ [nm] = uN ((st.targets.take (i + 1)).map fun n => (n, (1 : Int), (2 : Int))) := by rw [HX.out, map_take _ HNM.out]; simp [uN]
        have hy2 : ys ++ [((1, 2) : Int × Int)] = uK ((st.targets.take (i + 1)).map fun n => (n, (1 : Int), (2 : Int))) := by rw [HY.out, map_take _ HNM.out]; simp [uK]
        refine ⟨i + 1, AH3, cH3, xs ++ [nm], AH5, cH5, ys ++ [((1, 2) : Int × Int)], by go_num, by rw [List.length_append]; rfl, by rw [List.length_append]; rfl, by omega, ?_, ?_, ⟨hx2⟩, ⟨hy2⟩, H5⟩
        · rw [hx2]; simp; omega
        · rw [hy2]; simp; omega
      case measure => first | (simp [intOf]; done) | (simp [intOf]; omega)
    · obtain rfl : i = st.targets.length := by omega
      rw [List.take_length] at HX HY
      clear hlt2 hi
      obtain ⟨bb, hbb⟩ : ∃ bb, decide (st.kind = 2 ∨ st.kind = 3 ∨ st.kind = 4) = bb := ⟨_, rfl⟩
      have HBB := hid hbb
      clear hbb
      go_upto_region 8 with (fail)
      go_cut [41] from 29 to 40 (fun v41 wc => v41 = .bool bb ∧ wc = w1)
      case first =>
        by_cases k2 : st.kind = 2
        · have k2' : (st.kind == 2) = true := by simpa using k2
          have hd : decide (st.kind = 2 ∨ st.kind = 3 ∨ st.kind = 4) = true := decide_eq_true (.inl k2)
          rw [HBB.out] at hd
          have HD := hid hd
          clear k2 hd
          go_wp2
          go_meet
          rw [HD.out]
          exact ⟨rfl, rfl⟩
        · have k2' : (st.kind == 2) = false := by simpa using k2
          by_cases k3 : st.kind = 3
          · have k3' : (st.kind == 3) = true := by simpa using k3
            have hd : decide (st.kind = 2 ∨ st.kind = 3 ∨ st.kind = 4) = true := decide_eq_true (.inr (.inl k3))
            rw [HBB.out] at hd
            have HD := hid hd
            clear k2 k3 hd
            go_wp2
            go_meet
            rw [HD.out]
            exact ⟨rfl, rfl⟩
          · have k3' : (st.kind == 3) = false := by simpa using k3
            have hd : decide (st.kind = 2 ∨ st.kind = 3 ∨ st.kind = 4) = (st.kind == 4) := by simp [k2, k3]; rfl
            rw [HBB.out] at hd
            have HD := hid hd
            clear k2 k3 hd
            go_wp2
            go_meet
            rw [HD.out]
            exact ⟨rfl, rfl⟩
      case rest =>
      obtain ⟨rfl, rfl⟩ := hcut
      go_upto_if 41 with (fail)
      go_cut [4, 5] from 42 to 56 (fun v4 v5 wc => ∃ (A4 : Option Addr) (c4 : Nat) (xs : List ByteArray) (A5 : Option Addr) (c5 : Nat) (ys : List (Int × Int)), v4 = .slice A4 xs.length c4 ∧ v5 = .slice A5 ys.length c5 ∧ Hd (xs = uN UT) ∧ Hd (ys = uK UT) ∧ Mem w wc [stB gH1 sh st, own Enc.str 9 A4 c4 xs, own Enc.pair 55 A5 c5 ys])
      case first =>
        cases bb with
        | true =>
          have kk := of_decide_eq_true HBB.out
          have hu : ukind st = [(st.name, st.kind + 1, st.kind + 1)] := by unfold ukind; rw [if_pos kk]
          have hk1 : 2 ≤ st.kind := by omega
          have hk2 : st.kind ≤ 4 := by omega
          have HU := hid hu
          clear kk hu
          go_wp2_with (first
            | (((with_reducible refine at_build1 ?_); refine wpList_build1 elt_str H1 rfl rfl (by decide) ?_; intro u_ gH2 wH2 hu_ H2; simp only [Act.eval, Act.put, List.setIfInBounds_toArray, List.set_cons_zero, List.set_cons_succ, Array.getD_eq_getD_getElem?, List.getElem?_toArray, List.getElem?_cons_zero, List.getElem?_cons_succ, Option.getD_some] at hu_; subst hu_; simp only [splice, vcells_int, vcells_bool, vcells_string, vcells_pointer, vcells_slice, vcells_map, vcells_func, vcells_nilFunc, vcells_iface, vcells_nilIface, vcells_agg, List.take_zero, List.take_succ_cons, List.drop_zero, List.drop_succ_cons, List.length_cons, List.length_nil, List.nil_append, List.cons_append, List.append_nil, Nat.zero_add, List.set_cons_zero, List.set_cons_succ] at H2); clear b0; have b0 := H2.cells 1 rfl; simp only [cellsAre, and_true, Nat.zero_add] at b0)
            | (((with_reducible refine at_append ?_); refine wpList_append_own1 (E := Enc.str) elt_str H2 2 st.name rfl rfl rfl rfl (H2.rd 0 rfl elt_str.pos).1 (by omega) (by decide) ?_; intro AH3 cH3 wH3 H3; simp only [List.set_cons_zero, List.set_cons_succ] at H3; replace H3 := H3.drop 0; simp only [List.eraseIdx_cons_zero] at H3); clear b0; have b0 := H3.cells 0 rfl; simp only [cellsAre, and_true, Nat.zero_add] at b0)
            | (((with_reducible refine at_build1 ?_); refine wpList_build1 elt_pair H3 rfl rfl (by decide) ?_; intro u_ gH4 wH4 hu_ H4; simp only [Act.eval, Act.put, List.setIfInBounds_toArray, List.set_cons_zero, List.set_cons_succ, Array.getD_eq_getD_getElem?, List.getElem?_toArray, List.getElem?_cons_zero, List.getElem?_cons_succ, Option.getD_some] at hu_; subst hu_; simp only [splice, vcells_int, vcells_bool, vcells_string, vcells_pointer, vcells_slice, vcells_map, vcells_func, vcells_nilFunc, vcells_iface, vcells_nilIface, vcells_agg, List.take_zero, List.take_succ_cons, List.drop_zero, List.drop_succ_cons, List.length_cons, List.length_nil, List.nil_append, List.cons_append, List.append_nil, Nat.zero_add, List.set_cons_zero, List.set_cons_succ] at H4))
            | ((with_reducible refine at_append ?_); refine wpList_append_own1 (E := Enc.pair) elt_pair H4 3 ((st.kind + 1, st.kind + 1) : Int × Int) rfl rfl rfl rfl (H4.rd 0 rfl elt_pair.pos).1 (by omega) (by decide) ?_; intro AH5 cH5 wH5 H5; simp only [List.set_cons_zero, List.set_cons_succ] at H5; replace H5 := H5.drop 0; simp only [List.eraseIdx_cons_zero] at H5))
          go_meet
          refine ⟨AH3, cH3, xs ++ [st.name], AH5, cH5, ys ++ [((st.kind + 1, st.kind + 1) : Int × Int)], by rw [List.length_append]; rfl, by rw [List.length_append]; rfl, ⟨?_⟩, ⟨?_⟩, H5⟩
          · rw [HX.out, ← HUT.out, HU.out]; simp [uN]
          · rw [HY.out, ← HUT.out, HU.out]; simp [uK]
        | false =>
          have kk := of_decide_eq_false HBB.out
          have hu : ukind st = [] := by unfold ukind; rw [if_neg kk]
          have HU := hid hu
          clear kk hu
          go_wp2
          go_meet
          refine ⟨A4, c4, xs, A5, c5, ys, rfl, rfl, ⟨?_⟩, ⟨?_⟩, H1⟩
          · rw [HX.out, ← HUT.out, HU.out]; simp [uN]
          · rw [HY.out, ← HUT.out, HU.out]; simp [uK]
      case rest =>
      obtain ⟨A4', c4', xs', A5', c5', ys', rfl, rfl, HX', HY', H2⟩ := hcut
      clear H1 b0 HX HY hxl hyl
      have hxl' : xs'.length ≤ 2000400 := by rw [HX'.out]; simp; omega
      have hyl' : ys'.length ≤ 2000400 := by rw [HY'.out]; simp; omega
      go_wp2
      go_loopw [4, 5, 7] (fun v4 v5 v wr => ∃ (i : Nat) (A4 : Option Addr) (c4 : Nat) (xs : List ByteArray) (A5 : Option Addr) (c5 : Nat) (ys : List (Int × Int)), v = .int .i64 i ∧ v4 = .slice A4 xs.length c4 ∧ v5 = .slice A5 ys.length c5 ∧ i ≤ st.exprs.length ∧ Hd (xs = uN (UT ++ (st.exprs.take i).flatMap fun e => e.flatMap uterm)) ∧ Hd (ys = uK (UT ++ (st.exprs.take i).flatMap fun e => e.flatMap uterm)) ∧ Mem w wr [stB gH1 sh st, own Enc.str 9 A4 c4 xs, own Enc.pair 55 A5 c5 ys]) (fun _ _ v _ => st.exprs.length - (intOf v).toNat)
      case atStart => exact ⟨0, A4', c4', xs', A5', c5', ys', rfl, rfl, rfl, Nat.zero_le _, ⟨by rw [HX'.out]; simp⟩, ⟨by rw [HY'.out]; simp⟩, H2⟩
      case round =>
        clear H2 HX' HY' hxl' hyl'
        obtain ⟨i, A4, c4, xs, A5, c5, ys, rfl, rfl, rfl, hi, HX, HY, H1⟩ := hrel
        obtain ⟨w2, rfl⟩ : ∃ wo : World, wo = wr := ⟨_, rfl⟩
        have hux := HUX.out i
        have hxl : xs.length ≤ 2000400 := by rw [HX.out]; simp only [uN, List.length_map, List.length_append]; omega
        have hyl : ys.length ≤ 2000400 := by rw [HY.out]; simp only [uK, List.length_map, List.length_append]; omega
        clear hux
        have b0 := H1.cells 0 rfl
        simp only [cellsAre, and_true, Nat.zero_add] at b0
        by_cases hie : i < st.exprs.length
        · obtain ⟨ex, hex⟩ : ∃ p, st.exprs[i]? = some p := ⟨_, List.getElem?_eq_getElem hie⟩
          obtain ⟨xb, xo, eh, hxA, -, RX, t0⟩ := HES.out.at' hex
          have hexl : ex.length ≤ 48 := HE8.out ex (List.mem_of_getElem? hex)
          have HRX := hid RX
          have HEX := hid hex
          have HXA := hid hxA
          have T0 := hid t0
          clear hex hxA RX t0
          go_wp2
          clear b0
          go_loopw [4, 5, 8] (fun v4 v5 v wr => ∃ (j : Nat) (A4 : Option Addr) (c4 : Nat) (xs : List ByteArray) (A5 : Option Addr) (c5 : Nat) (ys : List (Int × Int)), v = .int .i64 j ∧ v4 = .slice A4 xs.length c4 ∧ v5 = .slice A5 ys.length c5 ∧ j ≤ ex.length ∧ Hd (xs = uN (UT ++ ((st.exprs.take i).flatMap fun e => e.flatMap uterm) ++ (ex.take j).flatMap uterm)) ∧ Hd (ys = uK (UT ++ ((st.exprs.take i).flatMap fun e => e.flatMap uterm) ++ (ex.take j).flatMap uterm)) ∧ Mem w wr [stB gH1 sh st, own Enc.str 9 A4 c4 xs, own Enc.pair 55 A5 c5 ys]) (fun _ _ v _ => ex.length - (intOf v).toNat)
          case atStart => exact ⟨0, A4, c4, xs, A5, c5, ys, rfl, rfl, rfl, Nat.zero_le _, ⟨by rw [HX.out]; simp⟩, ⟨by rw [HY.out]; simp⟩, H1⟩
          case round =>
            clear H1 HX HY hxl hyl
            obtain ⟨j, A4, c4, xs, A5, c5, ys, rfl, rfl, rfl, hj, HX, HY, H1⟩ := hrel
            obtain ⟨w3, rfl⟩ : ∃ wo : World, wo = wr := ⟨_, rfl⟩
            have hux := HUX.out i
            have hui := HUI.out ex j hexl
            have hxl : xs.length ≤ 2000500 := by rw [HX.out]; simp only [uN, List.length_map, List.length_append]; omega
            have hyl : ys.length ≤ 2000500 := by rw [HY.out]; simp only [uK, List.length_map, List.length_append]; omega
            clear hux hui
            have b0 := H1.cells 0 rfl
            simp only [cellsAre, and_true, Nat.zero_add] at b0
            rw [HXA.out] at b0
            have f0 := H1.old T0.out
            by_cases hje : j < ex.length
            · obtain ⟨t, ht⟩ : ∃ p, ex[j]? = some p := ⟨_, List.getElem?_eq_getElem hje⟩
              obtain ⟨tb, to_, htA, t0, t1, t2⟩ := HRX.out.rd.get3 rfl ht rfl
              have e0 := H1.old t0
              have e1 := H1.old t1
              have e2 := H1.old t2
              rw [htA] at f0
              have HTT := hid ht
              clear ht htA t0 t1 t2
              by_cases k2 : t.kind = 2
              · have k2' : (t.kind == 2) = true := by simpa using k2
                have k3' : (t.kind == 3) = false := by simp; omega
                have hu : uterm t = [(t.name, 1, 2)] := by unfold uterm; rw [if_pos k2]
                have HU := hid hu
                clear hu k2
                go_wp2_with (first
                  | ((with_reducible refine at_alloc ?_); refine wpList_alloc_box H1 (.agg #[.int .i64 0, .int .i64 0, .string ByteArray.empty]) (by kernel_rfl) ?_; intro gH2 wH2 H2; simp only [splice, vcells_int, vcells_bool, vcells_string, vcells_pointer, vcells_slice, vcells_map, vcells_func, vcells_nilFunc, vcells_iface, vcells_nilIface, vcells_agg, List.take_zero, List.take_succ_cons, List.drop_zero, List.drop_succ_cons, List.length_cons, List.length_nil, List.nil_append, List.cons_append, List.append_nil, Nat.zero_add, List.set_cons_zero, List.set_cons_succ] at H2)
                  | (((with_reducible refine at_store ?_); refine wpList_store_box H2 0 3 rfl rfl (by kernel_rfl) rfl (Nat.le_of_ble_eq_true rfl) rfl ?_; intro u_ wH3 hu_ H3; simp only [Act.eval, Act.put, List.setIfInBounds_toArray, List.set_cons_zero, List.set_cons_succ, Array.getD_eq_getD_getElem?, List.getElem?_toArray, List.getElem?_cons_zero, List.getElem?_cons_succ, Option.getD_some] at hu_; subst hu_; simp only [splice, vcells_int, vcells_bool, vcells_string, vcells_pointer, vcells_slice, vcells_map, vcells_func, vcells_nilFunc, vcells_iface, vcells_nilIface, vcells_agg, List.take_zero, List.take_succ_cons, List.drop_zero, List.drop_succ_cons, List.length_cons, List.length_nil, List.nil_append, List.cons_append, List.append_nil, Nat.zero_add, List.set_cons_zero, List.set_cons_succ] at H3; (try clear b1); have b1 := H3.cells 0 rfl; simp only [cellsAre, and_true, Nat.zero_add] at b1); clear b0 f0 e0 e1 e2)
                  | (((with_reducible refine at_build1 ?_); refine wpList_build1 elt_str H3 rfl rfl (by decide) ?_; intro u_ gH4 wH4 hu_ H4; simp only [Act.eval, Act.put, List.setIfInBounds_toArray, List.set_cons_zero, List.set_cons_succ, Array.getD_eq_getD_getElem?, List.getElem?_toArray, List.getElem?_cons_zero, List.getElem?_cons_succ, Option.getD_some] at hu_; subst hu_; simp only [splice, vcells_int, vcells_bool, vcells_string, vcells_pointer, vcells_slice, vcells_map, vcells_func, vcells_nilFunc, vcells_iface, vcells_nilIface, vcells_agg, List.take_zero, List.take_succ_cons, List.drop_zero, List.drop_succ_cons, List.length_cons, List.length_nil, List.nil_append, List.cons_append, List.append_nil, Nat.zero_add, List.set_cons_zero, List.set_cons_succ] at H4); clear b1; have b1 := H4.cells 1 rfl; simp only [cellsAre, and_true, Nat.zero_add] at b1)
                  | (((with_reducible refine at_append ?_); refine wpList_append_own1 (E := Enc.str) elt_str H4 3 t.name rfl rfl rfl rfl (H4.rd 0 rfl elt_str.pos).1 (by omega) (by decide) ?_; intro AH5 cH5 wH5 H5; simp only [List.set_cons_zero, List.set_cons_succ] at H5; replace H5 := H5.drop 0; simp only [List.eraseIdx_cons_zero] at H5); clear b1; have b1 := H5.cells 0 rfl; simp only [cellsAre, and_true, Nat.zero_add] at b1)
                  | (((with_reducible refine at_build1 ?_); refine wpList_build1 elt_pair H5 rfl rfl (by decide) ?_; intro u_ gH6 wH6 hu_ H6; simp only [Act.eval, Act.put, List.setIfInBounds_toArray, List.set_cons_zero, List.set_cons_succ, Array.getD_eq_getD_getElem?, List.getElem?_toArray, List.getElem?_cons_zero, List.getElem?_cons_succ, Option.getD_some] at hu_; subst hu_; simp only [splice, vcells_int, vcells_bool, vcells_string, vcells_pointer, vcells_slice, vcells_map, vcells_func, vcells_nilFunc, vcells_iface, vcells_nilIface, vcells_agg, List.take_zero, List.take_succ_cons, List.drop_zero, List.drop_succ_cons, List.length_cons, List.length_nil, List.nil_append, List.cons_append, List.append_nil, Nat.zero_add, List.set_cons_zero, List.set_cons_succ] at H6); clear b1; have b1 := H6.cells 1 rfl; simp only [cellsAre, and_true, Nat.zero_add] at b1)
                  | (((with_reducible refine at_append ?_); refine wpList_append_own1 (E := Enc.pair) elt_pair H6 4 ((1, 2) : Int × Int) rfl rfl rfl rfl (H6.rd 0 rfl elt_pair.pos).1 (by omega) (by decide) ?_; intro AH7 cH7 wH7 H7; simp only [List.set_cons_zero, List.set_cons_succ] at H7; replace H7 := H7.drop 0; simp only [List.eraseIdx_cons_zero] at H7); clear b1; have b1 := H7.cells 0 rfl; simp only [cellsAre, and_true, Nat.zero_add] at b1))
                have H8 := H7.drop 0
                simp only [List.eraseIdx_cons_zero] at H8
                go_roundw
                case rel =>
                  refine ⟨j + 1, AH5, cH5, xs ++ [t.name], AH7, cH7, ys ++ [((1, 2) : Int × Int)], by go_num, by rw [List.length_append]; rfl, by rw [List.length_append]; rfl, by omega, ⟨?_⟩, ⟨?_⟩, H8⟩
                  · rw [HX.out, flat_at uterm HTT.out, HU.out]; simp [uN]
                  · rw [HY.out, flat_at uterm HTT.out, HU.out]; simp [uK]
                case measure => first | (simp [intOf]; done) | (simp [intOf]; omega)
              · by_cases k3 : t.kind = 3
                · have k2' : (t.kind == 2) = false := by simp; omega
                  have k3' : (t.kind == 3) = true := by simpa using k3
                  have hu : uterm t = [(t.name, 3, 3)] := by unfold uterm; rw [if_neg k2, if_pos k3]
                  have HU := hid hu
                  clear hu k2 k3
                  go_wp2_with (first
                    | ((with_reducible refine at_alloc ?_); refine wpList_alloc_box H1 (.agg #[.int .i64 0, .int .i64 0, .string ByteArray.empty]) (by kernel_rfl) ?_; intro gH2 wH2 H2; simp only [splice, vcells_int, vcells_bool, vcells_string, vcells_pointer, vcells_slice, vcells_map, vcells_func, vcells_nilFunc, vcells_iface, vcells_nilIface, vcells_agg, List.take_zero, List.take_succ_cons, List.drop_zero, List.drop_succ_cons, List.length_cons, List.length_nil, List.nil_append, List.cons_append, List.append_nil, Nat.zero_add, List.set_cons_zero, List.set_cons_succ] at H2)
                    | (((with_reducible refine at_store ?_); refine wpList_store_box H2 0 3 rfl rfl (by kernel_rfl) rfl (Nat.le_of_ble_eq_true rfl) rfl ?_; intro u_ wH3 hu_ H3; simp only [Act.eval, Act.put, List.setIfInBounds_toArray, List.set_cons_zero, List.set_cons_succ, Array.getD_eq_getD_getElem?, List.getElem?_toArray, List.getElem?_cons_zero, List.getElem?_cons_succ, Option.getD_some] at hu_; subst hu_; simp only [splice, vcells_int, vcells_bool, vcells_string, vcells_pointer, vcells_slice, vcells_map, vcells_func, vcells_nilFunc, vcells_iface, vcells_nilIface, vcells_agg, List.take_zero, List.take_succ_cons, List.drop_zero, List.drop_succ_cons, List.length_cons, List.length_nil, List.nil_append, List.cons_append, List.append_nil, Nat.zero_add, List.set_cons_zero, List.set_cons_succ] at H3; (try clear b1); have b1 := H3.cells 0 rfl; simp only [cellsAre, and_true, Nat.zero_add] at b1); clear b0 f0 e0 e1 e2)
                    | (((with_reducible refine at_build1 ?_); refine wpList_build1 elt_str H3 rfl rfl (by decide) ?_; intro u_ gH4 wH4 hu_ H4; simp only [Act.eval, Act.put, List.setIfInBounds_toArray, List.set_cons_zero, List.set_cons_succ, Array.getD_eq_getD_getElem?, List.getElem?_toArray, List.getElem?_cons_zero, List.getElem?_cons_succ, Option.getD_some] at hu_; subst hu_; simp only [splice, vcells_int, vcells_bool, vcells_string, vcells_pointer, vcells_slice, vcells_map, vcells_func, vcells_nilFunc, vcells_iface, vcells_nilIface, vcells_agg, List.take_zero, List.take_succ_cons, List.drop_zero, List.drop_succ_cons, List.length_cons, List.length_nil, List.nil_append, List.cons_append, List.append_nil, Nat.zero_add, List.set_cons_zero, List.set_cons_succ] at H4); clear b1; have b1 := H4.cells 1 rfl; simp only [cellsAre, and_true, Nat.zero_add] at b1)
                    | (((with_reducible refine at_append ?_); refine wpList_append_own1 (E := Enc.str) elt_str H4 3 t.name rfl rfl rfl rfl (H4.rd 0 rfl elt_str.pos).1 (by omega) (by decide) ?_; intro AH5 cH5 wH5 H5; simp only [List.set_cons_zero, List.set_cons_succ] at H5; replace H5 := H5.drop 0; simp only [List.eraseIdx_cons_zero] at H5); clear b1; have b1 := H5.cells 0 rfl; simp only [cellsAre, and_true, Nat.zero_add] at b1)
                    | (((with_reducible refine at_build1 ?_); refine wpList_build1 elt_pair H5 rfl rfl (by decide) ?_; intro u_ gH6 wH6 hu_ H6; simp only [Act.eval, Act.put, List.setIfInBounds_toArray, List.set_cons_zero, List.set_cons_succ, Array.getD_eq_getD_getElem?, List.getElem?_toArray, List.getElem?_cons_zero, List.getElem?_cons_succ, Option.getD_some] at hu_; subst hu_; simp only [splice, vcells_int, vcells_bool, vcells_string, vcells_pointer, vcells_slice, vcells_map, vcells_func, vcells_nilFunc, vcells_iface, vcells_nilIface, vcells_agg, List.take_zero, List.take_succ_cons, List.drop_zero, List.drop_succ_cons, List.length_cons, List.length_nil, List.nil_append, List.cons_append, List.append_nil, Nat.zero_add, List.set_cons_zero, List.set_cons_succ] at H6); clear b1; have b1 := H6.cells 1 rfl; simp only [cellsAre, and_true, Nat.zero_add] at b1)
                    | (((with_reducible refine at_append ?_); refine wpList_append_own1 (E := Enc.pair) elt_pair H6 4 ((3, 3) : Int × Int) rfl rfl rfl rfl (H6.rd 0 rfl elt_pair.pos).1 (by omega) (by decide) ?_; intro AH7 cH7 wH7 H7; simp only [List.set_cons_zero, List.set_cons_succ] at H7; replace H7 := H7.drop 0; simp only [List.eraseIdx_cons_zero] at H7); clear b1; have b1 := H7.cells 0 rfl; simp only [cellsAre, and_true, Nat.zero_add] at b1))
                  have H8 := H7.drop 0
                  simp only [List.eraseIdx_cons_zero] at H8
                  go_roundw
                  case rel =>
                    refine ⟨j + 1, AH5, cH5, xs ++ [t.name], AH7, cH7, ys ++ [((3, 3) : Int × Int)], by go_num, by rw [List.length_append]; rfl, by rw [List.length_append]; rfl, by omega, ⟨?_⟩, ⟨?_⟩, H8⟩
                    · rw [HX.out, flat_at uterm HTT.out, HU.out]; simp [uN]
                    · rw [HY.out, flat_at uterm HTT.out, HU.out]; simp [uK]
                  case measure => first | (simp [intOf]; done) | (simp [intOf]; omega)
                · have k2' : (t.kind == 2) = false := by simpa using k2
                  have k3' : (t.kind == 3) = false := by simpa using k3
                  have hu : uterm t = [] := by unfold uterm; rw [if_neg k2, if_neg k3]
                  have HU := hid hu
                  clear hu k2 k3
                  go_wp2_with (first
                    | ((with_reducible refine at_alloc ?_); refine wpList_alloc_box H1 (.agg #[.int .i64 0, .int .i64 0, .string ByteArray.empty]) (by kernel_rfl) ?_; intro gH2 wH2 H2; simp only [splice, vcells_int, vcells_bool, vcells_string, vcells_pointer, vcells_slice, vcells_map, vcells_func, vcells_nilFunc, vcells_iface, vcells_nilIface, vcells_agg, List.take_zero, List.take_succ_cons, List.drop_zero, List.drop_succ_cons, List.length_cons, List.length_nil, List.nil_append, List.cons_append, List.append_nil, Nat.zero_add, List.set_cons_zero, List.set_cons_succ] at H2)
                    | (((with_reducible refine at_store ?_); refine wpList_store_box H2 0 3 rfl rfl (by kernel_rfl) rfl (Nat.le_of_ble_eq_true rfl) rfl ?_; intro u_ wH3 hu_ H3; simp only [Act.eval, Act.put, List.setIfInBounds_toArray, List.set_cons_zero, List.set_cons_succ, Array.getD_eq_getD_getElem?, List.getElem?_toArray, List.getElem?_cons_zero, List.getElem?_cons_succ, Option.getD_some] at hu_; subst hu_; simp only [splice, vcells_int, vcells_bool, vcells_string, vcells_pointer, vcells_slice, vcells_map, vcells_func, vcells_nilFunc, vcells_iface, vcells_nilIface, vcells_agg, List.take_zero, List.take_succ_cons, List.drop_zero, List.drop_succ_cons, List.length_cons, List.length_nil, List.nil_append, List.cons_append, List.append_nil, Nat.zero_add, List.set_cons_zero, List.set_cons_succ] at H3; (try clear b1); have b1 := H3.cells 0 rfl; simp only [cellsAre, and_true, Nat.zero_add] at b1); clear b0 f0 e0 e1 e2))
                  have H8 := H3.drop 0
                  simp only [List.eraseIdx_cons_zero] at H8
                  go_roundw
                  case rel =>
                    refine ⟨j + 1, A4, c4, xs, A5, c5, ys, by go_num, rfl, rfl, by omega, ⟨?_⟩, ⟨?_⟩, H8⟩
                    · rw [HX.out, flat_at uterm HTT.out, HU.out, List.append_nil]
                    · rw [HY.out, flat_at uterm HTT.out, HU.out, List.append_nil]
                  case measure => first | (simp [intOf]; done) | (simp [intOf]; omega)
            · obtain rfl : j = ex.length := by omega
              go_wp2
              go_roundw
              case rel =>
                refine ⟨i + 1, A4, c4, xs, A5, c5, ys, by go_num, rfl, rfl, by omega, ⟨?_⟩, ⟨?_⟩, H1⟩
                · rw [HX.out, flat_at _ HEX.out, List.take_length, List.append_assoc]
                · rw [HY.out, flat_at _ HEX.out, List.take_length, List.append_assoc]
              case measure => first | (simp [intOf]; done) | (simp [intOf]; omega)
        · obtain rfl : i = st.exprs.length := by omega
          have hu : UT ++ (st.exprs.flatMap fun e => e.flatMap uterm) = useL st := by rw [← HUT.out]; rfl
          have HU := hid hu
          rw [List.take_length, hu] at HX HY
          clear hu
          have hlx : xs.length = (useL st).length := by rw [HX.out]; simp
          have hly : ys.length = (useL st).length := by rw [HY.out]; simp
          rw [hlx, hly]
          clear hlx hly
          go_wp2
          go_ret2
          refine ⟨A4, c4, A5, c5, rfl, ?_⟩
          have H2 := H1.drop 0
          rw [HX.out, HY.out] at H2
          exact H2
end Go.Proofs.Ytogndpckiognjaa
