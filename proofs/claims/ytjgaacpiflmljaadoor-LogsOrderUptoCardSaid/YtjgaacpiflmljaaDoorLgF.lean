/- logs.Seen. -/
import Derived.Test.YtjgaacpiflmljaaDoorLgE
namespace Go.Proofs.YtjgaacpiflmljaaDoor
open Go.RowKit
set_option linter.unusedVariables false
set_option linter.unusedSimpArgs false
set_option maxHeartbeats 2000000
set_option maxRecDepth 100000 in
theorem seen_calls (G R F : Value) (A : Option Addr) (c : Nat) (ch : List Int) (l : Int) (a : List (List Int)) (Aa : Option Addr) (ca n : Nat) (ha : List Hdr) (w : World)
    (hR : Rd Enc.u64 w A ch) (hc : ch.length = n) (ra : RdRows Enc.i64 w Aa a ha) (la : a.length = n) (hn : n ≤ 2000000) (sa : ∀ r ∈ a, r.length ≤ 2000000) (f : Nat → List Int) (hf : ∀ (k : Nat) (x : List Int), a[k]? = some x → f k = x) :
    Calls Tryd.prog 10 #[MV G R F A c ch, .int .u64 l, .slice Aa a.length ca] w (Tab2 n (fillT n f (fun k => (withL ch l n).contains k)) w) := by
  have HR := hid hR
  have RA := hid ra
  have SA := hid sa
  have HF := hid hf
  have LA := hid la
  have LC := hid hc
  have FW := hid (fun (w' : World) (hR' : Rd Enc.u64 w' A ch) => within_calls G R F A c ch l w' hR' (by omega))
  have hla : (a.length : Int) = (n : Int) := by rw [la]
  have hlc : (ch.length : Int) = (n : Int) := by rw [hc]
  have k1 : ((a.length : Int) == (ch.length : Int)) = true := by simp [la, hc]
  have k3 : ((a.length : Int) != (ch.length : Int)) = false := by simp [la, hc]
  clear hR ra sa hf hc
  have H0 := Mem.refl w
  simp only [MV] at *
  go_enter Tryd.func10, Tryd.ntmps10
  rw [la] at k1 k3 ⊢
  clear la hla hlc
  go_wp2_with (first
    | ((with_reducible refine at_box ?_); refine wpList_box_box H0 ?_; intro u_ gH1 wH1 hu_ H1; simp only [Act.eval, Act.put, List.setIfInBounds_toArray, List.set_cons_zero, List.set_cons_succ, Array.getD_eq_getD_getElem?, List.getElem?_toArray, List.getElem?_cons_zero, List.getElem?_cons_succ, Option.getD_some] at hu_; subst hu_; simp only [splice, vcells_int, vcells_bool, vcells_string, vcells_pointer, vcells_slice, vcells_map, vcells_func, vcells_nilFunc, vcells_iface, vcells_nilIface, vcells_agg, List.take_zero, List.take_succ_cons, List.drop_zero, List.drop_succ_cons, List.length_cons, List.length_nil, List.nil_append, List.cons_append, List.append_nil, Nat.zero_add, List.set_cons_zero, List.set_cons_succ] at H1; (try clear b0); have b0 := H1.cells 0 rfl; simp only [cellsAre, and_true, Nat.zero_add] at b0)
    | ((with_reducible refine at_mk ?_); refine wpList_make_own (E := Enc.hdr) elt_i64s H1 n (⟨none, 0, 0⟩ : Hdr) rfl rfl rfl rfl rfl (by unfold maxLen; omega) (by omega) ?_; intro gH2 wH2 H2; (try clear b0); have b0 := H2.cells 1 rfl; simp only [cellsAre, and_true, Nat.zero_add] at b0)
    | ((go_at_call 7; (with_reducible refine (FW.out _ (Rd.below HR.out H2.below)).mono ?_); rintro e w3 ⟨A5, rfl, H3'⟩; have H3 := H2.call H3'; simp only [List.cons_append, List.nil_append] at H3)))
  obtain ⟨ws, hws⟩ : ∃ ws, ws = withL ch l ch.length := ⟨_, rfl⟩
  rw [← hws] at H3 ⊢
  have hwn : ws.Nodup := by rw [hws]; unfold withL; exact List.nodup_range.filter _
  have hwl : ∀ k ∈ ws, k < n := fun k hk => by rw [hws] at hk; have := (mem_withL.1 hk).1; rw [LC.out] at this; exact this
  have hwc : withL ch l n = ws := by rw [hws, LC.out]
  have hwz : ws.length ≤ 2000000 := by rw [hws]; exact Nat.le_trans (withL_len ch l _) (by rw [LC.out]; exact hn)
  have HWN := hid hwn
  have HWL := hid hwl
  have HWC := hid hwc
  have hil : (ints ws).length = ws.length := by simp [ints]
  have HIL := hid hil
  have hil2 : (ints ws).length ≤ 2000000 := by rw [hil]; exact hwz
  have H4 := H3.rows_blank Enc.i64 2 n
  rw [← fillT_none n f (d := fun j => (ws.take 0).contains j) (fun k _ => by simp)] at H4
  have HG0 : Hd (FitG n (List.replicate n ⟨none, 0, 0⟩) f (fun j => (ws.take 0).contains j)) := ⟨FitG.start n f fun k _ => by simp⟩
  clear H3 H3' H2 H1 H0 b0 hws hwn hwl hwc hil
  go_loopw [23] (fun v wr => ∃ (i : Nat) (gs : List Hdr), v = .int .i64 i ∧ i ≤ (ints ws).length ∧ Hd (FitG n gs f (fun j => (ws.take i).contains j)) ∧ Mem w wr [rowsP Enc.i64 2 gs (fillT n f (fun j => (ws.take i).contains j)), own Enc.i64 3 A5 (ints ws).length (ints ws), own Enc.hdr 34 (some ⟨gH2, 0, none⟩) n gs]) (fun v _ => (ints ws).length - (intOf v).toNat)
  case atStart =>
    have H5 := (H4.drop 3)
    simp only [List.eraseIdx_cons_succ, List.eraseIdx_cons_zero] at H5
    exact ⟨0, _, rfl, Nat.zero_le _, HG0, H5⟩
  case round =>
    clear H4 HG0
    obtain ⟨i, gs, rfl, hi, HG, H2⟩ := hrel
    obtain ⟨wo, rfl⟩ : ∃ wo : World, wo = wr := ⟨_, rfl⟩
    by_cases hlt : i < (ints ws).length
    · obtain ⟨k, hk⟩ : ∃ k, ws[i]? = some k := ⟨_, List.getElem?_eq_getElem (by rw [HIL.out] at hlt; exact hlt)⟩
      have hkn := HWL.out k (List.mem_of_getElem? hk)
      obtain ⟨b5, o5, rfl, e5⟩ := (H2.own_rd 1 rfl (by decide)).1.get1 (k := i) (x := (k : Int)) rfl (by unfold ints; rw [List.getElem?_map, hk]; rfl) rfl
      obtain ⟨x, hx⟩ : ∃ x, a[k]? = some x := ⟨_, List.getElem?_eq_getElem (by rw [LA.out]; exact hkn)⟩
      obtain ⟨ba, oa, A', c', rfl, ea0, lx, rx⟩ := RA.out.row hx
      have ea := H2.old ea0
      have hxl := SA.out x (List.mem_of_getElem? hx)
      have HM := hid (HF.out k x hx)
      have HCL := hid (clone64_calls A' c' x wo (Rd.below rx H2.below) (by omega))
      have hnot : (ws.take i).contains k = false := by
        cases hc : (ws.take i).contains k with
        | false => rfl
        | true =>
          rw [List.contains_iff_mem] at hc
          obtain ⟨j, hj⟩ := List.getElem?_of_mem hc
          have hji : j < i := by have := (List.getElem?_eq_some_iff.1 hj).1; rw [List.length_take] at this; omega
          rw [List.getElem?_take_of_lt hji] at hj
          obtain ⟨h1, h2⟩ := List.getElem?_eq_some_iff.1 hj
          obtain ⟨h3, h4⟩ := List.getElem?_eq_some_iff.1 hk
          exact absurd (h2.trans h4.symm) (List.pairwise_iff_getElem.1 HWN.out j i h1 h3 hji)
      have HNO := hid hnot
      have HK := hid hk
      have hki : (k : Int) < (n : Int) := by omega
      clear hk hx rx ea0 hnot
      go_wp2_with (first
        | (go_at_call 22; (with_reducible refine HCL.out.mono ?_); rintro e w4 ⟨A6, c6, rfl, h6, h7, H4'⟩; have H4 := H2.call H4'; simp only [List.cons_append, List.nil_append] at H4)
        | (go_at_call 21; (with_reducible refine (clip64_calls A6 c6 _ _ h6 h7).mono ?_); rintro e w5 ⟨rfl, rfl⟩)
        | ((with_reducible refine at_store ?_); refine wpList_store_own H4 3 k (⟨A6, x.length, x.length⟩ : Hdr) rfl rfl (by omega) rfl rfl (by kernel_rfl) (by have := HG.out.1; omega) ?_; intro wH6 H6; simp only [List.set_cons_zero, List.set_cons_succ] at H6))
      go_roundw
      case rel =>
        have H7 := (H6.row_clip 0 rfl).rows_in (r := x) (k := k) (HG.out.2.2 k hkn HNO.out) (by rw [fillT_get hkn, HNO.out]; rfl)
        rw [← HM.out, fillT_set hkn] at H7
        have hd : fillT n f (fun j => (ws.take i).contains j || j == k) = fillT n f (fun j => (ws.take (i + 1)).contains j) := fillT_congr fun j _ => by
          rw [List.take_add_one, HK.out, List.contains_eq_any_beq, List.contains_eq_any_beq, List.any_append]
          simp
        have HS := HG.out.set (k := k) hkn A6 x.length
        have hfx : (f k).length = x.length := by rw [HM.out]
        rw [hfx] at HS H7
        rw [hd] at H7
        refine ⟨i + 1, gs.set k ⟨A6, x.length, x.length⟩, by go_num, by omega, ⟨?_⟩, H7⟩
        obtain ⟨s1, s2, s3⟩ := HS
        rw [hd] at s2
        exact ⟨s1, s2, fun j hj hdj => s3 j hj (by
          have h0 : (ws.take (i + 1)).contains j = false := hdj
          show ((ws.take i).contains j || j == k) = false
          rw [List.take_add_one, HK.out, List.contains_eq_any_beq, List.any_append] at h0
          rw [List.contains_eq_any_beq]
          simpa using h0)⟩
      case measure => first | (simp [intOf]; done) | (simp [intOf]; omega)
    · obtain rfl : i = (ints ws).length := by omega
      rw [HIL.out, List.take_length] at HG H2
      go_wp2
      go_ret
      rw [HWC.out]
      exact ⟨_, gs, rfl, ⟨HG.out.1, HG.out.2.1⟩, H2.drop 1⟩
end Go.Proofs.YtjgaacpiflmljaaDoor
