/- louverref15.Tree, Near; louverlaw15.rows. -/
import Derived.Test.YtjlikbaamefkiaaNear15
namespace Go.Proofs.Ytjlikbaamefkiaa
open Go.RowKit
set_option linter.unusedVariables false
set_option linter.unusedSimpArgs false
set_option maxHeartbeats 2000000

set_option maxRecDepth 100000 in
theorem tree15_calls (f : Fun) (h : FunH) (w : World) (hR : f.Rd w h) (hn : f.code.length ≤ 1000000) (ho : ∀ i ∈ f.code, -9223372036854775808 ≤ i.a ∧ i.a ≤ 9223372036854775807) :
    Calls Try.prog 9 #[f.val h] w (IntsRes 3 w (treeL (nxt f.code) f.code.length)) := by
  have HR := hid hR
  have hall := fun (w' : World) hR' => all15_calls f h w' hR' hn ho
  have HT := hid hall
  clear hR ho hall
  obtain ⟨lv, ps, rs, lo, st, code⟩ := f
  obtain ⟨A1, c1, A2, c2, A5, c5⟩ := h
  simp only [] at hn
  have H0 : Mem w w [own Enc.i64 3 none 0 []] := (Mem.refl w).nilrow 3 1
  simp only [Fun.val] at *
  go_enter Try.func9, Try.ntmps9
  go_wp2_with (first
    | ((with_reducible refine at_box ?_); refine wpList_box_box H0 ?_; intro u_ gH1 wH1 hu_ H1; simp only [Act.eval, Act.put, List.setIfInBounds_toArray, List.set_cons_zero, List.set_cons_succ, Array.getD_eq_getD_getElem?, List.getElem?_toArray, List.getElem?_cons_zero, List.getElem?_cons_succ, Option.getD_some] at hu_; subst hu_; simp only [splice, vcells_int, vcells_bool, vcells_string, vcells_pointer, vcells_slice, vcells_map, vcells_func, vcells_nilFunc, vcells_iface, vcells_nilIface, vcells_agg, List.take_zero, List.take_succ_cons, List.drop_zero, List.drop_succ_cons, List.length_cons, List.length_nil, List.nil_append, List.cons_append, List.append_nil, Nat.zero_add, List.set_cons_zero, List.set_cons_succ] at H1; (try clear b0); have b0 := H1.cells 0 rfl; simp only [cellsAre, and_true, Nat.zero_add] at b0)
    | (go_at_call 6; (with_reducible refine (HT.out _ (Fun.Rd.below HR.out H1.below)).mono ?_); rintro e w2 ⟨A3, c3, hs, rfl, h3, hl, hf, H2'⟩; have H2 := H1.call H2'; simp only [List.cons_append, List.nil_append, domTab_len] at H2 hl h3 ⊢))
  have HF := hid hf
  have H3 := (H2.mv 3 rfl).drop 3
  simp only [List.eraseIdx_cons_succ, List.eraseIdx_cons_zero] at H3
  have HX0 : Hd (([] : List Int) = (treeL (nxt code) code.length).take 0) := ⟨rfl⟩
  clear H2 H2' H1 hf b0
  go_loopw [4, 5] (fun v4 v5 wr => ∃ (A4 : Option Addr) (c4 : Nat) (xs : List Int) (i : Nat), v4 = .slice A4 xs.length c4 ∧ v5 = .int .i64 i ∧ i ≤ code.length + 1 ∧ Hd (xs = (treeL (nxt code) code.length).take i) ∧ Mem w wr [own Enc.i64 3 A4 c4 xs, rowsP Enc.bool 4 hs (domTab (nxt code) code.length), own Enc.hdr 39 A3 c3 hs]) (fun _ v _ => code.length + 1 - (intOf v).toNat)
  case atStart => exact ⟨none, 0, [], 0, rfl, rfl, Nat.zero_le _, HX0, H3⟩
  case round =>
    clear H3 HX0
    obtain ⟨A4, c4, xs, i, rfl, rfl, hi, HX, H4⟩ := hrel
    obtain ⟨wo, rfl⟩ : ∃ wo : World, wo = wr := ⟨_, rfl⟩
    by_cases hlt : i < code.length + 1
    · have hxl : xs.length ≤ 1000001 := by rw [HX.out, List.length_take]; omega
      have hcall := near15_calls (nxt code) code.length i (by omega) hn A3 c3 hs wo (H4.rdRows 2 1 rfl rfl (by rw [hl, domTab_len]) HF.out (by decide))
      have HC := hid hcall
      clear hcall
      go_wp2_with (first
        | (go_at_call 27; (with_reducible refine HC.out.mono ?_); rintro e w5 ⟨rfl, H5'⟩; have H5 := H4.call H5'; simp only [List.cons_append, List.nil_append] at H5)
        | ((with_reducible refine at_build1 ?_); refine wpList_build1 elt_int H5 rfl rfl (by decide) ?_; intro u_ gH6 wH6 hu_ H6; simp only [Act.eval, Act.put, List.setIfInBounds_toArray, List.set_cons_zero, List.set_cons_succ, Array.getD_eq_getD_getElem?, List.getElem?_toArray, List.getElem?_cons_zero, List.getElem?_cons_succ, Option.getD_some] at hu_; subst hu_; simp only [splice, vcells_int, vcells_bool, vcells_string, vcells_pointer, vcells_slice, vcells_map, vcells_func, vcells_nilFunc, vcells_iface, vcells_nilIface, vcells_agg, List.take_zero, List.take_succ_cons, List.drop_zero, List.drop_succ_cons, List.length_cons, List.length_nil, List.nil_append, List.cons_append, List.append_nil, Nat.zero_add, List.set_cons_zero, List.set_cons_succ] at H6)
        | ((with_reducible refine at_append ?_); refine wpList_append_own1 (E := Enc.i64) elt_int H6 1 (nearI (nxt code) code.length i) rfl rfl rfl rfl (H6.rd 0 rfl elt_int.pos).1 (by omega) (by decide) ?_; intro AH7 cH7 wH7 H7; simp only [List.set_cons_zero, List.set_cons_succ] at H7; replace H7 := H7.drop 0; simp only [List.eraseIdx_cons_zero] at H7))
      go_roundw
      case rel =>
        refine ⟨AH7, cH7, xs ++ [nearI (nxt code) code.length i], i + 1, by simp, by go_num, by omega, ⟨?_⟩, H7⟩
        rw [List.take_add_one, treeL_get (by omega), HX.out]
        rfl
      case measure => first | (simp [intOf]; done) | (simp [intOf]; omega)
    · obtain rfl : i = code.length + 1 := by omega
      have hx : xs = treeL (nxt code) code.length := by
        rw [HX.out, List.take_of_length_le (by rw [treeL_len]; exact Nat.le_refl _)]
      subst hx
      go_wp2
      go_ret
      exact ⟨A4, c4, rfl, (H4.own_rd 0 rfl (by decide)).2.1, (H4.drop 1).drop 1⟩

/-- Are two tables the same? -/
theorem rows_calls (A B : Option Addr) (c d : Nat) (xs ys : List (List Bool)) (hs gs : List Hdr) (w : World) (hx : RdRows Enc.bool w A xs hs) (hy : RdRows Enc.bool w B ys gs) (hxl : xs.length ≤ 1000001) (hyl : ys.length ≤ 1000001)
    (hxr : ∀ r ∈ xs, r.length ≤ 17592186043904) (hyr : ∀ r ∈ ys, r.length ≤ 17592186043904) :
    Calls Try.prog 10 #[.slice A xs.length c, .slice B ys.length d] w fun e w' => e = .returned (.bool (decide (xs = ys))) ∧ Mem w w' [] := by
  have HX := hid hx
  have HY := hid hy
  have HXR := hid hxr
  have HYR := hid hyr
  clear hx hy hxr hyr
  have H0 := Mem.refl w
  go_enter Try.func10, Try.ntmps10
  by_cases hne : xs.length = ys.length
  · have h1 : ((xs.length : Int) == (ys.length : Int)) = true := by simp [hne]
    have h2 : ((xs.length : Int) != (ys.length : Int)) = false := by simp [hne]
    have HN := hid hne
    clear hne
    go_wp2
    go_loopw [5] (fun i wr => ∃ k : Nat, k ≤ xs.length ∧ i = .int .i64 k ∧ Hd (∀ j, j < k → xs[j]? = ys[j]?) ∧ Mem w wr []) (fun i _ => xs.length - (intOf i).toNat)
    case atStart => exact ⟨0, Nat.zero_le _, rfl, ⟨fun j hj => by omega⟩, H0⟩
    case round =>
      obtain ⟨k, hk, rfl, HT, H1⟩ := hrel
      obtain ⟨wo, rfl⟩ : ∃ wo : World, wo = wr := ⟨_, rfl⟩
      by_cases hlt : k < xs.length
      · have hlt' : k < ys.length := HN.out ▸ hlt
        obtain ⟨x, hX⟩ : ∃ x, xs[k]? = some x := ⟨_, List.getElem?_eq_getElem hlt⟩
        obtain ⟨y, hY⟩ : ∃ y, ys[k]? = some y := ⟨_, List.getElem?_eq_getElem hlt'⟩
        obtain ⟨b, o, A', c', rfl, hc, hcl, hxx⟩ := HX.out.row hX
        obtain ⟨b', o', B', d', rfl, hd, hdl, hyy⟩ := HY.out.row hY
        have e1 := H1.old hc
        have e2 := H1.old hd
        have hbc := bools_calls A' B' c' d' x y _ (Rd.below hxx H1.drew.below) (Rd.below hyy H1.drew.below) (HXR.out x (List.mem_of_getElem? hX)) (HYR.out y (List.mem_of_getElem? hY))
        have HBC := hid hbc
        have HX2 := hid hX
        have HY2 := hid hY
        clear hX hY hbc hxx hyy
        go_wp2
        go_cut [26] from 17 to 25 (fun v26 wc => v26 = .bool (!decide (x = y)) ∧ Mem w wc [])
        case first =>
          go_region_with (first
            | (go_at_call 28; (with_reducible refine HBC.out.mono ?_); rintro e w5 ⟨rfl, H5'⟩; have H5 := H1.drew.call H5'; simp only [List.nil_append] at H5))
          all_goals (go_wp2; go_meet; exact ⟨rfl, H5⟩)
        case rest =>
        obtain ⟨rfl, H2⟩ := hcut
        by_cases he : x = y
        · have h5 : (!decide (x = y)) = false := by simp [he]
          rw [h5]
          have HE := hid he
          clear he h5
          go_wp2
          go_roundw
          case rel =>
            refine ⟨k + 1, by omega, by go_num, ⟨fun j hj => ?_⟩, H2⟩
            rcases Nat.lt_or_ge j k with h | h
            · exact HT.out j h
            · obtain rfl : j = k := by omega
              rw [HX2.out, HY2.out, HE.out]
          case measure => first | (simp [intOf]; done) | (simp [intOf]; omega)
        · have h5 : (!decide (x = y)) = true := by simp [he]
          rw [h5]
          have HE := hid he
          clear he h5
          go_wp2
          go_ret
          refine ⟨?_, H2⟩
          have : ¬ xs = ys := by
            rintro rfl
            exact HE.out (Option.some.inj (HX2.out.symm.trans HY2.out))
          simp [this]
      · have g1 : decide ((k : Int) < (xs.length : Int)) = false := by simpa using hlt
        go_wp2
        go_ret
        refine ⟨?_, H1⟩
        have : xs = ys := by
          apply List.ext_getElem?
          intro j
          rcases Nat.lt_or_ge j k with h | h
          · exact HT.out j h
          · rw [List.getElem?_eq_none (by omega), List.getElem?_eq_none (by have := HN.out; omega)]
        simp [this]
  · have h1 : ((xs.length : Int) == (ys.length : Int)) = false := by simp <;> omega
    have h2 : ((xs.length : Int) != (ys.length : Int)) = true := by simp <;> omega
    have HN := hid hne
    clear hne
    go_wp2
    go_ret
    refine ⟨?_, H0⟩
    have : ¬ xs = ys := by
      rintro rfl
      exact HN.out rfl
    simp [this]
end Go.Proofs.Ytjlikbaamefkiaa
