/- The reference's graph. -/
import Derived.Test.YtjlikbaamefkiaaCode
import Derived.Test.YtjlikbaamefkiaaGraph
namespace Go.Proofs.Ytjlikbaamefkiaa
open Go.RowKit
set_option linter.unusedVariables false
set_option linter.unusedSimpArgs false
set_option maxHeartbeats 400000

def ints (l : List Nat) : List Int := l.map fun (x : Nat) => (x : Int)
/-- Two nodes put in order, those that are none left out. -/
def tl (n : Nat) (x y : Int) : List Int := (if min x y < n then [min x y] else []) ++ (if max x y < n ∧ max x y ≠ min x y then [max x y] else [])

theorem nxt_43 {code : List Ins} {a : Nat} {oa : Int} (h : code[a]? = some ⟨43, oa⟩) : ints (nxt code a) = tl code.length (if 0 ≤ oa ∧ oa < code.length then oa else code.length) (if 0 ≤ oa ∧ oa < code.length then oa else code.length) := by
  unfold nxt tl ints
  rw [h]
  simp only [if_true, Int.min_self, Int.max_self]
  by_cases hc : 0 ≤ oa ∧ oa < code.length
  · simp [hc]; omega
  · simp [hc]
theorem nxt_44 {code : List Ins} {a : Nat} {oa : Int} (h : code[a]? = some ⟨44, oa⟩) : ints (nxt code a) = tl code.length ((a : Int) + 1) (if 0 ≤ oa ∧ oa < code.length then oa else code.length) := by
  have ha : a < code.length := (List.getElem?_eq_some_iff.1 h).1
  unfold nxt tl ints
  rw [h]
  simp only [if_true, show (44 : Int) ≠ 43 from by decide, if_false]
  by_cases h1 : a + 1 < code.length
  · rw [if_pos h1]
    by_cases hc : 0 ≤ oa ∧ oa < code.length
    · rw [if_pos hc, if_pos hc]
      by_cases h2 : oa = a + 1
      · rw [if_pos h2, h2, Int.min_self, Int.max_self, if_pos (by omega), if_neg (by omega)]; simp
      · rw [if_neg h2]
        by_cases h3 : oa < a + 1
        · rw [if_pos h3, if_pos (by omega), if_pos (by omega)]; simp; omega
        · rw [if_neg h3, if_pos (by omega), if_pos (by omega)]; simp; omega
    · rw [if_neg hc, if_neg hc, if_pos (by omega), if_neg (by omega)]; simp; omega
  · rw [if_neg h1]
    by_cases hc : 0 ≤ oa ∧ oa < code.length
    · rw [if_pos hc, if_pos hc, if_pos (by omega), if_neg (by omega)]; simp; omega
    · rw [if_neg hc, if_neg hc, if_neg (by omega), if_neg (by omega)]; simp
theorem nxt_46 {code : List Ins} {a : Nat} {oa : Int} (h : code[a]? = some ⟨46, oa⟩) : ints (nxt code a) = [(code.length : Int)] := by
  unfold nxt ints
  rw [h]
  simp
theorem nxt_else {code : List Ins} {a : Nat} {op oa : Int} (h : code[a]? = some ⟨op, oa⟩) (h3 : op ≠ 43) (h4 : op ≠ 44) (h6 : op ≠ 46) : ints (nxt code a) = tl code.length ((a : Int) + 1) ((a : Int) + 1) := by
  unfold nxt tl ints
  rw [h]
  simp only [h3, h4, h6, if_false, Int.min_self, Int.max_self]
  by_cases h1 : a + 1 < code.length
  · rw [if_pos h1, if_pos (by omega), if_neg (by omega)]; simp
  · rw [if_neg h1, if_neg (by omega), if_neg (by omega)]; simp

def IntsRes (T : TypeId) (w : World) (l : List Int) (e : Ending) (w' : World) : Prop := ∃ A c, e = .returned (.slice A l.length c) ∧ l.length ≤ c ∧ Mem w w' [own Enc.i64 T A c l]

set_option maxRecDepth 100000 in
theorem next14_calls (f : Fun) (h : FunH) (a : Nat) (w : World) (hR : f.Rd w h) (ha : a ≤ f.code.length) (ho : ∀ i ∈ f.code, -9223372036854775808 ≤ i.a ∧ i.a ≤ 9223372036854775807) :
    Calls Try.prog 21 #[f.val h, I a] w (IntsRes 3 w (ints (nxt f.code a))) := by
  have hn := hR.b5
  have HC := hid hR.code
  clear hR
  obtain ⟨lv, ps, rs, lo, st, code⟩ := f
  obtain ⟨A1, c1, A2, c2, A5, c5⟩ := h
  simp only [Fun.val] at *
  have H0 := Mem.refl w
  obtain ⟨l, hl⟩ : ∃ l, ints (nxt code a) = l := ⟨_, rfl⟩
  rw [hl]
  have HL := hid hl
  clear hl
  go_enter Try.func21, Try.ntmps21
  by_cases hlt : a < code.length
  · obtain ⟨b, o, rfl, hc0, hc1⟩ := HC.out.get2 rfl (List.getElem?_eq_getElem hlt) rfl
    have hoa := ho _ (List.getElem_mem hlt)
    have hget := List.getElem?_eq_getElem hlt
    generalize code[a] = i at *
    obtain ⟨op, oa⟩ := i
    simp only [] at hc0 hc1 hoa
    have HG := hid hget
    clear hget ho HC
    have H1' := (H0.nilrow 3 1)
    go_upto_block 0 with (first | ((with_reducible refine at_box ?_); refine wpList_box_box H1' ?_; intro u_ gH1 wH1 hu_ H1; simp only [Act.eval, Act.put, List.setIfInBounds_toArray, List.set_cons_zero, List.set_cons_succ, Array.getD_eq_getD_getElem?, List.getElem?_toArray, List.getElem?_cons_zero, List.getElem?_cons_succ, Option.getD_some] at hu_; subst hu_; simp only [splice, vcells_int, vcells_bool, vcells_string, vcells_pointer, vcells_slice, vcells_map, vcells_func, vcells_nilFunc, vcells_iface, vcells_nilIface, vcells_agg, List.take_zero, List.take_succ_cons, List.drop_zero, List.drop_succ_cons, List.length_cons, List.length_nil, List.nil_append, List.cons_append, List.append_nil, Nat.zero_add, List.set_cons_zero, List.set_cons_succ] at H1; (try clear d1); have d1 := H1.cells 0 rfl; simp only [cellsAre, and_true, Nat.zero_add] at d1; have e0 := H1.old hc0; have e1 := H1.old hc1))
    go_cut [7, 8] (fun x y wc => ∃ x0 y0 : Int, x = .int .i64 x0 ∧ y = .int .i64 y0 ∧ 0 ≤ x0 ∧ 0 ≤ y0 ∧ Hd (tl code.length x0 y0 = l) ∧ wc = wH1)
    case first =>
      by_cases h43 : op = 43
      · subst h43
        have hl := nxt_43 HG.out
        rw [HL.out] at hl
        by_cases hv : 0 ≤ oa ∧ oa < code.length
        · rw [if_pos hv] at hl
          have HT := hid hl.symm
          clear hl
          go_wp2
          go_meet
          exact ⟨_, _, rfl, rfl, by omega, by omega, HT, rfl⟩
        · rw [if_neg hv] at hl
          have HT := hid hl.symm
          clear hl
          by_cases hv1 : 0 ≤ oa
          all_goals
            go_wp2
            go_meet
            exact ⟨_, _, rfl, rfl, by omega, by omega, HT, rfl⟩
      · by_cases h44 : op = 44
        · subst h44
          have hl := nxt_44 HG.out
          rw [HL.out] at hl
          clear h43
          by_cases hv : 0 ≤ oa ∧ oa < code.length
          · rw [if_pos hv] at hl
            have HT := hid hl.symm
            clear hl
            go_wp2
            go_meet
            exact ⟨_, _, rfl, rfl, by omega, by omega, HT, rfl⟩
          · rw [if_neg hv] at hl
            have HT := hid hl.symm
            clear hl
            by_cases hv1 : 0 ≤ oa
            all_goals
              go_wp2
              go_meet
              exact ⟨_, _, rfl, rfl, by omega, by omega, HT, rfl⟩
        · by_cases h46 : op = 46
          · subst h46
            have hl := nxt_46 HG.out
            rw [HL.out] at hl
            have HT := hid hl
            clear hl h43 h44
            go_wp2_with (first | ((with_reducible refine at_build1 ?_); refine wpList_build1 elt_int H1 rfl rfl (by decide) ?_; intro u_ gH2 wH2 hu_ H2; simp only [Act.eval, Act.put, List.setIfInBounds_toArray, List.set_cons_zero, List.set_cons_succ, Array.getD_eq_getD_getElem?, List.getElem?_toArray, List.getElem?_cons_zero, List.getElem?_cons_succ, Option.getD_some] at hu_; subst hu_; simp only [splice, vcells_int, vcells_bool, vcells_string, vcells_pointer, vcells_slice, vcells_map, vcells_func, vcells_nilFunc, vcells_iface, vcells_nilIface, vcells_agg, List.take_zero, List.take_succ_cons, List.drop_zero, List.drop_succ_cons, List.length_cons, List.length_nil, List.nil_append, List.cons_append, List.append_nil, Nat.zero_add, List.set_cons_zero, List.set_cons_succ] at H2))
            go_ret
            rw [HT.out]
            exact ⟨some ⟨gH2, 0, none⟩, 1, by simp, by simp, ((H2.drop 1).drop 1)⟩
          · have hl := nxt_else HG.out h43 h44 h46
            rw [HL.out] at hl
            have HT := hid hl.symm
            clear hl
            have e3 : (op == 43) = false := by simpa using h43
            have e4 : (op == 44) = false := by simpa using h44
            have e6 : (op == 46) = false := by simpa using h46
            clear h43 h44 h46
            go_wp2
            go_meet
            exact ⟨_, _, rfl, rfl, by omega, by omega, HT, rfl⟩
    case rest =>
      obtain ⟨x, y, rfl, rfl, hx, hy, HT, rfl⟩ := hcut
      clear d1 e0 e1 hc0 hc1 HL HG hoa
      by_cases hg : x > y
      · have em : min x y = y := by omega
        have eM : max x y = x := by omega
        have HM := hid em
        have HX := hid eM
        clear em eM
        by_cases h1 : y < (code.length : Int)
        · by_cases h2 : x < (code.length : Int)
          · by_cases h3 : x = y
            · have g3 : (x == y) = true := by simp [h3]
              have g4 : (x != y) = false := by simp [h3]
              have HT2 : Hd ([y] = l) := ⟨by rw [← HT.out]; unfold tl; simp only [HM.out, HX.out]; rw [if_pos h1, if_neg (by omega)]; rfl⟩
              clear h3
              go_wp2_with (first | ((with_reducible refine at_build1 ?_); refine wpList_build1 elt_int H1 rfl rfl (by decide) ?_; intro u_ gH2 wH2 hu_ H2; simp only [Act.eval, Act.put, List.setIfInBounds_toArray, List.set_cons_zero, List.set_cons_succ, Array.getD_eq_getD_getElem?, List.getElem?_toArray, List.getElem?_cons_zero, List.getElem?_cons_succ, Option.getD_some] at hu_; subst hu_; simp only [splice, vcells_int, vcells_bool, vcells_string, vcells_pointer, vcells_slice, vcells_map, vcells_func, vcells_nilFunc, vcells_iface, vcells_nilIface, vcells_agg, List.take_zero, List.take_succ_cons, List.drop_zero, List.drop_succ_cons, List.length_cons, List.length_nil, List.nil_append, List.cons_append, List.append_nil, Nat.zero_add, List.set_cons_zero, List.set_cons_succ] at H2) | ((with_reducible refine at_append ?_); refine wpList_append_row rfl _ _ rfl elt_int H2 2 rfl rfl rfl (H2.rd 0 rfl elt_int.pos).1 (by unfold maxLen; omega) (by omega) ?_; intro AH3 cH3 wH3 H3; simp only [splice, vcells_int, vcells_bool, vcells_string, vcells_pointer, vcells_slice, vcells_map, vcells_func, vcells_nilFunc, vcells_iface, vcells_nilIface, vcells_agg, List.take_zero, List.take_succ_cons, List.drop_zero, List.drop_succ_cons, List.length_cons, List.length_nil, List.nil_append, List.cons_append, List.append_nil, Nat.zero_add, List.set_cons_zero, List.set_cons_succ] at H3; replace H3 := H3.drop 0; simp only [List.eraseIdx_cons_zero] at H3))
              go_ret
              rw [← HT2.out]
              exact ⟨AH3, cH3, by simp, (H3.rd 1 rfl (by decide)).2.1, H3.drop 0⟩
            · have g3 : (x == y) = false := by simpa using h3
              have g4 : (x != y) = true := by simpa using h3
              have HT2 : Hd ([y, x] = l) := ⟨by rw [← HT.out]; unfold tl; simp only [HM.out, HX.out]; rw [if_pos h1, if_pos (by omega)]; rfl⟩
              clear h3
              go_wp2_with (first | ((with_reducible refine at_build1 ?_); refine wpList_build1 elt_int H1 rfl rfl (by decide) ?_; intro u_ gH2 wH2 hu_ H2; simp only [Act.eval, Act.put, List.setIfInBounds_toArray, List.set_cons_zero, List.set_cons_succ, Array.getD_eq_getD_getElem?, List.getElem?_toArray, List.getElem?_cons_zero, List.getElem?_cons_succ, Option.getD_some] at hu_; subst hu_; simp only [splice, vcells_int, vcells_bool, vcells_string, vcells_pointer, vcells_slice, vcells_map, vcells_func, vcells_nilFunc, vcells_iface, vcells_nilIface, vcells_agg, List.take_zero, List.take_succ_cons, List.drop_zero, List.drop_succ_cons, List.length_cons, List.length_nil, List.nil_append, List.cons_append, List.append_nil, Nat.zero_add, List.set_cons_zero, List.set_cons_succ] at H2) | ((with_reducible refine at_append ?_); refine wpList_append_row rfl _ _ rfl elt_int H2 2 rfl rfl rfl (H2.rd 0 rfl elt_int.pos).1 (by unfold maxLen; omega) (by omega) ?_; intro AH3 cH3 wH3 H3; simp only [splice, vcells_int, vcells_bool, vcells_string, vcells_pointer, vcells_slice, vcells_map, vcells_func, vcells_nilFunc, vcells_iface, vcells_nilIface, vcells_agg, List.take_zero, List.take_succ_cons, List.drop_zero, List.drop_succ_cons, List.length_cons, List.length_nil, List.nil_append, List.cons_append, List.append_nil, Nat.zero_add, List.set_cons_zero, List.set_cons_succ] at H3; replace H3 := H3.drop 0; simp only [List.eraseIdx_cons_zero] at H3) | ((with_reducible refine at_build1 ?_); refine wpList_build1 elt_int H3 rfl rfl (by decide) ?_; intro u_ gH4 wH4 hu_ H4; simp only [Act.eval, Act.put, List.setIfInBounds_toArray, List.set_cons_zero, List.set_cons_succ, Array.getD_eq_getD_getElem?, List.getElem?_toArray, List.getElem?_cons_zero, List.getElem?_cons_succ, Option.getD_some] at hu_; subst hu_; simp only [splice, vcells_int, vcells_bool, vcells_string, vcells_pointer, vcells_slice, vcells_map, vcells_func, vcells_nilFunc, vcells_iface, vcells_nilIface, vcells_agg, List.take_zero, List.take_succ_cons, List.drop_zero, List.drop_succ_cons, List.length_cons, List.length_nil, List.nil_append, List.cons_append, List.append_nil, Nat.zero_add, List.set_cons_zero, List.set_cons_succ] at H4) | ((with_reducible refine at_append ?_); refine wpList_append_row rfl _ _ rfl elt_int H4 2 rfl rfl rfl (H4.rd 0 rfl elt_int.pos).1 (by unfold maxLen; omega) (by omega) ?_; intro AH5 cH5 wH5 H5; simp only [splice, vcells_int, vcells_bool, vcells_string, vcells_pointer, vcells_slice, vcells_map, vcells_func, vcells_nilFunc, vcells_iface, vcells_nilIface, vcells_agg, List.take_zero, List.take_succ_cons, List.drop_zero, List.drop_succ_cons, List.length_cons, List.length_nil, List.nil_append, List.cons_append, List.append_nil, Nat.zero_add, List.set_cons_zero, List.set_cons_succ] at H5; replace H5 := H5.drop 0; simp only [List.eraseIdx_cons_zero] at H5))
              go_ret
              rw [← HT2.out]
              exact ⟨AH5, cH5, by simp, (H5.rd 1 rfl (by decide)).2.1, H5.drop 0⟩
          · have HT2 : Hd ([y] = l) := ⟨by rw [← HT.out]; unfold tl; simp only [HM.out, HX.out]; rw [if_pos h1, if_neg (by omega)]; rfl⟩
            go_wp2_with (first | ((with_reducible refine at_build1 ?_); refine wpList_build1 elt_int H1 rfl rfl (by decide) ?_; intro u_ gH2 wH2 hu_ H2; simp only [Act.eval, Act.put, List.setIfInBounds_toArray, List.set_cons_zero, List.set_cons_succ, Array.getD_eq_getD_getElem?, List.getElem?_toArray, List.getElem?_cons_zero, List.getElem?_cons_succ, Option.getD_some] at hu_; subst hu_; simp only [splice, vcells_int, vcells_bool, vcells_string, vcells_pointer, vcells_slice, vcells_map, vcells_func, vcells_nilFunc, vcells_iface, vcells_nilIface, vcells_agg, List.take_zero, List.take_succ_cons, List.drop_zero, List.drop_succ_cons, List.length_cons, List.length_nil, List.nil_append, List.cons_append, List.append_nil, Nat.zero_add, List.set_cons_zero, List.set_cons_succ] at H2) | ((with_reducible refine at_append ?_); refine wpList_append_row rfl _ _ rfl elt_int H2 2 rfl rfl rfl (H2.rd 0 rfl elt_int.pos).1 (by unfold maxLen; omega) (by omega) ?_; intro AH3 cH3 wH3 H3; simp only [splice, vcells_int, vcells_bool, vcells_string, vcells_pointer, vcells_slice, vcells_map, vcells_func, vcells_nilFunc, vcells_iface, vcells_nilIface, vcells_agg, List.take_zero, List.take_succ_cons, List.drop_zero, List.drop_succ_cons, List.length_cons, List.length_nil, List.nil_append, List.cons_append, List.append_nil, Nat.zero_add, List.set_cons_zero, List.set_cons_succ] at H3; replace H3 := H3.drop 0; simp only [List.eraseIdx_cons_zero] at H3))
            go_ret
            rw [← HT2.out]
            exact ⟨AH3, cH3, by simp, (H3.rd 1 rfl (by decide)).2.1, H3.drop 0⟩
        · have h2 : ¬ x < (code.length : Int) := by omega
          have HT2 : Hd (([] : List Int) = l) := ⟨by rw [← HT.out]; unfold tl; simp only [HM.out, HX.out]; rw [if_neg h1, if_neg (by omega)]; rfl⟩
          go_wp2
          go_ret
          rw [← HT2.out]
          exact ⟨none, 0, by simp, by simp, H1.drop 0⟩
      · have em : min x y = x := by omega
        have eM : max x y = y := by omega
        have HM := hid em
        have HX := hid eM
        clear em eM
        by_cases h1 : x < (code.length : Int)
        · by_cases h2 : y < (code.length : Int)
          · by_cases h3 : y = x
            · have g3 : (y == x) = true := by simp [h3]
              have g4 : (y != x) = false := by simp [h3]
              have HT2 : Hd ([x] = l) := ⟨by rw [← HT.out]; unfold tl; simp only [HM.out, HX.out]; rw [if_pos h1, if_neg (by omega)]; rfl⟩
              clear h3
              go_wp2_with (first | ((with_reducible refine at_build1 ?_); refine wpList_build1 elt_int H1 rfl rfl (by decide) ?_; intro u_ gH2 wH2 hu_ H2; simp only [Act.eval, Act.put, List.setIfInBounds_toArray, List.set_cons_zero, List.set_cons_succ, Array.getD_eq_getD_getElem?, List.getElem?_toArray, List.getElem?_cons_zero, List.getElem?_cons_succ, Option.getD_some] at hu_; subst hu_; simp only [splice, vcells_int, vcells_bool, vcells_string, vcells_pointer, vcells_slice, vcells_map, vcells_func, vcells_nilFunc, vcells_iface, vcells_nilIface, vcells_agg, List.take_zero, List.take_succ_cons, List.drop_zero, List.drop_succ_cons, List.length_cons, List.length_nil, List.nil_append, List.cons_append, List.append_nil, Nat.zero_add, List.set_cons_zero, List.set_cons_succ] at H2) | ((with_reducible refine at_append ?_); refine wpList_append_row rfl _ _ rfl elt_int H2 2 rfl rfl rfl (H2.rd 0 rfl elt_int.pos).1 (by unfold maxLen; omega) (by omega) ?_; intro AH3 cH3 wH3 H3; simp only [splice, vcells_int, vcells_bool, vcells_string, vcells_pointer, vcells_slice, vcells_map, vcells_func, vcells_nilFunc, vcells_iface, vcells_nilIface, vcells_agg, List.take_zero, List.take_succ_cons, List.drop_zero, List.drop_succ_cons, List.length_cons, List.length_nil, List.nil_append, List.cons_append, List.append_nil, Nat.zero_add, List.set_cons_zero, List.set_cons_succ] at H3; replace H3 := H3.drop 0; simp only [List.eraseIdx_cons_zero] at H3))
              go_ret
              rw [← HT2.out]
              exact ⟨AH3, cH3, by simp, (H3.rd 1 rfl (by decide)).2.1, H3.drop 0⟩
            · have g3 : (y == x) = false := by simpa using h3
              have g4 : (y != x) = true := by simpa using h3
              have HT2 : Hd ([x, y] = l) := ⟨by rw [← HT.out]; unfold tl; simp only [HM.out, HX.out]; rw [if_pos h1, if_pos (by omega)]; rfl⟩
              clear h3
              go_wp2_with (first | ((with_reducible refine at_build1 ?_); refine wpList_build1 elt_int H1 rfl rfl (by decide) ?_; intro u_ gH2 wH2 hu_ H2; simp only [Act.eval, Act.put, List.setIfInBounds_toArray, List.set_cons_zero, List.set_cons_succ, Array.getD_eq_getD_getElem?, List.getElem?_toArray, List.getElem?_cons_zero, List.getElem?_cons_succ, Option.getD_some] at hu_; subst hu_; simp only [splice, vcells_int, vcells_bool, vcells_string, vcells_pointer, vcells_slice, vcells_map, vcells_func, vcells_nilFunc, vcells_iface, vcells_nilIface, vcells_agg, List.take_zero, List.take_succ_cons, List.drop_zero, List.drop_succ_cons, List.length_cons, List.length_nil, List.nil_append, List.cons_append, List.append_nil, Nat.zero_add, List.set_cons_zero, List.set_cons_succ] at H2) | ((with_reducible refine at_append ?_); refine wpList_append_row rfl _ _ rfl elt_int H2 2 rfl rfl rfl (H2.rd 0 rfl elt_int.pos).1 (by unfold maxLen; omega) (by omega) ?_; intro AH3 cH3 wH3 H3; simp only [splice, vcells_int, vcells_bool, vcells_string, vcells_pointer, vcells_slice, vcells_map, vcells_func, vcells_nilFunc, vcells_iface, vcells_nilIface, vcells_agg, List.take_zero, List.take_succ_cons, List.drop_zero, List.drop_succ_cons, List.length_cons, List.length_nil, List.nil_append, List.cons_append, List.append_nil, Nat.zero_add, List.set_cons_zero, List.set_cons_succ] at H3; replace H3 := H3.drop 0; simp only [List.eraseIdx_cons_zero] at H3) | ((with_reducible refine at_build1 ?_); refine wpList_build1 elt_int H3 rfl rfl (by decide) ?_; intro u_ gH4 wH4 hu_ H4; simp only [Act.eval, Act.put, List.setIfInBounds_toArray, List.set_cons_zero, List.set_cons_succ, Array.getD_eq_getD_getElem?, List.getElem?_toArray, List.getElem?_cons_zero, List.getElem?_cons_succ, Option.getD_some] at hu_; subst hu_; simp only [splice, vcells_int, vcells_bool, vcells_string, vcells_pointer, vcells_slice, vcells_map, vcells_func, vcells_nilFunc, vcells_iface, vcells_nilIface, vcells_agg, List.take_zero, List.take_succ_cons, List.drop_zero, List.drop_succ_cons, List.length_cons, List.length_nil, List.nil_append, List.cons_append, List.append_nil, Nat.zero_add, List.set_cons_zero, List.set_cons_succ] at H4) | ((with_reducible refine at_append ?_); refine wpList_append_row rfl _ _ rfl elt_int H4 2 rfl rfl rfl (H4.rd 0 rfl elt_int.pos).1 (by unfold maxLen; omega) (by omega) ?_; intro AH5 cH5 wH5 H5; simp only [splice, vcells_int, vcells_bool, vcells_string, vcells_pointer, vcells_slice, vcells_map, vcells_func, vcells_nilFunc, vcells_iface, vcells_nilIface, vcells_agg, List.take_zero, List.take_succ_cons, List.drop_zero, List.drop_succ_cons, List.length_cons, List.length_nil, List.nil_append, List.cons_append, List.append_nil, Nat.zero_add, List.set_cons_zero, List.set_cons_succ] at H5; replace H5 := H5.drop 0; simp only [List.eraseIdx_cons_zero] at H5))
              go_ret
              rw [← HT2.out]
              exact ⟨AH5, cH5, by simp, (H5.rd 1 rfl (by decide)).2.1, H5.drop 0⟩
          · have HT2 : Hd ([x] = l) := ⟨by rw [← HT.out]; unfold tl; simp only [HM.out, HX.out]; rw [if_pos h1, if_neg (by omega)]; rfl⟩
            go_wp2_with (first | ((with_reducible refine at_build1 ?_); refine wpList_build1 elt_int H1 rfl rfl (by decide) ?_; intro u_ gH2 wH2 hu_ H2; simp only [Act.eval, Act.put, List.setIfInBounds_toArray, List.set_cons_zero, List.set_cons_succ, Array.getD_eq_getD_getElem?, List.getElem?_toArray, List.getElem?_cons_zero, List.getElem?_cons_succ, Option.getD_some] at hu_; subst hu_; simp only [splice, vcells_int, vcells_bool, vcells_string, vcells_pointer, vcells_slice, vcells_map, vcells_func, vcells_nilFunc, vcells_iface, vcells_nilIface, vcells_agg, List.take_zero, List.take_succ_cons, List.drop_zero, List.drop_succ_cons, List.length_cons, List.length_nil, List.nil_append, List.cons_append, List.append_nil, Nat.zero_add, List.set_cons_zero, List.set_cons_succ] at H2) | ((with_reducible refine at_append ?_); refine wpList_append_row rfl _ _ rfl elt_int H2 2 rfl rfl rfl (H2.rd 0 rfl elt_int.pos).1 (by unfold maxLen; omega) (by omega) ?_; intro AH3 cH3 wH3 H3; simp only [splice, vcells_int, vcells_bool, vcells_string, vcells_pointer, vcells_slice, vcells_map, vcells_func, vcells_nilFunc, vcells_iface, vcells_nilIface, vcells_agg, List.take_zero, List.take_succ_cons, List.drop_zero, List.drop_succ_cons, List.length_cons, List.length_nil, List.nil_append, List.cons_append, List.append_nil, Nat.zero_add, List.set_cons_zero, List.set_cons_succ] at H3; replace H3 := H3.drop 0; simp only [List.eraseIdx_cons_zero] at H3))
            go_ret
            rw [← HT2.out]
            exact ⟨AH3, cH3, by simp, (H3.rd 1 rfl (by decide)).2.1, H3.drop 0⟩
        · have h2 : ¬ y < (code.length : Int) := by omega
          have HT2 : Hd (([] : List Int) = l) := ⟨by rw [← HT.out]; unfold tl; simp only [HM.out, HX.out]; rw [if_neg h1, if_neg (by omega)]; rfl⟩
          go_wp2
          go_ret
          rw [← HT2.out]
          exact ⟨none, 0, by simp, by simp, H1.drop 0⟩
  · obtain rfl : a = code.length := by omega
    have HT2 : Hd (([] : List Int) = l) := ⟨by rw [← HL.out]; unfold nxt ints; rw [List.getElem?_eq_none (by omega)]; rfl⟩
    have H1' := (H0.nilrow 3 1)
    go_wp2_with (first | ((with_reducible refine at_box ?_); refine wpList_box_box H1' ?_; intro u_ gH1 wH1 hu_ H1; simp only [Act.eval, Act.put, List.setIfInBounds_toArray, List.set_cons_zero, List.set_cons_succ, Array.getD_eq_getD_getElem?, List.getElem?_toArray, List.getElem?_cons_zero, List.getElem?_cons_succ, Option.getD_some] at hu_; subst hu_; simp only [splice, vcells_int, vcells_bool, vcells_string, vcells_pointer, vcells_slice, vcells_map, vcells_func, vcells_nilFunc, vcells_iface, vcells_nilIface, vcells_agg, List.take_zero, List.take_succ_cons, List.drop_zero, List.drop_succ_cons, List.length_cons, List.length_nil, List.nil_append, List.cons_append, List.append_nil, Nat.zero_add, List.set_cons_zero, List.set_cons_succ] at H1; (try clear d1); have d1 := H1.cells 0 rfl; simp only [cellsAre, and_true, Nat.zero_add] at d1))
    go_ret
    rw [← HT2.out]
    exact ⟨none, 0, by simp, by simp, H1.drop 0⟩
end Go.Proofs.Ytjlikbaamefkiaa
