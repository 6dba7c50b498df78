/- louverref14.Reach, louverref15.Dominates, near, Tree. -/
import Derived.Test.YtjlikbaamefkiaaReach
namespace Go.Proofs.Ytjlikbaamefkiaa
open Go.RowKit
set_option linter.unusedVariables false
set_option linter.unusedSimpArgs false
set_option maxHeartbeats 2000000

set_option maxRecDepth 100000 in
theorem reach_calls (f : Fun) (h : FunH) (w : World) (hR : f.Rd w h) (hn : f.code.length ≤ 1000000) (ho : ∀ i ∈ f.code, -9223372036854775808 ≤ i.a ∧ i.a ≤ 9223372036854775807) (p : Int) :
    Calls Try.prog 30 #[f.val h, I p] w (WoRes 4 (nxt f.code) f.code.length p (-1) w) := by
  have HR := hid hR
  have hwo := fun (w' : World) hR' => without_calls f h w' hR' hn ho p (-1)
  have HT := hid hwo
  clear hR ho hwo
  obtain ⟨lv, ps, rs, lo, st, code⟩ := f
  obtain ⟨A1, c1, A2, c2, A5, c5⟩ := h
  simp only [] at hn
  have H0 := Mem.refl w
  simp only [Fun.val] at *
  go_enter Try.func30, Try.ntmps30
  go_wp2_with (first
    | ((with_reducible refine at_box ?_); refine wpList_box_box H0 ?_; intro u_ gH1 wH1 hu_ H1; simp only [Act.eval, Act.put, List.setIfInBounds_toArray, List.set_cons_zero, List.set_cons_succ, Array.getD_eq_getD_getElem?, List.getElem?_toArray, List.getElem?_cons_zero, List.getElem?_cons_succ, Option.getD_some] at hu_; subst hu_; simp only [splice, vcells_int, vcells_bool, vcells_string, vcells_pointer, vcells_slice, vcells_map, vcells_func, vcells_nilFunc, vcells_iface, vcells_nilIface, vcells_agg, List.take_zero, List.take_succ_cons, List.drop_zero, List.drop_succ_cons, List.length_cons, List.length_nil, List.nil_append, List.cons_append, List.append_nil, Nat.zero_add, List.set_cons_zero, List.set_cons_succ] at H1; (try clear b0); have b0 := H1.cells 0 rfl; simp only [cellsAre, and_true, Nat.zero_add] at b0)
    | (go_at_call 31; (with_reducible refine (HT.out _ (Fun.Rd.below HR.out H1.below)).mono ?_); rintro e w2 ⟨A3, c3, l, rfl, h3, hl, hx, H2'⟩; have H2 := H1.call H2'; simp only [List.cons_append, List.nil_append] at H2))
  go_ret
  exact ⟨A3, c3, l, rfl, h3, hl, hx, H2.drop 1⟩

open Classical in
theorem domZ_av {nx : Nat → List Nat} {n : Nat} {q p : Int} (h : (0 ≤ q ∧ q ≤ (n : Int)) ∧ 0 ≤ p ∧ p ≤ (n : Int)) : domZ nx n q p = (avZ nx n p (-1) && !avZ nx n p q) := by
  unfold domZ avZ domB
  rw [if_pos h]
  by_cases h1 : Av nx n (-1) p.toNat <;> by_cases h2 : Av nx n q p.toNat <;> simp [h1, h2, h.2.1, h.2.2, Int.toNat_of_nonneg h.1.1]

set_option maxRecDepth 100000 in
theorem dom15_calls (f : Fun) (h : FunH) (w : World) (hR : f.Rd w h) (hn : f.code.length ≤ 1000000) (ho : ∀ i ∈ f.code, -9223372036854775808 ≤ i.a ∧ i.a ≤ 9223372036854775807) (q p : Int) :
    Calls Try.prog 15 #[f.val h, I q, I p] w fun e w' => e = .returned (.bool (domZ (nxt f.code) f.code.length q p)) ∧ Mem w w' [] := by
  have HR := hid hR
  have hwo := fun (w' : World) hR' => without_calls f h w' hR' hn ho p q
  have HT := hid hwo
  have hre := fun (w' : World) hR' => reach_calls f h w' hR' hn ho p
  have HE := hid hre
  clear hR ho hwo hre
  obtain ⟨lv, ps, rs, lo, st, code⟩ := f
  obtain ⟨A1, c1, A2, c2, A5, c5⟩ := h
  simp only [] at hn
  have H0 := Mem.refl w
  simp only [Fun.val] at *
  go_enter Try.func15, Try.ntmps15
  by_cases hin : (0 ≤ q ∧ q ≤ (code.length : Int)) ∧ 0 ≤ p ∧ p ≤ (code.length : Int)
  · obtain ⟨⟨h1, h2⟩, h3, h4⟩ := hin
    have hz := domZ_av (nx := nxt code) ⟨⟨h1, h2⟩, h3, h4⟩
    cases hb1 : avZ (nxt code) code.length p (-1) with
    | false =>
      rw [hb1] at hz
      have HZ := hid hz
      have HB1 := hid hb1
      clear hz hb1
      go_wp2_with (first
        | ((with_reducible refine at_box ?_); refine wpList_box_box H0 ?_; intro u_ gH1 wH1 hu_ H1; simp only [Act.eval, Act.put, List.setIfInBounds_toArray, List.set_cons_zero, List.set_cons_succ, Array.getD_eq_getD_getElem?, List.getElem?_toArray, List.getElem?_cons_zero, List.getElem?_cons_succ, Option.getD_some] at hu_; subst hu_; simp only [splice, vcells_int, vcells_bool, vcells_string, vcells_pointer, vcells_slice, vcells_map, vcells_func, vcells_nilFunc, vcells_iface, vcells_nilIface, vcells_agg, List.take_zero, List.take_succ_cons, List.drop_zero, List.drop_succ_cons, List.length_cons, List.length_nil, List.nil_append, List.cons_append, List.append_nil, Nat.zero_add, List.set_cons_zero, List.set_cons_succ] at H1; (try clear b0); have b0 := H1.cells 0 rfl; simp only [cellsAre, and_true, Nat.zero_add] at b0)
        | ((go_at_call 30; (with_reducible refine (HE.out _ (Fun.Rd.below HR.out H1.below)).mono ?_); rintro e w2 ⟨A3, c3, l, rfl, h3, hl, hx, H2'⟩; have H2 := H1.call H2'; simp only [List.cons_append, List.nil_append] at H2); rw [HB1.out] at hx; obtain ⟨b3, o3, rfl, e3⟩ := (H2.own_rd 0 rfl (by decide)).1.get1 rfl hx rfl; clear hx hl))
      go_ret
      exact ⟨by rw [HZ.out]; rfl, (H2.drop 0).drop 0⟩
    | true =>
      have HB1 := hid hb1
      rw [hb1] at hz
      clear hb1
      cases hb2 : avZ (nxt code) code.length p q with
      | false =>
        rw [hb2] at hz
        have HZ := hid hz
        have HB2 := hid hb2
        clear hz hb2
        go_wp2_with (first
          | ((with_reducible refine at_box ?_); refine wpList_box_box H0 ?_; intro u_ gH1 wH1 hu_ H1; simp only [Act.eval, Act.put, List.setIfInBounds_toArray, List.set_cons_zero, List.set_cons_succ, Array.getD_eq_getD_getElem?, List.getElem?_toArray, List.getElem?_cons_zero, List.getElem?_cons_succ, Option.getD_some] at hu_; subst hu_; simp only [splice, vcells_int, vcells_bool, vcells_string, vcells_pointer, vcells_slice, vcells_map, vcells_func, vcells_nilFunc, vcells_iface, vcells_nilIface, vcells_agg, List.take_zero, List.take_succ_cons, List.drop_zero, List.drop_succ_cons, List.length_cons, List.length_nil, List.nil_append, List.cons_append, List.append_nil, Nat.zero_add, List.set_cons_zero, List.set_cons_succ] at H1; (try clear b0); have b0 := H1.cells 0 rfl; simp only [cellsAre, and_true, Nat.zero_add] at b0)
          | ((go_at_call 30; (with_reducible refine (HE.out _ (Fun.Rd.below HR.out H1.below)).mono ?_); rintro e w2 ⟨A3, c3, l, rfl, h3, hl, hx, H2'⟩; have H2 := H1.call H2'; simp only [List.cons_append, List.nil_append] at H2); rw [HB1.out] at hx; obtain ⟨b3, o3, rfl, e3⟩ := (H2.own_rd 0 rfl (by decide)).1.get1 rfl hx rfl; clear hx hl; (try clear b2); have b2 := H2.cells 1 rfl; simp only [cellsAre, and_true, Nat.zero_add] at b2)
          | ((go_at_call 31; (with_reducible refine (HT.out _ (Fun.Rd.below HR.out H2.below)).mono ?_); rintro e w3 ⟨A4, c4, l4, rfl, h4, hl, hx, H3'⟩; have H3 := H2.call H3'; simp only [List.cons_append, List.nil_append] at H3); rw [HB2.out] at hx; obtain ⟨b4, o4, rfl, e4⟩ := (H3.own_rd 0 rfl (by decide)).1.get1 rfl hx rfl; clear hx hl))
        go_ret
        exact ⟨by rw [HZ.out]; rfl, ((H3.drop 0).drop 0).drop 0⟩
      | true =>
        rw [hb2] at hz
        have HZ := hid hz
        have HB2 := hid hb2
        clear hz hb2
        go_wp2_with (first
          | ((with_reducible refine at_box ?_); refine wpList_box_box H0 ?_; intro u_ gH1 wH1 hu_ H1; simp only [Act.eval, Act.put, List.setIfInBounds_toArray, List.set_cons_zero, List.set_cons_succ, Array.getD_eq_getD_getElem?, List.getElem?_toArray, List.getElem?_cons_zero, List.getElem?_cons_succ, Option.getD_some] at hu_; subst hu_; simp only [splice, vcells_int, vcells_bool, vcells_string, vcells_pointer, vcells_slice, vcells_map, vcells_func, vcells_nilFunc, vcells_iface, vcells_nilIface, vcells_agg, List.take_zero, List.take_succ_cons, List.drop_zero, List.drop_succ_cons, List.length_cons, List.length_nil, List.nil_append, List.cons_append, List.append_nil, Nat.zero_add, List.set_cons_zero, List.set_cons_succ] at H1; (try clear b0); have b0 := H1.cells 0 rfl; simp only [cellsAre, and_true, Nat.zero_add] at b0)
          | ((go_at_call 30; (with_reducible refine (HE.out _ (Fun.Rd.below HR.out H1.below)).mono ?_); rintro e w2 ⟨A3, c3, l, rfl, h3, hl, hx, H2'⟩; have H2 := H1.call H2'; simp only [List.cons_append, List.nil_append] at H2); rw [HB1.out] at hx; obtain ⟨b3, o3, rfl, e3⟩ := (H2.own_rd 0 rfl (by decide)).1.get1 rfl hx rfl; clear hx hl; (try clear b2); have b2 := H2.cells 1 rfl; simp only [cellsAre, and_true, Nat.zero_add] at b2)
          | ((go_at_call 31; (with_reducible refine (HT.out _ (Fun.Rd.below HR.out H2.below)).mono ?_); rintro e w3 ⟨A4, c4, l4, rfl, h4, hl, hx, H3'⟩; have H3 := H2.call H3'; simp only [List.cons_append, List.nil_append] at H3); rw [HB2.out] at hx; obtain ⟨b4, o4, rfl, e4⟩ := (H3.own_rd 0 rfl (by decide)).1.get1 rfl hx rfl; clear hx hl))
        go_ret
        exact ⟨by rw [HZ.out]; rfl, ((H3.drop 0).drop 0).drop 0⟩
  · have hz : domZ (nxt code) code.length q p = false := by unfold domZ; rw [if_neg hin]
    have HZ := hid hz
    clear hz
    have hcs : q < 0 ∨ (0 ≤ q ∧ (code.length : Int) < q) ∨ ((0 ≤ q ∧ q ≤ (code.length : Int)) ∧ p < 0) ∨ ((0 ≤ q ∧ q ≤ (code.length : Int)) ∧ 0 ≤ p ∧ (code.length : Int) < p) := by omega
    clear hin
    rcases hcs with k1 | ⟨k1, k2⟩ | ⟨⟨k1, k2⟩, k3⟩ | ⟨⟨k1, k2⟩, k3, k4⟩
    all_goals
      go_wp2_with (first | ((with_reducible refine at_box ?_); refine wpList_box_box H0 ?_; intro u_ gH1 wH1 hu_ H1; simp only [Act.eval, Act.put, List.setIfInBounds_toArray, List.set_cons_zero, List.set_cons_succ, Array.getD_eq_getD_getElem?, List.getElem?_toArray, List.getElem?_cons_zero, List.getElem?_cons_succ, Option.getD_some] at hu_; subst hu_; simp only [splice, vcells_int, vcells_bool, vcells_string, vcells_pointer, vcells_slice, vcells_map, vcells_func, vcells_nilFunc, vcells_iface, vcells_nilIface, vcells_agg, List.take_zero, List.take_succ_cons, List.drop_zero, List.drop_succ_cons, List.length_cons, List.length_nil, List.nil_append, List.cons_append, List.append_nil, Nat.zero_add, List.set_cons_zero, List.set_cons_succ] at H1; (try clear b0); have b0 := H1.cells 0 rfl; simp only [cellsAre, and_true, Nat.zero_add] at b0))
      go_ret
      exact ⟨by rw [HZ.out]; rfl, H1.drop 0⟩
end Go.Proofs.Ytjlikbaamefkiaa
