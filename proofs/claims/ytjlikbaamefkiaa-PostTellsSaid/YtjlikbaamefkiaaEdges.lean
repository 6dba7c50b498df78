/- slices.Clone of code; graph.edges, graph.Edges: what hands back the iterator. -/
import Derived.Test.YtjlikbaamefkiaaEdge
namespace Go.Proofs.Ytjlikbaamefkiaa
open Go.RowKit
set_option linter.unusedVariables false
set_option linter.unusedSimpArgs false
set_option maxHeartbeats 800000

theorem cloneCode_calls (A : Option Addr) (c : Nat) (xs : List Ins) (w : World) (hx : Rd Enc.ins w A xs) (hl : xs.length ≤ 1000000000000) :
    Calls Try.prog 36 #[.slice A xs.length c] w fun e w' => ∃ A' c', e = .returned (.slice A' xs.length c') ∧ xs.length ≤ c' ∧ Mem w w' [own Enc.ins 63 A' c' xs] := by
  have hq := fun w A n c => @Lib.run_eql_slice_nil Try.prog w 25 63 A n c 0 0 Try.underlying25
  have HX := hid hx
  clear hx
  have H0 := Mem.refl w
  cases A with
  | none =>
    have hn0 : xs = [] := by
      rcases Nat.eq_zero_or_pos xs.length with h | h
      · exact List.eq_nil_of_length_eq_zero h
      · obtain ⟨b, o, h1, _⟩ := HX.out.at' (by omega); cases h1
    subst hn0
    go_enter Try.func36, Try.ntmps36
    go_wp2
    go_ret
    exact ⟨none, 0, rfl, Nat.le_refl _, H0.nilrow 63 2⟩
  | some ad =>
    go_enter Try.func36, Try.ntmps36
    go_wp2_with (first
      | ((with_reducible refine at_build0 ?_); refine wpList_build0 elt_ins H0 ?_; intro gH1 wH1 H1)
      | ((with_reducible refine at_append ?_); refine wpList_append_row rfl _ _ rfl elt_ins H1 0 rfl rfl rfl (RdC.below HX.out H1.below) (by unfold maxLen; omega) (by omega) ?_; intro A2 c2 w2 H2; simp only [List.set_cons_zero, Nat.zero_add, List.nil_append] at H2; obtain ⟨-, h3, h4⟩ := H2.rd 0 rfl elt_ins.pos))
    go_ret
    exact ⟨A2, c2, by simp, h3, H2⟩

theorem edges0_calls (A : Option Addr) (c n : Nat) (w : World) : Calls Try.prog 35 #[.slice A n c] w fun e w' => ∃ g, e = .returned (.func (.func 40) #[] #[pt g]) ∧ Mem w w' [box g 25 #[.slice A n c]] := by
  have H0 := Mem.refl w
  go_enter Try.func35, Try.ntmps35
  go_wp2_with (first | ((with_reducible refine at_box ?_); refine wpList_box_box H0 ?_; intro u_ gH1 wH1 hu_ H1; simp only [Act.eval, Act.put, List.setIfInBounds_toArray, List.set_cons_zero, List.set_cons_succ, Array.getD_eq_getD_getElem?, List.getElem?_toArray, List.getElem?_cons_zero, List.getElem?_cons_succ, Option.getD_some] at hu_; subst hu_; simp only [splice, vcells_int, vcells_bool, vcells_string, vcells_pointer, vcells_slice, vcells_map, vcells_func, vcells_nilFunc, vcells_iface, vcells_nilIface, vcells_agg, List.take_zero, List.take_succ_cons, List.drop_zero, List.drop_succ_cons, List.length_cons, List.length_nil, List.nil_append, List.cons_append, List.append_nil, Nat.zero_add, List.set_cons_zero, List.set_cons_succ] at H1))
  go_ret
  exact ⟨_, rfl, H1⟩

set_option maxRecDepth 100000 in
theorem edges_calls (f : Fun) (h : FunH) (w : World) (hR : f.Rd w h) (hn : f.code.length ≤ 1000000) :
    Calls Try.prog 24 #[f.val h] w fun e w' => ∃ g A c, e = .returned (.func (.func 40) #[] #[pt g]) ∧ Mem w w' [box g 25 #[.slice A f.code.length c], own Enc.ins 63 A c f.code] := by
  have HR := hid hR.code
  clear hR
  obtain ⟨lv, ps, rs, lo, st, code⟩ := f
  obtain ⟨A1, c1, A2, c2, A5, c5⟩ := h
  simp only [] at hn
  have H0 := Mem.refl w
  simp only [Fun.val] at *
  go_enter Try.func24, Try.ntmps24
  go_wp2_with (first
    | ((with_reducible refine at_box ?_); refine wpList_box_box H0 ?_; intro u_ gH1 wH1 hu_ H1; simp only [Act.eval, Act.put, List.setIfInBounds_toArray, List.set_cons_zero, List.set_cons_succ, Array.getD_eq_getD_getElem?, List.getElem?_toArray, List.getElem?_cons_zero, List.getElem?_cons_succ, Option.getD_some] at hu_; subst hu_; simp only [splice, vcells_int, vcells_bool, vcells_string, vcells_pointer, vcells_slice, vcells_map, vcells_func, vcells_nilFunc, vcells_iface, vcells_nilIface, vcells_agg, List.take_zero, List.take_succ_cons, List.drop_zero, List.drop_succ_cons, List.length_cons, List.length_nil, List.nil_append, List.cons_append, List.append_nil, Nat.zero_add, List.set_cons_zero, List.set_cons_succ] at H1; (try clear b0); have b0 := H1.cells 0 rfl; simp only [cellsAre, and_true, Nat.zero_add] at b0)
    | (go_at_call 36; (with_reducible refine (cloneCode_calls A5 c5 code _ (Rd.below HR.out H1.below) (by omega)).mono ?_); rintro e w2 ⟨A7, c7, rfl, hc7, H2'⟩; have H2 := H1.call H2'; simp only [List.cons_append, List.nil_append] at H2)
    | (go_at_call 35; (with_reducible refine (edges0_calls A7 c7 code.length _).mono ?_); rintro e w3 ⟨g3, rfl, H3'⟩; have H3 := H2.call H3'; simp only [List.cons_append, List.nil_append] at H3))
  go_ret
  exact ⟨_, _, _, rfl, H3.drop 2⟩
end Go.Proofs.Ytjlikbaamefkiaa
