/- Package graph: the nodes to which an address has edges. -/
import Derived.Test.YtjlikbaamefkiaaElt
import Derived.Deep.DeepCutAuto
import Derived.Deep.CutBlock
namespace Go.Proofs.Ytjlikbaamefkiaa
open Go.RowKit
set_option linter.unusedVariables false
set_option linter.unusedSimpArgs false
set_option maxHeartbeats 400000

structure Put where
  n : Int
  l0 : Int
  l1 : Int
def Put.put (s : Put) (b most : Int) : Put :=
  if 0 ≤ b ∧ b ≤ most ∧ (s.n = 0 ∨ s.l0 ≠ b) then (if s.n = 0 then ⟨1, b, s.l1⟩ else ⟨2, s.l0, b⟩) else s

theorem put_calls (w0 w : World) (As : List HP) (gn gl : Nat) (s : Put) (b most : Int) (hs : s.n = 0 ∨ s.n = 1) (hb : -9223372036854775808 ≤ b ∧ b ≤ 9223372036854775807) (hm : -1 ≤ most ∧ most ≤ 9223372036854775806)
    (H : Mem w0 w (box gn 3 #[I s.n] :: box gl 71 #[I s.l0, I s.l1] :: As)) :
    Calls Try.prog 42 #[I b, I most, pt gn, pt gl] w fun e w' => e = .returned (.tuple #[]) ∧
      Mem w0 w' (box gn 3 #[I (s.put b most).n] :: box gl 71 #[I (s.put b most).l0, I (s.put b most).l1] :: As) := by
  obtain ⟨n, l0, l1⟩ := s
  (try clear c1); have c1 := H.cells 0 rfl; simp only [cellsAre, and_true, Nat.zero_add] at c1; (try clear c2); have c2 := H.cells 1 rfl; simp only [cellsAre, and_true, Nat.zero_add] at c2
  simp only [] at hs
  go_enter Try.func42, Try.ntmps42
  by_cases hc : 0 ≤ b ∧ b ≤ most ∧ (n = 0 ∨ l0 ≠ b)
  · obtain ⟨h1, h2, h3⟩ := hc
    rcases hs with rfl | rfl
    · have hp : (Put.mk 0 l0 l1).put b most = ⟨1, b, l1⟩ := by simp [Put.put, h1, h2]
      rw [hp]
      clear hp h3
      go_wp2_with (first | ((with_reducible refine at_store ?_); refine wpList_store_box H 1 1 rfl rfl (by kernel_rfl) rfl (Nat.le_of_ble_eq_true rfl) rfl ?_; intro u_ wH1 hu_ H1; simp only [Act.eval, Act.put, List.setIfInBounds_toArray, List.set_cons_zero, List.set_cons_succ, Array.getD_eq_getD_getElem?, List.getElem?_toArray, List.getElem?_cons_zero, List.getElem?_cons_succ, Option.getD_some] at hu_; subst hu_; simp only [splice, vcells_int, vcells_bool, vcells_string, vcells_pointer, vcells_slice, vcells_map, vcells_func, vcells_nilFunc, vcells_iface, vcells_nilIface, vcells_agg, List.take_zero, List.take_succ_cons, List.drop_zero, List.drop_succ_cons, List.length_cons, List.length_nil, List.nil_append, List.cons_append, List.append_nil, Nat.zero_add, List.set_cons_zero, List.set_cons_succ] at H1; (try clear c1); have c1 := H1.cells 0 rfl; simp only [cellsAre, and_true, Nat.zero_add] at c1) | ((with_reducible refine at_store ?_); refine wpList_store_box H1 0 1 rfl rfl (by kernel_rfl) rfl (Nat.le_of_ble_eq_true rfl) rfl ?_; intro u_ wH2 hu_ H2; simp only [Act.eval, Act.put, List.setIfInBounds_toArray, List.set_cons_zero, List.set_cons_succ, Array.getD_eq_getD_getElem?, List.getElem?_toArray, List.getElem?_cons_zero, List.getElem?_cons_succ, Option.getD_some] at hu_; subst hu_; simp only [splice, vcells_int, vcells_bool, vcells_string, vcells_pointer, vcells_slice, vcells_map, vcells_func, vcells_nilFunc, vcells_iface, vcells_nilIface, vcells_agg, List.take_zero, List.take_succ_cons, List.drop_zero, List.drop_succ_cons, List.length_cons, List.length_nil, List.nil_append, List.cons_append, List.append_nil, Nat.zero_add, List.set_cons_zero, List.set_cons_succ] at H2))
      go_end0
      exact ⟨rfl, H2⟩
    · have h3' : l0 ≠ b := by simpa using h3
      have hp : (Put.mk 1 l0 l1).put b most = ⟨2, l0, b⟩ := by simp [Put.put, h1, h2, h3']
      have hb1 : (l0 != b) = true := by simp [h3']
      rw [hp]
      clear hp h3 h3'
      go_wp2_with (first | ((with_reducible refine at_store ?_); refine wpList_store_box H 1 1 rfl rfl (by kernel_rfl) rfl (Nat.le_of_ble_eq_true rfl) rfl ?_; intro u_ wH1 hu_ H1; simp only [Act.eval, Act.put, List.setIfInBounds_toArray, List.set_cons_zero, List.set_cons_succ, Array.getD_eq_getD_getElem?, List.getElem?_toArray, List.getElem?_cons_zero, List.getElem?_cons_succ, Option.getD_some] at hu_; subst hu_; simp only [splice, vcells_int, vcells_bool, vcells_string, vcells_pointer, vcells_slice, vcells_map, vcells_func, vcells_nilFunc, vcells_iface, vcells_nilIface, vcells_agg, List.take_zero, List.take_succ_cons, List.drop_zero, List.drop_succ_cons, List.length_cons, List.length_nil, List.nil_append, List.cons_append, List.append_nil, Nat.zero_add, List.set_cons_zero, List.set_cons_succ] at H1; (try clear c1); have c1 := H1.cells 0 rfl; simp only [cellsAre, and_true, Nat.zero_add] at c1) | ((with_reducible refine at_store ?_); refine wpList_store_box H1 0 1 rfl rfl (by kernel_rfl) rfl (Nat.le_of_ble_eq_true rfl) rfl ?_; intro u_ wH2 hu_ H2; simp only [Act.eval, Act.put, List.setIfInBounds_toArray, List.set_cons_zero, List.set_cons_succ, Array.getD_eq_getD_getElem?, List.getElem?_toArray, List.getElem?_cons_zero, List.getElem?_cons_succ, Option.getD_some] at hu_; subst hu_; simp only [splice, vcells_int, vcells_bool, vcells_string, vcells_pointer, vcells_slice, vcells_map, vcells_func, vcells_nilFunc, vcells_iface, vcells_nilIface, vcells_agg, List.take_zero, List.take_succ_cons, List.drop_zero, List.drop_succ_cons, List.length_cons, List.length_nil, List.nil_append, List.cons_append, List.append_nil, Nat.zero_add, List.set_cons_zero, List.set_cons_succ] at H2))
      go_end0
      exact ⟨rfl, H2⟩
  · have hp : (Put.mk n l0 l1).put b most = ⟨n, l0, l1⟩ := by unfold Put.put; rw [if_neg hc]
    rw [hp]
    clear hp
    by_cases h1 : 0 ≤ b
    · by_cases h2 : b ≤ most
      · have h3 : n = 1 ∧ l0 = b := by omega
        obtain ⟨rfl, rfl⟩ := h3
        go_wp2
        go_end0
        exact ⟨rfl, H⟩
      · go_wp2
        go_end0
        exact ⟨rfl, H⟩
    · go_wp2
      go_end0
      exact ⟨rfl, H⟩

/-- The nodes to which an address has edges, the lesser one first. -/
def nxt (code : List Ins) (a : Nat) : List Nat :=
  match code[a]? with
  | none => []
  | some i =>
    if i.op = 43 then (if 0 ≤ i.a ∧ i.a < code.length then [i.a.toNat] else [])
    else if i.op = 44 then
      (if a + 1 < code.length then
        (if 0 ≤ i.a ∧ i.a < code.length then (if i.a = a + 1 then [a + 1] else if i.a < a + 1 then [i.a.toNat, a + 1] else [a + 1, i.a.toNat]) else [a + 1])
       else (if 0 ≤ i.a ∧ i.a < code.length then [i.a.toNat] else []))
    else if i.op = 46 then [code.length]
    else (if a + 1 < code.length then [a + 1] else [])

/-- Two words and how many of them count. -/
def firsts (l0 l1 n : Int) (l : List Nat) : Prop := n = l.length ∧ l.length ≤ 2 ∧ (∀ x : Nat, l[0]? = some x → l0 = x) ∧ (∀ x : Nat, l[1]? = some x → l1 = x)
def ToRes (w : World) (l : List Nat) (e : Ending) (w' : World) : Prop := ∃ l0 l1 n, e = .returned (.tuple #[.agg #[I l0, I l1], I n]) ∧ firsts l0 l1 n l ∧ Mem w w' []

/-- What the two words are, behind the calls, before they are put in order. -/
def fin (S : Put) (l : List Nat) : Prop := (S.n = 2 → S.l0 > S.l1 → firsts S.l1 S.l0 S.n l) ∧ (¬ (S.n = 2 ∧ S.l0 > S.l1) → firsts S.l0 S.l1 S.n l) ∧ 0 ≤ S.n ∧ S.n ≤ 2

theorem fin_one (n0 : Nat) (oa : Int) (h : (n0 : Int) ≤ 9223372036854775807) : fin ((Put.mk 0 0 0).put oa ((n0 : Int) - 1)) (if 0 ≤ oa ∧ oa < n0 then [oa.toNat] else []) := by
  unfold Put.put
  simp only [true_or, and_true, if_true]
  by_cases hc : 0 ≤ oa ∧ oa < n0
  · rw [if_pos (by omega), if_pos hc]
    refine ⟨by simp, fun _ => ⟨rfl, by simp, ?_, by simp⟩, by simp, by simp⟩
    intro x hx
    simp at hx
    show oa = _
    omega
  · rw [if_neg (by omega), if_neg hc]
    exact ⟨by simp, fun _ => ⟨rfl, by simp, by simp, by simp⟩, by simp, by simp⟩
theorem fin_next (n0 a : Nat) (h : a < n0) : fin ((Put.mk 0 0 0).put ((a : Int) + 1) ((n0 : Int) - 1)) (if a + 1 < n0 then [a + 1] else []) := by
  have := fin_one n0 ((a : Int) + 1)
  by_cases hc : a + 1 < n0
  · unfold Put.put
    simp only [true_or, and_true, if_true]
    rw [if_pos (by omega), if_pos hc]
    exact ⟨by simp, fun _ => ⟨rfl, by simp, by first | (simp; done) | (simp; omega), by simp⟩, by simp, by simp⟩
  · unfold Put.put
    simp only [true_or, and_true, if_true]
    rw [if_neg (by omega), if_neg hc]
    exact ⟨by simp, fun _ => ⟨rfl, by simp, by simp, by simp⟩, by simp, by simp⟩
theorem fin_ret (n0 : Nat) : fin ((Put.mk 0 0 0).put (n0 : Int) (n0 : Int)) [n0] := by
  unfold Put.put
  simp only [true_or, and_true, if_true]
  rw [if_pos (by omega)]
  exact ⟨by simp, fun _ => ⟨rfl, by simp, by simp, by simp⟩, by simp, by simp⟩
theorem fin_two (n0 a : Nat) (oa : Int) (h : a < n0) : fin (((Put.mk 0 0 0).put ((a : Int) + 1) ((n0 : Int) - 1)).put oa ((n0 : Int) - 1))
    (if a + 1 < n0 then
        (if 0 ≤ oa ∧ oa < n0 then (if oa = a + 1 then [a + 1] else if oa < a + 1 then [oa.toNat, a + 1] else [a + 1, oa.toNat]) else [a + 1])
       else (if 0 ≤ oa ∧ oa < n0 then [oa.toNat] else [])) := by
  by_cases h1 : a + 1 < n0
  · have e1 : (Put.mk 0 0 0).put ((a : Int) + 1) ((n0 : Int) - 1) = ⟨1, (a : Int) + 1, 0⟩ := by
      unfold Put.put
      rw [if_pos ⟨by omega, by omega, .inl rfl⟩, if_pos rfl]
    rw [e1, if_pos h1]
    by_cases hc : 0 ≤ oa ∧ oa < n0
    · rw [if_pos hc]
      by_cases h2 : oa = a + 1
      · have e2 : (Put.mk 1 ((a : Int) + 1) 0).put oa ((n0 : Int) - 1) = ⟨1, (a : Int) + 1, 0⟩ := by
          unfold Put.put
          rw [if_neg (by first | (simp; done) | (simp; omega))]
        rw [e2, if_pos h2]
        exact ⟨by simp, fun _ => ⟨rfl, by simp, by first | (simp; done) | (simp; omega), by simp⟩, by simp, by simp⟩
      · have e2 : (Put.mk 1 ((a : Int) + 1) 0).put oa ((n0 : Int) - 1) = ⟨2, (a : Int) + 1, oa⟩ := by
          unfold Put.put
          rw [if_pos ⟨hc.1, by omega, .inr (by first | (simp; done) | (simp; omega))⟩, if_neg (by simp)]
        rw [e2, if_neg h2]
        by_cases h3 : oa < a + 1
        · rw [if_pos h3]
          exact ⟨fun _ _ => ⟨rfl, by simp, by first | (simp; done) | (simp; omega), by first | (simp; done) | (simp; omega)⟩, fun hn => absurd ⟨rfl, h3⟩ hn, by simp, by simp⟩
        · rw [if_neg h3]
          exact ⟨fun _ hg => absurd hg (by first | (simp; done) | (simp; omega)), fun _ => ⟨rfl, by simp, by first | (simp; done) | (simp; omega), by first | (simp; done) | (simp; omega)⟩, by simp, by simp⟩
    · have e2 : (Put.mk 1 ((a : Int) + 1) 0).put oa ((n0 : Int) - 1) = ⟨1, (a : Int) + 1, 0⟩ := by
        unfold Put.put
        rw [if_neg (by first | (simp; done) | (simp; omega))]
      rw [e2, if_neg hc]
      exact ⟨by simp, fun _ => ⟨rfl, by simp, by first | (simp; done) | (simp; omega), by simp⟩, by simp, by simp⟩
  · have e1 : (Put.mk 0 0 0).put ((a : Int) + 1) ((n0 : Int) - 1) = ⟨0, 0, 0⟩ := by
      unfold Put.put
      rw [if_neg (by omega)]
    rw [e1, if_neg h1]
    unfold Put.put
    simp only [true_or, and_true, if_true]
    by_cases hc : 0 ≤ oa ∧ oa < n0
    · rw [if_pos (by omega), if_pos hc]
      exact ⟨by simp, fun _ => ⟨rfl, by simp, by first | (simp; done) | (simp; omega), by simp⟩, by simp, by simp⟩
    · rw [if_neg (by omega), if_neg hc]
      exact ⟨by simp, fun _ => ⟨rfl, by simp, by simp, by simp⟩, by simp, by simp⟩

set_option maxRecDepth 100000 in
theorem to_calls (A : Option Addr) (c : Nat) (code : List Ins) (a : Nat) (w : World) (hR : Rd Enc.ins w A code) (ha : a < code.length) (hn : code.length ≤ 9000000000000) (ho : ∀ i ∈ code, -9223372036854775808 ≤ i.a ∧ i.a ≤ 9223372036854775807) :
    Calls Try.prog 41 #[.slice A code.length c, I a] w (ToRes w (nxt code a)) := by
  obtain ⟨b, o, rfl, hc0, hc1⟩ := hR.get2 rfl (List.getElem?_eq_getElem ha) rfl
  obtain ⟨l, hl⟩ : ∃ l, nxt code a = l := ⟨_, rfl⟩
  rw [hl]
  unfold nxt at hl
  rw [List.getElem?_eq_getElem ha] at hl
  simp only [] at hl
  have hoa := ho _ (List.getElem_mem ha)
  generalize code[a] = i at *
  obtain ⟨op, oa⟩ := i
  simp only [] at hl hc0 hc1 hoa
  have HL := hid hl
  clear hl ho
  have H0 := Mem.refl w
  have hm : -1 ≤ (code.length : Int) - 1 ∧ (code.length : Int) - 1 ≤ 9223372036854775806 := by omega
  go_enter Try.func41, Try.ntmps41
  go_upto_block 0 with (first | ((with_reducible refine at_alloc ?_); refine wpList_alloc_box H0 (.agg #[I 0, I 0]) (by kernel_rfl) ?_; intro gH1 wH1 H1; simp only [splice, vcells_int, vcells_bool, vcells_string, vcells_pointer, vcells_slice, vcells_map, vcells_func, vcells_nilFunc, vcells_iface, vcells_nilIface, vcells_agg, List.take_zero, List.take_succ_cons, List.drop_zero, List.drop_succ_cons, List.length_cons, List.length_nil, List.nil_append, List.cons_append, List.append_nil, Nat.zero_add, List.set_cons_zero, List.set_cons_succ] at H1) | ((with_reducible refine at_alloc ?_); refine wpList_alloc_box H1 (.agg #[I 0, I 0]) (by kernel_rfl) ?_; intro gH2 wH2 H2; simp only [splice, vcells_int, vcells_bool, vcells_string, vcells_pointer, vcells_slice, vcells_map, vcells_func, vcells_nilFunc, vcells_iface, vcells_nilIface, vcells_agg, List.take_zero, List.take_succ_cons, List.drop_zero, List.drop_succ_cons, List.length_cons, List.length_nil, List.nil_append, List.cons_append, List.append_nil, Nat.zero_add, List.set_cons_zero, List.set_cons_succ] at H2) | ((with_reducible refine at_alloc ?_); refine wpList_alloc_box H2 (I 0) (by kernel_rfl) ?_; intro gH3 wH3 H3; simp only [splice, vcells_int, vcells_bool, vcells_string, vcells_pointer, vcells_slice, vcells_map, vcells_func, vcells_nilFunc, vcells_iface, vcells_nilIface, vcells_agg, List.take_zero, List.take_succ_cons, List.drop_zero, List.drop_succ_cons, List.length_cons, List.length_nil, List.nil_append, List.cons_append, List.append_nil, Nat.zero_add, List.set_cons_zero, List.set_cons_succ] at H3) | ((with_reducible refine at_store ?_); refine wpList_store_box H3 0 1 rfl rfl (by kernel_rfl) rfl (Nat.le_of_ble_eq_true rfl) rfl ?_; intro u_ wH4 hu_ H4; simp only [Act.eval, Act.put, List.setIfInBounds_toArray, List.set_cons_zero, List.set_cons_succ, Array.getD_eq_getD_getElem?, List.getElem?_toArray, List.getElem?_cons_zero, List.getElem?_cons_succ, Option.getD_some] at hu_; subst hu_; simp only [splice, vcells_int, vcells_bool, vcells_string, vcells_pointer, vcells_slice, vcells_map, vcells_func, vcells_nilFunc, vcells_iface, vcells_nilIface, vcells_agg, List.take_zero, List.take_succ_cons, List.drop_zero, List.drop_succ_cons, List.length_cons, List.length_nil, List.nil_append, List.cons_append, List.append_nil, Nat.zero_add, List.set_cons_zero, List.set_cons_succ] at H4; (try clear d1); have d1 := H4.cells 0 rfl; simp only [cellsAre, and_true, Nat.zero_add] at d1; have c0 := H4.old hc0; have c1 := H4.old hc1) | ((with_reducible refine at_alloc ?_); refine wpList_alloc_box H4 (.agg #[I 0, I 0]) (by kernel_rfl) ?_; intro gH5 wH5 H5; simp only [splice, vcells_int, vcells_bool, vcells_string, vcells_pointer, vcells_slice, vcells_map, vcells_func, vcells_nilFunc, vcells_iface, vcells_nilIface, vcells_agg, List.take_zero, List.take_succ_cons, List.drop_zero, List.drop_succ_cons, List.length_cons, List.length_nil, List.nil_append, List.cons_append, List.append_nil, Nat.zero_add, List.set_cons_zero, List.set_cons_succ] at H5; have e0 := H5.old hc0; have e1 := H5.old hc1) | ((with_reducible refine at_store ?_); refine wpList_store_box H5 0 2 rfl rfl (by kernel_rfl) rfl (Nat.le_of_ble_eq_true rfl) rfl ?_; intro u_ wH6 hu_ H6; simp only [Act.eval, Act.put, List.setIfInBounds_toArray, List.set_cons_zero, List.set_cons_succ, Array.getD_eq_getD_getElem?, List.getElem?_toArray, List.getElem?_cons_zero, List.getElem?_cons_succ, Option.getD_some] at hu_; subst hu_; simp only [splice, vcells_int, vcells_bool, vcells_string, vcells_pointer, vcells_slice, vcells_map, vcells_func, vcells_nilFunc, vcells_iface, vcells_nilIface, vcells_agg, List.take_zero, List.take_succ_cons, List.drop_zero, List.drop_succ_cons, List.length_cons, List.length_nil, List.nil_append, List.cons_append, List.append_nil, Nat.zero_add, List.set_cons_zero, List.set_cons_succ] at H6; (try clear c2); have c2 := H6.cells 0 rfl; simp only [cellsAre, and_true, Nat.zero_add] at c2))
  have H7 := H6.rot
  have H7 : Mem w wH6 [box gH3 3 #[I 0], box gH2 71 #[I 0, I 0], box gH1 71 #[I 0, I 0], box gH5 63 #[I op, I oa]] := H7
  go_cut [] (fun wc => ∃ S, fin S l ∧ Mem w wc [box gH3 3 #[I S.n], box gH2 71 #[I S.l0, I S.l1], box gH1 71 #[I 0, I 0], box gH5 63 #[I op, I oa]])
  case first =>
    have hl := HL.out
    by_cases h43 : op = 43
    · subst h43
      simp only [if_true] at hl
      subst hl
      clear HL
      go_wp2_with ((go_at_call 42; with_reducible refine (put_calls _ _ _ _ _ ⟨0, 0, 0⟩ _ _ (.inl rfl) hoa hm H7).mono ?_); rintro e w8 ⟨rfl, H8⟩; clear c2)
      go_meet
      exact ⟨_, fin_one _ _ (by omega), H8⟩
    · rw [if_neg h43] at hl
      by_cases h44 : op = 44
      · subst h44
        simp only [if_true] at hl
        subst hl
        clear HL h43
        have hs : ((Put.mk 0 0 0).put ((a : Int) + 1) ((code.length : Int) - 1)).n = 0 ∨ ((Put.mk 0 0 0).put ((a : Int) + 1) ((code.length : Int) - 1)).n = 1 := by
          unfold Put.put
          split
          · exact .inr rfl
          · exact .inl rfl
        go_wp2_with (first
          | ((go_at_call 42; with_reducible refine (put_calls _ _ _ _ _ ⟨0, 0, 0⟩ ((a : Int) + 1) _ (.inl rfl) (by omega) hm H7).mono ?_); rintro e w8 ⟨rfl, H8⟩; (try clear c2); have c2 := H8.cells 3 rfl; simp only [cellsAre, and_true, Nat.zero_add] at c2)
          | ((go_at_call 42; with_reducible refine (put_calls _ _ _ _ _ _ oa _ hs hoa hm H8).mono ?_); rintro e w9 ⟨rfl, H9⟩; clear c2))
        go_meet
        exact ⟨_, fin_two _ _ _ ha, H9⟩
      · rw [if_neg h44] at hl
        by_cases h46 : op = 46
        · subst h46
          simp only [if_true] at hl
          subst hl
          clear HL h43 h44
          go_wp2_with ((go_at_call 42; with_reducible refine (put_calls _ _ _ _ _ ⟨0, 0, 0⟩ (code.length : Int) _ (.inl rfl) (by omega) (by omega) H7).mono ?_); rintro e w8 ⟨rfl, H8⟩; clear c2)
          go_meet
          exact ⟨_, fin_ret _, H8⟩
        · rw [if_neg h46] at hl
          subst hl
          clear HL
          have e3 : (op == 43) = false := by simpa using h43
          have e4 : (op == 44) = false := by simpa using h44
          have e6 : (op == 46) = false := by simpa using h46
          clear h43 h44 h46
          go_wp2_with ((go_at_call 42; with_reducible refine (put_calls _ _ _ _ _ ⟨0, 0, 0⟩ ((a : Int) + 1) _ (.inl rfl) (by omega) hm H7).mono ?_); rintro e w8 ⟨rfl, H8⟩; clear c2)
          go_meet
          exact ⟨_, fin_next _ _ ha, H8⟩
  case rest =>
    obtain ⟨⟨n, l0, l1⟩, ⟨hf1, hf2, hn0, hn2⟩, H8⟩ := hcut
    simp only [] at hf1 hf2 hn0 hn2 H8
    (try clear c1); have c1 := H8.cells 0 rfl; simp only [cellsAre, and_true, Nat.zero_add] at c1; (try clear c2); have c2 := H8.cells 1 rfl; simp only [cellsAre, and_true, Nat.zero_add] at c2; (try clear c3); have c3 := H8.cells 2 rfl; simp only [cellsAre, and_true, Nat.zero_add] at c3
    have HF1 := hid hf1
    have HF2 := hid hf2
    clear hf1 hf2 c0 e0 e1 d1 hc0 hc1
    by_cases h2 : n = 2
    · subst h2
      by_cases hg : l0 > l1
      · have HF := HF1.out rfl hg
        clear HF1 HF2
        go_wp2_with (first | ((with_reducible refine at_store ?_); refine wpList_store_box H8 1 1 rfl rfl (by kernel_rfl) rfl (Nat.le_of_ble_eq_true rfl) rfl ?_; intro u_ wH9 hu_ H9; simp only [Act.eval, Act.put, List.setIfInBounds_toArray, List.set_cons_zero, List.set_cons_succ, Array.getD_eq_getD_getElem?, List.getElem?_toArray, List.getElem?_cons_zero, List.getElem?_cons_succ, Option.getD_some] at hu_; subst hu_; simp only [splice, vcells_int, vcells_bool, vcells_string, vcells_pointer, vcells_slice, vcells_map, vcells_func, vcells_nilFunc, vcells_iface, vcells_nilIface, vcells_agg, List.take_zero, List.take_succ_cons, List.drop_zero, List.drop_succ_cons, List.length_cons, List.length_nil, List.nil_append, List.cons_append, List.append_nil, Nat.zero_add, List.set_cons_zero, List.set_cons_succ] at H9; (try clear c2); have c2 := H9.cells 1 rfl; simp only [cellsAre, and_true, Nat.zero_add] at c2) | ((with_reducible refine at_store ?_); refine wpList_store_box H9 1 1 rfl rfl (by kernel_rfl) rfl (Nat.le_of_ble_eq_true rfl) rfl ?_; intro u_ wH10 hu_ H10; simp only [Act.eval, Act.put, List.setIfInBounds_toArray, List.set_cons_zero, List.set_cons_succ, Array.getD_eq_getD_getElem?, List.getElem?_toArray, List.getElem?_cons_zero, List.getElem?_cons_succ, Option.getD_some] at hu_; subst hu_; simp only [splice, vcells_int, vcells_bool, vcells_string, vcells_pointer, vcells_slice, vcells_map, vcells_func, vcells_nilFunc, vcells_iface, vcells_nilIface, vcells_agg, List.take_zero, List.take_succ_cons, List.drop_zero, List.drop_succ_cons, List.length_cons, List.length_nil, List.nil_append, List.cons_append, List.append_nil, Nat.zero_add, List.set_cons_zero, List.set_cons_succ] at H10; (try clear c1); have c1 := H10.cells 0 rfl; simp only [cellsAre, and_true, Nat.zero_add] at c1; (try clear c2); have c2 := H10.cells 1 rfl; simp only [cellsAre, and_true, Nat.zero_add] at c2; (try clear c3); have c3 := H10.cells 2 rfl; simp only [cellsAre, and_true, Nat.zero_add] at c3))
        have hne := H10.ne 0 2 (by omega) rfl rfl
        go_region
        have HZ := ((H10.box_set 2 rfl 0 (I l1)).box_set 2 rfl 1 (I l0)).drew
        simp only [List.setIfInBounds_toArray, List.set_cons_zero, List.set_cons_succ] at HZ
        have cz := HZ.cells 2 rfl
        simp only [cellsAre, and_true, Nat.zero_add] at cz
        go_wp2
        refine bodyPost_ret (v := .tuple #[.agg #[I l1, I l0], I 2]) (by simp [results, Try.results41, go_sem, cz]) rfl ?_
        exact ⟨_, _, _, rfl, HF, (((HZ.drop 0).drop 0).drop 0).drop 0⟩
      · have HF := HF2.out (fun h => hg h.2)
        clear HF1 HF2
        go_wp2
        have hne := H8.ne 0 2 (by omega) rfl rfl
        go_region
        have HZ := ((H8.box_set 2 rfl 0 (I l0)).box_set 2 rfl 1 (I l1)).drew
        simp only [List.setIfInBounds_toArray, List.set_cons_zero, List.set_cons_succ] at HZ
        have cz := HZ.cells 2 rfl
        simp only [cellsAre, and_true, Nat.zero_add] at cz
        go_wp2
        refine bodyPost_ret (v := .tuple #[.agg #[I l0, I l1], I 2]) (by simp [results, Try.results41, go_sem, cz]) rfl ?_
        exact ⟨_, _, _, rfl, HF, (((HZ.drop 0).drop 0).drop 0).drop 0⟩
    · have HF := HF2.out (fun h => h2 h.1)
      clear HF1 HF2
      have h2' : (n == 2) = false := by simpa using h2
      go_wp2
      have hne := H8.ne 0 2 (by omega) rfl rfl
      go_region
      have HZ := ((H8.box_set 2 rfl 0 (I l0)).box_set 2 rfl 1 (I l1)).drew
      simp only [List.setIfInBounds_toArray, List.set_cons_zero, List.set_cons_succ] at HZ
      have cz := HZ.cells 2 rfl
      simp only [cellsAre, and_true, Nat.zero_add] at cz
      go_wp2
      refine bodyPost_ret (v := .tuple #[.agg #[I l0, I l1], I n]) (by simp [results, Try.results41, go_sem, cz]) rfl ?_
      exact ⟨_, _, _, rfl, HF, (((HZ.drop 0).drop 0).drop 0).drop 0⟩
end Go.Proofs.Ytjlikbaamefkiaa
