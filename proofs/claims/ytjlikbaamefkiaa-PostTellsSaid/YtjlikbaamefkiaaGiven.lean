/- louverlaw15's own function: code, given, awake. -/
import Derived.Test.YtjlikbaamefkiaaApart
import Derived.Test.YtjlikbaamefkiaaInv
namespace Go.Proofs.Ytjlikbaamefkiaa
open Go.RowKit
set_option linter.unusedVariables false
set_option linter.unusedSimpArgs false
set_option maxHeartbeats 2000000

/-- The words of a code. -/
def flat (code : List Ins) : List Int := code.flatMap fun i => [i.op, i.a]
theorem flat_len (code : List Ins) : (flat code).length = 2 * code.length := by
  induction code with
  | nil => rfl
  | cons i code ih => simp [flat] at *; omega
theorem flat_get {code : List Ins} {j : Nat} {i : Ins} (h : code[j]? = some i) : (flat code)[2 * j]? = some i.op ∧ (flat code)[2 * j + 1]? = some i.a := by
  induction code generalizing j with
  | nil => simp at h
  | cons x code ih =>
    cases j with
    | zero =>
      obtain rfl : x = i := by simpa using h
      exact ⟨rfl, rfl⟩
    | succ j =>
      have h' : code[j]? = some i := by simpa using h
      obtain ⟨h1, h2⟩ := ih h'
      have e : flat (x :: code) = x.op :: x.a :: flat code := rfl
      rw [e, show 2 * (j + 1) = 2 * j + 1 + 1 from by omega, show 2 * j + 1 + 1 + 1 = (2 * j + 1) + 1 + 1 from by omega]
      exact ⟨by simpa using h1, by simpa using h2⟩
/-- A function of code alone. -/
abbrev bare (code : List Ins) : Fun := ⟨0, [], [], 0, 0, code⟩
def BareRes (code : List Ins) (w : World) (e : Ending) (w' : World) : Prop := ∃ A c, e = .returned ((bare code).val ⟨none, 0, none, 0, A, c⟩) ∧ code.length ≤ c ∧ Mem w w' [own Enc.ins 63 A c code]

set_option maxRecDepth 100000 in
theorem lawCode_calls (A : Option Addr) (c : Nat) (code : List Ins) (w : World) (hR : Rd Enc.i64 w A (flat code)) (hn : code.length ≤ 1000000) : Calls Try.prog 34 #[.slice A (flat code).length c] w (BareRes code w) := by
  have HR := hid hR
  clear hR
  have H0 : Mem w w [own Enc.ins 63 none 0 []] := (Mem.refl w).nilrow 63 2
  have hfl := flat_len code
  have HFL := hid hfl
  obtain ⟨n, hn'⟩ : ∃ n, n = (flat code).length := ⟨_, rfl⟩
  rw [← hn'] at hfl ⊢
  clear hn'
  go_enter Try.func34, Try.ntmps34
  go_wp2_with (first
    | ((with_reducible refine at_alloc ?_); refine wpList_alloc_box H0 (.agg #[.int .u64 0, .slice none 0 0, .slice none 0 0, .int .i64 0, .int .i64 0, .slice none 0 0]) (by kernel_rfl) ?_; intro gH2 wH2 H2; simp only [splice, vcells_int, vcells_bool, vcells_string, vcells_pointer, vcells_slice, vcells_map, vcells_func, vcells_nilFunc, vcells_iface, vcells_nilIface, vcells_agg, List.take_zero, List.take_succ_cons, List.drop_zero, List.drop_succ_cons, List.length_cons, List.length_nil, List.nil_append, List.cons_append, List.append_nil, Nat.zero_add, List.set_cons_zero, List.set_cons_succ] at H2)
    | ((with_reducible refine at_alloc ?_); refine wpList_alloc_box H2 (.agg #[.int .u64 0, .slice none 0 0, .slice none 0 0, .int .i64 0, .int .i64 0, .slice none 0 0]) (by kernel_rfl) ?_; intro gH3 wH3 H3; simp only [splice, vcells_int, vcells_bool, vcells_string, vcells_pointer, vcells_slice, vcells_map, vcells_func, vcells_nilFunc, vcells_iface, vcells_nilIface, vcells_agg, List.take_zero, List.take_succ_cons, List.drop_zero, List.drop_succ_cons, List.length_cons, List.length_nil, List.nil_append, List.cons_append, List.append_nil, Nat.zero_add, List.set_cons_zero, List.set_cons_succ] at H3))
  have HX0 : Hd (([] : List Ins) = code.take 0) := ⟨rfl⟩
  have H4 : Mem w wH3 [box gH3 27 #[.int .u64 0, .slice none 0 0, .slice none 0 0, .int .i64 0, .int .i64 0, .slice none 0 0], own Enc.ins 63 none 0 [], box gH2 27 #[.int .u64 0, .slice none 0 0, .slice none 0 0, .int .i64 0, .int .i64 0, .slice none 0 0]] := H3.perm (List.Perm.cons _ (List.Perm.swap _ _ _))
  clear H3 H2 H0
  go_loopw [4] (fun v4 wr => ∃ (j : Nat) (A5 : Option Addr) (c5 : Nat) (ys : List Ins), v4 = .int .i64 (2 * (j : Int)) ∧ j ≤ code.length ∧ Hd (ys = code.take j) ∧ Mem w wr [box gH3 27 #[.int .u64 0, .slice none 0 0, .slice none 0 0, .int .i64 0, .int .i64 0, .slice A5 ys.length c5], own Enc.ins 63 A5 c5 ys, box gH2 27 #[.int .u64 0, .slice none 0 0, .slice none 0 0, .int .i64 0, .int .i64 0, .slice none 0 0]]) (fun v _ => 2 * code.length - (intOf v).toNat)
  case atStart => exact ⟨0, none, 0, [], by go_num, Nat.zero_le _, HX0, H4⟩
  case round =>
    clear H4 HX0
    obtain ⟨j, A5, c5, ys, rfl, hj, HX, H5⟩ := hrel
    obtain ⟨wo, rfl⟩ : ∃ wo : World, wo = wr := ⟨_, rfl⟩
    by_cases hlt : j < code.length
    · obtain ⟨⟨op, oa⟩, hi⟩ : ∃ i, code[j]? = some i := ⟨_, List.getElem?_eq_getElem hlt⟩
      obtain ⟨f0, f1⟩ := flat_get hi
      obtain ⟨b, o, rfl, d0⟩ := HR.out.get1 rfl f0 rfl
      obtain ⟨b', o', h1, d1⟩ := HR.out.get1 rfl f1 rfl
      obtain ⟨rfl, rfl⟩ : b = b' ∧ o = o' := by simp at h1; exact h1
      have hyl : ys.length ≤ 1000000 := by rw [HX.out, List.length_take]; omega
      rw [← Nat.add_assoc] at d1
      have HI := hid hi
      clear f0 f1 hi h1
      go_wp2
      refine (wpIn_wide (n := 1)).1 ?_
      refine wpIn_region_B (fun i => i == 15) (fun w' => w'.cell? ⟨gH3, 5, none⟩ = some (.slice A5 ys.length c5) ∧ w'.cell? ⟨b, o + 2 * j, none⟩ = some (I op) ∧ w'.cell? ⟨b, o + 2 * j + 1, none⟩ = some (I oa)) (by kernel_rfl) (by kernel_rfl) (fun _ _ h => by first | exact h | (obtain ⟨A, c, h, _⟩ := h; cases h)) ?_
      have H6 := H5.drew
      obtain ⟨w4, hw4⟩ : ∃ w4, w4 = wo.drew := ⟨_, rfl⟩
      rw [← hw4] at H6 ⊢
      clear hw4
      have hS : w4.cell? ⟨gH3, 5, none⟩ = some (.slice A5 ys.length c5) ∧ w4.cell? ⟨b, o + 2 * j, none⟩ = some (I op) ∧ w4.cell? ⟨b, o + 2 * j + 1, none⟩ = some (I oa) := ⟨by have := H6.cells 0 rfl; simp only [cellsAre, and_true, Nat.zero_add] at this; exact this.2.2.2.2.2.1, H6.old d0, H6.old d1⟩
      refine wpAnyB_take' (i := 0) (v := .pointer (some ⟨gH3, 5, none⟩)) rfl (by kernel_rfl) (by kernel_rfl) rfl (by kernel_rfl) (by kernel_rfl) (fun _ _ _ h => h) (by rfl) hS (by intro w' hS'; obtain ⟨k1, k2, k3⟩ := hS'; first | (go_simp; done) | (go_simp; rfl) | (go_simp; exact IntWalk.i64_in _ (by omega))) ?_
      simp only [Act.put, List.setIfInBounds_toArray, List.set_cons_zero, List.set_cons_succ]
      refine wpAnyB_take' (i := 1) (v := .slice A5 ys.length c5) rfl (by kernel_rfl) (by kernel_rfl) rfl (by kernel_rfl) (by kernel_rfl) (fun _ _ _ h => h) (by rfl) hS (by intro w' hS'; obtain ⟨k1, k2, k3⟩ := hS'; first | (go_simp; done) | (go_simp; rfl) | (go_simp; exact IntWalk.i64_in _ (by omega))) ?_
      simp only [Act.put, List.setIfInBounds_toArray, List.set_cons_zero, List.set_cons_succ]
      refine wpAnyB_take' (i := 2) (v := .slice (some ⟨b, o, none⟩) n c) rfl (by kernel_rfl) (by kernel_rfl) rfl (by kernel_rfl) (by kernel_rfl) (fun _ _ _ h => h) (by rfl) hS (by intro w' hS'; obtain ⟨k1, k2, k3⟩ := hS'; first | (go_simp; done) | (go_simp; rfl) | (go_simp; exact IntWalk.i64_in _ (by omega))) ?_
      simp only [Act.put, List.setIfInBounds_toArray, List.set_cons_zero, List.set_cons_succ]
      refine wpAnyB_take' (i := 3) (v := I (2 * (j : Int))) rfl (by kernel_rfl) (by kernel_rfl) rfl (by kernel_rfl) (by kernel_rfl) (fun _ _ _ h => h) (by rfl) hS (by intro w' hS'; obtain ⟨k1, k2, k3⟩ := hS'; first | (go_simp; done) | (go_simp; rfl) | (go_simp; exact IntWalk.i64_in _ (by omega))) ?_
      simp only [Act.put, List.setIfInBounds_toArray, List.set_cons_zero, List.set_cons_succ]
      refine wpAnyB_take' (i := 4) (v := .pointer (some ⟨b, o + 2 * j, none⟩)) rfl (by kernel_rfl) (by kernel_rfl) rfl (by kernel_rfl) (by kernel_rfl) (fun _ _ _ h => h) (by rfl) hS (by intro w' hS'; obtain ⟨k1, k2, k3⟩ := hS'; first | (go_simp; done) | (go_simp; rfl) | (go_simp; exact IntWalk.i64_in _ (by omega))) ?_
      simp only [Act.put, List.setIfInBounds_toArray, List.set_cons_zero, List.set_cons_succ]
      refine wpAnyB_take' (i := 5) (v := I op) rfl (by kernel_rfl) (by kernel_rfl) rfl (by kernel_rfl) (by kernel_rfl) (fun _ _ _ h => h) (by rfl) hS (by intro w' hS'; obtain ⟨k1, k2, k3⟩ := hS'; first | (go_simp; done) | (go_simp; rfl) | (go_simp; exact IntWalk.i64_in _ (by omega))) ?_
      simp only [Act.put, List.setIfInBounds_toArray, List.set_cons_zero, List.set_cons_succ]
      refine wpAnyB_take' (i := 6) (v := .slice (some ⟨b, o, none⟩) n c) rfl (by kernel_rfl) (by kernel_rfl) rfl (by kernel_rfl) (by kernel_rfl) (fun _ _ _ h => h) (by rfl) hS (by intro w' hS'; obtain ⟨k1, k2, k3⟩ := hS'; first | (go_simp; done) | (go_simp; rfl) | (go_simp; exact IntWalk.i64_in _ (by omega))) ?_
      simp only [Act.put, List.setIfInBounds_toArray, List.set_cons_zero, List.set_cons_succ]
      refine wpAnyB_take' (i := 7) (v := I (2 * (j : Int))) rfl (by kernel_rfl) (by kernel_rfl) rfl (by kernel_rfl) (by kernel_rfl) (fun _ _ _ h => h) (by rfl) hS (by intro w' hS'; obtain ⟨k1, k2, k3⟩ := hS'; first | (go_simp; done) | (go_simp; rfl) | (go_simp; exact IntWalk.i64_in _ (by omega))) ?_
      simp only [Act.put, List.setIfInBounds_toArray, List.set_cons_zero, List.set_cons_succ]
      refine wpAnyB_take' (i := 8) (v := I (2 * (j : Int) + 1)) rfl (by kernel_rfl) (by kernel_rfl) rfl (by kernel_rfl) (by kernel_rfl) (fun _ _ _ h => h) (by rfl) hS (by intro w' hS'; obtain ⟨k1, k2, k3⟩ := hS'; first | (go_simp; done) | (go_simp; rfl) | (go_simp; exact IntWalk.i64_in _ (by omega))) ?_
      simp only [Act.put, List.setIfInBounds_toArray, List.set_cons_zero, List.set_cons_succ]
      refine wpAnyB_take' (i := 9) (v := .pointer (some ⟨b, o + 2 * j + 1, none⟩)) rfl (by kernel_rfl) (by kernel_rfl) rfl (by kernel_rfl) (by kernel_rfl) (fun _ _ _ h => h) (by rfl) hS (by intro w' hS'; obtain ⟨k1, k2, k3⟩ := hS'; first | (go_simp; done) | (go_simp; rfl) | (go_simp; exact IntWalk.i64_in _ (by omega))) ?_
      simp only [Act.put, List.setIfInBounds_toArray, List.set_cons_zero, List.set_cons_succ]
      refine wpAnyB_take' (i := 10) (v := I oa) rfl (by kernel_rfl) (by kernel_rfl) rfl (by kernel_rfl) (by kernel_rfl) (fun _ _ _ h => h) (by rfl) hS (by intro w' hS'; obtain ⟨k1, k2, k3⟩ := hS'; first | (go_simp; done) | (go_simp; rfl) | (go_simp; exact IntWalk.i64_in _ (by omega))) ?_
      simp only [Act.put, List.setIfInBounds_toArray, List.set_cons_zero, List.set_cons_succ]
      refine wpAnyB_take' (i := 11) (v := .agg #[I op, I oa]) rfl (by kernel_rfl) (by kernel_rfl) rfl (by kernel_rfl) (by kernel_rfl) (fun _ _ _ h => h) (by rfl) hS (by intro w' hS'; obtain ⟨k1, k2, k3⟩ := hS'; first | (go_simp; done) | (go_simp; rfl) | (go_simp; exact IntWalk.i64_in _ (by omega))) ?_
      simp only [Act.put, List.setIfInBounds_toArray, List.set_cons_zero, List.set_cons_succ]
      refine wpAnyB_one' (i := 12) rfl (by kernel_rfl) ?_
      refine wpList_build1g elt_ins H6 rfl rfl (by decide) ?_
      intro u_ w5 hu_ H7
      simp only [Act.eval, Act.put, List.setIfInBounds_toArray, List.set_cons_zero, List.set_cons_succ, Array.getD_eq_getD_getElem?, List.getElem?_toArray, List.getElem?_cons_zero, List.getElem?_cons_succ, Option.getD_some] at hu_; subst hu_
      simp only [vcells_int, vcells_agg] at H7
      clear hS
      have hS : w5.cell? ⟨gH3, 5, none⟩ = some (.slice A5 ys.length c5) ∧ w5.cell? ⟨b, o + 2 * j, none⟩ = some (I op) ∧ w5.cell? ⟨b, o + 2 * j + 1, none⟩ = some (I oa) := ⟨by have := H7.cells 1 rfl; simp only [cellsAre, and_true, Nat.zero_add] at this; exact this.2.2.2.2.2.1, H7.old d0, H7.old d1⟩
      refine And.intro (fun _ => hS) ?_
      simp only [Act.put, List.setIfInBounds_toArray, List.set_cons_zero, List.set_cons_succ]
      refine wpAnyB_one' (i := 13) rfl (by kernel_rfl) ?_
      refine wpList_append_own1 (E := Enc.ins) elt_ins H7 2 (⟨op, oa⟩ : Ins) rfl rfl rfl rfl (H7.rd 0 rfl elt_ins.pos).1 (by omega) (by decide) ?_
      intro A6 c6 w6 H8
      simp only [List.set_cons_zero, List.set_cons_succ] at H8
      clear hS
      have hS : w6.cell? ⟨gH3, 5, none⟩ = some (.slice A5 ys.length c5) ∧ w6.cell? ⟨b, o + 2 * j, none⟩ = some (I op) ∧ w6.cell? ⟨b, o + 2 * j + 1, none⟩ = some (I oa) := ⟨by have := H8.cells 1 rfl; simp only [cellsAre, and_true, Nat.zero_add] at this; exact this.2.2.2.2.2.1, H8.old d0, H8.old d1⟩
      refine And.intro (fun _ => hS) ?_
      simp only [Act.put, List.setIfInBounds_toArray, List.set_cons_zero, List.set_cons_succ]
      refine wpAnyB_take' (i := 14) (v := .pointer (some ⟨gH3, 5, none⟩)) rfl (by kernel_rfl) (by kernel_rfl) rfl (by kernel_rfl) (by kernel_rfl) (fun _ _ _ h => h) (by rfl) hS (by intro w' hS'; obtain ⟨k1, k2, k3⟩ := hS'; first | (go_simp; done) | (go_simp; rfl) | (go_simp; exact IntWalk.i64_in _ (by omega))) ?_
      simp only [Act.put, List.setIfInBounds_toArray, List.set_cons_zero, List.set_cons_succ]
      refine wpAnyB_one' (i := 15) rfl (by kernel_rfl) ?_
      refine wpList_store_box H8 1 1 rfl rfl (by kernel_rfl) rfl (Nat.le_of_ble_eq_true rfl) rfl ?_
      intro u_ w7 hu_ H9
      simp only [Act.eval, Act.put, List.setIfInBounds_toArray, List.set_cons_zero, List.set_cons_succ, Array.getD_eq_getD_getElem?, List.getElem?_toArray, List.getElem?_cons_zero, List.getElem?_cons_succ, Option.getD_some] at hu_; subst hu_
      simp only [splice, vcells_slice, List.take_zero, List.take_succ_cons, List.drop_zero, List.drop_succ_cons, List.length_cons, List.length_nil, List.nil_append, List.cons_append, List.append_nil, Nat.zero_add, List.set_cons_zero, List.set_cons_succ] at H9
      refine And.intro (fun h => by cases h) ?_
      refine wpAnyB_done (by kernel_rfl) ?_ _
      clear hS H6 H7 H8
      have H10 := H9.drop 0
      simp only [List.eraseIdx_cons_succ, List.eraseIdx_cons_zero] at H10
      go_wp2
      go_roundw
      case rel => exact ⟨j + 1, A6, c6, ys ++ [⟨op, oa⟩], by go_num, by omega, ⟨by rw [List.take_add_one, HI.out, HX.out]; rfl⟩, by rw [List.length_append]; exact H10⟩
      case measure => first | (simp [intOf]; done) | (simp [intOf]; omega)
    · obtain rfl : j = code.length := by omega
      have hys : ys = code := by rw [HX.out, List.take_length]
      subst hys
      (try clear b3); have b3 := H5.cells 0 rfl; simp only [cellsAre, and_true, Nat.zero_add] at b3
      go_wp2_with (first | ((with_reducible refine at_store ?_); refine wpList_store_box H5 2 6 rfl rfl (by kernel_rfl) rfl (Nat.le_of_ble_eq_true rfl) rfl ?_; intro u_ wH6 hu_ H6; simp only [Act.eval, Act.put, List.setIfInBounds_toArray, List.set_cons_zero, List.set_cons_succ, Array.getD_eq_getD_getElem?, List.getElem?_toArray, List.getElem?_cons_zero, List.getElem?_cons_succ, Option.getD_some] at hu_; subst hu_; simp only [splice, vcells_int, vcells_bool, vcells_string, vcells_pointer, vcells_slice, vcells_map, vcells_func, vcells_nilFunc, vcells_iface, vcells_nilIface, vcells_agg, List.take_zero, List.take_succ_cons, List.drop_zero, List.drop_succ_cons, List.length_cons, List.length_nil, List.nil_append, List.cons_append, List.append_nil, Nat.zero_add, List.set_cons_zero, List.set_cons_succ] at H6; (try clear b2); have b2 := H6.cells 2 rfl; simp only [cellsAre, and_true, Nat.zero_add] at b2))
      refine bodyPost_ret (v := (bare ys).val ⟨none, 0, none, 0, A5, c5⟩) (by simp [results, Try.results34, go_sem, b2]) rfl ?_
      exact ⟨A5, c5, rfl, (H6.own_rd 1 rfl (by decide)).2.1, (H6.drop 2).drop 0⟩

/-- What given() answers. -/
def givenCode : List Ins := [⟨44, 3⟩, ⟨42, 0⟩, ⟨43, 4⟩, ⟨42, 0⟩, ⟨44, 6⟩, ⟨46, 0⟩, ⟨46, 0⟩, ⟨43, 7⟩]
set_option maxRecDepth 100000 in
theorem given_calls (w : World) : Calls Try.prog 18 #[] w (BareRes givenCode w) := by
  have H0 := Mem.refl w
  go_enter Try.func18, Try.ntmps18
  have hfl : (flat givenCode).length = 16 := rfl
  have HC := fun (w' : World) hR => lawCode_calls (some ⟨w'.heap.size, 0, none⟩) 16 givenCode (w'.alloc (.cells #[I 44, I 3, I 42, I 0, I 43, I 4, I 42, I 0, I 44, I 6, I 46, I 0, I 46, I 0, I 43, I 7] 3)) hR (by decide)
  rw [hfl] at HC
  have HCC := hid HC
  clear HC hfl
  go_wp2_with (first
    | ((with_reducible refine at_alloc ?_); refine wpList_alloc_box H0 (.agg #[.int .u64 0, .slice none 0 0, .slice none 0 0, .int .i64 0, .int .i64 0, .slice none 0 0]) (by kernel_rfl) ?_; intro gH1 wH1 H1; simp only [splice, vcells_int, vcells_bool, vcells_string, vcells_pointer, vcells_slice, vcells_map, vcells_func, vcells_nilFunc, vcells_iface, vcells_nilIface, vcells_agg, List.take_zero, List.take_succ_cons, List.drop_zero, List.drop_succ_cons, List.length_cons, List.length_nil, List.nil_append, List.cons_append, List.append_nil, Nat.zero_add, List.set_cons_zero, List.set_cons_succ] at H1)
    | (have H2 := (H1.alloc 3 #[I 44, I 3, I 42, I 0, I 43, I 4, I 42, I 0, I 44, I 6, I 46, I 0, I 46, I 0, I 43, I 7]).row_of_box (sz := 1) (n := 16) 0 rfl rfl (by decide) (fun u hu => List.all_eq_true.1 (show List.all [I 44, I 3, I 42, I 0, I 43, I 4, I 42, I 0, I 44, I 6, I 46, I 0, I 46, I 0, I 43, I 7] Value.oneCell' = true from rfl) u hu)
       have R2 : Rd Enc.i64 _ (some ⟨wH1.heap.size, 0, none⟩) (flat givenCode) := (H2.rd 0 rfl (by decide)).1
       (go_at_call 34; (with_reducible refine (HCC.out _ R2).mono ?_); rintro e w3 ⟨A5, c5, rfl, h5, H3'⟩; have H3 := H2.call H3'; simp only [List.cons_append, List.nil_append] at H3))
    | ((with_reducible refine at_store ?_); refine wpList_store_box H3 2 6 rfl rfl (by kernel_rfl) rfl (Nat.le_of_ble_eq_true rfl) rfl ?_; intro u_ wH4 hu_ H4; simp only [Act.eval, Act.put, List.setIfInBounds_toArray, List.set_cons_zero, List.set_cons_succ, Array.getD_eq_getD_getElem?, List.getElem?_toArray, List.getElem?_cons_zero, List.getElem?_cons_succ, Option.getD_some] at hu_; subst hu_; simp only [splice, vcells_int, vcells_bool, vcells_string, vcells_pointer, vcells_slice, vcells_map, vcells_func, vcells_nilFunc, vcells_iface, vcells_nilIface, vcells_agg, List.take_zero, List.take_succ_cons, List.drop_zero, List.drop_succ_cons, List.length_cons, List.length_nil, List.nil_append, List.cons_append, List.append_nil, Nat.zero_add, List.set_cons_zero, List.set_cons_succ] at H4; (try clear b2); have b2 := H4.cells 2 rfl; simp only [cellsAre, and_true, Nat.zero_add] at b2))
  refine bodyPost_ret (v := (bare givenCode).val ⟨none, 0, none, 0, A5, c5⟩) (by simp [results, Try.results18, go_sem, b2]) rfl ?_
  exact ⟨A5, c5, rfl, h5, (H4.drop 2).drop 1⟩
end Go.Proofs.Ytjlikbaamefkiaa
