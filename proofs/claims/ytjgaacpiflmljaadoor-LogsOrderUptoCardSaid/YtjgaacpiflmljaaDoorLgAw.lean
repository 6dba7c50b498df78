/- louverlaw23.awake. -/
import Derived.Test.YtjgaacpiflmljaaDoorLgText
namespace Go.Proofs.YtjgaacpiflmljaaDoor
open Go.RowKit
set_option linter.unusedVariables false
set_option linter.unusedSimpArgs false
set_option maxHeartbeats 4000000
theorem nums_calls (v : Value) (w : World) : Calls Tryd.prog 15 #[v] w fun e w' => e = .returned v ∧ w' = w := by
  go_enter Tryd.func15, Tryd.ntmps15
  go_wp2
  go_ret
  exact ⟨rfl, rfl⟩
theorem rows_calls (v : Value) (w : World) : Calls Tryd.prog 17 #[v] w fun e w' => e = .returned v ∧ w' = w := by
  go_enter Tryd.func17, Tryd.ntmps17
  go_wp2
  go_ret
  exact ⟨rfl, rfl⟩
theorem Rd.nil {α : Type} (E : Enc α) (w : World) : Rd E w none ([] : List α) := ⟨by simp [Enc.all], by simp [Enc.all], fun h => by simp at h⟩
theorem rows_two {α : Type} {E : Enc α} {w : World} {A A1 A2 : Option Addr} {c1 c2 : Nat} {r1 r2 : List α} {n1 n2 : Nat} (ho : Rd Enc.hdr w A [⟨A1, n1, c1⟩, ⟨A2, n2, c2⟩]) (h1 : Rd E w A1 r1) (h2 : Rd E w A2 r2) (e1 : n1 = r1.length := by rfl) (e2 : n2 = r2.length := by rfl) (l1 : r1.length ≤ c1 := by decide) (l2 : r2.length ≤ c2 := by decide) : RdRows E w A [r1, r2] [⟨A1, n1, c1⟩, ⟨A2, n2, c2⟩] := by
  refine ⟨rfl, ho, fun i hd r hi hr => ?_⟩
  match i, hi, hr with
  | 0, hi, hr =>
    obtain rfl := Option.some.inj hi
    obtain rfl := Option.some.inj hr
    exact ⟨e1, l1, h1⟩
  | 1, hi, hr =>
    obtain rfl := Option.some.inj hi
    obtain rfl := Option.some.inj hr
    exact ⟨e2, l2, h2⟩
set_option maxRecDepth 100000 in
theorem given23_calls (w : World) : Calls Tryd.prog 16 #[] w fun e w' => ∃ A, e = .returned (.agg #[.slice none 0 0, .slice none 0 0, .slice A 2 2, .slice none 0 0]) ∧ Mem w w' [own Enc.u64 28 A 2 [0, 1]] := by
  have H0 := Mem.refl w
  go_enter Tryd.func16, Tryd.ntmps16
  go_wp2
  have H1 := ((H0.alloc 26 #[.slice none 0 0, .slice none 0 0, .slice (some ⟨w.heap.size + 1, 0, none⟩) 2 2, .slice none 0 0]).alloc 28 #[.int .u64 0, .int .u64 1])
  have hsz : (w.alloc (.cells #[.slice none 0 0, .slice none 0 0, .slice (some ⟨w.heap.size + 1, 0, none⟩) 2 2, .slice none 0 0] 26)).heap.size = w.heap.size + 1 := by simp
  rw [hsz] at H1
  have H2 := H1.row_of_box (sz := 1) (n := 2) 0 rfl rfl (by decide) (fun u hu => List.all_eq_true.1 (show List.all [.int .u64 0, .int .u64 1] Value.oneCell' = true from rfl) u hu)
  simp only [List.set_cons_zero] at H2
  (try clear b2); have b2 := H2.cells 1 rfl; simp only [cellsAre, and_true, Nat.zero_add] at b2
  refine bodyPost_ret (v := .agg #[.slice none 0 0, .slice none 0 0, .slice (some ⟨w.heap.size + 1, 0, none⟩) 2 2, .slice none 0 0]) (by simp [results, Tryd.results16, go_sem, b2]) rfl ?_
  exact ⟨_, rfl, H2.drop 1⟩
theorem itoa_1 : Lib.itoa 1 = [49] := by
  have d1 : Lib.decDigits 1 = [49] := by unfold Lib.decDigits; rfl
  unfold Lib.itoa; exact d1
theorem itoa_m2 : Lib.itoa (-2) = [45, 50] := by
  have d2 : Lib.decDigits 2 = [50] := by unfold Lib.decDigits; rfl
  unfold Lib.itoa; show 45 :: Lib.decDigits 2 = _; rw [d2]
theorem given_text : textN [[1, -2], []] ([[1, -2], []] : List (List Int)).length = [49, 32, 45, 50, 10, 10] := by simp [textN, lineN, itoa_1, itoa_m2]
theorem given_small : ∀ k, k ≤ ([[1, -2], []] : List (List Int)).length → (textN [[1, -2], []] k).length ≤ 1000000 := by
  intro k hk
  match k, hk with
  | 0, _ => simp [textN]
  | 1, _ => simp [textN, lineN, itoa_1, itoa_m2]
  | 2, _ => simp [textN, lineN, itoa_1, itoa_m2]
theorem given_lines : ∀ r ∈ ([[1, -2], []] : List (List Int)), ∀ i, i ≤ r.length → (lineN r i).length ≤ 1000000 := by
  intro r hr i hi
  rw [List.mem_cons, List.mem_singleton] at hr
  rcases hr with rfl | rfl
  · match i, hi with
    | 0, _ => simp [lineN]
    | 1, _ => simp [lineN, itoa_1]
    | 2, _ => simp [lineN, itoa_1, itoa_m2]
  · obtain rfl : i = 0 := by simpa using hi
    simp [lineN]
set_option maxRecDepth 100000 in
theorem awake_calls (w : World) (hF : ∀ (w' : World) (x : Int), Below w.heap.size w w' → -9223372036854775808 ≤ x → x ≤ 9223372036854775807 → Calls Tryd.prog 28 #[.int .i64 x, .int .i64 10] w' fun e w'' => e = .returned (.string ⟨(Lib.itoa x).toArray⟩) ∧ Below w'.heap.size w' w'') :
    Calls Tryd.prog 6 #[] w fun e w' => e = .returned (.bool true) ∧ Mem w w' [] := by
  have HF := hid hF
  clear hF
  have H0 := Mem.refl w
  go_enter Tryd.func6, Tryd.ntmps6
  go_wp2_with (first
    | ((go_at_call 15; (with_reducible refine (nums_calls _ (w.alloc (.cells #[I 1, I 2] 2))).mono ?_); rintro e _ ⟨rfl, rfl⟩); have H1 := (H0.alloc 2 #[I 1, I 2]).row_of_box (sz := 1) (n := 2) 0 rfl rfl (by decide) (fun u hu => List.all_eq_true.1 (show List.all [I 1, I 2] Value.oneCell' = true from rfl) u hu); simp only [List.set_cons_zero] at H1; obtain ⟨g1, hg1⟩ : ∃ g, g = w.heap.size := ⟨_, rfl⟩; rw [← hg1] at H1 ⊢; obtain ⟨w1, hw1⟩ : ∃ w', w' = (w.alloc (.cells #[I 1, I 2] 2)) := ⟨_, rfl⟩; rw [← hw1] at H1 ⊢; clear hw1 hg1)
    | ((go_at_call 15; (with_reducible refine (nums_calls _ (w1.alloc (.cells #[I 1, I 2, I 3] 2))).mono ?_); rintro e _ ⟨rfl, rfl⟩); have H2 := (H1.alloc 2 #[I 1, I 2, I 3]).row_of_box (sz := 1) (n := 3) 0 rfl rfl (by decide) (fun u hu => List.all_eq_true.1 (show List.all [I 1, I 2, I 3] Value.oneCell' = true from rfl) u hu); simp only [List.set_cons_zero] at H2; obtain ⟨g2, hg2⟩ : ∃ g, g = w1.heap.size := ⟨_, rfl⟩; rw [← hg2] at H2 ⊢; obtain ⟨w2, hw2⟩ : ∃ w', w' = (w1.alloc (.cells #[I 1, I 2, I 3] 2)) := ⟨_, rfl⟩; rw [← hw2] at H2 ⊢; clear hw2 hg2; have FP : Hd (Calls Tryd.prog 9 #[.slice (some ⟨g1, 0, none⟩) 2 2, .slice (some ⟨g2, 0, none⟩) 3 3] w2 fun e w' => e = .returned (.bool (pre [1, 2] [1, 2, 3])) ∧ Mem w2 w' []) := ⟨prefix_calls (some ⟨g1, 0, none⟩) (some ⟨g2, 0, none⟩) 2 3 [1, 2] [1, 2, 3] w2 (show Rd Enc.i64 w2 (some ⟨g1, 0, none⟩) [1, 2] from (H2.rd 1 rfl (by decide)).1) (show Rd Enc.i64 w2 (some ⟨g2, 0, none⟩) [1, 2, 3] from (H2.rd 0 rfl (by decide)).1) (by decide) (by decide)⟩)
    | ((go_at_call 9; (with_reducible refine FP.out.mono ?_); rintro e w3 ⟨rfl, H3'⟩; rw [show pre [1, 2] [1, 2, 3] = true from rfl]; have H3 := Mem.none (H2.call H3'); clear H3'))
    | ((go_at_call 16; (with_reducible refine (given23_calls w3).mono ?_); rintro e w4 ⟨A4, rfl, H4'⟩; have H4 := H3.call H4'; simp only [List.cons_append, List.nil_append] at H4; clear H4'))
    | ((go_at_call 15; (with_reducible refine (nums_calls _ (w4.alloc (.cells #[I 1, I 2] 2))).mono ?_); rintro e _ ⟨rfl, rfl⟩); have H5 := (H4.alloc 2 #[I 1, I 2]).row_of_box (sz := 1) (n := 2) 0 rfl rfl (by decide) (fun u hu => List.all_eq_true.1 (show List.all [I 1, I 2] Value.oneCell' = true from rfl) u hu); simp only [List.set_cons_zero] at H5; obtain ⟨g5, hg5⟩ : ∃ g, g = w4.heap.size := ⟨_, rfl⟩; rw [← hg5] at H5 ⊢; obtain ⟨w5, hw5⟩ : ∃ w', w' = (w4.alloc (.cells #[I 1, I 2] 2)) := ⟨_, rfl⟩; rw [← hw5] at H5 ⊢; clear hw5 hg5)
    | ((go_at_call 15; (with_reducible refine (nums_calls _ (w5.alloc (.cells #[I 5] 2))).mono ?_); rintro e _ ⟨rfl, rfl⟩); have H6 := (H5.alloc 2 #[I 5]).row_of_box (sz := 1) (n := 1) 0 rfl rfl (by decide) (fun u hu => List.all_eq_true.1 (show List.all [I 5] Value.oneCell' = true from rfl) u hu); simp only [List.set_cons_zero] at H6; obtain ⟨g6, hg6⟩ : ∃ g, g = w5.heap.size := ⟨_, rfl⟩; rw [← hg6] at H6 ⊢; obtain ⟨w6, hw6⟩ : ∃ w', w' = (w5.alloc (.cells #[I 5] 2)) := ⟨_, rfl⟩; rw [← hw6] at H6 ⊢; clear hw6 hg6)
    | ((go_at_call 17; (with_reducible refine (rows_calls _ (w6.alloc (.cells #[.slice (some ⟨g5, 0, none⟩) 2 2, .slice (some ⟨g6, 0, none⟩) 1 1] 34))).mono ?_); rintro e _ ⟨rfl, rfl⟩); have H7 := (H6.alloc 34 #[.slice (some ⟨g5, 0, none⟩) 2 2, .slice (some ⟨g6, 0, none⟩) 1 1]).row_of_box (sz := 1) (n := 2) 0 rfl rfl (by decide) (fun u hu => List.all_eq_true.1 (show List.all [.slice (some ⟨g5, 0, none⟩) 2 2, .slice (some ⟨g6, 0, none⟩) 1 1] Value.oneCell' = true from rfl) u hu); simp only [List.set_cons_zero] at H7; obtain ⟨g7, hg7⟩ : ∃ g, g = w6.heap.size := ⟨_, rfl⟩; rw [← hg7] at H7 ⊢; obtain ⟨w7, hw7⟩ : ∃ w', w' = (w6.alloc (.cells #[.slice (some ⟨g5, 0, none⟩) 2 2, .slice (some ⟨g6, 0, none⟩) 1 1] 34)) := ⟨_, rfl⟩; rw [← hw7] at H7 ⊢; clear hw7 hg7)
    | ((go_at_call 15; (with_reducible refine (nums_calls _ (w7.alloc (.cells #[I 1, I 2, I 3] 2))).mono ?_); rintro e _ ⟨rfl, rfl⟩); have H8 := (H7.alloc 2 #[I 1, I 2, I 3]).row_of_box (sz := 1) (n := 3) 0 rfl rfl (by decide) (fun u hu => List.all_eq_true.1 (show List.all [I 1, I 2, I 3] Value.oneCell' = true from rfl) u hu); simp only [List.set_cons_zero] at H8; obtain ⟨g8, hg8⟩ : ∃ g, g = w7.heap.size := ⟨_, rfl⟩; rw [← hg8] at H8 ⊢; obtain ⟨w8, hw8⟩ : ∃ w', w' = (w7.alloc (.cells #[I 1, I 2, I 3] 2)) := ⟨_, rfl⟩; rw [← hw8] at H8 ⊢; clear hw8 hg8)
    | ((go_at_call 15; (with_reducible refine (nums_calls _ (w8.alloc (.cells #[I 6] 2))).mono ?_); rintro e _ ⟨rfl, rfl⟩); have H9 := (H8.alloc 2 #[I 6]).row_of_box (sz := 1) (n := 1) 0 rfl rfl (by decide) (fun u hu => List.all_eq_true.1 (show List.all [I 6] Value.oneCell' = true from rfl) u hu); simp only [List.set_cons_zero] at H9; obtain ⟨g9, hg9⟩ : ∃ g, g = w8.heap.size := ⟨_, rfl⟩; rw [← hg9] at H9 ⊢; obtain ⟨w9, hw9⟩ : ∃ w', w' = (w8.alloc (.cells #[I 6] 2)) := ⟨_, rfl⟩; rw [← hw9] at H9 ⊢; clear hw9 hg9)
    | ((go_at_call 17; (with_reducible refine (rows_calls _ (w9.alloc (.cells #[.slice (some ⟨g8, 0, none⟩) 3 3, .slice (some ⟨g9, 0, none⟩) 1 1] 34))).mono ?_); rintro e _ ⟨rfl, rfl⟩); have H10 := (H9.alloc 34 #[.slice (some ⟨g8, 0, none⟩) 3 3, .slice (some ⟨g9, 0, none⟩) 1 1]).row_of_box (sz := 1) (n := 2) 0 rfl rfl (by decide) (fun u hu => List.all_eq_true.1 (show List.all [.slice (some ⟨g8, 0, none⟩) 3 3, .slice (some ⟨g9, 0, none⟩) 1 1] Value.oneCell' = true from rfl) u hu); simp only [List.set_cons_zero] at H10; obtain ⟨g10, hg10⟩ : ∃ g, g = w9.heap.size := ⟨_, rfl⟩; rw [← hg10] at H10 ⊢; obtain ⟨w10, hw10⟩ : ∃ w', w' = (w9.alloc (.cells #[.slice (some ⟨g8, 0, none⟩) 3 3, .slice (some ⟨g9, 0, none⟩) 1 1] 34)) := ⟨_, rfl⟩; rw [← hw10] at H10 ⊢; clear hw10 hg10; have FAa : Hd (Calls Tryd.prog 4 #[.agg #[.slice none 0 0, .slice none 0 0, .slice A4 2 2, .slice none 0 0], .int .u64 0, .slice (some ⟨g7, 0, none⟩) 2 2, .slice (some ⟨g10, 0, none⟩) 2 2] w10 fun e w' => e = .returned (.bool (allB alikeF [0, 1] 0 [[1, 2], [5]] [[1, 2, 3], [6]])) ∧ Mem w10 w' []) := ⟨alike_calls (.slice none 0 0) (.slice none 0 0) (.slice none 0 0) A4 2 [0, 1] 0 [[1, 2], [5]] [[1, 2, 3], [6]] (some ⟨g7, 0, none⟩) (some ⟨g10, 0, none⟩) 2 2 _ _ w10 (H10.own_rd 6 rfl (by decide)).1 (by decide) (rows_two (show Rd Enc.hdr w10 (some ⟨g7, 0, none⟩) [⟨some ⟨g5, 0, none⟩, 2, 2⟩, ⟨some ⟨g6, 0, none⟩, 1, 1⟩] from (H10.rd 3 rfl (by decide)).1) (show Rd Enc.i64 w10 (some ⟨g5, 0, none⟩) [1, 2] from (H10.rd 5 rfl (by decide)).1) (show Rd Enc.i64 w10 (some ⟨g6, 0, none⟩) [5] from (H10.rd 4 rfl (by decide)).1)) (rows_two (show Rd Enc.hdr w10 (some ⟨g10, 0, none⟩) [⟨some ⟨g8, 0, none⟩, 3, 3⟩, ⟨some ⟨g9, 0, none⟩, 1, 1⟩] from (H10.rd 0 rfl (by decide)).1) (show Rd Enc.i64 w10 (some ⟨g8, 0, none⟩) [1, 2, 3] from (H10.rd 2 rfl (by decide)).1) (show Rd Enc.i64 w10 (some ⟨g9, 0, none⟩) [6] from (H10.rd 1 rfl (by decide)).1)) (by decide) (by decide) (by decide) (by decide)⟩)
    | ((go_at_call 4; (with_reducible refine FAa.out.mono ?_); rintro e w11 ⟨rfl, H11'⟩; rw [show allB alikeF [0, 1] 0 [[1, 2], [5]] [[1, 2, 3], [6]] = true from by decide]; have H11 := Mem.none (H10.call H11'); clear H11'))
    | ((go_at_call 16; (with_reducible refine (given23_calls w11).mono ?_); rintro e w12 ⟨A12, rfl, H12'⟩; have H12 := H11.call H12'; simp only [List.cons_append, List.nil_append] at H12; clear H12'))
    | ((go_at_call 15; (with_reducible refine (nums_calls _ (w12.alloc (.cells #[I 1, I 2] 2))).mono ?_); rintro e _ ⟨rfl, rfl⟩); have H13 := (H12.alloc 2 #[I 1, I 2]).row_of_box (sz := 1) (n := 2) 0 rfl rfl (by decide) (fun u hu => List.all_eq_true.1 (show List.all [I 1, I 2] Value.oneCell' = true from rfl) u hu); simp only [List.set_cons_zero] at H13; obtain ⟨g13, hg13⟩ : ∃ g, g = w12.heap.size := ⟨_, rfl⟩; rw [← hg13] at H13 ⊢; obtain ⟨w13, hw13⟩ : ∃ w', w' = (w12.alloc (.cells #[I 1, I 2] 2)) := ⟨_, rfl⟩; rw [← hw13] at H13 ⊢; clear hw13 hg13)
    | ((go_at_call 15; (with_reducible refine (nums_calls _ (w13.alloc (.cells #[I 5] 2))).mono ?_); rintro e _ ⟨rfl, rfl⟩); have H14 := (H13.alloc 2 #[I 5]).row_of_box (sz := 1) (n := 1) 0 rfl rfl (by decide) (fun u hu => List.all_eq_true.1 (show List.all [I 5] Value.oneCell' = true from rfl) u hu); simp only [List.set_cons_zero] at H14; obtain ⟨g14, hg14⟩ : ∃ g, g = w13.heap.size := ⟨_, rfl⟩; rw [← hg14] at H14 ⊢; obtain ⟨w14, hw14⟩ : ∃ w', w' = (w13.alloc (.cells #[I 5] 2)) := ⟨_, rfl⟩; rw [← hw14] at H14 ⊢; clear hw14 hg14)
    | ((go_at_call 17; (with_reducible refine (rows_calls _ (w14.alloc (.cells #[.slice (some ⟨g13, 0, none⟩) 2 2, .slice (some ⟨g14, 0, none⟩) 1 1] 34))).mono ?_); rintro e _ ⟨rfl, rfl⟩); have H15 := (H14.alloc 34 #[.slice (some ⟨g13, 0, none⟩) 2 2, .slice (some ⟨g14, 0, none⟩) 1 1]).row_of_box (sz := 1) (n := 2) 0 rfl rfl (by decide) (fun u hu => List.all_eq_true.1 (show List.all [.slice (some ⟨g13, 0, none⟩) 2 2, .slice (some ⟨g14, 0, none⟩) 1 1] Value.oneCell' = true from rfl) u hu); simp only [List.set_cons_zero] at H15; obtain ⟨g15, hg15⟩ : ∃ g, g = w14.heap.size := ⟨_, rfl⟩; rw [← hg15] at H15 ⊢; obtain ⟨w15, hw15⟩ : ∃ w', w' = (w14.alloc (.cells #[.slice (some ⟨g13, 0, none⟩) 2 2, .slice (some ⟨g14, 0, none⟩) 1 1] 34)) := ⟨_, rfl⟩; rw [← hw15] at H15 ⊢; clear hw15 hg15)
    | ((go_at_call 15; (with_reducible refine (nums_calls _ (w15.alloc (.cells #[I 1, I 2, I 3] 2))).mono ?_); rintro e _ ⟨rfl, rfl⟩); have H16 := (H15.alloc 2 #[I 1, I 2, I 3]).row_of_box (sz := 1) (n := 3) 0 rfl rfl (by decide) (fun u hu => List.all_eq_true.1 (show List.all [I 1, I 2, I 3] Value.oneCell' = true from rfl) u hu); simp only [List.set_cons_zero] at H16; obtain ⟨g16, hg16⟩ : ∃ g, g = w15.heap.size := ⟨_, rfl⟩; rw [← hg16] at H16 ⊢; obtain ⟨w16, hw16⟩ : ∃ w', w' = (w15.alloc (.cells #[I 1, I 2, I 3] 2)) := ⟨_, rfl⟩; rw [← hw16] at H16 ⊢; clear hw16 hg16)
    | ((go_at_call 15; (with_reducible refine (nums_calls _ (w16.alloc (.cells #[I 6] 2))).mono ?_); rintro e _ ⟨rfl, rfl⟩); have H17 := (H16.alloc 2 #[I 6]).row_of_box (sz := 1) (n := 1) 0 rfl rfl (by decide) (fun u hu => List.all_eq_true.1 (show List.all [I 6] Value.oneCell' = true from rfl) u hu); simp only [List.set_cons_zero] at H17; obtain ⟨g17, hg17⟩ : ∃ g, g = w16.heap.size := ⟨_, rfl⟩; rw [← hg17] at H17 ⊢; obtain ⟨w17, hw17⟩ : ∃ w', w' = (w16.alloc (.cells #[I 6] 2)) := ⟨_, rfl⟩; rw [← hw17] at H17 ⊢; clear hw17 hg17)
    | ((go_at_call 17; (with_reducible refine (rows_calls _ (w17.alloc (.cells #[.slice (some ⟨g16, 0, none⟩) 3 3, .slice (some ⟨g17, 0, none⟩) 1 1] 34))).mono ?_); rintro e _ ⟨rfl, rfl⟩); have H18 := (H17.alloc 34 #[.slice (some ⟨g16, 0, none⟩) 3 3, .slice (some ⟨g17, 0, none⟩) 1 1]).row_of_box (sz := 1) (n := 2) 0 rfl rfl (by decide) (fun u hu => List.all_eq_true.1 (show List.all [.slice (some ⟨g16, 0, none⟩) 3 3, .slice (some ⟨g17, 0, none⟩) 1 1] Value.oneCell' = true from rfl) u hu); simp only [List.set_cons_zero] at H18; obtain ⟨g18, hg18⟩ : ∃ g, g = w17.heap.size := ⟨_, rfl⟩; rw [← hg18] at H18 ⊢; obtain ⟨w18, hw18⟩ : ∃ w', w' = (w17.alloc (.cells #[.slice (some ⟨g16, 0, none⟩) 3 3, .slice (some ⟨g17, 0, none⟩) 1 1] 34)) := ⟨_, rfl⟩; rw [← hw18] at H18 ⊢; clear hw18 hg18; have FAb : Hd (Calls Tryd.prog 4 #[.agg #[.slice none 0 0, .slice none 0 0, .slice A12 2 2, .slice none 0 0], .int .u64 1, .slice (some ⟨g15, 0, none⟩) 2 2, .slice (some ⟨g18, 0, none⟩) 2 2] w18 fun e w' => e = .returned (.bool (allB alikeF [0, 1] 1 [[1, 2], [5]] [[1, 2, 3], [6]])) ∧ Mem w18 w' []) := ⟨alike_calls (.slice none 0 0) (.slice none 0 0) (.slice none 0 0) A12 2 [0, 1] 1 [[1, 2], [5]] [[1, 2, 3], [6]] (some ⟨g15, 0, none⟩) (some ⟨g18, 0, none⟩) 2 2 _ _ w18 (H18.own_rd 6 rfl (by decide)).1 (by decide) (rows_two (show Rd Enc.hdr w18 (some ⟨g15, 0, none⟩) [⟨some ⟨g13, 0, none⟩, 2, 2⟩, ⟨some ⟨g14, 0, none⟩, 1, 1⟩] from (H18.rd 3 rfl (by decide)).1) (show Rd Enc.i64 w18 (some ⟨g13, 0, none⟩) [1, 2] from (H18.rd 5 rfl (by decide)).1) (show Rd Enc.i64 w18 (some ⟨g14, 0, none⟩) [5] from (H18.rd 4 rfl (by decide)).1)) (rows_two (show Rd Enc.hdr w18 (some ⟨g18, 0, none⟩) [⟨some ⟨g16, 0, none⟩, 3, 3⟩, ⟨some ⟨g17, 0, none⟩, 1, 1⟩] from (H18.rd 0 rfl (by decide)).1) (show Rd Enc.i64 w18 (some ⟨g16, 0, none⟩) [1, 2, 3] from (H18.rd 2 rfl (by decide)).1) (show Rd Enc.i64 w18 (some ⟨g17, 0, none⟩) [6] from (H18.rd 1 rfl (by decide)).1)) (by decide) (by decide) (by decide) (by decide)⟩)
    | ((go_at_call 4; (with_reducible refine FAb.out.mono ?_); rintro e w19 ⟨rfl, H19'⟩; rw [show allB alikeF [0, 1] 1 [[1, 2], [5]] [[1, 2, 3], [6]] = false from by decide]; have H19 := Mem.none (H18.call H19'); clear H19'))
    | ((go_at_call 15; (with_reducible refine (nums_calls _ (w19.alloc (.cells #[I 1, I (-2)] 2))).mono ?_); rintro e _ ⟨rfl, rfl⟩); have H20 := (H19.alloc 2 #[I 1, I (-2)]).row_of_box (sz := 1) (n := 2) 0 rfl rfl (by decide) (fun u hu => List.all_eq_true.1 (show List.all [I 1, I (-2)] Value.oneCell' = true from rfl) u hu); simp only [List.set_cons_zero] at H20; obtain ⟨g20, hg20⟩ : ∃ g, g = w19.heap.size := ⟨_, rfl⟩; rw [← hg20] at H20 ⊢; obtain ⟨w20, hw20⟩ : ∃ w', w' = (w19.alloc (.cells #[I 1, I (-2)] 2)) := ⟨_, rfl⟩; rw [← hw20] at H20 ⊢; clear hw20 hg20)
    | ((go_at_call 17; (with_reducible refine (rows_calls _ (w20.alloc (.cells #[.slice (some ⟨g20, 0, none⟩) 2 2, .slice none 0 0] 34))).mono ?_); rintro e _ ⟨rfl, rfl⟩); have H21 := (H20.alloc 34 #[.slice (some ⟨g20, 0, none⟩) 2 2, .slice none 0 0]).row_of_box (sz := 1) (n := 2) 0 rfl rfl (by decide) (fun u hu => List.all_eq_true.1 (show List.all [.slice (some ⟨g20, 0, none⟩) 2 2, .slice none 0 0] Value.oneCell' = true from rfl) u hu); simp only [List.set_cons_zero] at H21; obtain ⟨g21, hg21⟩ : ∃ g, g = w20.heap.size := ⟨_, rfl⟩; rw [← hg21] at H21 ⊢; obtain ⟨w21, hw21⟩ : ∃ w', w' = (w20.alloc (.cells #[.slice (some ⟨g20, 0, none⟩) 2 2, .slice none 0 0] 34)) := ⟨_, rfl⟩; rw [← hw21] at H21 ⊢; clear hw21 hg21; have FT : Hd (Calls Tryd.prog 18 #[.slice (some ⟨g21, 0, none⟩) 2 2] w21 fun e w' => e = .returned (.string ⟨(textN [[1, -2], []] ([[1, -2], []] : List (List Int)).length).toArray⟩) ∧ Below w21.heap.size w21 w') := ⟨text_calls [[1, -2], []] [⟨some ⟨g20, 0, none⟩, 2, 2⟩, ⟨none, 0, 0⟩] (some ⟨g21, 0, none⟩) 2 w21 (rows_two (show Rd Enc.hdr w21 (some ⟨g21, 0, none⟩) [⟨some ⟨g20, 0, none⟩, 2, 2⟩, ⟨none, 0, 0⟩] from (H21.rd 0 rfl (by decide)).1) (show Rd Enc.i64 w21 (some ⟨g20, 0, none⟩) [1, -2] from (H21.rd 1 rfl (by decide)).1) (Rd.nil _ _)) (by decide) (by decide) given_small given_lines (by decide) (fun w' x hb h0 h1 => HF.out w' x (H21.call (Mem.of_below hb)).below h0 h1)⟩)
    | ((go_at_call 18; (with_reducible refine FT.out.mono ?_); rintro e w22 ⟨rfl, hb⟩; rw [given_text]; have H22 := Mem.none (H21.call (Mem.of_below hb)))))
  go_ret
  exact ⟨rfl, H22⟩
end Go.Proofs.YtjgaacpiflmljaaDoor
