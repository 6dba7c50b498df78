/- louverlaw15.awake: the chapter's tree. -/
import Derived.Test.YtjlikbaamefkiaaGiven
namespace Go.Proofs.Ytjlikbaamefkiaa
open Go.RowKit
set_option linter.unusedVariables false
set_option linter.unusedSimpArgs false
set_option maxHeartbeats 2000000

section
variable {nx : Nat → List Nat} {n : Nat}
def grows (nx : Nat → List Nat) (n : Nat) (q : Int) : List Nat → Bool
  | [] => true
  | x :: r => decide ((x : Int) ≠ q) && (x == n || (decide (x < n) && (nx x).any fun b => r.contains b)) && grows nx n q r
def closes (nx : Nat → List Nat) (n : Nat) (q : Int) (S : List Nat) : Bool :=
  (decide ((n : Int) = q) || S.contains n) && (List.range n).all fun p => decide ((p : Int) = q) || !((nx p).any fun b => S.contains b) || S.contains p
theorem grows_av {q : Int} : ∀ {S : List Nat}, grows nx n q S = true → ∀ x ∈ S, Av nx n q x
  | [], _, x, h => by cases h
  | y :: r, h, x, hx => by
    simp only [grows, Bool.and_eq_true, decide_eq_true_eq, Bool.or_eq_true, beq_iff_eq, List.any_eq_true, List.contains_iff_mem] at h
    obtain ⟨⟨h1, h2⟩, h3⟩ := h
    rcases List.mem_cons.1 hx with rfl | hx
    · rcases h2 with rfl | ⟨h2, b, h4, h5⟩
      · exact .base h1
      · exact .step h2 h1 h4 (grows_av h3 b h5)
    · exact grows_av h3 x hx
theorem closes_av {q : Int} {S : List Nat} (h : closes nx n q S = true) {x : Nat} (hx : Av nx n q x) : x ∈ S := by
  simp only [closes, Bool.and_eq_true, decide_eq_true_eq, Bool.or_eq_true, List.contains_iff_mem, List.all_eq_true, List.mem_range, Bool.not_eq_true', List.any_eq_false] at h
  induction hx with
  | base h1 => exact h.1.resolve_left h1
  | @step p b h1 h2 h3 _ ih =>
    rcases h.2 p h1 with (h4 | h4) | h4
    · exact absurd h4 h2
    · exact absurd ih (h4 b h3)
    · exact h4
theorem av_iff {q : Int} {S : List Nat} (h1 : grows nx n q S = true) (h2 : closes nx n q S = true) (x : Nat) : Av nx n q x ↔ x ∈ S := ⟨closes_av h2, grows_av h1 x⟩
end
/-- The nodes with a way that avoids q. -/
def givenS : Nat → List Nat
  | 0 => [1, 3, 2, 4, 6, 5, 8]
  | 1 => [0, 3, 2, 4, 6, 5, 8]
  | 2 => [0, 3, 4, 6, 5, 8]
  | 3 => [0, 1, 2, 4, 6, 5, 8]
  | 4 => [6, 5, 8]
  | 5 => [0, 1, 3, 2, 4, 6, 8]
  | 6 => [0, 1, 3, 2, 4, 5, 8]
  | 7 => [0, 1, 3, 2, 4, 6, 5, 8]
  | _ => []
def givenA : List Nat := [0, 1, 3, 2, 4, 6, 5, 8]
theorem given_all (x : Nat) : Av (nxt givenCode) 8 (-1) x ↔ x ∈ givenA := av_iff (by decide) (by decide) x
theorem given_av (q : Nat) (hq : q ≤ 8) (x : Nat) : Av (nxt givenCode) 8 q x ↔ x ∈ givenS q := by
  have : ∀ q : Nat, q < 9 → (grows (nxt givenCode) 8 (q : Int) (givenS q) && closes (nxt givenCode) 8 (q : Int) (givenS q)) = true := by decide
  have h := this q (by omega)
  rw [Bool.and_eq_true] at h
  exact av_iff h.1 h.2 x
def givenD (q p : Nat) : Bool := givenA.contains p && !(givenS q).contains p
theorem given_dom {q p : Nat} (hq : q ≤ 8) : Dom (nxt givenCode) 8 q p ↔ givenD q p = true := by
  unfold Dom givenD
  rw [given_all, given_av q hq]
  simp
theorem given_near (p q : Nat) (h : (decide (q ≤ 8) && (q != p) && givenD q p && (List.range 9).all fun r => r == p || !givenD r p || givenD r q) = true) : nearI (nxt givenCode) 8 p = q := by
  simp only [Bool.and_eq_true, decide_eq_true_eq, bne_iff_ne, List.all_eq_true, List.mem_range, Bool.or_eq_true, beq_iff_eq, Bool.not_eq_true'] at h
  obtain ⟨⟨⟨h1, h2⟩, h3⟩, h4⟩ := h
  refine nearI_of ⟨h1, h2, (given_dom h1).2 h3, fun r hr hrp hd => ?_⟩
  rw [given_dom hr] at hd ⊢
  rcases h4 r (by omega) with (h5 | h5) | h5
  · exact absurd h5 hrp
  · rw [hd] at h5; cases h5
  · exact h5
theorem given_tree : treeL (nxt givenCode) 8 = [4, 2, 4, 4, 8, 8, 8, -1, -1] := by
  have h7 : nearI (nxt givenCode) 8 7 = -1 := near_off' (fun h => by rw [given_all] at h; revert h; decide)
  have h8 : nearI (nxt givenCode) 8 8 = -1 := nearI_none near_top
  have e : treeL (nxt givenCode) 8 = [nearI (nxt givenCode) 8 0, nearI (nxt givenCode) 8 1, nearI (nxt givenCode) 8 2, nearI (nxt givenCode) 8 3, nearI (nxt givenCode) 8 4, nearI (nxt givenCode) 8 5, nearI (nxt givenCode) 8 6, nearI (nxt givenCode) 8 7, nearI (nxt givenCode) 8 8] := rfl
  rw [e, given_near 0 4 (by decide), given_near 1 2 (by decide), given_near 2 4 (by decide), given_near 3 4 (by decide), given_near 4 8 (by decide), given_near 5 8 (by decide), given_near 6 8 (by decide), h7, h8]
  rfl
theorem given_d40 : domZ (nxt givenCode) 8 4 0 = true := by
  rw [show (4 : Int) = ((4 : Nat) : Int) from rfl, show (0 : Int) = ((0 : Nat) : Int) from rfl, domZ_nat (by decide) (by decide), domB_iff, given_dom (by decide)]
  decide
theorem given_d10 : domZ (nxt givenCode) 8 1 0 = false := by
  rw [show (1 : Int) = ((1 : Nat) : Int) from rfl, show (0 : Int) = ((0 : Nat) : Int) from rfl, domZ_nat (by decide) (by decide)]
  cases h : domB (nxt givenCode) 8 1 0 with
  | false => rfl
  | true => rw [domB_iff, given_dom (by decide)] at h; revert h; decide
theorem bareRd {code : List Ins} {w : World} {A : Option Addr} {c : Nat} (h : Rd Enc.ins w A code) (hl : code.length ≤ 1000000000000) : (bare code).Rd w ⟨none, 0, none, 0, A, c⟩ :=
  ⟨(((Mem.refl w).nilrow 23 1).rd 0 rfl (by decide)).1, (((Mem.refl w).nilrow 23 1).rd 0 rfl (by decide)).1, h, by simp, by simp, hl⟩

set_option maxRecDepth 100000 in
theorem awake_calls (w : World) : Calls Try.prog 4 #[] w fun e w' => e = .returned (.bool true) ∧ Mem w w' [] := by
  have H0 := Mem.refl w
  have ho : ∀ i ∈ givenCode, -9223372036854775808 ≤ i.a ∧ i.a ≤ 9223372036854775807 := by decide
  have HT : Hd (∀ (w' : World) (A : Option Addr) (c : Nat), Rd Enc.ins w' A givenCode → Calls Try.prog 8 #[(bare givenCode).val ⟨none, 0, none, 0, A, c⟩] w' (TreeRes 3 (nxt givenCode) 8 w')) := ⟨fun w' A c hR => tree_calls (bare givenCode) ⟨none, 0, none, 0, A, c⟩ w' (bareRd hR (by decide)) (by decide) ho⟩
  have HD : Hd (∀ (w' : World) (A : Option Addr) (c : Nat), Rd Enc.ins w' A givenCode → ∀ q p : Int, Calls Try.prog 13 #[(bare givenCode).val ⟨none, 0, none, 0, A, c⟩, I q, I p] w' fun e w'' => e = .returned (.bool (domZ (nxt givenCode) 8 q p)) ∧ Mem w' w'' []) := ⟨fun w' A c hR q p => dom_calls (bare givenCode) ⟨none, 0, none, 0, A, c⟩ w' (bareRd hR (by decide)) (by decide) ho q p⟩
  clear ho
  go_enter Try.func4, Try.ntmps4
  go_wp2_with (first
    | (go_at_call 18; (with_reducible refine (given_calls _).mono ?_); rintro e w1 ⟨A1, c1, rfl, h1, H1'⟩; have H1 := H0.call H1'; simp only [List.append_nil] at H1)
    | (go_at_call 8; (with_reducible refine (HT.out _ A1 c1 (H1.own_rd 0 rfl (by decide)).1).mono ?_); rintro e w2 ⟨⟨A3, c3, rfl, h3, H2'⟩, hA⟩; rw [given_tree] at H2' ⊢; simp only [List.length_cons, List.length_nil]; have H2 := H1.call H2'; simp only [List.cons_append, List.nil_append] at H2; clear hA h3))
  have H3 := (H2.alloc 3 #[I 4, I 2, I 4, I 4, I 8, I 8, I 8, I (-1), I (-1)]).row_of_box (sz := 1) (n := 9) 0 rfl rfl (by decide) (fun u hu => List.all_eq_true.1 (show List.all [I 4, I 2, I 4, I 4, I 8, I 8, I 8, I (-1), I (-1)] Value.oneCell' = true from rfl) u hu)
  have R3 : Rd Enc.i64 _ (some ⟨w2.heap.size, 0, none⟩) ([4, 2, 4, 4, 8, 8, 8, -1, -1] : List Int) := (H3.rd 0 rfl (by decide)).1
  have R4 := (H3.own_rd 1 rfl (by decide)).1
  have HI : Hd (Calls Try.prog 11 #[.slice A3 9 c3, .slice (some ⟨w2.heap.size, 0, none⟩) 9 9] (w2.alloc (.cells #[I 4, I 2, I 4, I 4, I 8, I 8, I 8, I (-1), I (-1)] 3)) fun e w' => e = .returned (.bool true) ∧ Mem (w2.alloc (.cells #[I 4, I 2, I 4, I 4, I 8, I 8, I 8, I (-1), I (-1)] 3)) w' []) := ⟨(ints_calls A3 (some ⟨w2.heap.size, 0, none⟩) c3 9 [4, 2, 4, 4, 8, 8, 8, -1, -1] [4, 2, 4, 4, 8, 8, 8, -1, -1] _ R4 R3 (by decide) (by decide)).mono (by rintro e w' ⟨rfl, h⟩; exact ⟨by simp, h⟩)⟩
  clear R3 R4
  go_wp2_with (first
    | (go_at_call 11; (with_reducible refine HI.out.mono ?_); rintro e w4 ⟨rfl, H4'⟩; have H4 := H3.call H4'; simp only [List.nil_append] at H4)
    | (go_at_call 18; (with_reducible refine (given_calls w4).mono ?_); rintro e w5 ⟨A5, c5, rfl, h5, H5'⟩; have H5 := H4.call H5'; simp only [List.cons_append, List.nil_append] at H5)
    | (go_at_call 13; (with_reducible refine (HD.out w5 A5 c5 (H5.own_rd 0 rfl (by decide)).1 4 0).mono ?_); rintro e w6 ⟨rfl, H6'⟩; rw [given_d40]; have H6 := H5.call H6'; simp only [List.nil_append] at H6)
    | (go_at_call 18; (with_reducible refine (given_calls w6).mono ?_); rintro e w7 ⟨A7, c7, rfl, h7, H7'⟩; have H7 := H6.call H7'; simp only [List.cons_append, List.nil_append] at H7)
    | (go_at_call 13; (with_reducible refine (HD.out w7 A7 c7 (H7.own_rd 0 rfl (by decide)).1 1 0).mono ?_); rintro e w8 ⟨rfl, H8'⟩; rw [given_d10]; have H8 := H7.call H8'; simp only [List.nil_append] at H8))
  trace_state
  go_ret
  exact ⟨rfl, ((((H8.drop 0).drop 0).drop 0).drop 0).drop 0⟩
end Go.Proofs.Ytjlikbaamefkiaa
