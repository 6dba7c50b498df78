/- logs: common, Prefix, slices.Equal, bits.Within. -/
import Derived.Test.YtjgaacpiflmljaaDoorLgElt
import Derived.Test.YtjgaacpiflmljaaDoorDrawn
namespace Go.Proofs.YtjgaacpiflmljaaDoor
open Go.RowKit
set_option linter.unusedVariables false
set_option linter.unusedSimpArgs false
set_option maxHeartbeats 1000000

/-- How many two lists begin with that are the same. -/
def cmn : List Int → List Int → Nat
  | x :: xs, y :: ys => if x = y then cmn xs ys + 1 else 0
  | _, _ => 0
theorem cmn_eq : ∀ {xs ys : List Int} {k : Nat}, (∀ j, j < k → ∃ x, xs[j]? = some x ∧ ys[j]? = some x) → (∀ x, ¬ (xs[k]? = some x ∧ ys[k]? = some x)) → cmn xs ys = k
  | [], ys, k, h1, h2 => by
    cases k with
    | zero => rfl
    | succ k => obtain ⟨x, h, _⟩ := h1 0 (by omega); simp at h
  | x :: xs, [], k, h1, h2 => by
    cases k with
    | zero => rfl
    | succ k => obtain ⟨x, _, h⟩ := h1 0 (by omega); simp at h
  | x :: xs, y :: ys, k, h1, h2 => by
    unfold cmn
    cases k with
    | zero =>
      rw [if_neg]
      rintro rfl
      exact h2 x ⟨rfl, rfl⟩
    | succ k =>
      obtain ⟨z, h3, h4⟩ := h1 0 (by omega)
      have e1 : x = z := by simpa using h3
      have e2 : y = z := by simpa using h4
      rw [if_pos (e1.trans e2.symm), cmn_eq (k := k) (fun j hj => by simpa using h1 (j + 1) (by omega)) (fun z hz => h2 z (by simpa using hz))]
theorem cmn_le : ∀ (xs ys : List Int), cmn xs ys ≤ xs.length ∧ cmn xs ys ≤ ys.length
  | [], ys => by simp [cmn]
  | x :: xs, [] => by simp [cmn]
  | x :: xs, y :: ys => by
    unfold cmn
    have := cmn_le xs ys
    split <;> simp <;> omega

set_option maxRecDepth 100000 in
theorem common_calls (A B : Option Addr) (c d : Nat) (xs ys : List Int) (w : World) (hx : Rd Enc.i64 w A xs) (hy : Rd Enc.i64 w B ys) (hl : xs.length ≤ 17592186043904) (hm : ys.length ≤ 17592186043904) :
    Calls Tryd.prog 23 #[.slice A xs.length c, .slice B ys.length d] w fun e w' => e = .returned (I (cmn xs ys)) ∧ Mem w w' [] := by
  have HX := hid hx
  have HY := hid hy
  clear hx hy
  have H0 := Mem.refl w
  go_enter Tryd.func23, Tryd.ntmps23
  go_wp2
  go_loopw [5] (fun v wr => ∃ k : Nat, v = .int .i64 k ∧ k ≤ xs.length ∧ Hd (∀ j, j < k → ∃ x, xs[j]? = some x ∧ ys[j]? = some x) ∧ Mem w wr []) (fun v _ => xs.length - (intOf v).toNat)
  case atStart => exact ⟨0, rfl, Nat.zero_le _, ⟨fun j hj => by omega⟩, H0⟩
  case round =>
    obtain ⟨k, rfl, hk, HT, H1⟩ := hrel
    obtain ⟨wo, rfl⟩ : ∃ wo : World, wo = wr := ⟨_, rfl⟩
    by_cases h1 : (k : Int) < (xs.length : Int)
    · by_cases h2 : (k : Int) < (ys.length : Int)
      · have k1 : k < xs.length := by omega
        have k2 : k < ys.length := by omega
        obtain ⟨x, hX⟩ : ∃ x, xs[k]? = some x := ⟨_, List.getElem?_eq_getElem k1⟩
        obtain ⟨y, hY⟩ : ∃ y, ys[k]? = some y := ⟨_, List.getElem?_eq_getElem k2⟩
        obtain ⟨b, o, rfl, hc⟩ := HX.out.get1 rfl hX rfl
        obtain ⟨b', o', rfl, hd⟩ := HY.out.get1 rfl hY rfl
        have e1 := H1.old hc
        have e2 := H1.old hd
        have HX2 := hid hX
        have HY2 := hid hY
        clear hX hY hc hd
        by_cases he : x = y
        · subst he
          go_wp2
          go_quiet (fail)
          have H2 := H1.drewN nq
          obtain ⟨w3, hw3⟩ : ∃ w3, w3 = wo.drewN nq := ⟨_, rfl⟩
          rw [← hw3] at H2 ⊢
          clear e1 e2 hw3
          go_wp2
          go_roundw
          case rel =>
            refine ⟨k + 1, by go_num, by omega, ⟨fun j hj => ?_⟩, H2⟩
            rcases Nat.lt_or_ge j k with h | h
            · exact HT.out j h
            · obtain rfl : j = k := by omega
              exact ⟨x, HX2.out, HY2.out⟩
          case measure => first | (simp [intOf]; done) | (simp [intOf]; omega)
        · have g1 : (x == y) = false := by simpa using he
          have HE := hid he
          clear he
          go_wp2
          go_quiet (fail)
          have H2 := H1.drewN nq
          obtain ⟨w3, hw3⟩ : ∃ w3, w3 = wo.drewN nq := ⟨_, rfl⟩
          rw [← hw3] at H2 ⊢
          clear e1 e2 hw3
          go_wp2
          go_ret
          refine ⟨?_, H2⟩
          rw [cmn_eq HT.out (fun z hz => HE.out (by rw [HX2.out] at hz; rw [HY2.out] at hz; have := Option.some.inj hz.1; have := Option.some.inj hz.2; omega))]
          rfl
      · have g2 : decide ((k : Int) < (ys.length : Int)) = false := by simpa using h2
        have hle : ys.length ≤ k := by omega
        have HE := hid h2
        clear h2
        go_wp2
        refine wp_region_B (fun _ => false) (fun _ => True ∧ True) (by kernel_rfl) ?_
        have hS : True ∧ True := ⟨trivial, trivial⟩
        have H2 := H1.drew
        obtain ⟨w3, hw3⟩ : ∃ w3, w3 = wo.drew := ⟨_, rfl⟩
        rw [← hw3] at H2 ⊢
        clear hw3
        refine wpAnyB_take' (i := 0) (v := I (k : Int)) rfl (by kernel_rfl) (by kernel_rfl) rfl (by kernel_rfl) (by kernel_rfl) (fun _ _ _ h => h) (by rfl) hS (by intro w' hS'; obtain ⟨k1, k2⟩ := hS'; first | (go_simp; done) | (go_simp; rfl) | (go_simp; omega) | (go_simp; assumption)) ?_
        simp only [Act.put, List.setIfInBounds_toArray, List.set_cons_zero, List.set_cons_succ]
        refine wpAnyB_take' (i := 1) (v := .slice A xs.length c) rfl (by kernel_rfl) (by kernel_rfl) rfl (by kernel_rfl) (by kernel_rfl) (fun _ _ _ h => h) (by rfl) hS (by intro w' hS'; obtain ⟨k1, k2⟩ := hS'; first | (go_simp; done) | (go_simp; rfl) | (go_simp; omega) | (go_simp; assumption)) ?_
        simp only [Act.put, List.setIfInBounds_toArray, List.set_cons_zero, List.set_cons_succ]
        refine wpAnyB_take' (i := 2) (v := I (xs.length : Int)) rfl (by kernel_rfl) (by kernel_rfl) rfl (by kernel_rfl) (by kernel_rfl) (fun _ _ _ h => h) (by rfl) hS (by intro w' hS'; obtain ⟨k1, k2⟩ := hS'; first | (go_simp; done) | (go_simp; rfl) | (go_simp; omega) | (go_simp; assumption)) ?_
        simp only [Act.put, List.setIfInBounds_toArray, List.set_cons_zero, List.set_cons_succ]
        refine wpAnyB_take' (i := 3) (v := .bool true) rfl (by kernel_rfl) (by kernel_rfl) rfl (by kernel_rfl) (by kernel_rfl) (fun _ _ _ h => h) (by rfl) hS (by intro w' hS'; obtain ⟨k1, k2⟩ := hS'; first | (go_simp; done) | (go_simp; rfl) | (go_simp; omega) | (go_simp; assumption)) ?_
        simp only [Act.put, List.setIfInBounds_toArray, List.set_cons_zero, List.set_cons_succ]
        refine wpAnyB_take' (i := 4) (v := .bool true) rfl (by kernel_rfl) (by kernel_rfl) rfl (by kernel_rfl) (by kernel_rfl) (fun _ _ _ h => h) (by rfl) hS (by intro w' hS'; obtain ⟨k1, k2⟩ := hS'; first | (go_simp; done) | (go_simp; rfl) | (go_simp; omega) | (go_simp; assumption)) ?_
        simp only [Act.put, List.setIfInBounds_toArray, List.set_cons_zero, List.set_cons_succ]
        refine wpAnyB_take' (i := 5) (v := I (k : Int)) rfl (by kernel_rfl) (by kernel_rfl) rfl (by kernel_rfl) (by kernel_rfl) (fun _ _ _ h => h) (by rfl) hS (by intro w' hS'; obtain ⟨k1, k2⟩ := hS'; first | (go_simp; done) | (go_simp; rfl) | (go_simp; omega) | (go_simp; assumption)) ?_
        simp only [Act.put, List.setIfInBounds_toArray, List.set_cons_zero, List.set_cons_succ]
        refine wpAnyB_take' (i := 6) (v := .slice B ys.length d) rfl (by kernel_rfl) (by kernel_rfl) rfl (by kernel_rfl) (by kernel_rfl) (fun _ _ _ h => h) (by rfl) hS (by intro w' hS'; obtain ⟨k1, k2⟩ := hS'; first | (go_simp; done) | (go_simp; rfl) | (go_simp; omega) | (go_simp; assumption)) ?_
        simp only [Act.put, List.setIfInBounds_toArray, List.set_cons_zero, List.set_cons_succ]
        refine wpAnyB_take' (i := 7) (v := I (ys.length : Int)) rfl (by kernel_rfl) (by kernel_rfl) rfl (by kernel_rfl) (by kernel_rfl) (fun _ _ _ h => h) (by rfl) hS (by intro w' hS'; obtain ⟨k1, k2⟩ := hS'; first | (go_simp; done) | (go_simp; rfl) | (go_simp; omega) | (go_simp; assumption)) ?_
        simp only [Act.put, List.setIfInBounds_toArray, List.set_cons_zero, List.set_cons_succ]
        refine wpAnyB_take' (i := 8) (v := .bool false) rfl (by kernel_rfl) (by kernel_rfl) rfl (by kernel_rfl) (by kernel_rfl) (fun _ _ _ h => h) (by rfl) hS (by intro w' hS'; obtain ⟨k1, k2⟩ := hS'; first | (go_simp; done) | (go_simp; rfl) | (go_simp; omega) | (go_simp; assumption)) ?_
        simp only [Act.put, List.setIfInBounds_toArray, List.set_cons_zero, List.set_cons_succ]
        refine wpAnyB_take' (i := 9) (v := .bool false) rfl (by kernel_rfl) (by kernel_rfl) rfl (by kernel_rfl) (by kernel_rfl) (fun _ _ _ h => h) (by rfl) hS (by intro w' hS'; obtain ⟨k1, k2⟩ := hS'; first | (go_simp; done) | (go_simp; rfl) | (go_simp; omega) | (go_simp; assumption)) ?_
        simp only [Act.put, List.setIfInBounds_toArray, List.set_cons_zero, List.set_cons_succ]
        refine wpAnyB_take' (i := 10) (v := .bool false) rfl (by kernel_rfl) (by kernel_rfl) rfl (by kernel_rfl) (by kernel_rfl) (fun _ _ _ h => h) (by rfl) hS (by intro w' hS'; obtain ⟨k1, k2⟩ := hS'; first | (go_simp; done) | (go_simp; rfl) | (go_simp; omega) | (go_simp; assumption)) ?_
        simp only [Act.put, List.setIfInBounds_toArray, List.set_cons_zero, List.set_cons_succ]
        refine wpAnyB_skip' (i := 11) rfl (by kernel_rfl) (by kernel_rfl) rfl (by kernel_rfl) (by kernel_rfl) (fun _ _ _ h => h) (by rfl) hS ?_
        simp only [Act.put, List.setIfInBounds_toArray, List.set_cons_zero, List.set_cons_succ]
        refine wpAnyB_skip' (i := 12) rfl (by kernel_rfl) (by kernel_rfl) rfl (by kernel_rfl) (by kernel_rfl) (fun _ _ _ h => h) (by rfl) hS ?_
        simp only [Act.put, List.setIfInBounds_toArray, List.set_cons_zero, List.set_cons_succ]
        refine wpAnyB_skip' (i := 13) rfl (by kernel_rfl) (by kernel_rfl) rfl (by kernel_rfl) (by kernel_rfl) (fun _ _ _ h => h) (by rfl) hS ?_
        simp only [Act.put, List.setIfInBounds_toArray, List.set_cons_zero, List.set_cons_succ]
        refine wpAnyB_skip' (i := 14) rfl (by kernel_rfl) (by kernel_rfl) rfl (by kernel_rfl) (by kernel_rfl) (fun _ _ _ h => h) (by rfl) hS ?_
        simp only [Act.put, List.setIfInBounds_toArray, List.set_cons_zero, List.set_cons_succ]
        refine wpAnyB_skip' (i := 15) rfl (by kernel_rfl) (by kernel_rfl) rfl (by kernel_rfl) (by kernel_rfl) (fun _ _ _ h => h) (by rfl) hS ?_
        simp only [Act.put, List.setIfInBounds_toArray, List.set_cons_zero, List.set_cons_succ]
        refine wpAnyB_skip' (i := 16) rfl (by kernel_rfl) (by kernel_rfl) rfl (by kernel_rfl) (by kernel_rfl) (fun _ _ _ h => h) (by rfl) hS ?_
        simp only [Act.put, List.setIfInBounds_toArray, List.set_cons_zero, List.set_cons_succ]
        refine wpAnyB_skip' (i := 17) rfl (by kernel_rfl) (by kernel_rfl) rfl (by kernel_rfl) (by kernel_rfl) (fun _ _ _ h => h) (by rfl) hS ?_
        simp only [Act.put, List.setIfInBounds_toArray, List.set_cons_zero, List.set_cons_succ]
        refine wpAnyB_skip' (i := 18) rfl (by kernel_rfl) (by kernel_rfl) rfl (by kernel_rfl) (by kernel_rfl) (fun _ _ _ h => h) (by rfl) hS ?_
        simp only [Act.put, List.setIfInBounds_toArray, List.set_cons_zero, List.set_cons_succ]
        refine wpAnyB_skip' (i := 19) rfl (by kernel_rfl) (by kernel_rfl) rfl (by kernel_rfl) (by kernel_rfl) (fun _ _ _ h => h) (by rfl) hS ?_
        simp only [Act.put, List.setIfInBounds_toArray, List.set_cons_zero, List.set_cons_succ]
        refine wpAnyB_take' (i := 20) (v := .bool false) rfl (by kernel_rfl) (by kernel_rfl) rfl (by kernel_rfl) (by kernel_rfl) (fun _ _ _ h => h) (by rfl) hS (by intro w' hS'; obtain ⟨k1, k2⟩ := hS'; first | (go_simp; done) | (go_simp; rfl) | (go_simp; omega) | (go_simp; assumption)) ?_
        simp only [Act.put, List.setIfInBounds_toArray, List.set_cons_zero, List.set_cons_succ]
        refine wpAnyB_done (by kernel_rfl) ?_ _
        go_wp2
        go_ret
        refine ⟨?_, H2⟩
        rw [cmn_eq HT.out (fun z hz => by have := (List.getElem?_eq_some_iff.1 hz.2).1; have := HE.out; omega)]
        rfl
    · have g2 : decide ((k : Int) < (xs.length : Int)) = false := by simpa using h1
      have hle : xs.length ≤ k := by omega
      have HE := hid h1
      clear h1
      go_wp2
      refine wp_region_B (fun _ => false) (fun _ => True ∧ True) (by kernel_rfl) ?_
      have hS : True ∧ True := ⟨trivial, trivial⟩
      have H2 := H1.drew
      obtain ⟨w3, hw3⟩ : ∃ w3, w3 = wo.drew := ⟨_, rfl⟩
      rw [← hw3] at H2 ⊢
      clear hw3
      refine wpAnyB_take' (i := 0) (v := I (k : Int)) rfl (by kernel_rfl) (by kernel_rfl) rfl (by kernel_rfl) (by kernel_rfl) (fun _ _ _ h => h) (by rfl) hS (by intro w' hS'; obtain ⟨k1, k2⟩ := hS'; first | (go_simp; done) | (go_simp; rfl) | (go_simp; omega) | (go_simp; assumption)) ?_
      simp only [Act.put, List.setIfInBounds_toArray, List.set_cons_zero, List.set_cons_succ]
      refine wpAnyB_take' (i := 1) (v := .slice A xs.length c) rfl (by kernel_rfl) (by kernel_rfl) rfl (by kernel_rfl) (by kernel_rfl) (fun _ _ _ h => h) (by rfl) hS (by intro w' hS'; obtain ⟨k1, k2⟩ := hS'; first | (go_simp; done) | (go_simp; rfl) | (go_simp; omega) | (go_simp; assumption)) ?_
      simp only [Act.put, List.setIfInBounds_toArray, List.set_cons_zero, List.set_cons_succ]
      refine wpAnyB_take' (i := 2) (v := I (xs.length : Int)) rfl (by kernel_rfl) (by kernel_rfl) rfl (by kernel_rfl) (by kernel_rfl) (fun _ _ _ h => h) (by rfl) hS (by intro w' hS'; obtain ⟨k1, k2⟩ := hS'; first | (go_simp; done) | (go_simp; rfl) | (go_simp; omega) | (go_simp; assumption)) ?_
      simp only [Act.put, List.setIfInBounds_toArray, List.set_cons_zero, List.set_cons_succ]
      refine wpAnyB_take' (i := 3) (v := .bool false) rfl (by kernel_rfl) (by kernel_rfl) rfl (by kernel_rfl) (by kernel_rfl) (fun _ _ _ h => h) (by rfl) hS (by intro w' hS'; obtain ⟨k1, k2⟩ := hS'; first | (go_simp; done) | (go_simp; rfl) | (go_simp; omega) | (go_simp; assumption)) ?_
      simp only [Act.put, List.setIfInBounds_toArray, List.set_cons_zero, List.set_cons_succ]
      refine wpAnyB_take' (i := 4) (v := .bool false) rfl (by kernel_rfl) (by kernel_rfl) rfl (by kernel_rfl) (by kernel_rfl) (fun _ _ _ h => h) (by rfl) hS (by intro w' hS'; obtain ⟨k1, k2⟩ := hS'; first | (go_simp; done) | (go_simp; rfl) | (go_simp; omega) | (go_simp; assumption)) ?_
      simp only [Act.put, List.setIfInBounds_toArray, List.set_cons_zero, List.set_cons_succ]
      refine wpAnyB_skip' (i := 5) rfl (by kernel_rfl) (by kernel_rfl) rfl (by kernel_rfl) (by kernel_rfl) (fun _ _ _ h => h) (by rfl) hS ?_
      simp only [Act.put, List.setIfInBounds_toArray, List.set_cons_zero, List.set_cons_succ]
      refine wpAnyB_skip' (i := 6) rfl (by kernel_rfl) (by kernel_rfl) rfl (by kernel_rfl) (by kernel_rfl) (fun _ _ _ h => h) (by rfl) hS ?_
      simp only [Act.put, List.setIfInBounds_toArray, List.set_cons_zero, List.set_cons_succ]
      refine wpAnyB_skip' (i := 7) rfl (by kernel_rfl) (by kernel_rfl) rfl (by kernel_rfl) (by kernel_rfl) (fun _ _ _ h => h) (by rfl) hS ?_
      simp only [Act.put, List.setIfInBounds_toArray, List.set_cons_zero, List.set_cons_succ]
      refine wpAnyB_skip' (i := 8) rfl (by kernel_rfl) (by kernel_rfl) rfl (by kernel_rfl) (by kernel_rfl) (fun _ _ _ h => h) (by rfl) hS ?_
      simp only [Act.put, List.setIfInBounds_toArray, List.set_cons_zero, List.set_cons_succ]
      refine wpAnyB_take' (i := 9) (v := .bool false) rfl (by kernel_rfl) (by kernel_rfl) rfl (by kernel_rfl) (by kernel_rfl) (fun _ _ _ h => h) (by rfl) hS (by intro w' hS'; obtain ⟨k1, k2⟩ := hS'; first | (go_simp; done) | (go_simp; rfl) | (go_simp; omega) | (go_simp; assumption)) ?_
      simp only [Act.put, List.setIfInBounds_toArray, List.set_cons_zero, List.set_cons_succ]
      refine wpAnyB_take' (i := 10) (v := .bool false) rfl (by kernel_rfl) (by kernel_rfl) rfl (by kernel_rfl) (by kernel_rfl) (fun _ _ _ h => h) (by rfl) hS (by intro w' hS'; obtain ⟨k1, k2⟩ := hS'; first | (go_simp; done) | (go_simp; rfl) | (go_simp; omega) | (go_simp; assumption)) ?_
      simp only [Act.put, List.setIfInBounds_toArray, List.set_cons_zero, List.set_cons_succ]
      refine wpAnyB_skip' (i := 11) rfl (by kernel_rfl) (by kernel_rfl) rfl (by kernel_rfl) (by kernel_rfl) (fun _ _ _ h => h) (by rfl) hS ?_
      simp only [Act.put, List.setIfInBounds_toArray, List.set_cons_zero, List.set_cons_succ]
      refine wpAnyB_skip' (i := 12) rfl (by kernel_rfl) (by kernel_rfl) rfl (by kernel_rfl) (by kernel_rfl) (fun _ _ _ h => h) (by rfl) hS ?_
      simp only [Act.put, List.setIfInBounds_toArray, List.set_cons_zero, List.set_cons_succ]
      refine wpAnyB_skip' (i := 13) rfl (by kernel_rfl) (by kernel_rfl) rfl (by kernel_rfl) (by kernel_rfl) (fun _ _ _ h => h) (by rfl) hS ?_
      simp only [Act.put, List.setIfInBounds_toArray, List.set_cons_zero, List.set_cons_succ]
      refine wpAnyB_skip' (i := 14) rfl (by kernel_rfl) (by kernel_rfl) rfl (by kernel_rfl) (by kernel_rfl) (fun _ _ _ h => h) (by rfl) hS ?_
      simp only [Act.put, List.setIfInBounds_toArray, List.set_cons_zero, List.set_cons_succ]
      refine wpAnyB_skip' (i := 15) rfl (by kernel_rfl) (by kernel_rfl) rfl (by kernel_rfl) (by kernel_rfl) (fun _ _ _ h => h) (by rfl) hS ?_
      simp only [Act.put, List.setIfInBounds_toArray, List.set_cons_zero, List.set_cons_succ]
      refine wpAnyB_skip' (i := 16) rfl (by kernel_rfl) (by kernel_rfl) rfl (by kernel_rfl) (by kernel_rfl) (fun _ _ _ h => h) (by rfl) hS ?_
      simp only [Act.put, List.setIfInBounds_toArray, List.set_cons_zero, List.set_cons_succ]
      refine wpAnyB_skip' (i := 17) rfl (by kernel_rfl) (by kernel_rfl) rfl (by kernel_rfl) (by kernel_rfl) (fun _ _ _ h => h) (by rfl) hS ?_
      simp only [Act.put, List.setIfInBounds_toArray, List.set_cons_zero, List.set_cons_succ]
      refine wpAnyB_skip' (i := 18) rfl (by kernel_rfl) (by kernel_rfl) rfl (by kernel_rfl) (by kernel_rfl) (fun _ _ _ h => h) (by rfl) hS ?_
      simp only [Act.put, List.setIfInBounds_toArray, List.set_cons_zero, List.set_cons_succ]
      refine wpAnyB_skip' (i := 19) rfl (by kernel_rfl) (by kernel_rfl) rfl (by kernel_rfl) (by kernel_rfl) (fun _ _ _ h => h) (by rfl) hS ?_
      simp only [Act.put, List.setIfInBounds_toArray, List.set_cons_zero, List.set_cons_succ]
      refine wpAnyB_take' (i := 20) (v := .bool false) rfl (by kernel_rfl) (by kernel_rfl) rfl (by kernel_rfl) (by kernel_rfl) (fun _ _ _ h => h) (by rfl) hS (by intro w' hS'; obtain ⟨k1, k2⟩ := hS'; first | (go_simp; done) | (go_simp; rfl) | (go_simp; omega) | (go_simp; assumption)) ?_
      simp only [Act.put, List.setIfInBounds_toArray, List.set_cons_zero, List.set_cons_succ]
      refine wpAnyB_done (by kernel_rfl) ?_ _
      go_wp2
      go_ret
      refine ⟨?_, H2⟩
      rw [cmn_eq HT.out (fun z hz => by have := (List.getElem?_eq_some_iff.1 hz.1).1; have := HE.out; omega)]
      rfl

/-- Does the one begin the other? -/
def pre (xs ys : List Int) : Bool := decide (cmn xs ys = xs.length)
set_option maxRecDepth 100000 in
theorem prefix_calls (A B : Option Addr) (c d : Nat) (xs ys : List Int) (w : World) (hx : Rd Enc.i64 w A xs) (hy : Rd Enc.i64 w B ys) (hl : xs.length ≤ 17592186043904) (hm : ys.length ≤ 17592186043904) :
    Calls Tryd.prog 9 #[.slice A xs.length c, .slice B ys.length d] w fun e w' => e = .returned (.bool (pre xs ys)) ∧ Mem w w' [] := by
  have HC := hid (common_calls A B c d xs ys w hx hy hl hm)
  clear hx hy
  obtain ⟨k, hk⟩ : ∃ k, k = cmn xs ys := ⟨_, rfl⟩
  have hb : pre xs ys = decide ((k : Int) = (xs.length : Int)) := by
    unfold pre
    rw [← hk]
    by_cases h : k = xs.length
    · rw [decide_eq_true h, decide_eq_true (by omega)]
    · rw [decide_eq_false h, decide_eq_false (by omega)]
  have HB := hid hb
  have HK := hid hk
  clear hk hb
  go_enter Tryd.func9, Tryd.ntmps9
  go_wp2_with (first | (go_at_call 23; (with_reducible refine HC.out.mono ?_); rintro e w1 ⟨rfl, H1⟩; rw [← HK.out]))
  go_ret
  refine ⟨?_, H1⟩
  rw [HB.out]
  rfl
theorem equal_calls (A B : Option Addr) (c d : Nat) (xs ys : List (Int)) (w : World) (hx : Rd Enc.i64 w A xs) (hy : Rd Enc.i64 w B ys) (hl : xs.length ≤ 17592186043904) (hm : ys.length ≤ 17592186043904) :
    Calls Tryd.prog 14 #[.slice A xs.length c, .slice B ys.length d] w fun e w' => e = .returned (.bool (decide (xs = ys))) ∧ Mem w w' [] := by
  have HX := hid hx
  have HY := hid hy
  clear hx hy
  have H0 := Mem.refl w
  go_enter Tryd.func14, Tryd.ntmps14
  by_cases hne : xs.length = ys.length
  · have h1 : ((xs.length : Int) == (ys.length : Int)) = true := by simp [hne]
    have h2 : ((xs.length : Int) != (ys.length : Int)) = false := by simp [hne]
    have HN := hid hne
    clear hne
    go_wp2
    go_loopw [13] (fun i wr => ∃ k : Nat, k ≤ xs.length ∧ i = .int .i64 k ∧ Hd (∀ j, j < k → xs[j]? = ys[j]?) ∧ Mem w wr []) (fun i _ => xs.length - (intOf i).toNat)
    case atStart => exact ⟨0, Nat.zero_le _, rfl, ⟨fun j hj => by omega⟩, H0⟩
    case round =>
      obtain ⟨k, hk, rfl, HT, H1⟩ := hrel
      by_cases hlt : k < xs.length
      · have hlt' : k < ys.length := HN.out ▸ hlt
        obtain ⟨b, o, rfl, hc⟩ := HX.out.get1 rfl (List.getElem?_eq_getElem hlt) rfl
        obtain ⟨b', o', rfl, hd⟩ := HY.out.get1 rfl (List.getElem?_eq_getElem hlt') rfl
        have hc := H1.old hc
        have hd := H1.old hd
        have g1 : decide ((k : Int) < (xs.length : Int)) = true := by simpa using hlt
        obtain ⟨x, hX⟩ : ∃ x, xs[k] = x := ⟨_, rfl⟩
        obtain ⟨y, hY⟩ : ∃ y, ys[k] = y := ⟨_, rfl⟩
        rw [hX] at hc
        rw [hY] at hd
        have HX2 := hid hX
        have HY2 := hid hY
        clear hX hY
        by_cases he : x = y
        · have h5 : (x == y) = true := by simp [he]
          have h6 : (x != y) = false := by simp [he]
          have HE := hid he
          clear he
          go_wp2
          go_quiet (fail)
          go_wp2
          go_roundw
          case rel =>
            refine ⟨k + 1, by omega, by go_num, ⟨fun j hj => ?_⟩, by first | exact H1.drewN _ | exact H1.drew⟩
            rcases Nat.lt_or_ge j k with h | h
            · exact HT.out j h
            · obtain rfl : j = k := by omega
              rw [List.getElem?_eq_getElem hlt, List.getElem?_eq_getElem hlt', HX2.out, HY2.out, HE.out]
          case measure => simp [intOf]; omega
        · have h5 : (x == y) = false := by simpa using he
          have h6 : (x != y) = true := by simpa using he
          have HE := hid he
          clear he
          go_wp2
          go_quiet (fail)
          go_wp2
          go_ret
          refine ⟨?_, by first | exact H1.drewN _ | exact H1.drew⟩
          have : ¬ xs = ys := by
            rintro rfl
            exact HE.out (HX2.out.symm.trans HY2.out)
          simp [this]
      · have g1 : decide ((k : Int) < (xs.length : Int)) = false := by simpa using hlt
        go_wp2
        go_ret
        refine ⟨?_, H1⟩
        have : xs = ys := by
          apply List.ext_getElem?
          intro j
          rcases Nat.lt_or_ge j k with h | h
          · exact HT.out j h
          · rw [List.getElem?_eq_none (by omega), List.getElem?_eq_none (by have := HN.out; omega)]
        simp [this]
  · have h1 : ((xs.length : Int) == (ys.length : Int)) = false := by simp; omega
    have h2 : ((xs.length : Int) != (ys.length : Int)) = true := by simp; omega
    have HN := hid hne
    clear hne
    go_wp2
    go_ret
    refine ⟨?_, H0⟩
    have : ¬ xs = ys := by
      rintro rfl
      exact HN.out rfl
    simp [this]

end Go.Proofs.YtjgaacpiflmljaaDoor
