/- logs.Seen, logs.Common. -/
import Derived.Test.YtjgaacpiflmljaaDoorLgD
import Derived.Test.YtjgaacpiflmljaaDoorLgIn
namespace Go.Proofs.YtjgaacpiflmljaaDoor
open Go.RowKit
set_option linter.unusedVariables false
set_option linter.unusedSimpArgs false
set_option maxHeartbeats 2000000
theorem Rd.takeR {α : Type} {E : Enc α} {w : World} {A : Option Addr} {xs : List α} (h : Rd E w A xs) (k : Nat) : Rd E w A (xs.take k) := by
  rcases Nat.le_total k xs.length with hk | hk
  · have h1 := RdC.take h hk
    rw [E.all_take] at h1
    unfold Rd
    rw [List.length_take, Nat.min_eq_left hk]
    exact h1
  · rw [List.take_of_length_le hk]; exact h
/-- A table that is answered: rows in memory of their own. -/
def Tab2 (n : Nat) (tab : List (List Int)) (w : World) (e : Ending) (w' : World) : Prop :=
  ∃ A hs, e = .returned (.slice A n n) ∧ Hd (hs.length = n ∧ ∀ (k : Nat) (hd : Hdr) (r : List Int), hs[k]? = some hd → tab[k]? = some r → hd.n = r.length) ∧ Mem w w' [rowsP Enc.i64 2 hs tab, own Enc.hdr 34 A n hs]
/-- Rows that are filled one after the other. -/
def fillT (n : Nat) (f : Nat → List Int) (d : Nat → Bool) : List (List Int) := (List.range n).map fun k => if d k then f k else []
theorem fillT_get {n : Nat} {f : Nat → List Int} {d : Nat → Bool} {k : Nat} (hk : k < n) : (fillT n f d)[k]? = some (if d k then f k else []) := by
  unfold fillT
  rw [List.getElem?_map, List.getElem?_range hk]
  rfl
theorem fillT_len (n : Nat) (f : Nat → List Int) (d : Nat → Bool) : (fillT n f d).length = n := by simp [fillT]
theorem fillT_set {n : Nat} {f : Nat → List Int} {d : Nat → Bool} {k : Nat} (hk : k < n) : (fillT n f d).set k (f k) = fillT n f (fun j => d j || j == k) := by
  apply List.ext_getElem?
  intro j
  by_cases hj : j < n
  · rw [fillT_get hj]
    by_cases e : k = j
    · subst e
      rw [List.getElem?_set_self (by rw [fillT_len]; exact hk)]
      simp
    · rw [List.getElem?_set_ne e, fillT_get hj]
      have : (j == k) = false := by simpa using Ne.symm e
      simp [this]
  · rw [List.getElem?_eq_none (by simp [fillT_len]; omega), List.getElem?_eq_none (by rw [fillT_len]; omega)]
theorem fillT_none (n : Nat) (f : Nat → List Int) {d : Nat → Bool} (h : ∀ k, k < n → d k = false) : fillT n f d = List.replicate n [] := by
  unfold fillT
  apply List.ext_getElem?
  intro j
  by_cases hj : j < n
  · rw [List.getElem?_map, List.getElem?_range hj, List.getElem?_replicate, if_pos hj]
    simp [h j hj]
  · rw [List.getElem?_eq_none (by simp; omega), List.getElem?_eq_none (by simp; omega)]
theorem fillT_congr {n : Nat} {f : Nat → List Int} {d d' : Nat → Bool} (h : ∀ k, k < n → d k = d' k) : fillT n f d = fillT n f d' := by
  unfold fillT
  apply List.map_congr_left
  intro k hk
  rw [h k (by simpa using hk)]
/-- The headers fit, and what is not filled is blank. -/
def FitG (n : Nat) (gs : List Hdr) (f : Nat → List Int) (d : Nat → Bool) : Prop := gs.length = n ∧ (∀ (k : Nat) (hd : Hdr) (r : List Int), gs[k]? = some hd → (fillT n f d)[k]? = some r → hd.n = r.length) ∧ ∀ k, k < n → d k = false → gs[k]? = some ⟨none, 0, 0⟩
theorem FitG.start (n : Nat) (f : Nat → List Int) {d : Nat → Bool} (h : ∀ k, k < n → d k = false) : FitG n (List.replicate n ⟨none, 0, 0⟩) f d := by
  refine ⟨by simp, fun k hd r h1 h2 => ?_, fun k hk _ => by rw [List.getElem?_replicate, if_pos hk]⟩
  rw [fillT_none n f h] at h2
  rw [List.getElem?_replicate] at h1 h2
  by_cases hk : k < n
  · rw [if_pos hk] at h1 h2
    obtain rfl := Option.some.inj h1
    obtain rfl := Option.some.inj h2
    rfl
  · rw [if_neg hk] at h1; cases h1
theorem FitG.set {n : Nat} {gs : List Hdr} {f : Nat → List Int} {d : Nat → Bool} (h : FitG n gs f d) {k : Nat} (hk : k < n) (A : Option Addr) (c : Nat) : FitG n (gs.set k ⟨A, (f k).length, c⟩) f (fun j => d j || j == k) := by
  refine ⟨by rw [List.length_set]; exact h.1, fun j hd r h1 h2 => ?_, fun j hj hd => ?_⟩
  · rw [← fillT_set hk] at h2
    by_cases e : k = j
    · subst e
      rw [List.getElem?_set_self (by rw [h.1]; exact hk)] at h1
      rw [List.getElem?_set_self (by rw [fillT_len]; exact hk)] at h2
      obtain rfl := Option.some.inj h1
      obtain rfl := Option.some.inj h2
      rfl
    · rw [List.getElem?_set_ne e] at h1 h2
      exact h.2.1 j hd r h1 h2
  · obtain ⟨h1, h2⟩ := Bool.or_eq_false_iff.1 hd
    rw [List.getElem?_set_ne (by intro e; rw [e] at h2; simp at h2)]
    exact h.2.2 j hj h1

set_option maxRecDepth 100000 in
theorem common8_calls (a b : List (List Int)) (ha hb : List Hdr) (Aa Ab : Option Addr) (ca cb n : Nat) (w : World) (ra : RdRows Enc.i64 w Aa a ha) (rb : RdRows Enc.i64 w Ab b hb) (la : a.length = n) (lb : b.length = n) (hn : n ≤ 2000000) (sa : ∀ r ∈ a, r.length ≤ 2000000) (sb : ∀ r ∈ b, r.length ≤ 2000000) (f : Nat → List Int) (hf : ∀ (k : Nat) (x y : List Int), a[k]? = some x → b[k]? = some y → f k = x.take (cmn x y)) :
    Calls Tryd.prog 8 #[.slice Aa a.length ca, .slice Ab b.length cb] w (Tab2 n (fillT n f (fun _ => true)) w) := by
  have RA := hid ra
  have RB := hid rb
  have SA := hid sa
  have SB := hid sb
  have LA := hid la
  have LB := hid lb
  have hla : (a.length : Int) = (n : Int) := by rw [la]
  have hlb : (b.length : Int) = (n : Int) := by rw [lb]
  have HF := hid hf
  clear ra rb sa sb la lb hf
  have H0 := Mem.refl w
  go_enter Tryd.func8, Tryd.ntmps8
  go_wp2_with (first | ((with_reducible refine at_mk ?_); refine wpList_make_own (E := Enc.hdr) elt_i64s H0 n (⟨none, 0, 0⟩ : Hdr) rfl rfl rfl rfl rfl (by unfold maxLen; omega) (by omega) ?_; intro gH1 wH1 H1))
  have H2 := H1.rows_blank Enc.i64 2 n
  rw [← fillT_none n f (d := fun j => decide (j < 0)) (fun k _ => by simp)] at H2
  have HG0 : Hd (FitG n (List.replicate n ⟨none, 0, 0⟩) f (fun j => decide (j < 0))) := ⟨FitG.start n f fun k _ => by simp⟩
  obtain ⟨gH, hgH⟩ : ∃ gH, gH = gH1 := ⟨_, rfl⟩
  rw [← hgH] at H2 ⊢
  clear H1 H0 hgH
  go_loopw [15] (fun v wr => ∃ (k : Nat) (gs : List Hdr), v = .int .i64 k ∧ k ≤ n ∧ Hd (FitG n gs f (fun j => decide (j < k))) ∧ Mem w wr [rowsP Enc.i64 2 gs (fillT n f (fun j => decide (j < k))), own Enc.hdr 34 (some ⟨gH, 0, none⟩) n gs]) (fun v _ => n - (intOf v).toNat)
  case atStart => exact ⟨0, _, rfl, Nat.zero_le _, HG0, H2⟩
  case round =>
    clear H2 HG0
    obtain ⟨k, gs, rfl, hk, HG, H2⟩ := hrel
    obtain ⟨wo, rfl⟩ : ∃ wo : World, wo = wr := ⟨_, rfl⟩
    by_cases hlt : k < n
    · obtain ⟨x, hx⟩ : ∃ x, a[k]? = some x := ⟨_, List.getElem?_eq_getElem (by rw [LA.out]; exact hlt)⟩
      obtain ⟨y, hy⟩ : ∃ y, b[k]? = some y := ⟨_, List.getElem?_eq_getElem (by rw [LB.out]; exact hlt)⟩
      obtain ⟨ba, oa, A', c', rfl, ea, lx, rx⟩ := RA.out.row hx
      obtain ⟨bb, ob, B', d', rfl, eb, ly, ry⟩ := RB.out.row hy
      have hxl := SA.out x (List.mem_of_getElem? hx)
      have hyl := SB.out y (List.mem_of_getElem? hy)
      have hm : f k = x.take (cmn x y) := HF.out k x y hx hy
      have HRX := hid rx
      have HRY := hid ry
      have HX := hid hx
      have HY := hid hy
      have hml := (cmn_le x y).1
      have HML := hid (cmn_le x y)
      obtain ⟨m, hmm⟩ : ∃ m, m = cmn x y := ⟨_, rfl⟩
      rw [← hmm] at hm hml
      have HMM := hid hmm
      have HM := hid hm
      have hmx : (x.take m).length = m := by rw [List.length_take]; omega
      have HMX := hid hmx
      have hkn : (k : Int) < (n : Int) := by omega
      have hka : (k : Int) < (a.length : Int) := by rw [hla]; exact hkn
      have hkb : (k : Int) < (b.length : Int) := by rw [hlb]; exact hkn
      have hmc : m ≤ c' := by omega
      have HCL : Hd (∀ w', Below w.heap.size w w' → Calls Tryd.prog 22 #[.slice A' m c'] w' fun e w'' => ∃ A6 c6, e = .returned (.slice A6 m c6) ∧ m ≤ c6 ∧ c6 ≤ 9223372036854775807 ∧ Mem w' w'' [own Enc.i64 2 A6 c6 (x.take m)]) := ⟨fun w' hb => by
        have := clone64_calls A' c' (x.take m) w' (Rd.below (Rd.takeR HRX.out m) hb) (by rw [List.length_take]; omega)
        rw [hmx] at this
        exact this⟩
      clear hx hy rx ry hmm hm hmx
      go_wp2
      refine wp_region_B (fun i => i == 19) (fun w' => w'.cell? ⟨ba, oa + k, none⟩ = some (.slice A' x.length c') ∧ w'.cell? ⟨bb, ob + k, none⟩ = some (.slice B' y.length d')) (by kernel_rfl) ?_
      have H3 := H2.drew
      obtain ⟨w1, hw1⟩ : ∃ w1, w1 = wo.drew := ⟨_, rfl⟩
      rw [← hw1] at H3 ⊢
      clear hw1
      have hS : w1.cell? ⟨ba, oa + k, none⟩ = some (.slice A' x.length c') ∧ w1.cell? ⟨bb, ob + k, none⟩ = some (.slice B' y.length d') := ⟨H3.old ea, H3.old eb⟩
      refine wpAnyB_take' (i := 0) (v := .slice (some ⟨gH, 0, none⟩) n n) rfl (by kernel_rfl) (by kernel_rfl) rfl (by kernel_rfl) (by kernel_rfl) (fun _ _ _ h => h) (by rfl) hS (by intro w' hS'; obtain ⟨k1, k2⟩ := hS'; first | (go_simp; done) | (go_simp; rfl) | (go_simp; omega) | (go_simp; assumption)) ?_
      simp only [Act.put, List.setIfInBounds_toArray, List.set_cons_zero, List.set_cons_succ]
      refine wpAnyB_take' (i := 1) (v := I (k : Int)) rfl (by kernel_rfl) (by kernel_rfl) rfl (by kernel_rfl) (by kernel_rfl) (fun _ _ _ h => h) (by rfl) hS (by intro w' hS'; obtain ⟨k1, k2⟩ := hS'; first | (go_simp; done) | (go_simp; rfl) | (go_simp; omega) | (go_simp; assumption)) ?_
      simp only [Act.put, List.setIfInBounds_toArray, List.set_cons_zero, List.set_cons_succ]
      refine wpAnyB_take' (i := 2) (v := .slice (some ⟨ba, oa, none⟩) a.length ca) rfl (by kernel_rfl) (by kernel_rfl) rfl (by kernel_rfl) (by kernel_rfl) (fun _ _ _ h => h) (by rfl) hS (by intro w' hS'; obtain ⟨k1, k2⟩ := hS'; first | (go_simp; done) | (go_simp; rfl) | (go_simp; omega) | (go_simp; assumption)) ?_
      simp only [Act.put, List.setIfInBounds_toArray, List.set_cons_zero, List.set_cons_succ]
      refine wpAnyB_take' (i := 3) (v := I (k : Int)) rfl (by kernel_rfl) (by kernel_rfl) rfl (by kernel_rfl) (by kernel_rfl) (fun _ _ _ h => h) (by rfl) hS (by intro w' hS'; obtain ⟨k1, k2⟩ := hS'; first | (go_simp; done) | (go_simp; rfl) | (go_simp; omega) | (go_simp; assumption)) ?_
      simp only [Act.put, List.setIfInBounds_toArray, List.set_cons_zero, List.set_cons_succ]
      refine wpAnyB_take' (i := 4) (v := .pointer (some ⟨ba, oa + k, none⟩)) rfl (by kernel_rfl) (by kernel_rfl) rfl (by kernel_rfl) (by kernel_rfl) (fun _ _ _ h => h) (by rfl) hS (by intro w' hS'; obtain ⟨k1, k2⟩ := hS'; first | (go_simp; done) | (go_simp; rfl) | (go_simp; omega) | (go_simp; assumption)) ?_
      simp only [Act.put, List.setIfInBounds_toArray, List.set_cons_zero, List.set_cons_succ]
      refine wpAnyB_take' (i := 5) (v := .slice A' x.length c') rfl (by kernel_rfl) (by kernel_rfl) rfl (by kernel_rfl) (by kernel_rfl) (fun _ _ _ h => h) (by rfl) hS (by intro w' hS'; obtain ⟨k1, k2⟩ := hS'; first | (go_simp; done) | (go_simp; rfl) | (go_simp; omega) | (go_simp; assumption)) ?_
      simp only [Act.put, List.setIfInBounds_toArray, List.set_cons_zero, List.set_cons_succ]
      refine wpAnyB_take' (i := 6) (v := .slice (some ⟨ba, oa, none⟩) a.length ca) rfl (by kernel_rfl) (by kernel_rfl) rfl (by kernel_rfl) (by kernel_rfl) (fun _ _ _ h => h) (by rfl) hS (by intro w' hS'; obtain ⟨k1, k2⟩ := hS'; first | (go_simp; done) | (go_simp; rfl) | (go_simp; omega) | (go_simp; assumption)) ?_
      simp only [Act.put, List.setIfInBounds_toArray, List.set_cons_zero, List.set_cons_succ]
      refine wpAnyB_take' (i := 7) (v := I (k : Int)) rfl (by kernel_rfl) (by kernel_rfl) rfl (by kernel_rfl) (by kernel_rfl) (fun _ _ _ h => h) (by rfl) hS (by intro w' hS'; obtain ⟨k1, k2⟩ := hS'; first | (go_simp; done) | (go_simp; rfl) | (go_simp; omega) | (go_simp; assumption)) ?_
      simp only [Act.put, List.setIfInBounds_toArray, List.set_cons_zero, List.set_cons_succ]
      refine wpAnyB_take' (i := 8) (v := .pointer (some ⟨ba, oa + k, none⟩)) rfl (by kernel_rfl) (by kernel_rfl) rfl (by kernel_rfl) (by kernel_rfl) (fun _ _ _ h => h) (by rfl) hS (by intro w' hS'; obtain ⟨k1, k2⟩ := hS'; first | (go_simp; done) | (go_simp; rfl) | (go_simp; omega) | (go_simp; assumption)) ?_
      simp only [Act.put, List.setIfInBounds_toArray, List.set_cons_zero, List.set_cons_succ]
      refine wpAnyB_take' (i := 9) (v := .slice A' x.length c') rfl (by kernel_rfl) (by kernel_rfl) rfl (by kernel_rfl) (by kernel_rfl) (fun _ _ _ h => h) (by rfl) hS (by intro w' hS'; obtain ⟨k1, k2⟩ := hS'; first | (go_simp; done) | (go_simp; rfl) | (go_simp; omega) | (go_simp; assumption)) ?_
      simp only [Act.put, List.setIfInBounds_toArray, List.set_cons_zero, List.set_cons_succ]
      refine wpAnyB_take' (i := 10) (v := .slice (some ⟨bb, ob, none⟩) b.length cb) rfl (by kernel_rfl) (by kernel_rfl) rfl (by kernel_rfl) (by kernel_rfl) (fun _ _ _ h => h) (by rfl) hS (by intro w' hS'; obtain ⟨k1, k2⟩ := hS'; first | (go_simp; done) | (go_simp; rfl) | (go_simp; omega) | (go_simp; assumption)) ?_
      simp only [Act.put, List.setIfInBounds_toArray, List.set_cons_zero, List.set_cons_succ]
      refine wpAnyB_take' (i := 11) (v := I (k : Int)) rfl (by kernel_rfl) (by kernel_rfl) rfl (by kernel_rfl) (by kernel_rfl) (fun _ _ _ h => h) (by rfl) hS (by intro w' hS'; obtain ⟨k1, k2⟩ := hS'; first | (go_simp; done) | (go_simp; rfl) | (go_simp; omega) | (go_simp; assumption)) ?_
      simp only [Act.put, List.setIfInBounds_toArray, List.set_cons_zero, List.set_cons_succ]
      refine wpAnyB_take' (i := 12) (v := .pointer (some ⟨bb, ob + k, none⟩)) rfl (by kernel_rfl) (by kernel_rfl) rfl (by kernel_rfl) (by kernel_rfl) (fun _ _ _ h => h) (by rfl) hS (by intro w' hS'; obtain ⟨k1, k2⟩ := hS'; first | (go_simp; done) | (go_simp; rfl) | (go_simp; omega) | (go_simp; assumption)) ?_
      simp only [Act.put, List.setIfInBounds_toArray, List.set_cons_zero, List.set_cons_succ]
      refine wpAnyB_take' (i := 13) (v := .slice B' y.length d') rfl (by kernel_rfl) (by kernel_rfl) rfl (by kernel_rfl) (by kernel_rfl) (fun _ _ _ h => h) (by rfl) hS (by intro w' hS'; obtain ⟨k1, k2⟩ := hS'; first | (go_simp; done) | (go_simp; rfl) | (go_simp; omega) | (go_simp; assumption)) ?_
      simp only [Act.put, List.setIfInBounds_toArray, List.set_cons_zero, List.set_cons_succ]
      refine wpAnyB_call (i := 14) rfl (by kernel_rfl) (by rfl) (by first | rfl | (go_simp; done) | (go_simp; rfl)) (common_calls A' B' c' d' x y w1 (Rd.below HRX.out H3.below) (Rd.below HRY.out H3.below) (by omega) (by omega)) ?_
      rintro e w2 ⟨rfl, H4'⟩
      rw [← HMM.out]
      have H4 := H3.call H4'
      simp only [List.nil_append] at H4
      clear hS
      have hS : w2.cell? ⟨ba, oa + k, none⟩ = some (.slice A' x.length c') ∧ w2.cell? ⟨bb, ob + k, none⟩ = some (.slice B' y.length d') := ⟨H4.old ea, H4.old eb⟩
      refine ⟨_, rfl, fun _ => hS, ?_⟩
      simp only [Act.put, List.setIfInBounds_toArray, List.set_cons_zero, List.set_cons_succ]
      refine wpAnyB_take' (i := 15) (v := .slice A' m c') rfl (by kernel_rfl) (by kernel_rfl) rfl (by kernel_rfl) (by kernel_rfl) (fun _ _ _ h => h) (by rfl) hS (by intro w' hS'; obtain ⟨k1, k2⟩ := hS'; first | (go_simp; done) | (go_simp; rfl) | (go_simp; omega) | (go_simp; assumption)) ?_
      simp only [Act.put, List.setIfInBounds_toArray, List.set_cons_zero, List.set_cons_succ]
      refine wpAnyB_call (i := 16) rfl (by kernel_rfl) (by rfl) (by first | rfl | (go_simp; done) | (go_simp; rfl)) (HCL.out w2 H4.below) ?_
      rintro e w3 ⟨A6, c6, rfl, h6, h7, H5'⟩
      have H5 := H4.call H5'
      simp only [List.cons_append, List.nil_append] at H5
      clear hS
      have hS : w3.cell? ⟨ba, oa + k, none⟩ = some (.slice A' x.length c') ∧ w3.cell? ⟨bb, ob + k, none⟩ = some (.slice B' y.length d') := ⟨H5.old ea, H5.old eb⟩
      refine ⟨_, rfl, fun _ => hS, ?_⟩
      simp only [Act.put, List.setIfInBounds_toArray, List.set_cons_zero, List.set_cons_succ]
      refine wpAnyB_call (i := 17) rfl (by kernel_rfl) (by rfl) (by first | rfl | (go_simp; done) | (go_simp; rfl)) (clip64_calls A6 c6 m w3 h6 h7) ?_
      rintro e w4 ⟨rfl, rfl⟩
      clear hS
      have hS : w4.cell? ⟨ba, oa + k, none⟩ = some (.slice A' x.length c') ∧ w4.cell? ⟨bb, ob + k, none⟩ = some (.slice B' y.length d') := ⟨H5.old ea, H5.old eb⟩
      refine ⟨_, rfl, fun _ => hS, ?_⟩
      simp only [Act.put, List.setIfInBounds_toArray, List.set_cons_zero, List.set_cons_succ]
      refine wpAnyB_take' (i := 18) (v := .pointer (some ⟨gH, k, none⟩)) rfl (by kernel_rfl) (by kernel_rfl) rfl (by kernel_rfl) (by kernel_rfl) (fun _ _ _ h => h) (by rfl) hS (by intro w' hS'; obtain ⟨k1, k2⟩ := hS'; first | (go_simp; done) | (go_simp; rfl) | (go_simp; omega) | (go_simp; assumption)) ?_
      simp only [Act.put, List.setIfInBounds_toArray, List.set_cons_zero, List.set_cons_succ]
      refine wpAnyB_one' (i := 19) rfl (by kernel_rfl) ?_
      refine wpList_store_own H5 2 k (⟨A6, m, m⟩ : Hdr) rfl rfl (by omega) rfl rfl (by kernel_rfl) (by have := HG.out.1; omega) ?_
      intro w5 H6
      simp only [List.set_cons_zero, List.set_cons_succ] at H6
      refine And.intro (fun h => by cases h) ?_
      refine wpAnyB_done (by kernel_rfl) ?_ _
      go_wp2
      go_roundw
      case rel =>
        have H7 := (H6.row_clip 0 rfl).rows_in (r := x.take m) (k := k) (HG.out.2.2 k hlt (by simp)) (by rw [fillT_get hlt]; simp)
        rw [← HM.out, fillT_set hlt] at H7
        have hfl : (f k).length = m := by rw [HM.out, HMX.out]
        have hd : fillT n f (fun j => decide (j < k) || j == k) = fillT n f (fun j => decide (j < k + 1)) := fillT_congr fun j _ => by
          by_cases h1 : j < k
          · rw [decide_eq_true h1, decide_eq_true (by omega : j < k + 1)]; rfl
          · by_cases h2 : j = k
            · subst h2; simp
            · rw [decide_eq_false h1, decide_eq_false (by omega : ¬ j < k + 1)]; simp [h2]
        have HS := HG.out.set (k := k) hlt A6 m
        rw [hfl] at HS H7
        rw [hd] at H7
        refine ⟨k + 1, gs.set k ⟨A6, m, m⟩, by go_num, by omega, ⟨?_⟩, H7⟩
        obtain ⟨s1, s2, s3⟩ := HS
        rw [hd] at s2
        exact ⟨s1, s2, fun j hj hdj => s3 j hj (by
          have h0 : ¬ j < k + 1 := by simpa using hdj
          have h1 : ¬ j < k := by omega
          have h2 : j ≠ k := by omega
          simp [h1, h2])⟩
      case measure => first | (simp [intOf]; done) | (simp [intOf]; omega)
    · obtain rfl : k = n := by omega
      have hd : fillT k f (fun j => decide (j < k)) = fillT k f (fun _ => true) := fillT_congr fun j hj => by simp [hj]
      go_wp2
      go_ret
      rw [hd] at H2
      exact ⟨_, gs, rfl, ⟨HG.out.1, fun j hd' r h1 h2 => HG.out.2.1 j hd' r h1 (by rw [hd]; exact h2)⟩, H2⟩
end Go.Proofs.YtjgaacpiflmljaaDoor
