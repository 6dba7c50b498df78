/- logs.all and its closures; Alike, Same. -/
import Derived.Test.YtjgaacpiflmljaaDoorLgB
namespace Go.Proofs.YtjgaacpiflmljaaDoor
open Go.RowKit
set_option linter.unusedVariables false
set_option linter.unusedSimpArgs false
set_option maxHeartbeats 2000000
theorem RdRows.row {α : Type} {E : Enc α} {w : World} {A : Option Addr} {rows : List (List α)} {hs : List Hdr} (h : RdRows E w A rows hs) {p : Nat} {r : List α} (hp : rows[p]? = some r) : ∃ b o A' c', A = some ⟨b, o, none⟩ ∧ w.cell? ⟨b, o + p, none⟩ = some (.slice A' r.length c') ∧ r.length ≤ c' ∧ Rd E w A' r := by
  obtain ⟨hd, hhd⟩ : ∃ hd, hs[p]? = some hd := ⟨_, List.getElem?_eq_getElem (by rw [h.len]; exact (List.getElem?_eq_some_iff.1 hp).1)⟩
  obtain ⟨b, o, e, hc⟩ := h.out.get1 rfl hhd rfl
  obtain ⟨h1, h2, h3⟩ := h.inn p hd r hhd hp
  refine ⟨b, o, hd.A, hd.c, e, ?_, h2, h3⟩
  rw [hc, h1]
theorem Mem.none {w0 w : World} {As : List HP} (H : Mem w0 w As) : Mem w0 w [] := by
  obtain ⟨F, hs, hF, hb⟩ := H.out
  exact ⟨fun _ => False, fun _ h => h, fun _ h => h.elim, hb⟩
/-- A function of two lists that is read as a test. -/
def Holds (fn : Nat) (hf : List Int → List Int → Bool) : Prop := ∀ (A B : Option Addr) (c d : Nat) (xs ys : List Int) (w : World), Rd Enc.i64 w A xs → Rd Enc.i64 w B ys → xs.length ≤ 2000000 → ys.length ≤ 2000000 → Calls Tryd.prog fn #[.slice A xs.length c, .slice B ys.length d] w fun e w' => e = .returned (.bool (hf xs ys)) ∧ Mem w w' []
def alikeF (x y : List Int) : Bool := pre x y || pre y x
def sameF (x y : List Int) : Bool := decide (x = y)
set_option maxRecDepth 100000 in
theorem alike1_holds : Holds 12 alikeF := by
  intro A B c d xs ys w hx hy hl hm
  have HC := hid (prefix_calls A B c d xs ys w hx hy (by omega) (by omega))
  have HD := hid (fun w' (hb : Below w.heap.size w w') => prefix_calls B A d c ys xs w' (Rd.below hy hb) (Rd.below hx hb) (by omega) (by omega))
  clear hx hy
  go_enter Tryd.func12, Tryd.ntmps12
  cases h1 : pre xs ys with
  | true =>
    have P1 := hid h1
    clear h1
    go_wp2_with (first | (go_at_call 9; (with_reducible refine HC.out.mono ?_); rintro e w1 ⟨rfl, H1⟩; rw [P1.out]))
    go_ret
    exact ⟨by unfold alikeF; rw [P1.out]; rfl, H1⟩
  | false =>
    have P1 := hid h1
    clear h1
    go_wp2_with (first
      | (go_at_call 9; (with_reducible refine HC.out.mono ?_); rintro e w1 ⟨rfl, H1⟩; rw [P1.out])
      | (go_at_call 9; (with_reducible refine (HD.out _ H1.below).mono ?_); rintro e w2 ⟨rfl, H2'⟩; have H2 := H1.call H2'; simp only [List.nil_append] at H2))
    go_ret
    exact ⟨by unfold alikeF; rw [P1.out]; rfl, H2⟩
theorem same1_holds : Holds 13 sameF := by
  intro A B c d xs ys w hx hy hl hm
  have HC := hid (equal_calls A B c d xs ys w hx hy (by omega) (by omega))
  clear hx hy
  go_enter Tryd.func13, Tryd.ntmps13
  go_wp2_with (first | (go_at_call 14; (with_reducible refine HC.out.mono ?_); rintro e w1 ⟨rfl, H1⟩))
  go_ret
  exact ⟨rfl, H1⟩

set_option maxRecDepth 100000 in
theorem all1_calls (fn : Nat) (hf : List Int → List Int → Bool) (hH : Holds fn hf) (hcf : ∀ (args : Array Value) (w : World), Sem.run Tryd.prog (callFunc fn args) w = .ok (.enter fn args) w) (a b : List (List Int)) (ha hb : List Hdr) (Aa Ab : Option Addr) (ca cb k g9 g7 g8 : Nat) (x y : List Int) (w : World) (h9 : w.cell? ⟨g9, 0, none⟩ = some (.func (.func fn) #[] #[])) (h7 : w.cell? ⟨g7, 0, none⟩ = some (.slice Aa a.length ca)) (h8 : w.cell? ⟨g8, 0, none⟩ = some (.slice Ab b.length cb))
    (hx : a[k]? = some x) (hy : b[k]? = some y) (ra : RdRows Enc.i64 w Aa a ha) (rb : RdRows Enc.i64 w Ab b hb) (hxl : x.length ≤ 2000000) (hyl : y.length ≤ 2000000) (hal : a.length ≤ 2000000) (hbl : b.length ≤ 2000000) :
    Calls Tryd.prog 25 #[I k, pt g9, pt g7, pt g8] w fun e w' => e = .returned (.bool (!hf x y)) ∧ Mem w w' [] := by
  have hka : (k : Int) < (a.length : Int) := by have := (List.getElem?_eq_some_iff.1 hx).1; omega
  have hkb : (k : Int) < (b.length : Int) := by have := (List.getElem?_eq_some_iff.1 hy).1; omega
  obtain ⟨ba, oa, A', c', rfl, ea, -, rx⟩ := ra.row hx
  obtain ⟨bb, ob, B', d', rfl, eb, -, ry⟩ := rb.row hy
  clear ra rb hx hy
  have H0 := Mem.refl w
  have HRX := hid rx
  have HRY := hid ry
  clear rx ry
  go_enter Tryd.func25, Tryd.ntmps25
  go_wp2
  refine wp_region_B (fun _ => false) (fun w' => w'.cell? ⟨g9, 0, none⟩ = some (.func (.func fn) #[] #[]) ∧ w'.cell? ⟨g7, 0, none⟩ = some (.slice (some ⟨ba, oa, none⟩) a.length ca) ∧ w'.cell? ⟨g8, 0, none⟩ = some (.slice (some ⟨bb, ob, none⟩) b.length cb) ∧ w'.cell? ⟨ba, oa + k, none⟩ = some (.slice A' x.length c') ∧ w'.cell? ⟨bb, ob + k, none⟩ = some (.slice B' y.length d')) (by kernel_rfl) ?_
  have H1 := H0.drew
  obtain ⟨w1, hw1⟩ : ∃ w1, w1 = w.drew := ⟨_, rfl⟩
  rw [← hw1] at H1 ⊢
  clear hw1
  have hS : w1.cell? ⟨g9, 0, none⟩ = some (.func (.func fn) #[] #[]) ∧ w1.cell? ⟨g7, 0, none⟩ = some (.slice (some ⟨ba, oa, none⟩) a.length ca) ∧ w1.cell? ⟨g8, 0, none⟩ = some (.slice (some ⟨bb, ob, none⟩) b.length cb) ∧ w1.cell? ⟨ba, oa + k, none⟩ = some (.slice A' x.length c') ∧ w1.cell? ⟨bb, ob + k, none⟩ = some (.slice B' y.length d') := ⟨H1.old h9, H1.old h7, H1.old h8, H1.old ea, H1.old eb⟩
  have HC := hid (hH A' B' c' d' x y w1 (Rd.below HRX.out H1.below) (Rd.below HRY.out H1.below) hxl hyl)
  refine wpAnyB_take' (i := 0) (v := .func (.func fn) #[] #[]) rfl (by kernel_rfl) (by kernel_rfl) rfl (by kernel_rfl) (by kernel_rfl) (fun _ _ _ h => h) (by rfl) hS (by intro w' hS'; obtain ⟨k1, k2, k3, k4, k5⟩ := hS'; first | (go_simp; done) | (go_simp; rfl) | (go_simp; omega) | (go_simp; assumption)) ?_
  simp only [Act.put, List.setIfInBounds_toArray, List.set_cons_zero, List.set_cons_succ]
  refine wpAnyB_take' (i := 1) (v := .slice (some ⟨ba, oa, none⟩) a.length ca) rfl (by kernel_rfl) (by kernel_rfl) rfl (by kernel_rfl) (by kernel_rfl) (fun _ _ _ h => h) (by rfl) hS (by intro w' hS'; obtain ⟨k1, k2, k3, k4, k5⟩ := hS'; first | (go_simp; done) | (go_simp; rfl) | (go_simp; omega) | (go_simp; assumption)) ?_
  simp only [Act.put, List.setIfInBounds_toArray, List.set_cons_zero, List.set_cons_succ]
  refine wpAnyB_take' (i := 2) (v := I (k : Int)) rfl (by kernel_rfl) (by kernel_rfl) rfl (by kernel_rfl) (by kernel_rfl) (fun _ _ _ h => h) (by rfl) hS (by intro w' hS'; obtain ⟨k1, k2, k3, k4, k5⟩ := hS'; first | (go_simp; done) | (go_simp; rfl) | (go_simp; omega) | (go_simp; assumption)) ?_
  simp only [Act.put, List.setIfInBounds_toArray, List.set_cons_zero, List.set_cons_succ]
  refine wpAnyB_take' (i := 3) (v := .pointer (some ⟨ba, oa + k, none⟩)) rfl (by kernel_rfl) (by kernel_rfl) rfl (by kernel_rfl) (by kernel_rfl) (fun _ _ _ h => h) (by rfl) hS (by intro w' hS'; obtain ⟨k1, k2, k3, k4, k5⟩ := hS'; first | (go_simp; done) | (go_simp; rfl) | (go_simp; omega) | (go_simp; assumption)) ?_
  simp only [Act.put, List.setIfInBounds_toArray, List.set_cons_zero, List.set_cons_succ]
  refine wpAnyB_take' (i := 4) (v := .slice A' x.length c') rfl (by kernel_rfl) (by kernel_rfl) rfl (by kernel_rfl) (by kernel_rfl) (fun _ _ _ h => h) (by rfl) hS (by intro w' hS'; obtain ⟨k1, k2, k3, k4, k5⟩ := hS'; first | (go_simp; done) | (go_simp; rfl) | (go_simp; omega) | (go_simp; assumption)) ?_
  simp only [Act.put, List.setIfInBounds_toArray, List.set_cons_zero, List.set_cons_succ]
  refine wpAnyB_take' (i := 5) (v := .slice (some ⟨bb, ob, none⟩) b.length cb) rfl (by kernel_rfl) (by kernel_rfl) rfl (by kernel_rfl) (by kernel_rfl) (fun _ _ _ h => h) (by rfl) hS (by intro w' hS'; obtain ⟨k1, k2, k3, k4, k5⟩ := hS'; first | (go_simp; done) | (go_simp; rfl) | (go_simp; omega) | (go_simp; assumption)) ?_
  simp only [Act.put, List.setIfInBounds_toArray, List.set_cons_zero, List.set_cons_succ]
  refine wpAnyB_take' (i := 6) (v := I (k : Int)) rfl (by kernel_rfl) (by kernel_rfl) rfl (by kernel_rfl) (by kernel_rfl) (fun _ _ _ h => h) (by rfl) hS (by intro w' hS'; obtain ⟨k1, k2, k3, k4, k5⟩ := hS'; first | (go_simp; done) | (go_simp; rfl) | (go_simp; omega) | (go_simp; assumption)) ?_
  simp only [Act.put, List.setIfInBounds_toArray, List.set_cons_zero, List.set_cons_succ]
  refine wpAnyB_take' (i := 7) (v := .pointer (some ⟨bb, ob + k, none⟩)) rfl (by kernel_rfl) (by kernel_rfl) rfl (by kernel_rfl) (by kernel_rfl) (fun _ _ _ h => h) (by rfl) hS (by intro w' hS'; obtain ⟨k1, k2, k3, k4, k5⟩ := hS'; first | (go_simp; done) | (go_simp; rfl) | (go_simp; omega) | (go_simp; assumption)) ?_
  simp only [Act.put, List.setIfInBounds_toArray, List.set_cons_zero, List.set_cons_succ]
  refine wpAnyB_take' (i := 8) (v := .slice B' y.length d') rfl (by kernel_rfl) (by kernel_rfl) rfl (by kernel_rfl) (by kernel_rfl) (fun _ _ _ h => h) (by rfl) hS (by intro w' hS'; obtain ⟨k1, k2, k3, k4, k5⟩ := hS'; first | (go_simp; done) | (go_simp; rfl) | (go_simp; omega) | (go_simp; assumption)) ?_
  simp only [Act.put, List.setIfInBounds_toArray, List.set_cons_zero, List.set_cons_succ]
  refine wpAnyB_call (i := 9) rfl (by kernel_rfl) (by rfl) (by first | rfl | (go_simp; done) | (go_simp; rfl) | (go_simp; exact hcf _ _)) HC.out ?_
  rintro e w2 ⟨rfl, H2'⟩
  have H2 := H1.call H2'
  simp only [List.nil_append] at H2
  clear hS H2'
  have hS : w2.cell? ⟨g9, 0, none⟩ = some (.func (.func fn) #[] #[]) ∧ w2.cell? ⟨g7, 0, none⟩ = some (.slice (some ⟨ba, oa, none⟩) a.length ca) ∧ w2.cell? ⟨g8, 0, none⟩ = some (.slice (some ⟨bb, ob, none⟩) b.length cb) ∧ w2.cell? ⟨ba, oa + k, none⟩ = some (.slice A' x.length c') ∧ w2.cell? ⟨bb, ob + k, none⟩ = some (.slice B' y.length d') := ⟨H2.old h9, H2.old h7, H2.old h8, H2.old ea, H2.old eb⟩
  refine ⟨_, rfl, fun _ => hS, ?_⟩
  simp only [Act.put, List.setIfInBounds_toArray, List.set_cons_zero, List.set_cons_succ]
  refine wpAnyB_take' (i := 10) (v := .bool (!(hf x y))) rfl (by kernel_rfl) (by kernel_rfl) rfl (by kernel_rfl) (by kernel_rfl) (fun _ _ _ h => h) (by rfl) hS (by intro w' hS'; obtain ⟨k1, k2, k3, k4, k5⟩ := hS'; first | (go_simp; done) | (go_simp; rfl) | (go_simp; omega) | (go_simp; assumption)) ?_
  simp only [Act.put, List.setIfInBounds_toArray, List.set_cons_zero, List.set_cons_succ]
  refine wpAnyB_take' (i := 11) (v := .bool (!(hf x y))) rfl (by kernel_rfl) (by kernel_rfl) rfl (by kernel_rfl) (by kernel_rfl) (fun _ _ _ h => h) (by rfl) hS (by intro w' hS'; obtain ⟨k1, k2, k3, k4, k5⟩ := hS'; first | (go_simp; done) | (go_simp; rfl) | (go_simp; omega) | (go_simp; assumption)) ?_
  simp only [Act.put, List.setIfInBounds_toArray, List.set_cons_zero, List.set_cons_succ]
  refine wpAnyB_done (by kernel_rfl) ?_ _
  go_wp2
  go_ret
  exact ⟨rfl, H2⟩
end Go.Proofs.YtjgaacpiflmljaaDoor
