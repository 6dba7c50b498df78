/- Rows of rows: one is taken out, and put back (for seats without iterators). -/
import Derived.Test.YtjgaacpiflmljaaDoorLib
namespace Go.Proofs.YtjgaacpiflmljaaDoor
open Go.RowKit
set_option linter.unusedVariables false

theorem Star.split : ∀ {Cs Fs : List HP} {F : Nat → Prop} {w : World}, Star (Cs ++ Fs) F w → ∃ F1 F2, (∀ k, F k ↔ F1 k ∨ F2 k) ∧ (∀ k, F1 k → F2 k → False) ∧ Star Cs F1 w ∧ Star Fs F2 w
  | [], Fs, F, w, h => ⟨fun _ => False, F, fun k => by simp, fun _ h => h.elim, fun _ h => h, h⟩
  | C :: Cs, Fs, F, w, ⟨G1, G2, he, hd, hc, hs⟩ => by
    obtain ⟨F1, F2, he', hd', h1, h2⟩ := Star.split hs
    refine ⟨fun k => G1 k ∨ F1 k, F2, fun k => ?_, fun k h3 h4 => ?_, ⟨G1, F1, fun _ => Iff.rfl, fun k h3 h4 => hd k h3 ((he' k).2 (.inl h4)), hc, h1⟩, h2⟩
    · rw [he k, he' k, or_assoc]
    · rcases h3 with h3 | h3
      · exact hd k h3 ((he' k).2 (.inr h4))
      · exact hd' k h3 h4

/-- .. and these bear one of these tags. -/
def HP.tagged (Ts : List TypeId) (A : HP) : Prop := ∀ (F : Nat → Prop) (w : World), A.P F w → ∀ k, F k → ∃ c T z, T ∈ Ts ∧ w.heap[k]? = some (.cells c T z)
theorem Mem.stars_out {w0 w : World} {L As : List HP} (H : Mem w0 w (HP.stars L :: As)) : Mem w0 w (L ++ As) := by
  obtain ⟨F, ⟨F1, F2, he, hd, hL, hs⟩, hF, hb⟩ := H.out
  refine ⟨fun k => F1 k ∨ F2 k, Star.append hL hs hd, fun k hk => hF k ((he k).2 hk), hb⟩
theorem Mem.stars_in {w0 w : World} {L As : List HP} (H : Mem w0 w (L ++ As)) : Mem w0 w (HP.stars L :: As) := by
  obtain ⟨F, hs, hF, hb⟩ := H.out
  obtain ⟨F1, F2, he, hd, h1, h2⟩ := hs.split
  exact ⟨F, ⟨F1, F2, he, hd, h1, h2⟩, hF, hb⟩
theorem perm_out {α : Type} (X : α) (As : List α) : ∀ {L : List α} {k : Nat} {B : α}, L[k]? = some B → (L ++ X :: As).Perm (B :: (L.set k X ++ As))
  | [], k, B, h => by simp at h
  | C :: L, 0, B, h => by
    obtain rfl : C = B := by simpa using h
    exact List.Perm.cons _ List.perm_middle
  | C :: L, k + 1, B, h => by
    have ih := perm_out X As (L := L) (k := k) (B := B) (by simpa using h)
    exact (List.Perm.cons C ih).trans (List.Perm.swap _ _ _)

section
variable {α : Type} {E : Enc α} {w0 w : World} {As : List HP} {T : TypeId} {hs : List Hdr} {rows : List (List α)}
theorem Mem.rows_out (H : Mem w0 w (rowsP E T hs rows :: As)) {k : Nat} {hd : Hdr} {r : List α} (hk : hs[k]? = some hd) (hr : rows[k]? = some r) :
    Mem w0 w (own E T hd.A hd.c r :: rowsP E T (hs.set k ⟨none, 0, 0⟩) (rows.set k []) :: As) := by
  have H1 : Mem w0 w (own E T none 0 [] :: rowsP E T hs rows :: As) := H.nilrow T E.sz
  have H2 := (H1.perm (List.Perm.swap _ _ _)).stars_out
  have H3 := H2.perm (perm_out _ As (rows_zip (E := E) (T := T) hk hr))
  rw [← zipWith_set (fun (h : Hdr) (r : List α) => own E T h.A h.c r) hs rows k ⟨none, 0, 0⟩ []] at H3
  exact ((H3.perm List.perm_middle.symm).stars_in).perm (List.Perm.swap _ _ _)
theorem Mem.rows_in {A : Option Addr} {c : Nat} {r : List α} (H : Mem w0 w (own E T A c r :: rowsP E T hs rows :: As)) {k : Nat} (hk : hs[k]? = some ⟨none, 0, 0⟩) (hr : rows[k]? = some []) :
    Mem w0 w (rowsP E T (hs.set k ⟨A, r.length, c⟩) (rows.set k r) :: As) := by
  have H2 := (H.perm (List.Perm.swap _ _ _)).stars_out
  have H3 := (H2.perm (perm_out _ As (rows_zip (E := E) (T := T) hk hr))).drop 0
  simp only [List.eraseIdx_cons_zero] at H3
  rw [← zipWith_set (fun (h : Hdr) (r : List α) => own E T h.A h.c r) hs rows k ⟨A, r.length, c⟩ r] at H3
  exact H3.stars_in
theorem Mem.rows_blank (H : Mem w0 w As) (E : Enc α) (T : TypeId) (k : Nat) : Mem w0 w (rowsP E T (List.replicate k (⟨none, 0, 0⟩ : Hdr)) (List.replicate k []) :: As) := by
  induction k with
  | zero => exact H.rows_nil E T
  | succ k ih =>
    have h1 : Mem w0 w (own E T none 0 [] :: rowsP E T (List.replicate k (⟨none, 0, 0⟩ : Hdr)) (List.replicate k []) :: As) := ih.nilrow T E.sz
    have h2 := h1.rows_push (by simp)
    rw [List.replicate_succ', List.replicate_succ']
    exact h2
end
end Go.Proofs.YtjgaacpiflmljaaDoor
