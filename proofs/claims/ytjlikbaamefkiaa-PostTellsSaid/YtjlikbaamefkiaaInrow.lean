/- Rows of rows: one is taken out, and put back. -/
import Derived.Test.YtjlikbaamefkiaaIter
namespace Go.Proofs.Ytjlikbaamefkiaa
open Go.RowKit
set_option linter.unusedVariables false

theorem Mem.stars_out {w0 w : World} {L As : List HP} (H : Mem w0 w (HP.stars L :: As)) : Mem w0 w (L ++ As) := by
  obtain ⟨F, ⟨F1, F2, he, hd, hL, hs⟩, hF, hb⟩ := H.out
  refine ⟨fun k => F1 k ∨ F2 k, Star.append hL hs hd, fun k hk => hF k ((he k).2 hk), hb⟩
theorem Mem.stars_in {w0 w : World} {L As : List HP} (H : Mem w0 w (L ++ As)) : Mem w0 w (HP.stars L :: As) := by
  obtain ⟨F, hs, hF, hb⟩ := H.out
  obtain ⟨F1, F2, he, hd, h1, h2⟩ := hs.split
  exact ⟨F, ⟨F1, F2, he, hd, h1, h2⟩, hF, hb⟩
theorem perm_out {α : Type} (X : α) (As : List α) : ∀ {L : List α} {k : Nat} {B : α}, L[k]? = some B → (L ++ X :: As).Perm (B :: (L.set k X ++ As))
  | [], k, B, h => by simp at h
  | C :: L, 0, B, h => by
    obtain rfl : C = B := by simpa using h
    exact List.Perm.cons _ List.perm_middle
  | C :: L, k + 1, B, h => by
    have ih := perm_out X As (L := L) (k := k) (B := B) (by simpa using h)
    exact (List.Perm.cons C ih).trans (List.Perm.swap _ _ _)

section
variable {α : Type} {E : Enc α} {w0 w : World} {As : List HP} {T : TypeId} {hs : List Hdr} {rows : List (List α)}
theorem Mem.rows_out (H : Mem w0 w (rowsP E T hs rows :: As)) {k : Nat} {hd : Hdr} {r : List α} (hk : hs[k]? = some hd) (hr : rows[k]? = some r) :
    Mem w0 w (own E T hd.A hd.c r :: rowsP E T (hs.set k ⟨none, 0, 0⟩) (rows.set k []) :: As) := by
  have H1 : Mem w0 w (own E T none 0 [] :: rowsP E T hs rows :: As) := H.nilrow T E.sz
  have H2 := (H1.perm (List.Perm.swap _ _ _)).stars_out
  have H3 := H2.perm (perm_out _ As (rows_zip (E := E) (T := T) hk hr))
  rw [← zipWith_set (fun (h : Hdr) (r : List α) => own E T h.A h.c r) hs rows k ⟨none, 0, 0⟩ []] at H3
  exact ((H3.perm List.perm_middle.symm).stars_in).perm (List.Perm.swap _ _ _)
theorem Mem.rows_in {A : Option Addr} {c : Nat} {r : List α} (H : Mem w0 w (own E T A c r :: rowsP E T hs rows :: As)) {k : Nat} (hk : hs[k]? = some ⟨none, 0, 0⟩) (hr : rows[k]? = some []) :
    Mem w0 w (rowsP E T (hs.set k ⟨A, r.length, c⟩) (rows.set k r) :: As) := by
  have H2 := (H.perm (List.Perm.swap _ _ _)).stars_out
  have H3 := (H2.perm (perm_out _ As (rows_zip (E := E) (T := T) hk hr))).drop 0
  simp only [List.eraseIdx_cons_zero] at H3
  rw [← zipWith_set (fun (h : Hdr) (r : List α) => own E T h.A h.c r) hs rows k ⟨A, r.length, c⟩ r] at H3
  exact H3.stars_in
theorem Mem.rows_blank (H : Mem w0 w As) (E : Enc α) (T : TypeId) (k : Nat) : Mem w0 w (rowsP E T (List.replicate k (⟨none, 0, 0⟩ : Hdr)) (List.replicate k []) :: As) := by
  induction k with
  | zero => exact H.rows_nil E T
  | succ k ih =>
    have h1 : Mem w0 w (own E T none 0 [] :: rowsP E T (List.replicate k (⟨none, 0, 0⟩ : Hdr)) (List.replicate k []) :: As) := ih.nilrow T E.sz
    have h2 := h1.rows_push (by simp)
    rw [List.replicate_succ', List.replicate_succ']
    exact h2
end

/-- The rows that the edges make: who goes to b; where a goes. -/
def backR (n : Nat) (es : List (Nat × Nat)) : List (List Int) := (List.range (n + 1)).map fun b => ints ((es.filter fun x => x.2 == b).map (·.1))
def nextR (n : Nat) (es : List (Nat × Nat)) : List (List Int) := (List.range (n + 1)).map fun a => ints ((es.filter fun x => x.1 == a).map (·.2))
theorem grow_row {n k : Nat} (hk : k ≤ n) (f g : Nat → List Int) (x : Int) (h1 : g k = f k ++ [x]) (h2 : ∀ j, j ≠ k → g j = f j) : ((List.range (n + 1)).map f).set k (f k ++ [x]) = (List.range (n + 1)).map g := by
  apply List.ext_getElem?
  intro j
  by_cases hj : j ≤ n
  · rw [List.getElem?_map, List.getElem?_range (by omega)]
    by_cases e : k = j
    · subst e
      rw [List.getElem?_set_self (by simp; omega)]
      simp [h1]
    · rw [List.getElem?_set_ne e, List.getElem?_map, List.getElem?_range (by omega)]
      simp [h2 j (Ne.symm e)]
  · rw [List.getElem?_eq_none (by simp; omega), List.getElem?_eq_none (by simp; omega)]
theorem backR_snoc {n a b : Nat} (hb : b ≤ n) (es : List (Nat × Nat)) : (backR n es).set b (ints ((es.filter fun x => x.2 == b).map (·.1)) ++ [(a : Int)]) = backR n (es ++ [(a, b)]) := by
  unfold backR
  refine grow_row hb (fun b => ints ((es.filter fun x => x.2 == b).map (·.1))) _ _ ?_ ?_
  · simp [ints]
  · intro j hj
    have : (b == j) = false := by simpa using Ne.symm hj
    simp [ints, this]
theorem nextR_snoc {n a b : Nat} (ha : a ≤ n) (es : List (Nat × Nat)) : (nextR n es).set a (ints ((es.filter fun x => x.1 == a).map (·.2)) ++ [(b : Int)]) = nextR n (es ++ [(a, b)]) := by
  unfold nextR
  refine grow_row ha (fun a => ints ((es.filter fun x => x.1 == a).map (·.2))) _ _ ?_ ?_
  · simp [ints]
  · intro j hj
    have : (a == j) = false := by simpa using Ne.symm hj
    simp [ints, this]
theorem backR_get {n b : Nat} (hb : b ≤ n) (es : List (Nat × Nat)) : (backR n es)[b]? = some (ints ((es.filter fun x => x.2 == b).map (·.1))) := by
  unfold backR
  rw [List.getElem?_map, List.getElem?_range (by omega)]
  rfl
theorem nextR_get {n a : Nat} (ha : a ≤ n) (es : List (Nat × Nat)) : (nextR n es)[a]? = some (ints ((es.filter fun x => x.1 == a).map (·.2))) := by
  unfold nextR
  rw [List.getElem?_map, List.getElem?_range (by omega)]
  rfl
end Go.Proofs.Ytjlikbaamefkiaa
