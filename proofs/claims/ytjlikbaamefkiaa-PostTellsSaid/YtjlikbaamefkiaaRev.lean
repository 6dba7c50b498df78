/- slices.Reverse on a row of ints. -/
import Derived.Test.YtjlikbaamefkiaaElt
namespace Go.Proofs.Ytjlikbaamefkiaa
open Go.RowKit
set_option linter.unusedVariables false
set_option linter.unusedSimpArgs false
set_option maxHeartbeats 400000

structure Rev (xs : List Int) (i : Nat) (l : List Int) : Prop where
  len : l.length = xs.length
  at' : ∀ k, k < xs.length → l[k]? = if k < i ∨ xs.length ≤ k + i then xs[xs.length - 1 - k]? else xs[k]?
theorem Rev.done {xs l : List Int} {i : Nat} (h : Rev xs i l) (hi : xs.length ≤ 2 * i + 1) : l = xs.reverse := by
  apply List.ext_getElem?
  intro k
  by_cases hk : k < xs.length
  · rw [h.at' k hk, List.getElem?_reverse hk]
    by_cases hc : k < i ∨ xs.length ≤ k + i
    · rw [if_pos hc]
    · rw [if_neg hc]; congr 1; omega
  · rw [List.getElem?_eq_none (by rw [h.len]; omega), List.getElem?_eq_none (by rw [List.length_reverse]; omega)]
theorem Rev.step {xs l : List Int} {i j : Nat} (h : Rev xs i l) (hij : i + j + 1 = xs.length) (hlt : i < j) {x y : Int} (hx : l[i]? = some x) (hy : l[j]? = some y) : Rev xs (i + 1) ((l.set i y).set j x) := by
  refine ⟨by simpa using h.len, fun k hk => ?_⟩
  have hx' := h.at' i (by omega)
  have hy' := h.at' j (by omega)
  rw [if_neg (by omega), hx] at hx'
  rw [if_neg (by omega), hy] at hy'
  have hl := h.len
  by_cases e1 : j = k
  · subst e1
    rw [List.getElem?_set_self (by rw [List.length_set]; omega), if_pos (by omega), hx']
    congr 1; omega
  · rw [List.getElem?_set_ne e1]
    by_cases e2 : i = k
    · subst e2
      rw [List.getElem?_set_self (by omega), if_pos (by omega), hy']
      congr 1; omega
    · rw [List.getElem?_set_ne e2, h.at' k hk]
      by_cases hc : k < i ∨ xs.length ≤ k + i
      · rw [if_pos hc, if_pos (by omega)]
      · rw [if_neg hc, if_neg (by omega)]

set_option maxRecDepth 100000 in
theorem reverse_calls (w0 w : World) (As : List HP) (A : Option Addr) (c : Nat) (xs : List Int) (hl : xs.length ≤ 1000000000000) (H : Mem w0 w (own Enc.i64 3 A c xs :: As)) :
    Calls Try.prog 37 #[.slice A xs.length c] w fun e w' => e = .returned (.tuple #[]) ∧ Mem w0 w' (own Enc.i64 3 A c xs.reverse :: As) := by
  go_enter Try.func37, Try.ntmps37
  by_cases hx0 : xs = []
  · subst hx0
    go_wp2
    go_loopw [2, 3] (fun u v wr => u = .int .i64 0 ∧ v = .int .i64 (-1) ∧ wr = w) (fun _ _ _ => 0)
    case atStart => exact ⟨rfl, rfl, rfl⟩
    case round =>
      obtain ⟨rfl, rfl, rfl⟩ := hrel
      go_wp2
      go_end0
      exact ⟨rfl, by simpa using H⟩
  · have hpos : 0 < xs.length := List.length_pos_iff.2 hx0
    obtain ⟨g, o, rfl, -⟩ := (H.own_rd 0 rfl (by decide)).1.get1 rfl (List.getElem?_eq_getElem hpos) rfl
    go_wp2
    go_loopw [2, 3] (fun u v wr => ∃ (i j : Nat) (l : List Int), i + j + 1 = xs.length ∧ i ≤ j + 1 ∧ u = .int .i64 i ∧ v = .int .i64 j ∧ Hd (Rev xs i l) ∧ Mem w0 wr (own Enc.i64 3 (some ⟨g, o, none⟩) c l :: As)) (fun u _ _ => xs.length - (intOf u).toNat)
    case atStart => exact ⟨0, xs.length - 1, xs, by omega, by omega, rfl, by go_num, ⟨⟨rfl, fun k hk => by rw [if_neg (by omega)]⟩⟩, H⟩
    case round =>
      clear H
      obtain ⟨i, j, l, hij, hi1, rfl, rfl, HV, H1⟩ := hrel
      obtain ⟨wo, rfl⟩ : ∃ wo : World, wo = wr := ⟨_, rfl⟩
      by_cases hlt : i < j
      · have hll := HV.out.len
        obtain ⟨x, hx⟩ : ∃ x, l[i]? = some x := ⟨_, List.getElem?_eq_getElem (by omega)⟩
        obtain ⟨y, hy⟩ : ∃ y, l[j]? = some y := ⟨_, List.getElem?_eq_getElem (by omega)⟩
        obtain ⟨e1, f1⟩ := H1.own_get1 0 rfl rfl hx rfl
        obtain ⟨e2, f2⟩ := H1.own_get1 0 rfl rfl hy rfl
        have HX := hid hx
        have HY := hid hy
        have HLL := hid hll
        clear hx hy hll
        go_wp2
        go_region
        have H2 := ((H1.own_set 0 rfl rfl (j := i) (by have := HLL.out; omega) y rfl).own_set 0 rfl rfl (j := j) (by have := HLL.out; simp; omega) x rfl).drew
        simp only [List.set_cons_zero] at H2
        go_wp2
        go_roundw
        case rel => exact ⟨i + 1, j - 1, _, by omega, by omega, by go_num, by go_num, ⟨HV.out.step hij hlt HX.out HY.out⟩, H2⟩
        case measure => first | (simp [intOf]; done) | (simp [intOf]; omega)
      · go_wp2
        go_end0
        refine ⟨rfl, ?_⟩
        rw [← HV.out.done (by omega)]
        exact H1
end Go.Proofs.Ytjlikbaamefkiaa
