/- logs.Text: lines of numbers. -/
import Derived.Test.YtjgaacpiflmljaaDoorLgD
import Derived.Test.YtjgaacpiflmljaaDoorBld
import Derived.Test.YtjgaacpiflmljaaDoorLgShelf
import Derived.Lib.AppendIntMem
import Derived.Deep.LoopGhost
namespace Go.Proofs.YtjgaacpiflmljaaDoor
open Go.RowKit
set_option linter.unusedVariables false
set_option linter.unusedSimpArgs false
set_option maxHeartbeats 4000000
def lineN (r : List Int) : Nat → List UInt8
  | 0 => []
  | i + 1 => lineN r i ++ (if i = 0 then [] else [32]) ++ Lib.itoa (r.getD i 0)
def textN (rows : List (List Int)) : Nat → List UInt8
  | 0 => []
  | k + 1 => textN rows k ++ lineN (rows.getD k []) (rows.getD k []).length ++ [10]
theorem Bld.below {B b : Nat} {bs : List Value} {w w' : World} (h : Bld B b bs w) (hb : Below w.heap.size w w') : Bld B b bs w' := by
  have key : ∀ p, Lib.BuilderAt 53 5 B b p bs w → Lib.BuilderAt 53 5 B b p bs w' := fun p h => by
    have hlt := h.lt
    obtain ⟨hB, v, hv, hown, hne⟩ := h
    exact ⟨hB, v, (hb.block b hlt).trans hv, hown.kept (row := none) ⟨hb.os, hb.tape, hb.output, hb.size, fun k hk _ => hb.block k hk⟩ (Classical.em _), hne⟩
  exact h.elim (fun x => .inl (key _ x)) (fun x => .inr (key _ x))
theorem Mem.of_below {w w' : World} (hb : Below w.heap.size w w') : Mem w w' [] := ⟨fun _ => False, fun _ h => h, fun _ h => h.elim, hb⟩
set_option maxRecDepth 100000 in
theorem text_calls (rows : List (List Int)) (hs : List Hdr) (A : Option Addr) (c : Nat) (w : World) (ra : RdRows Enc.i64 w A rows hs) (hl : rows.length ≤ 1000) (hr : ∀ r ∈ rows, r.length ≤ 1000)
    (hT : ∀ k, k ≤ rows.length → (textN rows k).length ≤ 1000000) (hL : ∀ r ∈ rows, ∀ i, i ≤ r.length → (lineN r i).length ≤ 1000000) (hX : ∀ r ∈ rows, ∀ x ∈ r, -9223372036854775808 ≤ x ∧ x ≤ 9223372036854775807)
    (hF : ∀ (w' : World) (x : Int), Below w.heap.size w w' → -9223372036854775808 ≤ x → x ≤ 9223372036854775807 → Calls Tryd.prog 28 #[.int .i64 x, .int .i64 10] w' fun e w'' => e = .returned (.string ⟨(Lib.itoa x).toArray⟩) ∧ Below w'.heap.size w' w'') :
    Calls Tryd.prog 18 #[.slice A rows.length c] w fun e w' => e = .returned (.string ⟨(textN rows rows.length).toArray⟩) ∧ Below w.heap.size w w' := by
  have RA := hid ra
  have HR := hid hr
  have HT := hid hT
  have HL := hid hL
  have HX := hid hX
  have HF := hid hF
  clear ra hr hT hL hX hF
  go_enter Tryd.func18, Tryd.ntmps18
  go_wp2
  have hB0 : Bld w.heap.size w.heap.size (Lib.byteCells (textN rows 0)) (w.alloc (.cells #[.pointer none, .slice none 0 0] 53)) := Lib.fresh_isBuilder _ _ w
  have hL0 : Below w.heap.size w (w.alloc (.cells #[.pointer none, .slice none 0 0] 53)) := (Below.refl _ _).alloc (Nat.le_refl _) _
  obtain ⟨w1, hw1⟩ : ∃ w1, w1 = w.alloc (.cells #[.pointer none, .slice none 0 0] 53) := ⟨_, rfl⟩
  rw [← hw1] at hB0 hL0 ⊢
  obtain ⟨b, hb⟩ : ∃ b, b = w.heap.size := ⟨_, rfl⟩
  have H0 : Hd (Bld w.heap.size b (Lib.byteCells (textN rows 0)) w1 ∧ Below w.heap.size w w1) := ⟨by rw [hb]; exact hB0, hL0⟩
  rw [← hb]
  clear hw1 hB0 hL0 hb
  go_loopw [10] (fun v wr => ∃ (k : Nat), v = .int .i64 k ∧ k ≤ rows.length ∧ Hd (Bld w.heap.size b (Lib.byteCells (textN rows k)) wr ∧ Below w.heap.size w wr)) (fun v _ => rows.length - (intOf v).toNat)
  case atStart => exact ⟨0, rfl, Nat.zero_le _, H0⟩
  case round =>
    clear H0
    obtain ⟨k, rfl, hk, HB⟩ := hrel
    obtain ⟨wo, rfl⟩ : ∃ wo : World, wo = wr := ⟨_, rfl⟩
    by_cases hlt : k < rows.length
    · obtain ⟨r, hr⟩ : ∃ r, rows[k]? = some r := ⟨_, List.getElem?_eq_getElem hlt⟩
      obtain ⟨ba, oa, A', c', rfl, ea0, lx, rx⟩ := RA.out.row hr
      have ea := (Mem.of_below HB.out.2).old ea0
      have hkl : (k : Int) < (rows.length : Int) := by omega
      have hmem := List.mem_of_getElem? hr
      have HMEM := hid hmem
      have hrl := HR.out r hmem
      have hgd : rows.getD k [] = r := by rw [List.getD_eq_getElem?_getD, hr]; rfl
      have HGD := hid hgd
      have HRX := hid rx
      clear hr rx hmem hgd ea0
      go_wp2
      have HB0 : Hd (Bld w.heap.size b (Lib.byteCells (textN rows k ++ lineN r 0)) wo ∧ Below wo.heap.size wo wo ∧ Below w.heap.size w wo) := ⟨by rw [show lineN r 0 = [] from rfl, List.append_nil]; exact HB.out.1, Below.refl _ _, HB.out.2⟩
      clear ea
      go_loopw [16] (fun v wr => ∃ (i : Nat), v = .int .i64 i ∧ i ≤ r.length ∧ Hd (Bld w.heap.size b (Lib.byteCells (textN rows k ++ lineN r i)) wr ∧ Below w.heap.size w wr)) (fun v _ => r.length - (intOf v).toNat)
      case atStart => exact ⟨0, rfl, Nat.zero_le _, ⟨HB0.out.1, HB0.out.2.2⟩⟩
      case round =>
        clear HB0
        obtain ⟨i, rfl, hi, HC⟩ := hrel
        obtain ⟨wi, rfl⟩ : ∃ wi : World, wi = wr := ⟨_, rfl⟩
        by_cases hli : i < r.length
        · obtain ⟨x, hx⟩ : ∃ x, r[i]? = some x := ⟨_, List.getElem?_eq_getElem hli⟩
          obtain ⟨bx, ox, rfl, ex0⟩ := HRX.out.get1 rfl hx rfl
          have ex := (Mem.of_below HC.out.2).old ex0
          have hxr := HX.out r HMEM.out x (List.mem_of_getElem? hx)
          have hlen2 : ∀ n, n ≤ 1 → (Lib.byteCells (textN rows k ++ lineN r i)).length + n ≤ 140737488355328 := fun n hn => by
            have h1 := HT.out k (by omega)
            have h2 := HL.out r HMEM.out i (by omega)
            rw [Lib.byteCells_length, List.length_append]
            omega
          have hil : (i : Int) < (r.length : Int) := by omega
          have hstep : ∀ (sep : List UInt8) (w3 w4 : World), sep = (if i = 0 then [] else [32]) → BldU w.heap.size b (Lib.byteCells (textN rows k ++ lineN r i ++ sep) ++ Lib.strCells ⟨(Lib.itoa x).toArray⟩) w4 → Bld w.heap.size b (Lib.byteCells (textN rows k ++ lineN r (i + 1))) w4 := fun sep w3 w4 hs hU => by
            have h3 : textN rows k ++ lineN r (i + 1) = textN rows k ++ lineN r i ++ sep ++ Lib.itoa x := by
              show textN rows k ++ (lineN r i ++ (if i = 0 then [] else [32]) ++ Lib.itoa (r.getD i 0)) = _
              rw [← hs, List.getD_eq_getElem?_getD, hx]
              simp only [List.append_assoc, Option.getD_some]
            rw [h3, Lib.byteCells_append]
            exact hU.bld
          have hsz : ∀ (sep : List UInt8), sep.length ≤ 1 → (Lib.byteCells (textN rows k ++ lineN r i ++ sep)).length + (⟨(Lib.itoa x).toArray⟩ : ByteArray).size ≤ 140737488355328 := fun sep hs => by
            have h1 := HT.out k (by omega)
            have h2 := HL.out r HMEM.out (i + 1) (by omega)
            have h4 : (lineN r (i + 1)).length = (lineN r i ++ (if i = 0 then [] else [32]) ++ Lib.itoa (r.getD i 0)).length := rfl
            rw [List.getD_eq_getElem?_getD, hx] at h4
            simp only [Option.getD_some, List.length_append] at h4
            have h5 : (⟨(Lib.itoa x).toArray⟩ : ByteArray).size = (Lib.itoa x).length := by simp [ByteArray.size]
            rw [Lib.byteCells_length, List.length_append, List.length_append, h5]
            omega
          have HSTEP := hid hstep
          have HSZ := hid hsz
          have HL2 := hid hlen2
          clear hx hstep hsz hlen2 ex0
          by_cases hi0 : i = 0
          · subst hi0
            have hgt : ¬ (0 : Int) < (0 : Int) := by omega
            have ex' : wi.cell? ⟨bx, ox, none⟩ = some (.int .i64 x) := by simpa using ex
            have FI := hid (HF.out wi x HC.out.2 hxr.1 hxr.2)
            clear ex
            go_wp2_with (first
              | ((go_at_call 28; (with_reducible refine FI.out.mono ?_); rintro e w2 ⟨rfl, hb2⟩); have FW := hid (writeString_calls w.heap.size b (Lib.byteCells (textN rows k ++ lineN r 0 ++ [])) ⟨(Lib.itoa x).toArray⟩ w2 (by rw [List.append_nil]; exact HC.out.1.below hb2) (HSZ.out [] (by decide)) (Nat.le_trans HC.out.2.size hb2.size)))
              | (go_at_call 27; (with_reducible refine FW.out.mono ?_); rintro e w3 ⟨rfl, hU, hb3⟩))
            go_roundw
            case rel => exact ⟨1, rfl, by omega, ⟨HSTEP.out [] w3 w3 (by simp) hU, (HC.out.2.trans (hb2.mono HC.out.2.size)).trans hb3⟩⟩
            case measure => first | (simp [intOf]; done) | (simp [intOf]; omega)
          · have hgt : (0 : Int) < (i : Int) := by omega
            have FB := hid (writeByte_calls w.heap.size b _ 32 wi HC.out.1 (HL2.out 1 (by decide)) HC.out.2.size)
            go_wp2_with (first
              | (go_at_call 26; (with_reducible refine FB.out.mono ?_); rintro e w1 ⟨rfl, hV, hb1⟩)
              | ((go_at_call 28; (with_reducible refine (HF.out w1 x (HC.out.2.trans hb1) hxr.1 hxr.2).mono ?_); rintro e w2 ⟨rfl, hb2⟩); have FW := hid (writeString_calls w.heap.size b (Lib.byteCells (textN rows k ++ lineN r i ++ [32])) ⟨(Lib.itoa x).toArray⟩ w2 (by rw [Lib.byteCells_append]; exact hV.bld.below hb2) (HSZ.out [32] (by decide)) (Nat.le_trans (HC.out.2.trans hb1).size hb2.size)))
              | (go_at_call 27; (with_reducible refine FW.out.mono ?_); rintro e w3 ⟨rfl, hU, hb3⟩))
            go_roundw
            case rel => exact ⟨i + 1, by go_num, by omega, ⟨HSTEP.out [32] w3 w3 (by rw [if_neg hi0]) hU, ((HC.out.2.trans hb1).trans (hb2.mono (HC.out.2.trans hb1).size)).trans hb3⟩⟩
            case measure => first | (simp [intOf]; done) | (simp [intOf]; omega)
        · obtain rfl : i = r.length := by omega
          have hlen1 : (Lib.byteCells (textN rows k ++ lineN r r.length)).length + 1 ≤ 140737488355328 := by
            have h1 := HT.out k hk
            have h2 := HL.out r HMEM.out r.length (Nat.le_refl _)
            rw [Lib.byteCells_length, List.length_append]
            omega
          have FW := hid (writeByte_calls w.heap.size b _ 10 wi HC.out.1 hlen1 HC.out.2.size)
          go_wp2_with (go_at_call 26; (with_reducible refine FW.out.mono ?_); rintro e w2 ⟨rfl, hU, hb2⟩)
          go_roundw
          case rel =>
            refine ⟨k + 1, by go_num, by omega, ⟨?_, HC.out.2.trans hb2⟩⟩
            have h3 : Lib.byteCells (textN rows (k + 1)) = Lib.byteCells (textN rows k ++ lineN r r.length) ++ [.int .u8 10] := by
              show Lib.byteCells (textN rows k ++ lineN (rows.getD k []) (rows.getD k []).length ++ [10]) = _
              rw [HGD.out, Lib.byteCells_append]
              rfl
            rw [h3]
            exact hU.bld
          case measure => first | (simp [intOf]; done) | (simp [intOf]; omega)
    · obtain rfl : k = rows.length := by omega
      have FS := hid (string_calls w.heap.size b _ wo HB.out.1 HB.out.2.size)
      go_wp2_with (go_at_call 29; (with_reducible refine FS.out.mono ?_); rintro e w2 ⟨rfl, hb2⟩)
      go_ret
      exact ⟨rfl, HB.out.2.trans hb2⟩
end Go.Proofs.YtjgaacpiflmljaaDoor
