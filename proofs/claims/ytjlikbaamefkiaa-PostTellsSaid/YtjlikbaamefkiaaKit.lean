/- The kit's small functions: are two lists the same. -/
import Derived.Test.YtjlikbaamefkiaaElt
namespace Go.Proofs.Ytjlikbaamefkiaa
open Go.RowKit
set_option linter.unusedVariables false
set_option linter.unusedSimpArgs false
set_option maxHeartbeats 400000
theorem ints_calls (A B : Option Addr) (c d : Nat) (xs ys : List (Int)) (w : World) (hx : Rd Enc.i64 w A xs) (hy : Rd Enc.i64 w B ys) (hl : xs.length ≤ 17592186043904) (hm : ys.length ≤ 17592186043904) :
    Calls Try.prog 11 #[.slice A xs.length c, .slice B ys.length d] w fun e w' => e = .returned (.bool (decide (xs = ys))) ∧ Mem w w' [] := by
  have HX := hid hx
  have HY := hid hy
  clear hx hy
  have H0 := Mem.refl w
  go_enter Try.func11, Try.ntmps11
  by_cases hne : xs.length = ys.length
  · have h1 : ((xs.length : Int) == (ys.length : Int)) = true := by simp [hne]
    have h2 : ((xs.length : Int) != (ys.length : Int)) = false := by simp [hne]
    have HN := hid hne
    clear hne
    go_wp2
    go_loopw [5] (fun i wr => ∃ k : Nat, k ≤ xs.length ∧ i = .int .i64 k ∧ Hd (∀ j, j < k → xs[j]? = ys[j]?) ∧ Mem w wr []) (fun i _ => xs.length - (intOf i).toNat)
    case atStart => exact ⟨0, Nat.zero_le _, rfl, ⟨fun j hj => by omega⟩, H0⟩
    case round =>
      obtain ⟨k, hk, rfl, HT, H1⟩ := hrel
      by_cases hlt : k < xs.length
      · have hlt' : k < ys.length := HN.out ▸ hlt
        obtain ⟨b, o, rfl, hc⟩ := HX.out.get1 rfl (List.getElem?_eq_getElem hlt) rfl
        obtain ⟨b', o', rfl, hd⟩ := HY.out.get1 rfl (List.getElem?_eq_getElem hlt') rfl
        have hc := H1.old hc
        have hd := H1.old hd
        have g1 : decide ((k : Int) < (xs.length : Int)) = true := by simpa using hlt
        obtain ⟨x, hX⟩ : ∃ x, xs[k] = x := ⟨_, rfl⟩
        obtain ⟨y, hY⟩ : ∃ y, ys[k] = y := ⟨_, rfl⟩
        rw [hX] at hc
        rw [hY] at hd
        have HX2 := hid hX
        have HY2 := hid hY
        clear hX hY
        by_cases he : x = y
        · have h5 : (x == y) = true := by simp [he]
          have h6 : (x != y) = false := by simp [he]
          have HE := hid he
          clear he
          go_wp2
          go_quiet (fail)
          go_wp2
          go_roundw
          case rel =>
            refine ⟨k + 1, by omega, by go_num, ⟨fun j hj => ?_⟩, by first | exact H1.drewN _ | exact H1.drew⟩
            rcases Nat.lt_or_ge j k with h | h
            · exact HT.out j h
            · obtain rfl : j = k := by omega
              rw [List.getElem?_eq_getElem hlt, List.getElem?_eq_getElem hlt', HX2.out, HY2.out, HE.out]
          case measure => simp [intOf]; omega
        · have h5 : (x == y) = false := by simpa using he
          have h6 : (x != y) = true := by simpa using he
          have HE := hid he
          clear he
          go_wp2
          go_quiet (fail)
          go_wp2
          go_ret
          refine ⟨?_, by first | exact H1.drewN _ | exact H1.drew⟩
          have : ¬ xs = ys := by
            rintro rfl
            exact HE.out (HX2.out.symm.trans HY2.out)
          simp [this]
      · have g1 : decide ((k : Int) < (xs.length : Int)) = false := by simpa using hlt
        go_wp2
        go_ret
        refine ⟨?_, H1⟩
        have : xs = ys := by
          apply List.ext_getElem?
          intro j
          rcases Nat.lt_or_ge j k with h | h
          · exact HT.out j h
          · rw [List.getElem?_eq_none (by omega), List.getElem?_eq_none (by have := HN.out; omega)]
        simp [this]
  · have h1 : ((xs.length : Int) == (ys.length : Int)) = false := by simp; omega
    have h2 : ((xs.length : Int) != (ys.length : Int)) = true := by simp; omega
    have HN := hid hne
    clear hne
    go_wp2
    go_ret
    refine ⟨?_, H0⟩
    have : ¬ xs = ys := by
      rintro rfl
      exact HN.out rfl
    simp [this]

theorem bools_calls (A B : Option Addr) (c d : Nat) (xs ys : List (Bool)) (w : World) (hx : Rd Enc.bool w A xs) (hy : Rd Enc.bool w B ys) (hl : xs.length ≤ 17592186043904) (hm : ys.length ≤ 17592186043904) :
    Calls Try.prog 28 #[.slice A xs.length c, .slice B ys.length d] w fun e w' => e = .returned (.bool (decide (xs = ys))) ∧ Mem w w' [] := by
  have HX := hid hx
  have HY := hid hy
  clear hx hy
  have H0 := Mem.refl w
  go_enter Try.func28, Try.ntmps28
  by_cases hne : xs.length = ys.length
  · have h1 : ((xs.length : Int) == (ys.length : Int)) = true := by simp [hne]
    have h2 : ((xs.length : Int) != (ys.length : Int)) = false := by simp [hne]
    have HN := hid hne
    clear hne
    go_wp2
    go_loopw [5] (fun i wr => ∃ k : Nat, k ≤ xs.length ∧ i = .int .i64 k ∧ Hd (∀ j, j < k → xs[j]? = ys[j]?) ∧ Mem w wr []) (fun i _ => xs.length - (intOf i).toNat)
    case atStart => exact ⟨0, Nat.zero_le _, rfl, ⟨fun j hj => by omega⟩, H0⟩
    case round =>
      obtain ⟨k, hk, rfl, HT, H1⟩ := hrel
      by_cases hlt : k < xs.length
      · have hlt' : k < ys.length := HN.out ▸ hlt
        obtain ⟨b, o, rfl, hc⟩ := HX.out.get1 rfl (List.getElem?_eq_getElem hlt) rfl
        obtain ⟨b', o', rfl, hd⟩ := HY.out.get1 rfl (List.getElem?_eq_getElem hlt') rfl
        have hc := H1.old hc
        have hd := H1.old hd
        have g1 : decide ((k : Int) < (xs.length : Int)) = true := by simpa using hlt
        obtain ⟨x, hX⟩ : ∃ x, xs[k] = x := ⟨_, rfl⟩
        obtain ⟨y, hY⟩ : ∃ y, ys[k] = y := ⟨_, rfl⟩
        rw [hX] at hc
        rw [hY] at hd
        have HX2 := hid hX
        have HY2 := hid hY
        clear hX hY
        by_cases he : x = y
        · have h5 : (x == y) = true := by simp [he]
          have h6 : (x != y) = false := by simp [he]
          have HE := hid he
          clear he
          go_wp2
          go_quiet (fail)
          go_wp2
          go_roundw
          case rel =>
            refine ⟨k + 1, by omega, by go_num, ⟨fun j hj => ?_⟩, by first | exact H1.drewN _ | exact H1.drew⟩
            rcases Nat.lt_or_ge j k with h | h
            · exact HT.out j h
            · obtain rfl : j = k := by omega
              rw [List.getElem?_eq_getElem hlt, List.getElem?_eq_getElem hlt', HX2.out, HY2.out, HE.out]
          case measure => simp [intOf]; omega
        · have h5 : (x == y) = false := by simpa using he
          have h6 : (x != y) = true := by simpa using he
          have HE := hid he
          clear he
          go_wp2
          go_quiet (fail)
          go_wp2
          go_ret
          refine ⟨?_, by first | exact H1.drewN _ | exact H1.drew⟩
          have : ¬ xs = ys := by
            rintro rfl
            exact HE.out (HX2.out.symm.trans HY2.out)
          simp [this]
      · have g1 : decide ((k : Int) < (xs.length : Int)) = false := by simpa using hlt
        go_wp2
        go_ret
        refine ⟨?_, H1⟩
        have : xs = ys := by
          apply List.ext_getElem?
          intro j
          rcases Nat.lt_or_ge j k with h | h
          · exact HT.out j h
          · rw [List.getElem?_eq_none (by omega), List.getElem?_eq_none (by have := HN.out; omega)]
        simp [this]
  · have h1 : ((xs.length : Int) == (ys.length : Int)) = false := by simp; omega
    have h2 : ((xs.length : Int) != (ys.length : Int)) = true := by simp; omega
    have HN := hid hne
    clear hne
    go_wp2
    go_ret
    refine ⟨?_, H0⟩
    have : ¬ xs = ys := by
      rintro rfl
      exact HN.out rfl
    simp [this]

theorem labels_calls (A B : Option Addr) (c d : Nat) (xs ys : List (Int)) (w : World) (hx : Rd Enc.u64 w A xs) (hy : Rd Enc.u64 w B ys) (hl : xs.length ≤ 17592186043904) (hm : ys.length ≤ 17592186043904) :
    Calls Try.prog 38 #[.slice A xs.length c, .slice B ys.length d] w fun e w' => e = .returned (.bool (decide (xs = ys))) ∧ Mem w w' [] := by
  have HX := hid hx
  have HY := hid hy
  clear hx hy
  have H0 := Mem.refl w
  go_enter Try.func38, Try.ntmps38
  by_cases hne : xs.length = ys.length
  · have h1 : ((xs.length : Int) == (ys.length : Int)) = true := by simp [hne]
    have h2 : ((xs.length : Int) != (ys.length : Int)) = false := by simp [hne]
    have HN := hid hne
    clear hne
    go_wp2
    go_loopw [5] (fun i wr => ∃ k : Nat, k ≤ xs.length ∧ i = .int .i64 k ∧ Hd (∀ j, j < k → xs[j]? = ys[j]?) ∧ Mem w wr []) (fun i _ => xs.length - (intOf i).toNat)
    case atStart => exact ⟨0, Nat.zero_le _, rfl, ⟨fun j hj => by omega⟩, H0⟩
    case round =>
      obtain ⟨k, hk, rfl, HT, H1⟩ := hrel
      by_cases hlt : k < xs.length
      · have hlt' : k < ys.length := HN.out ▸ hlt
        obtain ⟨b, o, rfl, hc⟩ := HX.out.get1 rfl (List.getElem?_eq_getElem hlt) rfl
        obtain ⟨b', o', rfl, hd⟩ := HY.out.get1 rfl (List.getElem?_eq_getElem hlt') rfl
        have hc := H1.old hc
        have hd := H1.old hd
        have g1 : decide ((k : Int) < (xs.length : Int)) = true := by simpa using hlt
        obtain ⟨x, hX⟩ : ∃ x, xs[k] = x := ⟨_, rfl⟩
        obtain ⟨y, hY⟩ : ∃ y, ys[k] = y := ⟨_, rfl⟩
        rw [hX] at hc
        rw [hY] at hd
        have HX2 := hid hX
        have HY2 := hid hY
        clear hX hY
        by_cases he : x = y
        · have h5 : (x == y) = true := by simp [he]
          have h6 : (x != y) = false := by simp [he]
          have HE := hid he
          clear he
          go_wp2
          go_quiet (fail)
          go_wp2
          go_roundw
          case rel =>
            refine ⟨k + 1, by omega, by go_num, ⟨fun j hj => ?_⟩, by first | exact H1.drewN _ | exact H1.drew⟩
            rcases Nat.lt_or_ge j k with h | h
            · exact HT.out j h
            · obtain rfl : j = k := by omega
              rw [List.getElem?_eq_getElem hlt, List.getElem?_eq_getElem hlt', HX2.out, HY2.out, HE.out]
          case measure => simp [intOf]; omega
        · have h5 : (x == y) = false := by simpa using he
          have h6 : (x != y) = true := by simpa using he
          have HE := hid he
          clear he
          go_wp2
          go_quiet (fail)
          go_wp2
          go_ret
          refine ⟨?_, by first | exact H1.drewN _ | exact H1.drew⟩
          have : ¬ xs = ys := by
            rintro rfl
            exact HE.out (HX2.out.symm.trans HY2.out)
          simp [this]
      · have g1 : decide ((k : Int) < (xs.length : Int)) = false := by simpa using hlt
        go_wp2
        go_ret
        refine ⟨?_, H1⟩
        have : xs = ys := by
          apply List.ext_getElem?
          intro j
          rcases Nat.lt_or_ge j k with h | h
          · exact HT.out j h
          · rw [List.getElem?_eq_none (by omega), List.getElem?_eq_none (by have := HN.out; omega)]
        simp [this]
  · have h1 : ((xs.length : Int) == (ys.length : Int)) = false := by simp; omega
    have h2 : ((xs.length : Int) != (ys.length : Int)) = true := by simp; omega
    have HN := hid hne
    clear hne
    go_wp2
    go_ret
    refine ⟨?_, H0⟩
    have : ¬ xs = ys := by
      rintro rfl
      exact HN.out rfl
    simp [this]

end Go.Proofs.Ytjlikbaamefkiaa
