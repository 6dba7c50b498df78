/- louverref15.near, Tree. -/
import Derived.Test.YtjlikbaamefkiaaDom15
namespace Go.Proofs.Ytjlikbaamefkiaa
open Go.RowKit
set_option linter.unusedVariables false
set_option linter.unusedSimpArgs false
set_option maxHeartbeats 2000000

theorem RdRows.row {α : Type} {E : Enc α} {w : World} {A : Option Addr} {rows : List (List α)} {hs : List Hdr} (h : RdRows E w A rows hs) {p : Nat} {r : List α} (hp : rows[p]? = some r) : ∃ b o A' c', A = some ⟨b, o, none⟩ ∧ w.cell? ⟨b, o + p, none⟩ = some (.slice A' r.length c') ∧ r.length ≤ c' ∧ Rd E w A' r := by
  obtain ⟨hd, hhd⟩ : ∃ hd, hs[p]? = some hd := ⟨_, List.getElem?_eq_getElem (by rw [h.len]; exact (List.getElem?_eq_some_iff.1 hp).1)⟩
  obtain ⟨b, o, e, hc⟩ := h.out.get1 rfl hhd rfl
  obtain ⟨h1, h2, h3⟩ := h.inn p hd r hhd hp
  refine ⟨b, o, hd.A, hd.c, e, ?_, h2, h3⟩
  rw [hc, h1]
theorem domRow_get {nx : Nat → List Nat} {n p q : Nat} (hq : q ≤ n) : (domRow nx n p)[q]? = some (domB nx n q p) := by
  unfold domRow
  rw [List.getElem?_map, List.getElem?_range (by omega)]
  rfl

set_option maxRecDepth 100000 in
theorem near15_calls (nx : Nat → List Nat) (n p : Nat) (hp : p ≤ n) (hn : n ≤ 1000000) (A : Option Addr) (c : Nat) (hs : List Hdr) (w : World) (hR : RdRows Enc.bool w A (domTab nx n) hs) :
    Calls Try.prog 27 #[.slice A (n + 1) c, I p] w fun e w' => e = .returned (I (nearI nx n p)) ∧ Mem w w' [] := by
  have HR := hid hR
  clear hR
  have H0 := Mem.refl w
  obtain ⟨b0, o0, Ap, cp, rfl, ep, hcp, hrp⟩ := HR.out.row (domTab_get hp)
  rw [domRow_len] at ep hcp
  have HRP := hid hrp
  clear hrp
  have HQ0 : Hd (∀ q, q < 0 → ¬ NearP nx n p q) := ⟨fun q hq => by omega⟩
  go_enter Try.func27, Try.ntmps27
  go_wp2
  go_loopw [5] (fun v5 wr => ∃ (q : Nat), q ≤ n + 1 ∧ v5 = .int .i64 q ∧ Hd (∀ q', q' < q → ¬ NearP nx n p q') ∧ Hd (w = wr)) (fun v _ => n + 1 - (intOf v).toNat)
  case atStart => exact ⟨0, Nat.zero_le _, rfl, HQ0, ⟨by first | trivial | rfl⟩⟩
  case round =>
    clear HQ0
    obtain ⟨q, hq, rfl, HQ, HW⟩ := hrel
    obtain rfl := HW.out
    clear HW
    by_cases hlt : q < n + 1
    · obtain ⟨b1, o1, h1, eq1⟩ := HRP.out.get1 rfl (domRow_get (by omega : q ≤ n)) rfl
      subst h1
      have hnext : ¬ NearP nx n p q → ∀ q', q' < q + 1 → ¬ NearP nx n p q' := fun h q' hq' => by
        rcases Nat.lt_or_ge q' q with h5 | h5
        · exact HQ.out q' h5
        · obtain rfl : q' = q := by omega
          exact h
      have HNX := hid hnext
      clear hnext
      by_cases hqp : q = p
      · have g1 : ((q : Int) == (p : Int)) = true := by simp [hqp]
        have HNE : Hd (¬ NearP nx n p q) := ⟨fun h => h.2.1 hqp⟩
        clear hqp
        go_wp2
        go_roundw
        case rel => exact ⟨q + 1, by omega, by go_num, ⟨HNX.out HNE.out⟩, ⟨by first | trivial | rfl⟩⟩
        case measure => first | (simp [intOf]; done) | (simp [intOf]; omega)
      · have g1 : ((q : Int) == (p : Int)) = false := by simp <;> omega
        have HQP := hid hqp
        clear hqp
        cases hd : domB nx n q p with
        | false =>
          rw [hd] at eq1
          have HNE : Hd (¬ NearP nx n p q) := ⟨fun h => by rw [domB_iff.2 h.2.2.1] at hd; cases hd⟩
          clear hd
          go_wp2
          go_roundw
          case rel => exact ⟨q + 1, by omega, by go_num, ⟨HNX.out HNE.out⟩, ⟨by first | trivial | rfl⟩⟩
          case measure => first | (simp [intOf]; done) | (simp [intOf]; omega)
        | true =>
          rw [hd] at eq1
          have HD := hid (domB_iff.1 hd)
          obtain ⟨b2, o2, Aq, cq, h2, e2, hcq, hrq⟩ := HR.out.row (domTab_get (by omega : q ≤ n))
          obtain ⟨rfl, rfl⟩ : b0 = b2 ∧ o0 = o2 := by simp at h2; exact h2
          rw [domRow_len] at e2 hcq
          have HRQ := hid hrq
          clear hd hrq h2
          go_wp2
          go_loopw [6, 7] (fun v6 v7 wr => ∃ (ok : Bool) (r : Nat), r ≤ n + 1 ∧ v6 = .bool ok ∧ v7 = .int .i64 r ∧ Hd (ok = true → ∀ r', r' < r → r' ≠ p → Dom nx n r' p → Dom nx n r' q) ∧ Hd (ok = false → ∃ r', r' ≤ n ∧ r' ≠ p ∧ Dom nx n r' p ∧ ¬ Dom nx n r' q) ∧ Hd (w = wr)) (fun _ v _ => n + 1 - (intOf v).toNat)
          case atStart => exact ⟨true, 0, Nat.zero_le _, rfl, rfl, ⟨fun _ r hr => by omega⟩, ⟨fun h => by cases h⟩, ⟨by first | trivial | rfl⟩⟩
          case round =>
            obtain ⟨ok, r, hr, rfl, rfl, HT, HF, HW⟩ := hrel
            obtain rfl := HW.out
            clear HW
            cases ok with
            | false =>
              have HNE : Hd (¬ NearP nx n p q) := ⟨fun h => by
                obtain ⟨r', k1, k2, k3, k4⟩ := HF.out rfl
                exact k4 (h.2.2.2 r' k1 k2 k3)⟩
              by_cases hrl : r < n + 1
              · go_wp2
                go_roundw
                case rel => exact ⟨q + 1, by omega, by go_num, ⟨HNX.out HNE.out⟩, ⟨by first | trivial | rfl⟩⟩
                case measure => first | (simp [intOf]; done) | (simp [intOf]; omega)
              · go_wp2
                go_roundw
                case rel => exact ⟨q + 1, by omega, by go_num, ⟨HNX.out HNE.out⟩, ⟨by first | trivial | rfl⟩⟩
                case measure => first | (simp [intOf]; done) | (simp [intOf]; omega)
            | true =>
              by_cases hrl : r < n + 1
              · obtain ⟨b3, o3, h3, er⟩ := HRP.out.get1 rfl (domRow_get (by omega : r ≤ n)) rfl
                obtain ⟨rfl, rfl⟩ : b1 = b3 ∧ o1 = o3 := by simp at h3; exact h3
                obtain ⟨b4, o4, h4, es⟩ := HRQ.out.get1 rfl (domRow_get (by omega : r ≤ n)) rfl
                subst h4
                have hkeep : (r ≠ p → Dom nx n r p → Dom nx n r q) → ∀ r', r' < r + 1 → r' ≠ p → Dom nx n r' p → Dom nx n r' q := fun h r' hr' => by
                  rcases Nat.lt_or_ge r' r with h5 | h5
                  · exact HT.out rfl r' h5
                  · obtain rfl : r' = r := by omega
                    exact h
                have HKP := hid hkeep
                clear hkeep h3
                by_cases hrp : r = p
                · have k1 : ((r : Int) == (p : Int)) = true := by simp [hrp]
                  have k2 : ((r : Int) != (p : Int)) = false := by simp [hrp]
                  have HRP2 := hid hrp
                  clear hrp
                  go_wp2
                  go_roundw
                  case rel => exact ⟨r + 1, by omega, by go_num, ⟨by first | exact HKP.out fun h => absurd HRP2.out h | exact fun _ => HKP.out fun h => absurd HRP2.out h⟩, by first | exact ⟨trivial⟩ | exact ⟨⟨trivial⟩, ⟨trivial⟩⟩ | exact ⟨⟨fun h => by cases h⟩, ⟨rfl⟩⟩⟩
                  case measure => first | (simp [intOf]; done) | (simp [intOf]; omega)
                · have k1 : ((r : Int) == (p : Int)) = false := by simp <;> omega
                  have k2 : ((r : Int) != (p : Int)) = true := by simp <;> omega
                  have HRP2 := hid hrp
                  clear hrp
                  cases hd1 : domB nx n r p with
                  | false =>
                    rw [hd1] at er
                    have HD1 : Hd (¬ Dom nx n r p) := ⟨fun h => by rw [domB_iff.2 h] at hd1; cases hd1⟩
                    clear hd1
                    go_wp2
                    go_roundw
                    case rel => exact ⟨r + 1, by omega, by go_num, ⟨by first | exact HKP.out fun _ h => absurd h HD1.out | exact fun _ => HKP.out fun _ h => absurd h HD1.out⟩, by first | exact ⟨trivial⟩ | exact ⟨⟨trivial⟩, ⟨trivial⟩⟩ | exact ⟨⟨fun h => by cases h⟩, ⟨rfl⟩⟩⟩
                    case measure => first | (simp [intOf]; done) | (simp [intOf]; omega)
                  | true =>
                    rw [hd1] at er
                    have HD1 := hid (domB_iff.1 hd1)
                    clear hd1
                    cases hd2 : domB nx n r q with
                    | false =>
                      rw [hd2] at es
                      have HD2 : Hd (¬ Dom nx n r q) := ⟨fun h => by rw [domB_iff.2 h] at hd2; cases hd2⟩
                      clear hd2
                      go_wp2
                      go_roundw
                      case rel => exact ⟨r + 1, by omega, by go_num, ⟨by first | trivial | (intro h; cases h)⟩, ⟨by first | exact ⟨r, by omega, HRP2.out, HD1.out, HD2.out⟩ | exact fun _ => ⟨r, by omega, HRP2.out, HD1.out, HD2.out⟩⟩, ⟨by first | trivial | rfl⟩⟩
                      case measure => first | (simp [intOf]; done) | (simp [intOf]; omega)
                    | true =>
                      rw [hd2] at es
                      have HD2 := hid (domB_iff.1 hd2)
                      clear hd2
                      go_wp2
                      go_roundw
                      case rel => exact ⟨r + 1, by omega, by go_num, ⟨by first | exact HKP.out fun _ _ => HD2.out | exact fun _ => HKP.out fun _ _ => HD2.out⟩, by first | exact ⟨trivial⟩ | exact ⟨⟨trivial⟩, ⟨trivial⟩⟩ | exact ⟨⟨fun h => by cases h⟩, ⟨rfl⟩⟩⟩
                      case measure => first | (simp [intOf]; done) | (simp [intOf]; omega)
              · have HNE := hid (nearI_of (nx := nx) (n := n) (p := p) (q := q) ⟨by omega, HQP.out, HD.out, fun r' k1 k2 k3 => HT.out rfl r' (by omega) k2 k3⟩)
                go_wp2
                go_ret
                exact ⟨by rw [HNE.out]; rfl, H0⟩
    · have hno : nearI nx n p = -1 := nearI_none fun ⟨q', hq'⟩ => HQ.out q' (by have := hq'.1; omega) hq'
      have HNO := hid hno
      clear hno
      go_wp2
      go_ret
      exact ⟨by rw [HNO.out]; rfl, H0⟩
end Go.Proofs.Ytjlikbaamefkiaa
