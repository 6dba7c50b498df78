/- The reference's marks: from where is there a way that does not pass a node. -/
import Derived.Test.YtjlikbaamefkiaaPostMath
import Derived.Deep.LoopGhost
namespace Go.Proofs.Ytjlikbaamefkiaa
open Go.RowKit
set_option linter.unusedVariables false
set_option linter.unusedSimpArgs false
set_option maxHeartbeats 800000

def MarksRes (T : TypeId) (nx : Nat → List Nat) (n : Nat) (q : Int) (w : World) (e : Ending) (w' : World) : Prop :=
  ∃ A c l, e = .returned (.slice A (n + 1) c) ∧ n + 1 ≤ c ∧ l.length = n + 1 ∧ (∀ p ≤ n, l[p]? = some true ↔ Av nx n q p) ∧ Mem w w' [own Enc.bool T A c l]

/-- What holds of the marks all along. -/
structure MInv (nx : Nat → List Nat) (n : Nat) (q : Int) (l : List Bool) : Prop where
  len : l.length = n + 1
  top : l[n]? = some (decide ((n : Int) ≠ q))
  snd : ∀ p : Nat, l[p]? = some true → Av nx n q p
def MFix (nx : Nat → List Nat) (q : Int) (l : List Bool) (p : Nat) : Prop := (p : Int) ≠ q → l[p]? = some false → ∀ b ∈ nx p, l[b]? = some false

theorem MInv.set {nx : Nat → List Nat} {n : Nat} {q : Int} {l : List Bool} (h : MInv nx n q l) {p b : Nat} (hp : p < n) (hq : (p : Int) ≠ q) (hb : b ∈ nx p) (hl : l[b]? = some true) : MInv nx n q (l.set p true) := by
  refine ⟨by simpa using h.len, ?_, ?_⟩
  · rw [List.getElem?_set_ne (by omega)]; exact h.top
  · intro p' hp'
    by_cases he : p = p'
    · subst he
      exact .step hp hq hb (h.snd b hl)
    · rw [List.getElem?_set_ne he] at hp'
      exact h.snd p' hp'
theorem falses_set {l : List Bool} {p : Nat} (h : l[p]? = some false) : (l.set p true).count false < l.count false := by
  have hlt : p < l.length := (List.getElem?_eq_some_iff.1 h).1
  have hv : l[p] = false := (List.getElem?_eq_some_iff.1 h).2
  rw [List.count_set hlt, hv]
  have : 0 < l.count false := List.count_pos_iff.2 (by rw [← hv]; exact List.getElem_mem hlt)
  simp
  omega

set_option maxRecDepth 100000 in
theorem to15_calls (A : Option Addr) (c : Nat) (hs : List Hdr) (rows : List (List Int)) (nx : Nat → List Nat) (n : Nat) (q : Int) (w : World) (hR : RdRows Enc.i64 w A rows hs) (hrn : rows.length = n) (hn : n ≤ 1000000)
    (hrow : ∀ p, p < n → rows[p]? = some (ints (nx p))) (hin : ∀ p b, p < n → b ∈ nx p → b ≤ n) (hsm : ∀ p, p < n → (nx p).length ≤ 2) :
    Calls Try.prog 22 #[.slice A n c, I q] w (MarksRes 4 nx n q w) := by
  have HR := hid hR
  have HN := hid hrn
  have HW := hid hrow
  have HI := hid hin
  have HS := hid hsm
  clear hR hrn hrow hin hsm
  have H0 := Mem.refl w
  go_enter Try.func22, Try.ntmps22
  go_wp2_with (first | ((with_reducible refine at_mk ?_); refine wpList_make_own (E := Enc.bool) elt_bool H0 (n + 1) false rfl rfl rfl rfl rfl (by unfold maxLen; omega) (by omega) ?_; intro gH1 wH1 H1) | ((with_reducible refine at_store ?_); refine wpList_store_own H1 0 n ((n : Int) != q) rfl rfl (by omega) rfl rfl (by kernel_rfl) (by simp) ?_; intro wH2 H2; simp only [List.set_cons_zero, List.set_cons_succ] at H2))
  have HI2 : Hd (MInv nx n q ((List.replicate (n + 1) false).set n ((n : Int) != q))) := by
    refine ⟨⟨by simp, ?_, ?_⟩⟩
    · rw [List.getElem?_set_self (by simp)]
      by_cases h : (n : Int) = q <;> simp [h]
    · intro p' hp'
      by_cases he : n = p'
      · subst he
        rw [List.getElem?_set_self (by simp)] at hp'
        exact .base (by simpa using hp')
      · rw [List.getElem?_set_ne he, List.getElem?_replicate] at hp'
        split at hp' <;> cases hp'
  generalize (List.replicate (n + 1) false).set n ((n : Int) != q) = l0 at H2 HI2
  go_loopg [7] (2 * l0.count false + 1) (fun g v wr => ∃ (l : List Bool) (more : Bool), v = .bool more ∧ Hd (MInv nx n q l) ∧ Hd (more = false → ∀ p, p < n → MFix nx q l p) ∧ Hd (2 * l.count false + (if more = true then 1 else 0) ≤ g) ∧ Mem w wr [own Enc.bool 4 (some ⟨gH1, 0, none⟩) (n + 1) l])
  case atStart => exact ⟨l0, true, rfl, HI2, ⟨fun h => by cases h⟩, ⟨by simp⟩, H2⟩
  case round =>
    clear H2 H1 HI2
    obtain ⟨l, more, rfl, HV, HF, HG, H3⟩ := hrel
    obtain ⟨wo, rfl⟩ : ∃ wo : World, wo = wr := ⟨_, rfl⟩
    cases more with
    | false =>
      go_wp2
      go_ret
      exact ⟨_, _, l, rfl, Nat.le_refl _, HV.out.len, marks_all HV.out.len HV.out.top HV.out.snd (fun p h1 h2 => HF.out (by simp) p h1 h2), H3⟩
    | true =>
      clear HF
      go_wp2
      go_loopw [7, 8] (fun v u wr => ∃ (l1 : List Bool) (more : Bool) (p : Int), v = .bool more ∧ u = .int .i64 p ∧ -1 ≤ p ∧ p < n ∧ Hd (MInv nx n q l1) ∧ Hd (l1.count false ≤ l.count false ∧ (more = true → l1.count false < l.count false)) ∧ Hd (more = false → ∀ p' : Nat, p < p' → p' < n → MFix nx q l1 p') ∧ Mem w wr [own Enc.bool 4 (some ⟨gH1, 0, none⟩) (n + 1) l1]) (fun _ u _ => (intOf u + 1).toNat)
      case atStart => exact ⟨l, false, (n : Int) - 1, rfl, by go_num, by omega, by omega, HV, ⟨Nat.le_refl _, fun h => by cases h⟩, ⟨fun _ p' h1 h2 => by omega⟩, H3⟩
      case round =>
        clear H3
        obtain ⟨l1, more, p, rfl, rfl, hp0, hp1, HV1, HC, HF, H4⟩ := hrel
        obtain ⟨w2, rfl⟩ : ∃ w2 : World, w2 = wr := ⟨_, rfl⟩
        by_cases hpp : 0 ≤ p
        · obtain ⟨pn, rfl⟩ := Int.eq_ofNat_of_zero_le hpp
          have hpn : pn < n := by omega
          have hrow := HW.out pn hpn
          obtain ⟨hd, hhd⟩ : ∃ hd, hs[pn]? = some hd := ⟨_, List.getElem?_eq_getElem (by have := HR.out.len; have := HN.out; omega)⟩
          obtain ⟨b, o, rfl, hc0⟩ := HR.out.out.get1 rfl hhd rfl
          obtain ⟨hdn, hdc, hdr⟩ := HR.out.inn pn hd _ hhd hrow
          have HDR := hid hdr
          have hll : (ints (nx pn)).length = (nx pn).length := by simp [ints]
          obtain ⟨hA, hn', hcc⟩ := hd
          simp only [] at hdn hdc hc0
          rw [hll] at hdn hdc
          subst hdn
          simp only [] at HDR
          clear hdr hrow hhd hll
          have hsm := HS.out pn hpn
          go_wp2
          go_loopw [7, 9] (fun v u wr => ∃ (l2 : List Bool) (more2 : Bool) (i : Nat), v = .bool more2 ∧ u = .int .i64 i ∧ i ≤ (nx pn).length ∧ Hd (MInv nx n q l2) ∧ Hd (l2.count false ≤ l.count false ∧ (more2 = true → l2.count false < l.count false)) ∧ Hd (more2 = false → ∀ p' : Nat, pn < p' → p' < n → MFix nx q l2 p') ∧ Hd (l2[pn]? = some false → ∀ j b, j < i → (nx pn)[j]? = some b → l2[b]? = some false) ∧ Mem w wr [own Enc.bool 4 (some ⟨gH1, 0, none⟩) (n + 1) l2]) (fun _ u _ => (nx pn).length - (intOf u).toNat)
          case atStart => exact ⟨l1, more, 0, rfl, rfl, Nat.zero_le _, HV1, HC, ⟨fun h p' h1 h2 => HF.out h p' (by omega) h2⟩, ⟨fun _ j b h => by omega⟩, H4⟩
          case round =>
            clear H4 HV1 HC HF
            obtain ⟨l2, more2, i, rfl, rfl, hi, HV2, HC2, HF2, HZ, H5⟩ := hrel
            obtain ⟨w3, rfl⟩ : ∃ w3 : World, w3 = wr := ⟨_, rfl⟩
            have e0 := H5.old hc0
            obtain ⟨x, hx⟩ : ∃ x, l2[pn]? = some x := ⟨_, List.getElem?_eq_getElem (by have := HV2.out.len; omega)⟩
            have e1 := (H5.own_get0 0 rfl rfl hx rfl).1
            have HX := hid hx
            clear hx
            by_cases hil : i < (nx pn).length
            · have g1 : decide ((i : Int) < ((nx pn).length : Int)) = true := by simpa using hil
              cases x with
              | true =>
                go_wp2
                go_roundw
                case rel =>
                  refine ⟨l2, more2, (pn : Int) - 1, rfl, by go_num, by omega, by omega, HV2, HC2, ⟨fun h p' h1 h2 => ?_⟩, H5⟩
                  rcases Nat.lt_or_ge pn p' with h3 | h3
                  · exact HF2.out h p' h3 h2
                  · obtain rfl : p' = pn := by omega
                    intro _ hf; rw [HX.out] at hf; cases hf
                case measure => first | (simp [intOf]; done) | (simp [intOf]; omega)
              | false =>
                by_cases hq : (pn : Int) = q
                · have g2 : ((pn : Int) != q) = false := by simp [hq]
                  have HQ := hid hq
                  clear hq
                  go_wp2
                  go_roundw
                  case rel =>
                    refine ⟨l2, more2, (pn : Int) - 1, rfl, by go_num, by omega, by omega, HV2, HC2, ⟨fun h p' h1 h2 => ?_⟩, H5⟩
                    rcases Nat.lt_or_ge pn p' with h3 | h3
                    · exact HF2.out h p' h3 h2
                    · obtain rfl : p' = pn := by omega
                      intro hne; exact absurd HQ.out hne
                  case measure => first | (simp [intOf]; done) | (simp [intOf]; omega)
                · have g2 : ((pn : Int) != q) = true := by simpa using hq
                  have HQ := hid hq
                  clear hq
                  obtain ⟨bb, hbb⟩ : ∃ bb, (nx pn)[i]? = some bb := ⟨_, List.getElem?_eq_getElem hil⟩
                  have hbn := HI.out pn bb hpn (List.mem_of_getElem? hbb)
                  obtain ⟨b2, o2, rfl, e2⟩ := HDR.out.get1 rfl (k := i) (x := (bb : Int)) (by simp [ints, hbb]) rfl
                  have e2 := H5.old e2
                  obtain ⟨y, hy⟩ : ∃ y, l2[bb]? = some y := ⟨_, List.getElem?_eq_getElem (by have := HV2.out.len; omega)⟩
                  have e3 := (H5.own_get0 0 rfl rfl hy rfl).1
                  have HY := hid hy
                  have HB := hid hbb
                  clear hy hbb
                  cases y with
                  | true =>
                    go_wp2_with (first | ((with_reducible refine at_store ?_); refine wpList_store_own H5 0 pn true rfl rfl (by omega) rfl rfl (by kernel_rfl) (by have := HV2.out.len; omega) ?_; intro wH6 H6; simp only [List.set_cons_zero, List.set_cons_succ] at H6))
                    go_roundw
                    case rel =>
                      refine ⟨l2.set pn true, true, i + 1, rfl, by go_num, by omega, ⟨HV2.out.set hpn HQ.out (List.mem_of_getElem? HB.out) HY.out⟩, ⟨?_⟩, ⟨fun h => by cases h⟩, ⟨fun h => ?_⟩, H6⟩
                      · have := falses_set HX.out
                        have := HC2.out.1
                        exact ⟨by omega, fun _ => by omega⟩
                      · rw [List.getElem?_set_self (by have := HV2.out.len; omega)] at h; cases h
                    case measure => first | (simp [intOf]; done) | (simp [intOf]; omega)
                  | false =>
                    go_wp2
                    go_roundw
                    case rel =>
                      refine ⟨l2, more2, i + 1, rfl, by go_num, by omega, HV2, HC2, HF2, ⟨fun h j b' hj hb' => ?_⟩, H5⟩
                      rcases Nat.lt_or_ge j i with h1 | h1
                      · exact HZ.out h j b' h1 hb'
                      · obtain rfl : j = i := by omega
                        rw [HB.out] at hb'
                        obtain rfl : bb = b' := by simpa using hb'
                        exact HY.out
                    case measure => first | (simp [intOf]; done) | (simp [intOf]; omega)
            · have g1 : decide ((i : Int) < ((nx pn).length : Int)) = false := by simpa using hil
              go_wp2
              go_roundw
              case rel =>
                refine ⟨l2, more2, (pn : Int) - 1, rfl, by go_num, by omega, by omega, HV2, HC2, ⟨fun h p' h1 h2 => ?_⟩, H5⟩
                rcases Nat.lt_or_ge pn p' with h3 | h3
                · exact HF2.out h p' h3 h2
                · obtain rfl : p' = pn := by omega
                  intro hne hf b hb
                  obtain ⟨j, hj⟩ := List.getElem?_of_mem hb
                  exact HZ.out hf j b (by have := (List.getElem?_eq_some_iff.1 hj).1; omega) hj
              case measure => first | (simp [intOf]; done) | (simp [intOf]; omega)
        · obtain rfl : p = -1 := by omega
          go_wp2
          go_roundg (2 * l1.count false + (if more = true then 1 else 0))
          case measure =>
            have := HG.out
            have := HC.out
            cases more with
            | true => have := HC.out.2 rfl; simp at *; omega
            | false => simp at *; omega
          case rel => exact ⟨l1, more, rfl, HV1, ⟨fun h p' hp' => HF.out h p' (by omega) hp'⟩, ⟨Nat.le_refl _⟩, H4⟩
end Go.Proofs.Ytjlikbaamefkiaa
