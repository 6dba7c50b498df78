/- Names: names that are in order; expressions, statements that are. -/
import Derived.Test.YtogndpckiognjaaNmF
import Derived.Laws.IdiomStrings
namespace Go.Proofs.Ytogndpckiognjaa
open Go.RowKit
set_option linter.unusedVariables false
set_option linter.unusedSimpArgs false
set_option maxHeartbeats 2000000
def kwds : List ByteArray := [⟨#[112, 114, 105, 110, 99, 105, 112, 97, 108]⟩, ⟨#[103, 108, 111, 98, 97, 108]⟩, ⟨#[97, 114, 114, 97, 121]⟩, ⟨#[99, 104, 97, 110, 110, 101, 108]⟩, ⟨#[102, 117, 110, 99]⟩, ⟨#[118, 97, 114]⟩, ⟨#[105, 102]⟩, ⟨#[101, 108, 115, 101]⟩, ⟨#[119, 104, 105, 108, 101]⟩, ⟨#[115, 101, 110, 100]⟩, ⟨#[114, 101, 116, 117, 114, 110]⟩]
/-- Is a byte one of a name's, at a place? -/
def byteOk (i : Nat) (b : UInt8) : Bool := (decide (97 ≤ b.toNat) && decide (b.toNat ≤ 122)) || b.toNat == 95 || (decide (0 < i) && decide (48 ≤ b.toNat) && decide (b.toNat ≤ 57))
def bytesOk : Nat → List UInt8 → Bool
  | _, [] => true
  | i, b :: l => byteOk i b && bytesOk (i + 1) l
/-- Is a text a name? -/
def isKwd (s : ByteArray) : Bool := kwds.any fun k => decide (s = k)
def nameOk (s : ByteArray) : Bool := !isKwd s && bytesOk 0 s.data.toList && decide (1 ≤ s.size) && decide (s.size ≤ 32)
theorem bytesOk_drop {l : List UInt8} {k : Nat} {x : UInt8} (h : l[k]? = some x) (hx : byteOk k x = true) : bytesOk k (l.drop k) = bytesOk (k + 1) (l.drop (k + 1)) := by
  obtain ⟨hk, rfl⟩ := List.getElem?_eq_some_iff.1 h
  rw [List.drop_eq_getElem_cons hk]
  rw [bytesOk, hx, Bool.true_and]
theorem bytesOk_bad {l : List UInt8} {k : Nat} {x : UInt8} (h : l[k]? = some x) (hx : byteOk k x = false) : bytesOk k (l.drop k) = false := by
  obtain ⟨hk, rfl⟩ := List.getElem?_eq_some_iff.1 h
  rw [List.drop_eq_getElem_cons hk]
  rw [bytesOk, hx, Bool.false_and]
theorem sNeL {s : ByteArray} {l : List UInt8} (h : ¬ s = ⟨l.toArray⟩) : (s.toList == l) = false := by
  have := sNe h
  rwa [ByteArray.toList_eq (⟨l.toArray⟩ : ByteArray)] at this
theorem sizeL (s : ByteArray) : s.data.toList.length = s.size := rfl
/-- The bytes of a text, laid. -/
def LaidB (g : Nat) (s : ByteArray) (w : World) : Prop := ∀ (j : Nat) (x : UInt8), s.data.toList[j]? = some x → w.cell? ⟨g, j, none⟩ = some (.int .u8 x.toNat)
theorem laidB (w : World) (s : ByteArray) (cap : Nat) (e : TypeId) (fz : Nat × Nat) : LaidB w.heap.size s (w.drew.alloc (.cells (bytesRow s cap) e fz)) := by
  intro j x hx
  have hj : j < s.data.size := by have := (List.getElem?_eq_some_iff.1 hx).1; rwa [Array.length_toList] at this
  have hh : (w.drew.alloc (.cells (bytesRow s cap) e fz)).heap[w.heap.size]? = some (.cells (bytesRow s cap) e fz) := heap_alloc_new w.drew _
  rw [cell_of_row _ w.heap.size j (bytesRow s cap) e fz hh]
  unfold bytesRow
  rw [Array.getElem?_append_left (by rw [Array.size_map]; exact hj), Array.getElem?_map]
  have : s.data[j]? = some x := by rw [← hx]; simp
  rw [this]
  rfl
set_option maxRecDepth 100000 in
theorem name_calls (s : ByteArray) (w : World) (hs : s.size ≤ 2000000) : Calls Try.prog 8 #[.string s] w fun e w' => e = .returned (.bool (nameOk s)) ∧ Mem w w' [] := by
  have hc := fun (w : World) => run_bytes_of_string (P := Try.prog) w 9 75 5 s Try.underlying9 Try.underlying75 Try.underlying5
  by_cases k0 : s = ⟨#[112, 114, 105, 110, 99, 105, 112, 97, 108]⟩
  · have hv : nameOk s = false := by unfold nameOk; rw [show isKwd s = true from (by rw [k0]; decide)]; rfl
    have HV := hid hv
    subst k0
    clear hv hs hc 
    go_enter Try.func8, Try.ntmps8
    go_wp2
    go_ret
    rw [HV.out]
    exact ⟨rfl, Mem.refl _⟩
  by_cases k1 : s = ⟨#[103, 108, 111, 98, 97, 108]⟩
  · have hv : nameOk s = false := by unfold nameOk; rw [show isKwd s = true from (by rw [k1]; decide)]; rfl
    have HV := hid hv
    have f0 := sNeL k0
    subst k1
    clear hv hs hc k0
    go_enter Try.func8, Try.ntmps8
    go_wp2
    go_ret
    rw [HV.out]
    exact ⟨rfl, Mem.refl _⟩
  by_cases k2 : s = ⟨#[97, 114, 114, 97, 121]⟩
  · have hv : nameOk s = false := by unfold nameOk; rw [show isKwd s = true from (by rw [k2]; decide)]; rfl
    have HV := hid hv
    have f0 := sNeL k0
    have f1 := sNeL k1
    subst k2
    clear hv hs hc k0 k1
    go_enter Try.func8, Try.ntmps8
    go_wp2
    go_ret
    rw [HV.out]
    exact ⟨rfl, Mem.refl _⟩
  by_cases k3 : s = ⟨#[99, 104, 97, 110, 110, 101, 108]⟩
  · have hv : nameOk s = false := by unfold nameOk; rw [show isKwd s = true from (by rw [k3]; decide)]; rfl
    have HV := hid hv
    have f0 := sNeL k0
    have f1 := sNeL k1
    have f2 := sNeL k2
    subst k3
    clear hv hs hc k0 k1 k2
    go_enter Try.func8, Try.ntmps8
    go_wp2
    go_ret
    rw [HV.out]
    exact ⟨rfl, Mem.refl _⟩
  by_cases k4 : s = ⟨#[102, 117, 110, 99]⟩
  · have hv : nameOk s = false := by unfold nameOk; rw [show isKwd s = true from (by rw [k4]; decide)]; rfl
    have HV := hid hv
    have f0 := sNeL k0
    have f1 := sNeL k1
    have f2 := sNeL k2
    have f3 := sNeL k3
    subst k4
    clear hv hs hc k0 k1 k2 k3
    go_enter Try.func8, Try.ntmps8
    go_wp2
    go_ret
    rw [HV.out]
    exact ⟨rfl, Mem.refl _⟩
  by_cases k5 : s = ⟨#[118, 97, 114]⟩
  · have hv : nameOk s = false := by unfold nameOk; rw [show isKwd s = true from (by rw [k5]; decide)]; rfl
    have HV := hid hv
    have f0 := sNeL k0
    have f1 := sNeL k1
    have f2 := sNeL k2
    have f3 := sNeL k3
    have f4 := sNeL k4
    subst k5
    clear hv hs hc k0 k1 k2 k3 k4
    go_enter Try.func8, Try.ntmps8
    go_wp2
    go_ret
    rw [HV.out]
    exact ⟨rfl, Mem.refl _⟩
  by_cases k6 : s = ⟨#[105, 102]⟩
  · have hv : nameOk s = false := by unfold nameOk; rw [show isKwd s = true from (by rw [k6]; decide)]; rfl
    have HV := hid hv
    have f0 := sNeL k0
    have f1 := sNeL k1
    have f2 := sNeL k2
    have f3 := sNeL k3
    have f4 := sNeL k4
    have f5 := sNeL k5
    subst k6
    clear hv hs hc k0 k1 k2 k3 k4 k5
    go_enter Try.func8, Try.ntmps8
    go_wp2
    go_ret
    rw [HV.out]
    exact ⟨rfl, Mem.refl _⟩
  by_cases k7 : s = ⟨#[101, 108, 115, 101]⟩
  · have hv : nameOk s = false := by unfold nameOk; rw [show isKwd s = true from (by rw [k7]; decide)]; rfl
    have HV := hid hv
    have f0 := sNeL k0
    have f1 := sNeL k1
    have f2 := sNeL k2
    have f3 := sNeL k3
    have f4 := sNeL k4
    have f5 := sNeL k5
    have f6 := sNeL k6
    subst k7
    clear hv hs hc k0 k1 k2 k3 k4 k5 k6
    go_enter Try.func8, Try.ntmps8
    go_wp2
    go_ret
    rw [HV.out]
    exact ⟨rfl, Mem.refl _⟩
  by_cases k8 : s = ⟨#[119, 104, 105, 108, 101]⟩
  · have hv : nameOk s = false := by unfold nameOk; rw [show isKwd s = true from (by rw [k8]; decide)]; rfl
    have HV := hid hv
    have f0 := sNeL k0
    have f1 := sNeL k1
    have f2 := sNeL k2
    have f3 := sNeL k3
    have f4 := sNeL k4
    have f5 := sNeL k5
    have f6 := sNeL k6
    have f7 := sNeL k7
    subst k8
    clear hv hs hc k0 k1 k2 k3 k4 k5 k6 k7
    go_enter Try.func8, Try.ntmps8
    go_wp2
    go_ret
    rw [HV.out]
    exact ⟨rfl, Mem.refl _⟩
  by_cases k9 : s = ⟨#[115, 101, 110, 100]⟩
  · have hv : nameOk s = false := by unfold nameOk; rw [show isKwd s = true from (by rw [k9]; decide)]; rfl
    have HV := hid hv
    have f0 := sNeL k0
    have f1 := sNeL k1
    have f2 := sNeL k2
    have f3 := sNeL k3
    have f4 := sNeL k4
    have f5 := sNeL k5
    have f6 := sNeL k6
    have f7 := sNeL k7
    have f8 := sNeL k8
    subst k9
    clear hv hs hc k0 k1 k2 k3 k4 k5 k6 k7 k8
    go_enter Try.func8, Try.ntmps8
    go_wp2
    go_ret
    rw [HV.out]
    exact ⟨rfl, Mem.refl _⟩
  by_cases k10 : s = ⟨#[114, 101, 116, 117, 114, 110]⟩
  · have hv : nameOk s = false := by unfold nameOk; rw [show isKwd s = true from (by rw [k10]; decide)]; rfl
    have HV := hid hv
    have f0 := sNeL k0
    have f1 := sNeL k1
    have f2 := sNeL k2
    have f3 := sNeL k3
    have f4 := sNeL k4
    have f5 := sNeL k5
    have f6 := sNeL k6
    have f7 := sNeL k7
    have f8 := sNeL k8
    have f9 := sNeL k9
    subst k10
    clear hv hs hc k0 k1 k2 k3 k4 k5 k6 k7 k8 k9
    go_enter Try.func8, Try.ntmps8
    go_wp2
    go_ret
    rw [HV.out]
    exact ⟨rfl, Mem.refl _⟩
  have hk : isKwd s = false := by simp [isKwd, kwds, k0, k1, k2, k3, k4, k5, k6, k7, k8, k9, k10]
  have f0 := sNeL k0
  have f1 := sNeL k1
  have f2 := sNeL k2
  have f3 := sNeL k3
  have f4 := sNeL k4
  have f5 := sNeL k5
  have f6 := sNeL k6
  have f7 := sNeL k7
  have f8 := sNeL k8
  have f9 := sNeL k9
  have f10 := sNeL k10
  clear k0 k1 k2 k3 k4 k5 k6 k7 k8 k9 k10
  have HS := hid hk
  clear hk
  obtain ⟨W, hW⟩ : ∃ W, W = w.drew.alloc (.cells (bytesRow s (grownCap w s.size 0 5)) 5 ((bytesRow s (grownCap w s.size 0 5)).size, (bytesRow s (grownCap w s.size 0 5)).size + 1)) := ⟨_, rfl⟩
  have hL : LaidB w.heap.size s W := by rw [hW]; exact laidB w s _ _ _
  have hM : Mem w W [] := by rw [hW]; exact ⟨fun _ => False, fun _ h => h, fun _ h => h.elim, (Below.refl _ w).drew.alloc (Nat.le_refl _) _⟩
  obtain ⟨cap, hcap⟩ : ∃ c, c = grownCap w s.size 0 5 := ⟨_, rfl⟩
  obtain ⟨g, hg⟩ : ∃ c, c = w.heap.size := ⟨_, rfl⟩
  have hc' : Sem.run Try.prog (convert 9 75 (.string s)) w = .ok (.slice (some ⟨g, 0, none⟩) s.size cap) W := by rw [hc, ← hW, ← hcap, ← hg]
  rw [← hg] at hL
  have HL := hid hL
  clear hc hL hcap hW hg
  go_enter Try.func8, Try.ntmps8
  go_wp2
  clear hc'
  go_loopw [21] (fun v wr => ∃ k : Nat, v = .int .i64 k ∧ k ≤ s.size ∧ Hd (bytesOk 0 s.data.toList = bytesOk k (s.data.toList.drop k)) ∧ Mem w wr [] ∧ LaidB g s wr) (fun v _ => s.size - (intOf v).toNat)
  case atStart => exact ⟨0, rfl, Nat.zero_le _, ⟨rfl⟩, hM, HL.out⟩
  case round =>
    clear hM HL
    obtain ⟨k, rfl, hk, HT, H1, hL⟩ := hrel
    obtain ⟨wo, rfl⟩ : ∃ wo : World, wo = wr := ⟨_, rfl⟩
    by_cases hlt : k < s.size
    · obtain ⟨x, hx⟩ : ∃ x, s.data.toList[k]? = some x := ⟨_, List.getElem?_eq_getElem (by rw [sizeL]; exact hlt)⟩
      have e1 := hL k x hx
      have hbx : byteOk k x = byteOk k x := rfl
      have hok := fun h => bytesOk_drop (k := k) hx h
      have hbad := fun h => bytesOk_bad (k := k) hx h
      have HLL := hid hL
      have OK := hid hok
      have BAD := hid hbad
      clear hx hL hok hbad hbx
      obtain ⟨n, hn⟩ : ∃ n : Nat, n = x.toNat := ⟨_, rfl⟩
      have hbo : byteOk k x = ((decide (97 ≤ n) && decide (n ≤ 122)) || n == 95 || (decide (0 < k) && decide (48 ≤ n) && decide (n ≤ 57))) := by rw [hn]; rfl
      rw [← hn] at e1
      have HBO := hid hbo
      clear hn hbo
      by_cases qa : 97 ≤ n
      · by_cases qb : n ≤ 122
        · have ga : decide ((97 : Int) ≤ (n : Int)) = true := by simp; omega
          have gb : decide ((n : Int) ≤ 122) = true := by simp; omega
          have hv : byteOk k x = true := by rw [HBO.out]; simp; omega
          have HV := hid hv
          clear hv
          go_wp2
          go_roundw
          case rel => exact ⟨k + 1, by go_num, by omega, ⟨HT.out.trans (OK.out HV.out)⟩, H1, HLL.out⟩
          case measure => first | (simp [intOf]; done) | (simp [intOf]; omega)
        · by_cases qd : 0 < k
          · have ga : decide ((97 : Int) ≤ (n : Int)) = true := by simp; omega
            have gb : decide ((n : Int) ≤ 122) = false := by simp; omega
            have gc : ((n : Int) == 95) = false := by simp; omega
            have gd : decide (0 < k) = true := by simp; omega
            have ge : decide ((48 : Int) ≤ (n : Int)) = true := by simp; omega
            have gf : decide ((n : Int) ≤ 57) = false := by simp; omega
            have hv : byteOk k x = false := by rw [HBO.out]; simp; omega
            have HV := hid hv
            clear hv
            go_wp2
            go_ret
            refine ⟨?_, H1⟩
            have : nameOk s = false := by unfold nameOk; rw [HT.out, BAD.out HV.out]; simp
            rw [this]
            rfl
          · have ga : decide ((97 : Int) ≤ (n : Int)) = true := by simp; omega
            have gb : decide ((n : Int) ≤ 122) = false := by simp; omega
            have gc : ((n : Int) == 95) = false := by simp; omega
            have gd : decide (0 < k) = false := by simp; omega
            have hv : byteOk k x = false := by rw [HBO.out]; simp; omega
            have HV := hid hv
            clear hv
            go_wp2
            go_ret
            refine ⟨?_, H1⟩
            have : nameOk s = false := by unfold nameOk; rw [HT.out, BAD.out HV.out]; simp
            rw [this]
            rfl
      · by_cases qc : n = 95
        · have ga : decide ((97 : Int) ≤ (n : Int)) = false := by simp; omega
          have gc : ((n : Int) == 95) = true := by simp; omega
          have hv : byteOk k x = true := by rw [HBO.out]; simp; omega
          have HV := hid hv
          clear hv
          go_wp2
          go_roundw
          case rel => exact ⟨k + 1, by go_num, by omega, ⟨HT.out.trans (OK.out HV.out)⟩, H1, HLL.out⟩
          case measure => first | (simp [intOf]; done) | (simp [intOf]; omega)
        · by_cases qd : 0 < k
          · by_cases qe : 48 ≤ n
            · by_cases qf : n ≤ 57
              · have ga : decide ((97 : Int) ≤ (n : Int)) = false := by simp; omega
                have gc : ((n : Int) == 95) = false := by simp; omega
                have gd : decide (0 < k) = true := by simp; omega
                have ge : decide ((48 : Int) ≤ (n : Int)) = true := by simp; omega
                have gf : decide ((n : Int) ≤ 57) = true := by simp; omega
                have hv : byteOk k x = true := by rw [HBO.out]; simp; omega
                have HV := hid hv
                clear hv
                go_wp2
                go_roundw
                case rel => exact ⟨k + 1, by go_num, by omega, ⟨HT.out.trans (OK.out HV.out)⟩, H1, HLL.out⟩
                case measure => first | (simp [intOf]; done) | (simp [intOf]; omega)
              · have ga : decide ((97 : Int) ≤ (n : Int)) = false := by simp; omega
                have gc : ((n : Int) == 95) = false := by simp; omega
                have gd : decide (0 < k) = true := by simp; omega
                have ge : decide ((48 : Int) ≤ (n : Int)) = true := by simp; omega
                have gf : decide ((n : Int) ≤ 57) = false := by simp; omega
                have hv : byteOk k x = false := by rw [HBO.out]; simp; omega
                have HV := hid hv
                clear hv
                go_wp2
                go_ret
                refine ⟨?_, H1⟩
                have : nameOk s = false := by unfold nameOk; rw [HT.out, BAD.out HV.out]; simp
                rw [this]
                rfl
            · have ga : decide ((97 : Int) ≤ (n : Int)) = false := by simp; omega
              have gc : ((n : Int) == 95) = false := by simp; omega
              have gd : decide (0 < k) = true := by simp; omega
              have ge : decide ((48 : Int) ≤ (n : Int)) = false := by simp; omega
              have hv : byteOk k x = false := by rw [HBO.out]; simp; omega
              have HV := hid hv
              clear hv
              go_wp2
              go_ret
              refine ⟨?_, H1⟩
              have : nameOk s = false := by unfold nameOk; rw [HT.out, BAD.out HV.out]; simp
              rw [this]
              rfl
          · have ga : decide ((97 : Int) ≤ (n : Int)) = false := by simp; omega
            have gc : ((n : Int) == 95) = false := by simp; omega
            have gd : decide (0 < k) = false := by simp; omega
            have hv : byteOk k x = false := by rw [HBO.out]; simp; omega
            have HV := hid hv
            clear hv
            go_wp2
            go_ret
            refine ⟨?_, H1⟩
            have : nameOk s = false := by unfold nameOk; rw [HT.out, BAD.out HV.out]; simp
            rw [this]
            rfl
    · obtain rfl : k = s.size := by omega
      have hb : bytesOk 0 s.data.toList = true := by rw [HT.out, List.drop_eq_nil_of_le (by rw [sizeL]; omega)]; rfl
      have hv : nameOk s = (decide (1 ≤ s.size) && decide (s.size ≤ 32)) := by unfold nameOk; rw [HS.out, hb]; simp
      have HV := hid hv
      clear hb hv hL
      by_cases h1 : 1 ≤ s.size
      · have g1 : decide ((1 : Int) ≤ (s.size : Int)) = true := by simp; omega
        by_cases h2 : s.size ≤ 32
        · have g2 : decide ((s.size : Int) ≤ 32) = true := by simp; omega
          have hv : nameOk s = true := by rw [HV.out]; simp [h1, h2]
          have HV2 := hid hv
          clear hv
          go_wp2
          go_ret
          refine ⟨?_, H1⟩
          rw [HV2.out]
          rfl
        · have g2 : decide ((s.size : Int) ≤ 32) = false := by simp; omega
          have hv : nameOk s = false := by rw [HV.out]; simp [h1, h2]
          have HV2 := hid hv
          clear hv
          go_wp2
          go_ret
          refine ⟨?_, H1⟩
          rw [HV2.out]
          rfl
      · have g1 : decide ((1 : Int) ≤ (s.size : Int)) = false := by simp; omega
        have hv : nameOk s = false := by rw [HV.out]; simp [h1]
        have HV2 := hid hv
        clear hv
        go_wp2
        go_ret
        refine ⟨?_, H1⟩
        rw [HV2.out]
        rfl
end Go.Proofs.Ytogndpckiognjaa
