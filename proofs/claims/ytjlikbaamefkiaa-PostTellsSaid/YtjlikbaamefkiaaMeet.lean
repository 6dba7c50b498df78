/- post.Tree$1: two nodes brought to their nearest common one. -/
import Derived.Test.YtjlikbaamefkiaaDom
import Derived.Deep.LoopGhost
namespace Go.Proofs.Ytjlikbaamefkiaa
open Go.RowKit
set_option linter.unusedVariables false
set_option linter.unusedSimpArgs false
set_option maxHeartbeats 800000

/-- The table of the nearest ones known, as it is kept: -1 is none. -/
def nrI (f : Nat → Option Nat) (x : Nat) : Int := match f x with | none => -1 | some y => y
structure Near1 (nx : Nat → List Nat) (n : Nat) (pl : Nat → Nat) (f : Nat → Option Nat) (ps ns : List Int) : Prop where
  hP : Places nx n pl
  hC : Chk nx n pl f
  lp : ps.length = n + 1
  ln : ns.length = n + 1
  ps : ∀ x, Av nx n (-1) x → ps[x]? = some (pl x : Int)
  ns : ∀ x, x ≤ n → ns[x]? = some (nrI f x)
  bd : ∀ x, Av nx n (-1) x → pl x ≤ n
theorem Near1.get {nx : Nat → List Nat} {n : Nat} {pl : Nat → Nat} {f : Nat → Option Nat} {ps ns : List Int} (h : Near1 nx n pl f ps ns) {x : Nat} (hx : f x ≠ none) : ∃ y : Nat, f x = some y ∧ ps[x]? = some (pl x : Int) ∧ ns[x]? = some (y : Int) ∧ x ≤ n ∧ pl x ≤ n := by
  cases hf : f x with
  | none => exact absurd hf hx
  | some y =>
    have hr := h.hC.rch x y hf
    exact ⟨y, rfl, h.ps x hr, by rw [h.ns x (h.hP.lt x hr)]; simp [nrI, hf], h.hP.lt x hr, h.bd x hr⟩

set_option maxRecDepth 100000 in
theorem meet_calls (nx : Nat → List Nat) (n : Nat) (pl : Nat → Nat) (f : Nat → Option Nat) (ps ns : List Int) (hN : Near1 nx n pl f ps ns) (hn : n ≤ 1000000) (a b : Nat) (ha : f a ≠ none) (hb : f b ≠ none) (gp gn : Nat) (A1 A2 : Option Addr) (c1 c2 : Nat) (w : World)
    (h1 : w.cell? ⟨gp, 0, none⟩ = some (.slice A1 (n + 1) c1)) (h2 : w.cell? ⟨gn, 0, none⟩ = some (.slice A2 (n + 1) c2)) (r1 : Rd Enc.i64 w A1 ps) (r2 : Rd Enc.i64 w A2 ns) :
    Calls Try.prog 26 #[I a, I b, pt gp, pt gn] w fun e w' => ∃ c : Nat, e = .returned (I c) ∧ Meets nx n f a b c c ∧ Mem w w' [] := by
  have HN := hid hN
  have R1 := hid r1
  have R2 := hid r2
  have HM : Hd (Meets nx n f a b a b) := ⟨Meets.refl ha hb⟩
  have H0 := Mem.refl w
  clear hN r1 r2 ha hb
  go_enter Try.func26, Try.ntmps26
  go_wp2
  go_loopw [0, 1] (fun u v wr => ∃ (x y : Nat), u = .int .i64 x ∧ v = .int .i64 y ∧ Hd (Meets nx n f a b x y) ∧ Mem w wr []) (fun u v _ => pl (intOf u).toNat + pl (intOf v).toNat)
  case atStart => exact ⟨a, b, rfl, rfl, HM, H0⟩
  case round =>
    clear H0 HM
    obtain ⟨x, y, rfl, rfl, HM, H1⟩ := hrel
    obtain ⟨wo, rfl⟩ : ∃ wo : World, wo = wr := ⟨_, rfl⟩
    by_cases hxy : x = y
    · have g1 : ((x : Int) == (y : Int)) = true := by simp [hxy]
      have g2 : ((x : Int) != (y : Int)) = false := by simp [hxy]
      have HXY := hid hxy
      clear hxy
      go_wp2
      go_ret
      exact ⟨x, rfl, by have := HM.out; rw [← HXY.out] at this; exact this, H1⟩
    · have g1 : ((x : Int) == (y : Int)) = false := by simp; omega
      have g2 : ((x : Int) != (y : Int)) = true := by simp; omega
      have HXY := hid hxy
      clear hxy
      go_wp2
      go_loopw [0] (fun u wr => ∃ (x' : Nat), u = .int .i64 x' ∧ Hd (Meets nx n f a b x' y) ∧ Hd (x' = x ∨ pl x' < pl x) ∧ Mem w wr []) (fun u _ => pl (intOf u).toNat)
      case atStart => exact ⟨x, rfl, HM, ⟨.inl rfl⟩, H1⟩
      case round =>
        clear H1 HM
        obtain ⟨x', rfl, HM, HX, H2⟩ := hrel
        obtain ⟨w2, rfl⟩ : ∃ w2 : World, w2 = wr := ⟨_, rfl⟩
        obtain ⟨fx, hfx, px, qx, xn, xb⟩ := HN.out.get HM.out.pa
        obtain ⟨fy, hfy, py, qy, yn, yb⟩ := HN.out.get HM.out.pb
        obtain ⟨b1, o1, rfl, p1⟩ := R1.out.get1 rfl px rfl
        obtain ⟨b2, o2, h3, p2⟩ := R1.out.get1 rfl py rfl
        obtain ⟨rfl, rfl⟩ : b2 = b1 ∧ o2 = o1 := by simp at h3; exact ⟨h3.1.symm, h3.2.symm⟩
        obtain ⟨b3, o3, rfl, p3⟩ := R2.out.get1 rfl qx rfl
        have e1 := H2.old p1
        have e2 := H2.old p2
        have k1 := H2.old h1
        have HF := hid hfx
        clear px py qx qy hfx hfy h3
        by_cases hlt : pl y < pl x'
        · go_wp2
          go_quiet (fail)
          have H3 := H2.drewN nq
          obtain ⟨w3, hw3⟩ : ∃ w3, w3 = w2.drewN nq := ⟨_, rfl⟩
          rw [← hw3] at H3 ⊢
          clear e1 e2 k1 hw3
          have e3 := H3.old p3
          have k2 := H3.old h2
          go_wp2
          go_roundw
          case rel =>
            refine ⟨fx, rfl, ⟨HM.out.left HN.out.hP HN.out.hC hlt HF.out⟩, ⟨.inr ?_⟩, H3⟩
            have hne : x' ≠ n := fun e => by rw [e, HN.out.hP.top] at hlt; omega
            have h5 := (HN.out.hC.down _ _ HF.out hne).2
            rcases HX.out with rfl | h6 <;> omega
          case measure =>
            have hne : x' ≠ n := fun e => by rw [e, HN.out.hP.top] at hlt; omega
            have h5 := (HN.out.hC.down _ _ HF.out hne).2
            simpa [intOf] using h5
        · go_wp2
          go_quiet (fail)
          have H3 := H2.drewN nq
          obtain ⟨w3, hw3⟩ : ∃ w3, w3 = w2.drewN nq := ⟨_, rfl⟩
          rw [← hw3] at H3 ⊢
          clear e1 e2 p2 p3 k1 hw3 H2 yn yb fy
          go_wp2
          go_loopw [1] (fun u wr => ∃ (y' : Nat), u = .int .i64 y' ∧ Hd (Meets nx n f a b x' y') ∧ Hd (y' = y ∨ pl y' < pl y) ∧ Mem w wr []) (fun u _ => pl (intOf u).toNat)
          case atStart => exact ⟨y, rfl, HM, ⟨.inl rfl⟩, H3⟩
          case round =>
            clear H3 HM HF
            obtain ⟨y', rfl, HM, HY, H4⟩ := hrel
            obtain ⟨w4, rfl⟩ : ∃ w4 : World, w4 = wr := ⟨_, rfl⟩
            obtain ⟨fy, hfy, py, qy, yn, yb⟩ := HN.out.get HM.out.pb
            obtain ⟨b5, o5, h5, p2⟩ := R1.out.get1 rfl py rfl
            obtain ⟨rfl, rfl⟩ : b5 = b2 ∧ o5 = o2 := by simp at h5; exact ⟨h5.1.symm, h5.2.symm⟩
            obtain ⟨b6, o6, h6, p3⟩ := R2.out.get1 rfl qy rfl
            obtain ⟨rfl, rfl⟩ : b6 = b3 ∧ o6 = o3 := by simp at h6; exact ⟨h6.1.symm, h6.2.symm⟩
            have e1 := H4.old p1
            have e2 := H4.old p2
            have k1 := H4.old h1
            have HF := hid hfy
            clear py qy hfy h5 h6
            by_cases hlt2 : pl x' < pl y'
            · go_wp2
              go_quiet (fail)
              have H5 := H4.drewN nq
              obtain ⟨w5, hw5⟩ : ∃ w5, w5 = w4.drewN nq := ⟨_, rfl⟩
              rw [← hw5] at H5 ⊢
              clear e1 e2 k1 hw5
              have e3 := H5.old p3
              have k2 := H5.old h2
              go_wp2
              go_roundw
              case rel =>
                refine ⟨fy, rfl, ⟨(HM.out.symm.left HN.out.hP HN.out.hC hlt2 HF.out).symm⟩, ⟨.inr ?_⟩, H5⟩
                have hne : y' ≠ n := fun e => by rw [e, HN.out.hP.top] at hlt2; omega
                have h5 := (HN.out.hC.down _ _ HF.out hne).2
                rcases HY.out with rfl | h6 <;> omega
              case measure =>
                have hne : y' ≠ n := fun e => by rw [e, HN.out.hP.top] at hlt2; omega
                have h5 := (HN.out.hC.down _ _ HF.out hne).2
                simpa [intOf] using h5
            · go_wp2
              go_quiet (fail)
              have H5 := H4.drewN nq
              obtain ⟨w5, hw5⟩ : ∃ w5, w5 = w4.drewN nq := ⟨_, rfl⟩
              rw [← hw5] at H5 ⊢
              clear e1 e2 k1 hw5 H4
              go_wp2
              go_roundw
              case rel => exact ⟨x', y', rfl, rfl, HM, H5⟩
              case measure =>
                have key : pl x' + pl y' < pl x + pl y := by
                  rcases HX.out with h6 | h6 <;> rcases HY.out with h7 | h7
                  · exfalso
                    subst h6; subst h7
                    obtain ⟨zx, hzx⟩ := Option.ne_none_iff_exists'.1 HM.out.pa
                    obtain ⟨zy, hzy⟩ := Option.ne_none_iff_exists'.1 HM.out.pb
                    exact HXY.out (HN.out.hP.inj _ _ (HN.out.hC.rch _ _ hzx) (HN.out.hC.rch _ _ hzy) (by omega))
                  · subst h6; omega
                  · subst h7; omega
                  · omega
                simpa [intOf] using key
end Go.Proofs.Ytjlikbaamefkiaa
