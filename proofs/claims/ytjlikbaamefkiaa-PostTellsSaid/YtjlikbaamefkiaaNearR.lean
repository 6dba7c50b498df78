/- louverref15.Near. -/
import Derived.Test.YtjlikbaamefkiaaTree15
namespace Go.Proofs.Ytjlikbaamefkiaa
open Go.RowKit
set_option linter.unusedVariables false
set_option linter.unusedSimpArgs false
set_option maxHeartbeats 2000000

/-- The strict ones below k. -/
noncomputable def strictL (nx : Nat → List Nat) (n : Nat) (p : Int) (k : Nat) : List Nat := (List.range k).filter fun q => decide ((q : Int) ≠ p) && domZ nx n q p
section
variable {nx : Nat → List Nat} {n : Nat} {p : Int}
theorem mem_strict {k q : Nat} : q ∈ strictL nx n p k ↔ q < k ∧ (q : Int) ≠ p ∧ domZ nx n q p = true := by
  unfold strictL
  rw [List.mem_filter]
  simp
theorem strict_succ (k : Nat) : strictL nx n p (k + 1) = strictL nx n p k ++ if ((k : Int) ≠ p ∧ domZ nx n k p = true) then [k] else [] := by
  unfold strictL
  rw [List.range_succ, List.filter_append]
  congr 1
  by_cases h : (k : Int) ≠ p ∧ domZ nx n k p = true
  · rw [if_pos h]; simp [h]
  · rw [if_neg h]
    simp
    simpa using h
theorem strict_len (k : Nat) : (strictL nx n p k).length ≤ k := by
  unfold strictL
  have := List.length_filter_le (fun q : Nat => decide ((q : Int) ≠ p) && domZ nx n q p) (List.range k)
  simpa using this
theorem domZ_true {q p : Int} (h : domZ nx n q p = true) : ∃ q' p' : Nat, q = (q' : Int) ∧ p = (p' : Int) ∧ q' ≤ n ∧ p' ≤ n ∧ Dom nx n q' p' := by
  unfold domZ at h
  split at h
  · rename_i hc
    obtain ⟨⟨h1, h2⟩, h3, h4⟩ := hc
    exact ⟨q.toNat, p.toNat, by omega, by omega, by omega, by omega, domB_iff.1 h⟩
  · cases h
theorem domZ_nat {q p : Nat} (hq : q ≤ n) (hp : p ≤ n) : domZ nx n q p = domB nx n q p := by
  unfold domZ
  rw [if_pos ⟨⟨by omega, by omega⟩, by omega, by omega⟩]
  rfl
theorem nrZ_found {x : Nat} (hx : x ∈ strictL nx n p (n + 1)) (hall : ∀ r ∈ strictL nx n p (n + 1), domZ nx n r x = true) : nrZ nx n p = x := by
  obtain ⟨h1, h2, h3⟩ := mem_strict.1 hx
  obtain ⟨q', p', e1, rfl, hq, hp, hd⟩ := domZ_true h3
  obtain rfl : x = q' := by omega
  unfold nrZ
  rw [if_pos ⟨by omega, by omega⟩]
  refine nearI_of ⟨hq, by omega, hd, fun r hr hrp hdr => ?_⟩
  have := hall r (mem_strict.2 ⟨by omega, by omega, by rw [domZ_nat hr hp]; exact domB_iff.2 hdr⟩)
  rw [domZ_nat hr hq] at this
  exact domB_iff.1 this
theorem nrZ_not (h : ∀ x ∈ strictL nx n p (n + 1), ∃ r ∈ strictL nx n p (n + 1), domZ nx n r x = false) : nrZ nx n p = -1 := by
  unfold nrZ
  split
  · rename_i hc
    obtain ⟨pn, rfl⟩ := Int.eq_ofNat_of_zero_le hc.1
    have hp : pn ≤ n := by omega
    refine nearI_none fun ⟨m, hm⟩ => ?_
    simp only [Int.toNat_natCast] at hm
    obtain ⟨r, hr, hf⟩ := h m (mem_strict.2 ⟨by have := hm.1; omega, by have := hm.2.1; omega, by rw [domZ_nat hm.1 hp]; exact domB_iff.2 hm.2.2.1⟩)
    obtain ⟨h1, h2, h3⟩ := mem_strict.1 hr
    have hrn : r ≤ n := by omega
    rw [domZ_nat hrn hp] at h3
    rw [domZ_nat hrn hm.1, domB_iff.2 (hm.2.2.2 r hrn (by omega) (domB_iff.1 h3))] at hf
    cases hf
  · rfl
end

set_option maxRecDepth 100000 in
theorem nearR_calls (f : Fun) (h : FunH) (w : World) (hR : f.Rd w h) (hn : f.code.length ≤ 1000000) (ho : ∀ i ∈ f.code, -9223372036854775808 ≤ i.a ∧ i.a ≤ 9223372036854775807) (p : Int) :
    Calls Try.prog 14 #[f.val h, I p] w fun e w' => e = .returned (nearZV (nxt f.code) f.code.length p) ∧ Mem w w' [] := by
  have HR := hid hR
  have hdm := fun (w' : World) hR' (q p : Int) => dom15_calls f h w' hR' hn ho q p
  have HT := hid hdm
  clear hR ho hdm
  obtain ⟨lv, ps, rs, lo, st, code⟩ := f
  obtain ⟨A1, c1, A2, c2, A5, c5⟩ := h
  simp only [] at hn
  have H0 : Mem w w [own Enc.i64 3 none 0 []] := (Mem.refl w).nilrow 3 1
  simp only [Fun.val] at *
  go_enter Try.func14, Try.ntmps14
  go_wp2_with (first | ((with_reducible refine at_box ?_); refine wpList_box_box H0 ?_; intro u_ gH1 wH1 hu_ H1; simp only [Act.eval, Act.put, List.setIfInBounds_toArray, List.set_cons_zero, List.set_cons_succ, Array.getD_eq_getD_getElem?, List.getElem?_toArray, List.getElem?_cons_zero, List.getElem?_cons_succ, Option.getD_some] at hu_; subst hu_; simp only [splice, vcells_int, vcells_bool, vcells_string, vcells_pointer, vcells_slice, vcells_map, vcells_func, vcells_nilFunc, vcells_iface, vcells_nilIface, vcells_agg, List.take_zero, List.take_succ_cons, List.drop_zero, List.drop_succ_cons, List.length_cons, List.length_nil, List.nil_append, List.cons_append, List.append_nil, Nat.zero_add, List.set_cons_zero, List.set_cons_succ] at H1))
  have HX0 : Hd (([] : List Nat) = strictL (nxt code) code.length p 0) := ⟨rfl⟩
  have H1 : Mem w wH1 [box gH1 27 #[.int .u64 lv, .slice A1 ps.length c1, .slice A2 rs.length c2, .int .i64 lo, .int .i64 st, .slice A5 code.length c5], own Enc.i64 3 none 0 (ints [])] := H1
  go_loopw [6, 7] (fun v6 v7 wr => ∃ (A6 : Option Addr) (c6 : Nat) (xs : List Nat) (k : Nat), v6 = .slice A6 (ints xs).length c6 ∧ v7 = .int .i64 k ∧ k ≤ code.length + 1 ∧ Hd (xs = strictL (nxt code) code.length p k) ∧ Mem w wr [box gH1 27 #[.int .u64 lv, .slice A1 ps.length c1, .slice A2 rs.length c2, .int .i64 lo, .int .i64 st, .slice A5 code.length c5], own Enc.i64 3 A6 c6 (ints xs)]) (fun _ v _ => code.length + 1 - (intOf v).toNat)
  case atStart => exact ⟨none, 0, [], 0, rfl, rfl, Nat.zero_le _, HX0, H1⟩
  case round =>
    clear H1 HX0 H0
    obtain ⟨A6, c6, xs, k, rfl, rfl, hk, HX, H2⟩ := hrel
    obtain ⟨wo, rfl⟩ : ∃ wo : World, wo = wr := ⟨_, rfl⟩
    have hil : (ints xs).length = xs.length := by simp [ints]
    have hxl : (ints xs).length ≤ 1000001 := by rw [hil, HX.out]; exact Nat.le_trans (strict_len k) (by omega)
    have HIL := hid hil
    clear hil
    have b0 := H2.cells 0 rfl
    simp only [cellsAre, and_true, Nat.zero_add] at b0
    by_cases hlt : k < code.length + 1
    · by_cases hkp : (k : Int) = p
      · have g1 : ((k : Int) == p) = true := by simpa using hkp
        have g2 : ((k : Int) != p) = false := by simpa using hkp
        have HKP := hid hkp
        clear hkp
        go_wp2
        go_roundw
        case rel => exact ⟨A6, c6, xs, k + 1, rfl, by go_num, by omega, ⟨by rw [strict_succ, if_neg (fun h => h.1 HKP.out), List.append_nil]; exact HX.out⟩, H2⟩
        case measure => first | (simp [intOf]; done) | (simp [intOf]; omega)
      · have g1 : ((k : Int) == p) = false := by simpa using hkp
        have g2 : ((k : Int) != p) = true := by simpa using hkp
        have HKP := hid hkp
        clear hkp
        cases hd : domZ (nxt code) code.length k p with
        | false =>
          have HD := hid hd
          clear hd
          go_wp2_with (first
            | (go_at_call 15; (with_reducible refine (HT.out _ (Fun.Rd.below HR.out H2.below) k p).mono ?_); rintro e w3 ⟨rfl, H3'⟩; rw [HD.out]; have H3 := H2.call H3'; simp only [List.nil_append] at H3))
          go_roundw
          case rel => exact ⟨A6, c6, xs, k + 1, rfl, by go_num, by omega, ⟨by rw [strict_succ, if_neg (fun h => by rw [HD.out] at h; cases h.2), List.append_nil]; exact HX.out⟩, H3⟩
          case measure => first | (simp [intOf]; done) | (simp [intOf]; omega)
        | true =>
          have HD := hid hd
          clear hd
          go_wp2_with (first
            | (go_at_call 15; (with_reducible refine (HT.out _ (Fun.Rd.below HR.out H2.below) k p).mono ?_); rintro e w3 ⟨rfl, H3'⟩; rw [HD.out]; have H3 := H2.call H3'; simp only [List.nil_append] at H3)
            | ((with_reducible refine at_build1 ?_); refine wpList_build1 elt_int H3 rfl rfl (by decide) ?_; intro u_ gH4 wH4 hu_ H4; simp only [Act.eval, Act.put, List.setIfInBounds_toArray, List.set_cons_zero, List.set_cons_succ, Array.getD_eq_getD_getElem?, List.getElem?_toArray, List.getElem?_cons_zero, List.getElem?_cons_succ, Option.getD_some] at hu_; subst hu_; simp only [splice, vcells_int, vcells_bool, vcells_string, vcells_pointer, vcells_slice, vcells_map, vcells_func, vcells_nilFunc, vcells_iface, vcells_nilIface, vcells_agg, List.take_zero, List.take_succ_cons, List.drop_zero, List.drop_succ_cons, List.length_cons, List.length_nil, List.nil_append, List.cons_append, List.append_nil, Nat.zero_add, List.set_cons_zero, List.set_cons_succ] at H4)
            | ((with_reducible refine at_append ?_); refine wpList_append_own1 (E := Enc.i64) elt_int H4 2 (k : Int) rfl rfl rfl rfl (H4.rd 0 rfl elt_int.pos).1 (by omega) (by decide) ?_; intro AH5 cH5 wH5 H5; simp only [List.set_cons_zero, List.set_cons_succ] at H5; replace H5 := H5.drop 0; simp only [List.eraseIdx_cons_zero] at H5))
          go_roundw
          case rel =>
            have he : ints xs ++ [(k : Int)] = ints (xs ++ [k]) := by simp [ints]
            rw [he] at H5
            exact ⟨AH5, cH5, xs ++ [k], k + 1, by rw [← he, List.length_append]; rfl, by go_num, by omega, ⟨by rw [strict_succ, if_pos ⟨HKP.out, HD.out⟩, ← HX.out]⟩, H5⟩
          case measure => first | (simp [intOf]; done) | (simp [intOf]; omega)
    · obtain rfl : k = code.length + 1 := by omega
      have HZ0 : Hd (∀ (j : Nat), j < 0 → ∀ (x : Nat), xs[j]? = some x → ∃ r ∈ xs, domZ (nxt code) code.length r x = false) := ⟨fun j hj => by omega⟩
      rw [show ((code.length + 1 : Nat) : Int) = (code.length : Int) + 1 from rfl]
      go_wp2
      clear b0 hlt hk
      go_loopw [8] (fun v8 wr => ∃ (i : Nat), v8 = .int .i64 i ∧ i ≤ (ints xs).length ∧ Hd (∀ (j : Nat), j < i → ∀ (x : Nat), xs[j]? = some x → ∃ r ∈ xs, domZ (nxt code) code.length r x = false) ∧ Mem w wr [box gH1 27 #[.int .u64 lv, .slice A1 ps.length c1, .slice A2 rs.length c2, .int .i64 lo, .int .i64 st, .slice A5 code.length c5], own Enc.i64 3 A6 c6 (ints xs)]) (fun v _ => (ints xs).length - (intOf v).toNat)
      case atStart => exact ⟨0, rfl, Nat.zero_le _, HZ0, H2⟩
      case round =>
        clear H2 HZ0
        obtain ⟨i, rfl, hi, HZ, H3⟩ := hrel
        obtain ⟨w2, rfl⟩ : ∃ w2 : World, w2 = wr := ⟨_, rfl⟩
        by_cases hlt : i < (ints xs).length
        · obtain ⟨x, hx⟩ : ∃ x, xs[i]? = some x := ⟨_, List.getElem?_eq_getElem (by rw [HIL.out] at hlt; exact hlt)⟩
          have HXI := hid hx
          clear hx
          obtain ⟨b6, o6, rfl, -⟩ := (H3.own_rd 1 rfl (by decide)).1.get1 (k := i) (x := (x : Int)) rfl (by unfold ints; rw [List.getElem?_map, HXI.out]; rfl) rfl
          have hnext : (∃ r ∈ xs, domZ (nxt code) code.length r x = false) → ∀ (j : Nat), j < i + 1 → ∀ (x : Nat), xs[j]? = some x → ∃ r ∈ xs, domZ (nxt code) code.length r x = false := fun h j hj y hy => by
            rcases Nat.lt_or_ge j i with h5 | h5
            · exact HZ.out j h5 y hy
            · obtain rfl : j = i := by omega
              rw [HXI.out] at hy
              obtain rfl := Option.some.inj hy
              exact h
          have HNX := hid hnext
          clear hnext
          go_wp2
          go_loopw [9, 10] (fun v9 v10 wr => ∃ (ok : Bool) (k : Nat), Hd (v9 = .bool ok) ∧ v10 = .int .i64 k ∧ k ≤ (ints xs).length ∧ Hd (ok = true → ∀ (j : Nat), j < k → ∀ (r : Nat), xs[j]? = some r → domZ (nxt code) code.length r x = true) ∧ Hd (ok = false → ∃ r ∈ xs, domZ (nxt code) code.length r x = false) ∧ Mem w wr [box gH1 27 #[.int .u64 lv, .slice A1 ps.length c1, .slice A2 rs.length c2, .int .i64 lo, .int .i64 st, .slice A5 code.length c5], own Enc.i64 3 (some ⟨b6, o6, none⟩) c6 (ints xs)]) (fun _ v _ => (ints xs).length - (intOf v).toNat)
          case atStart => exact ⟨true, 0, ⟨rfl⟩, rfl, Nat.zero_le _, ⟨fun _ j hj => by omega⟩, ⟨fun h => by cases h⟩, H3⟩
          case round =>
            clear H3
            obtain ⟨ok, k, HV, rfl, hk, HTT, HF, H4⟩ := hrel
            obtain rfl := HV.out
            clear HV
            obtain ⟨w3, rfl⟩ : ∃ w3 : World, w3 = wr := ⟨_, rfl⟩
            cases ok with
            | false =>
              by_cases hkl : k < (ints xs).length
              · go_wp2
                go_roundw
                case rel => exact ⟨i + 1, by go_num, by omega, ⟨HNX.out (HF.out rfl)⟩, H4⟩
                case measure => first | (simp [intOf]; done) | (simp [intOf]; omega)
              · go_wp2
                go_roundw
                case rel => exact ⟨i + 1, by go_num, by omega, ⟨HNX.out (HF.out rfl)⟩, H4⟩
                case measure => first | (simp [intOf]; done) | (simp [intOf]; omega)
            | true =>
              by_cases hkl : k < (ints xs).length
              · obtain ⟨r, hr⟩ : ∃ r, xs[k]? = some r := ⟨_, List.getElem?_eq_getElem (by rw [HIL.out] at hkl; exact hkl)⟩
                have HRK := hid hr
                clear hr
                obtain ⟨b7, o7, h7, e7⟩ := (H4.own_rd 1 rfl (by decide)).1.get1 (k := k) (x := (r : Int)) rfl (by unfold ints; rw [List.getElem?_map, HRK.out]; rfl) rfl
                obtain ⟨rfl, rfl⟩ : b6 = b7 ∧ o6 = o7 := by simp at h7; exact h7
                obtain ⟨b8, o8, h8, e8⟩ := (H4.own_rd 1 rfl (by decide)).1.get1 (k := i) (x := (x : Int)) rfl (by unfold ints; rw [List.getElem?_map, HXI.out]; rfl) rfl
                obtain ⟨rfl, rfl⟩ : b6 = b8 ∧ o6 = o8 := by simp at h8; exact h8
                have c0 := H4.cells 0 rfl
                simp only [cellsAre, and_true, Nat.zero_add] at c0
                clear h7 h8
                go_wp2
                go_region_with (first
                  | (go_at_call 15; (with_reducible refine (HT.out _ (Fun.Rd.below HR.out H4.drew.below) r x).mono ?_); rintro e w5 ⟨rfl, H5'⟩; have H5 := H4.drew.call H5'; simp only [List.nil_append] at H5))
                all_goals
                  clear e7 e8 c0 H4 H5'
                  obtain ⟨d, hd⟩ : ∃ d, d = domZ (nxt code) code.length r x := ⟨_, rfl⟩
                  rw [← hd]
                  have HD := hid hd
                  clear hd
                  go_wp2
                  go_roundw
                  case rel =>
                    refine ⟨d, k + 1, ⟨rfl⟩, by go_num, by omega, ⟨fun h j hj y hy => ?_⟩, ⟨fun h => ⟨r, List.mem_of_getElem? HRK.out, by rw [← HD.out]; exact h⟩⟩, H5⟩
                    rcases Nat.lt_or_ge j k with h5 | h5
                    · exact HTT.out (by trivial) j h5 y hy
                    · obtain rfl : j = k := by omega
                      rw [HRK.out] at hy
                      obtain rfl := Option.some.inj hy
                      rw [← HD.out]
                      exact h
                  case measure => first | (simp [intOf]; done) | (simp [intOf]; omega)
              · have hz : nrZ (nxt code) code.length p = x := by
                  refine nrZ_found (by rw [← HX.out]; exact List.mem_of_getElem? HXI.out) fun r hr => ?_
                  rw [← HX.out] at hr
                  obtain ⟨j, hj⟩ := List.getElem?_of_mem hr
                  exact HTT.out (by trivial) j (by have := (List.getElem?_eq_some_iff.1 hj).1; rw [HIL.out] at hkl; omega) r hj
                have HNZ := hid hz
                obtain ⟨b8, o8, h8, e8⟩ := (H4.own_rd 1 rfl (by decide)).1.get1 (k := i) (x := (x : Int)) rfl (by unfold ints; rw [List.getElem?_map, HXI.out]; rfl) rfl
                obtain ⟨rfl, rfl⟩ : b6 = b8 ∧ o6 = o8 := by simp at h8; exact h8
                clear hz h8
                go_wp2
                go_ret2
                refine ⟨?_, (H4.drop 0).drop 0⟩
                unfold nearZV
                rw [HNZ.out]
                simp
                done
        · have hz : nrZ (nxt code) code.length p = -1 := by
            refine nrZ_not fun x hx => ?_
            rw [← HX.out] at hx ⊢
            obtain ⟨j, hj⟩ := List.getElem?_of_mem hx
            exact HZ.out j (by have := (List.getElem?_eq_some_iff.1 hj).1; rw [HIL.out] at hlt hi; omega) x hj
          have HNZ := hid hz
          clear hz
          go_wp2
          go_ret2
          refine ⟨?_, (H3.drop 0).drop 0⟩
          unfold nearZV
          rw [HNZ.out]
          rfl
end Go.Proofs.Ytjlikbaamefkiaa
