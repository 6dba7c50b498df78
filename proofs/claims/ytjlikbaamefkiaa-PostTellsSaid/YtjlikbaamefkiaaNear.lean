/- post.above, post.Near, post.Dominates. -/
import Derived.Test.YtjlikbaamefkiaaAll
namespace Go.Proofs.Ytjlikbaamefkiaa
open Go.RowKit
set_option linter.unusedVariables false
set_option linter.unusedSimpArgs false
set_option maxHeartbeats 2000000

noncomputable def domO (nx : Nat → List Nat) (n q : Nat) (o : Option Nat) : Bool := match o with | none => false | some x => domB nx n q x
set_option maxRecDepth 100000 in
theorem above_calls (nx : Nat → List Nat) (n q p : Nat) (hA : NearAll nx n) (hq : q ≤ n) (hp : p ≤ n) (hn : n ≤ 1000000) (A : Option Addr) (c : Nat) (w : World) (hR : Rd Enc.i64 w A (treeL nx n)) :
    Calls Try.prog 29 #[.slice A (n + 1) c, I q, I p] w fun e w' => e = .returned (.bool (domB nx n q p)) ∧ Mem w w' [] := by
  have HA := hid hA
  have HR := hid hR
  clear hA hR
  have H0 := Mem.refl w
  go_enter Try.func29, Try.ntmps29
  obtain ⟨b0, o0, rfl, d0⟩ := HR.out.get1 rfl (treeL_get hp) rfl
  by_cases hr : Av nx n (-1) p
  · have HC0 : Hd (∀ x, some p = some x → Av nx n (-1) x) := ⟨fun x hx => by obtain rfl := Option.some.inj hx; exact hr⟩
    have HD0 : Hd (domO nx n q (some p) = domB nx n q p) := ⟨rfl⟩
    have hnp : (∃ m : Nat, nearI nx n p = (m : Int) ∧ p ≠ n) ∨ (p = n) := by
      rcases chain_next HA.out hr with ⟨h1, h2⟩ | ⟨h1, m, _, h2⟩
      · exact .inr h1
      · exact .inl ⟨m, h2, h1⟩
    clear hr
    rcases hnp with ⟨m, hm, hpn⟩ | hpn
    · rw [hm] at d0
      have k1 : ((p : Int) == (n : Int)) = false := by simp <;> omega
      have k2 : ((p : Int) != (n : Int)) = true := by simp <;> omega
      clear hm hpn
      go_wp2
      go_loopw [2] (fun v2 wr => ∃ (o : Option Nat), v2 = .int .i64 (obI o) ∧ Hd (∀ x, o = some x → Av nx n (-1) x) ∧ Hd (domO nx n q o = domB nx n q p) ∧ Mem w wr []) (fun v _ => chM nx n (intOf v))
      case atStart => exact ⟨some p, rfl, HC0, HD0, H0⟩
      case round =>
        clear H0 HC0 HD0
        obtain ⟨o, rfl, HC, HD, H2⟩ := hrel
        obtain ⟨wo, rfl⟩ : ∃ wo : World, wo = wr := ⟨_, rfl⟩
        cases o with
        | none =>
          simp only [obI]
          have hqn : ((-1 : Int) == (q : Int)) = false := by simp <;> omega
          go_wp2
          go_ret
          refine ⟨?_, H2⟩
          rw [← HD.out]
          rfl
        | some x =>
          simp only [obI]
          have hxr := HC.out x rfl
          have hxn : x ≤ n := hxr.le
          obtain ⟨b1, o1, h1, d1⟩ := HR.out.get1 rfl (treeL_get hxn) rfl
          obtain ⟨rfl, rfl⟩ : b0 = b1 ∧ o0 = o1 := by simp at h1; exact ⟨h1.1, h1.2⟩
          have e1 := H2.old d1
          by_cases hxq : x = q
          · have g1 : ((x : Int) == (q : Int)) = true := by simp [hxq]
            have g2 : ((x : Int) != (q : Int)) = false := by simp [hxq]
            have hres : domB nx n q p = true := by
              rw [← HD.out, hxq]
              exact domB_iff.2 (Dom.refl (by rw [← hxq]; exact hxr))
            have HRES := hid hres
            clear hxq hres hxr h1
            go_wp2
            go_ret
            exact ⟨by rw [HRES.out]; rfl, H2⟩
          · have g1 : ((x : Int) == (q : Int)) = false := by simp <;> omega
            have g2 : ((x : Int) != (q : Int)) = true := by simp <;> omega
            have hnx : ∃ o : Option Nat, nearI nx n x = obI o ∧ (∀ y, o = some y → Av nx n (-1) y) ∧ domO nx n q o = domB nx n q p ∧ chM nx n (obI o) < chM nx n (x : Int) := by
              rw [← HD.out, chM_nat]
              rcases chain_next HA.out hxr with ⟨k1, k2⟩ | ⟨k1, m, k2, k3⟩
              · refine ⟨none, k2, (fun y hy => by cases hy), ?_, Nat.succ_pos _⟩
                simp only [domO]
                cases hc : domB nx n q x with
                | false => rfl
                | true => subst k1; exact absurd (domB_iff.1 hc).top.symm hxq
              · refine ⟨some m, k3, (fun y hy => by obtain rfl := Option.some.inj hy; exact k2.reach), ?_, ?_⟩
                · simp only [domO]
                  have h5 := k2.step q
                  cases hc : domB nx n q x with
                  | true =>
                    rcases h5.1 (domB_iff.1 hc) with h6 | h6
                    · exact absurd h6.symm hxq
                    · exact domB_iff.2 h6
                  | false =>
                    cases hc2 : domB nx n q m with
                    | false => rfl
                    | true => rw [domB_iff.2 (h5.2 (.inr (domB_iff.1 hc2)))] at hc; cases hc
                · have := k2.cnt
                  have h9 := chM_nat nx n m
                  simp only [obI]
                  omega
            obtain ⟨o, hox, hoc, hod, hom⟩ := hnx
            rw [hox] at e1
            have HOC := hid hoc
            have HOD := hid hod
            have HOM := hid hom
            clear hoc hod hom hox d1 hxr h1 hxq
            go_wp2
            go_roundw
            case rel => exact ⟨o, rfl, HOC, HOD, H2⟩
            case measure => exact HOM.out
    · have hpn := hpn.symm
      subst hpn
      go_wp2
      go_loopw [2] (fun v2 wr => ∃ (o : Option Nat), v2 = .int .i64 (obI o) ∧ Hd (∀ x, o = some x → Av nx n (-1) x) ∧ Hd (domO nx n q o = domB nx n q n) ∧ Mem w wr []) (fun v _ => chM nx n (intOf v))
      case atStart => exact ⟨some n, rfl, HC0, HD0, H0⟩
      case round =>
        clear H0 HC0 HD0
        obtain ⟨o, rfl, HC, HD, H2⟩ := hrel
        obtain ⟨wo, rfl⟩ : ∃ wo : World, wo = wr := ⟨_, rfl⟩
        cases o with
        | none =>
          simp only [obI]
          have hqn : ((-1 : Int) == (q : Int)) = false := by simp <;> omega
          go_wp2
          go_ret
          refine ⟨?_, H2⟩
          rw [← HD.out]
          rfl
        | some x =>
          simp only [obI]
          have hxr := HC.out x rfl
          have hxn : x ≤ n := hxr.le
          obtain ⟨b1, o1, h1, d1⟩ := HR.out.get1 rfl (treeL_get hxn) rfl
          obtain ⟨rfl, rfl⟩ : b0 = b1 ∧ o0 = o1 := by simp at h1; exact ⟨h1.1, h1.2⟩
          have e1 := H2.old d1
          by_cases hxq : x = q
          · have g1 : ((x : Int) == (q : Int)) = true := by simp [hxq]
            have g2 : ((x : Int) != (q : Int)) = false := by simp [hxq]
            have hres : domB nx n q n = true := by
              rw [← HD.out, hxq]
              exact domB_iff.2 (Dom.refl (by rw [← hxq]; exact hxr))
            have HRES := hid hres
            clear hxq hres hxr h1
            go_wp2
            go_ret
            exact ⟨by rw [HRES.out]; rfl, H2⟩
          · have g1 : ((x : Int) == (q : Int)) = false := by simp <;> omega
            have g2 : ((x : Int) != (q : Int)) = true := by simp <;> omega
            have hnx : ∃ o : Option Nat, nearI nx n x = obI o ∧ (∀ y, o = some y → Av nx n (-1) y) ∧ domO nx n q o = domB nx n q n ∧ chM nx n (obI o) < chM nx n (x : Int) := by
              rw [← HD.out, chM_nat]
              rcases chain_next HA.out hxr with ⟨k1, k2⟩ | ⟨k1, m, k2, k3⟩
              · refine ⟨none, k2, (fun y hy => by cases hy), ?_, Nat.succ_pos _⟩
                simp only [domO]
                cases hc : domB nx n q x with
                | false => rfl
                | true => subst k1; exact absurd (domB_iff.1 hc).top.symm hxq
              · refine ⟨some m, k3, (fun y hy => by obtain rfl := Option.some.inj hy; exact k2.reach), ?_, ?_⟩
                · simp only [domO]
                  have h5 := k2.step q
                  cases hc : domB nx n q x with
                  | true =>
                    rcases h5.1 (domB_iff.1 hc) with h6 | h6
                    · exact absurd h6.symm hxq
                    · exact domB_iff.2 h6
                  | false =>
                    cases hc2 : domB nx n q m with
                    | false => rfl
                    | true => rw [domB_iff.2 (h5.2 (.inr (domB_iff.1 hc2)))] at hc; cases hc
                · have := k2.cnt
                  have h9 := chM_nat nx n m
                  simp only [obI]
                  omega
            obtain ⟨o, hox, hoc, hod, hom⟩ := hnx
            rw [hox] at e1
            have HOC := hid hoc
            have HOD := hid hod
            have HOM := hid hom
            clear hoc hod hom hox d1 hxr h1 hxq
            go_wp2
            go_roundw
            case rel => exact ⟨o, rfl, HOC, HOD, H2⟩
            case measure => exact HOM.out
  · have hpn : p ≠ n := fun e => hr (by subst e; exact .base (by omega))
    have k1 : ((p : Int) == (n : Int)) = false := by simp <;> omega
    have k2 : ((p : Int) != (n : Int)) = true := by simp <;> omega
    rw [near_off' hr] at d0
    have HRES := hid (domB_off (q := q) hr)
    clear hr hpn
    go_wp2
    go_ret
    exact ⟨by rw [HRES.out]; rfl, H0⟩

/-- The nearest one of what may be no node. -/
noncomputable def nrZ (nx : Nat → List Nat) (n : Nat) (p : Int) : Int := if 0 ≤ p ∧ p ≤ n then nearI nx n p.toNat else -1
theorem nrZ_cases (nx : Nat → List Nat) (n : Nat) (p : Int) : nrZ nx n p = -1 ∨ ∃ m : Nat, m ≤ n ∧ nrZ nx n p = (m : Int) := by
  unfold nrZ
  split
  · by_cases h : ∃ q, NearP nx n p.toNat q
    · obtain ⟨q, hq⟩ := h
      exact .inr ⟨q, hq.1, nearI_of hq⟩
    · exact .inl (nearI_none h)
  · exact .inl rfl
/-- Post-dominance of what may be no node. -/
noncomputable def domZ (nx : Nat → List Nat) (n : Nat) (q p : Int) : Bool := if (0 ≤ q ∧ q ≤ n) ∧ 0 ≤ p ∧ p ≤ n then domB nx n q.toNat p.toNat else false
noncomputable def nearZV (nx : Nat → List Nat) (n : Nat) (p : Int) : Value := .tuple #[I (if 0 ≤ nrZ nx n p then nrZ nx n p else 0), .bool (decide (0 ≤ nrZ nx n p))]

set_option maxRecDepth 100000 in
theorem near_calls (f : Fun) (h : FunH) (w : World) (hR : f.Rd w h) (hn : f.code.length ≤ 1000000) (ho : ∀ i ∈ f.code, -9223372036854775808 ≤ i.a ∧ i.a ≤ 9223372036854775807) (p : Int) :
    Calls Try.prog 12 #[f.val h, I p] w fun e w' => e = .returned (nearZV (nxt f.code) f.code.length p) ∧ Mem w w' [] := by
  have HR := hid hR
  have htree := fun w' hR' => tree_calls f h w' hR' hn ho
  have HT := hid htree
  clear hR ho htree
  obtain ⟨lv, ps, rs, lo, st, code⟩ := f
  obtain ⟨A1, c1, A2, c2, A5, c5⟩ := h
  simp only [] at hn
  have H0 := Mem.refl w
  simp only [Fun.val] at *
  go_enter Try.func12, Try.ntmps12
  by_cases hp0 : p < 0
  · have hz : nrZ (nxt code) code.length p = -1 := by unfold nrZ; rw [if_neg (by omega)]
    have HZ := hid hz
    clear hz
    go_wp2_with (first | ((with_reducible refine at_box ?_); refine wpList_box_box H0 ?_; intro u_ gH1 wH1 hu_ H1; simp only [Act.eval, Act.put, List.setIfInBounds_toArray, List.set_cons_zero, List.set_cons_succ, Array.getD_eq_getD_getElem?, List.getElem?_toArray, List.getElem?_cons_zero, List.getElem?_cons_succ, Option.getD_some] at hu_; subst hu_; simp only [splice, vcells_int, vcells_bool, vcells_string, vcells_pointer, vcells_slice, vcells_map, vcells_func, vcells_nilFunc, vcells_iface, vcells_nilIface, vcells_agg, List.take_zero, List.take_succ_cons, List.drop_zero, List.drop_succ_cons, List.length_cons, List.length_nil, List.nil_append, List.cons_append, List.append_nil, Nat.zero_add, List.set_cons_zero, List.set_cons_succ] at H1; (try clear b0); have b0 := H1.cells 0 rfl; simp only [cellsAre, and_true, Nat.zero_add] at b0))
    go_ret2
    refine ⟨?_, H1.drop 0⟩
    unfold nearZV
    rw [HZ.out]
    rfl
  · by_cases hpn : p ≤ (code.length : Int)
    · obtain ⟨pn, rfl⟩ := Int.eq_ofNat_of_zero_le (by omega : 0 ≤ p)
      have hz : nrZ (nxt code) code.length (pn : Int) = nearI (nxt code) code.length pn := by unfold nrZ; rw [if_pos ⟨by omega, hpn⟩]; rfl
      have hc := nrZ_cases (nxt code) code.length (pn : Int)
      have HZ := hid hz
      have hg := treeL_get (nx := nxt code) (n := code.length) (p := pn) (by omega)
      rw [← HZ.out] at hg
      have HG := hid hg
      clear hz hg
      rcases hc with hc | ⟨m, hm, hc⟩
      · have HC := hid hc
        clear hc
        go_wp2_with (first
          | ((with_reducible refine at_box ?_); refine wpList_box_box H0 ?_; intro u_ gH1 wH1 hu_ H1; simp only [Act.eval, Act.put, List.setIfInBounds_toArray, List.set_cons_zero, List.set_cons_succ, Array.getD_eq_getD_getElem?, List.getElem?_toArray, List.getElem?_cons_zero, List.getElem?_cons_succ, Option.getD_some] at hu_; subst hu_; simp only [splice, vcells_int, vcells_bool, vcells_string, vcells_pointer, vcells_slice, vcells_map, vcells_func, vcells_nilFunc, vcells_iface, vcells_nilIface, vcells_agg, List.take_zero, List.take_succ_cons, List.drop_zero, List.drop_succ_cons, List.length_cons, List.length_nil, List.nil_append, List.cons_append, List.append_nil, Nat.zero_add, List.set_cons_zero, List.set_cons_succ] at H1; (try clear b0); have b0 := H1.cells 0 rfl; simp only [cellsAre, and_true, Nat.zero_add] at b0)
          | ((go_at_call 8; (with_reducible refine (HT.out _ (Fun.Rd.below HR.out H1.below)).mono ?_); rintro e w2 ⟨⟨A3, c3, rfl, h3, H2'⟩, hA⟩; have H2 := H1.call H2'; simp only [List.cons_append, List.nil_append, treeL_len] at H2 ⊢); obtain ⟨b3, o3, rfl, e3⟩ := (H2.own_rd 0 rfl (by decide)).1.get1 rfl HG.out rfl; rw [HC.out] at e3))
        go_ret2
        refine ⟨?_, (H2.drop 0).drop 0⟩
        unfold nearZV
        rw [HC.out]
        rfl
      · have HC := hid hc
        clear hc
        go_wp2_with (first
          | ((with_reducible refine at_box ?_); refine wpList_box_box H0 ?_; intro u_ gH1 wH1 hu_ H1; simp only [Act.eval, Act.put, List.setIfInBounds_toArray, List.set_cons_zero, List.set_cons_succ, Array.getD_eq_getD_getElem?, List.getElem?_toArray, List.getElem?_cons_zero, List.getElem?_cons_succ, Option.getD_some] at hu_; subst hu_; simp only [splice, vcells_int, vcells_bool, vcells_string, vcells_pointer, vcells_slice, vcells_map, vcells_func, vcells_nilFunc, vcells_iface, vcells_nilIface, vcells_agg, List.take_zero, List.take_succ_cons, List.drop_zero, List.drop_succ_cons, List.length_cons, List.length_nil, List.nil_append, List.cons_append, List.append_nil, Nat.zero_add, List.set_cons_zero, List.set_cons_succ] at H1; (try clear b0); have b0 := H1.cells 0 rfl; simp only [cellsAre, and_true, Nat.zero_add] at b0)
          | ((go_at_call 8; (with_reducible refine (HT.out _ (Fun.Rd.below HR.out H1.below)).mono ?_); rintro e w2 ⟨⟨A3, c3, rfl, h3, H2'⟩, hA⟩; have H2 := H1.call H2'; simp only [List.cons_append, List.nil_append, treeL_len] at H2 ⊢); obtain ⟨b3, o3, rfl, e3⟩ := (H2.own_rd 0 rfl (by decide)).1.get1 rfl HG.out rfl; rw [HC.out] at e3))
        trace_state
        go_ret2
        refine ⟨?_, (H2.drop 0).drop 0⟩
        unfold nearZV
        rw [HC.out]
        simp
        done
    · have hz : nrZ (nxt code) code.length p = -1 := by unfold nrZ; rw [if_neg (by omega)]
      have HZ := hid hz
      clear hz
      go_wp2_with (first | ((with_reducible refine at_box ?_); refine wpList_box_box H0 ?_; intro u_ gH1 wH1 hu_ H1; simp only [Act.eval, Act.put, List.setIfInBounds_toArray, List.set_cons_zero, List.set_cons_succ, Array.getD_eq_getD_getElem?, List.getElem?_toArray, List.getElem?_cons_zero, List.getElem?_cons_succ, Option.getD_some] at hu_; subst hu_; simp only [splice, vcells_int, vcells_bool, vcells_string, vcells_pointer, vcells_slice, vcells_map, vcells_func, vcells_nilFunc, vcells_iface, vcells_nilIface, vcells_agg, List.take_zero, List.take_succ_cons, List.drop_zero, List.drop_succ_cons, List.length_cons, List.length_nil, List.nil_append, List.cons_append, List.append_nil, Nat.zero_add, List.set_cons_zero, List.set_cons_succ] at H1; (try clear b0); have b0 := H1.cells 0 rfl; simp only [cellsAre, and_true, Nat.zero_add] at b0))
      go_ret2
      refine ⟨?_, H1.drop 0⟩
      unfold nearZV
      rw [HZ.out]
      rfl

set_option maxRecDepth 100000 in
theorem dom_calls (f : Fun) (h : FunH) (w : World) (hR : f.Rd w h) (hn : f.code.length ≤ 1000000) (ho : ∀ i ∈ f.code, -9223372036854775808 ≤ i.a ∧ i.a ≤ 9223372036854775807) (q p : Int) :
    Calls Try.prog 13 #[f.val h, I q, I p] w fun e w' => e = .returned (.bool (domZ (nxt f.code) f.code.length q p)) ∧ Mem w w' [] := by
  have HR := hid hR
  have htree := fun w' hR' => tree_calls f h w' hR' hn ho
  have HT := hid htree
  clear hR ho htree
  obtain ⟨lv, ps, rs, lo, st, code⟩ := f
  obtain ⟨A1, c1, A2, c2, A5, c5⟩ := h
  simp only [] at hn
  have H0 := Mem.refl w
  simp only [Fun.val] at *
  go_enter Try.func13, Try.ntmps13
  by_cases hin : (0 ≤ q ∧ q ≤ (code.length : Int)) ∧ 0 ≤ p ∧ p ≤ (code.length : Int)
  · obtain ⟨⟨h1, h2⟩, h3, h4⟩ := hin
    obtain ⟨qn, rfl⟩ := Int.eq_ofNat_of_zero_le h1
    obtain ⟨pn, rfl⟩ := Int.eq_ofNat_of_zero_le h3
    have hz : domZ (nxt code) code.length (qn : Int) (pn : Int) = domB (nxt code) code.length qn pn := by unfold domZ; rw [if_pos ⟨⟨h1, h2⟩, h3, h4⟩]; rfl
    have HZ := hid hz
    clear hz h1 h3
    go_wp2_with (first
      | ((with_reducible refine at_box ?_); refine wpList_box_box H0 ?_; intro u_ gH1 wH1 hu_ H1; simp only [Act.eval, Act.put, List.setIfInBounds_toArray, List.set_cons_zero, List.set_cons_succ, Array.getD_eq_getD_getElem?, List.getElem?_toArray, List.getElem?_cons_zero, List.getElem?_cons_succ, Option.getD_some] at hu_; subst hu_; simp only [splice, vcells_int, vcells_bool, vcells_string, vcells_pointer, vcells_slice, vcells_map, vcells_func, vcells_nilFunc, vcells_iface, vcells_nilIface, vcells_agg, List.take_zero, List.take_succ_cons, List.drop_zero, List.drop_succ_cons, List.length_cons, List.length_nil, List.nil_append, List.cons_append, List.append_nil, Nat.zero_add, List.set_cons_zero, List.set_cons_succ] at H1; (try clear b0); have b0 := H1.cells 0 rfl; simp only [cellsAre, and_true, Nat.zero_add] at b0)
      | (go_at_call 8; (with_reducible refine (HT.out _ (Fun.Rd.below HR.out H1.below)).mono ?_); rintro e w2 ⟨⟨A3, c3, rfl, h3, H2'⟩, hA⟩; have HA := hid hA; have H2 := H1.call H2'; simp only [List.cons_append, List.nil_append, treeL_len] at H2 ⊢)
      | (go_at_call 29; (with_reducible refine (above_calls (nxt code) code.length qn pn HA.out (by omega) (by omega) hn A3 c3 _ (H2.own_rd 0 rfl (by decide)).1).mono ?_); rintro e w3 ⟨rfl, H3'⟩; have H3 := H2.call H3'; simp only [List.cons_append, List.nil_append] at H3))
    go_ret
    exact ⟨by rw [HZ.out]; rfl, (H3.drop 0).drop 0⟩
  · have hz : domZ (nxt code) code.length q p = false := by unfold domZ; rw [if_neg hin]
    have HZ := hid hz
    clear hz
    have hcs : q < 0 ∨ (0 ≤ q ∧ (code.length : Int) < q) ∨ ((0 ≤ q ∧ q ≤ (code.length : Int)) ∧ p < 0) ∨ ((0 ≤ q ∧ q ≤ (code.length : Int)) ∧ 0 ≤ p ∧ (code.length : Int) < p) := by omega
    clear hin
    rcases hcs with k1 | ⟨k1, k2⟩ | ⟨⟨k1, k2⟩, k3⟩ | ⟨⟨k1, k2⟩, k3, k4⟩
    all_goals
      go_wp2_with (first | ((with_reducible refine at_box ?_); refine wpList_box_box H0 ?_; intro u_ gH1 wH1 hu_ H1; simp only [Act.eval, Act.put, List.setIfInBounds_toArray, List.set_cons_zero, List.set_cons_succ, Array.getD_eq_getD_getElem?, List.getElem?_toArray, List.getElem?_cons_zero, List.getElem?_cons_succ, Option.getD_some] at hu_; subst hu_; simp only [splice, vcells_int, vcells_bool, vcells_string, vcells_pointer, vcells_slice, vcells_map, vcells_func, vcells_nilFunc, vcells_iface, vcells_nilIface, vcells_agg, List.take_zero, List.take_succ_cons, List.drop_zero, List.drop_succ_cons, List.length_cons, List.length_nil, List.nil_append, List.cons_append, List.append_nil, Nat.zero_add, List.set_cons_zero, List.set_cons_succ] at H1; (try clear b0); have b0 := H1.cells 0 rfl; simp only [cellsAre, and_true, Nat.zero_add] at b0))
      go_ret
      exact ⟨by rw [HZ.out]; rfl, H1.drop 0⟩
end Go.Proofs.Ytjlikbaamefkiaa
