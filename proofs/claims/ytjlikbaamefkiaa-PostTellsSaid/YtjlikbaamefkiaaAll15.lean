/- The reference's table of post-dominators. -/
import Derived.Test.YtjlikbaamefkiaaTo15
namespace Go.Proofs.Ytjlikbaamefkiaa
open Go.RowKit
set_option linter.unusedVariables false
set_option linter.unusedSimpArgs false
set_option maxHeartbeats 800000

open Classical in
/-- Does q post-dominate p? -/
noncomputable def domB (nx : Nat → List Nat) (n : Nat) (q p : Nat) : Bool := decide (Av nx n (-1) p ∧ ¬ Av nx n q p)
noncomputable def domRow (nx : Nat → List Nat) (n : Nat) (p : Nat) : List Bool := (List.range (n + 1)).map fun q => domB nx n q p
noncomputable def domTab (nx : Nat → List Nat) (n : Nat) : List (List Bool) := (List.range (n + 1)).map fun p => domRow nx n p

theorem nxt_le {code : List Ins} {a : Nat} (ha : a < code.length) : ∀ b ∈ nxt code a, b ≤ code.length := by
  unfold nxt
  rw [List.getElem?_eq_getElem ha]
  simp only []
  intro b hb
  repeat' split at hb
  all_goals simp at hb
  all_goals omega
theorem nxt_two (code : List Ins) (a : Nat) : (nxt code a).length ≤ 2 := by
  unfold nxt
  repeat' split
  all_goals simp

/-- A square table. -/
def mkTab (n : Nat) (F : Nat → Nat → Bool) : List (List Bool) := (List.range (n + 1)).map fun p => (List.range (n + 1)).map fun q => F p q
theorem mkTab_get {n : Nat} {F : Nat → Nat → Bool} {p : Nat} (hp : p ≤ n) : (mkTab n F)[p]? = some ((List.range (n + 1)).map fun q => F p q) := by
  unfold mkTab
  rw [List.getElem?_map, List.getElem?_range (by omega)]
  rfl
theorem mkTab_set {n : Nat} {F : Nat → Nat → Bool} {p q : Nat} (hp : p ≤ n) (hq : q ≤ n) (v : Bool) : (mkTab n F).set p (((List.range (n + 1)).map fun q => F p q).set q v) = mkTab n (fun p' q' => if p' = p ∧ q' = q then v else F p' q') := by
  apply List.ext_getElem?
  intro i
  by_cases hi : i ≤ n
  · rw [mkTab_get hi]
    by_cases h : p = i
    · subst h
      rw [List.getElem?_set_self (by simp [mkTab]; omega)]
      congr 1
      apply List.ext_getElem?
      intro j
      by_cases hj : j ≤ n
      · by_cases h : q = j
        · subst h
          rw [List.getElem?_set_self (by simp; omega), List.getElem?_map, List.getElem?_range (by omega)]
          simp
        · rw [List.getElem?_set_ne h, List.getElem?_map, List.getElem?_map, List.getElem?_range (by omega)]
          simp [Ne.symm h]
      · rw [List.getElem?_eq_none (by simp; omega), List.getElem?_eq_none (by simp; omega)]
    · rw [List.getElem?_set_ne h, mkTab_get hi]
      congr 1
      apply List.map_congr_left
      intro j _
      rw [if_neg (by omega)]
  · rw [List.getElem?_eq_none (by simp [mkTab]; omega), List.getElem?_eq_none (by simp [mkTab]; omega)]
theorem mkTab_congr {n : Nat} {F G : Nat → Nat → Bool} (h : ∀ p q, p ≤ n → q ≤ n → F p q = G p q) : mkTab n F = mkTab n G := by
  unfold mkTab
  apply List.map_congr_left
  intro p hp
  apply List.map_congr_left
  intro q hq
  exact h p q (by simp at hp; omega) (by simp at hq; omega)
theorem mkTab_false (n : Nat) : mkTab n (fun _ _ => false) = List.replicate (n + 1) (List.replicate (n + 1) false) := by
  unfold mkTab
  simp only [List.map_const', List.length_range]

def TabRes (TO TI : TypeId) (tab : List (List Bool)) (w : World) (e : Ending) (w' : World) : Prop :=
  ∃ A c hs, e = .returned (.slice A tab.length c) ∧ tab.length ≤ c ∧ hs.length = tab.length ∧ (∀ (k : Nat) (hd : Hdr) (r : List Bool), hs[k]? = some hd → tab[k]? = some r → hd.n = r.length) ∧ Mem w w' [rowsP Enc.bool TI hs tab, own Enc.hdr TO A c hs]

set_option maxRecDepth 100000 in
theorem all15_calls (f : Fun) (h : FunH) (w : World) (hR : f.Rd w h) (hn : f.code.length ≤ 1000000) (ho : ∀ i ∈ f.code, -9223372036854775808 ≤ i.a ∧ i.a ≤ 9223372036854775807) :
    Calls Try.prog 6 #[f.val h] w (TabRes 39 4 (domTab (nxt f.code) f.code.length) w) := by
  have HR := hid hR
  have HO := hid ho
  clear hR ho
  obtain ⟨nx, hnx⟩ : ∃ nx, nxt f.code = nx := ⟨_, rfl⟩
  rw [hnx]
  have HX := hid hnx
  clear hnx
  obtain ⟨lv, ps, rs, lo, st, code⟩ := f
  obtain ⟨A1, c1, A2, c2, A5, c5⟩ := h
  simp only [] at hn
  have H00 := (((((Mem.refl w).nilrow 32 1).rows_nil Enc.i64 3).nilrow 39 1).rows_nil Enc.bool 4)
  simp only [Fun.val] at *
  go_enter Try.func6, Try.ntmps6
  go_wp2_with (first | ((with_reducible refine at_box ?_); refine wpList_box_box H00 ?_; intro u_ gH1 wH1 hu_ H1; simp only [Act.eval, Act.put, List.setIfInBounds_toArray, List.set_cons_zero, List.set_cons_succ, Array.getD_eq_getD_getElem?, List.getElem?_toArray, List.getElem?_cons_zero, List.getElem?_cons_succ, Option.getD_some] at hu_; subst hu_; simp only [splice, vcells_int, vcells_bool, vcells_string, vcells_pointer, vcells_slice, vcells_map, vcells_func, vcells_nilFunc, vcells_iface, vcells_nilIface, vcells_agg, List.take_zero, List.take_succ_cons, List.drop_zero, List.drop_succ_cons, List.length_cons, List.length_nil, List.nil_append, List.cons_append, List.append_nil, Nat.zero_add, List.set_cons_zero, List.set_cons_succ] at H1; (try clear b0); have b0 := H1.cells 0 rfl; simp only [cellsAre, and_true, Nat.zero_add] at b0))
  have H1 := H1.rot
  have H1 : Mem w wH1 [rowsP Enc.bool 4 [] [], own Enc.hdr 39 none 0 [], rowsP Enc.i64 3 [] [], own Enc.hdr 32 none 0 [], box gH1 27 #[.int .u64 lv, .slice A1 ps.length c1, .slice A2 rs.length c2, .int .i64 lo, .int .i64 st, .slice A5 code.length c5]] := H1
  clear b0
  go_loopw [4, 5, 6] (fun v4 v5 v6 wr => ∃ (p : Nat) (A4 : Option Addr) (c4 : Nat) (Al : Option Addr) (cl : Nat) (hq hl : List Hdr), p ≤ code.length + 1 ∧ v6 = .int .i64 p ∧ v4 = .slice A4 hq.length c4 ∧ v5 = .slice Al hl.length cl ∧ hq.length ≤ 1000001 ∧ hl.length ≤ 1000001 ∧
    Hd (hl.length = p ∧ hq.length = min p code.length ∧ (∀ (k : Nat) (hd : Hdr), hl[k]? = some hd → hd.n = code.length + 1 ∧ code.length + 1 ≤ hd.c) ∧ (∀ (k : Nat) (hd : Hdr), hq[k]? = some hd → hd.n = (nx k).length ∧ hd.n ≤ hd.c)) ∧
    Mem w wr [rowsP Enc.bool 4 hl (List.replicate p (List.replicate (code.length + 1) false)), own Enc.hdr 39 Al cl hl, rowsP Enc.i64 3 hq ((List.range (min p code.length)).map fun k => ints (nx k)), own Enc.hdr 32 A4 c4 hq, box gH1 27 #[.int .u64 lv, .slice A1 ps.length c1, .slice A2 rs.length c2, .int .i64 lo, .int .i64 st, .slice A5 code.length c5]]) (fun _ _ v _ => code.length + 1 - (intOf v).toNat)
  case atStart => exact ⟨0, none, 0, none, 0, [], [], by omega, rfl, rfl, rfl, by simp, by simp, ⟨rfl, by simp, by simp, by simp⟩, by simpa using H1⟩
  case round =>
    clear H1
    obtain ⟨p, A4, c4, Al, cl, hq, hl, hp, rfl, rfl, rfl, hq1, hl1, HH, H2⟩ := hrel
    obtain ⟨wo, rfl⟩ : ∃ wo : World, wo = wr := ⟨_, rfl⟩
    by_cases hpn : p ≤ code.length
    · have hcells : hl.length ≤ 1000000 := by have := HH.out.1; omega
      go_upto_region 8 with (first | ((with_reducible refine at_mk ?_); refine wpList_make_own (E := Enc.bool) elt_bool H2 (code.length + 1) false rfl rfl rfl rfl rfl (by unfold maxLen; omega) (by omega) ?_; intro gH3 wH3 H3) | ((with_reducible refine at_build1 ?_); refine wpList_build1 elt_bools H3 rfl rfl (by decide) ?_; intro u_ gH4 wH4 hu_ H4; simp only [Act.eval, Act.put, List.setIfInBounds_toArray, List.set_cons_zero, List.set_cons_succ, Array.getD_eq_getD_getElem?, List.getElem?_toArray, List.getElem?_cons_zero, List.getElem?_cons_succ, Option.getD_some] at hu_; subst hu_; simp only [splice, vcells_int, vcells_bool, vcells_string, vcells_pointer, vcells_slice, vcells_map, vcells_func, vcells_nilFunc, vcells_iface, vcells_nilIface, vcells_agg, List.take_zero, List.take_succ_cons, List.drop_zero, List.drop_succ_cons, List.length_cons, List.length_nil, List.nil_append, List.cons_append, List.append_nil, Nat.zero_add, List.set_cons_zero, List.set_cons_succ] at H4) | ((with_reducible refine at_append ?_); refine wpList_append_own1 (E := Enc.hdr) elt_bools H4 3 (⟨some ⟨gH3, 0, none⟩, code.length + 1, code.length + 1⟩ : Hdr) rfl rfl rfl rfl (H4.rd 0 rfl elt_bools.pos).1 (by omega) (by decide) ?_; intro AH5 cH5 wH5 H5; simp only [List.set_cons_zero, List.set_cons_succ] at H5; replace H5 := H5.drop 0; simp only [List.eraseIdx_cons_zero] at H5))
      have H6 := H5.rows_push (by simp [HH.out.1])
      rw [List.length_replicate, ← List.replicate_succ'] at H6
      obtain ⟨hl2, hhl2⟩ : ∃ hl2, hl ++ [(⟨some ⟨gH3, 0, none⟩, code.length + 1, code.length + 1⟩ : Hdr)] = hl2 := ⟨_, rfl⟩
      rw [hhl2] at H6
      have hl2n : hl.length + 1 = hl2.length := by rw [← hhl2]; simp
      have HH2 : Hd (hl2.length = p + 1 ∧ (∀ (k : Nat) (hd : Hdr), hl2[k]? = some hd → hd.n = code.length + 1 ∧ code.length + 1 ≤ hd.c)) := by
        refine ⟨by rw [← hl2n, HH.out.1], fun k hd hk => ?_⟩
        rw [← hhl2, List.getElem?_append] at hk
        split at hk
        · exact HH.out.2.2.1 k hd hk
        · rw [List.getElem?_singleton] at hk
          split at hk
          · obtain rfl := Option.some.inj hk; exact ⟨rfl, Nat.le_refl _⟩
          · cases hk
      rw [hl2n]
      clear hhl2 hl2n H5 H4 H3 H2
      by_cases hlt : p < code.length
      · have HRp := HR.out
        (try clear b0); have b0 := H6.cells 4 rfl; simp only [cellsAre, and_true, Nat.zero_add] at b0
        have HRw : Fun.Rd wH5 ⟨lv, ps, rs, lo, st, code⟩ ⟨A1, c1, A2, c2, A5, c5⟩ := ⟨HRp.params.below H6.below, HRp.results.below H6.below, HRp.code.below H6.below, HRp.b1, HRp.b2, HRp.b5⟩
        have HRW := hid HRw
        clear HRw HRp
        go_wp2_with (first
          | (go_at_call 21; (with_reducible refine (next14_calls ⟨lv, ps, rs, lo, st, code⟩ ⟨A1, c1, A2, c2, A5, c5⟩ p _ HRW.out (Nat.le_of_lt hlt) HO.out).mono ?_); rintro e w7 ⟨A7, c7, rfl, hc7, H7'⟩; have H7 := H6.call H7'; simp only [List.cons_append, List.nil_append] at H7; clear b0)
          | ((with_reducible refine at_build1 ?_); refine wpList_build1 elt_ints H7 rfl rfl (by decide) ?_; intro u_ gH8 wH8 hu_ H8; simp only [Act.eval, Act.put, List.setIfInBounds_toArray, List.set_cons_zero, List.set_cons_succ, Array.getD_eq_getD_getElem?, List.getElem?_toArray, List.getElem?_cons_zero, List.getElem?_cons_succ, Option.getD_some] at hu_; subst hu_; simp only [splice, vcells_int, vcells_bool, vcells_string, vcells_pointer, vcells_slice, vcells_map, vcells_func, vcells_nilFunc, vcells_iface, vcells_nilIface, vcells_agg, List.take_zero, List.take_succ_cons, List.drop_zero, List.drop_succ_cons, List.length_cons, List.length_nil, List.nil_append, List.cons_append, List.append_nil, Nat.zero_add, List.set_cons_zero, List.set_cons_succ] at H8) | ((with_reducible refine at_append ?_); refine wpList_append_own1 (E := Enc.hdr) elt_ints H8 5 (⟨A7, (ints (nxt code p)).length, c7⟩ : Hdr) rfl rfl rfl rfl (H8.rd 0 rfl elt_ints.pos).1 (by omega) (by decide) ?_; intro AH9 cH9 wH9 H9; simp only [List.set_cons_zero, List.set_cons_succ] at H9; replace H9 := H9.drop 0; simp only [List.eraseIdx_cons_zero] at H9))
        go_roundw
        case rel =>
          clear H7 H8 H6
          replace H9 := H9.mv 3 rfl; simp only [List.eraseIdx_cons_succ, List.eraseIdx_cons_zero] at H9; replace H9 := H9.mv 1 rfl; simp only [List.eraseIdx_cons_succ, List.eraseIdx_cons_zero] at H9
          have H10 := H9.rows_push (by have := HH.out.2.1; simp; omega)
          replace H10 := H10.mv 2 rfl; simp only [List.eraseIdx_cons_succ, List.eraseIdx_cons_zero] at H10; replace H10 := H10.mv 2 rfl; simp only [List.eraseIdx_cons_succ, List.eraseIdx_cons_zero] at H10
          have hm1 : min (p + 1) code.length = p + 1 := by omega
          have hm0 : min p code.length = p := by omega
          have hnx : nxt code p = nx p := by rw [← HX.out]
          rw [hm0] at H10
          have hq2 : (hq ++ [(⟨A7, (ints (nxt code p)).length, c7⟩ : Hdr)]).length = min (p + 1) code.length := by have := HH.out.2.1; simp; omega
          have hq3 : ∀ (k : Nat) (hd : Hdr), (hq ++ [(⟨A7, (ints (nxt code p)).length, c7⟩ : Hdr)])[k]? = some hd → hd.n = (nx k).length ∧ hd.n ≤ hd.c := by
            intro k hd hk
            rw [List.getElem?_append] at hk
            split at hk
            · exact HH.out.2.2.2 k hd hk
            · rename_i hge
              rw [List.getElem?_singleton] at hk
              split at hk
              · rename_i h0
                obtain rfl := Option.some.inj hk
                have : k = p := by have := HH.out.2.1; omega
                subst this
                rw [hnx] at hc7 ⊢
                exact ⟨by simp [ints], hc7⟩
              · cases hk
          have hmm : (List.range (min (p + 1) code.length)).map (fun k => ints (nx k)) = (List.range p).map (fun k => ints (nx k)) ++ [ints (nxt code p)] := by
            rw [hm1, List.range_succ, List.map_append, hnx]; rfl
          rw [← hmm] at H10
          exact ⟨p + 1, AH9, cH9, AH5, cH5, _, hl2, by omega, by go_num, by simp, rfl, by omega, by have := HH2.out.1; omega, ⟨HH2.out.1, hq2, HH2.out.2, hq3⟩, H10⟩
        case measure => first | (simp [intOf]; done) | (simp [intOf]; omega)
      · obtain rfl : p = code.length := by omega
        go_wp2
        go_roundw
        case rel =>
          refine ⟨code.length + 1, A4, c4, AH5, cH5, hq, hl2, by omega, by go_num, rfl, rfl, hq1, by have := HH2.out.1; omega, ⟨HH2.out.1, by have := HH.out.2.1; omega, HH2.out.2, HH.out.2.2.2⟩, ?_⟩
          have hm1 : min (code.length + 1) code.length = code.length := by omega
          have hm0 : min code.length code.length = code.length := by omega
          rw [hm1]
          rw [hm0] at H6
          exact H6
        case measure => first | (simp [intOf]; done) | (simp [intOf]; omega)
    · obtain rfl : p = code.length + 1 := by omega
      have hm0 : min (code.length + 1) code.length = code.length := by omega
      rw [hm0] at H2
      have hql : hq.length = code.length := by have := HH.out.2.1; omega
      have hll : hl.length = code.length + 1 := HH.out.1
      have HHL := hid HH.out.2.2.1
      rw [hql, hll]
      have R2 := H2.rdRows 3 2 rfl rfl (by simp [hql]) (by
        intro k hd r h1 h2
        have := (HH.out.2.2.2 k hd h1).1
        rw [List.getElem?_map] at h2
        have hk : k < hq.length := (List.getElem?_eq_some_iff.1 h1).1
        rw [List.getElem?_range (by omega)] at h2
        simp only [Option.map_some, Option.some.injEq] at h2
        rw [this, ← h2]
        simp [ints]) (by decide)
      have HR2 := hid R2
      have hrow : ∀ p, p < code.length → ((List.range code.length).map fun k => ints (nx k))[p]? = some (ints (nx p)) := fun p hp => by rw [List.getElem?_map, List.getElem?_range hp]; rfl
      have HROW := hid hrow
      have HIN := hid (fun p b (hp : p < code.length) (hb : b ∈ nx p) => nxt_le (code := code) hp b (by rw [HX.out]; exact hb))
      have HTW := hid (fun p (hp : p < code.length) => by have := nxt_two code p; rw [HX.out] at this; exact this)
      have HQL := hid hql
      have HLL := hid hll
      clear R2 hrow hql hll hm0 HH hq1 hl1 hpn hp
      rw [← mkTab_false] at H2
      go_upto_block 2 with (go_at_call 22; (with_reducible refine (to15_calls A4 c4 hq _ nx code.length (-1) _ HR2.out (by simp) hn HROW.out HIN.out HTW.out).mono ?_); rintro e w3 ⟨Aa, ca, la, rfl, hca, hla, HLA0, H3'⟩; have H3 := H2.call H3'; simp only [List.cons_append, List.nil_append] at H3)
      have HLA := hid HLA0
      clear HLA0 H2 H3'
      go_wp2
      go_loopw [9] (fun v wr => ∃ (q : Nat), q ≤ code.length + 1 ∧ v = .int .i64 q ∧ Mem w wr [own Enc.bool 4 Aa ca la, rowsP Enc.bool 4 hl (mkTab code.length fun p k => if k < q then domB nx code.length k p else false), own Enc.hdr 39 Al cl hl, rowsP Enc.i64 3 hq ((List.range code.length).map fun k => ints (nx k)), own Enc.hdr 32 A4 c4 hq, box gH1 27 #[.int .u64 lv, .slice A1 ps.length c1, .slice A2 rs.length c2, .int .i64 lo, .int .i64 st, .slice A5 code.length c5]]) (fun v _ => code.length + 1 - (intOf v).toNat)
      case atStart => exact ⟨0, by omega, rfl, by simpa using H3⟩
      case round =>
        clear H3
        obtain ⟨q, hq0, rfl, H4⟩ := hrel
        obtain ⟨w4, rfl⟩ : ∃ w4 : World, w4 = wr := ⟨_, rfl⟩
        by_cases hqn : q ≤ code.length
        · have R4 := H4.rdRows 4 3 rfl rfl (by have := HQL.out; simp; omega) (by
            intro k hd r h1 h2
            exact ((HR2.out.inn k hd r h1 h2).1)) (by decide)
          have HR4 := hid R4
          clear R4
          go_upto_block 4 with (go_at_call 22; (with_reducible refine (to15_calls A4 c4 hq _ nx code.length (q : Int) _ HR4.out (by simp) hn HROW.out HIN.out HTW.out).mono ?_); rintro e w5 ⟨Ab, cb, lb, rfl, hcb, hlb, HLB0, H5'⟩; have H5 := H4.call H5'; simp only [List.cons_append, List.nil_append] at H5)
          have HLB := hid HLB0
          clear HLB0 H4 H5'
          go_wp2
          go_loopw [11] (fun v wr => ∃ (p : Nat), p ≤ code.length + 1 ∧ v = .int .i64 p ∧ Mem w wr [own Enc.bool 4 Ab cb lb, own Enc.bool 4 Aa ca la, rowsP Enc.bool 4 hl (mkTab code.length fun p' k => if k < q ∨ k = q ∧ p' < p then domB nx code.length k p' else false), own Enc.hdr 39 Al cl hl, rowsP Enc.i64 3 hq ((List.range code.length).map fun k => ints (nx k)), own Enc.hdr 32 A4 c4 hq, box gH1 27 #[.int .u64 lv, .slice A1 ps.length c1, .slice A2 rs.length c2, .int .i64 lo, .int .i64 st, .slice A5 code.length c5]]) (fun v _ => code.length + 1 - (intOf v).toNat)
          case atStart => exact ⟨0, by omega, rfl, by simpa using H5⟩
          case round =>
            clear H5
            obtain ⟨p, hp0, rfl, H6⟩ := hrel
            obtain ⟨w6, rfl⟩ : ∃ w6 : World, w6 = wr := ⟨_, rfl⟩
            by_cases hpn : p ≤ code.length
            · obtain ⟨hd, hhd⟩ : ∃ hd, hl[p]? = some hd := ⟨_, List.getElem?_eq_getElem (by have := HLL.out; omega)⟩
              obtain ⟨hd1, hd2⟩ := HHL.out p hd hhd
              obtain ⟨b1, o1, rfl, e1⟩ := (H6.own_rd 3 rfl (by decide)).1.get1 rfl hhd rfl
              have hrw := mkTab_get (F := fun p' k => if k < q ∨ k = q ∧ p' < p then domB nx code.length k p' else false) hpn
              obtain ⟨g2, o2, hA2, _, _, hcell⟩ := H6.rows_at 2 rfl hhd hrw (by simp) rfl
              obtain ⟨hA, hn1, hc1⟩ := hd
              simp only [] at hd1 hd2 hA2 e1
              subst hd1
              subst hA2
              have e2 := hcell q _ _ (by rw [List.getElem?_map, List.getElem?_range (by omega)]; rfl) rfl
              clear hcell
              obtain ⟨x, hx⟩ : ∃ x, la[p]? = some x := ⟨_, List.getElem?_eq_getElem (by omega)⟩
              obtain ⟨y, hy⟩ : ∃ y, lb[p]? = some y := ⟨_, List.getElem?_eq_getElem (by omega)⟩
              obtain ⟨b3, o3, rfl, e3⟩ := (H6.own_rd 1 rfl (by decide)).1.get1 rfl hx rfl
              obtain ⟨b4, o4, rfl, e4⟩ := (H6.own_rd 0 rfl (by decide)).1.get1 rfl hy rfl
              have hv : domB nx code.length q p = (x && !y) := by
                have h1 := HLA.out p hpn
                have h2 := HLB.out p hpn
                rw [hx] at h1
                rw [hy] at h2
                unfold domB
                cases x <;> cases y <;> simp at h1 h2 ⊢ <;> simp [h1, h2]
              have HV := hid hv
              have HHD := hid hhd
              have HRW := hid hrw
              clear hv hhd hrw hx hy
              have HT := fun v => H6.rows_set 2 rfl HHD.out HRW.out rfl (j := q) (by simp; omega) v rfl
              have HT := hid HT
              cases x <;> cases y
              all_goals
                go_wp2
                go_region
                go_wp2
                go_roundw
                case rel =>
                  have H7 := (HT.out (domB nx code.length q p)).drew
                  have he : mkTab code.length (fun p' k => if k < q ∨ k = q ∧ p' < p + 1 then domB nx code.length k p' else false) = (mkTab code.length (fun p' k => if k < q ∨ k = q ∧ p' < p then domB nx code.length k p' else false)).set p (((List.range (code.length + 1)).map fun k => if k < q ∨ k = q ∧ p < p then domB nx code.length k p else false).set q (domB nx code.length q p)) := by
                    rw [mkTab_set (F := fun p' k => if k < q ∨ k = q ∧ p' < p then domB nx code.length k p' else false) hpn hqn]
                    apply mkTab_congr
                    intro p' k _ _
                    by_cases h1 : p' = p ∧ k = q
                    · obtain ⟨rfl, rfl⟩ := h1; simp
                    · rw [if_neg h1]
                      by_cases h2 : k < q ∨ k = q ∧ p' < p
                      · rw [if_pos h2, if_pos (by omega)]
                      · rw [if_neg h2, if_neg (by omega)]
                  refine ⟨p + 1, by omega, by go_num, ?_⟩
                  rw [he]
                  rw [HV.out] at H7 ⊢
                  exact H7
                case measure => first | (simp [intOf]; done) | (simp [intOf]; omega)
            · obtain rfl : p = code.length + 1 := by omega
              go_wp2
              go_roundw
              case rel =>
                have he : mkTab code.length (fun p' k => if k < q + 1 then domB nx code.length k p' else false) = mkTab code.length (fun p' k => if k < q ∨ k = q ∧ p' < code.length + 1 then domB nx code.length k p' else false) := by
                  apply mkTab_congr
                  intro p' k hp' _
                  by_cases h2 : k < q + 1
                  · rw [if_pos h2, if_pos (by omega)]
                  · rw [if_neg h2, if_neg (by omega)]
                refine ⟨q + 1, by omega, by go_num, ?_⟩
                rw [he]
                exact H6.drop 0
              case measure => first | (simp [intOf]; done) | (simp [intOf]; omega)
        · obtain rfl : q = code.length + 1 := by omega
          go_wp2
          go_ret
          have he : mkTab code.length (fun p k => if k < code.length + 1 then domB nx code.length k p else false) = domTab nx code.length := by
            unfold domTab domRow mkTab
            apply List.map_congr_left
            intro p _
            apply List.map_congr_left
            intro k hk
            exact if_pos (by simpa using hk)
          rw [he] at H4
          have hlen : (domTab nx code.length).length = code.length + 1 := by simp [domTab]
          refine ⟨Al, cl, hl, by rw [hlen]; simp, ?_, by rw [hlen]; exact HLL.out, ?_, ?_⟩
          · rw [hlen, ← HLL.out]; exact (H4.own_rd 2 rfl (by decide)).2.1
          · intro k hd r h1 h2
            rw [(HHL.out k hd h1).1]
            unfold domTab at h2
            rw [List.getElem?_map] at h2
            cases hk : (List.range (code.length + 1))[k]? with
            | none => rw [hk] at h2; cases h2
            | some k' => rw [hk] at h2; simp only [Option.map_some, Option.some.injEq] at h2; rw [← h2]; simp [domRow]
          · have := (H4.drop 0)
            exact ((this.drop 2).drop 2).drop 2
end Go.Proofs.Ytjlikbaamefkiaa
