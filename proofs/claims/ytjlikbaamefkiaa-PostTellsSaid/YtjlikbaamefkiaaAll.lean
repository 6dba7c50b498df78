/- post.All: the table of post-dominators. -/
import Derived.Test.YtjlikbaamefkiaaTree
namespace Go.Proofs.Ytjlikbaamefkiaa
open Go.RowKit
set_option linter.unusedVariables false
set_option linter.unusedSimpArgs false
set_option maxHeartbeats 2000000

def RowRes (T : TypeId) (l : List Bool) (w : World) (e : Ending) (w' : World) : Prop := ∃ A c, e = .returned (.slice A l.length c) ∧ l.length ≤ c ∧ Mem w w' [own Enc.bool T A c l]
theorem treeL_get {nx : Nat → List Nat} {n p : Nat} (hp : p ≤ n) : (treeL nx n)[p]? = some (nearI nx n p) := by
  unfold treeL
  rw [List.getElem?_map, List.getElem?_range (by omega)]
  rfl
theorem treeL_len (nx : Nat → List Nat) (n : Nat) : (treeL nx n).length = n + 1 := by simp [treeL]
theorem domRow_len (nx : Nat → List Nat) (n p : Nat) : (domRow nx n p).length = n + 1 := by simp [domRow]

noncomputable def chM (nx : Nat → List Nat) (n : Nat) (v : Int) : Nat := if v < 0 then 0 else cnt nx n v.toNat + 1
theorem chM_nat (nx : Nat → List Nat) (n x : Nat) : chM nx n (x : Int) = cnt nx n x + 1 := by
  unfold chM
  rw [if_neg (by omega), Int.toNat_natCast]
theorem chM_none (nx : Nat → List Nat) (n : Nat) : chM nx n (-1) = 0 := rfl
set_option maxRecDepth 100000 in
theorem chain_calls (nx : Nat → List Nat) (n p : Nat) (hA : NearAll nx n) (hp : p ≤ n) (hn : n ≤ 1000000) (g4 g3 : Nat) (A : Option Addr) (c : Nat) (w : World) (h4 : w.cell? ⟨g4, 0, none⟩ = some (.int .i64 ((n : Int) + 1))) (h3 : w.cell? ⟨g3, 0, none⟩ = some (.slice A (n + 1) c)) (hR : Rd Enc.i64 w A (treeL nx n)) :
    Calls Try.prog 23 #[I p, pt g4, pt g3] w (RowRes 4 (domRow nx n p) w) := by
  have HA := hid hA
  have HR := hid hR
  clear hA hR
  have H0 := Mem.refl w
  go_enter Try.func23, Try.ntmps23
  go_wp2_with ((with_reducible refine at_mk ?_); refine wpList_make_own (E := Enc.bool) elt_bool H0 (n + 1) false rfl rfl rfl rfl rfl (by unfold maxLen; omega) (by omega) ?_; intro gH1 wH1 H1)
  obtain ⟨b0, o0, rfl, d0⟩ := HR.out.get1 rfl (treeL_get hp) rfl
  by_cases hr : Av nx n (-1) p
  · have hnp : (nearI nx n p ≥ 0 ∧ p ≠ n) ∨ (nearI nx n p < 0 ∧ p = n) := by
      rcases chain_next HA.out hr with ⟨h1, h2⟩ | ⟨h1, m, _, h2⟩
      · exact .inr ⟨by omega, h1⟩
      · exact .inl ⟨by omega, h1⟩
    have HC0 := hid (ChainI.start hr)
    have HNP := hid hnp
    clear hr hnp
    generalize List.replicate (n + 1) false = row0 at H1 HC0
    go_loopw [6] (fun v6 wr => ∃ (o : Option Nat) (row : List Bool), v6 = .int .i64 (obI o) ∧ Hd (ChainI nx n p o row) ∧ Mem w wr [own Enc.bool 4 (some ⟨gH1, 0, none⟩) (n + 1) row]) (fun v _ => chM nx n (intOf v))
    case atStart => exact ⟨some p, row0, rfl, HC0, H1⟩
    case round =>
      clear H1 HC0
      obtain ⟨o, row, rfl, HC, H2⟩ := hrel
      obtain ⟨wo, rfl⟩ : ∃ wo : World, wo = wr := ⟨_, rfl⟩
      have e3 := H2.old h3
      have e4 := H2.old h4
      have e0 := H2.old d0
      cases o with
      | none =>
        simp only [obI]
        go_wp2
        go_ret
        have hrw := HC.out.done
        rw [hrw] at H2
        exact ⟨_, _, by rw [domRow_len]; rfl, by rw [domRow_len]; exact Nat.le_refl _, H2⟩
      | some x =>
        simp only [obI]
        have hxd := HC.out.cur x rfl
        have hxn : x ≤ n := hxd.le
        have hxr : Av nx n (-1) x := hxd.1.pass hxd.2
        obtain ⟨b1, o1, h1, d1⟩ := HR.out.get1 rfl (treeL_get hxn) rfl
        obtain ⟨rfl, rfl⟩ : b0 = b1 ∧ o0 = o1 := by simp at h1; exact ⟨h1.1, h1.2⟩
        have e1 := H2.old d1
        have hnx : ∃ o : Option Nat, nearI nx n x = obI o ∧ ((x = n ∧ o = none) ∨ (x ≠ n ∧ ∃ m, NearP nx n x m ∧ o = some m)) := by
          rcases chain_next HA.out hxr with ⟨k1, k2⟩ | ⟨k1, m, k2, k3⟩
          · exact ⟨none, k2, .inl ⟨k1, rfl⟩⟩
          · exact ⟨some m, k3, .inr ⟨k1, m, k2, rfl⟩⟩
        obtain ⟨o, hox, hor⟩ := hnx
        have HNX := hid (HC.out.next hor)
        have hms : chM nx n (obI o) < chM nx n (x : Int) := by
          rw [chM_nat]
          rcases hor with ⟨-, rfl⟩ | ⟨-, m, hm, rfl⟩
          · exact Nat.succ_pos _
          · have := hm.cnt
            have h9 := chM_nat nx n m
            simp only [obI]
            omega
        have HMS := hid hms
        clear hms hor hxd hxr h1
        rw [hox] at d1 e1
        rcases HNP.out with ⟨q1, q2⟩ | ⟨q1, q2⟩
        · obtain ⟨m0, hm0⟩ := Int.eq_ofNat_of_zero_le q1
          rw [hm0] at e0
          clear q1 q2 hox
          go_wp2_with ((with_reducible refine at_store ?_); refine wpList_store_own H2 0 x true rfl rfl (by omega) rfl rfl (by kernel_rfl) (by have := HC.out.len; omega) ?_; intro wH3 H3; simp only [List.set_cons_zero, List.set_cons_succ] at H3; have f3 := H3.old h3; have f1 := H3.old d1)
          go_roundw
          case rel => exact ⟨o, row.set x true, rfl, HNX, H3⟩
          case measure => exact HMS.out
        · subst q2
          have hm0 : nearI nx p p = -1 := nearI_none near_top
          rw [hm0] at e0
          clear q1 hm0 hox
          go_wp2_with ((with_reducible refine at_store ?_); refine wpList_store_own H2 0 x true rfl rfl (by omega) rfl rfl (by kernel_rfl) (by have := HC.out.len; omega) ?_; intro wH3 H3; simp only [List.set_cons_zero, List.set_cons_succ] at H3; have f3 := H3.old h3; have f1 := H3.old d1)
          go_roundw
          case rel => exact ⟨o, row.set x true, rfl, HNX, H3⟩
          case measure => exact HMS.out
  · have hpn : p ≠ n := fun e => hr (by subst e; exact .base (by omega))
    have hg1 : ((p : Int) == (n : Int)) = false := by simp; omega
    rw [near_off' hr] at d0
    have e3 := H1.old h3
    have e4 := H1.old h4
    have e0 := H1.old d0
    have hrow := domRow_off hr
    have HRW := hid hrow
    clear hr hrow
    go_loopw [6] (fun v6 wr => v6 = I p ∧ wr = wH1) (fun v _ => 0)
    case atStart => exact ⟨rfl, rfl⟩
    case round =>
      obtain ⟨rfl, rfl⟩ := hrel
      go_wp2
      go_ret
      rw [HRW.out]
      exact ⟨_, _, by rw [List.length_replicate]; rfl, by simp, H1⟩

theorem domTab_get {nx : Nat → List Nat} {n p : Nat} (hp : p ≤ n) : (domTab nx n)[p]? = some (domRow nx n p) := by
  unfold domTab
  rw [List.getElem?_map, List.getElem?_range (by omega)]
  rfl
theorem domTab_len (nx : Nat → List Nat) (n : Nat) : (domTab nx n).length = n + 1 := by simp [domTab]
/-- The rows of the first i nodes, the others not yet. -/
noncomputable def tabI (nx : Nat → List Nat) (n i : Nat) : List (List Bool) := (List.range (n + 1)).map fun p => if p < i then domRow nx n p else []
theorem tabI_set {nx : Nat → List Nat} {n i : Nat} (hi : i ≤ n) : (tabI nx n i).set i (domRow nx n i) = tabI nx n (i + 1) := by
  apply List.ext_getElem?
  intro k
  unfold tabI
  by_cases hk : k ≤ n
  · by_cases e : i = k
    · subst e
      rw [List.getElem?_set_self (by simp; omega), List.getElem?_map, List.getElem?_range (by omega)]
      simp
    · rw [List.getElem?_set_ne e, List.getElem?_map, List.getElem?_map, List.getElem?_range (by omega)]
      simp only [Option.map_some]
      by_cases h : k < i
      · rw [if_pos h, if_pos (by omega)]
      · rw [if_neg h, if_neg (by omega)]
  · rw [List.getElem?_eq_none (by simp; omega), List.getElem?_eq_none (by simp; omega)]
theorem tabI_none (nx : Nat → List Nat) (n : Nat) : tabI nx n 0 = List.replicate (n + 1) [] := by
  unfold tabI
  simp [List.map_const']
theorem tabI_all (nx : Nat → List Nat) (n : Nat) : tabI nx n (n + 1) = domTab nx n := by
  unfold tabI domTab
  apply List.map_congr_left
  intro p hp
  rw [if_pos (by simpa using hp)]
theorem tabI_get {nx : Nat → List Nat} {n i : Nat} (hi : i ≤ n) : (tabI nx n i)[i]? = some [] := by
  unfold tabI
  rw [List.getElem?_map, List.getElem?_range (by omega)]
  simp

set_option maxRecDepth 100000 in
theorem all_calls (f : Fun) (h : FunH) (w : World) (hR : f.Rd w h) (hn : f.code.length ≤ 1000000) (ho : ∀ i ∈ f.code, -9223372036854775808 ≤ i.a ∧ i.a ≤ 9223372036854775807) :
    Calls Try.prog 7 #[f.val h] w (TabRes 39 4 (domTab (nxt f.code) f.code.length) w) := by
  have HR := hid hR
  have htree := fun w' hR' => tree_calls f h w' hR' hn ho
  have HT := hid htree
  clear hR ho htree
  obtain ⟨lv, ps, rs, lo, st, code⟩ := f
  obtain ⟨A1, c1, A2, c2, A5, c5⟩ := h
  simp only [] at hn
  have H0 := Mem.refl w
  simp only [Fun.val] at *
  have hnil : I ((code.length + 1 : Nat) : Int) = .int .i64 ((code.length : Int) + 1) := rfl
  go_enter Try.func7, Try.ntmps7
  go_wp2_with (first
    | ((with_reducible refine at_box ?_); refine wpList_box_box H0 ?_; intro u_ gH1 wH1 hu_ H1; simp only [Act.eval, Act.put, List.setIfInBounds_toArray, List.set_cons_zero, List.set_cons_succ, Array.getD_eq_getD_getElem?, List.getElem?_toArray, List.getElem?_cons_zero, List.getElem?_cons_succ, Option.getD_some] at hu_; subst hu_; simp only [splice, vcells_int, vcells_bool, vcells_string, vcells_pointer, vcells_slice, vcells_map, vcells_func, vcells_nilFunc, vcells_iface, vcells_nilIface, vcells_agg, List.take_zero, List.take_succ_cons, List.drop_zero, List.drop_succ_cons, List.length_cons, List.length_nil, List.nil_append, List.cons_append, List.append_nil, Nat.zero_add, List.set_cons_zero, List.set_cons_succ] at H1; (try clear b0); have b0 := H1.cells 0 rfl; simp only [cellsAre, and_true, Nat.zero_add] at b0)
    | (go_at_call 8; (with_reducible refine (HT.out _ (Fun.Rd.below HR.out H1.below)).mono ?_); rintro e w2 ⟨⟨A3, c3, rfl, h3, H2'⟩, hA⟩; have H2 := H1.call H2'; simp only [List.cons_append, List.nil_append, treeL_len] at H2 ⊢)
    | ((with_reducible refine at_alloc ?_); refine wpList_alloc_box H2 (.slice none 0 0) (by kernel_rfl) ?_; intro gH3 wH3 H3; simp only [splice, vcells_int, vcells_bool, vcells_string, vcells_pointer, vcells_slice, vcells_map, vcells_func, vcells_nilFunc, vcells_iface, vcells_nilIface, vcells_agg, List.take_zero, List.take_succ_cons, List.drop_zero, List.drop_succ_cons, List.length_cons, List.length_nil, List.nil_append, List.cons_append, List.append_nil, Nat.zero_add, List.set_cons_zero, List.set_cons_succ] at H3) | ((with_reducible refine at_store ?_); refine wpList_store_box H3 0 1 rfl rfl (by kernel_rfl) rfl (Nat.le_of_ble_eq_true rfl) rfl ?_; intro u_ wH4 hu_ H4; simp only [Act.eval, Act.put, List.setIfInBounds_toArray, List.set_cons_zero, List.set_cons_succ, Array.getD_eq_getD_getElem?, List.getElem?_toArray, List.getElem?_cons_zero, List.getElem?_cons_succ, Option.getD_some] at hu_; subst hu_; simp only [splice, vcells_int, vcells_bool, vcells_string, vcells_pointer, vcells_slice, vcells_map, vcells_func, vcells_nilFunc, vcells_iface, vcells_nilIface, vcells_agg, List.take_zero, List.take_succ_cons, List.drop_zero, List.drop_succ_cons, List.length_cons, List.length_nil, List.nil_append, List.cons_append, List.append_nil, Nat.zero_add, List.set_cons_zero, List.set_cons_succ] at H4; (try clear e3); have e3 := H4.cells 0 rfl; simp only [cellsAre, and_true, Nat.zero_add] at e3)
    | ((with_reducible refine at_alloc ?_); refine wpList_alloc_box H4 (.int .i64 0) (by kernel_rfl) ?_; intro gH5 wH5 H5; simp only [splice, vcells_int, vcells_bool, vcells_string, vcells_pointer, vcells_slice, vcells_map, vcells_func, vcells_nilFunc, vcells_iface, vcells_nilIface, vcells_agg, List.take_zero, List.take_succ_cons, List.drop_zero, List.drop_succ_cons, List.length_cons, List.length_nil, List.nil_append, List.cons_append, List.append_nil, Nat.zero_add, List.set_cons_zero, List.set_cons_succ] at H5) | ((with_reducible refine at_store ?_); refine wpList_store_box H5 0 1 rfl rfl (by kernel_rfl) rfl (Nat.le_of_ble_eq_true rfl) rfl ?_; intro u_ wH6 hu_ H6; simp only [Act.eval, Act.put, List.setIfInBounds_toArray, List.set_cons_zero, List.set_cons_succ, Array.getD_eq_getD_getElem?, List.getElem?_toArray, List.getElem?_cons_zero, List.getElem?_cons_succ, Option.getD_some] at hu_; subst hu_; simp only [splice, vcells_int, vcells_bool, vcells_string, vcells_pointer, vcells_slice, vcells_map, vcells_func, vcells_nilFunc, vcells_iface, vcells_nilIface, vcells_agg, List.take_zero, List.take_succ_cons, List.drop_zero, List.drop_succ_cons, List.length_cons, List.length_nil, List.nil_append, List.cons_append, List.append_nil, Nat.zero_add, List.set_cons_zero, List.set_cons_succ] at H6; (try clear e5); have e5 := H6.cells 0 rfl; simp only [cellsAre, and_true, Nat.zero_add] at e5; (try clear e3); have e3 := H6.cells 1 rfl; simp only [cellsAre, and_true, Nat.zero_add] at e3)
    | ((with_reducible refine at_mk ?_); refine wpList_make_own (E := Enc.hdr) elt_bools H6 (code.length + 1) (⟨none, 0, 0⟩ : Hdr) rfl rfl rfl rfl rfl (by unfold maxLen; omega) (by omega) ?_; intro gH7 wH7 H7))
  have HA := hid hA
  have H8 := (H7.rows_blank Enc.bool 4 (code.length + 1)).drop 5
  simp only [List.eraseIdx_cons_succ, List.eraseIdx_cons_zero] at H8
  rw [← tabI_none (nxt code) code.length] at H8
  clear H7 e3 e5 H6 H5 H4 H3 H2 H2' H1 b0 hA
  go_loopw [17] (fun v wr => ∃ (i : Nat) (hs : List Hdr), i ≤ code.length + 1 ∧ v = .int .i64 i ∧ Hd (hs.length = code.length + 1 ∧ (∀ (k : Nat) (hd : Hdr) (r : List Bool), hs[k]? = some hd → (tabI (nxt code) code.length i)[k]? = some r → hd.n = r.length) ∧ ∀ k, i ≤ k → k < code.length + 1 → hs[k]? = some ⟨none, 0, 0⟩) ∧ Mem w wr [rowsP Enc.bool 4 hs (tabI (nxt code) code.length i), own Enc.hdr 39 (some ⟨gH7, 0, none⟩) (code.length + 1) hs, box gH5 3 #[.int .i64 ((code.length : Int) + 1)], box gH3 32 #[.slice A3 (code.length + 1) c3], own Enc.i64 3 A3 c3 (treeL (nxt code) code.length)]) (fun v _ => code.length + 1 - (intOf v).toNat)
  case atStart =>
    refine ⟨0, _, Nat.zero_le _, rfl, ⟨by simp, fun k hd r h1 h2 => ?_, fun k _ hk => by rw [List.getElem?_replicate, if_pos hk]⟩, H8⟩
    rw [tabI_none] at h2
    rw [List.getElem?_replicate] at h1 h2
    by_cases hk : k < code.length + 1
    · rw [if_pos hk] at h1 h2
      obtain rfl := Option.some.inj h1
      obtain rfl := Option.some.inj h2
      rfl
    · rw [if_neg hk] at h1; cases h1
  case round =>
    clear H8
    obtain ⟨i, hs, hi, rfl, HS, H2⟩ := hrel
    obtain ⟨wo, rfl⟩ : ∃ wo : World, wo = wr := ⟨_, rfl⟩
    by_cases hlt : i < code.length + 1
    · have hch := chain_calls (nxt code) code.length i HA.out (by omega) hn gH5 gH3 A3 c3 wo (H2.cells 2 rfl).1.1 (H2.cells 3 rfl).1.1 (H2.own_rd 4 rfl (by decide)).1
      have HCH := hid hch
      clear hch
      go_wp2_with (first
        | (go_at_call 23; (with_reducible refine HCH.out.mono ?_); rintro e w3 ⟨A6, c6, rfl, h6, H3'⟩; have H3 := H2.call H3'; simp only [List.cons_append, List.nil_append] at H3)
        | ((with_reducible refine at_store ?_); refine wpList_store_own H3 2 i (⟨A6, (domRow (nxt code) code.length i).length, c6⟩ : Hdr) rfl rfl (by omega) rfl rfl (by kernel_rfl) (by have := HS.out.1; omega) ?_; intro wH4 H4; simp only [List.set_cons_zero, List.set_cons_succ] at H4))
      go_roundw
      case rel =>
        have H5 := H4.rows_in (HS.out.2.2 i (Nat.le_refl _) hlt) (tabI_get (by omega))
        rw [tabI_set (by omega)] at H5
        refine ⟨i + 1, _, by omega, by go_num, ⟨by rw [List.length_set]; exact HS.out.1, fun k hd r h1 h2 => ?_, fun k hk hk2 => ?_⟩, H5⟩
        · rw [← tabI_set (by omega)] at h2
          by_cases e : i = k
          · subst e
            rw [List.getElem?_set_self (by have := HS.out.1; omega)] at h1
            rw [List.getElem?_set_self (by simp [tabI]; omega)] at h2
            obtain rfl := Option.some.inj h1
            obtain rfl := Option.some.inj h2
            rfl
          · rw [List.getElem?_set_ne e] at h1 h2
            exact HS.out.2.1 k hd r h1 h2
        · rw [List.getElem?_set_ne (by omega)]
          exact HS.out.2.2 k (by omega) hk2
      case measure => first | (simp [intOf]; done) | (simp [intOf]; omega)
    · obtain rfl : i = code.length + 1 := by omega
      go_wp2
      go_ret
      rw [tabI_all] at H2
      have hfit := HS.out.2.1
      rw [tabI_all] at hfit
      exact ⟨_, _, hs, by rw [domTab_len]; rfl, by rw [domTab_len]; exact Nat.le_refl _, by rw [domTab_len]; exact HS.out.1, hfit, ((H2.drop 4).drop 3).drop 2⟩
end Go.Proofs.Ytjlikbaamefkiaa
