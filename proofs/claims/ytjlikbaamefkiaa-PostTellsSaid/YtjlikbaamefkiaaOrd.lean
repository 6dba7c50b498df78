/- post.order: the nodes in the order of a search by depth from the exit. -/
import Derived.Test.YtjlikbaamefkiaaDfs
import Derived.Test.YtjlikbaamefkiaaRev
import Derived.Test.YtjlikbaamefkiaaRef14
import Derived.Deep.LoopGhost
namespace Go.Proofs.Ytjlikbaamefkiaa
open Go.RowKit
set_option linter.unusedVariables false
set_option linter.unusedSimpArgs false
set_option maxHeartbeats 800000

/-- A frame of the search: a node, and how many of its neighbours have been seen to. -/
def Enc.frame : Enc (Nat × Nat) := ⟨2, fun x => [.int .i64 x.1, .int .i64 x.2], fun _ => rfl, fun _ u h => by
  rcases List.mem_cons.1 h with rfl | h
  · rfl
  · rw [List.mem_singleton.1 h]; rfl⟩
theorem elt_frame : Elt Try.prog 67 66 2 16 (.agg #[.int .i64 0, .int .i64 0]) := elt_of Try.underlying67 (by kernel_rfl) rfl (by decide) rfl
theorem frame_bump (st : List (Nat × Nat)) (x i : Nat) : splice (Enc.frame.all (st ++ [(x, i)])) (st.length * 2 + 1) (vcells (.int .i64 ((i : Int) + 1))) = Enc.frame.all (st ++ [(x, i + 1)]) := by
  have hl : (Enc.frame.all st).length = st.length * 2 := Enc.frame.all_len st
  rw [Enc.all_append, Enc.all_append, Enc.all_one_el, Enc.all_one_el, vcells_int]
  unfold splice
  rw [List.take_append, List.drop_append, hl]
  simp only [List.length_cons, List.length_nil, Nat.zero_add]
  rw [show st.length * 2 + 1 - st.length * 2 = 1 from by omega, show st.length * 2 + 1 + 1 - st.length * 2 = 2 from by omega, List.take_of_length_le (by omega), List.drop_eq_nil_of_le (by omega)]
  simp [Enc.frame]
theorem DF.small {bk : Nat → List Nat} {N : Nat} {o : List Nat} {st : List (Nat × Nat)} {sn : List Bool} (h : DF bk N o st sn) : o.length + st.length ≤ N + 1 := by
  have h1 : wt (fun _ => []) (o ++ st.map (·.1)) ≤ wt (fun _ => []) (List.range (N + 1)) := wt_le h.nod fun x hx => by
    have := h.le (List.mem_append.1 hx)
    simp
    omega
  have h2 : ∀ l : List Nat, wt (fun _ => []) l = l.length := by
    intro l
    induction l with
    | nil => rfl
    | cons x l ih => simp only [wt, List.map_cons, List.sum_cons, List.length_cons] at ih ⊢; rw [ih]; simp; omega
  rw [h2, h2] at h1
  simpa using h1
theorem list_snoc {α : Type} {l : List α} (h : l ≠ []) : ∃ m x, l = m ++ [x] := ⟨l.dropLast, l.getLast h, (List.dropLast_concat_getLast h).symm⟩

theorem Mem.own_take {α : Type} {E : Enc α} {w0 w : World} {As : List HP} {T : TypeId} {A : Option Addr} {cap : Nat} {xs : List α} (h : Mem w0 w As) (i : Nat) (hi : As[i]? = some (own E T A cap xs)) {k : Nat} (hk : k ≤ xs.length) : Mem w0 w (As.set i (own E T A cap (xs.take k))) := by
  have := h.row_take i hi hk
  rw [E.all_take] at this
  unfold own
  rwa [List.length_take, Nat.min_eq_left hk]

def OrderRes (T : TypeId) (nx : Nat → List Nat) (N : Nat) (w : World) (e : Ending) (w' : World) : Prop :=
  ∃ A c l, e = .returned (.slice A (ints l).length c) ∧ Order nx N l ∧ l.length ≤ N + 1 ∧ Mem w w' [own Enc.i64 T A c (ints l)]

set_option maxRecDepth 100000 in
theorem order_calls (A : Option Addr) (c : Nat) (hs : List Hdr) (rows : List (List Int)) (nx bk : Nat → List Nat) (N : Nat) (w : World) (hR : RdRows Enc.i64 w A rows hs) (hrn : rows.length = N + 1) (hn : N ≤ 1000000)
    (hrow : ∀ p, p ≤ N → rows[p]? = some (ints (bk p))) (hsm : ∀ p, p ≤ N → (bk p).length ≤ 1000000000) (hb : ∀ b a, a ∈ bk b → a < N ∧ b ∈ nx a) (hb' : ∀ a b, a < N → b ∈ nx a → a ∈ bk b) :
    Calls Try.prog 25 #[I (N + 1 : Nat), .slice A (N + 1) c] w (OrderRes 3 nx N w) := by
  have HR := hid hR
  have HN := hid hrn
  have HW := hid hrow
  have HB := hid hb
  have HB' := hid hb'
  have HS := hid hsm
  clear hR hrn hrow hb hb' hsm
  have H0 := (Mem.refl w).nilrow 3 1
  have H0 : Mem w w [own Enc.i64 3 none 0 []] := H0
  go_enter Try.func25, Try.ntmps25
  go_wp2_with (first | ((with_reducible refine at_mk ?_); refine wpList_make_own (E := Enc.bool) elt_bool H0 (N + 1) false rfl rfl rfl rfl rfl (by unfold maxLen; omega) (by omega) ?_; intro gH1 wH1 H1) | ((with_reducible refine at_build1 ?_); refine wpList_build1 elt_frame H1 rfl rfl (by decide) ?_; intro u_ gH2 wH2 hu_ H2; simp only [Act.eval, Act.put, List.setIfInBounds_toArray, List.set_cons_zero, List.set_cons_succ, Array.getD_eq_getD_getElem?, List.getElem?_toArray, List.getElem?_cons_zero, List.getElem?_cons_succ, Option.getD_some] at hu_; subst hu_; simp only [splice, vcells_int, vcells_bool, vcells_string, vcells_pointer, vcells_slice, vcells_map, vcells_func, vcells_nilFunc, vcells_iface, vcells_nilIface, vcells_agg, List.take_zero, List.take_succ_cons, List.drop_zero, List.drop_succ_cons, List.length_cons, List.length_nil, List.nil_append, List.cons_append, List.append_nil, Nat.zero_add, List.set_cons_zero, List.set_cons_succ] at H2) | ((with_reducible refine at_store ?_); refine wpList_store_own H2 1 N true rfl rfl (by omega) rfl rfl (by kernel_rfl) (by simp) ?_; intro wH3 H3; simp only [List.set_cons_zero, List.set_cons_succ] at H3))
  have HD : Hd (DF bk N [] [(N, 0)] ((List.replicate (N + 1) false).set N true)) := hid (DF.init bk N)
  have H3 : Mem w wH3 [own Enc.frame 66 (some ⟨gH2, 0, none⟩) 1 [(N, 0)], own Enc.bool 4 (some ⟨gH1, 0, none⟩) (N + 1) ((List.replicate (N + 1) false).set N true), own Enc.i64 3 none 0 []] := H3
  have HG0 : Hd (wt bk (List.range (N + 1)) - used bk [] [(N, 0)] ≤ wt bk (List.range (N + 1))) := ⟨Nat.sub_le _ _⟩
  generalize (List.replicate (N + 1) false).set N true = sn0 at H3 HD
  go_loopg [6, 7] (wt bk (List.range (N + 1))) (fun g v6 v7 wr => ∃ (A6 : Option Addr) (c6 : Nat) (A7 : Option Addr) (c7 : Nat) (od : List Nat) (st : List (Nat × Nat)) (sn : List Bool), v6 = .slice A6 (ints od).length c6 ∧ v7 = .slice A7 st.length c7 ∧ Hd (DF bk N od st sn) ∧ Hd (wt bk (List.range (N + 1)) - used bk od st ≤ g) ∧
    Mem w wr [own Enc.frame 66 A7 c7 st, own Enc.bool 4 (some ⟨gH1, 0, none⟩) (N + 1) sn, own Enc.i64 3 A6 c6 (ints od)])
  case atStart => exact ⟨none, 0, _, _, [], [(N, 0)], sn0, rfl, rfl, HD, HG0, H3⟩
  case round =>
    clear H3 HD HG0 H2 H1
    obtain ⟨A6, c6, A7, c7, od, st, sn, rfl, rfl, HV, HG, H4⟩ := hrel
    obtain ⟨wo, rfl⟩ : ∃ wo : World, wo = wr := ⟨_, rfl⟩
    have hsm := HV.out.small
    have hil : (ints od).length = od.length := by simp [ints]
    have HIL := hid hil
    have ho1 : (ints od).length ≤ 1000001 := by omega
    clear hil
    by_cases hst : st = []
    · subst hst
      replace H4 := H4.mv 2 rfl; simp only [List.eraseIdx_cons_succ, List.eraseIdx_cons_zero] at H4
      go_wp2_with (go_at_call 37; (with_reducible refine (reverse_calls w _ _ A6 c6 (ints od) (by omega) H4).mono ?_); rintro e w5 ⟨rfl, H5⟩)
      go_ret
      have hrv : (ints od).reverse = ints od.reverse := by simp [ints]
      rw [hrv] at H5
      exact ⟨A6, c6, od.reverse, by rw [← hrv, List.length_reverse]; rfl, HV.out.order HB.out HB'.out, by simp; have := HV.out.small; simp at this; omega, (H5.drop 1).drop 1⟩
    · obtain ⟨st, ⟨x, i⟩, rfl⟩ := list_snoc hst
      clear hst
      have hsl : (st ++ [(x, i)]).length = st.length + 1 := by simp
      rw [hsl] at hsm ⊢
      have hxN : x ≤ N := HV.out.le (.inr (by simp))
      have hip := (HV.out.prog x i (by simp)).1
      have hsb := HS.out x hxN
      have hgt : (st ++ [(x, i)])[st.length]? = some (x, i) := by simp
      have HGT := hid hgt
      clear hgt
      obtain ⟨g7, o7, rfl, t0, t1⟩ := (H4.own_rd 0 rfl (by decide)).1.get2 rfl HGT.out rfl
      obtain ⟨hd, hhd⟩ : ∃ hd, hs[x]? = some hd := ⟨_, List.getElem?_eq_getElem (by have := HR.out.len; have := HN.out; omega)⟩
      obtain ⟨bb, bo, rfl, hc0⟩ := HR.out.out.get1 rfl hhd rfl
      obtain ⟨hdn, hdc, hdr⟩ := HR.out.inn x hd _ hhd (HW.out x hxN)
      have HDR := hid hdr
      have hll : (ints (bk x)).length = (bk x).length := by simp [ints]
      obtain ⟨hA, hn', hcc⟩ := hd
      simp only [] at hdn hdc hc0
      rw [hll] at hdn hdc
      subst hdn
      simp only [] at HDR
      clear hdr hhd hll
      have e0 := H4.old hc0
      by_cases hif : i = (bk x).length
      · have g1 : ((i : Int) == ((bk x).length : Int)) = true := by simp [hif]
        have HIF := hid hif
        clear hif
        go_wp2
        go_quiet (fail)
        have H5 := H4.drewN nq
        obtain ⟨w5, hw5⟩ : ∃ w5, w5 = wo.drewN nq := ⟨_, rfl⟩
        rw [← hw5] at H5 ⊢
        clear t0 t1 hc0 e0 hw5
        obtain ⟨g8, o8, h8, t0, t1⟩ := (H5.own_rd 0 rfl (by decide)).1.get2 rfl HGT.out rfl
        obtain ⟨rfl, rfl⟩ : g8 = g7 ∧ o8 = o7 := by simp at h8; exact ⟨h8.1.symm, h8.2.symm⟩
        have hc7 : st.length + 1 ≤ c7 := by rw [← hsl]; exact (H5.own_rd 0 rfl (by decide)).2.1
        clear h8 t1
        go_wp2_with (first | ((with_reducible refine at_build1 ?_); refine wpList_build1 elt_int H5 rfl rfl (by decide) ?_; intro u_ gH6 wH6 hu_ H6; simp only [Act.eval, Act.put, List.setIfInBounds_toArray, List.set_cons_zero, List.set_cons_succ, Array.getD_eq_getD_getElem?, List.getElem?_toArray, List.getElem?_cons_zero, List.getElem?_cons_succ, Option.getD_some] at hu_; subst hu_; simp only [splice, vcells_int, vcells_bool, vcells_string, vcells_pointer, vcells_slice, vcells_map, vcells_func, vcells_nilFunc, vcells_iface, vcells_nilIface, vcells_agg, List.take_zero, List.take_succ_cons, List.drop_zero, List.drop_succ_cons, List.length_cons, List.length_nil, List.nil_append, List.cons_append, List.append_nil, Nat.zero_add, List.set_cons_zero, List.set_cons_succ] at H6) | ((with_reducible refine at_append ?_); refine wpList_append_own1 (E := Enc.i64) elt_int H6 3 (x : Int) rfl rfl rfl rfl (H6.rd 0 rfl elt_int.pos).1 (by omega) (by decide) ?_; intro AH7 cH7 wH7 H7; simp only [List.set_cons_zero, List.set_cons_succ] at H7; replace H7 := H7.drop 0; simp only [List.eraseIdx_cons_zero] at H7))
        go_roundg (wt bk (List.range (N + 1)) - used bk (od ++ [x]) st)
        case rel =>
          have H8 := H7.own_take 0 rfl (k := st.length) (by simp)
          rw [List.take_left' rfl] at H8
          have he : ints od ++ [(x : Int)] = ints (od ++ [x]) := by simp [ints]
          rw [he] at H8
          exact ⟨AH7, cH7, _, c7, od ++ [x], st, sn, by rw [← he]; simp, rfl, ⟨HV.out.pop HIF.out⟩, ⟨Nat.le_refl _⟩, H8⟩
        case measure =>
          have h1 := HV.out.used_lt (by simp)
          have h2 := HG.out
          have h3 := HIF.out
          have h4 : used bk (od ++ [x]) st = used bk od (st ++ [(x, i)]) + 1 := by
            unfold used
            rw [wt_append]
            simp [wt]
            omega
          omega
      · have g1 : ((i : Int) == ((bk x).length : Int)) = false := by simp; omega
        have hlt : i < (bk x).length := by omega
        obtain ⟨y, hy⟩ : ∃ y, (bk x)[i]? = some y := ⟨_, List.getElem?_eq_getElem hlt⟩
        have hyN : y ≤ N := Nat.le_of_lt (HB.out x y (List.mem_of_getElem? hy)).1
        obtain ⟨b2, o2, rfl, hd0⟩ := HDR.out.get1 (k := i) (x := (y : Int)) rfl (by unfold ints; rw [List.getElem?_map, hy]; rfl) rfl
        have e2 := H4.old hd0
        have HY := hid hy
        have HIF := hid hif
        clear hif hy
        go_wp2
        go_quiet (fail)
        have H5 := H4.drewN nq
        obtain ⟨w5, hw5⟩ : ∃ w5, w5 = wo.drewN nq := ⟨_, rfl⟩
        rw [← hw5] at H5 ⊢
        clear t0 t1 e0 hw5
        have e0 := H5.old hc0
        obtain ⟨g8, o8, h8, t0, t1⟩ := (H5.own_rd 0 rfl (by decide)).1.get2 rfl HGT.out rfl
        obtain ⟨rfl, rfl⟩ : g8 = g7 ∧ o8 = o7 := by simp at h8; exact ⟨h8.1.symm, h8.2.symm⟩
        clear h8
        have e2 := H5.old hd0
        go_wp2
        clear nq
        go_quiet (fail)
        have H6 := H5.drewN nq
        obtain ⟨w6, hw6⟩ : ∃ w6, w6 = w5.drewN nq := ⟨_, rfl⟩
        rw [← hw6] at H6 ⊢
        clear t0 t1 e0 e2 hw6
        obtain ⟨g9, o9, h9, t0, t1⟩ := (H6.own_rd 0 rfl (by decide)).1.get2 rfl HGT.out rfl
        obtain ⟨rfl, rfl⟩ : g9 = g8 ∧ o9 = o8 := by simp at h9; exact ⟨h9.1.symm, h9.2.symm⟩
        clear h9
        have hlN := HV.out.len
        obtain ⟨b, hbv⟩ : ∃ b, sn[y]? = some b := ⟨_, List.getElem?_eq_getElem (by omega)⟩
        have HBV := hid hbv
        clear hbv
        go_upto_region 12 with ((with_reducible refine at_store ?_); refine wpList_store_row H6 0 1 (st.length * 2 + 1) rfl rfl (by omega) (by kernel_rfl) rfl (by decide) (by simp [Enc.frame]; omega) rfl ?_; intro u_ wH7 hu_ H7; simp only [Act.eval, Act.put, List.setIfInBounds_toArray, List.set_cons_zero, List.set_cons_succ, Array.getD_eq_getD_getElem?, List.getElem?_toArray, List.getElem?_cons_zero, List.getElem?_cons_succ, Option.getD_some] at hu_; subst hu_)
        rw [frame_bump] at H7
        have H7 : Mem w wH7 [own Enc.frame 66 (some ⟨g9, o9, none⟩) c7 (st ++ [(x, i + 1)]), own Enc.bool 4 (some ⟨gH1, 0, none⟩) (N + 1) sn, own Enc.i64 3 A6 c6 (ints od)] := by
          simpa [own] using H7
        have e3 := (H7.own_get0 1 rfl rfl HBV.out rfl).1
        have hsl1 : st.length + 1 = (st ++ [(x, i + 1)]).length := by simp
        have HSL := hid hsl1
        clear hsl1
        cases b with
        | true =>
          go_wp2
          go_roundg (wt bk (List.range (N + 1)) - used bk od (st ++ [(x, i + 1)]))
          case rel => exact ⟨A6, c6, _, c7, od, st ++ [(x, i + 1)], sn, rfl, by rw [← HSL.out], ⟨HV.out.next HY.out HBV.out⟩, ⟨Nat.le_refl _⟩, H7⟩
          case measure =>
            have h1 := HV.out.used_lt (by simp)
            have h2 := HG.out
            have h4 : used bk od (st ++ [(x, i + 1)]) = used bk od (st ++ [(x, i)]) + 1 := by
              unfold used
              simp
              omega
            omega
        | false =>
          go_wp2_with (first
            | ((with_reducible refine at_store ?_); refine wpList_store_own H7 1 y true rfl rfl (by omega) rfl rfl (by kernel_rfl) (by have := HV.out.len; omega) ?_; intro wH8 H8; simp only [List.set_cons_zero, List.set_cons_succ] at H8)
            | ((with_reducible refine at_build1 ?_); refine wpList_build1 elt_frame H8 rfl rfl (by decide) ?_; intro u_ gH9 wH9 hu_ H9; simp only [Act.eval, Act.put, List.setIfInBounds_toArray, List.set_cons_zero, List.set_cons_succ, Array.getD_eq_getD_getElem?, List.getElem?_toArray, List.getElem?_cons_zero, List.getElem?_cons_succ, Option.getD_some] at hu_; subst hu_; simp only [splice, vcells_int, vcells_bool, vcells_string, vcells_pointer, vcells_slice, vcells_map, vcells_func, vcells_nilFunc, vcells_iface, vcells_nilIface, vcells_agg, List.take_zero, List.take_succ_cons, List.drop_zero, List.drop_succ_cons, List.length_cons, List.length_nil, List.nil_append, List.cons_append, List.append_nil, Nat.zero_add, List.set_cons_zero, List.set_cons_succ] at H9)
            | ((with_reducible refine at_append ?_); refine wpList_append_own1 (E := Enc.frame) elt_frame H9 1 (y, 0) rfl rfl (by rw [← HSL.out]; rfl) rfl (H9.rd 0 rfl elt_frame.pos).1 (by rw [← HSL.out]; omega) (by decide) ?_; intro AH10 cH10 wH10 H10; simp only [List.set_cons_zero, List.set_cons_succ] at H10; replace H10 := H10.drop 0; simp only [List.eraseIdx_cons_zero] at H10))
          go_roundg (wt bk (List.range (N + 1)) - used bk od (st ++ [(x, i + 1), (y, 0)]))
          case rel =>
            have he : (st ++ [(x, i + 1)]) ++ [(y, 0)] = st ++ [(x, i + 1), (y, 0)] := by simp
            rw [he] at H10
            exact ⟨A6, c6, AH10, cH10, od, st ++ [(x, i + 1), (y, 0)], _, rfl, by simp, ⟨HV.out.push HY.out hyN HBV.out⟩, ⟨Nat.le_refl _⟩, H10⟩
          case measure =>
            have h1 := HV.out.used_lt (by simp)
            have h2 := HG.out
            have h4 : used bk od (st ++ [(x, i + 1), (y, 0)]) = used bk od (st ++ [(x, i)]) + 1 := by
              unfold used
              simp
              omega
            omega
end Go.Proofs.Ytjlikbaamefkiaa
