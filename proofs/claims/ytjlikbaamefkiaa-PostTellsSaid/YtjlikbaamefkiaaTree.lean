/- post.Tree: the nearest post-dominators. -/
import Derived.Test.YtjlikbaamefkiaaEdges
import Derived.Test.YtjlikbaamefkiaaInv
import Derived.Test.YtjlikbaamefkiaaOrd
import Derived.Test.YtjlikbaamefkiaaInrow
import Derived.Test.YtjlikbaamefkiaaMeet
import Derived.Test.YtjlikbaamefkiaaTreeJ
import Derived.Test.YtjlikbaamefkiaaChain
import Derived.ScopeJumps
import Derived.Shelf.Abstract
namespace Go.Proofs.Ytjlikbaamefkiaa
open Go.RowKit Go.Shelf
set_option linter.unusedVariables false
set_option linter.unusedSimpArgs false
set_option maxHeartbeats 2000000
attribute [local go_sem] Oper.semAt_some

noncomputable def treeL (nx : Nat → List Nat) (n : Nat) : List Int := (List.range (n + 1)).map (nearI nx n)
/-- The table of the nearest ones; each node with a way has one. -/
def TreeRes (T : TypeId) (nx : Nat → List Nat) (n : Nat) (w : World) (e : Ending) (w' : World) : Prop := (∃ A c, e = .returned (.slice A (treeL nx n).length c) ∧ Hd (c = (treeL nx n).length) ∧ Mem w w' [own Enc.i64 T A c (treeL nx n)]) ∧ NearAll nx n
/-- A block that is no cells. -/
theorem Mem.obj {w0 W : World} {As : List HP} (H : Mem w0 W As) (hC : AllC As) {D : Nat} {o : Obj} (hD : W.heap[D]? = some o) (ho : o.isCells = false) (hl : w0.heap.size ≤ D) : Mem w0 W (still W (fun k => k = D) :: As) := by
  obtain ⟨F, hs, hF, hb⟩ := H.out
  refine ⟨fun k => k = D ∨ F k, ⟨fun k => k = D, F, fun _ => Iff.rfl, ?_, ⟨fun _ => Iff.rfl, fun _ _ => rfl⟩, hs⟩, ?_, hb⟩
  · rintro k rfl hk
    obtain ⟨c, T, z, hc⟩ := Star.cellular hC hs k hk
    rw [hD] at hc
    obtain rfl := Option.some.inj hc
    cases ho
  · rintro k (rfl | hk)
    · exact ⟨hl, (Array.getElem?_eq_some_iff.1 hD).1⟩
    · exact hF k hk
theorem Mem.put_still {w0 w W : World} {A : HP} {D : Nat} {o : Obj} (H : Mem w0 w [A, still W (fun k => k = D)]) : Mem w0 (w.putObj D o) [A] := by
  obtain ⟨F, ⟨F1, F2, he, hd, hA, G1, G2, he2, hd2, ⟨hs, _⟩, hn⟩, hF, hb⟩ := H.out
  have hD : F2 D := (he2 D).2 (.inl ((hs D).2 rfl))
  have hDF := hF D ((he D).2 (.inr hD))
  have hsz : (w.putObj D o).heap.size = w.heap.size := by simp [World.putObj]
  have hk : ∀ k, k ≠ D → (w.putObj D o).heap[k]? = w.heap[k]? := fun k hk => by simp [World.putObj, Array.getElem?_setIfInBounds_ne (Ne.symm hk)]
  refine ⟨F1, ⟨F1, fun _ => False, fun k => by simp, fun _ _ h => h, HP.mv _ hA fun k hk1 => hk k ?_, fun _ h => h⟩, fun k hk1 => ?_, ⟨hb.os, hb.tape, hb.output, ?_, fun k hk1 => ?_⟩⟩
  · rintro rfl
    exact hd _ hk1 hD
  · rw [hsz]; exact hF k ((he k).2 (.inl hk1))
  · rw [hsz]; exact hb.size
  · rw [hk k (by rintro rfl; omega)]; exact hb.block k hk1
theorem Mem.obj_at {w0 W w : World} {As : List HP} {D i : Nat} (H : Mem w0 w As) (hi : As[i]? = some (still W (fun k => k = D))) : w.heap[D]? = W.heap[D]? := by
  obtain ⟨G, ⟨_, h⟩, _⟩ := H.get i hi
  exact h D rfl
theorem mem_edgesTo {nx : Nat → List Nat} {k a b : Nat} : (a, b) ∈ edgesTo nx k ↔ a < k ∧ b ∈ nx a := by
  unfold edgesTo
  rw [List.mem_flatMap]
  constructor
  · rintro ⟨a', h1, h2⟩
    obtain ⟨b', h3, h4⟩ := List.mem_map.1 h2
    injection h4 with h5 h6
    subst h5; subst h6
    exact ⟨by simpa using h1, h3⟩
  · rintro ⟨h1, h2⟩
    exact ⟨a, by simpa using h1, List.mem_map.2 ⟨b, h2, rfl⟩⟩
theorem mem_back {nx : Nat → List Nat} {k a b : Nat} : a ∈ ((edgesTo nx k).filter fun x => x.2 == b).map (·.1) ↔ a < k ∧ b ∈ nx a := by
  rw [List.mem_map]
  constructor
  · rintro ⟨⟨a', b'⟩, h1, rfl⟩
    obtain ⟨h2, h3⟩ := List.mem_filter.1 h1
    have : b' = b := by simpa using h3
    subst this
    exact mem_edgesTo.1 h2
  · intro h
    exact ⟨(a, b), List.mem_filter.2 ⟨mem_edgesTo.2 h, by simp⟩, rfl⟩
theorem back_len (nx : Nat → List Nat) (h : ∀ a, (nx a).length ≤ 2) (k b : Nat) : (((edgesTo nx k).filter fun x => x.2 == b).map (·.1)).length ≤ 2 * k := by
  rw [List.length_map]
  exact Nat.le_trans (List.length_filter_le _ _) (edgesTo_len h k)
theorem elt_intss : Elt Try.prog 42 32 1 24 (.slice none 0 0) := elt_ints

theorem Near1.set {nx : Nat → List Nat} {n : Nat} {pl : Nat → Nat} {f : Nat → Option Nat} {ps ns : List Int} {a c : Nat} (h : Near1 nx n pl f ps ns) (hC : Chk nx n pl (upd f a c)) (ha : a ≤ n) : Near1 nx n pl (upd f a c) ps (ns.set a (c : Int)) := by
  refine ⟨h.hP, hC, h.lp, by rw [List.length_set]; exact h.ln, h.ps, fun x hx => ?_, h.bd⟩
  by_cases e : a = x
  · subst e
    rw [List.getElem?_set_self (by rw [h.ln]; omega)]
    simp [nrI, upd]
  · rw [List.getElem?_set_ne e, h.ns x hx]
    simp [nrI, upd, Ne.symm e]
theorem Near1.start {nx : Nat → List Nat} {n : Nat} {ol : List Nat} {pls : List Int} (hO : Order nx n ol) (hl : ol.length ≤ n + 1) (h : pls.length = n + 1 ∧ ∀ (k x : Nat), k < (ints ol).length → ol[k]? = some x → pls[x]? = some (k : Int)) :
    Near1 nx n (fun x => ol.idxOf x) (fun x => if x = n then some n else none) pls ((List.replicate (n + 1) (-1)).set n (n : Int)) := by
  have hlt : ∀ x, Av nx n (-1) x → ol.idxOf x < ol.length := fun x hx => List.idxOf_lt_length_iff.2 ((hO.mem x).2 hx)
  have hf : ∀ x y, (if x = n then some n else none : Option Nat) = some y → x = n := fun x y h => by
    by_cases e : x = n
    · exact e
    · rw [if_neg e] at h; cases h
  refine ⟨hO.places, ⟨by simp, fun x y h => ?_, fun x y h hx => absurd (hf x y h) hx, fun x y h hx => absurd (hf x y h) hx⟩, h.1, by simp, fun x hx => ?_, fun x hx => ?_, fun x hx => ?_⟩
  · rw [hf x y h]; exact .base (by omega)
  · exact h.2 (ol.idxOf x) x (by rw [show (ints ol).length = ol.length from by simp [ints]]; exact hlt x hx) (idx_get ((hO.mem x).2 hx))
  · by_cases e : x = n
    · subst e
      rw [List.getElem?_set_self (by simp)]
      simp [nrI]
    · rw [List.getElem?_set_ne (Ne.symm e), List.getElem?_replicate, if_pos (by omega)]
      simp [nrI, e]
  · have := hlt x hx
    omega
theorem mem_next {nx : Nat → List Nat} {k a b : Nat} : b ∈ ((edgesTo nx k).filter fun x => x.1 == a).map (·.2) ↔ a < k ∧ b ∈ nx a := by
  rw [List.mem_map]
  constructor
  · rintro ⟨⟨a', b'⟩, h1, rfl⟩
    obtain ⟨h2, h3⟩ := List.mem_filter.1 h1
    have : a' = a := by simpa using h3
    subst this
    exact mem_edgesTo.1 h2
  · intro h
    exact ⟨(a, b), List.mem_filter.2 ⟨mem_edgesTo.2 h, by simp⟩, rfl⟩
theorem next_len (nx : Nat → List Nat) (h : ∀ a, (nx a).length ≤ 2) (k a : Nat) : (((edgesTo nx k).filter fun x => x.1 == a).map (·.2)).length ≤ 2 * k := by
  rw [List.length_map]
  exact Nat.le_trans (List.length_filter_le _ _) (edgesTo_len h k)
theorem treeL_of {nx : Nat → List Nat} {n : Nat} {f : Nat → Option Nat} {ns : List Int} (hl : ns.length = n + 1) (hns : ∀ x, x ≤ n → ns[x]? = some (nrI f x)) (h : ∀ p, p < n → nearI nx n p = match f p with | none => -1 | some y => (y : Int)) : ns.set n (-1) = treeL nx n := by
  apply List.ext_getElem?
  intro k
  unfold treeL
  rcases Nat.lt_trichotomy k n with hk | hk | hk
  · rw [List.getElem?_set_ne (by omega), hns k (by omega), List.getElem?_map, List.getElem?_range (by omega)]
    simp only [Option.map_some]
    rw [h k hk]
    rfl
  · subst hk
    rw [List.getElem?_set_self (by omega), List.getElem?_map, List.getElem?_range (by omega)]
    simp only [Option.map_some]
    rw [nearI_none near_top]
  · rw [List.getElem?_eq_none (by simp; omega), List.getElem?_eq_none (by simp; omega)]

set_option maxRecDepth 100000 in
theorem tree_calls (f : Fun) (h : FunH) (w : World) (hR : f.Rd w h) (hn : f.code.length ≤ 1000000) (ho : ∀ i ∈ f.code, -9223372036854775808 ≤ i.a ∧ i.a ≤ 9223372036854775807) :
    Calls Try.prog 8 #[f.val h] w (TreeRes 3 (nxt f.code) f.code.length w) := by
  have HR := hid hR
  have HO := hid ho
  clear hR ho
  obtain ⟨lv, ps, rs, lo, st, code⟩ := f
  obtain ⟨A1, c1, A2, c2, A5, c5⟩ := h
  simp only [] at hn
  have H0 := Mem.refl w
  simp only [Fun.val] at *
  refine (callsIn_wide (n := 4)).1 ?_
  refine callsIn_of_wp_marks Try.func8 rfl trivial ?_ rfl
  refine wpIn_wide.2 ?_
  simp only [Try.ntmps8, List.size_toArray, List.length_cons, List.length_nil, Nat.reduceAdd, Nat.reduceSub, Array.replicate_succ, Array.replicate_zero, List.push_toArray, List.append_toArray, List.nil_append, List.cons_append]
  go_wp2_with (first | ((with_reducible refine at_box ?_); refine wpList_box_box H0 ?_; intro u_ gH1 wH1 hu_ H1; simp only [Act.eval, Act.put, List.setIfInBounds_toArray, List.set_cons_zero, List.set_cons_succ, Array.getD_eq_getD_getElem?, List.getElem?_toArray, List.getElem?_cons_zero, List.getElem?_cons_succ, Option.getD_some] at hu_; subst hu_; simp only [splice, vcells_int, vcells_bool, vcells_string, vcells_pointer, vcells_slice, vcells_map, vcells_func, vcells_nilFunc, vcells_iface, vcells_nilIface, vcells_agg, List.take_zero, List.take_succ_cons, List.drop_zero, List.drop_succ_cons, List.length_cons, List.length_nil, List.nil_append, List.cons_append, List.append_nil, Nat.zero_add, List.set_cons_zero, List.set_cons_succ] at H1; (try clear b0); have b0 := H1.cells 0 rfl; simp only [cellsAre, and_true, Nat.zero_add] at b0))
  obtain ⟨fv, hfv⟩ : ∃ fv : Value, fv = .agg #[.int .u64 lv, .slice A1 ps.length c1, .slice A2 rs.length c2, .int .i64 lo, .int .i64 st, .slice A5 code.length c5] := ⟨_, rfl⟩
  refine wp_scope_ghost 0 (TJ w fv code.length (nxt code)) rfl ?pass (fun hpass => ?first)
  case pass =>
    rintro g a w1 ⟨m, K, f, gb, g4, g5, gA, gB, gP, gPa, gN, gNa, A8, c8, D, Wd, hA, hB, ol, pls, ns, u, hg, HS, rfl⟩
    have HF := hid hfv
    clear hfv b0 H1 H0
    have HM := HS.mem
    have H9 := hid HS
    have HG := hid hg
    have hol0 : (ints ol).length = ol.length := by simp [ints]
    have hol1 : 1 ≤ ol.length := (List.getElem?_eq_some_iff.1 HS.ord.top).1
    have hol2 : ol.length ≤ c8 := by have := (HM.own_rd 4 rfl (by decide)).2.1; omega
    have hol3 : c8 ≤ 9223372036854775807 := by have := (HM.own_rd 4 rfl (by decide)).2.2; unfold maxLen at this; omega
    have hol5 := HS.olen
    obtain ⟨b8, o8, hb8, -⟩ := (HM.own_rd 4 rfl (by decide)).1.get1 (k := 0) (x := (code.length : Int)) rfl (by unfold ints; rw [List.getElem?_map, HS.ord.top]; rfl) rfl
    subst hb8
    clear HS hg
    obtain ⟨l, hl⟩ : ∃ l, (ints ol).length = l + 1 := ⟨ol.length - 1, by omega⟩
    rw [hl] at hol0 ⊢
    have HL := hid hl
    have HO0 := hid hol0
    have hln : l ≤ code.length := by omega
    have hol4 : ¬ ((l + 1 : Nat) : Int) < 1 := by omega
    clear hl hol0
    go_upto_region 24 with (fail)
    go_cut [89, 90, 91] from 88 to 91 (fun v89 v90 v91 wc => ∃ B, v89 = .slice B l (c8 - 1) ∧ v90 = .int .i64 l ∧ v91 = .int .i64 0 ∧ wc = w1 ∧ Hd (1 < ol.length → B = some ⟨b8, o8 + 1, none⟩))
    case first =>
      by_cases hc1 : c8 = 1
      · subst hc1
        go_wp2
        go_meet
        exact ⟨_, rfl, rfl, rfl, rfl, ⟨fun h => by omega⟩⟩
      · have hc2 : ¬ 1 = c8 := fun h => hc1 h.symm
        go_wp2
        go_meet
        exact ⟨_, rfl, rfl, rfl, rfl, ⟨fun h => by simp [Addr.add]⟩⟩
    case rest =>
    obtain ⟨B, rfl, rfl, rfl, rfl, HB⟩ := hcut
    clear hol1 hol2 hol3 hol4
    have HP0 : Hd (PassI (nxt code) code.length ol K m f 0 false) := ⟨PassI.start H9.out.ord H9.out.near.hC H9.out.lvl⟩
    have HN0 : Hd (Near1 (nxt code) code.length (fun x => ol.idxOf x) f pls ns) := ⟨H9.out.near⟩
    go_wp2
    go_loopw [15, 91] (fun v15 v91 wr => ∃ (i : Nat) (ch : Bool) (f' : Nat → Option Nat) (ns' : List Int), i ≤ l ∧ v15 = .bool ch ∧ v91 = .int .i64 i ∧ Hd (PassI (nxt code) code.length ol K m f' i ch) ∧ Hd (Near1 (nxt code) code.length (fun x => ol.idxOf x) f' pls ns') ∧ Mem w wr [box gN 32 #[.slice (some ⟨gNa, 0, none⟩) (code.length + 1) (code.length + 1)], own Enc.i64 3 (some ⟨gNa, 0, none⟩) (code.length + 1) ns', box gP 32 #[.slice (some ⟨gPa, 0, none⟩) (code.length + 1) (code.length + 1)], own Enc.i64 3 (some ⟨gPa, 0, none⟩) (code.length + 1) pls, own Enc.i64 3 (some ⟨b8, o8, none⟩) c8 (ints ol), still Wd (fun k => k = D), rowsP Enc.i64 3 hA (backR code.length (edgesTo (nxt code) code.length)), rowsP Enc.i64 3 hB (nextR code.length (edgesTo (nxt code) code.length)), own Enc.hdr 32 (some ⟨gA, 0, none⟩) (code.length + 1) hA, own Enc.hdr 32 (some ⟨gB, 0, none⟩) (code.length + 1) hB, box g4 42 #[.slice (some ⟨gA, 0, none⟩) (code.length + 1) (code.length + 1)], box g5 42 #[.slice (some ⟨gB, 0, none⟩) (code.length + 1) (code.length + 1)]]) (fun _ v _ => l - (intOf v).toNat)
    case atStart => exact ⟨0, false, f, ns, Nat.zero_le _, rfl, rfl, HP0, HN0, HM⟩
    case round =>
      clear HM HP0 HN0
      obtain ⟨i, ch, f', ns', hi, rfl, rfl, HP, HN, H2⟩ := hrel
      obtain ⟨wo, rfl⟩ : ∃ wo : World, wo = wr := ⟨_, rfl⟩
      have b10 := (H2.cells 0 rfl).1.1
      by_cases hlt : i < l
      · obtain rfl := HB.out (by have := HO0.out; omega)
        obtain ⟨x, hx⟩ : ∃ x, ol[i + 1]? = some x := ⟨_, List.getElem?_eq_getElem (by have := HO0.out; omega)⟩
        obtain ⟨hxa, hxr, hex⟩ := HP.out.some_next H9.out.ord hx
        have hxN : x < code.length := by have := hxr.le; omega
        obtain ⟨b9, o9, h9, e8⟩ := (H2.own_rd 4 rfl (by decide)).1.get1 (k := i + 1) (x := (x : Int)) rfl (by unfold ints; rw [List.getElem?_map, hx]; rfl) rfl
        obtain ⟨rfl, rfl⟩ : b8 = b9 ∧ o8 = o9 := by simp at h9; exact ⟨h9.1, h9.2⟩
        rw [show o8 + (i + 1) = o8 + 1 + i from by omega] at e8
        obtain ⟨rs, hrs⟩ : ∃ rs, rs = ((edgesTo (nxt code) code.length).filter fun y => y.1 == x).map (·.2) := ⟨_, rfl⟩
        have hrl : rs.length ≤ 2000000 := by
          rw [hrs]
          have := next_len (nxt code) (nxt_two code) code.length x
          omega
        have gr := nextR_get (Nat.le_of_lt hxN) (edgesTo (nxt code) code.length)
        rw [← hrs] at gr
        have HRS : Hd (∀ b, b ∈ rs ↔ b ∈ nxt code x) := ⟨fun b => by rw [hrs, mem_next]; exact ⟨fun h => h.2, fun h => ⟨hxN, h⟩⟩⟩
        obtain ⟨⟨hA', hn', hc'⟩, hkB⟩ : ∃ hd, hB[x]? = some hd := ⟨_, List.getElem?_eq_getElem (by have := H9.out.hlen; omega)⟩
        have hn0 := H9.out.hdrs x _ _ hkB gr
        simp only [] at hn0
        rw [show (ints rs).length = rs.length from by simp [ints]] at hn0
        subst hn0
        have e9 := (H2.own_get0 9 rfl rfl hkB rfl).1
        have b5 := (H2.cells 11 rfl).1.1
        have HX := hid hx
        have HKB := hid hkB
        have HGR := hid gr
        have HEX := hid hex
        have HXR := hid hxr
        have HXA := hid hxa
        clear hx hkB gr hex hrs h9 hxr hxa
        have HB0 : Hd (BestL (nxt code) code.length f' (rs.take 0) none) := ⟨fun b hb => by simp at hb⟩
        go_wp2
        go_loopw [18, 100] (fun v18 v100 wr => ∃ (j : Nat) (o : Option Nat), j ≤ rs.length ∧ v18 = .int .i64 (obI o) ∧ v100 = .int .i64 j ∧ Hd (BestL (nxt code) code.length f' (rs.take j) o) ∧ Mem w wr [box gN 32 #[.slice (some ⟨gNa, 0, none⟩) (code.length + 1) (code.length + 1)], own Enc.i64 3 (some ⟨gNa, 0, none⟩) (code.length + 1) ns', box gP 32 #[.slice (some ⟨gPa, 0, none⟩) (code.length + 1) (code.length + 1)], own Enc.i64 3 (some ⟨gPa, 0, none⟩) (code.length + 1) pls, own Enc.i64 3 (some ⟨b8, o8, none⟩) c8 (ints ol), still Wd (fun k => k = D), rowsP Enc.i64 3 hA (backR code.length (edgesTo (nxt code) code.length)), rowsP Enc.i64 3 hB (nextR code.length (edgesTo (nxt code) code.length)), own Enc.hdr 32 (some ⟨gA, 0, none⟩) (code.length + 1) hA, own Enc.hdr 32 (some ⟨gB, 0, none⟩) (code.length + 1) hB, box g4 42 #[.slice (some ⟨gA, 0, none⟩) (code.length + 1) (code.length + 1)], box g5 42 #[.slice (some ⟨gB, 0, none⟩) (code.length + 1) (code.length + 1)]]) (fun _ v _ => rs.length - (intOf v).toNat)
        case atStart => exact ⟨0, none, Nat.zero_le _, rfl, rfl, HB0, H2⟩
        case round =>
          clear H2 HB0 e8 e9 b5 b10
          obtain ⟨j, o, hj, rfl, rfl, HBL, H3⟩ := hrel
          obtain ⟨w3, rfl⟩ : ∃ w3 : World, w3 = wr := ⟨_, rfl⟩
          have c10 := (H3.cells 0 rfl).1.1
          by_cases hlt2 : j < rs.length
          · obtain ⟨b, hb⟩ : ∃ b, rs[j]? = some b := ⟨_, List.getElem?_eq_getElem hlt2⟩
            have hbN : b ≤ code.length := nxt_le hxN b ((HRS.out b).1 (List.mem_of_getElem? hb))
            obtain ⟨b2, o2, rfl, e2⟩ := (H3.rows_get 7 rfl (by decide) HKB.out HGR.out).1.get1 (k := j) (x := (b : Int)) rfl (by unfold ints; rw [List.getElem?_map, hb]; rfl) rfl
            have e3 := (H3.own_get0 1 rfl rfl (HN.out.ns b hbN) rfl).1
            have htk : rs.take (j + 1) = rs.take j ++ [b] := by rw [List.take_add_one, hb]; rfl
            have HTK := hid htk
            clear htk hb
            cases hfb : f' b with
            | none =>
              have hnr : nrI f' b = -1 := by simp [nrI, hfb]
              rw [hnr] at e3
              have HFB := hid hfb
              clear hfb hnr
              go_wp2
              go_roundw
              case rel => exact ⟨j + 1, o, by omega, rfl, by go_num, ⟨by rw [HTK.out]; exact HBL.out.skip HFB.out⟩, H3⟩
              case measure => first | (simp [intOf]; done) | (simp [intOf]; omega)
            | some y =>
              have hnr : nrI f' b = (y : Int) := by simp [nrI, hfb]
              rw [hnr] at e3
              have HFB : Hd (f' b ≠ none) := ⟨by rw [hfb]; simp⟩
              clear hfb hnr
              cases o with
              | none =>
                simp only [obI]
                go_wp2
                go_roundw
                case rel => exact ⟨j + 1, some b, by omega, rfl, by go_num, ⟨by rw [HTK.out]; exact HBL.out.first HFB.out⟩, H3⟩
                case measure => first | (simp [intOf]; done) | (simp [intOf]; omega)
              | some c =>
                simp only [obI]
                have hmeet := meet_calls (nxt code) code.length (fun x => ol.idxOf x) f' pls ns' HN.out hn c b HBL.out.1 HFB.out gP gN _ _ _ _ w3 (H3.cells 2 rfl).1.1 c10 (H3.own_rd 3 rfl (by decide)).1 (H3.own_rd 1 rfl (by decide)).1
                have HME := hid hmeet
                clear hmeet
                go_wp2_with (go_at_call 26; (with_reducible refine HME.out.mono ?_); rintro e w4 ⟨c', rfl, hM', H4'⟩; have H4 := H3.call H4'; simp only [List.cons_append, List.nil_append] at H4)
                go_roundw
                case rel => exact ⟨j + 1, some c', by omega, rfl, by go_num, ⟨by rw [HTK.out]; exact HBL.out.meet HFB.out hM'⟩, H4⟩
                case measure => first | (simp [intOf]; done) | (simp [intOf]; omega)
          · obtain rfl : j = rs.length := by omega
            rw [List.take_length] at HBL
            obtain ⟨c, rfl, hBest⟩ := HBL.out.best HRS.out HEX.out
            have HBe := hid hBest
            have hmle := H9.out.mle
            have HNX := hid (HP.out.next H9.out.ord HX.out hBest hmle H9.out.kb)
            clear hBest hmle HBL
            simp only [obI]
            have e4 := (H3.own_get0 1 rfl rfl (HN.out.ns x (Nat.le_of_lt hxN)) rfl).1
            by_cases hsm : f' x = some c
            · have hnr : nrI f' x = (c : Int) := by simp [nrI, hsm]
              rw [hnr] at e4
              have HSM := hid hsm
              clear hsm hnr
              go_wp2
              go_roundw
              case rel => exact ⟨i + 1, ch, f', ns', by omega, rfl, by go_num, ⟨by have := HNX.out; rwa [upd_same HSM.out, HSM.out, show (ch || decide (some c ≠ some c)) = ch from by simp] at this⟩, HN, H3⟩
              case measure => first | (simp [intOf]; done) | (simp [intOf]; omega)
            · have g1 : ((c : Int) == nrI f' x) = false := by
                unfold nrI
                cases hfx : f' x with
                | none => first | (simp; done) | (simp; omega)
                | some y =>
                  have : c ≠ y := fun e => hsm (by rw [hfx, e])
                  simp
                  omega
              have g2 : ((c : Int) != nrI f' x) = true := by unfold bne; rw [g1]; rfl
              have g3 : ¬ (c : Int) = nrI f' x := by simpa using g1
              have HSM := hid hsm
              clear hsm
              go_wp2_with ((with_reducible refine at_store ?_); refine wpList_store_own H3 1 x (c : Int) rfl rfl (by omega) rfl rfl (by kernel_rfl) (by have := HN.out.ln; omega) ?_; intro wH4 H4; simp only [List.set_cons_zero, List.set_cons_succ] at H4)
              go_roundw
              case rel => exact ⟨i + 1, true, upd f' x c, ns'.set x (c : Int), by omega, rfl, by go_num, ⟨by have := HNX.out; rwa [show (ch || decide (f' x ≠ some c)) = true from by simp [HSM.out]] at this⟩, ⟨HN.out.set HNX.out.hC (Nat.le_of_lt hxN)⟩, H4⟩
              case measure => first | (simp [intOf]; done) | (simp [intOf]; omega)
      · obtain rfl : i = l := by omega
        have HOL : Hd (ol.length ≤ i + 1) := ⟨by have := HO0.out; omega⟩
        cases ch with
        | true =>
          go_wp2
          refine wp_goto ?_
          refine ⟨rfl, g - 1, ?_, ?_⟩
          · have := HG.out; have := H9.out.mle; omega
          · refine TJ_of (m := m + 1) (K := K) (f := f') (gb := gb) (by have := HG.out; have := H9.out.mle; omega) ⟨H9.out.dead, H9.out.dlow, H9.out.ord, H9.out.olen, HN.out, H9.out.hdrs, H9.out.hlen, H9.out.kb, (by have := HP.out.mch rfl; omega), fun _ => HP.out.level H9.out.ord HOL.out, H2⟩ ?_
            rw [HL.out]
            rfl
        | false =>
          go_wp2_with ((with_reducible refine at_store ?_); refine wpList_store_own H2 1 code.length (-1) rfl rfl (by omega) rfl rfl (by kernel_rfl) (by have := HN.out.ln; omega) ?_; intro wH3 H3; simp only [List.set_cons_zero, List.set_cons_succ] at H3; (try clear k10); have k10 := H3.cells 0 rfl; simp only [cellsAre, and_true, Nat.zero_add] at k10)
          have hdead := (H3.obj_at (i := 5) rfl).trans H9.out.dead
          have hlist := treeL_of HN.out.ln HN.out.ns (fun p hp => HP.out.done H9.out.ord HOL.out hp)
          rw [hlist] at H3
          have H4 := (((((((((((H3.drop 0).drop 1).drop 1).drop 1).mv 1 rfl).mv 1 rfl).drop 2).drop 2).drop 2).drop 2).drop 2).drop 2
          simp only [List.eraseIdx_cons_succ, List.eraseIdx_cons_zero] at H4
          have htl : (treeL (nxt code) code.length).length = code.length + 1 := by simp [treeL]
          refine ⟨by simp, .inl ⟨_, _, rfl, run_takeDeferred hdead, ?_⟩⟩
          refine ⟨_, results_tmp rfl _ _ _, ⟨some ⟨gNa, 0, none⟩, code.length + 1, ?_, ⟨by rw [htl]⟩, H4.put_still⟩, HP.out.all H9.out.ord HOL.out⟩
          rw [htl]
          rfl
  go_upto_region 2 with (fail)
  go_cut [4, 5] from 21 to 28 (fun v4 v5 wc => ∃ g4 g5 gA gB, v4 = pt g4 ∧ v5 = pt g5 ∧ Mem w wc [own Enc.hdr 32 (some ⟨gA, 0, none⟩) (code.length + 1) (List.replicate (code.length + 1) (⟨none, 0, 0⟩ : Hdr)), own Enc.hdr 32 (some ⟨gB, 0, none⟩) (code.length + 1) (List.replicate (code.length + 1) (⟨none, 0, 0⟩ : Hdr)),
    box g4 42 #[.slice (some ⟨gA, 0, none⟩) (code.length + 1) (code.length + 1)], box g5 42 #[.slice (some ⟨gB, 0, none⟩) (code.length + 1) (code.length + 1)], box gH1 27 #[.int .u64 lv, .slice A1 ps.length c1, .slice A2 rs.length c2, .int .i64 lo, .int .i64 st, .slice A5 code.length c5]])
  case first =>
    clear b0
    refine gen_act ?_
    intro a0 ha0
    refine wp_region_inv (fun d a w' => ∃ (s25 s26 s27 s28 s4 s5 : Value) (eA eB e4 e5 : HP), a = ⟨(((((a0.tmps.setIfInBounds 25 s25).setIfInBounds 26 s26).setIfInBounds 27 s27).setIfInBounds 28 s28).setIfInBounds 4 s4).setIfInBounds 5 s5, a0.defers⟩ ∧
      (d 0 = true → s25 = .int .i64 (code.length + 1)) ∧ (d 2 = true → s27 = .int .i64 (code.length + 1)) ∧
      (d 1 = true → ∃ g, s26 = .slice (some ⟨g, 0, none⟩) (code.length + 1) (code.length + 1) ∧ eA = own Enc.hdr 32 (some ⟨g, 0, none⟩) (code.length + 1) (List.replicate (code.length + 1) (⟨none, 0, 0⟩ : Hdr))) ∧
      (d 3 = true → ∃ g, s28 = .slice (some ⟨g, 0, none⟩) (code.length + 1) (code.length + 1) ∧ eB = own Enc.hdr 32 (some ⟨g, 0, none⟩) (code.length + 1) (List.replicate (code.length + 1) (⟨none, 0, 0⟩ : Hdr))) ∧
      (d 4 = true → ∃ g, s4 = pt g ∧ e4 = box g 42 #[if d 6 = true then s26 else .slice none 0 0]) ∧
      (d 5 = true → ∃ g, s5 = pt g ∧ e5 = box g 42 #[if d 7 = true then s28 else .slice none 0 0]) ∧
      (d 6 = true → d 4 = true ∧ d 1 = true) ∧ (d 7 = true → d 5 = true ∧ d 3 = true) ∧
      Mem w w' [eA, eB, e4, e5, box gH1 27 #[.int .u64 lv, .slice A1 ps.length c1, .slice A2 rs.length c2, .int .i64 lo, .int .i64 st, .slice A5 code.length c5]]) (by kernel_rfl) (by kernel_rfl) ?h0 ?hstep ?hdone
    case h0 =>
      intro d hd
      refine ⟨undef, undef, undef, undef, undef, undef, row 0 1 none 0 0 [], row 0 1 none 0 0 [], row 0 1 none 0 0 [], row 0 1 none 0 0 [], ?_, ?_, ?_, ?_, ?_, ?_, ?_, ?_, ?_, ((((H1.drew.nilrow 0 1).nilrow 0 1).nilrow 0 1).nilrow 0 1)⟩
      · subst ha0
        rfl
      all_goals (intro h; rw [hd _ (by decide)] at h; cases h)
    case hstep =>
      rintro d a w' i o ⟨s25, s26, s27, s28, s4, s5, eA, eB, e4, e5, rfl, h0, h2, hA, hB, h4, h5, h6, h7, HM⟩ ho hdi hall
      subst ha0
      simp only [List.setIfInBounds_toArray, List.set_cons_succ, List.set_cons_zero]
      have hi8 : i = 0 ∨ i = 1 ∨ i = 2 ∨ i = 3 ∨ i = 4 ∨ i = 5 ∨ i = 6 ∨ i = 7 := by
        have := (Array.getElem?_eq_some_iff.1 ho).1
        simp at this
        omega
      rcases hi8 with rfl | rfl | rfl | rfl | rfl | rfl | rfl | rfl
      · have ho2 := ho
        simp only [List.getElem?_toArray, List.getElem?_cons_zero, List.getElem?_cons_succ, Option.some.injEq] at ho2
        subst ho2
        refine wpOp_of_list ho ?_
        clear ho hall
        go_wp2
        intro d' h1 hd'
        have tr : ∀ j, j ≠ 0 → d' j = true → d j = true := fun j hj h => by rw [← hd' j hj]; exact h
        refine ⟨.int .i64 ((code.length : Int) + 1), s26, s27, s28, s4, s5, _, _, _, _, rfl, ?_, ?_, ?_, ?_, ?_, ?_, ?_, ?_, HM⟩
        · exact fun _ => rfl
        · exact fun h => h2 (tr 2 (by decide) h)
        · exact fun h => hA (tr 1 (by decide) h)
        · exact fun h => hB (tr 3 (by decide) h)
        · exact fun h => by rw [hd' 6 (by decide)]; exact h4 (tr 4 (by decide) h)
        · exact fun h => by rw [hd' 7 (by decide)]; exact h5 (tr 5 (by decide) h)
        · exact fun h => ⟨by rw [hd' 4 (by decide)]; exact (h6 (tr 6 (by decide) h)).1, by rw [hd' 1 (by decide)]; exact (h6 (tr 6 (by decide) h)).2⟩
        · exact fun h => ⟨by rw [hd' 5 (by decide)]; exact (h7 (tr 7 (by decide) h)).1, by rw [hd' 3 (by decide)]; exact (h7 (tr 7 (by decide) h)).2⟩
      · have ho2 := ho
        simp only [List.getElem?_toArray, List.getElem?_cons_zero, List.getElem?_cons_succ, Option.some.injEq] at ho2
        subst ho2
        have p0 : d 0 = true := hall { on := 0, ground := Ground.data } (by simp) rfl
        refine wpOp_of_list ho ?_
        clear ho hall
        obtain rfl := h0 p0
        have q6 : d 6 = false := by
          cases hc : d 6 with
          | false => rfl
          | true => rw [(h6 hc).2] at hdi; cases hdi
        ((with_reducible refine at_mk ?_); refine wpList_make_own (E := Enc.hdr) elt_ints HM (code.length + 1) (⟨none, 0, 0⟩ : Hdr) rfl rfl rfl rfl rfl (by unfold maxLen; omega) (by omega) ?_; intro gHN wHN HN)
        replace HN := HN.drop 1
        simp only [List.eraseIdx_cons_succ, List.eraseIdx_cons_zero] at HN
        intro d' h1 hd'
        have tr : ∀ j, j ≠ 1 → d' j = true → d j = true := fun j hj h => by rw [← hd' j hj]; exact h
        refine ⟨.int .i64 ((code.length : Int) + 1), .slice (some ⟨gHN, 0, none⟩) (code.length + 1) (code.length + 1), s27, s28, s4, s5, _, _, _, _, rfl, ?_, ?_, ?_, ?_, ?_, ?_, ?_, ?_, HN⟩
        · exact fun _ => rfl
        · exact fun h => h2 (tr 2 (by decide) h)
        · exact fun _ => ⟨gHN, rfl, rfl⟩
        · exact fun h => hB (tr 3 (by decide) h)
        · exact fun h => by have := h4 (tr 4 (by decide) h); rw [q6] at this; rw [hd' 6 (by decide), q6]; exact this
        · exact fun h => by rw [hd' 7 (by decide)]; exact h5 (tr 5 (by decide) h)
        · exact fun h => ⟨by rw [hd' 4 (by decide)]; exact (h6 (tr 6 (by decide) h)).1, h1⟩
        · exact fun h => ⟨by rw [hd' 5 (by decide)]; exact (h7 (tr 7 (by decide) h)).1, by rw [hd' 3 (by decide)]; exact (h7 (tr 7 (by decide) h)).2⟩
      · have ho2 := ho
        simp only [List.getElem?_toArray, List.getElem?_cons_zero, List.getElem?_cons_succ, Option.some.injEq] at ho2
        subst ho2
        refine wpOp_of_list ho ?_
        clear ho hall
        go_wp2
        intro d' h1 hd'
        have tr : ∀ j, j ≠ 2 → d' j = true → d j = true := fun j hj h => by rw [← hd' j hj]; exact h
        refine ⟨s25, s26, .int .i64 ((code.length : Int) + 1), s28, s4, s5, _, _, _, _, rfl, ?_, ?_, ?_, ?_, ?_, ?_, ?_, ?_, HM⟩
        · exact fun h => h0 (tr 0 (by decide) h)
        · exact fun _ => rfl
        · exact fun h => hA (tr 1 (by decide) h)
        · exact fun h => hB (tr 3 (by decide) h)
        · exact fun h => by rw [hd' 6 (by decide)]; exact h4 (tr 4 (by decide) h)
        · exact fun h => by rw [hd' 7 (by decide)]; exact h5 (tr 5 (by decide) h)
        · exact fun h => ⟨by rw [hd' 4 (by decide)]; exact (h6 (tr 6 (by decide) h)).1, by rw [hd' 1 (by decide)]; exact (h6 (tr 6 (by decide) h)).2⟩
        · exact fun h => ⟨by rw [hd' 5 (by decide)]; exact (h7 (tr 7 (by decide) h)).1, by rw [hd' 3 (by decide)]; exact (h7 (tr 7 (by decide) h)).2⟩
      · have ho2 := ho
        simp only [List.getElem?_toArray, List.getElem?_cons_zero, List.getElem?_cons_succ, Option.some.injEq] at ho2
        subst ho2
        have p2 : d 2 = true := hall { on := 2, ground := Ground.data } (by simp) rfl
        refine wpOp_of_list ho ?_
        clear ho hall
        obtain rfl := h2 p2
        have q7 : d 7 = false := by
          cases hc : d 7 with
          | false => rfl
          | true => rw [(h7 hc).2] at hdi; cases hdi
        ((with_reducible refine at_mk ?_); refine wpList_make_own (E := Enc.hdr) elt_ints HM (code.length + 1) (⟨none, 0, 0⟩ : Hdr) rfl rfl rfl rfl rfl (by unfold maxLen; omega) (by omega) ?_; intro gHN wHN HN)
        replace HN := HN.drop 2
        replace HN := HN.mv 1 rfl; simp only [List.eraseIdx_cons_succ, List.eraseIdx_cons_zero] at HN
        intro d' h1 hd'
        have tr : ∀ j, j ≠ 3 → d' j = true → d j = true := fun j hj h => by rw [← hd' j hj]; exact h
        refine ⟨s25, s26, .int .i64 ((code.length : Int) + 1), .slice (some ⟨gHN, 0, none⟩) (code.length + 1) (code.length + 1), s4, s5, _, _, _, _, rfl, ?_, ?_, ?_, ?_, ?_, ?_, ?_, ?_, HN⟩
        · exact fun h => h0 (tr 0 (by decide) h)
        · exact fun _ => rfl
        · exact fun h => hA (tr 1 (by decide) h)
        · exact fun _ => ⟨gHN, rfl, rfl⟩
        · exact fun h => by rw [hd' 6 (by decide)]; exact h4 (tr 4 (by decide) h)
        · exact fun h => by have := h5 (tr 5 (by decide) h); rw [q7] at this; rw [hd' 7 (by decide), q7]; exact this
        · exact fun h => ⟨by rw [hd' 4 (by decide)]; exact (h6 (tr 6 (by decide) h)).1, by rw [hd' 1 (by decide)]; exact (h6 (tr 6 (by decide) h)).2⟩
        · exact fun h => ⟨by rw [hd' 5 (by decide)]; exact (h7 (tr 7 (by decide) h)).1, h1⟩
      · have ho2 := ho
        simp only [List.getElem?_toArray, List.getElem?_cons_zero, List.getElem?_cons_succ, Option.some.injEq] at ho2
        subst ho2
        refine wpOp_of_list ho ?_
        clear ho hall
        have q6 : d 6 = false := by
          cases hc : d 6 with
          | false => rfl
          | true => rw [(h6 hc).1] at hdi; cases hdi
        ((with_reducible refine at_alloc ?_); refine wpList_alloc_box HM (.slice none 0 0) (by kernel_rfl) ?_; intro gHN wHN HN; simp only [splice, vcells_int, vcells_bool, vcells_string, vcells_pointer, vcells_slice, vcells_map, vcells_func, vcells_nilFunc, vcells_iface, vcells_nilIface, vcells_agg, List.take_zero, List.take_succ_cons, List.drop_zero, List.drop_succ_cons, List.length_cons, List.length_nil, List.nil_append, List.cons_append, List.append_nil, Nat.zero_add, List.set_cons_zero, List.set_cons_succ] at HN)
        replace HN := HN.drop 3
        replace HN := HN.mv 2 rfl; simp only [List.eraseIdx_cons_succ, List.eraseIdx_cons_zero] at HN; replace HN := HN.mv 2 rfl; simp only [List.eraseIdx_cons_succ, List.eraseIdx_cons_zero] at HN
        intro d' h1 hd'
        have tr : ∀ j, j ≠ 4 → d' j = true → d j = true := fun j hj h => by rw [← hd' j hj]; exact h
        refine ⟨s25, s26, s27, s28, pt gHN, s5, _, _, _, _, rfl, ?_, ?_, ?_, ?_, ?_, ?_, ?_, ?_, HN⟩
        · exact fun h => h0 (tr 0 (by decide) h)
        · exact fun h => h2 (tr 2 (by decide) h)
        · exact fun h => hA (tr 1 (by decide) h)
        · exact fun h => hB (tr 3 (by decide) h)
        · exact fun _ => ⟨gHN, rfl, by rw [hd' 6 (by decide), q6]; rfl⟩
        · exact fun h => by rw [hd' 7 (by decide)]; exact h5 (tr 5 (by decide) h)
        · exact fun h => ⟨h1, by rw [hd' 1 (by decide)]; exact (h6 (tr 6 (by decide) h)).2⟩
        · exact fun h => ⟨by rw [hd' 5 (by decide)]; exact (h7 (tr 7 (by decide) h)).1, by rw [hd' 3 (by decide)]; exact (h7 (tr 7 (by decide) h)).2⟩
      · have ho2 := ho
        simp only [List.getElem?_toArray, List.getElem?_cons_zero, List.getElem?_cons_succ, Option.some.injEq] at ho2
        subst ho2
        refine wpOp_of_list ho ?_
        clear ho hall
        have q7 : d 7 = false := by
          cases hc : d 7 with
          | false => rfl
          | true => rw [(h7 hc).1] at hdi; cases hdi
        ((with_reducible refine at_alloc ?_); refine wpList_alloc_box HM (.slice none 0 0) (by kernel_rfl) ?_; intro gHN wHN HN; simp only [splice, vcells_int, vcells_bool, vcells_string, vcells_pointer, vcells_slice, vcells_map, vcells_func, vcells_nilFunc, vcells_iface, vcells_nilIface, vcells_agg, List.take_zero, List.take_succ_cons, List.drop_zero, List.drop_succ_cons, List.length_cons, List.length_nil, List.nil_append, List.cons_append, List.append_nil, Nat.zero_add, List.set_cons_zero, List.set_cons_succ] at HN)
        replace HN := HN.drop 4
        replace HN := HN.mv 3 rfl; simp only [List.eraseIdx_cons_succ, List.eraseIdx_cons_zero] at HN; replace HN := HN.mv 3 rfl; simp only [List.eraseIdx_cons_succ, List.eraseIdx_cons_zero] at HN; replace HN := HN.mv 3 rfl; simp only [List.eraseIdx_cons_succ, List.eraseIdx_cons_zero] at HN
        intro d' h1 hd'
        have tr : ∀ j, j ≠ 5 → d' j = true → d j = true := fun j hj h => by rw [← hd' j hj]; exact h
        refine ⟨s25, s26, s27, s28, s4, pt gHN, _, _, _, _, rfl, ?_, ?_, ?_, ?_, ?_, ?_, ?_, ?_, HN⟩
        · exact fun h => h0 (tr 0 (by decide) h)
        · exact fun h => h2 (tr 2 (by decide) h)
        · exact fun h => hA (tr 1 (by decide) h)
        · exact fun h => hB (tr 3 (by decide) h)
        · exact fun h => by rw [hd' 6 (by decide)]; exact h4 (tr 4 (by decide) h)
        · exact fun _ => ⟨gHN, rfl, by rw [hd' 7 (by decide), q7]; rfl⟩
        · exact fun h => ⟨by rw [hd' 4 (by decide)]; exact (h6 (tr 6 (by decide) h)).1, by rw [hd' 1 (by decide)]; exact (h6 (tr 6 (by decide) h)).2⟩
        · exact fun h => ⟨h1, by rw [hd' 3 (by decide)]; exact (h7 (tr 7 (by decide) h)).2⟩
      · have ho2 := ho
        simp only [List.getElem?_toArray, List.getElem?_cons_zero, List.getElem?_cons_succ, Option.some.injEq] at ho2
        subst ho2
        have p4 : d 4 = true := hall { on := 4, ground := Ground.data } (by simp) rfl
        have p1 : d 1 = true := hall { on := 1, ground := Ground.data } (by simp) rfl
        refine wpOp_of_list ho ?_
        clear ho hall
        obtain ⟨g4, rfl, rfl⟩ := h4 p4
        obtain ⟨gA, rfl, rfl⟩ := hA p1
        simp only [hdi, Bool.false_eq_true, if_false] at HM h4 h6
        ((with_reducible refine at_store ?_); refine wpList_store_box HM 2 1 rfl rfl (by kernel_rfl) rfl (Nat.le_of_ble_eq_true rfl) rfl ?_; intro u_ wHN hu_ HN; simp only [Act.eval, Act.put, List.setIfInBounds_toArray, List.set_cons_zero, List.set_cons_succ, Array.getD_eq_getD_getElem?, List.getElem?_toArray, List.getElem?_cons_zero, List.getElem?_cons_succ, Option.getD_some] at hu_; subst hu_; simp only [splice, vcells_int, vcells_bool, vcells_string, vcells_pointer, vcells_slice, vcells_map, vcells_func, vcells_nilFunc, vcells_iface, vcells_nilIface, vcells_agg, List.take_zero, List.take_succ_cons, List.drop_zero, List.drop_succ_cons, List.length_cons, List.length_nil, List.nil_append, List.cons_append, List.append_nil, Nat.zero_add, List.set_cons_zero, List.set_cons_succ] at HN)
        intro d' h1 hd'
        have tr : ∀ j, j ≠ 6 → d' j = true → d j = true := fun j hj h => by rw [← hd' j hj]; exact h
        refine ⟨s25, .slice (some ⟨gA, 0, none⟩) (code.length + 1) (code.length + 1), s27, s28, pt g4, s5, _, _, _, _, rfl, ?_, ?_, ?_, ?_, ?_, ?_, ?_, ?_, HN⟩
        · exact fun h => h0 (tr 0 (by decide) h)
        · exact fun h => h2 (tr 2 (by decide) h)
        · exact fun _ => ⟨gA, rfl, rfl⟩
        · exact fun h => hB (tr 3 (by decide) h)
        · exact fun _ => ⟨g4, rfl, by rw [h1]; rfl⟩
        · exact fun h => by rw [hd' 7 (by decide)]; exact h5 (tr 5 (by decide) h)
        · exact fun _ => ⟨by rw [hd' 4 (by decide)]; exact p4, by rw [hd' 1 (by decide)]; exact p1⟩
        · exact fun h => ⟨by rw [hd' 5 (by decide)]; exact (h7 (tr 7 (by decide) h)).1, by rw [hd' 3 (by decide)]; exact (h7 (tr 7 (by decide) h)).2⟩
      · have ho2 := ho
        simp only [List.getElem?_toArray, List.getElem?_cons_zero, List.getElem?_cons_succ, Option.some.injEq] at ho2
        subst ho2
        have p5 : d 5 = true := hall { on := 5, ground := Ground.data } (by simp) rfl
        have p3 : d 3 = true := hall { on := 3, ground := Ground.data } (by simp) rfl
        refine wpOp_of_list ho ?_
        clear ho hall
        obtain ⟨g5, rfl, rfl⟩ := h5 p5
        obtain ⟨gB, rfl, rfl⟩ := hB p3
        simp only [hdi, Bool.false_eq_true, if_false] at HM h5 h7
        ((with_reducible refine at_store ?_); refine wpList_store_box HM 3 1 rfl rfl (by kernel_rfl) rfl (Nat.le_of_ble_eq_true rfl) rfl ?_; intro u_ wHN hu_ HN; simp only [Act.eval, Act.put, List.setIfInBounds_toArray, List.set_cons_zero, List.set_cons_succ, Array.getD_eq_getD_getElem?, List.getElem?_toArray, List.getElem?_cons_zero, List.getElem?_cons_succ, Option.getD_some] at hu_; subst hu_; simp only [splice, vcells_int, vcells_bool, vcells_string, vcells_pointer, vcells_slice, vcells_map, vcells_func, vcells_nilFunc, vcells_iface, vcells_nilIface, vcells_agg, List.take_zero, List.take_succ_cons, List.drop_zero, List.drop_succ_cons, List.length_cons, List.length_nil, List.nil_append, List.cons_append, List.append_nil, Nat.zero_add, List.set_cons_zero, List.set_cons_succ] at HN)
        intro d' h1 hd'
        have tr : ∀ j, j ≠ 7 → d' j = true → d j = true := fun j hj h => by rw [← hd' j hj]; exact h
        refine ⟨s25, s26, s27, .slice (some ⟨gB, 0, none⟩) (code.length + 1) (code.length + 1), s4, pt g5, _, _, _, _, rfl, ?_, ?_, ?_, ?_, ?_, ?_, ?_, ?_, HN⟩
        · exact fun h => h0 (tr 0 (by decide) h)
        · exact fun h => h2 (tr 2 (by decide) h)
        · exact fun h => hA (tr 1 (by decide) h)
        · exact fun _ => ⟨gB, rfl, rfl⟩
        · exact fun h => by rw [hd' 6 (by decide)]; exact h4 (tr 4 (by decide) h)
        · exact fun _ => ⟨g5, rfl, by rw [h1]; rfl⟩
        · exact fun h => ⟨by rw [hd' 4 (by decide)]; exact (h6 (tr 6 (by decide) h)).1, by rw [hd' 1 (by decide)]; exact (h6 (tr 6 (by decide) h)).2⟩
        · exact fun _ => ⟨by rw [hd' 5 (by decide)]; exact p5, by rw [hd' 3 (by decide)]; exact p3⟩
    case hdone =>
      rintro d a w' hall ⟨s25, s26, s27, s28, s4, s5, eA, eB, e4, e5, rfl, h0, h2, hA, hB, h4, h5, h6, h7, HM⟩
      obtain rfl := h0 (hall 0 (by decide))
      obtain rfl := h2 (hall 2 (by decide))
      obtain ⟨gA, rfl, rfl⟩ := hA (hall 1 (by decide))
      obtain ⟨gB, rfl, rfl⟩ := hB (hall 3 (by decide))
      obtain ⟨g4, rfl, rfl⟩ := h4 (hall 4 (by decide))
      obtain ⟨g5, rfl, rfl⟩ := h5 (hall 5 (by decide))
      simp only [hall 6 (by decide), hall 7 (by decide), if_true] at HM
      subst ha0
      simp only [List.setIfInBounds_toArray, List.set_cons_succ, List.set_cons_zero]
      go_wp2
      go_meet
      exact ⟨_, _, _, _, rfl, rfl, HM⟩
  case rest =>
    obtain ⟨g4, g5, gA, gB, rfl, rfl, H2⟩ := hcut
    obtain ⟨w2, rfl⟩ : ∃ w2 : World, w2 = wc := ⟨_, rfl⟩
    clear H1 b0
    have HRw := hid (Fun.Rd.below HR.out H2.below)
    (try clear b0); have b0 := H2.cells 4 rfl; simp only [cellsAre, and_true, Nat.zero_add] at b0; (try clear b4); have b4 := H2.cells 2 rfl; simp only [cellsAre, and_true, Nat.zero_add] at b4; (try clear b5); have b5 := H2.cells 3 rfl; simp only [cellsAre, and_true, Nat.zero_add] at b5
    go_wp2_with (go_at_call 24; (with_reducible refine (edges_calls ⟨lv, ps, rs, lo, st, code⟩ ⟨A1, c1, A2, c2, A5, c5⟩ _ HRw.out hn).mono ?_); rintro e w3 ⟨g3, A7, c7, rfl, H3'⟩; have H3 := H2.call H3'; simp only [List.cons_append, List.nil_append] at H3)
    clear H2 H3' HRw b0 b4 b5
    have H4 := (H3.rows_blank Enc.i64 3 (code.length + 1)).rows_blank Enc.i64 3 (code.length + 1)
    have hbk0 : backR code.length [] = List.replicate (code.length + 1) [] := by unfold backR; simp [ints, List.map_const']
    have hnx0 : nextR code.length [] = List.replicate (code.length + 1) [] := by unfold nextR; simp [ints, List.map_const']
    rw [← hbk0] at H4
    have H4 : Mem w w3 ([rowsP Enc.i64 3 (List.replicate (code.length + 1) (⟨none, 0, 0⟩ : Hdr)) (backR code.length []), rowsP Enc.i64 3 (List.replicate (code.length + 1) (⟨none, 0, 0⟩ : Hdr)) (nextR code.length []), own Enc.hdr 32 (some ⟨gA, 0, none⟩) (code.length + 1) (List.replicate (code.length + 1) (⟨none, 0, 0⟩ : Hdr)), own Enc.hdr 32 (some ⟨gB, 0, none⟩) (code.length + 1) (List.replicate (code.length + 1) (⟨none, 0, 0⟩ : Hdr)), box g4 42 #[.slice (some ⟨gA, 0, none⟩) (code.length + 1) (code.length + 1)], box g5 42 #[.slice (some ⟨gB, 0, none⟩) (code.length + 1) (code.length + 1)]] ++
        [box g3 25 #[.slice A7 code.length c7], own Enc.ins 63 A7 c7 code]) := by
      rw [hnx0, ← hbk0]
      refine (H4.drop 8).perm ?_
      simp only [List.eraseIdx_cons_succ, List.eraseIdx_cons_zero, List.cons_append, List.nil_append]
      exact List.Perm.cons _ (List.Perm.cons _ (List.perm_append_comm (l₁ := [_, _]) (l₂ := [_, _, _, _])))
    clear H3
    refine (wpIn_wide (n := 4)).1 ?_
    refine' wpIn_rangeFunc_ownF rfl (by decide) (gf := 40) (lb := #[pt g3]) rfl trivial (enters_of Try.func40 (by kernel_rfl) rfl) (edges1_stops 3 g3 A7 c7 code w3 ?hbox ?hrd ?htag hn (by decide) HO.out) keepT.trans keepT_b (Below.refl _ _) (fun _ => rfl)
      (fun pre W => ∃ hA hB : List Hdr, hA.length = code.length + 1 ∧ hB.length = code.length + 1 ∧ HdrOk hA (backR code.length (pre.map Subtype.val)) ∧ HdrOk hB (nextR code.length (pre.map Subtype.val)) ∧ Mem w W ([rowsP Enc.i64 3 hA (backR code.length (pre.map Subtype.val)), rowsP Enc.i64 3 hB (nextR code.length (pre.map Subtype.val)), own Enc.hdr 32 (some ⟨gA, 0, none⟩) (code.length + 1) hA, own Enc.hdr 32 (some ⟨gB, 0, none⟩) (code.length + 1) hB, box g4 42 #[.slice (some ⟨gA, 0, none⟩) (code.length + 1) (code.length + 1)], box g5 42 #[.slice (some ⟨gB, 0, none⟩) (code.length + 1) (code.length + 1)]] ++
        [box g3 25 #[.slice A7 code.length c7], own Enc.ins 63 A7 c7 code]))
      (fun _ _ _ => False) ?hI (fun _ _ _ _ _ hs _ _ => hs) ⟨_, _, by simp, by simp, ?hoA, ?hoB, H4⟩ _ ?assign ?body ?done ?stop
    case hbox =>
      obtain ⟨G, hG, _⟩ := H4.get 6 rfl
      exact hG.2
    case hoA =>
      intro k hd r hk hr
      rw [List.map_nil, hbk0, List.getElem?_replicate] at hr
      rw [List.getElem?_replicate] at hk
      split at hk <;> split at hr <;> simp_all
      obtain rfl := hk; rfl
    case hoB =>
      intro k hd r hk hr
      rw [List.map_nil, hnx0, List.getElem?_replicate] at hr
      rw [List.getElem?_replicate] at hk
      split at hk <;> split at hr <;> simp_all
      obtain rfl := hk; rfl
    case hrd => exact (H4.own_rd 7 rfl (by decide)).1
    case htag =>
      intro b o hpos hA7
      obtain ⟨G, ⟨_, hle, _, _, hG⟩, _⟩ := H4.get 7 rfl
      rcases hG with ⟨h0, _⟩ | ⟨g, o', cur, hA, _, hg, _⟩
      · omega
      · rw [hA7] at hA
        obtain ⟨rfl, rfl⟩ : b = g ∧ o = o' := by simpa using hA
        exact ⟨_, _, hg⟩
    case hI =>
      rintro pre W W' rw' ⟨hA, hB, lA, lB, oA, oB, HM⟩ hg hr
      refine ⟨hA, hB, lA, lB, oA, oB, HM.grown ?_ hg fun r e => ⟨Nat.le_trans H4.size (hr r e).1, (hr r e).2⟩⟩
      intro A hA'
      simp only [List.cons_append, List.nil_append, List.mem_cons, List.not_mem_nil, or_false] at hA'
      rcases hA' with rfl | rfl | rfl | rfl | rfl | rfl | rfl | rfl
      · exact rowsP_cellular _ _ _ _
      · exact rowsP_cellular _ _ _ _
      · exact own_cellular _ _ _ _ _
      · exact own_cellular _ _ _ _ _
      · exact box_cellular _ _ _
      · exact box_cellular _ _ _
      · exact box_cellular _ _ _
      · exact own_cellular _ _ _ _ _
    case assign =>
      intro l x W K hK
      gi_wp2
      exact hK
    case stop =>
      rintro D c pre W _ _ h _
      exact h.elim
    case body =>
      rintro l pre ⟨⟨xa, xb⟩, hxa, hxb⟩ W ⟨hA, hB, lA, lB, oA, oB, HM⟩ hpl
      simp only [] at hxa hxb
      have hAT : AllT [3, 32, 42] [rowsP Enc.i64 3 hA (backR code.length (pre.map Subtype.val)), rowsP Enc.i64 3 hB (nextR code.length (pre.map Subtype.val)), own Enc.hdr 32 (some ⟨gA, 0, none⟩) (code.length + 1) hA, own Enc.hdr 32 (some ⟨gB, 0, none⟩) (code.length + 1) hB, box g4 42 #[.slice (some ⟨gA, 0, none⟩) (code.length + 1) (code.length + 1)], box g5 42 #[.slice (some ⟨gB, 0, none⟩) (code.length + 1) (code.length + 1)]] := by
        intro A hA'
        simp only [List.mem_cons, List.not_mem_nil, or_false] at hA'
        rcases hA' with rfl | rfl | rfl | rfl | rfl | rfl
        · exact rowsP_tagged _ (by simp) _ _
        · exact rowsP_tagged _ (by simp) _ _
        · exact own_tagged _ (by simp) _ _ _
        · exact own_tagged _ (by simp) _ _ _
        · exact box_tagged (by simp) _ _
        · exact box_tagged (by simp) _ _
      obtain ⟨K, HK, hun⟩ := HM.freeze hAT
      clear hAT HM
      simp only [List.cons_append, List.nil_append] at HK
      obtain ⟨es, hes⟩ : ∃ es, es = pre.map Subtype.val := ⟨_, rfl⟩
      have hel : es.length < 2 * code.length := by rw [hes, List.length_map]; exact hpl
      rw [← hes] at HK oA oB
      obtain ⟨rb, hrb⟩ : ∃ rb, rb = ints ((es.filter fun x => x.2 == xb).map (·.1)) := ⟨_, rfl⟩
      have hrbl : rb.length ≤ 2000000 := by
        rw [hrb]; unfold ints; rw [List.length_map, List.length_map]
        have := List.length_filter_le (fun x => x.2 == xb) es
        omega
      have gB1 := backR_get hxb es
      rw [← hrb] at gB1
      obtain ⟨⟨hdA_A, hdA_n, hdA_c⟩, hkA⟩ : ∃ hd, hA[xb]? = some hd := ⟨_, List.getElem?_eq_getElem (by omega)⟩
      obtain rfl : hdA_n = rb.length := oA xb _ _ hkA gB1
      have H1 := HK.rows_out hkA gB1
      simp only [] at H1
      have HKH1 := hid hkA
      have hxb' : (xb : Int) < (code.length : Int) + 1 := by omega
      have hxa' : (xa : Int) < (code.length : Int) + 1 := by omega
      have HGB := hid gB1
      have HRB := hid hrb
      have HES := hid hes
      have HOA := hid oA
      have HOB := hid oB
      have HUN := hid hun
      clear hkA gB1 hrb hes oA oB hun HK
      gi_wp2
      refine wpIn_region_B (fun i => i == 10) (fun w' => w'.cell? ⟨g4, 0, none⟩ = some (.slice (some ⟨gA, 0, none⟩) (code.length + 1) (code.length + 1)) ∧ w'.cell? ⟨gA, xb, none⟩ = some (.slice hdA_A rb.length hdA_c)) (by kernel_rfl) (by kernel_rfl) (fun _ _ h => h) ?_
      have H2 := H1.drew
      obtain ⟨w4, hw4⟩ : ∃ w4, w4 = W.drew := ⟨_, rfl⟩
      have hsz : w4.heap.size = W.heap.size := by rw [hw4]; rfl
      rw [← hw4] at H2 ⊢
      clear hw4
      have hS : w4.cell? ⟨g4, 0, none⟩ = some (.slice (some ⟨gA, 0, none⟩) (code.length + 1) (code.length + 1)) ∧ w4.cell? ⟨gA, xb, none⟩ = some (.slice hdA_A rb.length hdA_c) := ⟨(H2.cells 5 rfl).1.1, (H2.own_get0 3 rfl rfl HKH1.out rfl).1⟩
      refine wpAnyB_take' (i := 0) (v := .slice (some ⟨gA, 0, none⟩) (code.length + 1) (code.length + 1)) rfl (by kernel_rfl) (by kernel_rfl) rfl (by kernel_rfl) (by kernel_rfl) (fun _ _ _ h => h) (by rfl) hS (by intro w' hS'; obtain ⟨k1, k2⟩ := hS'; first | (go_simp; done) | (go_simp; rfl)) ?_
      simp only [Act.put, List.setIfInBounds_toArray, List.set_cons_zero, List.set_cons_succ]
      refine wpAnyB_take' (i := 1) (v := I xb) rfl (by kernel_rfl) (by kernel_rfl) rfl (by kernel_rfl) (by kernel_rfl) (fun _ _ _ h => h) (by rfl) hS (by intro w' hS'; obtain ⟨k1, k2⟩ := hS'; first | (go_simp; done) | (go_simp; rfl)) ?_
      simp only [Act.put, List.setIfInBounds_toArray, List.set_cons_zero, List.set_cons_succ]
      refine wpAnyB_take' (i := 2) (v := .slice (some ⟨gA, 0, none⟩) (code.length + 1) (code.length + 1)) rfl (by kernel_rfl) (by kernel_rfl) rfl (by kernel_rfl) (by kernel_rfl) (fun _ _ _ h => h) (by rfl) hS (by intro w' hS'; obtain ⟨k1, k2⟩ := hS'; first | (go_simp; done) | (go_simp; rfl)) ?_
      simp only [Act.put, List.setIfInBounds_toArray, List.set_cons_zero, List.set_cons_succ]
      refine wpAnyB_take' (i := 3) (v := I xb) rfl (by kernel_rfl) (by kernel_rfl) rfl (by kernel_rfl) (by kernel_rfl) (fun _ _ _ h => h) (by rfl) hS (by intro w' hS'; obtain ⟨k1, k2⟩ := hS'; first | (go_simp; done) | (go_simp; rfl)) ?_
      simp only [Act.put, List.setIfInBounds_toArray, List.set_cons_zero, List.set_cons_succ]
      refine wpAnyB_take' (i := 4) (v := .pointer (some ⟨gA, xb, none⟩)) rfl (by kernel_rfl) (by kernel_rfl) rfl (by kernel_rfl) (by kernel_rfl) (fun _ _ _ h => h) (by rfl) hS (by intro w' hS'; obtain ⟨k1, k2⟩ := hS'; first | (go_simp; done) | (go_simp; rfl)) ?_
      simp only [Act.put, List.setIfInBounds_toArray, List.set_cons_zero, List.set_cons_succ]
      refine wpAnyB_take' (i := 5) (v := .slice hdA_A rb.length hdA_c) rfl (by kernel_rfl) (by kernel_rfl) rfl (by kernel_rfl) (by kernel_rfl) (fun _ _ _ h => h) (by rfl) hS (by intro w' hS'; obtain ⟨k1, k2⟩ := hS'; first | (go_simp; done) | (go_simp; rfl)) ?_
      simp only [Act.put, List.setIfInBounds_toArray, List.set_cons_zero, List.set_cons_succ]
      refine wpAnyB_take' (i := 6) (v := I xa) rfl (by kernel_rfl) (by kernel_rfl) rfl (by kernel_rfl) (by kernel_rfl) (fun _ _ _ h => h) (by rfl) hS (by intro w' hS'; obtain ⟨k1, k2⟩ := hS'; first | (go_simp; done) | (go_simp; rfl)) ?_
      simp only [Act.put, List.setIfInBounds_toArray, List.set_cons_zero, List.set_cons_succ]
      refine wpAnyB_one' (i := 7) rfl (by kernel_rfl) ?_
      refine wpList_build1g elt_int H2 rfl rfl (by decide) ?_
      intro u_ w5 hu_ H3
      simp only [Act.eval, Act.put, List.setIfInBounds_toArray, List.set_cons_zero, List.set_cons_succ, Array.getD_eq_getD_getElem?, List.getElem?_toArray, List.getElem?_cons_zero, List.getElem?_cons_succ, Option.getD_some] at hu_; subst hu_
      simp only [vcells_int, hsz] at H3
      clear hS
      have hS : w5.cell? ⟨g4, 0, none⟩ = some (.slice (some ⟨gA, 0, none⟩) (code.length + 1) (code.length + 1)) ∧ w5.cell? ⟨gA, xb, none⟩ = some (.slice hdA_A rb.length hdA_c) := ⟨(H3.cells 6 rfl).1.1, (H3.own_get0 4 rfl rfl HKH1.out rfl).1⟩
      refine And.intro (fun _ => hS) ?_
      simp only [Act.put, List.setIfInBounds_toArray, List.set_cons_zero, List.set_cons_succ, hsz]
      refine wpAnyB_one' (i := 8) rfl (by kernel_rfl) ?_
      refine wpList_append_own1 (E := Enc.i64) elt_int H3 1 (xa : Int) rfl rfl rfl rfl (H3.rd 0 rfl elt_int.pos).1 (by omega) (by decide) ?_
      intro A6 c6 w6 H6
      simp only [List.set_cons_zero, List.set_cons_succ] at H6
      clear hS
      have hS : w6.cell? ⟨g4, 0, none⟩ = some (.slice (some ⟨gA, 0, none⟩) (code.length + 1) (code.length + 1)) ∧ w6.cell? ⟨gA, xb, none⟩ = some (.slice hdA_A rb.length hdA_c) := ⟨(H6.cells 6 rfl).1.1, (H6.own_get0 4 rfl rfl HKH1.out rfl).1⟩
      refine And.intro (fun _ => hS) ?_
      simp only [Act.put, List.setIfInBounds_toArray, List.set_cons_zero, List.set_cons_succ]
      refine wpAnyB_take' (i := 9) (v := .pointer (some ⟨gA, xb, none⟩)) rfl (by kernel_rfl) (by kernel_rfl) rfl (by kernel_rfl) (by kernel_rfl) (fun _ _ _ h => h) (by rfl) hS (by intro w' hS'; obtain ⟨k1, k2⟩ := hS'; first | (go_simp; done) | (go_simp; rfl)) ?_
      simp only [Act.put, List.setIfInBounds_toArray, List.set_cons_zero, List.set_cons_succ]
      refine wpAnyB_one' (i := 10) rfl (by kernel_rfl) ?_
      refine wpList_store_own H6 4 xb (⟨A6, rb.length + 1, c6⟩ : Hdr) rfl rfl (by omega) rfl rfl (by kernel_rfl) (by omega) ?_
      intro w7 H7
      simp only [List.set_cons_zero, List.set_cons_succ] at H7
      refine And.intro (fun h => by cases h) ?_
      refine wpAnyB_done (by kernel_rfl) ?_ _
      clear hS H2 H3 H6
      replace H7 := H7.mv 1 rfl; simp only [List.eraseIdx_cons_succ, List.eraseIdx_cons_zero] at H7; replace H7 := H7.mv 2 rfl; simp only [List.eraseIdx_cons_succ, List.eraseIdx_cons_zero] at H7; replace H7 := H7.mv 1 rfl; simp only [List.eraseIdx_cons_succ, List.eraseIdx_cons_zero] at H7
      have H8 := H7.rows_in (k := xb) (by rw [List.getElem?_set_self (by omega)]) (by rw [List.getElem?_set_self (by simp [backR]; omega)])
      rw [List.set_set, List.set_set, HRB.out, backR_snoc hxb es, ← HRB.out] at H8
      have hl1 : (rb ++ [(xa : Int)]).length = rb.length + 1 := by simp
      rw [hl1] at H8
      have oA1 : HdrOk (hA.set xb ⟨A6, rb.length + 1, c6⟩) (backR code.length (es ++ [(xa, xb)])) := by
        intro k hd r hk hr
        rw [← backR_snoc hxb es, ← HRB.out] at hr
        by_cases e : xb = k
        · subst e
          rw [List.getElem?_set_self (by omega)] at hk
          rw [List.getElem?_set_self (by simp [backR]; omega)] at hr
          obtain rfl := Option.some.inj hk
          obtain rfl := Option.some.inj hr
          exact hl1.symm
        · rw [List.getElem?_set_ne e] at hk hr
          exact HOA.out k hd r hk hr
      have OA1 := hid oA1
      obtain ⟨W1, rfl⟩ : ∃ W1 : World, W1 = w7 := ⟨_, rfl⟩
      obtain ⟨A6a, rfl⟩ : ∃ A6a, A6a = A6 := ⟨_, rfl⟩
      obtain ⟨c6a, rfl⟩ : ∃ c6a, c6a = c6 := ⟨_, rfl⟩
      obtain ⟨hA1, hhA1⟩ : ∃ hA1, hA1 = hA.set xb ⟨A6a, rb.length + 1, c6a⟩ := ⟨_, rfl⟩
      have lA1 : hA1.length = code.length + 1 := by rw [hhA1, List.length_set]; exact lA
      rw [← hhA1] at H8 OA1
      obtain ⟨ra, hra⟩ : ∃ ra, ra = ints ((es.filter fun x => x.1 == xa).map (·.2)) := ⟨_, rfl⟩
      have hral : ra.length ≤ 2000000 := by
        rw [hra]; unfold ints; rw [List.length_map, List.length_map]
        have := List.length_filter_le (fun x => x.1 == xa) es
        omega
      have gA1 := nextR_get (Nat.le_of_lt hxa) es
      rw [← hra] at gA1
      obtain ⟨⟨hdB_A, hdB_n, hdB_c⟩, hkB⟩ : ∃ hd, hB[xa]? = some hd := ⟨_, List.getElem?_eq_getElem (by omega)⟩
      obtain rfl : hdB_n = ra.length := HOB.out xa _ _ hkB gA1
      have H9 := (H8.mv 2 rfl)
      simp only [List.eraseIdx_cons_succ, List.eraseIdx_cons_zero] at H9
      have H1 := H9.rows_out hkB gA1
      simp only [] at H1
      have HKH2 := hid hkB
      have HRA := hid hra
      clear hkB gA1 hra oA1 H7 H8 H9 hhA1 hl1
      gi_wp2
      refine wpIn_region_B (fun i => i == 10) (fun w' => w'.cell? ⟨g5, 0, none⟩ = some (.slice (some ⟨gB, 0, none⟩) (code.length + 1) (code.length + 1)) ∧ w'.cell? ⟨gB, xa, none⟩ = some (.slice hdB_A ra.length hdB_c)) (by kernel_rfl) (by kernel_rfl) (fun _ _ h => h) ?_
      have H2 := H1.drew
      obtain ⟨w4, hw4⟩ : ∃ w4, w4 = W1.drew := ⟨_, rfl⟩
      have hsz : w4.heap.size = W1.heap.size := by rw [hw4]; rfl
      rw [← hw4] at H2 ⊢
      clear hw4
      have hS : w4.cell? ⟨g5, 0, none⟩ = some (.slice (some ⟨gB, 0, none⟩) (code.length + 1) (code.length + 1)) ∧ w4.cell? ⟨gB, xa, none⟩ = some (.slice hdB_A ra.length hdB_c) := ⟨(H2.cells 7 rfl).1.1, (H2.own_get0 5 rfl rfl HKH2.out rfl).1⟩
      refine wpAnyB_take' (i := 0) (v := .slice (some ⟨gB, 0, none⟩) (code.length + 1) (code.length + 1)) rfl (by kernel_rfl) (by kernel_rfl) rfl (by kernel_rfl) (by kernel_rfl) (fun _ _ _ h => h) (by rfl) hS (by intro w' hS'; obtain ⟨k1, k2⟩ := hS'; first | (go_simp; done) | (go_simp; rfl)) ?_
      simp only [Act.put, List.setIfInBounds_toArray, List.set_cons_zero, List.set_cons_succ]
      refine wpAnyB_take' (i := 1) (v := I xa) rfl (by kernel_rfl) (by kernel_rfl) rfl (by kernel_rfl) (by kernel_rfl) (fun _ _ _ h => h) (by rfl) hS (by intro w' hS'; obtain ⟨k1, k2⟩ := hS'; first | (go_simp; done) | (go_simp; rfl)) ?_
      simp only [Act.put, List.setIfInBounds_toArray, List.set_cons_zero, List.set_cons_succ]
      refine wpAnyB_take' (i := 2) (v := .slice (some ⟨gB, 0, none⟩) (code.length + 1) (code.length + 1)) rfl (by kernel_rfl) (by kernel_rfl) rfl (by kernel_rfl) (by kernel_rfl) (fun _ _ _ h => h) (by rfl) hS (by intro w' hS'; obtain ⟨k1, k2⟩ := hS'; first | (go_simp; done) | (go_simp; rfl)) ?_
      simp only [Act.put, List.setIfInBounds_toArray, List.set_cons_zero, List.set_cons_succ]
      refine wpAnyB_take' (i := 3) (v := I xa) rfl (by kernel_rfl) (by kernel_rfl) rfl (by kernel_rfl) (by kernel_rfl) (fun _ _ _ h => h) (by rfl) hS (by intro w' hS'; obtain ⟨k1, k2⟩ := hS'; first | (go_simp; done) | (go_simp; rfl)) ?_
      simp only [Act.put, List.setIfInBounds_toArray, List.set_cons_zero, List.set_cons_succ]
      refine wpAnyB_take' (i := 4) (v := .pointer (some ⟨gB, xa, none⟩)) rfl (by kernel_rfl) (by kernel_rfl) rfl (by kernel_rfl) (by kernel_rfl) (fun _ _ _ h => h) (by rfl) hS (by intro w' hS'; obtain ⟨k1, k2⟩ := hS'; first | (go_simp; done) | (go_simp; rfl)) ?_
      simp only [Act.put, List.setIfInBounds_toArray, List.set_cons_zero, List.set_cons_succ]
      refine wpAnyB_take' (i := 5) (v := .slice hdB_A ra.length hdB_c) rfl (by kernel_rfl) (by kernel_rfl) rfl (by kernel_rfl) (by kernel_rfl) (fun _ _ _ h => h) (by rfl) hS (by intro w' hS'; obtain ⟨k1, k2⟩ := hS'; first | (go_simp; done) | (go_simp; rfl)) ?_
      simp only [Act.put, List.setIfInBounds_toArray, List.set_cons_zero, List.set_cons_succ]
      refine wpAnyB_take' (i := 6) (v := I xb) rfl (by kernel_rfl) (by kernel_rfl) rfl (by kernel_rfl) (by kernel_rfl) (fun _ _ _ h => h) (by rfl) hS (by intro w' hS'; obtain ⟨k1, k2⟩ := hS'; first | (go_simp; done) | (go_simp; rfl)) ?_
      simp only [Act.put, List.setIfInBounds_toArray, List.set_cons_zero, List.set_cons_succ]
      refine wpAnyB_one' (i := 7) rfl (by kernel_rfl) ?_
      refine wpList_build1g elt_int H2 rfl rfl (by decide) ?_
      intro u_ w5 hu_ H3
      simp only [Act.eval, Act.put, List.setIfInBounds_toArray, List.set_cons_zero, List.set_cons_succ, Array.getD_eq_getD_getElem?, List.getElem?_toArray, List.getElem?_cons_zero, List.getElem?_cons_succ, Option.getD_some] at hu_; subst hu_
      simp only [vcells_int, hsz] at H3
      clear hS
      have hS : w5.cell? ⟨g5, 0, none⟩ = some (.slice (some ⟨gB, 0, none⟩) (code.length + 1) (code.length + 1)) ∧ w5.cell? ⟨gB, xa, none⟩ = some (.slice hdB_A ra.length hdB_c) := ⟨(H3.cells 8 rfl).1.1, (H3.own_get0 6 rfl rfl HKH2.out rfl).1⟩
      refine And.intro (fun _ => hS) ?_
      simp only [Act.put, List.setIfInBounds_toArray, List.set_cons_zero, List.set_cons_succ, hsz]
      refine wpAnyB_one' (i := 8) rfl (by kernel_rfl) ?_
      refine wpList_append_own1 (E := Enc.i64) elt_int H3 1 (xb : Int) rfl rfl rfl rfl (H3.rd 0 rfl elt_int.pos).1 (by omega) (by decide) ?_
      intro A6 c6 w6 H6
      simp only [List.set_cons_zero, List.set_cons_succ] at H6
      clear hS
      have hS : w6.cell? ⟨g5, 0, none⟩ = some (.slice (some ⟨gB, 0, none⟩) (code.length + 1) (code.length + 1)) ∧ w6.cell? ⟨gB, xa, none⟩ = some (.slice hdB_A ra.length hdB_c) := ⟨(H6.cells 8 rfl).1.1, (H6.own_get0 6 rfl rfl HKH2.out rfl).1⟩
      refine And.intro (fun _ => hS) ?_
      simp only [Act.put, List.setIfInBounds_toArray, List.set_cons_zero, List.set_cons_succ]
      refine wpAnyB_take' (i := 9) (v := .pointer (some ⟨gB, xa, none⟩)) rfl (by kernel_rfl) (by kernel_rfl) rfl (by kernel_rfl) (by kernel_rfl) (fun _ _ _ h => h) (by rfl) hS (by intro w' hS'; obtain ⟨k1, k2⟩ := hS'; first | (go_simp; done) | (go_simp; rfl)) ?_
      simp only [Act.put, List.setIfInBounds_toArray, List.set_cons_zero, List.set_cons_succ]
      refine wpAnyB_one' (i := 10) rfl (by kernel_rfl) ?_
      refine wpList_store_own H6 6 xa (⟨A6, ra.length + 1, c6⟩ : Hdr) rfl rfl (by omega) rfl rfl (by kernel_rfl) (by omega) ?_
      intro w7 H7
      simp only [List.set_cons_zero, List.set_cons_succ] at H7
      refine And.intro (fun h => by cases h) ?_
      refine wpAnyB_done (by kernel_rfl) ?_ _
      clear hS H2 H3 H6
      replace H7 := H7.mv 1 rfl; simp only [List.eraseIdx_cons_succ, List.eraseIdx_cons_zero] at H7; replace H7 := H7.mv 2 rfl; simp only [List.eraseIdx_cons_succ, List.eraseIdx_cons_zero] at H7; replace H7 := H7.mv 1 rfl; simp only [List.eraseIdx_cons_succ, List.eraseIdx_cons_zero] at H7
      have H8 := H7.rows_in (k := xa) (by rw [List.getElem?_set_self (by omega)]) (by rw [List.getElem?_set_self (by simp [nextR]; omega)])
      rw [List.set_set, List.set_set, HRA.out, nextR_snoc (Nat.le_of_lt hxa) es, ← HRA.out] at H8
      have hl1 : (ra ++ [(xb : Int)]).length = ra.length + 1 := by simp
      rw [hl1] at H8
      have oB1 : HdrOk (hB.set xa ⟨A6, ra.length + 1, c6⟩) (nextR code.length (es ++ [(xa, xb)])) := by
        intro k hd r hk hr
        rw [← nextR_snoc (Nat.le_of_lt hxa) es, ← HRA.out] at hr
        by_cases e : xa = k
        · subst e
          rw [List.getElem?_set_self (by omega)] at hk
          rw [List.getElem?_set_self (by simp [nextR]; omega)] at hr
          obtain rfl := Option.some.inj hk
          obtain rfl := Option.some.inj hr
          exact hl1.symm
        · rw [List.getElem?_set_ne e] at hk hr
          exact HOB.out k hd r hk hr
      have H9 := H8.drop 1
      simp only [List.eraseIdx_cons_succ, List.eraseIdx_cons_zero] at H9
      obtain ⟨gl, ol, hgl, _, _, _, hlt⟩ := H9.row_at 2 rfl (by decide)
      have hsz : W.heap.size ≤ w7.heap.size := by
        simp at hgl
        omega
      have H10 := H9.drop 2
      simp only [List.eraseIdx_cons_succ, List.eraseIdx_cons_zero] at H10
      replace H10 := H10.mv 1 rfl; simp only [List.eraseIdx_cons_succ, List.eraseIdx_cons_zero] at H10
      obtain ⟨H11, hkeep⟩ := HUN.out w7 [_, _, _, _, _, _] H10
      have hpe : (pre ++ [(⟨(xa, xb), hxa, hxb⟩ : Edge code.length)]).map Subtype.val = es ++ [(xa, xb)] := by rw [List.map_append, HES.out]; rfl
      have HPE := hid hpe
      have HK2 : KeepsOthers W w7 := ⟨hsz, fun k o ho hn => hkeep k o ho fun c T z e => by rw [e] at hn; cases hn⟩
      have HK3 : keepT iterT W w7 := fun k c T z hT hk => hkeep k _ hk fun c' T' z' e => by
        injection e with e1 e2 e3
        subst e2
        intro hm
        revert hT hm
        simp only [iterT, List.mem_cons, List.not_mem_nil, or_false]
        rintro (rfl | rfl | rfl) <;> decide
      clear H7 H8 H9 H10 hl1 hkeep hpe hlt hgl
      gi_wp2
      refine ⟨HK2, HK3, hA1, hB.set xa ⟨A6, ra.length + 1, c6⟩, lA1, (by rw [List.length_set]; exact lB), ?_, ?_, ?_⟩
      · rw [HPE.out]; exact OA1.out
      · rw [HPE.out]; exact oB1
      · rw [HPE.out]; exact H11
    case done =>
      rintro D xs W hD hS ⟨hA, hB, lA, lB, oA, oB, HM⟩ hK
      have hDl := Nat.le_trans H4.size hD
      obtain ⟨es, hes⟩ : ∃ es, es = xs.map Subtype.val := ⟨_, rfl⟩
      rw [← hes] at hS HM oA oB
      have HM1 := HM.obj (by
        intro A hA'
        simp only [List.cons_append, List.nil_append, List.mem_cons, List.not_mem_nil, or_false] at hA'
        rcases hA' with rfl | rfl | rfl | rfl | rfl | rfl | rfl | rfl
        · exact rowsP_cellular _ _ _ _
        · exact rowsP_cellular _ _ _ _
        · exact own_cellular _ _ _ _ _
        · exact own_cellular _ _ _ _ _
        · exact box_cellular _ _ _
        · exact box_cellular _ _ _
        · exact box_cellular _ _ _
        · exact own_cellular _ _ _ _ _) hK rfl (Nat.le_trans H4.size hD)
      simp only [List.cons_append, List.nil_append] at HM1
      have HM2 := (HM1.drop 8).drop 7
      simp only [List.eraseIdx_cons_succ, List.eraseIdx_cons_zero] at HM2
      have HES := hid hS
      have HOA := hid oA
      have HOB := hid oB
      clear HM HM1 hes hS H4 hbk0 hnx0 oA oB
      obtain ⟨Wd, hWd⟩ : ∃ Wd : World, Wd = W := ⟨_, rfl⟩
      have HWD : Hd (Wd.heap[D]? = some (.deferred (some []))) := ⟨by rw [hWd]; exact hK⟩
      have HM3 : Mem w W [still Wd (fun k => k = D), rowsP Enc.i64 3 hA (backR code.length es), rowsP Enc.i64 3 hB (nextR code.length es), own Enc.hdr 32 (some ⟨gA, 0, none⟩) (code.length + 1) hA, own Enc.hdr 32 (some ⟨gB, 0, none⟩) (code.length + 1) hB, box g4 42 #[.slice (some ⟨gA, 0, none⟩) (code.length + 1) (code.length + 1)], box g5 42 #[.slice (some ⟨gB, 0, none⟩) (code.length + 1) (code.length + 1)]] := by
        rw [hWd]; exact HM2
      clear HM2 hK hWd
      have b4 := (HM3.cells 5 rfl).1.1
      have RB := HM3.rdRows 3 1 rfl rfl (by simp [backR]; omega) HOA.out (by decide)
      have HRB := hid RB
      clear RB
      have hlB : (backR code.length es).length = code.length + 1 := by simp [backR]
      have hord := order_calls (some ⟨gA, 0, none⟩) (code.length + 1) hA (backR code.length es) (nxt code) (fun b => (es.filter fun x => x.2 == b).map (·.1)) code.length W HRB.out hlB hn (fun p hp => backR_get hp es)
        (fun p hp => by rw [HES.out]; exact Nat.le_trans (back_len _ (nxt_two code) _ _) (by omega)) (fun b a h => by rw [HES.out] at h; exact mem_back.1 h) (fun a b h1 h2 => by rw [HES.out]; exact mem_back.2 ⟨h1, h2⟩)
      rw [show (I ((code.length + 1 : Nat) : Int)) = .int .i64 ((code.length : Int) + 1) from rfl] at hord
      go_upto_region 11 with (first
        | (go_at_call 25; (with_reducible refine hord.mono ?_); clear hord; rintro e w4 ⟨A8, c8, ol, rfl, hOr, hol, H4'⟩; have H4 := HM3.call H4'; simp only [List.cons_append, List.nil_append] at H4; clear b4)
        | ((with_reducible refine at_mk ?_); refine wpList_make_own (E := Enc.i64) elt_int H4 (code.length + 1) 0 rfl rfl rfl rfl rfl (by unfold maxLen; omega) (by omega) ?_; intro gH5 wH5 H5)
        | ((with_reducible refine at_alloc ?_); refine wpList_alloc_box H5 (.slice none 0 0) (by kernel_rfl) ?_; intro gH6 wH6 H6; simp only [splice, vcells_int, vcells_bool, vcells_string, vcells_pointer, vcells_slice, vcells_map, vcells_func, vcells_nilFunc, vcells_iface, vcells_nilIface, vcells_agg, List.take_zero, List.take_succ_cons, List.drop_zero, List.drop_succ_cons, List.length_cons, List.length_nil, List.nil_append, List.cons_append, List.append_nil, Nat.zero_add, List.set_cons_zero, List.set_cons_succ] at H6) | ((with_reducible refine at_store ?_); refine wpList_store_box H6 0 1 rfl rfl (by kernel_rfl) rfl (Nat.le_of_ble_eq_true rfl) rfl ?_; intro u_ wH7 hu_ H7; simp only [Act.eval, Act.put, List.setIfInBounds_toArray, List.set_cons_zero, List.set_cons_succ, Array.getD_eq_getD_getElem?, List.getElem?_toArray, List.getElem?_cons_zero, List.getElem?_cons_succ, Option.getD_some] at hu_; subst hu_; simp only [splice, vcells_int, vcells_bool, vcells_string, vcells_pointer, vcells_slice, vcells_map, vcells_func, vcells_nilFunc, vcells_iface, vcells_nilIface, vcells_agg, List.take_zero, List.take_succ_cons, List.drop_zero, List.drop_succ_cons, List.length_cons, List.length_nil, List.nil_append, List.cons_append, List.append_nil, Nat.zero_add, List.set_cons_zero, List.set_cons_succ] at H7)
        | ((with_reducible refine at_mk ?_); refine wpList_make_own (E := Enc.i64) elt_int H7 (code.length + 1) 0 rfl rfl rfl rfl rfl (by unfold maxLen; omega) (by omega) ?_; intro gH8 wH8 H8)
        | ((with_reducible refine at_alloc ?_); refine wpList_alloc_box H8 (.slice none 0 0) (by kernel_rfl) ?_; intro gH9 wH9 H9; simp only [splice, vcells_int, vcells_bool, vcells_string, vcells_pointer, vcells_slice, vcells_map, vcells_func, vcells_nilFunc, vcells_iface, vcells_nilIface, vcells_agg, List.take_zero, List.take_succ_cons, List.drop_zero, List.drop_succ_cons, List.length_cons, List.length_nil, List.nil_append, List.cons_append, List.append_nil, Nat.zero_add, List.set_cons_zero, List.set_cons_succ] at H9) | ((with_reducible refine at_store ?_); refine wpList_store_box H9 0 1 rfl rfl (by kernel_rfl) rfl (Nat.le_of_ble_eq_true rfl) rfl ?_; intro u_ wH10 hu_ H10; simp only [Act.eval, Act.put, List.setIfInBounds_toArray, List.set_cons_zero, List.set_cons_succ, Array.getD_eq_getD_getElem?, List.getElem?_toArray, List.getElem?_cons_zero, List.getElem?_cons_succ, Option.getD_some] at hu_; subst hu_; simp only [splice, vcells_int, vcells_bool, vcells_string, vcells_pointer, vcells_slice, vcells_map, vcells_func, vcells_nilFunc, vcells_iface, vcells_nilIface, vcells_agg, List.take_zero, List.take_succ_cons, List.drop_zero, List.drop_succ_cons, List.length_cons, List.length_nil, List.nil_append, List.cons_append, List.append_nil, Nat.zero_add, List.set_cons_zero, List.set_cons_succ] at H10; (try clear k10); have k10 := H10.cells 0 rfl; simp only [cellsAre, and_true, Nat.zero_add] at k10))
      clear H4 H4' H5 H6 H7 H8 H9 hlB HRB
      have HOR := hid hOr
      have hil : (ints ol).length = ol.length := by simp [ints]
      clear hOr
      go_wp2
      go_loopw [62] (fun v wr => ∃ (i : Nat) (nl : List Int), i ≤ code.length + 1 ∧ v = .int .i64 i ∧ Hd (nl.length = code.length + 1 ∧ ∀ k, k < i → nl[k]? = some (-1)) ∧ Mem w wr [box gH9 32 #[.slice (some ⟨gH8, 0, none⟩) (code.length + 1) (code.length + 1)], own Enc.i64 3 (some ⟨gH8, 0, none⟩) (code.length + 1) nl, box gH6 32 #[.slice (some ⟨gH5, 0, none⟩) (code.length + 1) (code.length + 1)], own Enc.i64 3 (some ⟨gH5, 0, none⟩) (code.length + 1) (List.replicate (code.length + 1) 0), own Enc.i64 3 A8 c8 (ints ol), still Wd (fun k => k = D), rowsP Enc.i64 3 hA (backR code.length es), rowsP Enc.i64 3 hB (nextR code.length es), own Enc.hdr 32 (some ⟨gA, 0, none⟩) (code.length + 1) hA, own Enc.hdr 32 (some ⟨gB, 0, none⟩) (code.length + 1) hB, box g4 42 #[.slice (some ⟨gA, 0, none⟩) (code.length + 1) (code.length + 1)], box g5 42 #[.slice (some ⟨gB, 0, none⟩) (code.length + 1) (code.length + 1)]]) (fun v _ => code.length + 1 - (intOf v).toNat)
      case atStart => exact ⟨0, _, by omega, rfl, ⟨by simp, fun k hk => by omega⟩, H10⟩
      case round =>
        clear H10 k10
        obtain ⟨i, nl, hi, rfl, HL, H11⟩ := hrel
        obtain ⟨w5, rfl⟩ : ∃ w5 : World, w5 = wr := ⟨_, rfl⟩
        have k11 := (H11.cells 0 rfl).1.1
        by_cases hlt : i < code.length + 1
        · go_wp2_with ((with_reducible refine at_store ?_); refine wpList_store_own H11 1 i (-1) rfl rfl (by omega) rfl rfl (by kernel_rfl) (by have := HL.out.1; omega) ?_; intro wH12 H12; simp only [List.set_cons_zero, List.set_cons_succ] at H12)
          go_roundw
          case rel =>
            refine ⟨i + 1, nl.set i (-1), by omega, by go_num, ⟨by rw [List.length_set]; exact HL.out.1, fun k hk => ?_⟩, H12⟩
            by_cases e : i = k
            · subst e; rw [List.getElem?_set_self (by have := HL.out.1; omega)]
            · rw [List.getElem?_set_ne e]; exact HL.out.2 k (by omega)
          case measure => first | (simp [intOf]; done) | (simp [intOf]; omega)
        · obtain rfl : i = code.length + 1 := by omega
          have hnl : nl = List.replicate (code.length + 1) (-1) := by
            apply List.ext_getElem?
            intro k
            by_cases hk : k < code.length + 1
            · rw [HL.out.2 k hk, List.getElem?_replicate, if_pos hk]
            · rw [List.getElem?_eq_none (by have := HL.out.1; omega), List.getElem?_eq_none (by simp; omega)]
          subst hnl
          clear HL k11 hlt hi
          go_wp2
          go_loopw [71] (fun v wr => ∃ (i : Nat) (pls : List Int), i ≤ (ints ol).length ∧ v = .int .i64 i ∧ Hd (pls.length = code.length + 1 ∧ ∀ k x, k < i → ol[k]? = some x → pls[x]? = some (k : Int)) ∧ Mem w wr [box gH9 32 #[.slice (some ⟨gH8, 0, none⟩) (code.length + 1) (code.length + 1)], own Enc.i64 3 (some ⟨gH8, 0, none⟩) (code.length + 1) (List.replicate (code.length + 1) (-1)), box gH6 32 #[.slice (some ⟨gH5, 0, none⟩) (code.length + 1) (code.length + 1)], own Enc.i64 3 (some ⟨gH5, 0, none⟩) (code.length + 1) pls, own Enc.i64 3 A8 c8 (ints ol), still Wd (fun k => k = D), rowsP Enc.i64 3 hA (backR code.length es), rowsP Enc.i64 3 hB (nextR code.length es), own Enc.hdr 32 (some ⟨gA, 0, none⟩) (code.length + 1) hA, own Enc.hdr 32 (some ⟨gB, 0, none⟩) (code.length + 1) hB, box g4 42 #[.slice (some ⟨gA, 0, none⟩) (code.length + 1) (code.length + 1)], box g5 42 #[.slice (some ⟨gB, 0, none⟩) (code.length + 1) (code.length + 1)]]) (fun v _ => (ints ol).length - (intOf v).toNat)
          case atStart => exact ⟨0, _, by omega, rfl, ⟨by simp, fun k x hk => by omega⟩, H11⟩
          case round =>
            clear H11
            obtain ⟨i, pls, hi, rfl, HL, H11⟩ := hrel
            obtain ⟨w6, rfl⟩ : ∃ w6 : World, w6 = wr := ⟨_, rfl⟩
            have k11 := (H11.cells 2 rfl).1.1
            by_cases hlt : i < (ints ol).length
            · obtain ⟨x, hx⟩ : ∃ x, ol[i]? = some x := ⟨_, List.getElem?_eq_getElem (by omega)⟩
              have hxN : x ≤ code.length := ((HOR.out.mem x).1 (List.mem_of_getElem? hx)).le
              obtain ⟨b8, o8, rfl, e8⟩ := (H11.own_rd 4 rfl (by decide)).1.get1 (k := i) (x := (x : Int)) rfl (by unfold ints; rw [List.getElem?_map, hx]; rfl) rfl
              have HX := hid hx
              clear hx
              go_wp2_with ((with_reducible refine at_store ?_); refine wpList_store_own H11 3 x (i : Int) rfl rfl (by omega) rfl rfl (by kernel_rfl) (by have := HL.out.1; omega) ?_; intro wH12 H12; simp only [List.set_cons_zero, List.set_cons_succ] at H12)
              go_roundw
              case rel =>
                refine ⟨i + 1, pls.set x (i : Int), by omega, by go_num, ⟨by rw [List.length_set]; exact HL.out.1, fun k y hk hy => ?_⟩, H12⟩
                by_cases e : k = i
                · subst e
                  rw [HX.out] at hy
                  obtain rfl := Option.some.inj hy
                  rw [List.getElem?_set_self (by have := HL.out.1; omega)]
                · have hyx : x ≠ y := by
                    rintro rfl
                    obtain ⟨h1, h2⟩ := List.getElem?_eq_some_iff.1 hy
                    obtain ⟨h3, h4⟩ := List.getElem?_eq_some_iff.1 HX.out
                    exact List.pairwise_iff_getElem.1 HOR.out.nod k i h1 h3 (by omega) (h2.trans h4.symm)
                  rw [List.getElem?_set_ne hyx]
                  exact HL.out.2 k y (by omega) hy
              case measure => first | (simp [intOf]; done) | (simp [intOf]; omega)
            · obtain rfl : i = (ints ol).length := by omega
              have k12 := (H11.cells 0 rfl).1.1
              go_wp2_with ((with_reducible refine at_store ?_); refine wpList_store_own H11 1 code.length (code.length : Int) rfl rfl (by omega) rfl rfl (by kernel_rfl) (by simp) ?_; intro wH12 H12; simp only [List.set_cons_zero, List.set_cons_succ] at H12)
              have HPS := hid hpass
              clear hpass
              refine wp_label ?_
              obtain ⟨K, hK⟩ := bound_all (nxt code) code.length (fun x => ol.idxOf x)
              refine (‹∀ (a : Act) (w : World), Code.wp Try.prog _ _ a w → _› : ∀ (a : Act) (w : World), Code.wp Try.prog _ _ a w → _) _ _ (HPS.out (K + 2) _ _ ?hTJ)
              case hTJ =>
                obtain rfl := HES.out
                subst hfv
                refine TJ_of (m := 0) (K := K) (f := fun x => if x = code.length then some code.length else none) (gb := gH1) rfl ⟨HWD.out, hDl, HOR.out, hol, Near1.start HOR.out hol HL.out, HOB.out, lB, hK, Nat.zero_le _, fun h => absurd h (Nat.lt_irrefl _), H12⟩ ?_
                rw [hil]
                rfl
end Go.Proofs.Ytjlikbaamefkiaa
