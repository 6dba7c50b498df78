/- slices.IndexFunc, ContainsFunc at logs.all's closure; logs.all, Alike, Same. -/
import Derived.Test.YtjgaacpiflmljaaDoorLgC
namespace Go.Proofs.YtjgaacpiflmljaaDoor
open Go.RowKit
set_option linter.unusedVariables false
set_option linter.unusedSimpArgs false
set_option maxHeartbeats 2000000
/-- Does the k-th pair fail? -/
def fails (hf : List Int → List Int → Bool) (a b : List (List Int)) (k : Nat) : Bool := !hf (a.getD k []) (b.getD k [])
/-- What the closures are given. -/
structure Env2 (w : World) (fn : Nat) (hf : List Int → List Int → Bool) (a b : List (List Int)) (g9 g7 g8 : Nat) (Aa Ab : Option Addr) (ca cb : Nat) (ha hb : List Hdr) : Prop where
  hH : Holds fn hf
  hcf : ∀ (args : Array Value) (w : World), Sem.run Tryd.prog (callFunc fn args) w = .ok (.enter fn args) w
  h9 : w.cell? ⟨g9, 0, none⟩ = some (.func (.func fn) #[] #[])
  h7 : w.cell? ⟨g7, 0, none⟩ = some (.slice Aa a.length ca)
  h8 : w.cell? ⟨g8, 0, none⟩ = some (.slice Ab b.length cb)
  ra : RdRows Enc.i64 w Aa a ha
  rb : RdRows Enc.i64 w Ab b hb
  la : a.length ≤ 2000000
  lb : b.length ≤ 2000000
  sa : ∀ r ∈ a, r.length ≤ 2000000
  sb : ∀ r ∈ b, r.length ≤ 2000000
theorem Env2.calls {w : World} {fn : Nat} {hf : List Int → List Int → Bool} {a b : List (List Int)} {g9 g7 g8 : Nat} {Aa Ab : Option Addr} {ca cb : Nat} {ha hb : List Hdr} (h : Env2 w fn hf a b g9 g7 g8 Aa Ab ca cb ha hb) {w' : World} (hb' : Below w.heap.size w w') {k : Nat} (ka : k < a.length) (kb : k < b.length) :
    Calls Tryd.prog 25 #[I k, pt g9, pt g7, pt g8] w' fun e w'' => e = .returned (.bool (fails hf a b k)) ∧ Mem w' w'' [] := by
  have hx : a[k]? = some a[k] := List.getElem?_eq_getElem ka
  have hy : b[k]? = some b[k] := List.getElem?_eq_getElem kb
  have cell : ∀ {p : Addr} {v : Value}, w.cell? p = some v → w'.cell? p = some v := fun {p v} hp => (hb'.cell (World.block_lt_of_cell? w _ hp)).trans hp
  have := all1_calls fn hf h.hH h.hcf a b ha hb Aa Ab ca cb k g9 g7 g8 a[k] b[k] w' (cell h.h9) (cell h.h7) (cell h.h8) hx hy (h.ra.below hb') (h.rb.below hb') (h.sa _ (List.getElem_mem ka)) (h.sb _ (List.getElem_mem kb)) h.la h.lb
  have e1 : a.getD k [] = a[k] := by rw [List.getD_eq_getElem?_getD, hx]; rfl
  have e2 : b.getD k [] = b[k] := by rw [List.getD_eq_getElem?_getD, hy]; rfl
  unfold fails
  rw [e1, e2]
  exact this
set_option maxRecDepth 100000 in
theorem indexFunc_calls (fn : Nat) (hf : List Int → List Int → Bool) (a b : List (List Int)) (g9 g7 g8 : Nat) (Aa Ab : Option Addr) (ca cb : Nat) (ha hb : List Hdr) (xs : List Nat) (A : Option Addr) (c : Nat) (w : World) (hE : Env2 w fn hf a b g9 g7 g8 Aa Ab ca cb ha hb) (hR : Rd Enc.i64 w A (ints xs)) (hx : ∀ k ∈ xs, k < a.length ∧ k < b.length) (hl : xs.length ≤ 2000000) :
    Calls Tryd.prog 30 #[.slice A (ints xs).length c, .func (.func 25) #[] #[pt g9, pt g7, pt g8]] w fun e w' => ∃ r : Int, e = .returned (I r) ∧ -1 ≤ r ∧ (decide (0 ≤ r) = xs.any (fails hf a b)) ∧ Mem w w' [] := by
  have HE := hid hE
  have HR := hid hR
  have HX := hid hx
  have hil : (ints xs).length = xs.length := by simp [ints]
  have HIL := hid hil
  have hil2 : (ints xs).length ≤ 2000000 := by rw [hil]; exact hl
  clear hE hR hx hil
  have H0 := Mem.refl w
  go_enter Tryd.func30, Tryd.ntmps30
  go_wp2
  go_loopw [8] (fun v wr => ∃ k : Nat, v = .int .i64 k ∧ k ≤ (ints xs).length ∧ Hd (∀ (j : Nat) (x : Nat), j < k → xs[j]? = some x → fails hf a b x = false) ∧ Mem w wr []) (fun v _ => (ints xs).length - (intOf v).toNat)
  case atStart => exact ⟨0, rfl, Nat.zero_le _, ⟨fun j x hj => by omega⟩, H0⟩
  case round =>
    clear H0
    obtain ⟨k, rfl, hk, HT, H1⟩ := hrel
    obtain ⟨wo, rfl⟩ : ∃ wo : World, wo = wr := ⟨_, rfl⟩
    by_cases hlt : k < (ints xs).length
    · obtain ⟨x, hx⟩ : ∃ x, xs[k]? = some x := ⟨_, List.getElem?_eq_getElem (by rw [HIL.out] at hlt; exact hlt)⟩
      obtain ⟨b1, o1, rfl, p1⟩ := HR.out.get1 (k := k) (x := (x : Int)) rfl (by unfold ints; rw [List.getElem?_map, hx]; rfl) rfl
      have e1 := H1.old p1
      obtain ⟨ka, kb⟩ := HX.out x (List.mem_of_getElem? hx)
      have HC := hid (HE.out.calls H1.below ka kb)
      have HXX := hid hx
      clear hx p1 ka kb
      cases hfl : fails hf a b x with
      | true =>
        have HF := hid hfl
        clear hfl
        go_wp2_with (first | (go_at_call 25; (with_reducible refine HC.out.mono ?_); rintro e w2 ⟨rfl, H2'⟩; rw [HF.out]; have H2 := H1.call H2'; simp only [List.nil_append] at H2))
        go_ret
        refine ⟨(k : Int), rfl, by omega, ?_, H2⟩
        rw [decide_eq_true (by omega), eq_comm, List.any_eq_true]
        exact ⟨x, List.mem_of_getElem? HXX.out, HF.out⟩
      | false =>
        have HF := hid hfl
        clear hfl
        go_wp2_with (first | (go_at_call 25; (with_reducible refine HC.out.mono ?_); rintro e w2 ⟨rfl, H2'⟩; rw [HF.out]; have H2 := H1.call H2'; simp only [List.nil_append] at H2))
        go_roundw
        case rel =>
          refine ⟨k + 1, by go_num, by omega, ⟨fun j z hj hz => ?_⟩, H2⟩
          rcases Nat.lt_or_ge j k with h | h
          · exact HT.out j z h hz
          · obtain rfl : j = k := by omega
            rw [HXX.out] at hz
            obtain rfl := Option.some.inj hz
            exact HF.out
        case measure => first | (simp [intOf]; done) | (simp [intOf]; omega)
    · obtain rfl : k = (ints xs).length := by omega
      go_wp2
      go_ret
      refine ⟨-1, rfl, by omega, ?_, H1⟩
      rw [decide_eq_false (by omega), eq_comm, List.any_eq_false]
      intro x hx
      obtain ⟨j, hj⟩ := List.getElem?_of_mem hx
      rw [HT.out j x (by rw [HIL.out]; exact (List.getElem?_eq_some_iff.1 hj).1) hj]
      decide
theorem containsFunc_calls (fn : Nat) (hf : List Int → List Int → Bool) (a b : List (List Int)) (g9 g7 g8 : Nat) (Aa Ab : Option Addr) (ca cb : Nat) (ha hb : List Hdr) (xs : List Nat) (A : Option Addr) (c : Nat) (w : World) (hE : Env2 w fn hf a b g9 g7 g8 Aa Ab ca cb ha hb) (hR : Rd Enc.i64 w A (ints xs)) (hx : ∀ k ∈ xs, k < a.length ∧ k < b.length) (hl : xs.length ≤ 2000000) :
    Calls Tryd.prog 24 #[.slice A (ints xs).length c, .func (.func 25) #[] #[pt g9, pt g7, pt g8]] w fun e w' => e = .returned (.bool (xs.any (fails hf a b))) ∧ Mem w w' [] := by
  have HC := hid (indexFunc_calls fn hf a b g9 g7 g8 Aa Ab ca cb ha hb xs A c w hE hR hx hl)
  clear hE hR hx
  go_enter Tryd.func24, Tryd.ntmps24
  go_wp2_with (first | (go_at_call 30; (with_reducible refine HC.out.mono ?_); rintro e w2 ⟨r, rfl, hr, ha, H2⟩; have HA := hid ha; clear ha))
  go_ret
  exact ⟨by rw [← HA.out]; rfl, H2⟩
/-- Do the logs belong to the module, and does each channel that is seen hold to it? -/
def allB (hf : List Int → List Int → Bool) (ch : List Int) (l : Int) (a b : List (List Int)) : Bool := decide (a.length = ch.length) && decide (b.length = ch.length) && (withL ch l ch.length).all fun k => !fails hf a b k
set_option maxRecDepth 100000 in
theorem all_calls (fn : Nat) (hf : List Int → List Int → Bool) (hH : Holds fn hf) (hcf : ∀ (args : Array Value) (w : World), Sem.run Tryd.prog (callFunc fn args) w = .ok (.enter fn args) w) (G R F : Value) (A : Option Addr) (c : Nat) (ch : List Int) (l : Int) (a b : List (List Int)) (Aa Ab : Option Addr) (ca cb : Nat) (ha hb : List Hdr) (w : World)
    (hR : Rd Enc.u64 w A ch) (hn : ch.length ≤ 2000000) (ra : RdRows Enc.i64 w Aa a ha) (rb : RdRows Enc.i64 w Ab b hb) (la : a.length ≤ 2000000) (lb : b.length ≤ 2000000) (sa : ∀ r ∈ a, r.length ≤ 2000000) (sb : ∀ r ∈ b, r.length ≤ 2000000) :
    Calls Tryd.prog 11 #[MV G R F A c ch, .int .u64 l, .slice Aa a.length ca, .slice Ab b.length cb, .func (.func fn) #[] #[]] w fun e w' => e = .returned (.bool (allB hf ch l a b)) ∧ Mem w w' [] := by
  have HR := hid hR
  have RA := hid ra
  have RB := hid rb
  have SA := hid sa
  have SB := hid sb
  have HH := hid hH
  have HF := hid hcf
  have FW := hid (fun (w' : World) (hR' : Rd Enc.u64 w' A ch) => within_calls G R F A c ch l w' hR' hn)
  clear hR ra rb sa sb hH hcf
  have H0 := Mem.refl w
  simp only [MV] at *
  go_enter Tryd.func11, Tryd.ntmps11
  by_cases h1 : a.length = ch.length
  · by_cases h2 : b.length = ch.length
    · have k1 : ((a.length : Int) == (ch.length : Int)) = true := by simp [h1]
      have k2 : ((b.length : Int) == (ch.length : Int)) = true := by simp [h2]
      have k3 : ((a.length : Int) != (ch.length : Int)) = false := by simp [h1]
      have k4 : ((b.length : Int) != (ch.length : Int)) = false := by simp [h2]
      have K1 := hid h1
      have K2 := hid h2
      clear h1 h2
      go_wp2_with (first
        | ((with_reducible refine at_box ?_); refine wpList_box_box H0 ?_; intro u_ gH1 wH1 hu_ H1; simp only [Act.eval, Act.put, List.setIfInBounds_toArray, List.set_cons_zero, List.set_cons_succ, Array.getD_eq_getD_getElem?, List.getElem?_toArray, List.getElem?_cons_zero, List.getElem?_cons_succ, Option.getD_some] at hu_; subst hu_; simp only [splice, vcells_int, vcells_bool, vcells_string, vcells_pointer, vcells_slice, vcells_map, vcells_func, vcells_nilFunc, vcells_iface, vcells_nilIface, vcells_agg, List.take_zero, List.take_succ_cons, List.drop_zero, List.drop_succ_cons, List.length_cons, List.length_nil, List.nil_append, List.cons_append, List.append_nil, Nat.zero_add, List.set_cons_zero, List.set_cons_succ] at H1)
        | ((with_reducible refine at_box ?_); refine wpList_box_box H1 ?_; intro u_ gH2 wH2 hu_ H2; simp only [Act.eval, Act.put, List.setIfInBounds_toArray, List.set_cons_zero, List.set_cons_succ, Array.getD_eq_getD_getElem?, List.getElem?_toArray, List.getElem?_cons_zero, List.getElem?_cons_succ, Option.getD_some] at hu_; subst hu_; simp only [splice, vcells_int, vcells_bool, vcells_string, vcells_pointer, vcells_slice, vcells_map, vcells_func, vcells_nilFunc, vcells_iface, vcells_nilIface, vcells_agg, List.take_zero, List.take_succ_cons, List.drop_zero, List.drop_succ_cons, List.length_cons, List.length_nil, List.nil_append, List.cons_append, List.append_nil, Nat.zero_add, List.set_cons_zero, List.set_cons_succ] at H2)
        | ((with_reducible refine at_box ?_); refine wpList_box_box H2 ?_; intro u_ gH3 wH3 hu_ H3; simp only [Act.eval, Act.put, List.setIfInBounds_toArray, List.set_cons_zero, List.set_cons_succ, Array.getD_eq_getD_getElem?, List.getElem?_toArray, List.getElem?_cons_zero, List.getElem?_cons_succ, Option.getD_some] at hu_; subst hu_; simp only [splice, vcells_int, vcells_bool, vcells_string, vcells_pointer, vcells_slice, vcells_map, vcells_func, vcells_nilFunc, vcells_iface, vcells_nilIface, vcells_agg, List.take_zero, List.take_succ_cons, List.drop_zero, List.drop_succ_cons, List.length_cons, List.length_nil, List.nil_append, List.cons_append, List.append_nil, Nat.zero_add, List.set_cons_zero, List.set_cons_succ] at H3)
        | ((with_reducible refine at_box ?_); refine wpList_box_box H3 ?_; intro u_ gH4 wH4 hu_ H4; simp only [Act.eval, Act.put, List.setIfInBounds_toArray, List.set_cons_zero, List.set_cons_succ, Array.getD_eq_getD_getElem?, List.getElem?_toArray, List.getElem?_cons_zero, List.getElem?_cons_succ, Option.getD_some] at hu_; subst hu_; simp only [splice, vcells_int, vcells_bool, vcells_string, vcells_pointer, vcells_slice, vcells_map, vcells_func, vcells_nilFunc, vcells_iface, vcells_nilIface, vcells_agg, List.take_zero, List.take_succ_cons, List.drop_zero, List.drop_succ_cons, List.length_cons, List.length_nil, List.nil_append, List.cons_append, List.append_nil, Nat.zero_add, List.set_cons_zero, List.set_cons_succ] at H4; (try clear b9); have b9 := H4.cells 0 rfl; simp only [cellsAre, and_true, Nat.zero_add] at b9; (try clear b8); have b8 := H4.cells 1 rfl; simp only [cellsAre, and_true, Nat.zero_add] at b8; (try clear b7); have b7 := H4.cells 2 rfl; simp only [cellsAre, and_true, Nat.zero_add] at b7; (try clear b5); have b5 := H4.cells 3 rfl; simp only [cellsAre, and_true, Nat.zero_add] at b5)
        | ((go_at_call 7; (with_reducible refine (FW.out _ (Rd.below HR.out H4.below)).mono ?_); rintro e w5 ⟨A5, rfl, H5'⟩; have H5 := H4.call H5'; simp only [List.cons_append, List.nil_append] at H5; clear b9 b8 b7 b5); have hE : Env2 w5 fn hf a b gH4 gH2 gH3 Aa Ab ca cb ha hb := ⟨HH.out, HF.out, (H5.box_cell 1 rfl).1 0, (H5.box_cell 3 rfl).1 0, (H5.box_cell 2 rfl).1 0, RA.out.below H5.below, RB.out.below H5.below, la, lb, SA.out, SB.out⟩)
        | (go_at_call 24; (with_reducible refine (containsFunc_calls fn hf a b gH4 gH2 gH3 Aa Ab ca cb ha hb (withL ch l ch.length) A5 _ _ hE (H5.own_rd 0 rfl (by decide)).1 (fun k hk => by have := (mem_withL.1 hk).1; rw [K1.out, K2.out]; exact ⟨this, this⟩) (Nat.le_trans (withL_len ch l _) hn)).mono ?_); rintro e w6 ⟨rfl, H6'⟩; have H6 := H5.call H6'; simp only [List.nil_append] at H6))
      go_ret
      refine ⟨?_, H6.none⟩
      unfold allB
      rw [decide_eq_true K1.out, decide_eq_true K2.out, List.all_eq_not_any_not]
      simp
    · have k1 : ((a.length : Int) == (ch.length : Int)) = true := by simp [h1]
      have k2 : ((b.length : Int) == (ch.length : Int)) = false := by simp <;> omega
      have k3 : ((a.length : Int) != (ch.length : Int)) = false := by simp [h1]
      have k4 : ((b.length : Int) != (ch.length : Int)) = true := by simp <;> omega
      have K2 := hid h2
      clear h1 h2
      go_wp2_with (first
        | ((with_reducible refine at_box ?_); refine wpList_box_box H0 ?_; intro u_ gH1 wH1 hu_ H1; simp only [Act.eval, Act.put, List.setIfInBounds_toArray, List.set_cons_zero, List.set_cons_succ, Array.getD_eq_getD_getElem?, List.getElem?_toArray, List.getElem?_cons_zero, List.getElem?_cons_succ, Option.getD_some] at hu_; subst hu_; simp only [splice, vcells_int, vcells_bool, vcells_string, vcells_pointer, vcells_slice, vcells_map, vcells_func, vcells_nilFunc, vcells_iface, vcells_nilIface, vcells_agg, List.take_zero, List.take_succ_cons, List.drop_zero, List.drop_succ_cons, List.length_cons, List.length_nil, List.nil_append, List.cons_append, List.append_nil, Nat.zero_add, List.set_cons_zero, List.set_cons_succ] at H1)
        | ((with_reducible refine at_box ?_); refine wpList_box_box H1 ?_; intro u_ gH2 wH2 hu_ H2; simp only [Act.eval, Act.put, List.setIfInBounds_toArray, List.set_cons_zero, List.set_cons_succ, Array.getD_eq_getD_getElem?, List.getElem?_toArray, List.getElem?_cons_zero, List.getElem?_cons_succ, Option.getD_some] at hu_; subst hu_; simp only [splice, vcells_int, vcells_bool, vcells_string, vcells_pointer, vcells_slice, vcells_map, vcells_func, vcells_nilFunc, vcells_iface, vcells_nilIface, vcells_agg, List.take_zero, List.take_succ_cons, List.drop_zero, List.drop_succ_cons, List.length_cons, List.length_nil, List.nil_append, List.cons_append, List.append_nil, Nat.zero_add, List.set_cons_zero, List.set_cons_succ] at H2)
        | ((with_reducible refine at_box ?_); refine wpList_box_box H2 ?_; intro u_ gH3 wH3 hu_ H3; simp only [Act.eval, Act.put, List.setIfInBounds_toArray, List.set_cons_zero, List.set_cons_succ, Array.getD_eq_getD_getElem?, List.getElem?_toArray, List.getElem?_cons_zero, List.getElem?_cons_succ, Option.getD_some] at hu_; subst hu_; simp only [splice, vcells_int, vcells_bool, vcells_string, vcells_pointer, vcells_slice, vcells_map, vcells_func, vcells_nilFunc, vcells_iface, vcells_nilIface, vcells_agg, List.take_zero, List.take_succ_cons, List.drop_zero, List.drop_succ_cons, List.length_cons, List.length_nil, List.nil_append, List.cons_append, List.append_nil, Nat.zero_add, List.set_cons_zero, List.set_cons_succ] at H3)
        | ((with_reducible refine at_box ?_); refine wpList_box_box H3 ?_; intro u_ gH4 wH4 hu_ H4; simp only [Act.eval, Act.put, List.setIfInBounds_toArray, List.set_cons_zero, List.set_cons_succ, Array.getD_eq_getD_getElem?, List.getElem?_toArray, List.getElem?_cons_zero, List.getElem?_cons_succ, Option.getD_some] at hu_; subst hu_; simp only [splice, vcells_int, vcells_bool, vcells_string, vcells_pointer, vcells_slice, vcells_map, vcells_func, vcells_nilFunc, vcells_iface, vcells_nilIface, vcells_agg, List.take_zero, List.take_succ_cons, List.drop_zero, List.drop_succ_cons, List.length_cons, List.length_nil, List.nil_append, List.cons_append, List.append_nil, Nat.zero_add, List.set_cons_zero, List.set_cons_succ] at H4; (try clear b9); have b9 := H4.cells 0 rfl; simp only [cellsAre, and_true, Nat.zero_add] at b9; (try clear b8); have b8 := H4.cells 1 rfl; simp only [cellsAre, and_true, Nat.zero_add] at b8; (try clear b7); have b7 := H4.cells 2 rfl; simp only [cellsAre, and_true, Nat.zero_add] at b7; (try clear b5); have b5 := H4.cells 3 rfl; simp only [cellsAre, and_true, Nat.zero_add] at b5))
      go_ret
      exact ⟨by unfold allB; rw [decide_eq_false K2.out, Bool.and_false, Bool.false_and]; rfl, H4.none⟩
  · have k1 : ((a.length : Int) == (ch.length : Int)) = false := by simp <;> omega
    have k3 : ((a.length : Int) != (ch.length : Int)) = true := by simp <;> omega
    have K2 := hid h1
    clear h1
    go_wp2_with (first
      | ((with_reducible refine at_box ?_); refine wpList_box_box H0 ?_; intro u_ gH1 wH1 hu_ H1; simp only [Act.eval, Act.put, List.setIfInBounds_toArray, List.set_cons_zero, List.set_cons_succ, Array.getD_eq_getD_getElem?, List.getElem?_toArray, List.getElem?_cons_zero, List.getElem?_cons_succ, Option.getD_some] at hu_; subst hu_; simp only [splice, vcells_int, vcells_bool, vcells_string, vcells_pointer, vcells_slice, vcells_map, vcells_func, vcells_nilFunc, vcells_iface, vcells_nilIface, vcells_agg, List.take_zero, List.take_succ_cons, List.drop_zero, List.drop_succ_cons, List.length_cons, List.length_nil, List.nil_append, List.cons_append, List.append_nil, Nat.zero_add, List.set_cons_zero, List.set_cons_succ] at H1)
      | ((with_reducible refine at_box ?_); refine wpList_box_box H1 ?_; intro u_ gH2 wH2 hu_ H2; simp only [Act.eval, Act.put, List.setIfInBounds_toArray, List.set_cons_zero, List.set_cons_succ, Array.getD_eq_getD_getElem?, List.getElem?_toArray, List.getElem?_cons_zero, List.getElem?_cons_succ, Option.getD_some] at hu_; subst hu_; simp only [splice, vcells_int, vcells_bool, vcells_string, vcells_pointer, vcells_slice, vcells_map, vcells_func, vcells_nilFunc, vcells_iface, vcells_nilIface, vcells_agg, List.take_zero, List.take_succ_cons, List.drop_zero, List.drop_succ_cons, List.length_cons, List.length_nil, List.nil_append, List.cons_append, List.append_nil, Nat.zero_add, List.set_cons_zero, List.set_cons_succ] at H2)
      | ((with_reducible refine at_box ?_); refine wpList_box_box H2 ?_; intro u_ gH3 wH3 hu_ H3; simp only [Act.eval, Act.put, List.setIfInBounds_toArray, List.set_cons_zero, List.set_cons_succ, Array.getD_eq_getD_getElem?, List.getElem?_toArray, List.getElem?_cons_zero, List.getElem?_cons_succ, Option.getD_some] at hu_; subst hu_; simp only [splice, vcells_int, vcells_bool, vcells_string, vcells_pointer, vcells_slice, vcells_map, vcells_func, vcells_nilFunc, vcells_iface, vcells_nilIface, vcells_agg, List.take_zero, List.take_succ_cons, List.drop_zero, List.drop_succ_cons, List.length_cons, List.length_nil, List.nil_append, List.cons_append, List.append_nil, Nat.zero_add, List.set_cons_zero, List.set_cons_succ] at H3)
      | ((with_reducible refine at_box ?_); refine wpList_box_box H3 ?_; intro u_ gH4 wH4 hu_ H4; simp only [Act.eval, Act.put, List.setIfInBounds_toArray, List.set_cons_zero, List.set_cons_succ, Array.getD_eq_getD_getElem?, List.getElem?_toArray, List.getElem?_cons_zero, List.getElem?_cons_succ, Option.getD_some] at hu_; subst hu_; simp only [splice, vcells_int, vcells_bool, vcells_string, vcells_pointer, vcells_slice, vcells_map, vcells_func, vcells_nilFunc, vcells_iface, vcells_nilIface, vcells_agg, List.take_zero, List.take_succ_cons, List.drop_zero, List.drop_succ_cons, List.length_cons, List.length_nil, List.nil_append, List.cons_append, List.append_nil, Nat.zero_add, List.set_cons_zero, List.set_cons_succ] at H4; (try clear b9); have b9 := H4.cells 0 rfl; simp only [cellsAre, and_true, Nat.zero_add] at b9; (try clear b8); have b8 := H4.cells 1 rfl; simp only [cellsAre, and_true, Nat.zero_add] at b8; (try clear b7); have b7 := H4.cells 2 rfl; simp only [cellsAre, and_true, Nat.zero_add] at b7; (try clear b5); have b5 := H4.cells 3 rfl; simp only [cellsAre, and_true, Nat.zero_add] at b5))
    go_ret
    exact ⟨by unfold allB; rw [decide_eq_false K2.out, Bool.false_and, Bool.false_and]; rfl, H4.none⟩
set_option maxRecDepth 100000 in
theorem alike_calls (G R F : Value) (A : Option Addr) (c : Nat) (ch : List Int) (l : Int) (a b : List (List Int)) (Aa Ab : Option Addr) (ca cb : Nat) (ha hb : List Hdr) (w : World)
    (hR : Rd Enc.u64 w A ch) (hn : ch.length ≤ 2000000) (ra : RdRows Enc.i64 w Aa a ha) (rb : RdRows Enc.i64 w Ab b hb) (la : a.length ≤ 2000000) (lb : b.length ≤ 2000000) (sa : ∀ r ∈ a, r.length ≤ 2000000) (sb : ∀ r ∈ b, r.length ≤ 2000000) :
    Calls Tryd.prog 4 #[MV G R F A c ch, .int .u64 l, .slice Aa a.length ca, .slice Ab b.length cb] w fun e w' => e = .returned (.bool (allB alikeF ch l a b)) ∧ Mem w w' [] := by
  have HC := hid (fun w' (hb' : Below w.heap.size w w') => all_calls _ _ alike1_holds (fun _ _ => rfl) G R F A c ch l a b Aa Ab ca cb ha hb w' (Rd.below hR hb') hn (ra.below hb') (rb.below hb') la lb sa sb)
  clear hR ra rb sa sb
  have H0 := Mem.refl w
  simp only [MV] at *
  go_enter Tryd.func4, Tryd.ntmps4
  go_wp2_with (first
    | ((with_reducible refine at_box ?_); refine wpList_box_box H0 ?_; intro u_ gH1 wH1 hu_ H1; simp only [Act.eval, Act.put, List.setIfInBounds_toArray, List.set_cons_zero, List.set_cons_succ, Array.getD_eq_getD_getElem?, List.getElem?_toArray, List.getElem?_cons_zero, List.getElem?_cons_succ, Option.getD_some] at hu_; subst hu_; simp only [splice, vcells_int, vcells_bool, vcells_string, vcells_pointer, vcells_slice, vcells_map, vcells_func, vcells_nilFunc, vcells_iface, vcells_nilIface, vcells_agg, List.take_zero, List.take_succ_cons, List.drop_zero, List.drop_succ_cons, List.length_cons, List.length_nil, List.nil_append, List.cons_append, List.append_nil, Nat.zero_add, List.set_cons_zero, List.set_cons_succ] at H1; (try clear b0); have b0 := H1.cells 0 rfl; simp only [cellsAre, and_true, Nat.zero_add] at b0)
    | (go_at_call 11; (with_reducible refine (HC.out _ H1.below).mono ?_); rintro e w2 ⟨rfl, H2'⟩; have H2 := H1.call H2'))
  go_ret
  exact ⟨rfl, H2.none⟩
set_option maxRecDepth 100000 in
theorem same_calls (G R F : Value) (A : Option Addr) (c : Nat) (ch : List Int) (l : Int) (a b : List (List Int)) (Aa Ab : Option Addr) (ca cb : Nat) (ha hb : List Hdr) (w : World)
    (hR : Rd Enc.u64 w A ch) (hn : ch.length ≤ 2000000) (ra : RdRows Enc.i64 w Aa a ha) (rb : RdRows Enc.i64 w Ab b hb) (la : a.length ≤ 2000000) (lb : b.length ≤ 2000000) (sa : ∀ r ∈ a, r.length ≤ 2000000) (sb : ∀ r ∈ b, r.length ≤ 2000000) :
    Calls Tryd.prog 5 #[MV G R F A c ch, .int .u64 l, .slice Aa a.length ca, .slice Ab b.length cb] w fun e w' => e = .returned (.bool (allB sameF ch l a b)) ∧ Mem w w' [] := by
  have HC := hid (fun w' (hb' : Below w.heap.size w w') => all_calls _ _ same1_holds (fun _ _ => rfl) G R F A c ch l a b Aa Ab ca cb ha hb w' (Rd.below hR hb') hn (ra.below hb') (rb.below hb') la lb sa sb)
  clear hR ra rb sa sb
  have H0 := Mem.refl w
  simp only [MV] at *
  go_enter Tryd.func5, Tryd.ntmps5
  go_wp2_with (first
    | ((with_reducible refine at_box ?_); refine wpList_box_box H0 ?_; intro u_ gH1 wH1 hu_ H1; simp only [Act.eval, Act.put, List.setIfInBounds_toArray, List.set_cons_zero, List.set_cons_succ, Array.getD_eq_getD_getElem?, List.getElem?_toArray, List.getElem?_cons_zero, List.getElem?_cons_succ, Option.getD_some] at hu_; subst hu_; simp only [splice, vcells_int, vcells_bool, vcells_string, vcells_pointer, vcells_slice, vcells_map, vcells_func, vcells_nilFunc, vcells_iface, vcells_nilIface, vcells_agg, List.take_zero, List.take_succ_cons, List.drop_zero, List.drop_succ_cons, List.length_cons, List.length_nil, List.nil_append, List.cons_append, List.append_nil, Nat.zero_add, List.set_cons_zero, List.set_cons_succ] at H1; (try clear b0); have b0 := H1.cells 0 rfl; simp only [cellsAre, and_true, Nat.zero_add] at b0)
    | (go_at_call 11; (with_reducible refine (HC.out _ H1.below).mono ?_); rintro e w2 ⟨rfl, H2'⟩; have H2 := H1.call H2'))
  go_ret
  exact ⟨rfl, H2.none⟩
end Go.Proofs.YtjgaacpiflmljaaDoor
