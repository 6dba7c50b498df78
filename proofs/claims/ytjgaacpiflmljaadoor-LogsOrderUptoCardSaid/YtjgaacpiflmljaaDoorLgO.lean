/- louverlaw23.LogsOrder: the walk. -/
import Derived.Test.YtjgaacpiflmljaaDoorLgM
import Derived.Deep.CutBlock
import Derived.Deep.LoopGhost
namespace Go.Proofs.YtjgaacpiflmljaaDoor
open Go.RowKit
set_option linter.unusedVariables false
set_option linter.unusedSimpArgs false
set_option maxHeartbeats 4000000
theorem getD_le {a : List (List Int)} (h : ∀ r ∈ a, r.length ≤ 2000000) (k : Nat) : (a.getD k []).length ≤ 2000000 := by
  rw [List.getD_eq_getElem?_getD]
  cases hk : a[k]? with
  | none => simp
  | some x => exact h x (List.mem_of_getElem? hk)
theorem fillT_le {n : Nat} {f : Nat → List Int} {d : Nat → Bool} (h : ∀ k, (f k).length ≤ 2000000) : ∀ r ∈ fillT n f d, r.length ≤ 2000000 := by
  intro r hr
  unfold fillT at hr
  obtain ⟨k, -, rfl⟩ := List.mem_map.1 hr
  by_cases hd : d k = true
  · rw [if_pos hd]; exact h k
  · rw [if_neg hd]; simp
set_option maxRecDepth 100000 in
theorem logsOrder_calls (G R F : Value) (A : Option Addr) (c : Nat) (ch : List Int) (l s : Int) (a b : List (List Int)) (Aa Ab : Option Addr) (ca cb : Nat) (ha hb : List Hdr) (w : World)
    (hR : Rd Enc.u64 w A ch) (hn : ch.length ≤ 2000000) (ra : RdRows Enc.i64 w Aa a ha) (rb : RdRows Enc.i64 w Ab b hb) (la : a.length ≤ 2000000) (lb : b.length ≤ 2000000) (sa : ∀ r ∈ a, r.length ≤ 2000000) (sb : ∀ r ∈ b, r.length ≤ 2000000)
    (hA : ∀ w', Below w.heap.size w w' → Calls Tryd.prog 6 #[] w' fun e w'' => e = .returned (.bool true) ∧ Mem w' w'' []) :
    Calls Tryd.prog 3 #[MV G R F A c ch, .int .u64 l, .int .u64 s, .slice Aa a.length ca, .slice Ab b.length cb] w fun e w' => e = .returned (.bool true) ∧ Mem w w' [] := by
  have HR := hid hR
  have RA := hid ra
  have RB := hid rb
  have SA := hid sa
  have SB := hid sb
  have HA := hid hA
  have FL : Hd (∀ (w' : World) (l' : Int), Below w.heap.size w w' → Calls Tryd.prog 4 #[MV G R F A c ch, .int .u64 l', .slice Aa a.length ca, .slice Ab b.length cb] w' fun e w'' => e = .returned (.bool (allB alikeF ch l' a b)) ∧ Mem w' w'' []) := ⟨fun w' l' h => alike_calls G R F A c ch l' a b Aa Ab ca cb ha hb w' (Rd.below hR h) hn (ra.below h) (rb.below h) la lb sa sb⟩
  have FS : Hd (∀ (w' : World), Below w.heap.size w w' → Calls Tryd.prog 5 #[MV G R F A c ch, .int .u64 l, .slice Aa a.length ca, .slice Ab b.length cb] w' fun e w'' => e = .returned (.bool (allB sameF ch l a b)) ∧ Mem w' w'' []) := ⟨fun w' h => same_calls G R F A c ch l a b Aa Ab ca cb ha hb w' (Rd.below hR h) hn (ra.below h) (rb.below h) la lb sa sb⟩
  have FAA : Hd (∀ (w' : World), Below w.heap.size w w' → Calls Tryd.prog 4 #[MV G R F A c ch, .int .u64 l, .slice Aa a.length ca, .slice Aa a.length ca] w' fun e w'' => e = .returned (.bool (allB alikeF ch l a a)) ∧ Mem w' w'' []) := ⟨fun w' h => alike_calls G R F A c ch l a a Aa Aa ca ca ha ha w' (Rd.below hR h) hn (ra.below h) (ra.below h) la la sa sa⟩
  have FBB : Hd (∀ (w' : World), Below w.heap.size w w' → Calls Tryd.prog 5 #[MV G R F A c ch, .int .u64 l, .slice Ab b.length cb, .slice Ab b.length cb] w' fun e w'' => e = .returned (.bool (allB sameF ch l b b)) ∧ Mem w' w'' []) := ⟨fun w' h => same_calls G R F A c ch l b b Ab Ab cb cb hb hb w' (Rd.below hR h) hn (rb.below h) (rb.below h) lb lb sb sb⟩
  have FBA : Hd (∀ (w' : World), Below w.heap.size w w' → Calls Tryd.prog 4 #[MV G R F A c ch, .int .u64 l, .slice Ab b.length cb, .slice Aa a.length ca] w' fun e w'' => e = .returned (.bool (allB alikeF ch l b a)) ∧ Mem w' w'' []) := ⟨fun w' h => alike_calls G R F A c ch l b a Ab Aa cb ca hb ha w' (Rd.below hR h) hn (rb.below h) (ra.below h) lb la sb sa⟩
  have FW : Hd (∀ (w' : World), Below w.heap.size w w' → Calls Tryd.prog 7 #[MV G R F A c ch, .int .u64 l] w' (IntsRes 3 w' (ints (withL ch l ch.length)))) := ⟨fun w' h => within_calls G R F A c ch l w' (Rd.below hR h) hn⟩
  clear hR ra rb sa sb hA
  have H0 := Mem.refl w
  simp only [MV] at *
  go_enter Tryd.func3, Tryd.ntmps3
  by_cases h1 : a.length = ch.length
  · by_cases h2 : b.length = ch.length
    · obtain ⟨n, hnn⟩ : ∃ n, n = ch.length := ⟨_, rfl⟩
      have LA : Hd (a.length = n) := ⟨by rw [h1, hnn]⟩
      have LB : Hd (b.length = n) := ⟨by rw [h2, hnn]⟩
      have LC : Hd (ch.length = n) := ⟨hnn.symm⟩
      have h1i : (a.length : Int) = (n : Int) := by rw [h1, hnn]
      have h2i : (b.length : Int) = (n : Int) := by rw [h2, hnn]
      have hci : (ch.length : Int) = (n : Int) := by rw [hnn]
      have k1 : ((a.length : Int) == (ch.length : Int)) = true := by simp [h1]
      have k2 : ((b.length : Int) == (ch.length : Int)) = true := by simp [h2]
      have k3 : ((a.length : Int) != (ch.length : Int)) = false := by simp [h1]
      have k4 : ((b.length : Int) != (ch.length : Int)) = false := by simp [h2]
      have E1 := hid (allB_self (l := l) h1 alikeF_self)
      have E2 := hid (allB_self (l := l) h2 (hf := sameF) (fun x => by simp [sameF]))
      have E3 := hid (allB_comm (l := l) h1 h2)
      obtain ⟨d, hd⟩ : ∃ d, d = allB alikeF ch l a b := ⟨_, rfl⟩
      obtain ⟨sm, hsm⟩ : ∃ sm, sm = allB sameF ch l a b := ⟨_, rfl⟩
      have HD := hid hd
      have HSM := hid hsm
      obtain ⟨cf, hcf⟩ : ∃ cf : Nat → List Int, cf = fun k => (a.getD k []).take (cmn (a.getD k []) (b.getD k [])) := ⟨_, rfl⟩
      have HCF : Hd (∀ (k : Nat) (x y : List Int), a[k]? = some x → b[k]? = some y → cf k = x.take (cmn x y)) := ⟨fun k x y h1 h2 => by rw [hcf]; show (a.getD k []).take (cmn (a.getD k []) (b.getD k [])) = _; rw [List.getD_eq_getElem?_getD, List.getD_eq_getElem?_getD, h1, h2]; rfl⟩
      have FC : Hd (∀ (w' : World), Below w.heap.size w w' → Calls Tryd.prog 8 #[.slice Aa a.length ca, .slice Ab b.length cb] w' (Tab2 n (fillT n cf (fun _ => true)) w')) := ⟨fun w' h => common8_calls a b ha hb Aa Ab ca cb n w' (RA.out.below h) (RB.out.below h) LA.out LB.out (by omega) SA.out SB.out cf HCF.out⟩
      have FSN : Hd (∀ (w' : World), Below w.heap.size w w' → Calls Tryd.prog 10 #[.agg #[G, R, .slice A ch.length c, F], .int .u64 l, .slice Aa a.length ca] w' (Tab2 n (fillT n (fun k => a.getD k []) (fun k => (withL ch l n).contains k)) w')) := ⟨fun w' h => seen_calls G R F A c ch l a Aa ca n ha w' (Rd.below HR.out h) LC.out (RA.out.below h) LA.out (by omega) SA.out _ (fun k x h1 => by show a.getD k [] = x; rw [List.getD_eq_getElem?_getD, h1]; rfl)⟩
      have k5 : ((n : Int) != (a.length : Int)) = false := by simp [h1, hnn]
      have k6 : ((n : Int) == (a.length : Int)) = true := by simp [h1, hnn]
      clear h1 h2 hnn hd hsm h1i h2i hci hcf
      go_upto_region 5 with (first
        | ((with_reducible refine at_box ?_); refine wpList_box_box H0 ?_; intro u_ gH1 wH1 hu_ H1; simp only [Act.eval, Act.put, List.setIfInBounds_toArray, List.set_cons_zero, List.set_cons_succ, Array.getD_eq_getD_getElem?, List.getElem?_toArray, List.getElem?_cons_zero, List.getElem?_cons_succ, Option.getD_some] at hu_; subst hu_; simp only [splice, vcells_int, vcells_bool, vcells_string, vcells_pointer, vcells_slice, vcells_map, vcells_func, vcells_nilFunc, vcells_iface, vcells_nilIface, vcells_agg, List.take_zero, List.take_succ_cons, List.drop_zero, List.drop_succ_cons, List.length_cons, List.length_nil, List.nil_append, List.cons_append, List.append_nil, Nat.zero_add, List.set_cons_zero, List.set_cons_succ] at H1; (try clear b0); have b0 := H1.cells 0 rfl; simp only [cellsAre, and_true, Nat.zero_add] at b0)
        | ((go_at_call 4; (with_reducible refine (FL.out _ l H1.below).mono ?_); rintro e w2 ⟨rfl, H2'⟩; rw [← HD.out]; have H2 := H1.call H2'; simp only [List.nil_append] at H2; clear H2'; (try clear b0)); (try clear b0); have b0 := H2.cells 0 rfl; simp only [cellsAre, and_true, Nat.zero_add] at b0)
        | ((go_at_call 5; (with_reducible refine (FS.out _ H2.below).mono ?_); rintro e w3 ⟨rfl, H3'⟩; rw [← HSM.out]; have H3 := H2.call H3'; simp only [List.nil_append] at H3; clear H3'; (try clear b0)); (try clear b0); have b0 := H3.cells 0 rfl; simp only [cellsAre, and_true, Nat.zero_add] at b0)
        | ((go_at_call 6; (with_reducible refine (HA.out _ H3.below).mono ?_); rintro e w4 ⟨rfl, H4'⟩; have H4 := H3.call H4'; simp only [List.nil_append] at H4; clear H4'; (try clear b0)); (try clear b0); have b0 := H4.cells 0 rfl; simp only [cellsAre, and_true, Nat.zero_add] at b0))
      go_cut [91] from 56 to 90 (fun v91 wc => v91 = .bool false ∧ Mem w wc [box gH1 26 #[G, R, .slice A ch.length c, F]])
      case first =>
        cases d with
        | true =>
          have E4 := hid (allB_less (s := s) HD.out.symm)
          have g1 : (true == true) = true := rfl
          go_wp2_with (first
            | ((go_at_call 4; (with_reducible refine (FAA.out _ H4.below).mono ?_); rintro e w5 ⟨rfl, H5'⟩; rw [E1.out]; have H5 := H4.call H5'; simp only [List.nil_append] at H5; clear H5'; (try clear b0)); (try clear b0); have b0 := H5.cells 0 rfl; simp only [cellsAre, and_true, Nat.zero_add] at b0)
            | ((go_at_call 5; (with_reducible refine (FBB.out _ H5.below).mono ?_); rintro e w6 ⟨rfl, H6'⟩; rw [E2.out]; have H6 := H5.call H6'; simp only [List.nil_append] at H6; clear H6'; (try clear b0)); (try clear b0); have b0 := H6.cells 0 rfl; simp only [cellsAre, and_true, Nat.zero_add] at b0)
            | ((go_at_call 4; (with_reducible refine (FBA.out _ H6.below).mono ?_); rintro e w7 ⟨rfl, H7'⟩; rw [E3.out, ← HD.out]; have H7 := H6.call H7'; simp only [List.nil_append] at H7; clear H7'; (try clear b0)); (try clear b0); have b0 := H7.cells 0 rfl; simp only [cellsAre, and_true, Nat.zero_add] at b0)
            | ((go_at_call 4; (with_reducible refine (FL.out _ (bits .and .u64 l s) H7.below).mono ?_); rintro e w8 ⟨rfl, H8'⟩; rw [E4.out]; have H8 := H7.call H8'; simp only [List.nil_append] at H8; clear H8'; (try clear b0)); (try clear b0); have b0 := H8.cells 0 rfl; simp only [cellsAre, and_true, Nat.zero_add] at b0))
          go_meet
          exact ⟨rfl, H8⟩
        | false =>
          go_wp2_with (first
            | ((go_at_call 4; (with_reducible refine (FAA.out _ H4.below).mono ?_); rintro e w5 ⟨rfl, H5'⟩; rw [E1.out]; have H5 := H4.call H5'; simp only [List.nil_append] at H5; clear H5'; (try clear b0)); (try clear b0); have b0 := H5.cells 0 rfl; simp only [cellsAre, and_true, Nat.zero_add] at b0)
            | ((go_at_call 5; (with_reducible refine (FBB.out _ H5.below).mono ?_); rintro e w6 ⟨rfl, H6'⟩; rw [E2.out]; have H6 := H5.call H6'; simp only [List.nil_append] at H6; clear H6'; (try clear b0)); (try clear b0); have b0 := H6.cells 0 rfl; simp only [cellsAre, and_true, Nat.zero_add] at b0)
            | ((go_at_call 4; (with_reducible refine (FBA.out _ H6.below).mono ?_); rintro e w7 ⟨rfl, H7'⟩; rw [E3.out, ← HD.out]; have H7 := H6.call H7'; simp only [List.nil_append] at H7; clear H7'; (try clear b0)); (try clear b0); have b0 := H7.cells 0 rfl; simp only [cellsAre, and_true, Nat.zero_add] at b0))
          go_meet
          exact ⟨rfl, H7⟩
      case rest =>
      obtain ⟨rfl, H5⟩ := hcut
      clear H1 H2 H3 H4 b0
      (try clear b0); have b0 := H5.cells 0 rfl; simp only [cellsAre, and_true, Nat.zero_add] at b0
      go_wp2_with (first
        | (go_at_call 7; (with_reducible refine (FW.out _ H5.below).mono ?_); rintro e w6 ⟨A5, rfl, H6'⟩; have H6 := H5.call H6'; simp only [List.cons_append, List.nil_append] at H6; clear H6'))
      obtain ⟨ws, hws⟩ : ∃ ws, ws = withL ch l ch.length := ⟨_, rfl⟩
      rw [← hws] at H6 ⊢
      have hwl : ∀ k ∈ ws, k < n := fun k hk => by rw [hws] at hk; have := (mem_withL.1 hk).1; rw [LC.out] at this; exact this
      have hwz : ws.length ≤ 2000000 := by rw [hws]; exact Nat.le_trans (withL_len ch l _) hn
      have HWS := hid hws
      have HWL := hid hwl
      have hil : (ints ws).length = ws.length := by simp [ints]
      have HIL := hid hil
      have hil2 : (ints ws).length ≤ 2000000 := by rw [hil]; exact hwz
      clear hws hwl hil H0 H5 b0
      go_loopw [13, 15] (fun v13 v15 wr => ∃ (B : Bool) (i : Nat), v13 = .bool B ∧ v15 = .int .i64 i ∧ i ≤ (ints ws).length ∧ Hd (B = longB a b (ws.take i)) ∧ Mem w wr [own Enc.i64 3 A5 (ints ws).length (ints ws), box gH1 26 #[G, R, .slice A ch.length c, F]]) (fun _ v _ => (ints ws).length - (intOf v).toNat)
      case atStart => exact ⟨true, 0, rfl, rfl, Nat.zero_le _, ⟨rfl⟩, H6⟩
      case round =>
        clear H6
        obtain ⟨B, i, rfl, rfl, hi, HB, H2⟩ := hrel
        obtain ⟨wo, rfl⟩ : ∃ wo : World, wo = wr := ⟨_, rfl⟩
        by_cases hlt : i < (ints ws).length
        · obtain ⟨k, hk⟩ : ∃ k, ws[i]? = some k := ⟨_, List.getElem?_eq_getElem (by rw [HIL.out] at hlt; exact hlt)⟩
          have hkn := HWL.out k (List.mem_of_getElem? hk)
          obtain ⟨b5, o5, rfl, e5⟩ := (H2.own_rd 0 rfl (by decide)).1.get1 (k := i) (x := (k : Int)) rfl (by unfold ints; rw [List.getElem?_map, hk]; rfl) rfl
          obtain ⟨x, hx⟩ : ∃ x, a[k]? = some x := ⟨_, List.getElem?_eq_getElem (by rw [LA.out]; exact hkn)⟩
          obtain ⟨y, hy⟩ : ∃ y, b[k]? = some y := ⟨_, List.getElem?_eq_getElem (by rw [LB.out]; exact hkn)⟩
          obtain ⟨ba, oa, A', c', rfl, ea0, lx, rx⟩ := RA.out.row hx
          obtain ⟨bb, ob, B', d', rfl, eb0, ly, ry⟩ := RB.out.row hy
          have HK := hid hk
          have hka : (k : Int) < (a.length : Int) := by rw [LA.out]; omega
          have hkb : (k : Int) < (b.length : Int) := by rw [LB.out]; omega
          have hL : longB a b (ws.take (i + 1)) = (longB a b (ws.take i) && decide (x.length = y.length)) := by
            unfold longB
            rw [List.take_add_one, hk]
            simp [hx, hy]
          rw [← HB.out] at hL
          have HL := hid hL
          have hxl := SA.out x (List.mem_of_getElem? hx)
          have hyl := SB.out y (List.mem_of_getElem? hy)
          clear hk hx hy rx ry hL
          go_wp2
          refine wp_region_B (fun _ => false) (fun w' => w'.cell? ⟨b5, o5 + i, none⟩ = some (I (k : Int)) ∧ w'.cell? ⟨ba, oa + k, none⟩ = some (.slice A' x.length c') ∧ w'.cell? ⟨bb, ob + k, none⟩ = some (.slice B' y.length d')) (by kernel_rfl) ?_
          have H3 := H2.drew
          obtain ⟨w1, hw1⟩ : ∃ w1, w1 = wo.drew := ⟨_, rfl⟩
          rw [← hw1] at H3 ⊢
          have hS : w1.cell? ⟨b5, o5 + i, none⟩ = some (I (k : Int)) ∧ w1.cell? ⟨ba, oa + k, none⟩ = some (.slice A' x.length c') ∧ w1.cell? ⟨bb, ob + k, none⟩ = some (.slice B' y.length d') := by
            refine ⟨?_, H3.old ea0, H3.old eb0⟩
            rw [hw1]
            exact e5
          clear hw1
          cases B with
          | true =>
            refine wpAnyB_take' (i := 0) (v := .bool true) rfl (by kernel_rfl) (by kernel_rfl) rfl (by kernel_rfl) (by kernel_rfl) (fun _ _ _ h => h) (by rfl) hS (by intro w' hS'; obtain ⟨k1, k2, k3⟩ := hS'; first | (go_simp; done) | (go_simp; rfl) | (go_simp; omega) | (go_simp; assumption)) ?_
            simp only [Act.put, List.setIfInBounds_toArray, List.set_cons_zero, List.set_cons_succ]
            refine wpAnyB_take' (i := 1) (v := .bool true) rfl (by kernel_rfl) (by kernel_rfl) rfl (by kernel_rfl) (by kernel_rfl) (fun _ _ _ h => h) (by rfl) hS (by intro w' hS'; obtain ⟨k1, k2, k3⟩ := hS'; first | (go_simp; done) | (go_simp; rfl) | (go_simp; omega) | (go_simp; assumption)) ?_
            simp only [Act.put, List.setIfInBounds_toArray, List.set_cons_zero, List.set_cons_succ]
            refine wpAnyB_take' (i := 2) (v := .slice (some ⟨ba, oa, none⟩) a.length ca) rfl (by kernel_rfl) (by kernel_rfl) rfl (by kernel_rfl) (by kernel_rfl) (fun _ _ _ h => h) (by rfl) hS (by intro w' hS'; obtain ⟨k1, k2, k3⟩ := hS'; first | (go_simp; done) | (go_simp; rfl) | (go_simp; omega) | (go_simp; assumption)) ?_
            simp only [Act.put, List.setIfInBounds_toArray, List.set_cons_zero, List.set_cons_succ]
            refine wpAnyB_take' (i := 3) (v := .slice (some ⟨b5, o5, none⟩) (ints ws).length (ints ws).length) rfl (by kernel_rfl) (by kernel_rfl) rfl (by kernel_rfl) (by kernel_rfl) (fun _ _ _ h => h) (by rfl) hS (by intro w' hS'; obtain ⟨k1, k2, k3⟩ := hS'; first | (go_simp; done) | (go_simp; rfl) | (go_simp; omega) | (go_simp; assumption)) ?_
            simp only [Act.put, List.setIfInBounds_toArray, List.set_cons_zero, List.set_cons_succ]
            refine wpAnyB_take' (i := 4) (v := I (i : Int)) rfl (by kernel_rfl) (by kernel_rfl) rfl (by kernel_rfl) (by kernel_rfl) (fun _ _ _ h => h) (by rfl) hS (by intro w' hS'; obtain ⟨k1, k2, k3⟩ := hS'; first | (go_simp; done) | (go_simp; rfl) | (go_simp; omega) | (go_simp; assumption)) ?_
            simp only [Act.put, List.setIfInBounds_toArray, List.set_cons_zero, List.set_cons_succ]
            refine wpAnyB_take' (i := 5) (v := .pointer (some ⟨b5, o5 + i, none⟩)) rfl (by kernel_rfl) (by kernel_rfl) rfl (by kernel_rfl) (by kernel_rfl) (fun _ _ _ h => h) (by rfl) hS (by intro w' hS'; obtain ⟨k1, k2, k3⟩ := hS'; first | (go_simp; done) | (go_simp; rfl) | (go_simp; omega) | (go_simp; assumption)) ?_
            simp only [Act.put, List.setIfInBounds_toArray, List.set_cons_zero, List.set_cons_succ]
            refine wpAnyB_take' (i := 6) (v := I (k : Int)) rfl (by kernel_rfl) (by kernel_rfl) rfl (by kernel_rfl) (by kernel_rfl) (fun _ _ _ h => h) (by rfl) hS (by intro w' hS'; obtain ⟨k1, k2, k3⟩ := hS'; first | (go_simp; done) | (go_simp; rfl) | (go_simp; omega) | (go_simp; assumption)) ?_
            simp only [Act.put, List.setIfInBounds_toArray, List.set_cons_zero, List.set_cons_succ]
            refine wpAnyB_take' (i := 7) (v := .pointer (some ⟨ba, oa + k, none⟩)) rfl (by kernel_rfl) (by kernel_rfl) rfl (by kernel_rfl) (by kernel_rfl) (fun _ _ _ h => h) (by rfl) hS (by intro w' hS'; obtain ⟨k1, k2, k3⟩ := hS'; first | (go_simp; done) | (go_simp; rfl) | (go_simp; omega) | (go_simp; assumption)) ?_
            simp only [Act.put, List.setIfInBounds_toArray, List.set_cons_zero, List.set_cons_succ]
            refine wpAnyB_take' (i := 8) (v := .slice A' x.length c') rfl (by kernel_rfl) (by kernel_rfl) rfl (by kernel_rfl) (by kernel_rfl) (fun _ _ _ h => h) (by rfl) hS (by intro w' hS'; obtain ⟨k1, k2, k3⟩ := hS'; first | (go_simp; done) | (go_simp; rfl) | (go_simp; omega) | (go_simp; assumption)) ?_
            simp only [Act.put, List.setIfInBounds_toArray, List.set_cons_zero, List.set_cons_succ]
            refine wpAnyB_take' (i := 9) (v := I (x.length : Int)) rfl (by kernel_rfl) (by kernel_rfl) rfl (by kernel_rfl) (by kernel_rfl) (fun _ _ _ h => h) (by rfl) hS (by intro w' hS'; obtain ⟨k1, k2, k3⟩ := hS'; first | (go_simp; done) | (go_simp; rfl) | (go_simp; omega) | (go_simp; assumption)) ?_
            simp only [Act.put, List.setIfInBounds_toArray, List.set_cons_zero, List.set_cons_succ]
            refine wpAnyB_take' (i := 10) (v := .slice (some ⟨bb, ob, none⟩) b.length cb) rfl (by kernel_rfl) (by kernel_rfl) rfl (by kernel_rfl) (by kernel_rfl) (fun _ _ _ h => h) (by rfl) hS (by intro w' hS'; obtain ⟨k1, k2, k3⟩ := hS'; first | (go_simp; done) | (go_simp; rfl) | (go_simp; omega) | (go_simp; assumption)) ?_
            simp only [Act.put, List.setIfInBounds_toArray, List.set_cons_zero, List.set_cons_succ]
            refine wpAnyB_take' (i := 11) (v := .slice (some ⟨b5, o5, none⟩) (ints ws).length (ints ws).length) rfl (by kernel_rfl) (by kernel_rfl) rfl (by kernel_rfl) (by kernel_rfl) (fun _ _ _ h => h) (by rfl) hS (by intro w' hS'; obtain ⟨k1, k2, k3⟩ := hS'; first | (go_simp; done) | (go_simp; rfl) | (go_simp; omega) | (go_simp; assumption)) ?_
            simp only [Act.put, List.setIfInBounds_toArray, List.set_cons_zero, List.set_cons_succ]
            refine wpAnyB_take' (i := 12) (v := I (i : Int)) rfl (by kernel_rfl) (by kernel_rfl) rfl (by kernel_rfl) (by kernel_rfl) (fun _ _ _ h => h) (by rfl) hS (by intro w' hS'; obtain ⟨k1, k2, k3⟩ := hS'; first | (go_simp; done) | (go_simp; rfl) | (go_simp; omega) | (go_simp; assumption)) ?_
            simp only [Act.put, List.setIfInBounds_toArray, List.set_cons_zero, List.set_cons_succ]
            refine wpAnyB_take' (i := 13) (v := .pointer (some ⟨b5, o5 + i, none⟩)) rfl (by kernel_rfl) (by kernel_rfl) rfl (by kernel_rfl) (by kernel_rfl) (fun _ _ _ h => h) (by rfl) hS (by intro w' hS'; obtain ⟨k1, k2, k3⟩ := hS'; first | (go_simp; done) | (go_simp; rfl) | (go_simp; omega) | (go_simp; assumption)) ?_
            simp only [Act.put, List.setIfInBounds_toArray, List.set_cons_zero, List.set_cons_succ]
            refine wpAnyB_take' (i := 14) (v := I (k : Int)) rfl (by kernel_rfl) (by kernel_rfl) rfl (by kernel_rfl) (by kernel_rfl) (fun _ _ _ h => h) (by rfl) hS (by intro w' hS'; obtain ⟨k1, k2, k3⟩ := hS'; first | (go_simp; done) | (go_simp; rfl) | (go_simp; omega) | (go_simp; assumption)) ?_
            simp only [Act.put, List.setIfInBounds_toArray, List.set_cons_zero, List.set_cons_succ]
            refine wpAnyB_take' (i := 15) (v := .pointer (some ⟨bb, ob + k, none⟩)) rfl (by kernel_rfl) (by kernel_rfl) rfl (by kernel_rfl) (by kernel_rfl) (fun _ _ _ h => h) (by rfl) hS (by intro w' hS'; obtain ⟨k1, k2, k3⟩ := hS'; first | (go_simp; done) | (go_simp; rfl) | (go_simp; omega) | (go_simp; assumption)) ?_
            simp only [Act.put, List.setIfInBounds_toArray, List.set_cons_zero, List.set_cons_succ]
            refine wpAnyB_take' (i := 16) (v := .slice B' y.length d') rfl (by kernel_rfl) (by kernel_rfl) rfl (by kernel_rfl) (by kernel_rfl) (fun _ _ _ h => h) (by rfl) hS (by intro w' hS'; obtain ⟨k1, k2, k3⟩ := hS'; first | (go_simp; done) | (go_simp; rfl) | (go_simp; omega) | (go_simp; assumption)) ?_
            simp only [Act.put, List.setIfInBounds_toArray, List.set_cons_zero, List.set_cons_succ]
            refine wpAnyB_take' (i := 17) (v := I (y.length : Int)) rfl (by kernel_rfl) (by kernel_rfl) rfl (by kernel_rfl) (by kernel_rfl) (fun _ _ _ h => h) (by rfl) hS (by intro w' hS'; obtain ⟨k1, k2, k3⟩ := hS'; first | (go_simp; done) | (go_simp; rfl) | (go_simp; omega) | (go_simp; assumption)) ?_
            simp only [Act.put, List.setIfInBounds_toArray, List.set_cons_zero, List.set_cons_succ]
            refine wpAnyB_take' (i := 18) (v := .bool ((x.length : Int) == (y.length : Int))) rfl (by kernel_rfl) (by kernel_rfl) rfl (by kernel_rfl) (by kernel_rfl) (fun _ _ _ h => h) (by rfl) hS (by intro w' hS'; obtain ⟨k1, k2, k3⟩ := hS'; first | (go_simp; done) | (go_simp; rfl) | (go_simp; omega) | (go_simp; assumption)) ?_
            simp only [Act.put, List.setIfInBounds_toArray, List.set_cons_zero, List.set_cons_succ]
            refine wpAnyB_take' (i := 19) (v := .bool ((x.length : Int) == (y.length : Int))) rfl (by kernel_rfl) (by kernel_rfl) rfl (by kernel_rfl) (by kernel_rfl) (fun _ _ _ h => h) (by rfl) hS (by intro w' hS'; obtain ⟨k1, k2, k3⟩ := hS'; first | (go_simp; done) | (go_simp; rfl) | (go_simp; omega) | (go_simp; assumption)) ?_
            simp only [Act.put, List.setIfInBounds_toArray, List.set_cons_zero, List.set_cons_succ]
            refine wpAnyB_take' (i := 20) (v := .bool ((x.length : Int) == (y.length : Int))) rfl (by kernel_rfl) (by kernel_rfl) rfl (by kernel_rfl) (by kernel_rfl) (fun _ _ _ h => h) (by rfl) hS (by intro w' hS'; obtain ⟨k1, k2, k3⟩ := hS'; first | (go_simp; done) | (go_simp; rfl) | (go_simp; omega) | (go_simp; assumption)) ?_
            simp only [Act.put, List.setIfInBounds_toArray, List.set_cons_zero, List.set_cons_succ]
            refine wpAnyB_done (by kernel_rfl) ?_ _
            go_wp2
            go_roundw
            case rel => exact ⟨_, i + 1, rfl, by go_num, by omega, ⟨by rw [HL.out, Bool.true_and, Bool.eq_iff_iff, beq_iff_eq, decide_eq_true_iff]; omega⟩, H3⟩
            case measure => first | (simp [intOf]; done) | (simp [intOf]; omega)
          | false =>
            refine wpAnyB_take' (i := 0) (v := .bool false) rfl (by kernel_rfl) (by kernel_rfl) rfl (by kernel_rfl) (by kernel_rfl) (fun _ _ _ h => h) (by rfl) hS (by intro w' hS'; obtain ⟨k1, k2, k3⟩ := hS'; first | (go_simp; done) | (go_simp; rfl) | (go_simp; omega) | (go_simp; assumption)) ?_
            simp only [Act.put, List.setIfInBounds_toArray, List.set_cons_zero, List.set_cons_succ]
            refine wpAnyB_take' (i := 1) (v := .bool false) rfl (by kernel_rfl) (by kernel_rfl) rfl (by kernel_rfl) (by kernel_rfl) (fun _ _ _ h => h) (by rfl) hS (by intro w' hS'; obtain ⟨k1, k2, k3⟩ := hS'; first | (go_simp; done) | (go_simp; rfl) | (go_simp; omega) | (go_simp; assumption)) ?_
            simp only [Act.put, List.setIfInBounds_toArray, List.set_cons_zero, List.set_cons_succ]
            refine wpAnyB_skip' (i := 2) rfl (by kernel_rfl) (by kernel_rfl) rfl (by kernel_rfl) (by kernel_rfl) (fun _ _ _ h => h) (by rfl) hS ?_
            simp only [Act.put, List.setIfInBounds_toArray, List.set_cons_zero, List.set_cons_succ]
            refine wpAnyB_skip' (i := 3) rfl (by kernel_rfl) (by kernel_rfl) rfl (by kernel_rfl) (by kernel_rfl) (fun _ _ _ h => h) (by rfl) hS ?_
            simp only [Act.put, List.setIfInBounds_toArray, List.set_cons_zero, List.set_cons_succ]
            refine wpAnyB_skip' (i := 4) rfl (by kernel_rfl) (by kernel_rfl) rfl (by kernel_rfl) (by kernel_rfl) (fun _ _ _ h => h) (by rfl) hS ?_
            simp only [Act.put, List.setIfInBounds_toArray, List.set_cons_zero, List.set_cons_succ]
            refine wpAnyB_skip' (i := 5) rfl (by kernel_rfl) (by kernel_rfl) rfl (by kernel_rfl) (by kernel_rfl) (fun _ _ _ h => h) (by rfl) hS ?_
            simp only [Act.put, List.setIfInBounds_toArray, List.set_cons_zero, List.set_cons_succ]
            refine wpAnyB_skip' (i := 6) rfl (by kernel_rfl) (by kernel_rfl) rfl (by kernel_rfl) (by kernel_rfl) (fun _ _ _ h => h) (by rfl) hS ?_
            simp only [Act.put, List.setIfInBounds_toArray, List.set_cons_zero, List.set_cons_succ]
            refine wpAnyB_skip' (i := 7) rfl (by kernel_rfl) (by kernel_rfl) rfl (by kernel_rfl) (by kernel_rfl) (fun _ _ _ h => h) (by rfl) hS ?_
            simp only [Act.put, List.setIfInBounds_toArray, List.set_cons_zero, List.set_cons_succ]
            refine wpAnyB_skip' (i := 8) rfl (by kernel_rfl) (by kernel_rfl) rfl (by kernel_rfl) (by kernel_rfl) (fun _ _ _ h => h) (by rfl) hS ?_
            simp only [Act.put, List.setIfInBounds_toArray, List.set_cons_zero, List.set_cons_succ]
            refine wpAnyB_skip' (i := 9) rfl (by kernel_rfl) (by kernel_rfl) rfl (by kernel_rfl) (by kernel_rfl) (fun _ _ _ h => h) (by rfl) hS ?_
            simp only [Act.put, List.setIfInBounds_toArray, List.set_cons_zero, List.set_cons_succ]
            refine wpAnyB_skip' (i := 10) rfl (by kernel_rfl) (by kernel_rfl) rfl (by kernel_rfl) (by kernel_rfl) (fun _ _ _ h => h) (by rfl) hS ?_
            simp only [Act.put, List.setIfInBounds_toArray, List.set_cons_zero, List.set_cons_succ]
            refine wpAnyB_skip' (i := 11) rfl (by kernel_rfl) (by kernel_rfl) rfl (by kernel_rfl) (by kernel_rfl) (fun _ _ _ h => h) (by rfl) hS ?_
            simp only [Act.put, List.setIfInBounds_toArray, List.set_cons_zero, List.set_cons_succ]
            refine wpAnyB_skip' (i := 12) rfl (by kernel_rfl) (by kernel_rfl) rfl (by kernel_rfl) (by kernel_rfl) (fun _ _ _ h => h) (by rfl) hS ?_
            simp only [Act.put, List.setIfInBounds_toArray, List.set_cons_zero, List.set_cons_succ]
            refine wpAnyB_skip' (i := 13) rfl (by kernel_rfl) (by kernel_rfl) rfl (by kernel_rfl) (by kernel_rfl) (fun _ _ _ h => h) (by rfl) hS ?_
            simp only [Act.put, List.setIfInBounds_toArray, List.set_cons_zero, List.set_cons_succ]
            refine wpAnyB_skip' (i := 14) rfl (by kernel_rfl) (by kernel_rfl) rfl (by kernel_rfl) (by kernel_rfl) (fun _ _ _ h => h) (by rfl) hS ?_
            simp only [Act.put, List.setIfInBounds_toArray, List.set_cons_zero, List.set_cons_succ]
            refine wpAnyB_skip' (i := 15) rfl (by kernel_rfl) (by kernel_rfl) rfl (by kernel_rfl) (by kernel_rfl) (fun _ _ _ h => h) (by rfl) hS ?_
            simp only [Act.put, List.setIfInBounds_toArray, List.set_cons_zero, List.set_cons_succ]
            refine wpAnyB_skip' (i := 16) rfl (by kernel_rfl) (by kernel_rfl) rfl (by kernel_rfl) (by kernel_rfl) (fun _ _ _ h => h) (by rfl) hS ?_
            simp only [Act.put, List.setIfInBounds_toArray, List.set_cons_zero, List.set_cons_succ]
            refine wpAnyB_skip' (i := 17) rfl (by kernel_rfl) (by kernel_rfl) rfl (by kernel_rfl) (by kernel_rfl) (fun _ _ _ h => h) (by rfl) hS ?_
            simp only [Act.put, List.setIfInBounds_toArray, List.set_cons_zero, List.set_cons_succ]
            refine wpAnyB_skip' (i := 18) rfl (by kernel_rfl) (by kernel_rfl) rfl (by kernel_rfl) (by kernel_rfl) (fun _ _ _ h => h) (by rfl) hS ?_
            simp only [Act.put, List.setIfInBounds_toArray, List.set_cons_zero, List.set_cons_succ]
            refine wpAnyB_take' (i := 19) (v := .bool false) rfl (by kernel_rfl) (by kernel_rfl) rfl (by kernel_rfl) (by kernel_rfl) (fun _ _ _ h => h) (by rfl) hS (by intro w' hS'; obtain ⟨k1, k2, k3⟩ := hS'; first | (go_simp; done) | (go_simp; rfl) | (go_simp; omega) | (go_simp; assumption)) ?_
            simp only [Act.put, List.setIfInBounds_toArray, List.set_cons_zero, List.set_cons_succ]
            refine wpAnyB_take' (i := 20) (v := .bool false) rfl (by kernel_rfl) (by kernel_rfl) rfl (by kernel_rfl) (by kernel_rfl) (fun _ _ _ h => h) (by rfl) hS (by intro w' hS'; obtain ⟨k1, k2, k3⟩ := hS'; first | (go_simp; done) | (go_simp; rfl) | (go_simp; omega) | (go_simp; assumption)) ?_
            simp only [Act.put, List.setIfInBounds_toArray, List.set_cons_zero, List.set_cons_succ]
            refine wpAnyB_done (by kernel_rfl) ?_ _
            go_wp2
            go_roundw
            case rel => exact ⟨false, i + 1, rfl, by go_num, by omega, ⟨by rw [HL.out]; rfl⟩, H3⟩
            case measure => first | (simp [intOf]; done) | (simp [intOf]; omega)
        · obtain rfl : i = (ints ws).length := by omega
          rw [HIL.out, List.take_length] at HB
          go_wp2_with (first
            | (go_at_call 8; (with_reducible refine (FC.out _ H2.below).mono ?_); rintro e w8 ⟨A8, hs8, rfl, HF8, H8'⟩; have H8 := H2.call H8'; simp only [List.cons_append, List.nil_append] at H8; clear H8'))
          have RT : Hd (RdRows Enc.i64 w8 A8 (fillT n cf (fun _ => true)) hs8) := ⟨H8.rdRows 1 0 rfl rfl (by rw [HF8.out.1, fillT_len]) HF8.out.2 (by decide)⟩
          have b8 := H8.cells 3 rfl
          simp only [cellsAre, and_true, Nat.zero_add] at b8
          have HB8 := H8.below
          have H9 := Mem.refl w8
          have HN : Hd (Mem w w8 []) := ⟨Mem.none H8⟩
          have HBX : Hd (w8.cell? ⟨gH1, 0, none⟩ = some G ∧ w8.cell? ⟨gH1, 1, none⟩ = some R ∧ w8.cell? ⟨gH1, 1 + 1, none⟩ = some (.slice A ch.length c) ∧ w8.cell? ⟨gH1, 1 + 1 + 1, none⟩ = some F) := ⟨b8.1.1, b8.2.1.1, b8.2.2.1.1, b8.2.2.2.1⟩
          clear H2 H8 b8
          go_loopw [17] (fun v17 wr => ∃ (k : Nat), v17 = .int .i64 k ∧ k ≤ n ∧ Mem w8 wr []) (fun v _ => n - (intOf v).toNat)
          case atStart => exact ⟨0, rfl, Nat.zero_le _, H9⟩
          case round =>
            clear H9
            obtain ⟨k, rfl, hk, H2⟩ := hrel
            obtain ⟨wo, rfl⟩ : ∃ wo : World, wo = wr := ⟨_, rfl⟩
            by_cases hlt : k < n
            · obtain ⟨x, hx⟩ : ∃ x, a[k]? = some x := ⟨_, List.getElem?_eq_getElem (by rw [LA.out]; exact hlt)⟩
              obtain ⟨y, hy⟩ : ∃ y, b[k]? = some y := ⟨_, List.getElem?_eq_getElem (by rw [LB.out]; exact hlt)⟩
              obtain ⟨m, hmm⟩ : ∃ m, m = cmn x y := ⟨_, rfl⟩
              have hml : m ≤ x.length ∧ m ≤ y.length := by rw [hmm]; exact cmn_le x y
              have ht : (fillT n cf (fun _ => true))[k]? = some (x.take m) := by rw [fillT_get hlt, hmm]; simp [HCF.out k x y hx hy]
              have hlm : (x.take m).length = m := by rw [List.length_take]; omega
              obtain ⟨bt, ot, A7, c7, rfl, et, lt, rt⟩ := RT.out.row ht
              obtain ⟨ba, oa, A', c', rfl, ea, lx, rx⟩ := (RA.out.below HB8).row hx
              obtain ⟨bb, ob, B', d', rfl, eb, ly, ry⟩ := (RB.out.below HB8).row hy
              rw [hlm] at et
              have hxl := SA.out x (List.mem_of_getElem? hx)
              have hyl := SB.out y (List.mem_of_getElem? hy)
              have FP1 : Hd (∀ (w' : World), Below w8.heap.size w8 w' → Calls Tryd.prog 9 #[.slice A7 m c7, .slice A' x.length c'] w' fun e w'' => e = .returned (.bool true) ∧ Mem w' w'' []) := ⟨fun w' hb => by
                have := prefix_calls A7 A' c7 c' (x.take m) x w' (Rd.below rt hb) (Rd.below rx hb) (by omega) (by omega)
                rw [hlm, show pre (x.take m) x = true from by rw [hmm]; exact pre_take x y] at this
                exact this⟩
              have FP2 : Hd (∀ (w' : World), Below w8.heap.size w8 w' → Calls Tryd.prog 9 #[.slice A7 m c7, .slice B' y.length d'] w' fun e w'' => e = .returned (.bool true) ∧ Mem w' w'' []) := ⟨fun w' hb => by
                have := prefix_calls A7 B' c7 d' (x.take m) y w' (Rd.below rt hb) (Rd.below ry hb) (by omega) (by omega)
                rw [hlm, show pre (x.take m) y = true from by rw [hmm]; exact pre_take' x y] at this
                exact this⟩
              have hkn : (k : Int) < (n : Int) := by omega
              have hka : (k : Int) < (a.length : Int) := by rw [LA.out]; exact hkn
              have hkb : (k : Int) < (b.length : Int) := by rw [LB.out]; exact hkn
              have etw := H2.old et
              have HMM := hid hmm
              have HRX := hid rx
              have HRY := hid ry
              have hm1 := hml.1
              have hm2 := hml.2
              clear hx hy ht rx ry rt hlm hmm hml
              go_wp2
              clear etw
              by_cases hx1 : m < x.length
              · by_cases hy1 : m < y.length
                · obtain ⟨xv, hxv⟩ : ∃ v, x[m]? = some v := ⟨_, List.getElem?_eq_getElem hx1⟩
                  obtain ⟨yv, hyv⟩ : ∃ v, y[m]? = some v := ⟨_, List.getElem?_eq_getElem hy1⟩
                  have hne : ¬ xv = yv := fun e => by
                    subst e
                    rw [HMM.out] at hxv hyv
                    exact cmn_next hxv hyv
                  have hne' : (xv == yv) = false := by simpa using hne
                  obtain ⟨bx, ox, rfl, ex⟩ := HRX.out.get1 rfl hxv rfl
                  obtain ⟨by', oy, rfl, ey⟩ := HRY.out.get1 rfl hyv rfl
                  have hx1i : (m : Int) < (x.length : Int) := by omega
                  have hy1i : (m : Int) < (y.length : Int) := by omega
                  clear hxv hyv
                  refine wp_region_B (fun _ => false) (fun w' => w'.cell? ⟨bt, ot + k, none⟩ = some (.slice A7 m c7) ∧ w'.cell? ⟨ba, oa + k, none⟩ = some (.slice (some ⟨bx, ox, none⟩) x.length c') ∧ w'.cell? ⟨bb, ob + k, none⟩ = some (.slice (some ⟨by', oy, none⟩) y.length d') ∧ w'.cell? ⟨bx, ox + m, none⟩ = some (.int .i64 xv) ∧ w'.cell? ⟨by', oy + m, none⟩ = some (.int .i64 yv)) (by kernel_rfl) ?_
                  have H3 := H2.drew
                  obtain ⟨w1, hw1⟩ : ∃ w1, w1 = wo.drew := ⟨_, rfl⟩
                  rw [← hw1] at H3 ⊢
                  clear hw1
                  have hS : w1.cell? ⟨bt, ot + k, none⟩ = some (.slice A7 m c7) ∧ w1.cell? ⟨ba, oa + k, none⟩ = some (.slice (some ⟨bx, ox, none⟩) x.length c') ∧ w1.cell? ⟨bb, ob + k, none⟩ = some (.slice (some ⟨by', oy, none⟩) y.length d') ∧ w1.cell? ⟨bx, ox + m, none⟩ = some (.int .i64 xv) ∧ w1.cell? ⟨by', oy + m, none⟩ = some (.int .i64 yv) := ⟨H3.old et, H3.old ea, H3.old eb, H3.old ex, H3.old ey⟩
                  refine wpAnyB_take' (i := 0) (v := .slice (some ⟨bt, ot, none⟩) n n) rfl (by kernel_rfl) (by kernel_rfl) rfl (by kernel_rfl) (by kernel_rfl) (fun _ _ _ h => h) (by rfl) hS (by intro w' hS'; obtain ⟨k1, k2, k3, k4, k5⟩ := hS'; first | (go_simp; done) | (go_simp; rfl) | (go_simp; omega) | (go_simp; assumption)) ?_
                  simp only [Act.put, List.setIfInBounds_toArray, List.set_cons_zero, List.set_cons_succ]
                  refine wpAnyB_take' (i := 1) (v := I (k : Int)) rfl (by kernel_rfl) (by kernel_rfl) rfl (by kernel_rfl) (by kernel_rfl) (fun _ _ _ h => h) (by rfl) hS (by intro w' hS'; obtain ⟨k1, k2, k3, k4, k5⟩ := hS'; first | (go_simp; done) | (go_simp; rfl) | (go_simp; omega) | (go_simp; assumption)) ?_
                  simp only [Act.put, List.setIfInBounds_toArray, List.set_cons_zero, List.set_cons_succ]
                  refine wpAnyB_take' (i := 2) (v := .pointer (some ⟨bt, ot + k, none⟩)) rfl (by kernel_rfl) (by kernel_rfl) rfl (by kernel_rfl) (by kernel_rfl) (fun _ _ _ h => h) (by rfl) hS (by intro w' hS'; obtain ⟨k1, k2, k3, k4, k5⟩ := hS'; first | (go_simp; done) | (go_simp; rfl) | (go_simp; omega) | (go_simp; assumption)) ?_
                  simp only [Act.put, List.setIfInBounds_toArray, List.set_cons_zero, List.set_cons_succ]
                  refine wpAnyB_take' (i := 3) (v := .slice A7 m c7) rfl (by kernel_rfl) (by kernel_rfl) rfl (by kernel_rfl) (by kernel_rfl) (fun _ _ _ h => h) (by rfl) hS (by intro w' hS'; obtain ⟨k1, k2, k3, k4, k5⟩ := hS'; first | (go_simp; done) | (go_simp; rfl) | (go_simp; omega) | (go_simp; assumption)) ?_
                  simp only [Act.put, List.setIfInBounds_toArray, List.set_cons_zero, List.set_cons_succ]
                  refine wpAnyB_take' (i := 4) (v := .slice (some ⟨ba, oa, none⟩) a.length ca) rfl (by kernel_rfl) (by kernel_rfl) rfl (by kernel_rfl) (by kernel_rfl) (fun _ _ _ h => h) (by rfl) hS (by intro w' hS'; obtain ⟨k1, k2, k3, k4, k5⟩ := hS'; first | (go_simp; done) | (go_simp; rfl) | (go_simp; omega) | (go_simp; assumption)) ?_
                  simp only [Act.put, List.setIfInBounds_toArray, List.set_cons_zero, List.set_cons_succ]
                  refine wpAnyB_take' (i := 5) (v := I (k : Int)) rfl (by kernel_rfl) (by kernel_rfl) rfl (by kernel_rfl) (by kernel_rfl) (fun _ _ _ h => h) (by rfl) hS (by intro w' hS'; obtain ⟨k1, k2, k3, k4, k5⟩ := hS'; first | (go_simp; done) | (go_simp; rfl) | (go_simp; omega) | (go_simp; assumption)) ?_
                  simp only [Act.put, List.setIfInBounds_toArray, List.set_cons_zero, List.set_cons_succ]
                  refine wpAnyB_take' (i := 6) (v := .pointer (some ⟨ba, oa + k, none⟩)) rfl (by kernel_rfl) (by kernel_rfl) rfl (by kernel_rfl) (by kernel_rfl) (fun _ _ _ h => h) (by rfl) hS (by intro w' hS'; obtain ⟨k1, k2, k3, k4, k5⟩ := hS'; first | (go_simp; done) | (go_simp; rfl) | (go_simp; omega) | (go_simp; assumption)) ?_
                  simp only [Act.put, List.setIfInBounds_toArray, List.set_cons_zero, List.set_cons_succ]
                  refine wpAnyB_take' (i := 7) (v := .slice (some ⟨bx, ox, none⟩) x.length c') rfl (by kernel_rfl) (by kernel_rfl) rfl (by kernel_rfl) (by kernel_rfl) (fun _ _ _ h => h) (by rfl) hS (by intro w' hS'; obtain ⟨k1, k2, k3, k4, k5⟩ := hS'; first | (go_simp; done) | (go_simp; rfl) | (go_simp; omega) | (go_simp; assumption)) ?_
                  simp only [Act.put, List.setIfInBounds_toArray, List.set_cons_zero, List.set_cons_succ]
                  refine wpAnyB_call (i := 8) rfl (by kernel_rfl) (by rfl) (by first | rfl | (go_simp; done) | (go_simp; rfl)) (FP1.out _ H3.below) ?_
                  rintro e w2 ⟨rfl, H4'⟩
                  have H4 := H3.call H4'
                  simp only [List.nil_append] at H4
                  clear hS H4'
                  have hS : w2.cell? ⟨bt, ot + k, none⟩ = some (.slice A7 m c7) ∧ w2.cell? ⟨ba, oa + k, none⟩ = some (.slice (some ⟨bx, ox, none⟩) x.length c') ∧ w2.cell? ⟨bb, ob + k, none⟩ = some (.slice (some ⟨by', oy, none⟩) y.length d') ∧ w2.cell? ⟨bx, ox + m, none⟩ = some (.int .i64 xv) ∧ w2.cell? ⟨by', oy + m, none⟩ = some (.int .i64 yv) := ⟨H4.old et, H4.old ea, H4.old eb, H4.old ex, H4.old ey⟩
                  refine ⟨_, rfl, fun _ => hS, ?_⟩
                  simp only [Act.put, List.setIfInBounds_toArray, List.set_cons_zero, List.set_cons_succ]
                  refine wpAnyB_take' (i := 9) (v := .bool false) rfl (by kernel_rfl) (by kernel_rfl) rfl (by kernel_rfl) (by kernel_rfl) (fun _ _ _ h => h) (by rfl) hS (by intro w' hS'; obtain ⟨k1, k2, k3, k4, k5⟩ := hS'; first | (go_simp; done) | (go_simp; rfl) | (go_simp; omega) | (go_simp; assumption)) ?_
                  simp only [Act.put, List.setIfInBounds_toArray, List.set_cons_zero, List.set_cons_succ]
                  refine wpAnyB_take' (i := 10) (v := .bool false) rfl (by kernel_rfl) (by kernel_rfl) rfl (by kernel_rfl) (by kernel_rfl) (fun _ _ _ h => h) (by rfl) hS (by intro w' hS'; obtain ⟨k1, k2, k3, k4, k5⟩ := hS'; first | (go_simp; done) | (go_simp; rfl) | (go_simp; omega) | (go_simp; assumption)) ?_
                  simp only [Act.put, List.setIfInBounds_toArray, List.set_cons_zero, List.set_cons_succ]
                  refine wpAnyB_take' (i := 11) (v := .slice (some ⟨bt, ot, none⟩) n n) rfl (by kernel_rfl) (by kernel_rfl) rfl (by kernel_rfl) (by kernel_rfl) (fun _ _ _ h => h) (by rfl) hS (by intro w' hS'; obtain ⟨k1, k2, k3, k4, k5⟩ := hS'; first | (go_simp; done) | (go_simp; rfl) | (go_simp; omega) | (go_simp; assumption)) ?_
                  simp only [Act.put, List.setIfInBounds_toArray, List.set_cons_zero, List.set_cons_succ]
                  refine wpAnyB_take' (i := 12) (v := I (k : Int)) rfl (by kernel_rfl) (by kernel_rfl) rfl (by kernel_rfl) (by kernel_rfl) (fun _ _ _ h => h) (by rfl) hS (by intro w' hS'; obtain ⟨k1, k2, k3, k4, k5⟩ := hS'; first | (go_simp; done) | (go_simp; rfl) | (go_simp; omega) | (go_simp; assumption)) ?_
                  simp only [Act.put, List.setIfInBounds_toArray, List.set_cons_zero, List.set_cons_succ]
                  refine wpAnyB_take' (i := 13) (v := .pointer (some ⟨bt, ot + k, none⟩)) rfl (by kernel_rfl) (by kernel_rfl) rfl (by kernel_rfl) (by kernel_rfl) (fun _ _ _ h => h) (by rfl) hS (by intro w' hS'; obtain ⟨k1, k2, k3, k4, k5⟩ := hS'; first | (go_simp; done) | (go_simp; rfl) | (go_simp; omega) | (go_simp; assumption)) ?_
                  simp only [Act.put, List.setIfInBounds_toArray, List.set_cons_zero, List.set_cons_succ]
                  refine wpAnyB_take' (i := 14) (v := .slice A7 m c7) rfl (by kernel_rfl) (by kernel_rfl) rfl (by kernel_rfl) (by kernel_rfl) (fun _ _ _ h => h) (by rfl) hS (by intro w' hS'; obtain ⟨k1, k2, k3, k4, k5⟩ := hS'; first | (go_simp; done) | (go_simp; rfl) | (go_simp; omega) | (go_simp; assumption)) ?_
                  simp only [Act.put, List.setIfInBounds_toArray, List.set_cons_zero, List.set_cons_succ]
                  refine wpAnyB_take' (i := 15) (v := .slice (some ⟨bb, ob, none⟩) b.length cb) rfl (by kernel_rfl) (by kernel_rfl) rfl (by kernel_rfl) (by kernel_rfl) (fun _ _ _ h => h) (by rfl) hS (by intro w' hS'; obtain ⟨k1, k2, k3, k4, k5⟩ := hS'; first | (go_simp; done) | (go_simp; rfl) | (go_simp; omega) | (go_simp; assumption)) ?_
                  simp only [Act.put, List.setIfInBounds_toArray, List.set_cons_zero, List.set_cons_succ]
                  refine wpAnyB_take' (i := 16) (v := I (k : Int)) rfl (by kernel_rfl) (by kernel_rfl) rfl (by kernel_rfl) (by kernel_rfl) (fun _ _ _ h => h) (by rfl) hS (by intro w' hS'; obtain ⟨k1, k2, k3, k4, k5⟩ := hS'; first | (go_simp; done) | (go_simp; rfl) | (go_simp; omega) | (go_simp; assumption)) ?_
                  simp only [Act.put, List.setIfInBounds_toArray, List.set_cons_zero, List.set_cons_succ]
                  refine wpAnyB_take' (i := 17) (v := .pointer (some ⟨bb, ob + k, none⟩)) rfl (by kernel_rfl) (by kernel_rfl) rfl (by kernel_rfl) (by kernel_rfl) (fun _ _ _ h => h) (by rfl) hS (by intro w' hS'; obtain ⟨k1, k2, k3, k4, k5⟩ := hS'; first | (go_simp; done) | (go_simp; rfl) | (go_simp; omega) | (go_simp; assumption)) ?_
                  simp only [Act.put, List.setIfInBounds_toArray, List.set_cons_zero, List.set_cons_succ]
                  refine wpAnyB_take' (i := 18) (v := .slice (some ⟨by', oy, none⟩) y.length d') rfl (by kernel_rfl) (by kernel_rfl) rfl (by kernel_rfl) (by kernel_rfl) (fun _ _ _ h => h) (by rfl) hS (by intro w' hS'; obtain ⟨k1, k2, k3, k4, k5⟩ := hS'; first | (go_simp; done) | (go_simp; rfl) | (go_simp; omega) | (go_simp; assumption)) ?_
                  simp only [Act.put, List.setIfInBounds_toArray, List.set_cons_zero, List.set_cons_succ]
                  refine wpAnyB_call (i := 19) rfl (by kernel_rfl) (by rfl) (by first | rfl | (go_simp; done) | (go_simp; rfl)) (FP2.out _ H4.below) ?_
                  rintro e w3 ⟨rfl, H5'⟩
                  have H5 := H4.call H5'
                  simp only [List.nil_append] at H5
                  clear hS H5'
                  have hS : w3.cell? ⟨bt, ot + k, none⟩ = some (.slice A7 m c7) ∧ w3.cell? ⟨ba, oa + k, none⟩ = some (.slice (some ⟨bx, ox, none⟩) x.length c') ∧ w3.cell? ⟨bb, ob + k, none⟩ = some (.slice (some ⟨by', oy, none⟩) y.length d') ∧ w3.cell? ⟨bx, ox + m, none⟩ = some (.int .i64 xv) ∧ w3.cell? ⟨by', oy + m, none⟩ = some (.int .i64 yv) := ⟨H5.old et, H5.old ea, H5.old eb, H5.old ex, H5.old ey⟩
                  refine ⟨_, rfl, fun _ => hS, ?_⟩
                  simp only [Act.put, List.setIfInBounds_toArray, List.set_cons_zero, List.set_cons_succ]
                  refine wpAnyB_take' (i := 20) (v := .bool false) rfl (by kernel_rfl) (by kernel_rfl) rfl (by kernel_rfl) (by kernel_rfl) (fun _ _ _ h => h) (by rfl) hS (by intro w' hS'; obtain ⟨k1, k2, k3, k4, k5⟩ := hS'; first | (go_simp; done) | (go_simp; rfl) | (go_simp; omega) | (go_simp; assumption)) ?_
                  simp only [Act.put, List.setIfInBounds_toArray, List.set_cons_zero, List.set_cons_succ]
                  refine wpAnyB_take' (i := 21) (v := .bool false) rfl (by kernel_rfl) (by kernel_rfl) rfl (by kernel_rfl) (by kernel_rfl) (fun _ _ _ h => h) (by rfl) hS (by intro w' hS'; obtain ⟨k1, k2, k3, k4, k5⟩ := hS'; first | (go_simp; done) | (go_simp; rfl) | (go_simp; omega) | (go_simp; assumption)) ?_
                  simp only [Act.put, List.setIfInBounds_toArray, List.set_cons_zero, List.set_cons_succ]
                  refine wpAnyB_take' (i := 22) (v := .bool false) rfl (by kernel_rfl) (by kernel_rfl) rfl (by kernel_rfl) (by kernel_rfl) (fun _ _ _ h => h) (by rfl) hS (by intro w' hS'; obtain ⟨k1, k2, k3, k4, k5⟩ := hS'; first | (go_simp; done) | (go_simp; rfl) | (go_simp; omega) | (go_simp; assumption)) ?_
                  simp only [Act.put, List.setIfInBounds_toArray, List.set_cons_zero, List.set_cons_succ]
                  refine wpAnyB_take' (i := 23) (v := I (m : Int)) rfl (by kernel_rfl) (by kernel_rfl) rfl (by kernel_rfl) (by kernel_rfl) (fun _ _ _ h => h) (by rfl) hS (by intro w' hS'; obtain ⟨k1, k2, k3, k4, k5⟩ := hS'; first | (go_simp; done) | (go_simp; rfl) | (go_simp; omega) | (go_simp; assumption)) ?_
                  simp only [Act.put, List.setIfInBounds_toArray, List.set_cons_zero, List.set_cons_succ]
                  refine wpAnyB_take' (i := 24) (v := .slice (some ⟨ba, oa, none⟩) a.length ca) rfl (by kernel_rfl) (by kernel_rfl) rfl (by kernel_rfl) (by kernel_rfl) (fun _ _ _ h => h) (by rfl) hS (by intro w' hS'; obtain ⟨k1, k2, k3, k4, k5⟩ := hS'; first | (go_simp; done) | (go_simp; rfl) | (go_simp; omega) | (go_simp; assumption)) ?_
                  simp only [Act.put, List.setIfInBounds_toArray, List.set_cons_zero, List.set_cons_succ]
                  refine wpAnyB_take' (i := 25) (v := I (k : Int)) rfl (by kernel_rfl) (by kernel_rfl) rfl (by kernel_rfl) (by kernel_rfl) (fun _ _ _ h => h) (by rfl) hS (by intro w' hS'; obtain ⟨k1, k2, k3, k4, k5⟩ := hS'; first | (go_simp; done) | (go_simp; rfl) | (go_simp; omega) | (go_simp; assumption)) ?_
                  simp only [Act.put, List.setIfInBounds_toArray, List.set_cons_zero, List.set_cons_succ]
                  refine wpAnyB_take' (i := 26) (v := .pointer (some ⟨ba, oa + k, none⟩)) rfl (by kernel_rfl) (by kernel_rfl) rfl (by kernel_rfl) (by kernel_rfl) (fun _ _ _ h => h) (by rfl) hS (by intro w' hS'; obtain ⟨k1, k2, k3, k4, k5⟩ := hS'; first | (go_simp; done) | (go_simp; rfl) | (go_simp; omega) | (go_simp; assumption)) ?_
                  simp only [Act.put, List.setIfInBounds_toArray, List.set_cons_zero, List.set_cons_succ]
                  refine wpAnyB_take' (i := 27) (v := .slice (some ⟨bx, ox, none⟩) x.length c') rfl (by kernel_rfl) (by kernel_rfl) rfl (by kernel_rfl) (by kernel_rfl) (fun _ _ _ h => h) (by rfl) hS (by intro w' hS'; obtain ⟨k1, k2, k3, k4, k5⟩ := hS'; first | (go_simp; done) | (go_simp; rfl) | (go_simp; omega) | (go_simp; assumption)) ?_
                  simp only [Act.put, List.setIfInBounds_toArray, List.set_cons_zero, List.set_cons_succ]
                  refine wpAnyB_take' (i := 28) (v := I (x.length : Int)) rfl (by kernel_rfl) (by kernel_rfl) rfl (by kernel_rfl) (by kernel_rfl) (fun _ _ _ h => h) (by rfl) hS (by intro w' hS'; obtain ⟨k1, k2, k3, k4, k5⟩ := hS'; first | (go_simp; done) | (go_simp; rfl) | (go_simp; omega) | (go_simp; assumption)) ?_
                  simp only [Act.put, List.setIfInBounds_toArray, List.set_cons_zero, List.set_cons_succ]
                  refine wpAnyB_take' (i := 29) (v := .bool true) rfl (by kernel_rfl) (by kernel_rfl) rfl (by kernel_rfl) (by kernel_rfl) (fun _ _ _ h => h) (by rfl) hS (by intro w' hS'; obtain ⟨k1, k2, k3, k4, k5⟩ := hS'; first | (go_simp; done) | (go_simp; rfl) | (go_simp; omega) | (go_simp; assumption)) ?_
                  simp only [Act.put, List.setIfInBounds_toArray, List.set_cons_zero, List.set_cons_succ]
                  refine wpAnyB_take' (i := 30) (v := .bool true) rfl (by kernel_rfl) (by kernel_rfl) rfl (by kernel_rfl) (by kernel_rfl) (fun _ _ _ h => h) (by rfl) hS (by intro w' hS'; obtain ⟨k1, k2, k3, k4, k5⟩ := hS'; first | (go_simp; done) | (go_simp; rfl) | (go_simp; omega) | (go_simp; assumption)) ?_
                  simp only [Act.put, List.setIfInBounds_toArray, List.set_cons_zero, List.set_cons_succ]
                  refine wpAnyB_take' (i := 31) (v := I (m : Int)) rfl (by kernel_rfl) (by kernel_rfl) rfl (by kernel_rfl) (by kernel_rfl) (fun _ _ _ h => h) (by rfl) hS (by intro w' hS'; obtain ⟨k1, k2, k3, k4, k5⟩ := hS'; first | (go_simp; done) | (go_simp; rfl) | (go_simp; omega) | (go_simp; assumption)) ?_
                  simp only [Act.put, List.setIfInBounds_toArray, List.set_cons_zero, List.set_cons_succ]
                  refine wpAnyB_take' (i := 32) (v := .slice (some ⟨bb, ob, none⟩) b.length cb) rfl (by kernel_rfl) (by kernel_rfl) rfl (by kernel_rfl) (by kernel_rfl) (fun _ _ _ h => h) (by rfl) hS (by intro w' hS'; obtain ⟨k1, k2, k3, k4, k5⟩ := hS'; first | (go_simp; done) | (go_simp; rfl) | (go_simp; omega) | (go_simp; assumption)) ?_
                  simp only [Act.put, List.setIfInBounds_toArray, List.set_cons_zero, List.set_cons_succ]
                  refine wpAnyB_take' (i := 33) (v := I (k : Int)) rfl (by kernel_rfl) (by kernel_rfl) rfl (by kernel_rfl) (by kernel_rfl) (fun _ _ _ h => h) (by rfl) hS (by intro w' hS'; obtain ⟨k1, k2, k3, k4, k5⟩ := hS'; first | (go_simp; done) | (go_simp; rfl) | (go_simp; omega) | (go_simp; assumption)) ?_
                  simp only [Act.put, List.setIfInBounds_toArray, List.set_cons_zero, List.set_cons_succ]
                  refine wpAnyB_take' (i := 34) (v := .pointer (some ⟨bb, ob + k, none⟩)) rfl (by kernel_rfl) (by kernel_rfl) rfl (by kernel_rfl) (by kernel_rfl) (fun _ _ _ h => h) (by rfl) hS (by intro w' hS'; obtain ⟨k1, k2, k3, k4, k5⟩ := hS'; first | (go_simp; done) | (go_simp; rfl) | (go_simp; omega) | (go_simp; assumption)) ?_
                  simp only [Act.put, List.setIfInBounds_toArray, List.set_cons_zero, List.set_cons_succ]
                  refine wpAnyB_take' (i := 35) (v := .slice (some ⟨by', oy, none⟩) y.length d') rfl (by kernel_rfl) (by kernel_rfl) rfl (by kernel_rfl) (by kernel_rfl) (fun _ _ _ h => h) (by rfl) hS (by intro w' hS'; obtain ⟨k1, k2, k3, k4, k5⟩ := hS'; first | (go_simp; done) | (go_simp; rfl) | (go_simp; omega) | (go_simp; assumption)) ?_
                  simp only [Act.put, List.setIfInBounds_toArray, List.set_cons_zero, List.set_cons_succ]
                  refine wpAnyB_take' (i := 36) (v := I (y.length : Int)) rfl (by kernel_rfl) (by kernel_rfl) rfl (by kernel_rfl) (by kernel_rfl) (fun _ _ _ h => h) (by rfl) hS (by intro w' hS'; obtain ⟨k1, k2, k3, k4, k5⟩ := hS'; first | (go_simp; done) | (go_simp; rfl) | (go_simp; omega) | (go_simp; assumption)) ?_
                  simp only [Act.put, List.setIfInBounds_toArray, List.set_cons_zero, List.set_cons_succ]
                  refine wpAnyB_take' (i := 37) (v := .bool true) rfl (by kernel_rfl) (by kernel_rfl) rfl (by kernel_rfl) (by kernel_rfl) (fun _ _ _ h => h) (by rfl) hS (by intro w' hS'; obtain ⟨k1, k2, k3, k4, k5⟩ := hS'; first | (go_simp; done) | (go_simp; rfl) | (go_simp; omega) | (go_simp; assumption)) ?_
                  simp only [Act.put, List.setIfInBounds_toArray, List.set_cons_zero, List.set_cons_succ]
                  refine wpAnyB_take' (i := 38) (v := .bool true) rfl (by kernel_rfl) (by kernel_rfl) rfl (by kernel_rfl) (by kernel_rfl) (fun _ _ _ h => h) (by rfl) hS (by intro w' hS'; obtain ⟨k1, k2, k3, k4, k5⟩ := hS'; first | (go_simp; done) | (go_simp; rfl) | (go_simp; omega) | (go_simp; assumption)) ?_
                  simp only [Act.put, List.setIfInBounds_toArray, List.set_cons_zero, List.set_cons_succ]
                  refine wpAnyB_take' (i := 39) (v := .bool true) rfl (by kernel_rfl) (by kernel_rfl) rfl (by kernel_rfl) (by kernel_rfl) (fun _ _ _ h => h) (by rfl) hS (by intro w' hS'; obtain ⟨k1, k2, k3, k4, k5⟩ := hS'; first | (go_simp; done) | (go_simp; rfl) | (go_simp; omega) | (go_simp; assumption)) ?_
                  simp only [Act.put, List.setIfInBounds_toArray, List.set_cons_zero, List.set_cons_succ]
                  refine wpAnyB_take' (i := 40) (v := .slice (some ⟨ba, oa, none⟩) a.length ca) rfl (by kernel_rfl) (by kernel_rfl) rfl (by kernel_rfl) (by kernel_rfl) (fun _ _ _ h => h) (by rfl) hS (by intro w' hS'; obtain ⟨k1, k2, k3, k4, k5⟩ := hS'; first | (go_simp; done) | (go_simp; rfl) | (go_simp; omega) | (go_simp; assumption)) ?_
                  simp only [Act.put, List.setIfInBounds_toArray, List.set_cons_zero, List.set_cons_succ]
                  refine wpAnyB_take' (i := 41) (v := I (k : Int)) rfl (by kernel_rfl) (by kernel_rfl) rfl (by kernel_rfl) (by kernel_rfl) (fun _ _ _ h => h) (by rfl) hS (by intro w' hS'; obtain ⟨k1, k2, k3, k4, k5⟩ := hS'; first | (go_simp; done) | (go_simp; rfl) | (go_simp; omega) | (go_simp; assumption)) ?_
                  simp only [Act.put, List.setIfInBounds_toArray, List.set_cons_zero, List.set_cons_succ]
                  refine wpAnyB_take' (i := 42) (v := .pointer (some ⟨ba, oa + k, none⟩)) rfl (by kernel_rfl) (by kernel_rfl) rfl (by kernel_rfl) (by kernel_rfl) (fun _ _ _ h => h) (by rfl) hS (by intro w' hS'; obtain ⟨k1, k2, k3, k4, k5⟩ := hS'; first | (go_simp; done) | (go_simp; rfl) | (go_simp; omega) | (go_simp; assumption)) ?_
                  simp only [Act.put, List.setIfInBounds_toArray, List.set_cons_zero, List.set_cons_succ]
                  refine wpAnyB_take' (i := 43) (v := .slice (some ⟨bx, ox, none⟩) x.length c') rfl (by kernel_rfl) (by kernel_rfl) rfl (by kernel_rfl) (by kernel_rfl) (fun _ _ _ h => h) (by rfl) hS (by intro w' hS'; obtain ⟨k1, k2, k3, k4, k5⟩ := hS'; first | (go_simp; done) | (go_simp; rfl) | (go_simp; omega) | (go_simp; assumption)) ?_
                  simp only [Act.put, List.setIfInBounds_toArray, List.set_cons_zero, List.set_cons_succ]
                  refine wpAnyB_take' (i := 44) (v := I (m : Int)) rfl (by kernel_rfl) (by kernel_rfl) rfl (by kernel_rfl) (by kernel_rfl) (fun _ _ _ h => h) (by rfl) hS (by intro w' hS'; obtain ⟨k1, k2, k3, k4, k5⟩ := hS'; first | (go_simp; done) | (go_simp; rfl) | (go_simp; omega) | (go_simp; assumption)) ?_
                  simp only [Act.put, List.setIfInBounds_toArray, List.set_cons_zero, List.set_cons_succ]
                  refine wpAnyB_take' (i := 45) (v := .pointer (some ⟨bx, ox + m, none⟩)) rfl (by kernel_rfl) (by kernel_rfl) rfl (by kernel_rfl) (by kernel_rfl) (fun _ _ _ h => h) (by rfl) hS (by intro w' hS'; obtain ⟨k1, k2, k3, k4, k5⟩ := hS'; first | (go_simp; done) | (go_simp; rfl) | (go_simp; omega) | (go_simp; assumption)) ?_
                  simp only [Act.put, List.setIfInBounds_toArray, List.set_cons_zero, List.set_cons_succ]
                  refine wpAnyB_take' (i := 46) (v := .int .i64 xv) rfl (by kernel_rfl) (by kernel_rfl) rfl (by kernel_rfl) (by kernel_rfl) (fun _ _ _ h => h) (by rfl) hS (by intro w' hS'; obtain ⟨k1, k2, k3, k4, k5⟩ := hS'; first | (go_simp; done) | (go_simp; rfl) | (go_simp; omega) | (go_simp; assumption)) ?_
                  simp only [Act.put, List.setIfInBounds_toArray, List.set_cons_zero, List.set_cons_succ]
                  refine wpAnyB_take' (i := 47) (v := .slice (some ⟨bb, ob, none⟩) b.length cb) rfl (by kernel_rfl) (by kernel_rfl) rfl (by kernel_rfl) (by kernel_rfl) (fun _ _ _ h => h) (by rfl) hS (by intro w' hS'; obtain ⟨k1, k2, k3, k4, k5⟩ := hS'; first | (go_simp; done) | (go_simp; rfl) | (go_simp; omega) | (go_simp; assumption)) ?_
                  simp only [Act.put, List.setIfInBounds_toArray, List.set_cons_zero, List.set_cons_succ]
                  refine wpAnyB_take' (i := 48) (v := I (k : Int)) rfl (by kernel_rfl) (by kernel_rfl) rfl (by kernel_rfl) (by kernel_rfl) (fun _ _ _ h => h) (by rfl) hS (by intro w' hS'; obtain ⟨k1, k2, k3, k4, k5⟩ := hS'; first | (go_simp; done) | (go_simp; rfl) | (go_simp; omega) | (go_simp; assumption)) ?_
                  simp only [Act.put, List.setIfInBounds_toArray, List.set_cons_zero, List.set_cons_succ]
                  refine wpAnyB_take' (i := 49) (v := .pointer (some ⟨bb, ob + k, none⟩)) rfl (by kernel_rfl) (by kernel_rfl) rfl (by kernel_rfl) (by kernel_rfl) (fun _ _ _ h => h) (by rfl) hS (by intro w' hS'; obtain ⟨k1, k2, k3, k4, k5⟩ := hS'; first | (go_simp; done) | (go_simp; rfl) | (go_simp; omega) | (go_simp; assumption)) ?_
                  simp only [Act.put, List.setIfInBounds_toArray, List.set_cons_zero, List.set_cons_succ]
                  refine wpAnyB_take' (i := 50) (v := .slice (some ⟨by', oy, none⟩) y.length d') rfl (by kernel_rfl) (by kernel_rfl) rfl (by kernel_rfl) (by kernel_rfl) (fun _ _ _ h => h) (by rfl) hS (by intro w' hS'; obtain ⟨k1, k2, k3, k4, k5⟩ := hS'; first | (go_simp; done) | (go_simp; rfl) | (go_simp; omega) | (go_simp; assumption)) ?_
                  simp only [Act.put, List.setIfInBounds_toArray, List.set_cons_zero, List.set_cons_succ]
                  refine wpAnyB_take' (i := 51) (v := I (m : Int)) rfl (by kernel_rfl) (by kernel_rfl) rfl (by kernel_rfl) (by kernel_rfl) (fun _ _ _ h => h) (by rfl) hS (by intro w' hS'; obtain ⟨k1, k2, k3, k4, k5⟩ := hS'; first | (go_simp; done) | (go_simp; rfl) | (go_simp; omega) | (go_simp; assumption)) ?_
                  simp only [Act.put, List.setIfInBounds_toArray, List.set_cons_zero, List.set_cons_succ]
                  refine wpAnyB_take' (i := 52) (v := .pointer (some ⟨by', oy + m, none⟩)) rfl (by kernel_rfl) (by kernel_rfl) rfl (by kernel_rfl) (by kernel_rfl) (fun _ _ _ h => h) (by rfl) hS (by intro w' hS'; obtain ⟨k1, k2, k3, k4, k5⟩ := hS'; first | (go_simp; done) | (go_simp; rfl) | (go_simp; omega) | (go_simp; assumption)) ?_
                  simp only [Act.put, List.setIfInBounds_toArray, List.set_cons_zero, List.set_cons_succ]
                  refine wpAnyB_take' (i := 53) (v := .int .i64 yv) rfl (by kernel_rfl) (by kernel_rfl) rfl (by kernel_rfl) (by kernel_rfl) (fun _ _ _ h => h) (by rfl) hS (by intro w' hS'; obtain ⟨k1, k2, k3, k4, k5⟩ := hS'; first | (go_simp; done) | (go_simp; rfl) | (go_simp; omega) | (go_simp; assumption)) ?_
                  simp only [Act.put, List.setIfInBounds_toArray, List.set_cons_zero, List.set_cons_succ]
                  refine wpAnyB_take' (i := 54) (v := .bool false) rfl (by kernel_rfl) (by kernel_rfl) rfl (by kernel_rfl) (by kernel_rfl) (fun _ _ _ h => h) (by rfl) hS (by intro w' hS'; obtain ⟨k1, k2, k3, k4, k5⟩ := hS'; first | (go_simp; done) | (go_simp; rfl) | (go_simp; omega) | (go_simp; assumption)) ?_
                  simp only [Act.put, List.setIfInBounds_toArray, List.set_cons_zero, List.set_cons_succ]
                  refine wpAnyB_take' (i := 55) (v := .bool false) rfl (by kernel_rfl) (by kernel_rfl) rfl (by kernel_rfl) (by kernel_rfl) (fun _ _ _ h => h) (by rfl) hS (by intro w' hS'; obtain ⟨k1, k2, k3, k4, k5⟩ := hS'; first | (go_simp; done) | (go_simp; rfl) | (go_simp; omega) | (go_simp; assumption)) ?_
                  simp only [Act.put, List.setIfInBounds_toArray, List.set_cons_zero, List.set_cons_succ]
                  refine wpAnyB_take' (i := 56) (v := .bool false) rfl (by kernel_rfl) (by kernel_rfl) rfl (by kernel_rfl) (by kernel_rfl) (fun _ _ _ h => h) (by rfl) hS (by intro w' hS'; obtain ⟨k1, k2, k3, k4, k5⟩ := hS'; first | (go_simp; done) | (go_simp; rfl) | (go_simp; omega) | (go_simp; assumption)) ?_
                  simp only [Act.put, List.setIfInBounds_toArray, List.set_cons_zero, List.set_cons_succ]
                  refine wpAnyB_done (by kernel_rfl) ?_ _
                  go_wp2
                  go_roundw
                  case rel => exact ⟨k + 1, by go_num, by omega, H5⟩
                  case measure => first | (simp [intOf]; done) | (simp [intOf]; omega)
                · have hx1i : (m : Int) < (x.length : Int) := by omega
                  have hy1i : ¬ (m : Int) < (y.length : Int) := by omega
                  refine wp_region_B (fun _ => false) (fun w' => w'.cell? ⟨bt, ot + k, none⟩ = some (.slice A7 m c7) ∧ w'.cell? ⟨ba, oa + k, none⟩ = some (.slice A' x.length c') ∧ w'.cell? ⟨bb, ob + k, none⟩ = some (.slice B' y.length d')) (by kernel_rfl) ?_
                  have H3 := H2.drew
                  obtain ⟨w1, hw1⟩ : ∃ w1, w1 = wo.drew := ⟨_, rfl⟩
                  rw [← hw1] at H3 ⊢
                  clear hw1
                  have hS : w1.cell? ⟨bt, ot + k, none⟩ = some (.slice A7 m c7) ∧ w1.cell? ⟨ba, oa + k, none⟩ = some (.slice A' x.length c') ∧ w1.cell? ⟨bb, ob + k, none⟩ = some (.slice B' y.length d') := ⟨H3.old et, H3.old ea, H3.old eb⟩
                  refine wpAnyB_take' (i := 0) (v := .slice (some ⟨bt, ot, none⟩) n n) rfl (by kernel_rfl) (by kernel_rfl) rfl (by kernel_rfl) (by kernel_rfl) (fun _ _ _ h => h) (by rfl) hS (by intro w' hS'; obtain ⟨k1, k2, k3⟩ := hS'; first | (go_simp; done) | (go_simp; rfl) | (go_simp; omega) | (go_simp; assumption)) ?_
                  simp only [Act.put, List.setIfInBounds_toArray, List.set_cons_zero, List.set_cons_succ]
                  refine wpAnyB_take' (i := 1) (v := I (k : Int)) rfl (by kernel_rfl) (by kernel_rfl) rfl (by kernel_rfl) (by kernel_rfl) (fun _ _ _ h => h) (by rfl) hS (by intro w' hS'; obtain ⟨k1, k2, k3⟩ := hS'; first | (go_simp; done) | (go_simp; rfl) | (go_simp; omega) | (go_simp; assumption)) ?_
                  simp only [Act.put, List.setIfInBounds_toArray, List.set_cons_zero, List.set_cons_succ]
                  refine wpAnyB_take' (i := 2) (v := .pointer (some ⟨bt, ot + k, none⟩)) rfl (by kernel_rfl) (by kernel_rfl) rfl (by kernel_rfl) (by kernel_rfl) (fun _ _ _ h => h) (by rfl) hS (by intro w' hS'; obtain ⟨k1, k2, k3⟩ := hS'; first | (go_simp; done) | (go_simp; rfl) | (go_simp; omega) | (go_simp; assumption)) ?_
                  simp only [Act.put, List.setIfInBounds_toArray, List.set_cons_zero, List.set_cons_succ]
                  refine wpAnyB_take' (i := 3) (v := .slice A7 m c7) rfl (by kernel_rfl) (by kernel_rfl) rfl (by kernel_rfl) (by kernel_rfl) (fun _ _ _ h => h) (by rfl) hS (by intro w' hS'; obtain ⟨k1, k2, k3⟩ := hS'; first | (go_simp; done) | (go_simp; rfl) | (go_simp; omega) | (go_simp; assumption)) ?_
                  simp only [Act.put, List.setIfInBounds_toArray, List.set_cons_zero, List.set_cons_succ]
                  refine wpAnyB_take' (i := 4) (v := .slice (some ⟨ba, oa, none⟩) a.length ca) rfl (by kernel_rfl) (by kernel_rfl) rfl (by kernel_rfl) (by kernel_rfl) (fun _ _ _ h => h) (by rfl) hS (by intro w' hS'; obtain ⟨k1, k2, k3⟩ := hS'; first | (go_simp; done) | (go_simp; rfl) | (go_simp; omega) | (go_simp; assumption)) ?_
                  simp only [Act.put, List.setIfInBounds_toArray, List.set_cons_zero, List.set_cons_succ]
                  refine wpAnyB_take' (i := 5) (v := I (k : Int)) rfl (by kernel_rfl) (by kernel_rfl) rfl (by kernel_rfl) (by kernel_rfl) (fun _ _ _ h => h) (by rfl) hS (by intro w' hS'; obtain ⟨k1, k2, k3⟩ := hS'; first | (go_simp; done) | (go_simp; rfl) | (go_simp; omega) | (go_simp; assumption)) ?_
                  simp only [Act.put, List.setIfInBounds_toArray, List.set_cons_zero, List.set_cons_succ]
                  refine wpAnyB_take' (i := 6) (v := .pointer (some ⟨ba, oa + k, none⟩)) rfl (by kernel_rfl) (by kernel_rfl) rfl (by kernel_rfl) (by kernel_rfl) (fun _ _ _ h => h) (by rfl) hS (by intro w' hS'; obtain ⟨k1, k2, k3⟩ := hS'; first | (go_simp; done) | (go_simp; rfl) | (go_simp; omega) | (go_simp; assumption)) ?_
                  simp only [Act.put, List.setIfInBounds_toArray, List.set_cons_zero, List.set_cons_succ]
                  refine wpAnyB_take' (i := 7) (v := .slice A' x.length c') rfl (by kernel_rfl) (by kernel_rfl) rfl (by kernel_rfl) (by kernel_rfl) (fun _ _ _ h => h) (by rfl) hS (by intro w' hS'; obtain ⟨k1, k2, k3⟩ := hS'; first | (go_simp; done) | (go_simp; rfl) | (go_simp; omega) | (go_simp; assumption)) ?_
                  simp only [Act.put, List.setIfInBounds_toArray, List.set_cons_zero, List.set_cons_succ]
                  refine wpAnyB_call (i := 8) rfl (by kernel_rfl) (by rfl) (by first | rfl | (go_simp; done) | (go_simp; rfl)) (FP1.out _ H3.below) ?_
                  rintro e w2 ⟨rfl, H4'⟩
                  have H4 := H3.call H4'
                  simp only [List.nil_append] at H4
                  clear hS H4'
                  have hS : w2.cell? ⟨bt, ot + k, none⟩ = some (.slice A7 m c7) ∧ w2.cell? ⟨ba, oa + k, none⟩ = some (.slice A' x.length c') ∧ w2.cell? ⟨bb, ob + k, none⟩ = some (.slice B' y.length d') := ⟨H4.old et, H4.old ea, H4.old eb⟩
                  refine ⟨_, rfl, fun _ => hS, ?_⟩
                  simp only [Act.put, List.setIfInBounds_toArray, List.set_cons_zero, List.set_cons_succ]
                  refine wpAnyB_take' (i := 9) (v := .bool false) rfl (by kernel_rfl) (by kernel_rfl) rfl (by kernel_rfl) (by kernel_rfl) (fun _ _ _ h => h) (by rfl) hS (by intro w' hS'; obtain ⟨k1, k2, k3⟩ := hS'; first | (go_simp; done) | (go_simp; rfl) | (go_simp; omega) | (go_simp; assumption)) ?_
                  simp only [Act.put, List.setIfInBounds_toArray, List.set_cons_zero, List.set_cons_succ]
                  refine wpAnyB_take' (i := 10) (v := .bool false) rfl (by kernel_rfl) (by kernel_rfl) rfl (by kernel_rfl) (by kernel_rfl) (fun _ _ _ h => h) (by rfl) hS (by intro w' hS'; obtain ⟨k1, k2, k3⟩ := hS'; first | (go_simp; done) | (go_simp; rfl) | (go_simp; omega) | (go_simp; assumption)) ?_
                  simp only [Act.put, List.setIfInBounds_toArray, List.set_cons_zero, List.set_cons_succ]
                  refine wpAnyB_take' (i := 11) (v := .slice (some ⟨bt, ot, none⟩) n n) rfl (by kernel_rfl) (by kernel_rfl) rfl (by kernel_rfl) (by kernel_rfl) (fun _ _ _ h => h) (by rfl) hS (by intro w' hS'; obtain ⟨k1, k2, k3⟩ := hS'; first | (go_simp; done) | (go_simp; rfl) | (go_simp; omega) | (go_simp; assumption)) ?_
                  simp only [Act.put, List.setIfInBounds_toArray, List.set_cons_zero, List.set_cons_succ]
                  refine wpAnyB_take' (i := 12) (v := I (k : Int)) rfl (by kernel_rfl) (by kernel_rfl) rfl (by kernel_rfl) (by kernel_rfl) (fun _ _ _ h => h) (by rfl) hS (by intro w' hS'; obtain ⟨k1, k2, k3⟩ := hS'; first | (go_simp; done) | (go_simp; rfl) | (go_simp; omega) | (go_simp; assumption)) ?_
                  simp only [Act.put, List.setIfInBounds_toArray, List.set_cons_zero, List.set_cons_succ]
                  refine wpAnyB_take' (i := 13) (v := .pointer (some ⟨bt, ot + k, none⟩)) rfl (by kernel_rfl) (by kernel_rfl) rfl (by kernel_rfl) (by kernel_rfl) (fun _ _ _ h => h) (by rfl) hS (by intro w' hS'; obtain ⟨k1, k2, k3⟩ := hS'; first | (go_simp; done) | (go_simp; rfl) | (go_simp; omega) | (go_simp; assumption)) ?_
                  simp only [Act.put, List.setIfInBounds_toArray, List.set_cons_zero, List.set_cons_succ]
                  refine wpAnyB_take' (i := 14) (v := .slice A7 m c7) rfl (by kernel_rfl) (by kernel_rfl) rfl (by kernel_rfl) (by kernel_rfl) (fun _ _ _ h => h) (by rfl) hS (by intro w' hS'; obtain ⟨k1, k2, k3⟩ := hS'; first | (go_simp; done) | (go_simp; rfl) | (go_simp; omega) | (go_simp; assumption)) ?_
                  simp only [Act.put, List.setIfInBounds_toArray, List.set_cons_zero, List.set_cons_succ]
                  refine wpAnyB_take' (i := 15) (v := .slice (some ⟨bb, ob, none⟩) b.length cb) rfl (by kernel_rfl) (by kernel_rfl) rfl (by kernel_rfl) (by kernel_rfl) (fun _ _ _ h => h) (by rfl) hS (by intro w' hS'; obtain ⟨k1, k2, k3⟩ := hS'; first | (go_simp; done) | (go_simp; rfl) | (go_simp; omega) | (go_simp; assumption)) ?_
                  simp only [Act.put, List.setIfInBounds_toArray, List.set_cons_zero, List.set_cons_succ]
                  refine wpAnyB_take' (i := 16) (v := I (k : Int)) rfl (by kernel_rfl) (by kernel_rfl) rfl (by kernel_rfl) (by kernel_rfl) (fun _ _ _ h => h) (by rfl) hS (by intro w' hS'; obtain ⟨k1, k2, k3⟩ := hS'; first | (go_simp; done) | (go_simp; rfl) | (go_simp; omega) | (go_simp; assumption)) ?_
                  simp only [Act.put, List.setIfInBounds_toArray, List.set_cons_zero, List.set_cons_succ]
                  refine wpAnyB_take' (i := 17) (v := .pointer (some ⟨bb, ob + k, none⟩)) rfl (by kernel_rfl) (by kernel_rfl) rfl (by kernel_rfl) (by kernel_rfl) (fun _ _ _ h => h) (by rfl) hS (by intro w' hS'; obtain ⟨k1, k2, k3⟩ := hS'; first | (go_simp; done) | (go_simp; rfl) | (go_simp; omega) | (go_simp; assumption)) ?_
                  simp only [Act.put, List.setIfInBounds_toArray, List.set_cons_zero, List.set_cons_succ]
                  refine wpAnyB_take' (i := 18) (v := .slice B' y.length d') rfl (by kernel_rfl) (by kernel_rfl) rfl (by kernel_rfl) (by kernel_rfl) (fun _ _ _ h => h) (by rfl) hS (by intro w' hS'; obtain ⟨k1, k2, k3⟩ := hS'; first | (go_simp; done) | (go_simp; rfl) | (go_simp; omega) | (go_simp; assumption)) ?_
                  simp only [Act.put, List.setIfInBounds_toArray, List.set_cons_zero, List.set_cons_succ]
                  refine wpAnyB_call (i := 19) rfl (by kernel_rfl) (by rfl) (by first | rfl | (go_simp; done) | (go_simp; rfl)) (FP2.out _ H4.below) ?_
                  rintro e w3 ⟨rfl, H5'⟩
                  have H5 := H4.call H5'
                  simp only [List.nil_append] at H5
                  clear hS H5'
                  have hS : w3.cell? ⟨bt, ot + k, none⟩ = some (.slice A7 m c7) ∧ w3.cell? ⟨ba, oa + k, none⟩ = some (.slice A' x.length c') ∧ w3.cell? ⟨bb, ob + k, none⟩ = some (.slice B' y.length d') := ⟨H5.old et, H5.old ea, H5.old eb⟩
                  refine ⟨_, rfl, fun _ => hS, ?_⟩
                  simp only [Act.put, List.setIfInBounds_toArray, List.set_cons_zero, List.set_cons_succ]
                  refine wpAnyB_take' (i := 20) (v := .bool false) rfl (by kernel_rfl) (by kernel_rfl) rfl (by kernel_rfl) (by kernel_rfl) (fun _ _ _ h => h) (by rfl) hS (by intro w' hS'; obtain ⟨k1, k2, k3⟩ := hS'; first | (go_simp; done) | (go_simp; rfl) | (go_simp; omega) | (go_simp; assumption)) ?_
                  simp only [Act.put, List.setIfInBounds_toArray, List.set_cons_zero, List.set_cons_succ]
                  refine wpAnyB_take' (i := 21) (v := .bool false) rfl (by kernel_rfl) (by kernel_rfl) rfl (by kernel_rfl) (by kernel_rfl) (fun _ _ _ h => h) (by rfl) hS (by intro w' hS'; obtain ⟨k1, k2, k3⟩ := hS'; first | (go_simp; done) | (go_simp; rfl) | (go_simp; omega) | (go_simp; assumption)) ?_
                  simp only [Act.put, List.setIfInBounds_toArray, List.set_cons_zero, List.set_cons_succ]
                  refine wpAnyB_take' (i := 22) (v := .bool false) rfl (by kernel_rfl) (by kernel_rfl) rfl (by kernel_rfl) (by kernel_rfl) (fun _ _ _ h => h) (by rfl) hS (by intro w' hS'; obtain ⟨k1, k2, k3⟩ := hS'; first | (go_simp; done) | (go_simp; rfl) | (go_simp; omega) | (go_simp; assumption)) ?_
                  simp only [Act.put, List.setIfInBounds_toArray, List.set_cons_zero, List.set_cons_succ]
                  refine wpAnyB_take' (i := 23) (v := I (m : Int)) rfl (by kernel_rfl) (by kernel_rfl) rfl (by kernel_rfl) (by kernel_rfl) (fun _ _ _ h => h) (by rfl) hS (by intro w' hS'; obtain ⟨k1, k2, k3⟩ := hS'; first | (go_simp; done) | (go_simp; rfl) | (go_simp; omega) | (go_simp; assumption)) ?_
                  simp only [Act.put, List.setIfInBounds_toArray, List.set_cons_zero, List.set_cons_succ]
                  refine wpAnyB_take' (i := 24) (v := .slice (some ⟨ba, oa, none⟩) a.length ca) rfl (by kernel_rfl) (by kernel_rfl) rfl (by kernel_rfl) (by kernel_rfl) (fun _ _ _ h => h) (by rfl) hS (by intro w' hS'; obtain ⟨k1, k2, k3⟩ := hS'; first | (go_simp; done) | (go_simp; rfl) | (go_simp; omega) | (go_simp; assumption)) ?_
                  simp only [Act.put, List.setIfInBounds_toArray, List.set_cons_zero, List.set_cons_succ]
                  refine wpAnyB_take' (i := 25) (v := I (k : Int)) rfl (by kernel_rfl) (by kernel_rfl) rfl (by kernel_rfl) (by kernel_rfl) (fun _ _ _ h => h) (by rfl) hS (by intro w' hS'; obtain ⟨k1, k2, k3⟩ := hS'; first | (go_simp; done) | (go_simp; rfl) | (go_simp; omega) | (go_simp; assumption)) ?_
                  simp only [Act.put, List.setIfInBounds_toArray, List.set_cons_zero, List.set_cons_succ]
                  refine wpAnyB_take' (i := 26) (v := .pointer (some ⟨ba, oa + k, none⟩)) rfl (by kernel_rfl) (by kernel_rfl) rfl (by kernel_rfl) (by kernel_rfl) (fun _ _ _ h => h) (by rfl) hS (by intro w' hS'; obtain ⟨k1, k2, k3⟩ := hS'; first | (go_simp; done) | (go_simp; rfl) | (go_simp; omega) | (go_simp; assumption)) ?_
                  simp only [Act.put, List.setIfInBounds_toArray, List.set_cons_zero, List.set_cons_succ]
                  refine wpAnyB_take' (i := 27) (v := .slice A' x.length c') rfl (by kernel_rfl) (by kernel_rfl) rfl (by kernel_rfl) (by kernel_rfl) (fun _ _ _ h => h) (by rfl) hS (by intro w' hS'; obtain ⟨k1, k2, k3⟩ := hS'; first | (go_simp; done) | (go_simp; rfl) | (go_simp; omega) | (go_simp; assumption)) ?_
                  simp only [Act.put, List.setIfInBounds_toArray, List.set_cons_zero, List.set_cons_succ]
                  refine wpAnyB_take' (i := 28) (v := I (x.length : Int)) rfl (by kernel_rfl) (by kernel_rfl) rfl (by kernel_rfl) (by kernel_rfl) (fun _ _ _ h => h) (by rfl) hS (by intro w' hS'; obtain ⟨k1, k2, k3⟩ := hS'; first | (go_simp; done) | (go_simp; rfl) | (go_simp; omega) | (go_simp; assumption)) ?_
                  simp only [Act.put, List.setIfInBounds_toArray, List.set_cons_zero, List.set_cons_succ]
                  refine wpAnyB_take' (i := 29) (v := .bool true) rfl (by kernel_rfl) (by kernel_rfl) rfl (by kernel_rfl) (by kernel_rfl) (fun _ _ _ h => h) (by rfl) hS (by intro w' hS'; obtain ⟨k1, k2, k3⟩ := hS'; first | (go_simp; done) | (go_simp; rfl) | (go_simp; omega) | (go_simp; assumption)) ?_
                  simp only [Act.put, List.setIfInBounds_toArray, List.set_cons_zero, List.set_cons_succ]
                  refine wpAnyB_take' (i := 30) (v := .bool true) rfl (by kernel_rfl) (by kernel_rfl) rfl (by kernel_rfl) (by kernel_rfl) (fun _ _ _ h => h) (by rfl) hS (by intro w' hS'; obtain ⟨k1, k2, k3⟩ := hS'; first | (go_simp; done) | (go_simp; rfl) | (go_simp; omega) | (go_simp; assumption)) ?_
                  simp only [Act.put, List.setIfInBounds_toArray, List.set_cons_zero, List.set_cons_succ]
                  refine wpAnyB_take' (i := 31) (v := I (m : Int)) rfl (by kernel_rfl) (by kernel_rfl) rfl (by kernel_rfl) (by kernel_rfl) (fun _ _ _ h => h) (by rfl) hS (by intro w' hS'; obtain ⟨k1, k2, k3⟩ := hS'; first | (go_simp; done) | (go_simp; rfl) | (go_simp; omega) | (go_simp; assumption)) ?_
                  simp only [Act.put, List.setIfInBounds_toArray, List.set_cons_zero, List.set_cons_succ]
                  refine wpAnyB_take' (i := 32) (v := .slice (some ⟨bb, ob, none⟩) b.length cb) rfl (by kernel_rfl) (by kernel_rfl) rfl (by kernel_rfl) (by kernel_rfl) (fun _ _ _ h => h) (by rfl) hS (by intro w' hS'; obtain ⟨k1, k2, k3⟩ := hS'; first | (go_simp; done) | (go_simp; rfl) | (go_simp; omega) | (go_simp; assumption)) ?_
                  simp only [Act.put, List.setIfInBounds_toArray, List.set_cons_zero, List.set_cons_succ]
                  refine wpAnyB_take' (i := 33) (v := I (k : Int)) rfl (by kernel_rfl) (by kernel_rfl) rfl (by kernel_rfl) (by kernel_rfl) (fun _ _ _ h => h) (by rfl) hS (by intro w' hS'; obtain ⟨k1, k2, k3⟩ := hS'; first | (go_simp; done) | (go_simp; rfl) | (go_simp; omega) | (go_simp; assumption)) ?_
                  simp only [Act.put, List.setIfInBounds_toArray, List.set_cons_zero, List.set_cons_succ]
                  refine wpAnyB_take' (i := 34) (v := .pointer (some ⟨bb, ob + k, none⟩)) rfl (by kernel_rfl) (by kernel_rfl) rfl (by kernel_rfl) (by kernel_rfl) (fun _ _ _ h => h) (by rfl) hS (by intro w' hS'; obtain ⟨k1, k2, k3⟩ := hS'; first | (go_simp; done) | (go_simp; rfl) | (go_simp; omega) | (go_simp; assumption)) ?_
                  simp only [Act.put, List.setIfInBounds_toArray, List.set_cons_zero, List.set_cons_succ]
                  refine wpAnyB_take' (i := 35) (v := .slice B' y.length d') rfl (by kernel_rfl) (by kernel_rfl) rfl (by kernel_rfl) (by kernel_rfl) (fun _ _ _ h => h) (by rfl) hS (by intro w' hS'; obtain ⟨k1, k2, k3⟩ := hS'; first | (go_simp; done) | (go_simp; rfl) | (go_simp; omega) | (go_simp; assumption)) ?_
                  simp only [Act.put, List.setIfInBounds_toArray, List.set_cons_zero, List.set_cons_succ]
                  refine wpAnyB_take' (i := 36) (v := I (y.length : Int)) rfl (by kernel_rfl) (by kernel_rfl) rfl (by kernel_rfl) (by kernel_rfl) (fun _ _ _ h => h) (by rfl) hS (by intro w' hS'; obtain ⟨k1, k2, k3⟩ := hS'; first | (go_simp; done) | (go_simp; rfl) | (go_simp; omega) | (go_simp; assumption)) ?_
                  simp only [Act.put, List.setIfInBounds_toArray, List.set_cons_zero, List.set_cons_succ]
                  refine wpAnyB_take' (i := 37) (v := .bool false) rfl (by kernel_rfl) (by kernel_rfl) rfl (by kernel_rfl) (by kernel_rfl) (fun _ _ _ h => h) (by rfl) hS (by intro w' hS'; obtain ⟨k1, k2, k3⟩ := hS'; first | (go_simp; done) | (go_simp; rfl) | (go_simp; omega) | (go_simp; assumption)) ?_
                  simp only [Act.put, List.setIfInBounds_toArray, List.set_cons_zero, List.set_cons_succ]
                  refine wpAnyB_take' (i := 38) (v := .bool false) rfl (by kernel_rfl) (by kernel_rfl) rfl (by kernel_rfl) (by kernel_rfl) (fun _ _ _ h => h) (by rfl) hS (by intro w' hS'; obtain ⟨k1, k2, k3⟩ := hS'; first | (go_simp; done) | (go_simp; rfl) | (go_simp; omega) | (go_simp; assumption)) ?_
                  simp only [Act.put, List.setIfInBounds_toArray, List.set_cons_zero, List.set_cons_succ]
                  refine wpAnyB_take' (i := 39) (v := .bool false) rfl (by kernel_rfl) (by kernel_rfl) rfl (by kernel_rfl) (by kernel_rfl) (fun _ _ _ h => h) (by rfl) hS (by intro w' hS'; obtain ⟨k1, k2, k3⟩ := hS'; first | (go_simp; done) | (go_simp; rfl) | (go_simp; omega) | (go_simp; assumption)) ?_
                  simp only [Act.put, List.setIfInBounds_toArray, List.set_cons_zero, List.set_cons_succ]
                  refine wpAnyB_skip' (i := 40) rfl (by kernel_rfl) (by kernel_rfl) rfl (by kernel_rfl) (by kernel_rfl) (fun _ _ _ h => h) (by rfl) hS ?_
                  simp only [Act.put, List.setIfInBounds_toArray, List.set_cons_zero, List.set_cons_succ]
                  refine wpAnyB_skip' (i := 41) rfl (by kernel_rfl) (by kernel_rfl) rfl (by kernel_rfl) (by kernel_rfl) (fun _ _ _ h => h) (by rfl) hS ?_
                  simp only [Act.put, List.setIfInBounds_toArray, List.set_cons_zero, List.set_cons_succ]
                  refine wpAnyB_skip' (i := 42) rfl (by kernel_rfl) (by kernel_rfl) rfl (by kernel_rfl) (by kernel_rfl) (fun _ _ _ h => h) (by rfl) hS ?_
                  simp only [Act.put, List.setIfInBounds_toArray, List.set_cons_zero, List.set_cons_succ]
                  refine wpAnyB_skip' (i := 43) rfl (by kernel_rfl) (by kernel_rfl) rfl (by kernel_rfl) (by kernel_rfl) (fun _ _ _ h => h) (by rfl) hS ?_
                  simp only [Act.put, List.setIfInBounds_toArray, List.set_cons_zero, List.set_cons_succ]
                  refine wpAnyB_skip' (i := 44) rfl (by kernel_rfl) (by kernel_rfl) rfl (by kernel_rfl) (by kernel_rfl) (fun _ _ _ h => h) (by rfl) hS ?_
                  simp only [Act.put, List.setIfInBounds_toArray, List.set_cons_zero, List.set_cons_succ]
                  refine wpAnyB_skip' (i := 45) rfl (by kernel_rfl) (by kernel_rfl) rfl (by kernel_rfl) (by kernel_rfl) (fun _ _ _ h => h) (by rfl) hS ?_
                  simp only [Act.put, List.setIfInBounds_toArray, List.set_cons_zero, List.set_cons_succ]
                  refine wpAnyB_skip' (i := 46) rfl (by kernel_rfl) (by kernel_rfl) rfl (by kernel_rfl) (by kernel_rfl) (fun _ _ _ h => h) (by rfl) hS ?_
                  simp only [Act.put, List.setIfInBounds_toArray, List.set_cons_zero, List.set_cons_succ]
                  refine wpAnyB_skip' (i := 47) rfl (by kernel_rfl) (by kernel_rfl) rfl (by kernel_rfl) (by kernel_rfl) (fun _ _ _ h => h) (by rfl) hS ?_
                  simp only [Act.put, List.setIfInBounds_toArray, List.set_cons_zero, List.set_cons_succ]
                  refine wpAnyB_skip' (i := 48) rfl (by kernel_rfl) (by kernel_rfl) rfl (by kernel_rfl) (by kernel_rfl) (fun _ _ _ h => h) (by rfl) hS ?_
                  simp only [Act.put, List.setIfInBounds_toArray, List.set_cons_zero, List.set_cons_succ]
                  refine wpAnyB_skip' (i := 49) rfl (by kernel_rfl) (by kernel_rfl) rfl (by kernel_rfl) (by kernel_rfl) (fun _ _ _ h => h) (by rfl) hS ?_
                  simp only [Act.put, List.setIfInBounds_toArray, List.set_cons_zero, List.set_cons_succ]
                  refine wpAnyB_skip' (i := 50) rfl (by kernel_rfl) (by kernel_rfl) rfl (by kernel_rfl) (by kernel_rfl) (fun _ _ _ h => h) (by rfl) hS ?_
                  simp only [Act.put, List.setIfInBounds_toArray, List.set_cons_zero, List.set_cons_succ]
                  refine wpAnyB_skip' (i := 51) rfl (by kernel_rfl) (by kernel_rfl) rfl (by kernel_rfl) (by kernel_rfl) (fun _ _ _ h => h) (by rfl) hS ?_
                  simp only [Act.put, List.setIfInBounds_toArray, List.set_cons_zero, List.set_cons_succ]
                  refine wpAnyB_skip' (i := 52) rfl (by kernel_rfl) (by kernel_rfl) rfl (by kernel_rfl) (by kernel_rfl) (fun _ _ _ h => h) (by rfl) hS ?_
                  simp only [Act.put, List.setIfInBounds_toArray, List.set_cons_zero, List.set_cons_succ]
                  refine wpAnyB_skip' (i := 53) rfl (by kernel_rfl) (by kernel_rfl) rfl (by kernel_rfl) (by kernel_rfl) (fun _ _ _ h => h) (by rfl) hS ?_
                  simp only [Act.put, List.setIfInBounds_toArray, List.set_cons_zero, List.set_cons_succ]
                  refine wpAnyB_skip' (i := 54) rfl (by kernel_rfl) (by kernel_rfl) rfl (by kernel_rfl) (by kernel_rfl) (fun _ _ _ h => h) (by rfl) hS ?_
                  simp only [Act.put, List.setIfInBounds_toArray, List.set_cons_zero, List.set_cons_succ]
                  refine wpAnyB_take' (i := 55) (v := .bool false) rfl (by kernel_rfl) (by kernel_rfl) rfl (by kernel_rfl) (by kernel_rfl) (fun _ _ _ h => h) (by rfl) hS (by intro w' hS'; obtain ⟨k1, k2, k3⟩ := hS'; first | (go_simp; done) | (go_simp; rfl) | (go_simp; omega) | (go_simp; assumption)) ?_
                  simp only [Act.put, List.setIfInBounds_toArray, List.set_cons_zero, List.set_cons_succ]
                  refine wpAnyB_take' (i := 56) (v := .bool false) rfl (by kernel_rfl) (by kernel_rfl) rfl (by kernel_rfl) (by kernel_rfl) (fun _ _ _ h => h) (by rfl) hS (by intro w' hS'; obtain ⟨k1, k2, k3⟩ := hS'; first | (go_simp; done) | (go_simp; rfl) | (go_simp; omega) | (go_simp; assumption)) ?_
                  simp only [Act.put, List.setIfInBounds_toArray, List.set_cons_zero, List.set_cons_succ]
                  refine wpAnyB_done (by kernel_rfl) ?_ _
                  go_wp2
                  go_roundw
                  case rel => exact ⟨k + 1, by go_num, by omega, H5⟩
                  case measure => first | (simp [intOf]; done) | (simp [intOf]; omega)
              · have hx1i : ¬ (m : Int) < (x.length : Int) := by omega
                refine wp_region_B (fun _ => false) (fun w' => w'.cell? ⟨bt, ot + k, none⟩ = some (.slice A7 m c7) ∧ w'.cell? ⟨ba, oa + k, none⟩ = some (.slice A' x.length c') ∧ w'.cell? ⟨bb, ob + k, none⟩ = some (.slice B' y.length d')) (by kernel_rfl) ?_
                have H3 := H2.drew
                obtain ⟨w1, hw1⟩ : ∃ w1, w1 = wo.drew := ⟨_, rfl⟩
                rw [← hw1] at H3 ⊢
                clear hw1
                have hS : w1.cell? ⟨bt, ot + k, none⟩ = some (.slice A7 m c7) ∧ w1.cell? ⟨ba, oa + k, none⟩ = some (.slice A' x.length c') ∧ w1.cell? ⟨bb, ob + k, none⟩ = some (.slice B' y.length d') := ⟨H3.old et, H3.old ea, H3.old eb⟩
                refine wpAnyB_take' (i := 0) (v := .slice (some ⟨bt, ot, none⟩) n n) rfl (by kernel_rfl) (by kernel_rfl) rfl (by kernel_rfl) (by kernel_rfl) (fun _ _ _ h => h) (by rfl) hS (by intro w' hS'; obtain ⟨k1, k2, k3⟩ := hS'; first | (go_simp; done) | (go_simp; rfl) | (go_simp; omega) | (go_simp; assumption)) ?_
                simp only [Act.put, List.setIfInBounds_toArray, List.set_cons_zero, List.set_cons_succ]
                refine wpAnyB_take' (i := 1) (v := I (k : Int)) rfl (by kernel_rfl) (by kernel_rfl) rfl (by kernel_rfl) (by kernel_rfl) (fun _ _ _ h => h) (by rfl) hS (by intro w' hS'; obtain ⟨k1, k2, k3⟩ := hS'; first | (go_simp; done) | (go_simp; rfl) | (go_simp; omega) | (go_simp; assumption)) ?_
                simp only [Act.put, List.setIfInBounds_toArray, List.set_cons_zero, List.set_cons_succ]
                refine wpAnyB_take' (i := 2) (v := .pointer (some ⟨bt, ot + k, none⟩)) rfl (by kernel_rfl) (by kernel_rfl) rfl (by kernel_rfl) (by kernel_rfl) (fun _ _ _ h => h) (by rfl) hS (by intro w' hS'; obtain ⟨k1, k2, k3⟩ := hS'; first | (go_simp; done) | (go_simp; rfl) | (go_simp; omega) | (go_simp; assumption)) ?_
                simp only [Act.put, List.setIfInBounds_toArray, List.set_cons_zero, List.set_cons_succ]
                refine wpAnyB_take' (i := 3) (v := .slice A7 m c7) rfl (by kernel_rfl) (by kernel_rfl) rfl (by kernel_rfl) (by kernel_rfl) (fun _ _ _ h => h) (by rfl) hS (by intro w' hS'; obtain ⟨k1, k2, k3⟩ := hS'; first | (go_simp; done) | (go_simp; rfl) | (go_simp; omega) | (go_simp; assumption)) ?_
                simp only [Act.put, List.setIfInBounds_toArray, List.set_cons_zero, List.set_cons_succ]
                refine wpAnyB_take' (i := 4) (v := .slice (some ⟨ba, oa, none⟩) a.length ca) rfl (by kernel_rfl) (by kernel_rfl) rfl (by kernel_rfl) (by kernel_rfl) (fun _ _ _ h => h) (by rfl) hS (by intro w' hS'; obtain ⟨k1, k2, k3⟩ := hS'; first | (go_simp; done) | (go_simp; rfl) | (go_simp; omega) | (go_simp; assumption)) ?_
                simp only [Act.put, List.setIfInBounds_toArray, List.set_cons_zero, List.set_cons_succ]
                refine wpAnyB_take' (i := 5) (v := I (k : Int)) rfl (by kernel_rfl) (by kernel_rfl) rfl (by kernel_rfl) (by kernel_rfl) (fun _ _ _ h => h) (by rfl) hS (by intro w' hS'; obtain ⟨k1, k2, k3⟩ := hS'; first | (go_simp; done) | (go_simp; rfl) | (go_simp; omega) | (go_simp; assumption)) ?_
                simp only [Act.put, List.setIfInBounds_toArray, List.set_cons_zero, List.set_cons_succ]
                refine wpAnyB_take' (i := 6) (v := .pointer (some ⟨ba, oa + k, none⟩)) rfl (by kernel_rfl) (by kernel_rfl) rfl (by kernel_rfl) (by kernel_rfl) (fun _ _ _ h => h) (by rfl) hS (by intro w' hS'; obtain ⟨k1, k2, k3⟩ := hS'; first | (go_simp; done) | (go_simp; rfl) | (go_simp; omega) | (go_simp; assumption)) ?_
                simp only [Act.put, List.setIfInBounds_toArray, List.set_cons_zero, List.set_cons_succ]
                refine wpAnyB_take' (i := 7) (v := .slice A' x.length c') rfl (by kernel_rfl) (by kernel_rfl) rfl (by kernel_rfl) (by kernel_rfl) (fun _ _ _ h => h) (by rfl) hS (by intro w' hS'; obtain ⟨k1, k2, k3⟩ := hS'; first | (go_simp; done) | (go_simp; rfl) | (go_simp; omega) | (go_simp; assumption)) ?_
                simp only [Act.put, List.setIfInBounds_toArray, List.set_cons_zero, List.set_cons_succ]
                refine wpAnyB_call (i := 8) rfl (by kernel_rfl) (by rfl) (by first | rfl | (go_simp; done) | (go_simp; rfl)) (FP1.out _ H3.below) ?_
                rintro e w2 ⟨rfl, H4'⟩
                have H4 := H3.call H4'
                simp only [List.nil_append] at H4
                clear hS H4'
                have hS : w2.cell? ⟨bt, ot + k, none⟩ = some (.slice A7 m c7) ∧ w2.cell? ⟨ba, oa + k, none⟩ = some (.slice A' x.length c') ∧ w2.cell? ⟨bb, ob + k, none⟩ = some (.slice B' y.length d') := ⟨H4.old et, H4.old ea, H4.old eb⟩
                refine ⟨_, rfl, fun _ => hS, ?_⟩
                simp only [Act.put, List.setIfInBounds_toArray, List.set_cons_zero, List.set_cons_succ]
                refine wpAnyB_take' (i := 9) (v := .bool false) rfl (by kernel_rfl) (by kernel_rfl) rfl (by kernel_rfl) (by kernel_rfl) (fun _ _ _ h => h) (by rfl) hS (by intro w' hS'; obtain ⟨k1, k2, k3⟩ := hS'; first | (go_simp; done) | (go_simp; rfl) | (go_simp; omega) | (go_simp; assumption)) ?_
                simp only [Act.put, List.setIfInBounds_toArray, List.set_cons_zero, List.set_cons_succ]
                refine wpAnyB_take' (i := 10) (v := .bool false) rfl (by kernel_rfl) (by kernel_rfl) rfl (by kernel_rfl) (by kernel_rfl) (fun _ _ _ h => h) (by rfl) hS (by intro w' hS'; obtain ⟨k1, k2, k3⟩ := hS'; first | (go_simp; done) | (go_simp; rfl) | (go_simp; omega) | (go_simp; assumption)) ?_
                simp only [Act.put, List.setIfInBounds_toArray, List.set_cons_zero, List.set_cons_succ]
                refine wpAnyB_take' (i := 11) (v := .slice (some ⟨bt, ot, none⟩) n n) rfl (by kernel_rfl) (by kernel_rfl) rfl (by kernel_rfl) (by kernel_rfl) (fun _ _ _ h => h) (by rfl) hS (by intro w' hS'; obtain ⟨k1, k2, k3⟩ := hS'; first | (go_simp; done) | (go_simp; rfl) | (go_simp; omega) | (go_simp; assumption)) ?_
                simp only [Act.put, List.setIfInBounds_toArray, List.set_cons_zero, List.set_cons_succ]
                refine wpAnyB_take' (i := 12) (v := I (k : Int)) rfl (by kernel_rfl) (by kernel_rfl) rfl (by kernel_rfl) (by kernel_rfl) (fun _ _ _ h => h) (by rfl) hS (by intro w' hS'; obtain ⟨k1, k2, k3⟩ := hS'; first | (go_simp; done) | (go_simp; rfl) | (go_simp; omega) | (go_simp; assumption)) ?_
                simp only [Act.put, List.setIfInBounds_toArray, List.set_cons_zero, List.set_cons_succ]
                refine wpAnyB_take' (i := 13) (v := .pointer (some ⟨bt, ot + k, none⟩)) rfl (by kernel_rfl) (by kernel_rfl) rfl (by kernel_rfl) (by kernel_rfl) (fun _ _ _ h => h) (by rfl) hS (by intro w' hS'; obtain ⟨k1, k2, k3⟩ := hS'; first | (go_simp; done) | (go_simp; rfl) | (go_simp; omega) | (go_simp; assumption)) ?_
                simp only [Act.put, List.setIfInBounds_toArray, List.set_cons_zero, List.set_cons_succ]
                refine wpAnyB_take' (i := 14) (v := .slice A7 m c7) rfl (by kernel_rfl) (by kernel_rfl) rfl (by kernel_rfl) (by kernel_rfl) (fun _ _ _ h => h) (by rfl) hS (by intro w' hS'; obtain ⟨k1, k2, k3⟩ := hS'; first | (go_simp; done) | (go_simp; rfl) | (go_simp; omega) | (go_simp; assumption)) ?_
                simp only [Act.put, List.setIfInBounds_toArray, List.set_cons_zero, List.set_cons_succ]
                refine wpAnyB_take' (i := 15) (v := .slice (some ⟨bb, ob, none⟩) b.length cb) rfl (by kernel_rfl) (by kernel_rfl) rfl (by kernel_rfl) (by kernel_rfl) (fun _ _ _ h => h) (by rfl) hS (by intro w' hS'; obtain ⟨k1, k2, k3⟩ := hS'; first | (go_simp; done) | (go_simp; rfl) | (go_simp; omega) | (go_simp; assumption)) ?_
                simp only [Act.put, List.setIfInBounds_toArray, List.set_cons_zero, List.set_cons_succ]
                refine wpAnyB_take' (i := 16) (v := I (k : Int)) rfl (by kernel_rfl) (by kernel_rfl) rfl (by kernel_rfl) (by kernel_rfl) (fun _ _ _ h => h) (by rfl) hS (by intro w' hS'; obtain ⟨k1, k2, k3⟩ := hS'; first | (go_simp; done) | (go_simp; rfl) | (go_simp; omega) | (go_simp; assumption)) ?_
                simp only [Act.put, List.setIfInBounds_toArray, List.set_cons_zero, List.set_cons_succ]
                refine wpAnyB_take' (i := 17) (v := .pointer (some ⟨bb, ob + k, none⟩)) rfl (by kernel_rfl) (by kernel_rfl) rfl (by kernel_rfl) (by kernel_rfl) (fun _ _ _ h => h) (by rfl) hS (by intro w' hS'; obtain ⟨k1, k2, k3⟩ := hS'; first | (go_simp; done) | (go_simp; rfl) | (go_simp; omega) | (go_simp; assumption)) ?_
                simp only [Act.put, List.setIfInBounds_toArray, List.set_cons_zero, List.set_cons_succ]
                refine wpAnyB_take' (i := 18) (v := .slice B' y.length d') rfl (by kernel_rfl) (by kernel_rfl) rfl (by kernel_rfl) (by kernel_rfl) (fun _ _ _ h => h) (by rfl) hS (by intro w' hS'; obtain ⟨k1, k2, k3⟩ := hS'; first | (go_simp; done) | (go_simp; rfl) | (go_simp; omega) | (go_simp; assumption)) ?_
                simp only [Act.put, List.setIfInBounds_toArray, List.set_cons_zero, List.set_cons_succ]
                refine wpAnyB_call (i := 19) rfl (by kernel_rfl) (by rfl) (by first | rfl | (go_simp; done) | (go_simp; rfl)) (FP2.out _ H4.below) ?_
                rintro e w3 ⟨rfl, H5'⟩
                have H5 := H4.call H5'
                simp only [List.nil_append] at H5
                clear hS H5'
                have hS : w3.cell? ⟨bt, ot + k, none⟩ = some (.slice A7 m c7) ∧ w3.cell? ⟨ba, oa + k, none⟩ = some (.slice A' x.length c') ∧ w3.cell? ⟨bb, ob + k, none⟩ = some (.slice B' y.length d') := ⟨H5.old et, H5.old ea, H5.old eb⟩
                refine ⟨_, rfl, fun _ => hS, ?_⟩
                simp only [Act.put, List.setIfInBounds_toArray, List.set_cons_zero, List.set_cons_succ]
                refine wpAnyB_take' (i := 20) (v := .bool false) rfl (by kernel_rfl) (by kernel_rfl) rfl (by kernel_rfl) (by kernel_rfl) (fun _ _ _ h => h) (by rfl) hS (by intro w' hS'; obtain ⟨k1, k2, k3⟩ := hS'; first | (go_simp; done) | (go_simp; rfl) | (go_simp; omega) | (go_simp; assumption)) ?_
                simp only [Act.put, List.setIfInBounds_toArray, List.set_cons_zero, List.set_cons_succ]
                refine wpAnyB_take' (i := 21) (v := .bool false) rfl (by kernel_rfl) (by kernel_rfl) rfl (by kernel_rfl) (by kernel_rfl) (fun _ _ _ h => h) (by rfl) hS (by intro w' hS'; obtain ⟨k1, k2, k3⟩ := hS'; first | (go_simp; done) | (go_simp; rfl) | (go_simp; omega) | (go_simp; assumption)) ?_
                simp only [Act.put, List.setIfInBounds_toArray, List.set_cons_zero, List.set_cons_succ]
                refine wpAnyB_take' (i := 22) (v := .bool false) rfl (by kernel_rfl) (by kernel_rfl) rfl (by kernel_rfl) (by kernel_rfl) (fun _ _ _ h => h) (by rfl) hS (by intro w' hS'; obtain ⟨k1, k2, k3⟩ := hS'; first | (go_simp; done) | (go_simp; rfl) | (go_simp; omega) | (go_simp; assumption)) ?_
                simp only [Act.put, List.setIfInBounds_toArray, List.set_cons_zero, List.set_cons_succ]
                refine wpAnyB_take' (i := 23) (v := I (m : Int)) rfl (by kernel_rfl) (by kernel_rfl) rfl (by kernel_rfl) (by kernel_rfl) (fun _ _ _ h => h) (by rfl) hS (by intro w' hS'; obtain ⟨k1, k2, k3⟩ := hS'; first | (go_simp; done) | (go_simp; rfl) | (go_simp; omega) | (go_simp; assumption)) ?_
                simp only [Act.put, List.setIfInBounds_toArray, List.set_cons_zero, List.set_cons_succ]
                refine wpAnyB_take' (i := 24) (v := .slice (some ⟨ba, oa, none⟩) a.length ca) rfl (by kernel_rfl) (by kernel_rfl) rfl (by kernel_rfl) (by kernel_rfl) (fun _ _ _ h => h) (by rfl) hS (by intro w' hS'; obtain ⟨k1, k2, k3⟩ := hS'; first | (go_simp; done) | (go_simp; rfl) | (go_simp; omega) | (go_simp; assumption)) ?_
                simp only [Act.put, List.setIfInBounds_toArray, List.set_cons_zero, List.set_cons_succ]
                refine wpAnyB_take' (i := 25) (v := I (k : Int)) rfl (by kernel_rfl) (by kernel_rfl) rfl (by kernel_rfl) (by kernel_rfl) (fun _ _ _ h => h) (by rfl) hS (by intro w' hS'; obtain ⟨k1, k2, k3⟩ := hS'; first | (go_simp; done) | (go_simp; rfl) | (go_simp; omega) | (go_simp; assumption)) ?_
                simp only [Act.put, List.setIfInBounds_toArray, List.set_cons_zero, List.set_cons_succ]
                refine wpAnyB_take' (i := 26) (v := .pointer (some ⟨ba, oa + k, none⟩)) rfl (by kernel_rfl) (by kernel_rfl) rfl (by kernel_rfl) (by kernel_rfl) (fun _ _ _ h => h) (by rfl) hS (by intro w' hS'; obtain ⟨k1, k2, k3⟩ := hS'; first | (go_simp; done) | (go_simp; rfl) | (go_simp; omega) | (go_simp; assumption)) ?_
                simp only [Act.put, List.setIfInBounds_toArray, List.set_cons_zero, List.set_cons_succ]
                refine wpAnyB_take' (i := 27) (v := .slice A' x.length c') rfl (by kernel_rfl) (by kernel_rfl) rfl (by kernel_rfl) (by kernel_rfl) (fun _ _ _ h => h) (by rfl) hS (by intro w' hS'; obtain ⟨k1, k2, k3⟩ := hS'; first | (go_simp; done) | (go_simp; rfl) | (go_simp; omega) | (go_simp; assumption)) ?_
                simp only [Act.put, List.setIfInBounds_toArray, List.set_cons_zero, List.set_cons_succ]
                refine wpAnyB_take' (i := 28) (v := I (x.length : Int)) rfl (by kernel_rfl) (by kernel_rfl) rfl (by kernel_rfl) (by kernel_rfl) (fun _ _ _ h => h) (by rfl) hS (by intro w' hS'; obtain ⟨k1, k2, k3⟩ := hS'; first | (go_simp; done) | (go_simp; rfl) | (go_simp; omega) | (go_simp; assumption)) ?_
                simp only [Act.put, List.setIfInBounds_toArray, List.set_cons_zero, List.set_cons_succ]
                refine wpAnyB_take' (i := 29) (v := .bool false) rfl (by kernel_rfl) (by kernel_rfl) rfl (by kernel_rfl) (by kernel_rfl) (fun _ _ _ h => h) (by rfl) hS (by intro w' hS'; obtain ⟨k1, k2, k3⟩ := hS'; first | (go_simp; done) | (go_simp; rfl) | (go_simp; omega) | (go_simp; assumption)) ?_
                simp only [Act.put, List.setIfInBounds_toArray, List.set_cons_zero, List.set_cons_succ]
                refine wpAnyB_take' (i := 30) (v := .bool false) rfl (by kernel_rfl) (by kernel_rfl) rfl (by kernel_rfl) (by kernel_rfl) (fun _ _ _ h => h) (by rfl) hS (by intro w' hS'; obtain ⟨k1, k2, k3⟩ := hS'; first | (go_simp; done) | (go_simp; rfl) | (go_simp; omega) | (go_simp; assumption)) ?_
                simp only [Act.put, List.setIfInBounds_toArray, List.set_cons_zero, List.set_cons_succ]
                refine wpAnyB_skip' (i := 31) rfl (by kernel_rfl) (by kernel_rfl) rfl (by kernel_rfl) (by kernel_rfl) (fun _ _ _ h => h) (by rfl) hS ?_
                simp only [Act.put, List.setIfInBounds_toArray, List.set_cons_zero, List.set_cons_succ]
                refine wpAnyB_skip' (i := 32) rfl (by kernel_rfl) (by kernel_rfl) rfl (by kernel_rfl) (by kernel_rfl) (fun _ _ _ h => h) (by rfl) hS ?_
                simp only [Act.put, List.setIfInBounds_toArray, List.set_cons_zero, List.set_cons_succ]
                refine wpAnyB_skip' (i := 33) rfl (by kernel_rfl) (by kernel_rfl) rfl (by kernel_rfl) (by kernel_rfl) (fun _ _ _ h => h) (by rfl) hS ?_
                simp only [Act.put, List.setIfInBounds_toArray, List.set_cons_zero, List.set_cons_succ]
                refine wpAnyB_skip' (i := 34) rfl (by kernel_rfl) (by kernel_rfl) rfl (by kernel_rfl) (by kernel_rfl) (fun _ _ _ h => h) (by rfl) hS ?_
                simp only [Act.put, List.setIfInBounds_toArray, List.set_cons_zero, List.set_cons_succ]
                refine wpAnyB_skip' (i := 35) rfl (by kernel_rfl) (by kernel_rfl) rfl (by kernel_rfl) (by kernel_rfl) (fun _ _ _ h => h) (by rfl) hS ?_
                simp only [Act.put, List.setIfInBounds_toArray, List.set_cons_zero, List.set_cons_succ]
                refine wpAnyB_skip' (i := 36) rfl (by kernel_rfl) (by kernel_rfl) rfl (by kernel_rfl) (by kernel_rfl) (fun _ _ _ h => h) (by rfl) hS ?_
                simp only [Act.put, List.setIfInBounds_toArray, List.set_cons_zero, List.set_cons_succ]
                refine wpAnyB_skip' (i := 37) rfl (by kernel_rfl) (by kernel_rfl) rfl (by kernel_rfl) (by kernel_rfl) (fun _ _ _ h => h) (by rfl) hS ?_
                simp only [Act.put, List.setIfInBounds_toArray, List.set_cons_zero, List.set_cons_succ]
                refine wpAnyB_take' (i := 38) (v := .bool false) rfl (by kernel_rfl) (by kernel_rfl) rfl (by kernel_rfl) (by kernel_rfl) (fun _ _ _ h => h) (by rfl) hS (by intro w' hS'; obtain ⟨k1, k2, k3⟩ := hS'; first | (go_simp; done) | (go_simp; rfl) | (go_simp; omega) | (go_simp; assumption)) ?_
                simp only [Act.put, List.setIfInBounds_toArray, List.set_cons_zero, List.set_cons_succ]
                refine wpAnyB_take' (i := 39) (v := .bool false) rfl (by kernel_rfl) (by kernel_rfl) rfl (by kernel_rfl) (by kernel_rfl) (fun _ _ _ h => h) (by rfl) hS (by intro w' hS'; obtain ⟨k1, k2, k3⟩ := hS'; first | (go_simp; done) | (go_simp; rfl) | (go_simp; omega) | (go_simp; assumption)) ?_
                simp only [Act.put, List.setIfInBounds_toArray, List.set_cons_zero, List.set_cons_succ]
                refine wpAnyB_skip' (i := 40) rfl (by kernel_rfl) (by kernel_rfl) rfl (by kernel_rfl) (by kernel_rfl) (fun _ _ _ h => h) (by rfl) hS ?_
                simp only [Act.put, List.setIfInBounds_toArray, List.set_cons_zero, List.set_cons_succ]
                refine wpAnyB_skip' (i := 41) rfl (by kernel_rfl) (by kernel_rfl) rfl (by kernel_rfl) (by kernel_rfl) (fun _ _ _ h => h) (by rfl) hS ?_
                simp only [Act.put, List.setIfInBounds_toArray, List.set_cons_zero, List.set_cons_succ]
                refine wpAnyB_skip' (i := 42) rfl (by kernel_rfl) (by kernel_rfl) rfl (by kernel_rfl) (by kernel_rfl) (fun _ _ _ h => h) (by rfl) hS ?_
                simp only [Act.put, List.setIfInBounds_toArray, List.set_cons_zero, List.set_cons_succ]
                refine wpAnyB_skip' (i := 43) rfl (by kernel_rfl) (by kernel_rfl) rfl (by kernel_rfl) (by kernel_rfl) (fun _ _ _ h => h) (by rfl) hS ?_
                simp only [Act.put, List.setIfInBounds_toArray, List.set_cons_zero, List.set_cons_succ]
                refine wpAnyB_skip' (i := 44) rfl (by kernel_rfl) (by kernel_rfl) rfl (by kernel_rfl) (by kernel_rfl) (fun _ _ _ h => h) (by rfl) hS ?_
                simp only [Act.put, List.setIfInBounds_toArray, List.set_cons_zero, List.set_cons_succ]
                refine wpAnyB_skip' (i := 45) rfl (by kernel_rfl) (by kernel_rfl) rfl (by kernel_rfl) (by kernel_rfl) (fun _ _ _ h => h) (by rfl) hS ?_
                simp only [Act.put, List.setIfInBounds_toArray, List.set_cons_zero, List.set_cons_succ]
                refine wpAnyB_skip' (i := 46) rfl (by kernel_rfl) (by kernel_rfl) rfl (by kernel_rfl) (by kernel_rfl) (fun _ _ _ h => h) (by rfl) hS ?_
                simp only [Act.put, List.setIfInBounds_toArray, List.set_cons_zero, List.set_cons_succ]
                refine wpAnyB_skip' (i := 47) rfl (by kernel_rfl) (by kernel_rfl) rfl (by kernel_rfl) (by kernel_rfl) (fun _ _ _ h => h) (by rfl) hS ?_
                simp only [Act.put, List.setIfInBounds_toArray, List.set_cons_zero, List.set_cons_succ]
                refine wpAnyB_skip' (i := 48) rfl (by kernel_rfl) (by kernel_rfl) rfl (by kernel_rfl) (by kernel_rfl) (fun _ _ _ h => h) (by rfl) hS ?_
                simp only [Act.put, List.setIfInBounds_toArray, List.set_cons_zero, List.set_cons_succ]
                refine wpAnyB_skip' (i := 49) rfl (by kernel_rfl) (by kernel_rfl) rfl (by kernel_rfl) (by kernel_rfl) (fun _ _ _ h => h) (by rfl) hS ?_
                simp only [Act.put, List.setIfInBounds_toArray, List.set_cons_zero, List.set_cons_succ]
                refine wpAnyB_skip' (i := 50) rfl (by kernel_rfl) (by kernel_rfl) rfl (by kernel_rfl) (by kernel_rfl) (fun _ _ _ h => h) (by rfl) hS ?_
                simp only [Act.put, List.setIfInBounds_toArray, List.set_cons_zero, List.set_cons_succ]
                refine wpAnyB_skip' (i := 51) rfl (by kernel_rfl) (by kernel_rfl) rfl (by kernel_rfl) (by kernel_rfl) (fun _ _ _ h => h) (by rfl) hS ?_
                simp only [Act.put, List.setIfInBounds_toArray, List.set_cons_zero, List.set_cons_succ]
                refine wpAnyB_skip' (i := 52) rfl (by kernel_rfl) (by kernel_rfl) rfl (by kernel_rfl) (by kernel_rfl) (fun _ _ _ h => h) (by rfl) hS ?_
                simp only [Act.put, List.setIfInBounds_toArray, List.set_cons_zero, List.set_cons_succ]
                refine wpAnyB_skip' (i := 53) rfl (by kernel_rfl) (by kernel_rfl) rfl (by kernel_rfl) (by kernel_rfl) (fun _ _ _ h => h) (by rfl) hS ?_
                simp only [Act.put, List.setIfInBounds_toArray, List.set_cons_zero, List.set_cons_succ]
                refine wpAnyB_skip' (i := 54) rfl (by kernel_rfl) (by kernel_rfl) rfl (by kernel_rfl) (by kernel_rfl) (fun _ _ _ h => h) (by rfl) hS ?_
                simp only [Act.put, List.setIfInBounds_toArray, List.set_cons_zero, List.set_cons_succ]
                refine wpAnyB_take' (i := 55) (v := .bool false) rfl (by kernel_rfl) (by kernel_rfl) rfl (by kernel_rfl) (by kernel_rfl) (fun _ _ _ h => h) (by rfl) hS (by intro w' hS'; obtain ⟨k1, k2, k3⟩ := hS'; first | (go_simp; done) | (go_simp; rfl) | (go_simp; omega) | (go_simp; assumption)) ?_
                simp only [Act.put, List.setIfInBounds_toArray, List.set_cons_zero, List.set_cons_succ]
                refine wpAnyB_take' (i := 56) (v := .bool false) rfl (by kernel_rfl) (by kernel_rfl) rfl (by kernel_rfl) (by kernel_rfl) (fun _ _ _ h => h) (by rfl) hS (by intro w' hS'; obtain ⟨k1, k2, k3⟩ := hS'; first | (go_simp; done) | (go_simp; rfl) | (go_simp; omega) | (go_simp; assumption)) ?_
                simp only [Act.put, List.setIfInBounds_toArray, List.set_cons_zero, List.set_cons_succ]
                refine wpAnyB_done (by kernel_rfl) ?_ _
                go_wp2
                go_roundw
                case rel => exact ⟨k + 1, by go_num, by omega, H5⟩
                case measure => first | (simp [intOf]; done) | (simp [intOf]; omega)
            · obtain rfl : k = n := by omega
              have hsm : sm = (d && B) := by rw [HSM.out, HD.out, HB.out, HWS.out]; exact allB_same
              go_wp2
              cases d with
              | true =>
                rw [Bool.true_and] at hsm
                subst hsm
                refine wp_region_B (fun _ => false) (fun w' => w'.cell? ⟨gH1, 0, none⟩ = some G ∧ w'.cell? ⟨gH1, 1, none⟩ = some R ∧ w'.cell? ⟨gH1, 1 + 1, none⟩ = some (.slice A ch.length c) ∧ w'.cell? ⟨gH1, 1 + 1 + 1, none⟩ = some F) (by kernel_rfl) ?_
                have H3 := H2.drew
                obtain ⟨w1, hw1⟩ : ∃ w1, w1 = wo.drew := ⟨_, rfl⟩
                rw [← hw1] at H3 ⊢
                clear hw1
                have hS : w1.cell? ⟨gH1, 0, none⟩ = some G ∧ w1.cell? ⟨gH1, 1, none⟩ = some R ∧ w1.cell? ⟨gH1, 1 + 1, none⟩ = some (.slice A ch.length c) ∧ w1.cell? ⟨gH1, 1 + 1 + 1, none⟩ = some F := ⟨H3.old HBX.out.1, H3.old HBX.out.2.1, H3.old HBX.out.2.2.1, H3.old HBX.out.2.2.2⟩
                refine wpAnyB_take' (i := 0) (v := .bool sm) rfl (by kernel_rfl) (by kernel_rfl) rfl (by kernel_rfl) (by kernel_rfl) (fun _ _ _ h => h) (by rfl) hS (by intro w' hS'; obtain ⟨k1, k2, k3, k4⟩ := hS'; first | (go_simp; done) | (go_simp; rfl) | (go_simp; omega) | (go_simp; assumption)) ?_
                simp only [Act.put, List.setIfInBounds_toArray, List.set_cons_zero, List.set_cons_succ]
                refine wpAnyB_take' (i := 1) (v := .bool true) rfl (by kernel_rfl) (by kernel_rfl) rfl (by kernel_rfl) (by kernel_rfl) (fun _ _ _ h => h) (by rfl) hS (by intro w' hS'; obtain ⟨k1, k2, k3, k4⟩ := hS'; first | (go_simp; done) | (go_simp; rfl) | (go_simp; omega) | (go_simp; assumption)) ?_
                simp only [Act.put, List.setIfInBounds_toArray, List.set_cons_zero, List.set_cons_succ]
                refine wpAnyB_take' (i := 2) (v := .bool true) rfl (by kernel_rfl) (by kernel_rfl) rfl (by kernel_rfl) (by kernel_rfl) (fun _ _ _ h => h) (by rfl) hS (by intro w' hS'; obtain ⟨k1, k2, k3, k4⟩ := hS'; first | (go_simp; done) | (go_simp; rfl) | (go_simp; omega) | (go_simp; assumption)) ?_
                simp only [Act.put, List.setIfInBounds_toArray, List.set_cons_zero, List.set_cons_succ]
                refine wpAnyB_take' (i := 3) (v := .bool sm) rfl (by kernel_rfl) (by kernel_rfl) rfl (by kernel_rfl) (by kernel_rfl) (fun _ _ _ h => h) (by rfl) hS (by intro w' hS'; obtain ⟨k1, k2, k3, k4⟩ := hS'; first | (go_simp; done) | (go_simp; rfl) | (go_simp; omega) | (go_simp; assumption)) ?_
                simp only [Act.put, List.setIfInBounds_toArray, List.set_cons_zero, List.set_cons_succ]
                refine wpAnyB_take' (i := 4) (v := .bool sm) rfl (by kernel_rfl) (by kernel_rfl) rfl (by kernel_rfl) (by kernel_rfl) (fun _ _ _ h => h) (by rfl) hS (by intro w' hS'; obtain ⟨k1, k2, k3, k4⟩ := hS'; first | (go_simp; done) | (go_simp; rfl) | (go_simp; omega) | (go_simp; assumption)) ?_
                simp only [Act.put, List.setIfInBounds_toArray, List.set_cons_zero, List.set_cons_succ]
                refine wpAnyB_take' (i := 5) (v := .bool true) rfl (by kernel_rfl) (by kernel_rfl) rfl (by kernel_rfl) (by kernel_rfl) (fun _ _ _ h => h) (by rfl) hS (by intro w' hS'; obtain ⟨k1, k2, k3, k4⟩ := hS'; first | (go_simp; done) | (go_simp; rfl) | (go_simp; omega) | (go_simp; assumption)) ?_
                simp only [Act.put, List.setIfInBounds_toArray, List.set_cons_zero, List.set_cons_succ]
                refine wpAnyB_take' (i := 6) (v := .bool true) rfl (by kernel_rfl) (by kernel_rfl) rfl (by kernel_rfl) (by kernel_rfl) (fun _ _ _ h => h) (by rfl) hS (by intro w' hS'; obtain ⟨k1, k2, k3, k4⟩ := hS'; first | (go_simp; done) | (go_simp; rfl) | (go_simp; omega) | (go_simp; assumption)) ?_
                simp only [Act.put, List.setIfInBounds_toArray, List.set_cons_zero, List.set_cons_succ]
                refine wpAnyB_take' (i := 7) (v := .agg #[G, R, .slice A ch.length c, F]) rfl (by kernel_rfl) (by kernel_rfl) rfl (by kernel_rfl) (by kernel_rfl) (fun _ _ _ h => h) (by rfl) hS (by intro w' hS'; obtain ⟨k1, k2, k3, k4⟩ := hS'; first | (go_simp; done) | (go_simp; rfl) | (go_simp; omega) | (go_simp; assumption)) ?_
                simp only [Act.put, List.setIfInBounds_toArray, List.set_cons_zero, List.set_cons_succ]
                refine wpAnyB_take' (i := 8) (v := .int .u64 l) rfl (by kernel_rfl) (by kernel_rfl) rfl (by kernel_rfl) (by kernel_rfl) (fun _ _ _ h => h) (by rfl) hS (by intro w' hS'; obtain ⟨k1, k2, k3, k4⟩ := hS'; first | (go_simp; done) | (go_simp; rfl) | (go_simp; omega) | (go_simp; assumption)) ?_
                simp only [Act.put, List.setIfInBounds_toArray, List.set_cons_zero, List.set_cons_succ]
                refine wpAnyB_take' (i := 9) (v := .slice Aa a.length ca) rfl (by kernel_rfl) (by kernel_rfl) rfl (by kernel_rfl) (by kernel_rfl) (fun _ _ _ h => h) (by rfl) hS (by intro w' hS'; obtain ⟨k1, k2, k3, k4⟩ := hS'; first | (go_simp; done) | (go_simp; rfl) | (go_simp; omega) | (go_simp; assumption)) ?_
                simp only [Act.put, List.setIfInBounds_toArray, List.set_cons_zero, List.set_cons_succ]
                refine wpAnyB_take' (i := 10) (v := .agg #[G, R, .slice A ch.length c, F]) rfl (by kernel_rfl) (by kernel_rfl) rfl (by kernel_rfl) (by kernel_rfl) (fun _ _ _ h => h) (by rfl) hS (by intro w' hS'; obtain ⟨k1, k2, k3, k4⟩ := hS'; first | (go_simp; done) | (go_simp; rfl) | (go_simp; omega) | (go_simp; assumption)) ?_
                simp only [Act.put, List.setIfInBounds_toArray, List.set_cons_zero, List.set_cons_succ]
                refine wpAnyB_take' (i := 11) (v := .int .u64 l) rfl (by kernel_rfl) (by kernel_rfl) rfl (by kernel_rfl) (by kernel_rfl) (fun _ _ _ h => h) (by rfl) hS (by intro w' hS'; obtain ⟨k1, k2, k3, k4⟩ := hS'; first | (go_simp; done) | (go_simp; rfl) | (go_simp; omega) | (go_simp; assumption)) ?_
                simp only [Act.put, List.setIfInBounds_toArray, List.set_cons_zero, List.set_cons_succ]
                refine wpAnyB_take' (i := 12) (v := .slice Aa a.length ca) rfl (by kernel_rfl) (by kernel_rfl) rfl (by kernel_rfl) (by kernel_rfl) (fun _ _ _ h => h) (by rfl) hS (by intro w' hS'; obtain ⟨k1, k2, k3, k4⟩ := hS'; first | (go_simp; done) | (go_simp; rfl) | (go_simp; omega) | (go_simp; assumption)) ?_
                simp only [Act.put, List.setIfInBounds_toArray, List.set_cons_zero, List.set_cons_succ]
                refine wpAnyB_call (i := 13) rfl (by kernel_rfl) (by rfl) (by first | rfl | (go_simp; done) | (go_simp; rfl)) (FSN.out _ (HN.out.call H3).below) ?_
                rintro e w2 ⟨A9, hs9, rfl, HF9, H4'⟩
                have H4 := H3.call H4'
                simp only [List.cons_append, List.nil_append] at H4
                clear hS H4'
                have hS : w2.cell? ⟨gH1, 0, none⟩ = some G ∧ w2.cell? ⟨gH1, 1, none⟩ = some R ∧ w2.cell? ⟨gH1, 1 + 1, none⟩ = some (.slice A ch.length c) ∧ w2.cell? ⟨gH1, 1 + 1 + 1, none⟩ = some F := ⟨H4.old HBX.out.1, H4.old HBX.out.2.1, H4.old HBX.out.2.2.1, H4.old HBX.out.2.2.2⟩
                refine ⟨_, rfl, fun _ => hS, ?_⟩
                simp only [Act.put, List.setIfInBounds_toArray, List.set_cons_zero, List.set_cons_succ]
                have FD : Calls Tryd.prog 5 #[.agg #[G, R, .slice A ch.length c, F], .int .u64 l, .slice Aa a.length ca, .slice A9 k k] w2 (fun e w'' => e = .returned (.bool true) ∧ Mem w2 w'' []) := by
                  have := same_calls G R F A c ch l a (fillT k (fun k => a.getD k []) (fun k' => (withL ch l k).contains k')) Aa A9 ca k ha hs9 w2 (Rd.below HR.out (HN.out.call H4).below) hn (RA.out.below (HN.out.call H4).below) (H4.rdRows 1 0 rfl rfl (by rw [HF9.out.1, fillT_len]) HF9.out.2 (by decide)) la (by rw [fillT_len, ← LA.out]; exact la) SA.out (fillT_le (fun k => getD_le SA.out k))
                  simp only [MV] at this
                  rw [fillT_len, allB_seen LC.out LA.out (fun k x h1 => by show a.getD k [] = x; rw [List.getD_eq_getElem?_getD, h1]; rfl)] at this
                  exact this
                refine wpAnyB_call (i := 14) rfl (by kernel_rfl) (by rfl) (by first | rfl | (go_simp; done) | (go_simp; rfl)) (FD) ?_
                rintro e w3 ⟨rfl, H5'⟩
                have H5 := H4.call H5'
                simp only [List.cons_append, List.nil_append] at H5
                clear hS H5'
                have hS : w3.cell? ⟨gH1, 0, none⟩ = some G ∧ w3.cell? ⟨gH1, 1, none⟩ = some R ∧ w3.cell? ⟨gH1, 1 + 1, none⟩ = some (.slice A ch.length c) ∧ w3.cell? ⟨gH1, 1 + 1 + 1, none⟩ = some F := ⟨H5.old HBX.out.1, H5.old HBX.out.2.1, H5.old HBX.out.2.2.1, H5.old HBX.out.2.2.2⟩
                refine ⟨_, rfl, fun _ => hS, ?_⟩
                simp only [Act.put, List.setIfInBounds_toArray, List.set_cons_zero, List.set_cons_succ]
                refine wpAnyB_take' (i := 15) (v := .bool true) rfl (by kernel_rfl) (by kernel_rfl) rfl (by kernel_rfl) (by kernel_rfl) (fun _ _ _ h => h) (by rfl) hS (by intro w' hS'; obtain ⟨k1, k2, k3, k4⟩ := hS'; first | (go_simp; done) | (go_simp; rfl) | (go_simp; omega) | (go_simp; assumption)) ?_
                simp only [Act.put, List.setIfInBounds_toArray, List.set_cons_zero, List.set_cons_succ]
                refine wpAnyB_take' (i := 16) (v := .bool true) rfl (by kernel_rfl) (by kernel_rfl) rfl (by kernel_rfl) (by kernel_rfl) (fun _ _ _ h => h) (by rfl) hS (by intro w' hS'; obtain ⟨k1, k2, k3, k4⟩ := hS'; first | (go_simp; done) | (go_simp; rfl) | (go_simp; omega) | (go_simp; assumption)) ?_
                simp only [Act.put, List.setIfInBounds_toArray, List.set_cons_zero, List.set_cons_succ]
                refine wpAnyB_done (by kernel_rfl) ?_ _
                go_wp2
                go_ret
                exact ⟨rfl, Mem.none (HN.out.call H5)⟩
              | false =>
                rw [Bool.false_and] at hsm
                subst hsm
                refine wp_region_B (fun _ => false) (fun w' => w'.cell? ⟨gH1, 0, none⟩ = some G ∧ w'.cell? ⟨gH1, 1, none⟩ = some R ∧ w'.cell? ⟨gH1, 1 + 1, none⟩ = some (.slice A ch.length c) ∧ w'.cell? ⟨gH1, 1 + 1 + 1, none⟩ = some F) (by kernel_rfl) ?_
                have H3 := H2.drew
                obtain ⟨w1, hw1⟩ : ∃ w1, w1 = wo.drew := ⟨_, rfl⟩
                rw [← hw1] at H3 ⊢
                clear hw1
                have hS : w1.cell? ⟨gH1, 0, none⟩ = some G ∧ w1.cell? ⟨gH1, 1, none⟩ = some R ∧ w1.cell? ⟨gH1, 1 + 1, none⟩ = some (.slice A ch.length c) ∧ w1.cell? ⟨gH1, 1 + 1 + 1, none⟩ = some F := ⟨H3.old HBX.out.1, H3.old HBX.out.2.1, H3.old HBX.out.2.2.1, H3.old HBX.out.2.2.2⟩
                refine wpAnyB_take' (i := 0) (v := .bool false) rfl (by kernel_rfl) (by kernel_rfl) rfl (by kernel_rfl) (by kernel_rfl) (fun _ _ _ h => h) (by rfl) hS (by intro w' hS'; obtain ⟨k1, k2, k3, k4⟩ := hS'; first | (go_simp; done) | (go_simp; rfl) | (go_simp; omega) | (go_simp; assumption)) ?_
                simp only [Act.put, List.setIfInBounds_toArray, List.set_cons_zero, List.set_cons_succ]
                refine wpAnyB_take' (i := 1) (v := .bool false) rfl (by kernel_rfl) (by kernel_rfl) rfl (by kernel_rfl) (by kernel_rfl) (fun _ _ _ h => h) (by rfl) hS (by intro w' hS'; obtain ⟨k1, k2, k3, k4⟩ := hS'; first | (go_simp; done) | (go_simp; rfl) | (go_simp; omega) | (go_simp; assumption)) ?_
                simp only [Act.put, List.setIfInBounds_toArray, List.set_cons_zero, List.set_cons_succ]
                refine wpAnyB_take' (i := 2) (v := .bool false) rfl (by kernel_rfl) (by kernel_rfl) rfl (by kernel_rfl) (by kernel_rfl) (fun _ _ _ h => h) (by rfl) hS (by intro w' hS'; obtain ⟨k1, k2, k3, k4⟩ := hS'; first | (go_simp; done) | (go_simp; rfl) | (go_simp; omega) | (go_simp; assumption)) ?_
                simp only [Act.put, List.setIfInBounds_toArray, List.set_cons_zero, List.set_cons_succ]
                refine wpAnyB_skip' (i := 3) rfl (by kernel_rfl) (by kernel_rfl) rfl (by kernel_rfl) (by kernel_rfl) (fun _ _ _ h => h) (by rfl) hS ?_
                simp only [Act.put, List.setIfInBounds_toArray, List.set_cons_zero, List.set_cons_succ]
                refine wpAnyB_take' (i := 4) (v := .bool false) rfl (by kernel_rfl) (by kernel_rfl) rfl (by kernel_rfl) (by kernel_rfl) (fun _ _ _ h => h) (by rfl) hS (by intro w' hS'; obtain ⟨k1, k2, k3, k4⟩ := hS'; first | (go_simp; done) | (go_simp; rfl) | (go_simp; omega) | (go_simp; assumption)) ?_
                simp only [Act.put, List.setIfInBounds_toArray, List.set_cons_zero, List.set_cons_succ]
                refine wpAnyB_take' (i := 5) (v := .bool true) rfl (by kernel_rfl) (by kernel_rfl) rfl (by kernel_rfl) (by kernel_rfl) (fun _ _ _ h => h) (by rfl) hS (by intro w' hS'; obtain ⟨k1, k2, k3, k4⟩ := hS'; first | (go_simp; done) | (go_simp; rfl) | (go_simp; omega) | (go_simp; assumption)) ?_
                simp only [Act.put, List.setIfInBounds_toArray, List.set_cons_zero, List.set_cons_succ]
                refine wpAnyB_take' (i := 6) (v := .bool true) rfl (by kernel_rfl) (by kernel_rfl) rfl (by kernel_rfl) (by kernel_rfl) (fun _ _ _ h => h) (by rfl) hS (by intro w' hS'; obtain ⟨k1, k2, k3, k4⟩ := hS'; first | (go_simp; done) | (go_simp; rfl) | (go_simp; omega) | (go_simp; assumption)) ?_
                simp only [Act.put, List.setIfInBounds_toArray, List.set_cons_zero, List.set_cons_succ]
                refine wpAnyB_take' (i := 7) (v := .agg #[G, R, .slice A ch.length c, F]) rfl (by kernel_rfl) (by kernel_rfl) rfl (by kernel_rfl) (by kernel_rfl) (fun _ _ _ h => h) (by rfl) hS (by intro w' hS'; obtain ⟨k1, k2, k3, k4⟩ := hS'; first | (go_simp; done) | (go_simp; rfl) | (go_simp; omega) | (go_simp; assumption)) ?_
                simp only [Act.put, List.setIfInBounds_toArray, List.set_cons_zero, List.set_cons_succ]
                refine wpAnyB_take' (i := 8) (v := .int .u64 l) rfl (by kernel_rfl) (by kernel_rfl) rfl (by kernel_rfl) (by kernel_rfl) (fun _ _ _ h => h) (by rfl) hS (by intro w' hS'; obtain ⟨k1, k2, k3, k4⟩ := hS'; first | (go_simp; done) | (go_simp; rfl) | (go_simp; omega) | (go_simp; assumption)) ?_
                simp only [Act.put, List.setIfInBounds_toArray, List.set_cons_zero, List.set_cons_succ]
                refine wpAnyB_take' (i := 9) (v := .slice Aa a.length ca) rfl (by kernel_rfl) (by kernel_rfl) rfl (by kernel_rfl) (by kernel_rfl) (fun _ _ _ h => h) (by rfl) hS (by intro w' hS'; obtain ⟨k1, k2, k3, k4⟩ := hS'; first | (go_simp; done) | (go_simp; rfl) | (go_simp; omega) | (go_simp; assumption)) ?_
                simp only [Act.put, List.setIfInBounds_toArray, List.set_cons_zero, List.set_cons_succ]
                refine wpAnyB_take' (i := 10) (v := .agg #[G, R, .slice A ch.length c, F]) rfl (by kernel_rfl) (by kernel_rfl) rfl (by kernel_rfl) (by kernel_rfl) (fun _ _ _ h => h) (by rfl) hS (by intro w' hS'; obtain ⟨k1, k2, k3, k4⟩ := hS'; first | (go_simp; done) | (go_simp; rfl) | (go_simp; omega) | (go_simp; assumption)) ?_
                simp only [Act.put, List.setIfInBounds_toArray, List.set_cons_zero, List.set_cons_succ]
                refine wpAnyB_take' (i := 11) (v := .int .u64 l) rfl (by kernel_rfl) (by kernel_rfl) rfl (by kernel_rfl) (by kernel_rfl) (fun _ _ _ h => h) (by rfl) hS (by intro w' hS'; obtain ⟨k1, k2, k3, k4⟩ := hS'; first | (go_simp; done) | (go_simp; rfl) | (go_simp; omega) | (go_simp; assumption)) ?_
                simp only [Act.put, List.setIfInBounds_toArray, List.set_cons_zero, List.set_cons_succ]
                refine wpAnyB_take' (i := 12) (v := .slice Aa a.length ca) rfl (by kernel_rfl) (by kernel_rfl) rfl (by kernel_rfl) (by kernel_rfl) (fun _ _ _ h => h) (by rfl) hS (by intro w' hS'; obtain ⟨k1, k2, k3, k4⟩ := hS'; first | (go_simp; done) | (go_simp; rfl) | (go_simp; omega) | (go_simp; assumption)) ?_
                simp only [Act.put, List.setIfInBounds_toArray, List.set_cons_zero, List.set_cons_succ]
                refine wpAnyB_call (i := 13) rfl (by kernel_rfl) (by rfl) (by first | rfl | (go_simp; done) | (go_simp; rfl)) (FSN.out _ (HN.out.call H3).below) ?_
                rintro e w2 ⟨A9, hs9, rfl, HF9, H4'⟩
                have H4 := H3.call H4'
                simp only [List.cons_append, List.nil_append] at H4
                clear hS H4'
                have hS : w2.cell? ⟨gH1, 0, none⟩ = some G ∧ w2.cell? ⟨gH1, 1, none⟩ = some R ∧ w2.cell? ⟨gH1, 1 + 1, none⟩ = some (.slice A ch.length c) ∧ w2.cell? ⟨gH1, 1 + 1 + 1, none⟩ = some F := ⟨H4.old HBX.out.1, H4.old HBX.out.2.1, H4.old HBX.out.2.2.1, H4.old HBX.out.2.2.2⟩
                refine ⟨_, rfl, fun _ => hS, ?_⟩
                simp only [Act.put, List.setIfInBounds_toArray, List.set_cons_zero, List.set_cons_succ]
                have FD : Calls Tryd.prog 5 #[.agg #[G, R, .slice A ch.length c, F], .int .u64 l, .slice Aa a.length ca, .slice A9 k k] w2 (fun e w'' => e = .returned (.bool true) ∧ Mem w2 w'' []) := by
                  have := same_calls G R F A c ch l a (fillT k (fun k => a.getD k []) (fun k' => (withL ch l k).contains k')) Aa A9 ca k ha hs9 w2 (Rd.below HR.out (HN.out.call H4).below) hn (RA.out.below (HN.out.call H4).below) (H4.rdRows 1 0 rfl rfl (by rw [HF9.out.1, fillT_len]) HF9.out.2 (by decide)) la (by rw [fillT_len, ← LA.out]; exact la) SA.out (fillT_le (fun k => getD_le SA.out k))
                  simp only [MV] at this
                  rw [fillT_len, allB_seen LC.out LA.out (fun k x h1 => by show a.getD k [] = x; rw [List.getD_eq_getElem?_getD, h1]; rfl)] at this
                  exact this
                refine wpAnyB_call (i := 14) rfl (by kernel_rfl) (by rfl) (by first | rfl | (go_simp; done) | (go_simp; rfl)) (FD) ?_
                rintro e w3 ⟨rfl, H5'⟩
                have H5 := H4.call H5'
                simp only [List.cons_append, List.nil_append] at H5
                clear hS H5'
                have hS : w3.cell? ⟨gH1, 0, none⟩ = some G ∧ w3.cell? ⟨gH1, 1, none⟩ = some R ∧ w3.cell? ⟨gH1, 1 + 1, none⟩ = some (.slice A ch.length c) ∧ w3.cell? ⟨gH1, 1 + 1 + 1, none⟩ = some F := ⟨H5.old HBX.out.1, H5.old HBX.out.2.1, H5.old HBX.out.2.2.1, H5.old HBX.out.2.2.2⟩
                refine ⟨_, rfl, fun _ => hS, ?_⟩
                simp only [Act.put, List.setIfInBounds_toArray, List.set_cons_zero, List.set_cons_succ]
                refine wpAnyB_take' (i := 15) (v := .bool true) rfl (by kernel_rfl) (by kernel_rfl) rfl (by kernel_rfl) (by kernel_rfl) (fun _ _ _ h => h) (by rfl) hS (by intro w' hS'; obtain ⟨k1, k2, k3, k4⟩ := hS'; first | (go_simp; done) | (go_simp; rfl) | (go_simp; omega) | (go_simp; assumption)) ?_
                simp only [Act.put, List.setIfInBounds_toArray, List.set_cons_zero, List.set_cons_succ]
                refine wpAnyB_take' (i := 16) (v := .bool true) rfl (by kernel_rfl) (by kernel_rfl) rfl (by kernel_rfl) (by kernel_rfl) (fun _ _ _ h => h) (by rfl) hS (by intro w' hS'; obtain ⟨k1, k2, k3, k4⟩ := hS'; first | (go_simp; done) | (go_simp; rfl) | (go_simp; omega) | (go_simp; assumption)) ?_
                simp only [Act.put, List.setIfInBounds_toArray, List.set_cons_zero, List.set_cons_succ]
                refine wpAnyB_done (by kernel_rfl) ?_ _
                go_wp2
                go_ret
                exact ⟨rfl, Mem.none (HN.out.call H5)⟩
    · have k1 : ((a.length : Int) == (ch.length : Int)) = true := by simp [h1]
      have k2 : ((b.length : Int) == (ch.length : Int)) = false := by simp; omega
      have k3 : ((a.length : Int) != (ch.length : Int)) = false := by simp [h1]
      have k4 : ((b.length : Int) != (ch.length : Int)) = true := by simp; omega
      have E1 : Hd (allB alikeF ch l a b = false) := ⟨by unfold allB; rw [decide_eq_false h2]; simp⟩
      have E2 : Hd (allB sameF ch l a b = false) := ⟨by unfold allB; rw [decide_eq_false h2]; simp⟩
      clear h1 h2
      go_wp2_with (first
        | ((with_reducible refine at_box ?_); refine wpList_box_box H0 ?_; intro u_ gH1 wH1 hu_ H1; simp only [Act.eval, Act.put, List.setIfInBounds_toArray, List.set_cons_zero, List.set_cons_succ, Array.getD_eq_getD_getElem?, List.getElem?_toArray, List.getElem?_cons_zero, List.getElem?_cons_succ, Option.getD_some] at hu_; subst hu_; simp only [splice, vcells_int, vcells_bool, vcells_string, vcells_pointer, vcells_slice, vcells_map, vcells_func, vcells_nilFunc, vcells_iface, vcells_nilIface, vcells_agg, List.take_zero, List.take_succ_cons, List.drop_zero, List.drop_succ_cons, List.length_cons, List.length_nil, List.nil_append, List.cons_append, List.append_nil, Nat.zero_add, List.set_cons_zero, List.set_cons_succ] at H1; (try clear b0); have b0 := H1.cells 0 rfl; simp only [cellsAre, and_true, Nat.zero_add] at b0)
        | ((go_at_call 4; (with_reducible refine (FL.out _ l H1.below).mono ?_); rintro e w2 ⟨rfl, H2'⟩; rw [E1.out]; have H2 := H1.call H2'; simp only [List.nil_append] at H2; clear H2'; (try clear b0)); (try clear b0); have b0 := H2.cells 0 rfl; simp only [cellsAre, and_true, Nat.zero_add] at b0)
        | ((go_at_call 5; (with_reducible refine (FS.out _ H2.below).mono ?_); rintro e w3 ⟨rfl, H3'⟩; rw [E2.out]; have H3 := H2.call H3'; simp only [List.nil_append] at H3; clear H3'; (try clear b0)); (try clear b0); have b0 := H3.cells 0 rfl; simp only [cellsAre, and_true, Nat.zero_add] at b0)
        | ((go_at_call 6; (with_reducible refine (HA.out _ H3.below).mono ?_); rintro e w4 ⟨rfl, H4'⟩; have H4 := H3.call H4'; simp only [List.nil_append] at H4; clear H4'; (try clear b0)); (try clear b0); have b0 := H4.cells 0 rfl; simp only [cellsAre, and_true, Nat.zero_add] at b0))
      go_ret
      exact ⟨rfl, (Mem.none H4)⟩
  · have k1 : ((a.length : Int) == (ch.length : Int)) = false := by simp; omega
    have k3 : ((a.length : Int) != (ch.length : Int)) = true := by simp; omega
    have E1 : Hd (allB alikeF ch l a b = false) := ⟨by unfold allB; rw [decide_eq_false h1]; simp⟩
    have E2 : Hd (allB sameF ch l a b = false) := ⟨by unfold allB; rw [decide_eq_false h1]; simp⟩
    clear h1
    go_wp2_with (first
      | ((with_reducible refine at_box ?_); refine wpList_box_box H0 ?_; intro u_ gH1 wH1 hu_ H1; simp only [Act.eval, Act.put, List.setIfInBounds_toArray, List.set_cons_zero, List.set_cons_succ, Array.getD_eq_getD_getElem?, List.getElem?_toArray, List.getElem?_cons_zero, List.getElem?_cons_succ, Option.getD_some] at hu_; subst hu_; simp only [splice, vcells_int, vcells_bool, vcells_string, vcells_pointer, vcells_slice, vcells_map, vcells_func, vcells_nilFunc, vcells_iface, vcells_nilIface, vcells_agg, List.take_zero, List.take_succ_cons, List.drop_zero, List.drop_succ_cons, List.length_cons, List.length_nil, List.nil_append, List.cons_append, List.append_nil, Nat.zero_add, List.set_cons_zero, List.set_cons_succ] at H1; (try clear b0); have b0 := H1.cells 0 rfl; simp only [cellsAre, and_true, Nat.zero_add] at b0)
      | ((go_at_call 4; (with_reducible refine (FL.out _ l H1.below).mono ?_); rintro e w2 ⟨rfl, H2'⟩; rw [E1.out]; have H2 := H1.call H2'; simp only [List.nil_append] at H2; clear H2'; (try clear b0)); (try clear b0); have b0 := H2.cells 0 rfl; simp only [cellsAre, and_true, Nat.zero_add] at b0)
      | ((go_at_call 5; (with_reducible refine (FS.out _ H2.below).mono ?_); rintro e w3 ⟨rfl, H3'⟩; rw [E2.out]; have H3 := H2.call H3'; simp only [List.nil_append] at H3; clear H3'; (try clear b0)); (try clear b0); have b0 := H3.cells 0 rfl; simp only [cellsAre, and_true, Nat.zero_add] at b0)
      | ((go_at_call 6; (with_reducible refine (HA.out _ H3.below).mono ?_); rintro e w4 ⟨rfl, H4'⟩; have H4 := H3.call H4'; simp only [List.nil_append] at H4; clear H4'; (try clear b0)); (try clear b0); have b0 := H4.cells 0 rfl; simp only [cellsAre, and_true, Nat.zero_add] at b0))
    go_ret
    exact ⟨rfl, (Mem.none H4)⟩
end Go.Proofs.YtjgaacpiflmljaaDoor
