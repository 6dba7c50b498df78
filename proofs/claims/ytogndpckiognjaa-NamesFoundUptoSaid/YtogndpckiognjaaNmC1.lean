/- Names: the checker: what is declared. -/
import Derived.Test.YtogndpckiognjaaNmM
namespace Go.Proofs.Ytogndpckiognjaa
open Go.RowKit Go.Maps
set_option linter.unusedVariables false
set_option linter.unusedSimpArgs false
set_option maxHeartbeats 2000000
theorem Mem.cell1 {w0 w : World} {As : List HP} {T : TypeId} {g : Nat} {v : Value} (H : Mem w0 w As) (i : Nat) (hi : As[i]? = some (box g T #[v])) : w.cell? ⟨g, 0, Option.none⟩ = some v := by
  have := (H.box_cell i hi).1 0
  simpa using this
/-- One thing that is declared. -/
def oneF (np : Nat) (n i most : Int) (nm : ByteArray) (long l : Int) (ns : List ByteArray) (x : Flt) : Flt :=
  tellF (foreignF np l) 10 (-1) n (tellF (decide (long < 1 ∨ 256 < long)) 1 (-1) n (tellF (decide (0 < cntN ns nm)) 70 (-1) n (tellF (!nameOk nm) 1 (-1) n (tellF (decide (most ≤ i)) 74 (-1) n x))))
set_option maxRecDepth 100000 in
theorem one_calls {w0 w : World} {As : List HP} {gc g5 g6 g7 M np : Nat} {h : SrcH} {x : Flt} (hp : h.p.n = np) (hnp : np ≤ 2000000) (n i most long l : Int) (nm : ByteArray) (ns : List ByteArray) (hn : 0 ≤ n ∧ n ≤ 100000000) (hns : ns.length ≤ 100000000) (hnm : nm.size ≤ 2000000)
    (H : Mem w0 w (ckB gc h x :: box g5 65 #[pt gc] :: box g6 3 #[.int .i64 n] :: box g7 84 #[.map (some M)] :: mapP M ns :: As)) :
    Calls Try.prog 33 #[.int .i64 i, .int .i64 most, .string nm, .int .i64 long, .int .u64 l, pt g5, pt g6, pt g7] w fun e w' => e = .returned (.tuple #[]) ∧ Mem w0 w' (ckB gc h (oneF np n i most nm long l ns x) :: box g5 65 #[pt gc] :: box g6 3 #[.int .i64 (n + 1)] :: box g7 84 #[.map (some M)] :: mapP M (ns ++ [nm]) :: As) := by
  obtain ⟨hn0, hn1⟩ := hn
  have HP := hid hp
  clear hp
  have c5 := H.cell1 1 rfl
  have c6 := H.cell1 2 rfl
  have c7 := H.cell1 3 rfl
  have hcn := cntN_le ns nm
  obtain ⟨cn, hcne⟩ : ∃ cn, cntN ns nm = cn := ⟨_, rfl⟩
  rw [hcne] at hcn
  have HCN := hid hcne
  clear hcne
  obtain ⟨hcn0, hcn1⟩ := hcn
  by_cases q1 : long < 1
  · have hb3 : decide (long < 1 ∨ 256 < long) = true := decide_eq_true (.inl q1)
    have HB3 := hid hb3
    clear hb3
    go_enter Try.func33, Try.ntmps33
    go_wp2_with (first
      | ((go_at_call 31; (with_reducible refine (tell_calls (decide (most ≤ i)) 74 (-1) n H).mono ?_); rintro e w1 ⟨rfl, H1⟩); (try clear c5 c6 c7); have c5 := H1.cell1 1 rfl; have c6 := H1.cell1 2 rfl; have c7 := H1.cell1 3 rfl))
    refine wp_region_B (fun _ => false) (fun w' => w'.cell? ⟨g5, 0, none⟩ = some (pt gc) ∧ w'.cell? ⟨g6, 0, none⟩ = some (.int .i64 n)) (by kernel_rfl) ?_
    have H2 := H1.drew
    obtain ⟨w2, hw⟩ : ∃ w2, w2 = w1.drew := ⟨_, rfl⟩
    rw [← hw] at H2 ⊢
    clear hw
    have hS : w2.cell? ⟨g5, 0, none⟩ = some (pt gc) ∧ w2.cell? ⟨g6, 0, none⟩ = some (.int .i64 n) := ⟨H2.cell1 1 rfl, H2.cell1 2 rfl⟩
    refine wpAnyB_take' (i := 0) (v := pt gc) rfl (by kernel_rfl) (by kernel_rfl) rfl (by kernel_rfl) (by kernel_rfl) (fun _ _ _ h => h) (by rfl) hS (by intro w' hS'; obtain ⟨k1, k2⟩ := hS'; first | (go_simp; done) | (go_simp; rfl) | (go_simp; omega) | (go_simp; assumption)) ?_
    simp only [Act.put, List.setIfInBounds_toArray, List.set_cons_zero, List.set_cons_succ]
    refine wpAnyB_take' (i := 1) (v := .string nm) rfl (by kernel_rfl) (by kernel_rfl) rfl (by kernel_rfl) (by kernel_rfl) (fun _ _ _ h => h) (by rfl) hS (by intro w' hS'; obtain ⟨k1, k2⟩ := hS'; first | (go_simp; done) | (go_simp; rfl) | (go_simp; omega) | (go_simp; assumption)) ?_
    simp only [Act.put, List.setIfInBounds_toArray, List.set_cons_zero, List.set_cons_succ]
    refine wpAnyB_take' (i := 4) (v := I n) rfl (by kernel_rfl) (by kernel_rfl) rfl (by kernel_rfl) (by kernel_rfl) (fun _ _ _ h => h) (by rfl) hS (by intro w' hS'; obtain ⟨k1, k2⟩ := hS'; first | (go_simp; done) | (go_simp; rfl) | (go_simp; omega) | (go_simp; assumption)) ?_
    simp only [Act.put, List.setIfInBounds_toArray, List.set_cons_zero, List.set_cons_succ]
    refine wpAnyB_call (i := 2) rfl (by kernel_rfl) (by rfl) (by first | rfl | (go_simp; done) | (go_simp; rfl)) (name_calls nm w2 hnm) ?_
    rintro e w3 ⟨rfl, H3'⟩
    have H3 := H2.call H3'
    simp only [List.nil_append, List.cons_append] at H3
    clear hS H3'
    have hS : w3.cell? ⟨g5, 0, none⟩ = some (pt gc) ∧ w3.cell? ⟨g6, 0, none⟩ = some (.int .i64 n) := ⟨H3.cell1 1 rfl, H3.cell1 2 rfl⟩
    refine ⟨_, rfl, fun _ => hS, ?_⟩
    simp only [Act.put, List.setIfInBounds_toArray, List.set_cons_zero, List.set_cons_succ]
    refine wpAnyB_take' (i := 3) (v := .bool (!nameOk nm)) rfl (by kernel_rfl) (by kernel_rfl) rfl (by kernel_rfl) (by kernel_rfl) (fun _ _ _ h => h) (by rfl) hS (by intro w' hS'; obtain ⟨k1, k2⟩ := hS'; first | (go_simp; done) | (go_simp; rfl) | (go_simp; omega) | (go_simp; assumption)) ?_
    simp only [Act.put, List.setIfInBounds_toArray, List.set_cons_zero, List.set_cons_succ]
    refine wpAnyB_call (i := 5) rfl (by kernel_rfl) (by rfl) (by first | rfl | (go_simp; done) | (go_simp; rfl)) (tell_calls (!nameOk nm) 1 (-1) n H3) ?_
    rintro e w4 ⟨rfl, H4⟩
    clear hS
    have hS : w4.cell? ⟨g5, 0, none⟩ = some (pt gc) ∧ w4.cell? ⟨g6, 0, none⟩ = some (.int .i64 n) := ⟨H4.cell1 1 rfl, H4.cell1 2 rfl⟩
    refine ⟨_, rfl, fun _ => hS, ?_⟩
    simp only [Act.put, List.setIfInBounds_toArray, List.set_cons_zero, List.set_cons_succ]
    refine wpAnyB_done (by kernel_rfl) ?_ _
    clear hS
    (try clear c5 c6 c7)
    have c5 := H4.cell1 1 rfl
    have c6 := H4.cell1 2 rfl
    have c7 := H4.cell1 3 rfl
    go_wp2_with (first
      | (at_lookup; refine wpList_lookup_map rfl _ _ rfl H4 4 rfl rfl rfl hnm ?_; rw [HCN.out])
      | ((go_at_call 31; (with_reducible refine (tell_calls (decide (0 < cn)) 70 (-1) n H4).mono ?_); rintro e w5 ⟨rfl, H5⟩); (try clear c5 c6 c7); have c5 := H5.cell1 1 rfl; have c6 := H5.cell1 2 rfl; have c7 := H5.cell1 3 rfl)
      | ((go_at_call 31; (with_reducible refine (tell_calls (true) 1 (-1) n H5).mono ?_); rintro e w6 ⟨rfl, H6⟩); (try clear c5 c6 c7); have c5 := H6.cell1 1 rfl; have c6 := H6.cell1 2 rfl; have c7 := H6.cell1 3 rfl))
    refine wp_region_B (fun _ => false) (fun w' => w'.cell? ⟨g5, 0, none⟩ = some (pt gc) ∧ w'.cell? ⟨g6, 0, none⟩ = some (.int .i64 n)) (by kernel_rfl) ?_
    have H7 := H6.drew
    obtain ⟨w7, hw⟩ : ∃ w2, w2 = w6.drew := ⟨_, rfl⟩
    rw [← hw] at H7 ⊢
    clear hw
    have hS : w7.cell? ⟨g5, 0, none⟩ = some (pt gc) ∧ w7.cell? ⟨g6, 0, none⟩ = some (.int .i64 n) := ⟨H7.cell1 1 rfl, H7.cell1 2 rfl⟩
    refine wpAnyB_take' (i := 0) (v := pt gc) rfl (by kernel_rfl) (by kernel_rfl) rfl (by kernel_rfl) (by kernel_rfl) (fun _ _ _ h => h) (by rfl) hS (by intro w' hS'; obtain ⟨k1, k2⟩ := hS'; first | (go_simp; done) | (go_simp; rfl) | (go_simp; omega) | (go_simp; assumption)) ?_
    simp only [Act.put, List.setIfInBounds_toArray, List.set_cons_zero, List.set_cons_succ]
    refine wpAnyB_take' (i := 1) (v := pt gc) rfl (by kernel_rfl) (by kernel_rfl) rfl (by kernel_rfl) (by kernel_rfl) (fun _ _ _ h => h) (by rfl) hS (by intro w' hS'; obtain ⟨k1, k2⟩ := hS'; first | (go_simp; done) | (go_simp; rfl) | (go_simp; omega) | (go_simp; assumption)) ?_
    simp only [Act.put, List.setIfInBounds_toArray, List.set_cons_zero, List.set_cons_succ]
    refine wpAnyB_take' (i := 2) (v := .int .u64 l) rfl (by kernel_rfl) (by kernel_rfl) rfl (by kernel_rfl) (by kernel_rfl) (fun _ _ _ h => h) (by rfl) hS (by intro w' hS'; obtain ⟨k1, k2⟩ := hS'; first | (go_simp; done) | (go_simp; rfl) | (go_simp; omega) | (go_simp; assumption)) ?_
    simp only [Act.put, List.setIfInBounds_toArray, List.set_cons_zero, List.set_cons_succ]
    refine wpAnyB_take' (i := 4) (v := I n) rfl (by kernel_rfl) (by kernel_rfl) rfl (by kernel_rfl) (by kernel_rfl) (fun _ _ _ h => h) (by rfl) hS (by intro w' hS'; obtain ⟨k1, k2⟩ := hS'; first | (go_simp; done) | (go_simp; rfl) | (go_simp; omega) | (go_simp; assumption)) ?_
    simp only [Act.put, List.setIfInBounds_toArray, List.set_cons_zero, List.set_cons_succ]
    refine wpAnyB_call (i := 3) rfl (by kernel_rfl) (by rfl) (by first | rfl | (go_simp; done) | (go_simp; rfl)) (foreign_calls l np HP.out hnp H7) ?_
    rintro e w8 ⟨rfl, hw8⟩
    rw [hw8]
    refine ⟨_, rfl, fun _ => hS, ?_⟩
    simp only [Act.put, List.setIfInBounds_toArray, List.set_cons_zero, List.set_cons_succ]
    refine wpAnyB_call (i := 5) rfl (by kernel_rfl) (by rfl) (by first | rfl | (go_simp; done) | (go_simp; rfl)) (tell_calls (foreignF np l) 10 (-1) n H7) ?_
    rintro e w9 ⟨rfl, H9⟩
    clear hS
    have hS : w9.cell? ⟨g5, 0, none⟩ = some (pt gc) ∧ w9.cell? ⟨g6, 0, none⟩ = some (.int .i64 n) := ⟨H9.cell1 1 rfl, H9.cell1 2 rfl⟩
    refine ⟨_, rfl, fun _ => hS, ?_⟩
    simp only [Act.put, List.setIfInBounds_toArray, List.set_cons_zero, List.set_cons_succ]
    refine wpAnyB_done (by kernel_rfl) ?_ _
    clear hS
    (try clear c5 c6 c7)
    have c5 := H9.cell1 1 rfl
    have c6 := H9.cell1 2 rfl
    have c7 := H9.cell1 3 rfl
    go_wp2_with (first
      | (at_lookup; refine wpList_lookup_map rfl _ _ rfl H9 4 rfl rfl rfl hnm ?_; rw [HCN.out])
      | (at_mapUpdate; refine wpList_update_map rfl _ _ _ rfl H9 4 rfl rfl rfl (by rw [HCN.out]; first | rfl | (go_simp; done) | (go_simp; rfl)) hnm (by omega) ?_; intro w10 H10; simp only [List.set_cons_zero, List.set_cons_succ] at H10; (try clear c5 c6 c7); have c5 := H10.cell1 1 rfl; have c6 := H10.cell1 2 rfl; have c7 := H10.cell1 3 rfl)
      | ((with_reducible refine at_store ?_); refine wpList_store_box H10 2 1 rfl rfl (by kernel_rfl) rfl (Nat.le_of_ble_eq_true rfl) rfl ?_; intro u_ wH11 hu_ H11; simp only [Act.eval, Act.put, List.setIfInBounds_toArray, List.set_cons_zero, List.set_cons_succ, Array.getD_eq_getD_getElem?, List.getElem?_toArray, List.getElem?_cons_zero, List.getElem?_cons_succ, Option.getD_some] at hu_; subst hu_; simp only [splice, vcells_int, vcells_bool, vcells_string, vcells_pointer, vcells_slice, vcells_map, vcells_func, vcells_nilFunc, vcells_iface, vcells_nilIface, vcells_agg, List.take_zero, List.take_succ_cons, List.drop_zero, List.drop_succ_cons, List.length_cons, List.length_nil, List.nil_append, List.cons_append, List.append_nil, Nat.zero_add, List.set_cons_zero, List.set_cons_succ] at H11))
    go_end0
    have hv : oneF np n i most nm long l ns x = tellF (foreignF np l) 10 (-1) n (tellF (true) 1 (-1) n (tellF (decide (0 < cn)) 70 (-1) n (tellF (!nameOk nm) 1 (-1) n (tellF (decide (most ≤ i)) 74 (-1) n x)))) := by unfold oneF; rw [HCN.out, HB3.out]
    rw [hv]
    exact ⟨rfl, H11⟩
  · have q1' : decide (long < 1) = false := decide_eq_false q1
    have hb3 : decide (long < 1 ∨ 256 < long) = decide (256 < long) := by simp [q1]
    have HB3 := hid hb3
    clear hb3 q1
    go_enter Try.func33, Try.ntmps33
    go_wp2_with (first
      | ((go_at_call 31; (with_reducible refine (tell_calls (decide (most ≤ i)) 74 (-1) n H).mono ?_); rintro e w1 ⟨rfl, H1⟩); (try clear c5 c6 c7); have c5 := H1.cell1 1 rfl; have c6 := H1.cell1 2 rfl; have c7 := H1.cell1 3 rfl))
    refine wp_region_B (fun _ => false) (fun w' => w'.cell? ⟨g5, 0, none⟩ = some (pt gc) ∧ w'.cell? ⟨g6, 0, none⟩ = some (.int .i64 n)) (by kernel_rfl) ?_
    have H2 := H1.drew
    obtain ⟨w2, hw⟩ : ∃ w2, w2 = w1.drew := ⟨_, rfl⟩
    rw [← hw] at H2 ⊢
    clear hw
    have hS : w2.cell? ⟨g5, 0, none⟩ = some (pt gc) ∧ w2.cell? ⟨g6, 0, none⟩ = some (.int .i64 n) := ⟨H2.cell1 1 rfl, H2.cell1 2 rfl⟩
    refine wpAnyB_take' (i := 0) (v := pt gc) rfl (by kernel_rfl) (by kernel_rfl) rfl (by kernel_rfl) (by kernel_rfl) (fun _ _ _ h => h) (by rfl) hS (by intro w' hS'; obtain ⟨k1, k2⟩ := hS'; first | (go_simp; done) | (go_simp; rfl) | (go_simp; omega) | (go_simp; assumption)) ?_
    simp only [Act.put, List.setIfInBounds_toArray, List.set_cons_zero, List.set_cons_succ]
    refine wpAnyB_take' (i := 1) (v := .string nm) rfl (by kernel_rfl) (by kernel_rfl) rfl (by kernel_rfl) (by kernel_rfl) (fun _ _ _ h => h) (by rfl) hS (by intro w' hS'; obtain ⟨k1, k2⟩ := hS'; first | (go_simp; done) | (go_simp; rfl) | (go_simp; omega) | (go_simp; assumption)) ?_
    simp only [Act.put, List.setIfInBounds_toArray, List.set_cons_zero, List.set_cons_succ]
    refine wpAnyB_take' (i := 4) (v := I n) rfl (by kernel_rfl) (by kernel_rfl) rfl (by kernel_rfl) (by kernel_rfl) (fun _ _ _ h => h) (by rfl) hS (by intro w' hS'; obtain ⟨k1, k2⟩ := hS'; first | (go_simp; done) | (go_simp; rfl) | (go_simp; omega) | (go_simp; assumption)) ?_
    simp only [Act.put, List.setIfInBounds_toArray, List.set_cons_zero, List.set_cons_succ]
    refine wpAnyB_call (i := 2) rfl (by kernel_rfl) (by rfl) (by first | rfl | (go_simp; done) | (go_simp; rfl)) (name_calls nm w2 hnm) ?_
    rintro e w3 ⟨rfl, H3'⟩
    have H3 := H2.call H3'
    simp only [List.nil_append, List.cons_append] at H3
    clear hS H3'
    have hS : w3.cell? ⟨g5, 0, none⟩ = some (pt gc) ∧ w3.cell? ⟨g6, 0, none⟩ = some (.int .i64 n) := ⟨H3.cell1 1 rfl, H3.cell1 2 rfl⟩
    refine ⟨_, rfl, fun _ => hS, ?_⟩
    simp only [Act.put, List.setIfInBounds_toArray, List.set_cons_zero, List.set_cons_succ]
    refine wpAnyB_take' (i := 3) (v := .bool (!nameOk nm)) rfl (by kernel_rfl) (by kernel_rfl) rfl (by kernel_rfl) (by kernel_rfl) (fun _ _ _ h => h) (by rfl) hS (by intro w' hS'; obtain ⟨k1, k2⟩ := hS'; first | (go_simp; done) | (go_simp; rfl) | (go_simp; omega) | (go_simp; assumption)) ?_
    simp only [Act.put, List.setIfInBounds_toArray, List.set_cons_zero, List.set_cons_succ]
    refine wpAnyB_call (i := 5) rfl (by kernel_rfl) (by rfl) (by first | rfl | (go_simp; done) | (go_simp; rfl)) (tell_calls (!nameOk nm) 1 (-1) n H3) ?_
    rintro e w4 ⟨rfl, H4⟩
    clear hS
    have hS : w4.cell? ⟨g5, 0, none⟩ = some (pt gc) ∧ w4.cell? ⟨g6, 0, none⟩ = some (.int .i64 n) := ⟨H4.cell1 1 rfl, H4.cell1 2 rfl⟩
    refine ⟨_, rfl, fun _ => hS, ?_⟩
    simp only [Act.put, List.setIfInBounds_toArray, List.set_cons_zero, List.set_cons_succ]
    refine wpAnyB_done (by kernel_rfl) ?_ _
    clear hS
    (try clear c5 c6 c7)
    have c5 := H4.cell1 1 rfl
    have c6 := H4.cell1 2 rfl
    have c7 := H4.cell1 3 rfl
    go_wp2_with (first
      | (at_lookup; refine wpList_lookup_map rfl _ _ rfl H4 4 rfl rfl rfl hnm ?_; rw [HCN.out])
      | ((go_at_call 31; (with_reducible refine (tell_calls (decide (0 < cn)) 70 (-1) n H4).mono ?_); rintro e w5 ⟨rfl, H5⟩); (try clear c5 c6 c7); have c5 := H5.cell1 1 rfl; have c6 := H5.cell1 2 rfl; have c7 := H5.cell1 3 rfl)
      | ((go_at_call 31; (with_reducible refine (tell_calls (decide (256 < long)) 1 (-1) n H5).mono ?_); rintro e w6 ⟨rfl, H6⟩); (try clear c5 c6 c7); have c5 := H6.cell1 1 rfl; have c6 := H6.cell1 2 rfl; have c7 := H6.cell1 3 rfl))
    refine wp_region_B (fun _ => false) (fun w' => w'.cell? ⟨g5, 0, none⟩ = some (pt gc) ∧ w'.cell? ⟨g6, 0, none⟩ = some (.int .i64 n)) (by kernel_rfl) ?_
    have H7 := H6.drew
    obtain ⟨w7, hw⟩ : ∃ w2, w2 = w6.drew := ⟨_, rfl⟩
    rw [← hw] at H7 ⊢
    clear hw
    have hS : w7.cell? ⟨g5, 0, none⟩ = some (pt gc) ∧ w7.cell? ⟨g6, 0, none⟩ = some (.int .i64 n) := ⟨H7.cell1 1 rfl, H7.cell1 2 rfl⟩
    refine wpAnyB_take' (i := 0) (v := pt gc) rfl (by kernel_rfl) (by kernel_rfl) rfl (by kernel_rfl) (by kernel_rfl) (fun _ _ _ h => h) (by rfl) hS (by intro w' hS'; obtain ⟨k1, k2⟩ := hS'; first | (go_simp; done) | (go_simp; rfl) | (go_simp; omega) | (go_simp; assumption)) ?_
    simp only [Act.put, List.setIfInBounds_toArray, List.set_cons_zero, List.set_cons_succ]
    refine wpAnyB_take' (i := 1) (v := pt gc) rfl (by kernel_rfl) (by kernel_rfl) rfl (by kernel_rfl) (by kernel_rfl) (fun _ _ _ h => h) (by rfl) hS (by intro w' hS'; obtain ⟨k1, k2⟩ := hS'; first | (go_simp; done) | (go_simp; rfl) | (go_simp; omega) | (go_simp; assumption)) ?_
    simp only [Act.put, List.setIfInBounds_toArray, List.set_cons_zero, List.set_cons_succ]
    refine wpAnyB_take' (i := 2) (v := .int .u64 l) rfl (by kernel_rfl) (by kernel_rfl) rfl (by kernel_rfl) (by kernel_rfl) (fun _ _ _ h => h) (by rfl) hS (by intro w' hS'; obtain ⟨k1, k2⟩ := hS'; first | (go_simp; done) | (go_simp; rfl) | (go_simp; omega) | (go_simp; assumption)) ?_
    simp only [Act.put, List.setIfInBounds_toArray, List.set_cons_zero, List.set_cons_succ]
    refine wpAnyB_take' (i := 4) (v := I n) rfl (by kernel_rfl) (by kernel_rfl) rfl (by kernel_rfl) (by kernel_rfl) (fun _ _ _ h => h) (by rfl) hS (by intro w' hS'; obtain ⟨k1, k2⟩ := hS'; first | (go_simp; done) | (go_simp; rfl) | (go_simp; omega) | (go_simp; assumption)) ?_
    simp only [Act.put, List.setIfInBounds_toArray, List.set_cons_zero, List.set_cons_succ]
    refine wpAnyB_call (i := 3) rfl (by kernel_rfl) (by rfl) (by first | rfl | (go_simp; done) | (go_simp; rfl)) (foreign_calls l np HP.out hnp H7) ?_
    rintro e w8 ⟨rfl, hw8⟩
    rw [hw8]
    refine ⟨_, rfl, fun _ => hS, ?_⟩
    simp only [Act.put, List.setIfInBounds_toArray, List.set_cons_zero, List.set_cons_succ]
    refine wpAnyB_call (i := 5) rfl (by kernel_rfl) (by rfl) (by first | rfl | (go_simp; done) | (go_simp; rfl)) (tell_calls (foreignF np l) 10 (-1) n H7) ?_
    rintro e w9 ⟨rfl, H9⟩
    clear hS
    have hS : w9.cell? ⟨g5, 0, none⟩ = some (pt gc) ∧ w9.cell? ⟨g6, 0, none⟩ = some (.int .i64 n) := ⟨H9.cell1 1 rfl, H9.cell1 2 rfl⟩
    refine ⟨_, rfl, fun _ => hS, ?_⟩
    simp only [Act.put, List.setIfInBounds_toArray, List.set_cons_zero, List.set_cons_succ]
    refine wpAnyB_done (by kernel_rfl) ?_ _
    clear hS
    (try clear c5 c6 c7)
    have c5 := H9.cell1 1 rfl
    have c6 := H9.cell1 2 rfl
    have c7 := H9.cell1 3 rfl
    go_wp2_with (first
      | (at_lookup; refine wpList_lookup_map rfl _ _ rfl H9 4 rfl rfl rfl hnm ?_; rw [HCN.out])
      | (at_mapUpdate; refine wpList_update_map rfl _ _ _ rfl H9 4 rfl rfl rfl (by rw [HCN.out]; first | rfl | (go_simp; done) | (go_simp; rfl)) hnm (by omega) ?_; intro w10 H10; simp only [List.set_cons_zero, List.set_cons_succ] at H10; (try clear c5 c6 c7); have c5 := H10.cell1 1 rfl; have c6 := H10.cell1 2 rfl; have c7 := H10.cell1 3 rfl)
      | ((with_reducible refine at_store ?_); refine wpList_store_box H10 2 1 rfl rfl (by kernel_rfl) rfl (Nat.le_of_ble_eq_true rfl) rfl ?_; intro u_ wH11 hu_ H11; simp only [Act.eval, Act.put, List.setIfInBounds_toArray, List.set_cons_zero, List.set_cons_succ, Array.getD_eq_getD_getElem?, List.getElem?_toArray, List.getElem?_cons_zero, List.getElem?_cons_succ, Option.getD_some] at hu_; subst hu_; simp only [splice, vcells_int, vcells_bool, vcells_string, vcells_pointer, vcells_slice, vcells_map, vcells_func, vcells_nilFunc, vcells_iface, vcells_nilIface, vcells_agg, List.take_zero, List.take_succ_cons, List.drop_zero, List.drop_succ_cons, List.length_cons, List.length_nil, List.nil_append, List.cons_append, List.append_nil, Nat.zero_add, List.set_cons_zero, List.set_cons_succ] at H11))
    go_end0
    have hv : oneF np n i most nm long l ns x = tellF (foreignF np l) 10 (-1) n (tellF (decide (256 < long)) 1 (-1) n (tellF (decide (0 < cn)) 70 (-1) n (tellF (!nameOk nm) 1 (-1) n (tellF (decide (most ≤ i)) 74 (-1) n x)))) := by unfold oneF; rw [HCN.out, HB3.out]
    rw [hv]
    exact ⟨rfl, H11⟩
end Go.Proofs.Ytogndpckiognjaa
