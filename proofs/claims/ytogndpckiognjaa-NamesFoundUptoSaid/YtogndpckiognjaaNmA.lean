/- Names: finding a name in a list of things; what is declared for all. -/
import Derived.Test.YtogndpckiognjaaNmElt
import Derived.Test.YtogndpckiognjaaDrawn
namespace Go.Proofs.Ytogndpckiognjaa
open Go.RowKit
set_option linter.unusedVariables false
set_option linter.unusedSimpArgs false
set_option maxHeartbeats 1000000
theorem sEq {s t : ByteArray} (h : s = t) : (s.toList == t.toList) = true := by rw [h]; simp
theorem sNe {s t : ByteArray} (h : ¬ s = t) : (s.toList == t.toList) = false := by
  apply beq_false_of_ne
  intro h2
  apply h
  rw [ByteArray.toList_eq, ByteArray.toList_eq] at h2
  exact ByteArray.ext (Array.toList_inj.mp h2)
theorem sDec (s t : ByteArray) : (s.toList == t.toList) = decide (s = t) := by
  by_cases h : s = t
  · rw [sEq h, decide_eq_true h]
  · rw [sNe h, decide_eq_false h]
def turnN (s f t : ByteArray) : ByteArray := if s = f then t else s
theorem turned_calls (s f t : ByteArray) (w : World) : Calls Try.prog 13 #[.string s, .string f, .string t] w fun e w' => e = .returned (.string (turnN s f t)) ∧ w' = w := by
  by_cases h : s = f
  · have hr : turnN s f t = t := by unfold turnN; rw [if_pos h]
    have HR := hid hr
    clear hr
    have g := sEq h
    have HH := hid h
    clear h
    go_enter Try.func13, Try.ntmps13
    go_wp2
    go_ret
    rw [HR.out]
    exact ⟨rfl, rfl⟩
  · have hr : turnN s f t = s := by unfold turnN; rw [if_neg h]
    have HR := hid hr
    clear hr
    have g := sNe h
    have HH := hid h
    clear h
    go_enter Try.func13, Try.ntmps13
    go_wp2
    go_ret
    rw [HR.out]
    exact ⟨rfl, rfl⟩
theorem ofDecl_calls (x : Decl) (w : World) : Calls Try.prog 27 #[x.val] w fun e w' => e = .returned (.string x.name) ∧ Mem w w' [] := by
  have H0 := Mem.refl w
  go_enter Try.func27, Try.ntmps27
  go_wp2_with (first | ((with_reducible refine at_box ?_); refine wpList_box_box H0 ?_; intro u_ gH1 wH1 hu_ H1; simp only [Act.eval, Act.put, List.setIfInBounds_toArray, List.set_cons_zero, List.set_cons_succ, Array.getD_eq_getD_getElem?, List.getElem?_toArray, List.getElem?_cons_zero, List.getElem?_cons_succ, Option.getD_some] at hu_; subst hu_; simp only [splice, vcells_int, vcells_bool, vcells_string, vcells_pointer, vcells_slice, vcells_map, vcells_func, vcells_nilFunc, vcells_iface, vcells_nilIface, vcells_agg, List.take_zero, List.take_succ_cons, List.drop_zero, List.drop_succ_cons, List.length_cons, List.length_nil, List.nil_append, List.cons_append, List.append_nil, Nat.zero_add, List.set_cons_zero, List.set_cons_succ] at H1; (try clear b0); have b0 := H1.cells 0 rfl; simp only [cellsAre, and_true, Nat.zero_add] at b0))
  go_ret
  exact ⟨rfl, H1.drop 0⟩
theorem ofArray_calls (x : Arr) (w : World) : Calls Try.prog 47 #[x.val] w fun e w' => e = .returned (.string x.name) ∧ Mem w w' [] := by
  have H0 := Mem.refl w
  go_enter Try.func47, Try.ntmps47
  go_wp2_with (first | ((with_reducible refine at_box ?_); refine wpList_box_box H0 ?_; intro u_ gH1 wH1 hu_ H1; simp only [Act.eval, Act.put, List.setIfInBounds_toArray, List.set_cons_zero, List.set_cons_succ, Array.getD_eq_getD_getElem?, List.getElem?_toArray, List.getElem?_cons_zero, List.getElem?_cons_succ, Option.getD_some] at hu_; subst hu_; simp only [splice, vcells_int, vcells_bool, vcells_string, vcells_pointer, vcells_slice, vcells_map, vcells_func, vcells_nilFunc, vcells_iface, vcells_nilIface, vcells_agg, List.take_zero, List.take_succ_cons, List.drop_zero, List.drop_succ_cons, List.length_cons, List.length_nil, List.nil_append, List.cons_append, List.append_nil, Nat.zero_add, List.set_cons_zero, List.set_cons_succ] at H1; (try clear b0); have b0 := H1.cells 0 rfl; simp only [cellsAre, and_true, Nat.zero_add] at b0))
  go_ret
  exact ⟨rfl, H1.drop 0⟩
theorem ofFunc_calls (x : FuncH) (w : World) : Calls Try.prog 49 #[x.val] w fun e w' => e = .returned (.string x.name) ∧ Mem w w' [] := by
  have H0 := Mem.refl w
  go_enter Try.func49, Try.ntmps49
  go_wp2_with (first | ((with_reducible refine at_box ?_); refine wpList_box_box H0 ?_; intro u_ gH1 wH1 hu_ H1; simp only [Act.eval, Act.put, List.setIfInBounds_toArray, List.set_cons_zero, List.set_cons_succ, Array.getD_eq_getD_getElem?, List.getElem?_toArray, List.getElem?_cons_zero, List.getElem?_cons_succ, Option.getD_some] at hu_; subst hu_; simp only [splice, vcells_int, vcells_bool, vcells_string, vcells_pointer, vcells_slice, vcells_map, vcells_func, vcells_nilFunc, vcells_iface, vcells_nilIface, vcells_agg, List.take_zero, List.take_succ_cons, List.drop_zero, List.drop_succ_cons, List.length_cons, List.length_nil, List.nil_append, List.cons_append, List.append_nil, Nat.zero_add, List.set_cons_zero, List.set_cons_succ] at H1; (try clear b0); have b0 := H1.cells 0 rfl; simp only [cellsAre, and_true, Nat.zero_add] at b0))
  go_ret
  exact ⟨rfl, H1.drop 0⟩
-- GEN below is printed by gen_nma.py
/-- The place of the first entry of a list of names that is a name; -1 if none is. -/
def posL : List ByteArray → ByteArray → Nat → Int
  | [], _, _ => -1
  | x :: xs, s, k => if x = s then k else posL xs s (k + 1)
def pos (l : List ByteArray) (s : ByteArray) : Int := posL l s 0
theorem posL_some : ∀ {l : List ByteArray} {s : ByteArray} {n k : Nat}, (∀ j x, j < k → l[j]? = some x → ¬ x = s) → l[k]? = some s → posL l s n = n + k
  | [], s, n, k, _, h => by simp at h
  | x :: xs, s, n, 0, _, h => by
    obtain rfl : x = s := by simpa using h
    unfold posL
    rw [if_pos rfl]
    simp
  | x :: xs, s, n, k + 1, h1, h => by
    unfold posL
    rw [if_neg (h1 0 x (by omega) rfl), posL_some (k := k) (fun j y hj hy => h1 (j + 1) y (by omega) (by simpa using hy)) (by simpa using h)]
    push_cast
    omega
theorem posL_none : ∀ {l : List ByteArray} {s : ByteArray} {n : Nat}, (∀ x ∈ l, ¬ x = s) → posL l s n = -1
  | [], _, _, _ => rfl
  | x :: xs, s, n, h => by
    unfold posL
    rw [if_neg (h x (by simp)), posL_none fun y hy => h y (by simp [hy])]
theorem pos_some {l : List ByteArray} {s : ByteArray} {k : Nat} (h1 : ∀ j x, j < k → l[j]? = some x → ¬ x = s) (h : l[k]? = some s) : pos l s = k := by
  unfold pos
  rw [posL_some h1 h]
  simp
theorem pos_none {l : List ByteArray} {s : ByteArray} (h : ∀ x ∈ l, ¬ x = s) : pos l s = -1 := posL_none h
theorem Mem.none {w0 w : World} {As : List HP} (H : Mem w0 w As) : Mem w0 w [] := by
  obtain ⟨F, hs, hF, hb⟩ := H.out
  exact ⟨fun _ => False, fun _ h => h, fun _ h => h.elim, hb⟩
theorem Rd.get3 {α : Type} {E : Enc α} {w : World} {A : Option Addr} {xs : List α} (h : Rd E w A xs) (hs : E.sz = 3) {k : Nat} {x : α} (hk : xs[k]? = some x) {v0 v1 v2 : Value} (hv : E.enc x = [v0, v1, v2]) : ∃ b o, A = some ⟨b, o, none⟩ ∧ w.cell? ⟨b, o + k * 3, none⟩ = some v0 ∧ w.cell? ⟨b, o + k * 3 + 1, none⟩ = some v1 ∧ w.cell? ⟨b, o + k * 3 + 2, none⟩ = some v2 := by
  obtain ⟨b, o, rfl, hc⟩ := h.get hk
  rw [hs] at hc
  exact ⟨b, o, rfl, by simpa using hc 0 v0 (by rw [hv]; rfl), by simpa [Nat.add_assoc] using hc 1 v1 (by rw [hv]; rfl), by simpa [Nat.add_assoc] using hc 2 v2 (by rw [hv]; rfl)⟩
theorem Rd.get4 {α : Type} {E : Enc α} {w : World} {A : Option Addr} {xs : List α} (h : Rd E w A xs) (hs : E.sz = 4) {k : Nat} {x : α} (hk : xs[k]? = some x) {v0 v1 v2 v3 : Value} (hv : E.enc x = [v0, v1, v2, v3]) : ∃ b o, A = some ⟨b, o, none⟩ ∧ w.cell? ⟨b, o + k * 4, none⟩ = some v0 ∧ w.cell? ⟨b, o + k * 4 + 1, none⟩ = some v1 ∧ w.cell? ⟨b, o + k * 4 + 2, none⟩ = some v2 ∧ w.cell? ⟨b, o + k * 4 + 3, none⟩ = some v3 := by
  obtain ⟨b, o, rfl, hc⟩ := h.get hk
  rw [hs] at hc
  exact ⟨b, o, rfl, by simpa using hc 0 v0 (by rw [hv]; rfl), by simpa [Nat.add_assoc] using hc 1 v1 (by rw [hv]; rfl), by simpa [Nat.add_assoc] using hc 2 v2 (by rw [hv]; rfl), by simpa [Nat.add_assoc] using hc 3 v3 (by rw [hv]; rfl)⟩
theorem Rd.get6 {α : Type} {E : Enc α} {w : World} {A : Option Addr} {xs : List α} (h : Rd E w A xs) (hs : E.sz = 6) {k : Nat} {x : α} (hk : xs[k]? = some x) {v0 v1 v2 v3 v4 v5 : Value} (hv : E.enc x = [v0, v1, v2, v3, v4, v5]) : ∃ b o, A = some ⟨b, o, none⟩ ∧ w.cell? ⟨b, o + k * 6, none⟩ = some v0 ∧ w.cell? ⟨b, o + k * 6 + 1, none⟩ = some v1 ∧ w.cell? ⟨b, o + k * 6 + 2, none⟩ = some v2 ∧ w.cell? ⟨b, o + k * 6 + 3, none⟩ = some v3 ∧ w.cell? ⟨b, o + k * 6 + 4, none⟩ = some v4 ∧ w.cell? ⟨b, o + k * 6 + 5, none⟩ = some v5 := by
  obtain ⟨b, o, rfl, hc⟩ := h.get hk
  rw [hs] at hc
  exact ⟨b, o, rfl, by simpa using hc 0 v0 (by rw [hv]; rfl), by simpa [Nat.add_assoc] using hc 1 v1 (by rw [hv]; rfl), by simpa [Nat.add_assoc] using hc 2 v2 (by rw [hv]; rfl), by simpa [Nat.add_assoc] using hc 3 v3 (by rw [hv]; rfl), by simpa [Nat.add_assoc] using hc 4 v4 (by rw [hv]; rfl), by simpa [Nat.add_assoc] using hc 5 v5 (by rw [hv]; rfl)⟩

set_option maxRecDepth 100000 in
theorem at1Decl_calls (x : Decl) (nm : ByteArray) (g5 g4 : Nat) (w : World) (h5 : w.cell? ⟨g5, 0, none⟩ = some (.func (.func 27) #[] #[])) (h4 : w.cell? ⟨g4, 0, none⟩ = some (.string nm)) :
    Calls Try.prog 45 #[x.val, pt g5, pt g4] w fun e w' => e = .returned (.bool (x.name.toList == nm.toList)) ∧ Mem w w' [] := by
  have H0 := Mem.refl w
  go_enter Try.func45, Try.ntmps45
  go_wp2_with (first | ((with_reducible refine at_box ?_); refine wpList_box_box H0 ?_; intro u_ gH1 wH1 hu_ H1; simp only [Act.eval, Act.put, List.setIfInBounds_toArray, List.set_cons_zero, List.set_cons_succ, Array.getD_eq_getD_getElem?, List.getElem?_toArray, List.getElem?_cons_zero, List.getElem?_cons_succ, Option.getD_some] at hu_; subst hu_; simp only [splice, vcells_int, vcells_bool, vcells_string, vcells_pointer, vcells_slice, vcells_map, vcells_func, vcells_nilFunc, vcells_iface, vcells_nilIface, vcells_agg, List.take_zero, List.take_succ_cons, List.drop_zero, List.drop_succ_cons, List.length_cons, List.length_nil, List.nil_append, List.cons_append, List.append_nil, Nat.zero_add, List.set_cons_zero, List.set_cons_succ] at H1))
  refine wp_region_B (fun _ => false) (fun w' => w'.cell? ⟨g5, 0, none⟩ = some (.func (.func 27) #[] #[]) ∧ w'.cell? ⟨g4, 0, none⟩ = some (.string nm) ∧ w'.cell? ⟨gH1, 0, none⟩ = some (.string x.name) ∧ w'.cell? ⟨gH1, 1, none⟩ = some (.int .u64 x.label)) (by kernel_rfl) ?_
  have H2 := H1.drew
  obtain ⟨w2, hw2⟩ : ∃ w2, w2 = wH1.drew := ⟨_, rfl⟩
  rw [← hw2] at H2 ⊢
  clear hw2
  have hC := H2.cells 0 rfl
  simp only [cellsAre, and_true, Nat.zero_add] at hC
  have hS : w2.cell? ⟨g5, 0, none⟩ = some (.func (.func 27) #[] #[]) ∧ w2.cell? ⟨g4, 0, none⟩ = some (.string nm) ∧ w2.cell? ⟨gH1, 0, none⟩ = some (.string x.name) ∧ w2.cell? ⟨gH1, 1, none⟩ = some (.int .u64 x.label) := by refine ⟨H2.old h5, H2.old h4, hC.1.1, hC.2.1⟩
  clear hC
  refine wpAnyB_take' (i := 0) (v := .func (.func 27) #[] #[]) rfl (by kernel_rfl) (by kernel_rfl) rfl (by kernel_rfl) (by kernel_rfl) (fun _ _ _ h => h) (by rfl) hS (by intro w' hS'; obtain ⟨k1, k2, k3, k4⟩ := hS'; first | (go_simp; done) | (go_simp; rfl) | (go_simp; omega) | (go_simp; assumption)) ?_
  simp only [Act.put, List.setIfInBounds_toArray, List.set_cons_zero, List.set_cons_succ]
  refine wpAnyB_take' (i := 1) (v := .agg #[.string x.name, .int .u64 x.label]) rfl (by kernel_rfl) (by kernel_rfl) rfl (by kernel_rfl) (by kernel_rfl) (fun _ _ _ h => h) (by rfl) hS (by intro w' hS'; obtain ⟨k1, k2, k3, k4⟩ := hS'; first | (go_simp; done) | (go_simp; rfl) | (go_simp; omega) | (go_simp; assumption)) ?_
  simp only [Act.put, List.setIfInBounds_toArray, List.set_cons_zero, List.set_cons_succ]
  refine wpAnyB_take' (i := 3) (v := .string nm) rfl (by kernel_rfl) (by kernel_rfl) rfl (by kernel_rfl) (by kernel_rfl) (fun _ _ _ h => h) (by rfl) hS (by intro w' hS'; obtain ⟨k1, k2, k3, k4⟩ := hS'; first | (go_simp; done) | (go_simp; rfl) | (go_simp; omega) | (go_simp; assumption)) ?_
  simp only [Act.put, List.setIfInBounds_toArray, List.set_cons_zero, List.set_cons_succ]
  refine wpAnyB_call (i := 2) rfl (by kernel_rfl) (by rfl) (by first | rfl | (go_simp; done) | (go_simp; rfl)) (ofDecl_calls x w2) ?_
  rintro e w3 ⟨rfl, H3'⟩
  have H3 := H2.call H3'
  simp only [List.nil_append] at H3
  clear hS H3'
  obtain ⟨b2, b3⟩ : True ∧ True := ⟨trivial, trivial⟩
  have hC := H3.cells 0 rfl
  simp only [cellsAre, and_true, Nat.zero_add] at hC
  have hS : w3.cell? ⟨g5, 0, none⟩ = some (.func (.func 27) #[] #[]) ∧ w3.cell? ⟨g4, 0, none⟩ = some (.string nm) ∧ w3.cell? ⟨gH1, 0, none⟩ = some (.string x.name) ∧ w3.cell? ⟨gH1, 1, none⟩ = some (.int .u64 x.label) := by refine ⟨H3.old h5, H3.old h4, hC.1.1, hC.2.1⟩
  refine ⟨_, rfl, fun _ => hS, ?_⟩
  simp only [Act.put, List.setIfInBounds_toArray, List.set_cons_zero, List.set_cons_succ]
  refine wpAnyB_take' (i := 4) (v := .bool (x.name.toList == nm.toList)) rfl (by kernel_rfl) (by kernel_rfl) rfl (by kernel_rfl) (by kernel_rfl) (fun _ _ _ h => h) (by rfl) hS (by intro w' hS'; obtain ⟨k1, k2, k3, k4⟩ := hS'; first | (go_simp; done) | (go_simp; rfl) | (go_simp; omega) | (go_simp; assumption)) ?_
  simp only [Act.put, List.setIfInBounds_toArray, List.set_cons_zero, List.set_cons_succ]
  refine wpAnyB_take' (i := 5) (v := .bool (x.name.toList == nm.toList)) rfl (by kernel_rfl) (by kernel_rfl) rfl (by kernel_rfl) (by kernel_rfl) (fun _ _ _ h => h) (by rfl) hS (by intro w' hS'; obtain ⟨k1, k2, k3, k4⟩ := hS'; first | (go_simp; done) | (go_simp; rfl) | (go_simp; omega) | (go_simp; assumption)) ?_
  simp only [Act.put, List.setIfInBounds_toArray, List.set_cons_zero, List.set_cons_succ]
  refine wpAnyB_done (by kernel_rfl) ?_ _
  go_wp2
  go_ret
  exact ⟨rfl, H3.none⟩
set_option maxRecDepth 100000 in
theorem indexDecl_calls (A : Option Addr) (c : Nat) (xs : List Decl) (nm : ByteArray) (g5 g4 : Nat) (w : World) (hR : Rd Enc.decl w A xs) (hl : xs.length ≤ 5000000) (h5 : w.cell? ⟨g5, 0, none⟩ = some (.func (.func 27) #[] #[])) (h4 : w.cell? ⟨g4, 0, none⟩ = some (.string nm)) :
    Calls Try.prog 44 #[.slice A xs.length c, .func (.func 45) #[] #[pt g5, pt g4]] w fun e w' => e = .returned (I (pos (xs.map (·.name)) nm)) ∧ Mem w w' [] := by
  have HR := hid hR
  have HC := hid (fun (x : Decl) (w' : World) (hb : Below w.heap.size w w') => at1Decl_calls x nm g5 g4 w' ((hb.cell (World.block_lt_of_cell? w _ h5)).trans h5) ((hb.cell (World.block_lt_of_cell? w _ h4)).trans h4))
  clear hR h5 h4
  have H0 := Mem.refl w
  go_enter Try.func44, Try.ntmps44
  go_wp2
  go_loopw [8] (fun v wr => ∃ k : Nat, v = .int .i64 k ∧ k ≤ xs.length ∧ Hd (∀ (j : Nat) (x : Decl), j < k → xs[j]? = some x → ¬ x.name = nm) ∧ Mem w wr []) (fun v _ => xs.length - (intOf v).toNat)
  case atStart => exact ⟨0, rfl, Nat.zero_le _, ⟨fun j x hj => by omega⟩, H0⟩
  case round =>
    clear H0
    obtain ⟨k, rfl, hk, HT, H1⟩ := hrel
    obtain ⟨wo, rfl⟩ : ∃ wo : World, wo = wr := ⟨_, rfl⟩
    by_cases hlt : k < xs.length
    · obtain ⟨x, hx⟩ : ∃ x, xs[k]? = some x := ⟨_, List.getElem?_eq_getElem hlt⟩
      obtain ⟨b1, o1, rfl, p0, p1⟩ := HR.out.get2 rfl hx rfl
      have e0 := H1.old p0
      have e1 := H1.old p1
      have HX := hid hx
      clear hx p0 p1
      by_cases he : x.name = nm
      · have HE := hid he
        have HF := hid (sEq he)
        clear he
        go_wp2_with (first | (go_at_call 45; (with_reducible refine (HC.out x _ H1.below).mono ?_); rintro e w2 ⟨rfl, H2'⟩; rw [HF.out]; have H2 := H1.call H2'; simp only [List.nil_append] at H2))
        go_ret
        refine ⟨?_, H2⟩
        rw [pos_some (k := k) (fun j y hj hy => ?_) (by rw [List.getElem?_map, HX.out, ← HE.out]; rfl)]
        · rfl
        · rw [List.getElem?_map] at hy
          obtain ⟨z, hz, rfl⟩ := Option.map_eq_some_iff.1 hy
          exact HT.out j z hj hz
      · have HE := hid he
        have HF := hid (sNe he)
        clear he
        go_wp2_with (first | (go_at_call 45; (with_reducible refine (HC.out x _ H1.below).mono ?_); rintro e w2 ⟨rfl, H2'⟩; rw [HF.out]; have H2 := H1.call H2'; simp only [List.nil_append] at H2))
        go_roundw
        case rel =>
          refine ⟨k + 1, by go_num, by omega, ⟨fun j z hj hz => ?_⟩, H2⟩
          rcases Nat.lt_or_ge j k with h | h
          · exact HT.out j z h hz
          · obtain rfl : j = k := by omega
            rw [HX.out] at hz
            obtain rfl := Option.some.inj hz
            exact HE.out
        case measure => first | (simp [intOf]; done) | (simp [intOf]; omega)
    · obtain rfl : k = xs.length := by omega
      go_wp2
      go_ret
      refine ⟨?_, H1⟩
      rw [pos_none]
      · rfl
      · intro y hy
        obtain ⟨z, hz, rfl⟩ := List.mem_map.1 hy
        obtain ⟨j, hj⟩ := List.getElem?_of_mem hz
        exact HT.out j z (List.getElem?_eq_some_iff.1 hj).1 hj
set_option maxRecDepth 100000 in
theorem atDecl_calls (A : Option Addr) (c : Nat) (xs : List Decl) (nm : ByteArray) (w : World) (hR : Rd Enc.decl w A xs) (hl : xs.length ≤ 5000000) :
    Calls Try.prog 26 #[.slice A xs.length c, .string nm, .func (.func 27) #[] #[]] w fun e w' => e = .returned (I (pos (xs.map (·.name)) nm)) ∧ Mem w w' [] := by
  have HR := hid hR
  clear hR
  have H0 := Mem.refl w
  go_enter Try.func26, Try.ntmps26
  go_wp2_with (first
    | ((with_reducible refine at_box ?_); refine wpList_box_box H0 ?_; intro u_ gH1 wH1 hu_ H1; simp only [Act.eval, Act.put, List.setIfInBounds_toArray, List.set_cons_zero, List.set_cons_succ, Array.getD_eq_getD_getElem?, List.getElem?_toArray, List.getElem?_cons_zero, List.getElem?_cons_succ, Option.getD_some] at hu_; subst hu_; simp only [splice, vcells_int, vcells_bool, vcells_string, vcells_pointer, vcells_slice, vcells_map, vcells_func, vcells_nilFunc, vcells_iface, vcells_nilIface, vcells_agg, List.take_zero, List.take_succ_cons, List.drop_zero, List.drop_succ_cons, List.length_cons, List.length_nil, List.nil_append, List.cons_append, List.append_nil, Nat.zero_add, List.set_cons_zero, List.set_cons_succ] at H1)
    | ((with_reducible refine at_box ?_); refine wpList_box_box H1 ?_; intro u_ gH2 wH2 hu_ H2; simp only [Act.eval, Act.put, List.setIfInBounds_toArray, List.set_cons_zero, List.set_cons_succ, Array.getD_eq_getD_getElem?, List.getElem?_toArray, List.getElem?_cons_zero, List.getElem?_cons_succ, Option.getD_some] at hu_; subst hu_; simp only [splice, vcells_int, vcells_bool, vcells_string, vcells_pointer, vcells_slice, vcells_map, vcells_func, vcells_nilFunc, vcells_iface, vcells_nilIface, vcells_agg, List.take_zero, List.take_succ_cons, List.drop_zero, List.drop_succ_cons, List.length_cons, List.length_nil, List.nil_append, List.cons_append, List.append_nil, Nat.zero_add, List.set_cons_zero, List.set_cons_succ] at H2; (try clear b0); have b0 := H2.cells 0 rfl; simp only [cellsAre, and_true, Nat.zero_add] at b0; (try clear b1); have b1 := H2.cells 1 rfl; simp only [cellsAre, and_true, Nat.zero_add] at b1)
    | (go_at_call 44; (with_reducible refine (indexDecl_calls A c xs nm gH2 gH1 _ (Rd.below HR.out H2.below) hl b0.1 b1.1).mono ?_); rintro e w3 ⟨rfl, H3'⟩; have H3 := H2.call H3'))
  go_ret
  exact ⟨rfl, H3.none⟩

set_option maxRecDepth 100000 in
theorem at1Arr_calls (x : Arr) (nm : ByteArray) (g5 g4 : Nat) (w : World) (h5 : w.cell? ⟨g5, 0, none⟩ = some (.func (.func 47) #[] #[])) (h4 : w.cell? ⟨g4, 0, none⟩ = some (.string nm)) :
    Calls Try.prog 55 #[x.val, pt g5, pt g4] w fun e w' => e = .returned (.bool (x.name.toList == nm.toList)) ∧ Mem w w' [] := by
  have H0 := Mem.refl w
  go_enter Try.func55, Try.ntmps55
  go_wp2_with (first | ((with_reducible refine at_box ?_); refine wpList_box_box H0 ?_; intro u_ gH1 wH1 hu_ H1; simp only [Act.eval, Act.put, List.setIfInBounds_toArray, List.set_cons_zero, List.set_cons_succ, Array.getD_eq_getD_getElem?, List.getElem?_toArray, List.getElem?_cons_zero, List.getElem?_cons_succ, Option.getD_some] at hu_; subst hu_; simp only [splice, vcells_int, vcells_bool, vcells_string, vcells_pointer, vcells_slice, vcells_map, vcells_func, vcells_nilFunc, vcells_iface, vcells_nilIface, vcells_agg, List.take_zero, List.take_succ_cons, List.drop_zero, List.drop_succ_cons, List.length_cons, List.length_nil, List.nil_append, List.cons_append, List.append_nil, Nat.zero_add, List.set_cons_zero, List.set_cons_succ] at H1))
  refine wp_region_B (fun _ => false) (fun w' => w'.cell? ⟨g5, 0, none⟩ = some (.func (.func 47) #[] #[]) ∧ w'.cell? ⟨g4, 0, none⟩ = some (.string nm) ∧ w'.cell? ⟨gH1, 0, none⟩ = some (.string x.name) ∧ w'.cell? ⟨gH1, 1, none⟩ = some (.int .i64 x.len) ∧ w'.cell? ⟨gH1, 2, none⟩ = some (.int .u64 x.label)) (by kernel_rfl) ?_
  have H2 := H1.drew
  obtain ⟨w2, hw2⟩ : ∃ w2, w2 = wH1.drew := ⟨_, rfl⟩
  rw [← hw2] at H2 ⊢
  clear hw2
  have hC := H2.cells 0 rfl
  simp only [cellsAre, and_true, Nat.zero_add] at hC
  have hS : w2.cell? ⟨g5, 0, none⟩ = some (.func (.func 47) #[] #[]) ∧ w2.cell? ⟨g4, 0, none⟩ = some (.string nm) ∧ w2.cell? ⟨gH1, 0, none⟩ = some (.string x.name) ∧ w2.cell? ⟨gH1, 1, none⟩ = some (.int .i64 x.len) ∧ w2.cell? ⟨gH1, 2, none⟩ = some (.int .u64 x.label) := by refine ⟨H2.old h5, H2.old h4, hC.1.1, hC.2.1.1, hC.2.2.1⟩
  clear hC
  refine wpAnyB_take' (i := 0) (v := .func (.func 47) #[] #[]) rfl (by kernel_rfl) (by kernel_rfl) rfl (by kernel_rfl) (by kernel_rfl) (fun _ _ _ h => h) (by rfl) hS (by intro w' hS'; obtain ⟨k1, k2, k3, k4, k5⟩ := hS'; first | (go_simp; done) | (go_simp; rfl) | (go_simp; omega) | (go_simp; assumption)) ?_
  simp only [Act.put, List.setIfInBounds_toArray, List.set_cons_zero, List.set_cons_succ]
  refine wpAnyB_take' (i := 1) (v := .agg #[.string x.name, .int .i64 x.len, .int .u64 x.label]) rfl (by kernel_rfl) (by kernel_rfl) rfl (by kernel_rfl) (by kernel_rfl) (fun _ _ _ h => h) (by rfl) hS (by intro w' hS'; obtain ⟨k1, k2, k3, k4, k5⟩ := hS'; first | (go_simp; done) | (go_simp; rfl) | (go_simp; omega) | (go_simp; assumption)) ?_
  simp only [Act.put, List.setIfInBounds_toArray, List.set_cons_zero, List.set_cons_succ]
  refine wpAnyB_take' (i := 3) (v := .string nm) rfl (by kernel_rfl) (by kernel_rfl) rfl (by kernel_rfl) (by kernel_rfl) (fun _ _ _ h => h) (by rfl) hS (by intro w' hS'; obtain ⟨k1, k2, k3, k4, k5⟩ := hS'; first | (go_simp; done) | (go_simp; rfl) | (go_simp; omega) | (go_simp; assumption)) ?_
  simp only [Act.put, List.setIfInBounds_toArray, List.set_cons_zero, List.set_cons_succ]
  refine wpAnyB_call (i := 2) rfl (by kernel_rfl) (by rfl) (by first | rfl | (go_simp; done) | (go_simp; rfl)) (ofArray_calls x w2) ?_
  rintro e w3 ⟨rfl, H3'⟩
  have H3 := H2.call H3'
  simp only [List.nil_append] at H3
  clear hS H3'
  obtain ⟨b2, b3⟩ : True ∧ True := ⟨trivial, trivial⟩
  have hC := H3.cells 0 rfl
  simp only [cellsAre, and_true, Nat.zero_add] at hC
  have hS : w3.cell? ⟨g5, 0, none⟩ = some (.func (.func 47) #[] #[]) ∧ w3.cell? ⟨g4, 0, none⟩ = some (.string nm) ∧ w3.cell? ⟨gH1, 0, none⟩ = some (.string x.name) ∧ w3.cell? ⟨gH1, 1, none⟩ = some (.int .i64 x.len) ∧ w3.cell? ⟨gH1, 2, none⟩ = some (.int .u64 x.label) := by refine ⟨H3.old h5, H3.old h4, hC.1.1, hC.2.1.1, hC.2.2.1⟩
  refine ⟨_, rfl, fun _ => hS, ?_⟩
  simp only [Act.put, List.setIfInBounds_toArray, List.set_cons_zero, List.set_cons_succ]
  refine wpAnyB_take' (i := 4) (v := .bool (x.name.toList == nm.toList)) rfl (by kernel_rfl) (by kernel_rfl) rfl (by kernel_rfl) (by kernel_rfl) (fun _ _ _ h => h) (by rfl) hS (by intro w' hS'; obtain ⟨k1, k2, k3, k4, k5⟩ := hS'; first | (go_simp; done) | (go_simp; rfl) | (go_simp; omega) | (go_simp; assumption)) ?_
  simp only [Act.put, List.setIfInBounds_toArray, List.set_cons_zero, List.set_cons_succ]
  refine wpAnyB_take' (i := 5) (v := .bool (x.name.toList == nm.toList)) rfl (by kernel_rfl) (by kernel_rfl) rfl (by kernel_rfl) (by kernel_rfl) (fun _ _ _ h => h) (by rfl) hS (by intro w' hS'; obtain ⟨k1, k2, k3, k4, k5⟩ := hS'; first | (go_simp; done) | (go_simp; rfl) | (go_simp; omega) | (go_simp; assumption)) ?_
  simp only [Act.put, List.setIfInBounds_toArray, List.set_cons_zero, List.set_cons_succ]
  refine wpAnyB_done (by kernel_rfl) ?_ _
  go_wp2
  go_ret
  exact ⟨rfl, H3.none⟩
set_option maxRecDepth 100000 in
theorem indexArr_calls (A : Option Addr) (c : Nat) (xs : List Arr) (nm : ByteArray) (g5 g4 : Nat) (w : World) (hR : Rd Enc.arr w A xs) (hl : xs.length ≤ 5000000) (h5 : w.cell? ⟨g5, 0, none⟩ = some (.func (.func 47) #[] #[])) (h4 : w.cell? ⟨g4, 0, none⟩ = some (.string nm)) :
    Calls Try.prog 54 #[.slice A xs.length c, .func (.func 55) #[] #[pt g5, pt g4]] w fun e w' => e = .returned (I (pos (xs.map (·.name)) nm)) ∧ Mem w w' [] := by
  have HR := hid hR
  have HC := hid (fun (x : Arr) (w' : World) (hb : Below w.heap.size w w') => at1Arr_calls x nm g5 g4 w' ((hb.cell (World.block_lt_of_cell? w _ h5)).trans h5) ((hb.cell (World.block_lt_of_cell? w _ h4)).trans h4))
  clear hR h5 h4
  have H0 := Mem.refl w
  go_enter Try.func54, Try.ntmps54
  go_wp2
  go_loopw [8] (fun v wr => ∃ k : Nat, v = .int .i64 k ∧ k ≤ xs.length ∧ Hd (∀ (j : Nat) (x : Arr), j < k → xs[j]? = some x → ¬ x.name = nm) ∧ Mem w wr []) (fun v _ => xs.length - (intOf v).toNat)
  case atStart => exact ⟨0, rfl, Nat.zero_le _, ⟨fun j x hj => by omega⟩, H0⟩
  case round =>
    clear H0
    obtain ⟨k, rfl, hk, HT, H1⟩ := hrel
    obtain ⟨wo, rfl⟩ : ∃ wo : World, wo = wr := ⟨_, rfl⟩
    by_cases hlt : k < xs.length
    · obtain ⟨x, hx⟩ : ∃ x, xs[k]? = some x := ⟨_, List.getElem?_eq_getElem hlt⟩
      obtain ⟨b1, o1, rfl, p0, p1, p2⟩ := HR.out.get3 rfl hx rfl
      have e0 := H1.old p0
      have e1 := H1.old p1
      have e2 := H1.old p2
      have HX := hid hx
      clear hx p0 p1 p2
      by_cases he : x.name = nm
      · have HE := hid he
        have HF := hid (sEq he)
        clear he
        go_wp2_with (first | (go_at_call 55; (with_reducible refine (HC.out x _ H1.below).mono ?_); rintro e w2 ⟨rfl, H2'⟩; rw [HF.out]; have H2 := H1.call H2'; simp only [List.nil_append] at H2))
        go_ret
        refine ⟨?_, H2⟩
        rw [pos_some (k := k) (fun j y hj hy => ?_) (by rw [List.getElem?_map, HX.out, ← HE.out]; rfl)]
        · rfl
        · rw [List.getElem?_map] at hy
          obtain ⟨z, hz, rfl⟩ := Option.map_eq_some_iff.1 hy
          exact HT.out j z hj hz
      · have HE := hid he
        have HF := hid (sNe he)
        clear he
        go_wp2_with (first | (go_at_call 55; (with_reducible refine (HC.out x _ H1.below).mono ?_); rintro e w2 ⟨rfl, H2'⟩; rw [HF.out]; have H2 := H1.call H2'; simp only [List.nil_append] at H2))
        go_roundw
        case rel =>
          refine ⟨k + 1, by go_num, by omega, ⟨fun j z hj hz => ?_⟩, H2⟩
          rcases Nat.lt_or_ge j k with h | h
          · exact HT.out j z h hz
          · obtain rfl : j = k := by omega
            rw [HX.out] at hz
            obtain rfl := Option.some.inj hz
            exact HE.out
        case measure => first | (simp [intOf]; done) | (simp [intOf]; omega)
    · obtain rfl : k = xs.length := by omega
      go_wp2
      go_ret
      refine ⟨?_, H1⟩
      rw [pos_none]
      · rfl
      · intro y hy
        obtain ⟨z, hz, rfl⟩ := List.mem_map.1 hy
        obtain ⟨j, hj⟩ := List.getElem?_of_mem hz
        exact HT.out j z (List.getElem?_eq_some_iff.1 hj).1 hj
set_option maxRecDepth 100000 in
theorem atArr_calls (A : Option Addr) (c : Nat) (xs : List Arr) (nm : ByteArray) (w : World) (hR : Rd Enc.arr w A xs) (hl : xs.length ≤ 5000000) :
    Calls Try.prog 46 #[.slice A xs.length c, .string nm, .func (.func 47) #[] #[]] w fun e w' => e = .returned (I (pos (xs.map (·.name)) nm)) ∧ Mem w w' [] := by
  have HR := hid hR
  clear hR
  have H0 := Mem.refl w
  go_enter Try.func46, Try.ntmps46
  go_wp2_with (first
    | ((with_reducible refine at_box ?_); refine wpList_box_box H0 ?_; intro u_ gH1 wH1 hu_ H1; simp only [Act.eval, Act.put, List.setIfInBounds_toArray, List.set_cons_zero, List.set_cons_succ, Array.getD_eq_getD_getElem?, List.getElem?_toArray, List.getElem?_cons_zero, List.getElem?_cons_succ, Option.getD_some] at hu_; subst hu_; simp only [splice, vcells_int, vcells_bool, vcells_string, vcells_pointer, vcells_slice, vcells_map, vcells_func, vcells_nilFunc, vcells_iface, vcells_nilIface, vcells_agg, List.take_zero, List.take_succ_cons, List.drop_zero, List.drop_succ_cons, List.length_cons, List.length_nil, List.nil_append, List.cons_append, List.append_nil, Nat.zero_add, List.set_cons_zero, List.set_cons_succ] at H1)
    | ((with_reducible refine at_box ?_); refine wpList_box_box H1 ?_; intro u_ gH2 wH2 hu_ H2; simp only [Act.eval, Act.put, List.setIfInBounds_toArray, List.set_cons_zero, List.set_cons_succ, Array.getD_eq_getD_getElem?, List.getElem?_toArray, List.getElem?_cons_zero, List.getElem?_cons_succ, Option.getD_some] at hu_; subst hu_; simp only [splice, vcells_int, vcells_bool, vcells_string, vcells_pointer, vcells_slice, vcells_map, vcells_func, vcells_nilFunc, vcells_iface, vcells_nilIface, vcells_agg, List.take_zero, List.take_succ_cons, List.drop_zero, List.drop_succ_cons, List.length_cons, List.length_nil, List.nil_append, List.cons_append, List.append_nil, Nat.zero_add, List.set_cons_zero, List.set_cons_succ] at H2; (try clear b0); have b0 := H2.cells 0 rfl; simp only [cellsAre, and_true, Nat.zero_add] at b0; (try clear b1); have b1 := H2.cells 1 rfl; simp only [cellsAre, and_true, Nat.zero_add] at b1)
    | (go_at_call 54; (with_reducible refine (indexArr_calls A c xs nm gH2 gH1 _ (Rd.below HR.out H2.below) hl b0.1 b1.1).mono ?_); rintro e w3 ⟨rfl, H3'⟩; have H3 := H2.call H3'))
  go_ret
  exact ⟨rfl, H3.none⟩

set_option maxRecDepth 100000 in
theorem at1Func_calls (x : FuncH) (nm : ByteArray) (g5 g4 : Nat) (w : World) (h5 : w.cell? ⟨g5, 0, none⟩ = some (.func (.func 49) #[] #[])) (h4 : w.cell? ⟨g4, 0, none⟩ = some (.string nm)) :
    Calls Try.prog 57 #[x.val, pt g5, pt g4] w fun e w' => e = .returned (.bool (x.name.toList == nm.toList)) ∧ Mem w w' [] := by
  have H0 := Mem.refl w
  go_enter Try.func57, Try.ntmps57
  go_wp2_with (first | ((with_reducible refine at_box ?_); refine wpList_box_box H0 ?_; intro u_ gH1 wH1 hu_ H1; simp only [Act.eval, Act.put, List.setIfInBounds_toArray, List.set_cons_zero, List.set_cons_succ, Array.getD_eq_getD_getElem?, List.getElem?_toArray, List.getElem?_cons_zero, List.getElem?_cons_succ, Option.getD_some] at hu_; subst hu_; simp only [splice, vcells_int, vcells_bool, vcells_string, vcells_pointer, vcells_slice, vcells_map, vcells_func, vcells_nilFunc, vcells_iface, vcells_nilIface, vcells_agg, List.take_zero, List.take_succ_cons, List.drop_zero, List.drop_succ_cons, List.length_cons, List.length_nil, List.nil_append, List.cons_append, List.append_nil, Nat.zero_add, List.set_cons_zero, List.set_cons_succ] at H1))
  refine wp_region_B (fun _ => false) (fun w' => w'.cell? ⟨g5, 0, none⟩ = some (.func (.func 49) #[] #[]) ∧ w'.cell? ⟨g4, 0, none⟩ = some (.string nm) ∧ w'.cell? ⟨gH1, 0, none⟩ = some (.string x.name) ∧ w'.cell? ⟨gH1, 1, none⟩ = some (.int .u64 x.level) ∧ w'.cell? ⟨gH1, 2, none⟩ = some (.slice x.p.A x.p.n x.p.c) ∧ w'.cell? ⟨gH1, 3, none⟩ = some (.slice x.r.A x.r.n x.r.c) ∧ w'.cell? ⟨gH1, 4, none⟩ = some (.slice x.v.A x.v.n x.v.c) ∧ w'.cell? ⟨gH1, 5, none⟩ = some (.slice x.b.A x.b.n x.b.c)) (by kernel_rfl) ?_
  have H2 := H1.drew
  obtain ⟨w2, hw2⟩ : ∃ w2, w2 = wH1.drew := ⟨_, rfl⟩
  rw [← hw2] at H2 ⊢
  clear hw2
  have hC := H2.cells 0 rfl
  simp only [cellsAre, and_true, Nat.zero_add] at hC
  have hS : w2.cell? ⟨g5, 0, none⟩ = some (.func (.func 49) #[] #[]) ∧ w2.cell? ⟨g4, 0, none⟩ = some (.string nm) ∧ w2.cell? ⟨gH1, 0, none⟩ = some (.string x.name) ∧ w2.cell? ⟨gH1, 1, none⟩ = some (.int .u64 x.level) ∧ w2.cell? ⟨gH1, 2, none⟩ = some (.slice x.p.A x.p.n x.p.c) ∧ w2.cell? ⟨gH1, 3, none⟩ = some (.slice x.r.A x.r.n x.r.c) ∧ w2.cell? ⟨gH1, 4, none⟩ = some (.slice x.v.A x.v.n x.v.c) ∧ w2.cell? ⟨gH1, 5, none⟩ = some (.slice x.b.A x.b.n x.b.c) := by refine ⟨H2.old h5, H2.old h4, hC.1.1, hC.2.1.1, hC.2.2.1.1, hC.2.2.2.1.1, hC.2.2.2.2.1.1, hC.2.2.2.2.2.1⟩
  clear hC
  refine wpAnyB_take' (i := 0) (v := .func (.func 49) #[] #[]) rfl (by kernel_rfl) (by kernel_rfl) rfl (by kernel_rfl) (by kernel_rfl) (fun _ _ _ h => h) (by rfl) hS (by intro w' hS'; obtain ⟨k1, k2, k3, k4, k5, k6, k7, k8⟩ := hS'; first | (go_simp; done) | (go_simp; rfl) | (go_simp; omega) | (go_simp; assumption)) ?_
  simp only [Act.put, List.setIfInBounds_toArray, List.set_cons_zero, List.set_cons_succ]
  refine wpAnyB_take' (i := 1) (v := .agg #[.string x.name, .int .u64 x.level, .slice x.p.A x.p.n x.p.c, .slice x.r.A x.r.n x.r.c, .slice x.v.A x.v.n x.v.c, .slice x.b.A x.b.n x.b.c]) rfl (by kernel_rfl) (by kernel_rfl) rfl (by kernel_rfl) (by kernel_rfl) (fun _ _ _ h => h) (by rfl) hS (by intro w' hS'; obtain ⟨k1, k2, k3, k4, k5, k6, k7, k8⟩ := hS'; first | (go_simp; done) | (go_simp; rfl) | (go_simp; omega) | (go_simp; assumption)) ?_
  simp only [Act.put, List.setIfInBounds_toArray, List.set_cons_zero, List.set_cons_succ]
  refine wpAnyB_take' (i := 3) (v := .string nm) rfl (by kernel_rfl) (by kernel_rfl) rfl (by kernel_rfl) (by kernel_rfl) (fun _ _ _ h => h) (by rfl) hS (by intro w' hS'; obtain ⟨k1, k2, k3, k4, k5, k6, k7, k8⟩ := hS'; first | (go_simp; done) | (go_simp; rfl) | (go_simp; omega) | (go_simp; assumption)) ?_
  simp only [Act.put, List.setIfInBounds_toArray, List.set_cons_zero, List.set_cons_succ]
  refine wpAnyB_call (i := 2) rfl (by kernel_rfl) (by rfl) (by first | rfl | (go_simp; done) | (go_simp; rfl)) (ofFunc_calls x w2) ?_
  rintro e w3 ⟨rfl, H3'⟩
  have H3 := H2.call H3'
  simp only [List.nil_append] at H3
  clear hS H3'
  obtain ⟨b2, b3⟩ : True ∧ True := ⟨trivial, trivial⟩
  have hC := H3.cells 0 rfl
  simp only [cellsAre, and_true, Nat.zero_add] at hC
  have hS : w3.cell? ⟨g5, 0, none⟩ = some (.func (.func 49) #[] #[]) ∧ w3.cell? ⟨g4, 0, none⟩ = some (.string nm) ∧ w3.cell? ⟨gH1, 0, none⟩ = some (.string x.name) ∧ w3.cell? ⟨gH1, 1, none⟩ = some (.int .u64 x.level) ∧ w3.cell? ⟨gH1, 2, none⟩ = some (.slice x.p.A x.p.n x.p.c) ∧ w3.cell? ⟨gH1, 3, none⟩ = some (.slice x.r.A x.r.n x.r.c) ∧ w3.cell? ⟨gH1, 4, none⟩ = some (.slice x.v.A x.v.n x.v.c) ∧ w3.cell? ⟨gH1, 5, none⟩ = some (.slice x.b.A x.b.n x.b.c) := by refine ⟨H3.old h5, H3.old h4, hC.1.1, hC.2.1.1, hC.2.2.1.1, hC.2.2.2.1.1, hC.2.2.2.2.1.1, hC.2.2.2.2.2.1⟩
  refine ⟨_, rfl, fun _ => hS, ?_⟩
  simp only [Act.put, List.setIfInBounds_toArray, List.set_cons_zero, List.set_cons_succ]
  refine wpAnyB_take' (i := 4) (v := .bool (x.name.toList == nm.toList)) rfl (by kernel_rfl) (by kernel_rfl) rfl (by kernel_rfl) (by kernel_rfl) (fun _ _ _ h => h) (by rfl) hS (by intro w' hS'; obtain ⟨k1, k2, k3, k4, k5, k6, k7, k8⟩ := hS'; first | (go_simp; done) | (go_simp; rfl) | (go_simp; omega) | (go_simp; assumption)) ?_
  simp only [Act.put, List.setIfInBounds_toArray, List.set_cons_zero, List.set_cons_succ]
  refine wpAnyB_take' (i := 5) (v := .bool (x.name.toList == nm.toList)) rfl (by kernel_rfl) (by kernel_rfl) rfl (by kernel_rfl) (by kernel_rfl) (fun _ _ _ h => h) (by rfl) hS (by intro w' hS'; obtain ⟨k1, k2, k3, k4, k5, k6, k7, k8⟩ := hS'; first | (go_simp; done) | (go_simp; rfl) | (go_simp; omega) | (go_simp; assumption)) ?_
  simp only [Act.put, List.setIfInBounds_toArray, List.set_cons_zero, List.set_cons_succ]
  refine wpAnyB_done (by kernel_rfl) ?_ _
  go_wp2
  go_ret
  exact ⟨rfl, H3.none⟩
set_option maxRecDepth 100000 in
theorem indexFunc_calls (A : Option Addr) (c : Nat) (xs : List FuncH) (nm : ByteArray) (g5 g4 : Nat) (w : World) (hR : Rd Enc.func w A xs) (hl : xs.length ≤ 5000000) (h5 : w.cell? ⟨g5, 0, none⟩ = some (.func (.func 49) #[] #[])) (h4 : w.cell? ⟨g4, 0, none⟩ = some (.string nm)) :
    Calls Try.prog 56 #[.slice A xs.length c, .func (.func 57) #[] #[pt g5, pt g4]] w fun e w' => e = .returned (I (pos (xs.map (·.name)) nm)) ∧ Mem w w' [] := by
  have HR := hid hR
  have HC := hid (fun (x : FuncH) (w' : World) (hb : Below w.heap.size w w') => at1Func_calls x nm g5 g4 w' ((hb.cell (World.block_lt_of_cell? w _ h5)).trans h5) ((hb.cell (World.block_lt_of_cell? w _ h4)).trans h4))
  clear hR h5 h4
  have H0 := Mem.refl w
  go_enter Try.func56, Try.ntmps56
  go_wp2
  go_loopw [8] (fun v wr => ∃ k : Nat, v = .int .i64 k ∧ k ≤ xs.length ∧ Hd (∀ (j : Nat) (x : FuncH), j < k → xs[j]? = some x → ¬ x.name = nm) ∧ Mem w wr []) (fun v _ => xs.length - (intOf v).toNat)
  case atStart => exact ⟨0, rfl, Nat.zero_le _, ⟨fun j x hj => by omega⟩, H0⟩
  case round =>
    clear H0
    obtain ⟨k, rfl, hk, HT, H1⟩ := hrel
    obtain ⟨wo, rfl⟩ : ∃ wo : World, wo = wr := ⟨_, rfl⟩
    by_cases hlt : k < xs.length
    · obtain ⟨x, hx⟩ : ∃ x, xs[k]? = some x := ⟨_, List.getElem?_eq_getElem hlt⟩
      obtain ⟨b1, o1, rfl, p0, p1, p2, p3, p4, p5⟩ := HR.out.get6 rfl hx rfl
      have e0 := H1.old p0
      have e1 := H1.old p1
      have e2 := H1.old p2
      have e3 := H1.old p3
      have e4 := H1.old p4
      have e5 := H1.old p5
      have HX := hid hx
      clear hx p0 p1 p2 p3 p4 p5
      by_cases he : x.name = nm
      · have HE := hid he
        have HF := hid (sEq he)
        clear he
        go_wp2_with (first | (go_at_call 57; (with_reducible refine (HC.out x _ H1.below).mono ?_); rintro e w2 ⟨rfl, H2'⟩; rw [HF.out]; have H2 := H1.call H2'; simp only [List.nil_append] at H2))
        go_ret
        refine ⟨?_, H2⟩
        rw [pos_some (k := k) (fun j y hj hy => ?_) (by rw [List.getElem?_map, HX.out, ← HE.out]; rfl)]
        · rfl
        · rw [List.getElem?_map] at hy
          obtain ⟨z, hz, rfl⟩ := Option.map_eq_some_iff.1 hy
          exact HT.out j z hj hz
      · have HE := hid he
        have HF := hid (sNe he)
        clear he
        go_wp2_with (first | (go_at_call 57; (with_reducible refine (HC.out x _ H1.below).mono ?_); rintro e w2 ⟨rfl, H2'⟩; rw [HF.out]; have H2 := H1.call H2'; simp only [List.nil_append] at H2))
        go_roundw
        case rel =>
          refine ⟨k + 1, by go_num, by omega, ⟨fun j z hj hz => ?_⟩, H2⟩
          rcases Nat.lt_or_ge j k with h | h
          · exact HT.out j z h hz
          · obtain rfl : j = k := by omega
            rw [HX.out] at hz
            obtain rfl := Option.some.inj hz
            exact HE.out
        case measure => first | (simp [intOf]; done) | (simp [intOf]; omega)
    · obtain rfl : k = xs.length := by omega
      go_wp2
      go_ret
      refine ⟨?_, H1⟩
      rw [pos_none]
      · rfl
      · intro y hy
        obtain ⟨z, hz, rfl⟩ := List.mem_map.1 hy
        obtain ⟨j, hj⟩ := List.getElem?_of_mem hz
        exact HT.out j z (List.getElem?_eq_some_iff.1 hj).1 hj
set_option maxRecDepth 100000 in
theorem atFunc_calls (A : Option Addr) (c : Nat) (xs : List FuncH) (nm : ByteArray) (w : World) (hR : Rd Enc.func w A xs) (hl : xs.length ≤ 5000000) :
    Calls Try.prog 48 #[.slice A xs.length c, .string nm, .func (.func 49) #[] #[]] w fun e w' => e = .returned (I (pos (xs.map (·.name)) nm)) ∧ Mem w w' [] := by
  have HR := hid hR
  clear hR
  have H0 := Mem.refl w
  go_enter Try.func48, Try.ntmps48
  go_wp2_with (first
    | ((with_reducible refine at_box ?_); refine wpList_box_box H0 ?_; intro u_ gH1 wH1 hu_ H1; simp only [Act.eval, Act.put, List.setIfInBounds_toArray, List.set_cons_zero, List.set_cons_succ, Array.getD_eq_getD_getElem?, List.getElem?_toArray, List.getElem?_cons_zero, List.getElem?_cons_succ, Option.getD_some] at hu_; subst hu_; simp only [splice, vcells_int, vcells_bool, vcells_string, vcells_pointer, vcells_slice, vcells_map, vcells_func, vcells_nilFunc, vcells_iface, vcells_nilIface, vcells_agg, List.take_zero, List.take_succ_cons, List.drop_zero, List.drop_succ_cons, List.length_cons, List.length_nil, List.nil_append, List.cons_append, List.append_nil, Nat.zero_add, List.set_cons_zero, List.set_cons_succ] at H1)
    | ((with_reducible refine at_box ?_); refine wpList_box_box H1 ?_; intro u_ gH2 wH2 hu_ H2; simp only [Act.eval, Act.put, List.setIfInBounds_toArray, List.set_cons_zero, List.set_cons_succ, Array.getD_eq_getD_getElem?, List.getElem?_toArray, List.getElem?_cons_zero, List.getElem?_cons_succ, Option.getD_some] at hu_; subst hu_; simp only [splice, vcells_int, vcells_bool, vcells_string, vcells_pointer, vcells_slice, vcells_map, vcells_func, vcells_nilFunc, vcells_iface, vcells_nilIface, vcells_agg, List.take_zero, List.take_succ_cons, List.drop_zero, List.drop_succ_cons, List.length_cons, List.length_nil, List.nil_append, List.cons_append, List.append_nil, Nat.zero_add, List.set_cons_zero, List.set_cons_succ] at H2; (try clear b0); have b0 := H2.cells 0 rfl; simp only [cellsAre, and_true, Nat.zero_add] at b0; (try clear b1); have b1 := H2.cells 1 rfl; simp only [cellsAre, and_true, Nat.zero_add] at b1)
    | (go_at_call 56; (with_reducible refine (indexFunc_calls A c xs nm gH2 gH1 _ (Rd.below HR.out H2.below) hl b0.1 b1.1).mono ?_); rintro e w3 ⟨rfl, H3'⟩; have H3 := H2.call H3'))
  go_ret
  exact ⟨rfl, H3.none⟩
end Go.Proofs.Ytogndpckiognjaa
