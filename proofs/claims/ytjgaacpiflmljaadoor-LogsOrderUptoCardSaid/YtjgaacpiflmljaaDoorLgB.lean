/- logs.Within, slices.Clip, slices.Clone. -/
import Derived.Test.YtjgaacpiflmljaaDoorLgA
import Derived.Lib.Slices
namespace Go.Proofs.YtjgaacpiflmljaaDoor
open Go.RowKit
set_option linter.unusedVariables false
set_option linter.unusedSimpArgs false
set_option maxHeartbeats 1000000
def ints (l : List Nat) : List Int := l.map fun n : Nat => (n : Int)
/-- Is a label within another one? -/
def wi (x l : Int) : Bool := bits .andNot .u64 x l == 0
theorem wi_iff (x l : Int) : wi x l = true ↔ BitVec.ofInt 64 x &&& ~~~(BitVec.ofInt 64 l) = 0#64 := by
  unfold wi bits IntKind.wrap
  simp only [beq_iff_eq]
  have h : ∀ v : BitVec 64, ((if (IntKind.u64.signed && decide ((v.toNat : Int) % 2 ^ IntKind.u64.bits ≥ 2 ^ (IntKind.u64.bits - 1))) = true then (v.toNat : Int) % 2 ^ IntKind.u64.bits - 2 ^ IntKind.u64.bits else (v.toNat : Int) % 2 ^ IntKind.u64.bits) = 0) ↔ v = 0#64 := by
    intro v
    have h1 : IntKind.u64.signed = false := rfl
    have h2 : (2 : Int) ^ IntKind.u64.bits = 18446744073709551616 := by decide
    have h3 : v.toNat < 18446744073709551616 := v.isLt
    rw [h1, h2]
    simp only [Bool.false_and, Bool.false_eq_true, if_false]
    constructor
    · intro h
      apply BitVec.eq_of_toNat_eq
      simp
      omega
    · rintro rfl
      rfl
  exact h _
theorem ofInt_and (l s : Int) : BitVec.ofInt 64 (bits .and .u64 l s) = BitVec.ofInt 64 l &&& BitVec.ofInt 64 s := by
  unfold bits IntKind.wrap
  have h1 : IntKind.u64.signed = false := rfl
  have h2 : (2 : Int) ^ IntKind.u64.bits = 18446744073709551616 := by decide
  have hv : ∀ v : BitVec 64, BitVec.ofInt 64 (if (IntKind.u64.signed && decide ((v.toNat : Int) % 2 ^ IntKind.u64.bits ≥ 2 ^ (IntKind.u64.bits - 1))) = true then (v.toNat : Int) % 2 ^ IntKind.u64.bits - 2 ^ IntKind.u64.bits else (v.toNat : Int) % 2 ^ IntKind.u64.bits) = v := by
    intro v
    have h3 : v.toNat < 18446744073709551616 := v.isLt
    rw [h1, h2]
    simp only [Bool.false_and, Bool.false_eq_true, if_false]
    rw [Int.emod_eq_of_lt (by omega) (by omega)]
    apply BitVec.eq_of_toNat_eq
    simp
  exact hv _
/-- What is within less is within more. -/
theorem wi_less {x l s : Int} (h : wi x (bits .and .u64 l s) = true) : wi x l = true := by
  rw [wi_iff] at h ⊢
  rw [ofInt_and] at h
  apply BitVec.eq_of_getLsbD_eq
  intro i hi
  have := congrArg (fun v => v.getLsbD i) h
  simp [hi] at this ⊢
  intro h1
  exact (this h1).1
theorem bw_calls (x l : Int) (w : World) : Calls Tryd.prog 19 #[.int .u64 x, .int .u64 l] w fun e w' => e = .returned (.bool (wi x l)) ∧ w' = w := by
  go_enter Tryd.func19, Tryd.ntmps19
  go_wp2
  go_ret
  exact ⟨rfl, rfl⟩
/-- The channels that a label sees. -/
def withL (ch : List Int) (l : Int) (k : Nat) : List Nat := (List.range k).filter fun i => match ch[i]? with | some x => wi x l | none => false
theorem withL_succ {ch : List Int} {l : Int} {k : Nat} {x : Int} (h : ch[k]? = some x) : withL ch l (k + 1) = withL ch l k ++ if wi x l = true then [k] else [] := by
  unfold withL
  rw [List.range_succ, List.filter_append]
  congr 1
  simp only [List.filter_cons, h, List.filter_nil]
theorem withL_len (ch : List Int) (l : Int) (k : Nat) : (withL ch l k).length ≤ k := by
  unfold withL
  have := List.length_filter_le (fun i => match ch[i]? with | some x => wi x l | none => false) (List.range k)
  simpa using this
theorem mem_withL {ch : List Int} {l : Int} {k i : Nat} : i ∈ withL ch l k ↔ i < k ∧ ∃ x, ch[i]? = some x ∧ wi x l = true := by
  unfold withL
  rw [List.mem_filter]
  cases h : ch[i]? with
  | none => simp
  | some x => simp
/-- A module's words: the channels are what is looked at. -/
abbrev MV (G R F : Value) (A : Option Addr) (c : Nat) (ch : List Int) : Value := .agg #[G, R, .slice A ch.length c, F]
set_option maxRecDepth 100000 in
theorem clipI_calls (A : Option Addr) (c n : Nat) (w : World) (hn : n ≤ c) (hc : c ≤ 9223372036854775807) : Calls Tryd.prog 20 #[.slice A n c] w fun e w' => e = .returned (.slice A n n) ∧ w' = w := by
  go_enter Tryd.func20, Tryd.ntmps20
  go_wp2
  go_ret
  exact ⟨by simp, rfl⟩
theorem clip64_calls (A : Option Addr) (c n : Nat) (w : World) (hn : n ≤ c) (hc : c ≤ 9223372036854775807) : Calls Tryd.prog 21 #[.slice A n c] w fun e w' => e = .returned (.slice A n n) ∧ w' = w := by
  go_enter Tryd.func21, Tryd.ntmps21
  go_wp2
  go_ret
  exact ⟨by simp, rfl⟩
theorem clone64_calls (A : Option Addr) (c : Nat) (xs : List Int) (w : World) (hx : Rd Enc.i64 w A xs) (hl : xs.length ≤ 1000000000000) :
    Calls Tryd.prog 22 #[.slice A xs.length c] w fun e w' => ∃ A' c', e = .returned (.slice A' xs.length c') ∧ xs.length ≤ c' ∧ c' ≤ 9223372036854775807 ∧ Mem w w' [own Enc.i64 2 A' c' xs] := by
  have hq := fun w A n c => @Lib.run_eql_slice_nil Tryd.prog w 34 2 A n c 0 0 Tryd.underlying34
  have HX := hid hx
  clear hx
  have H0 := Mem.refl w
  cases A with
  | none =>
    have hn0 : xs = [] := by
      rcases Nat.eq_zero_or_pos xs.length with h | h
      · exact List.eq_nil_of_length_eq_zero h
      · obtain ⟨b, o, h1, _⟩ := HX.out.at' (by omega); cases h1
    subst hn0
    go_enter Tryd.func22, Tryd.ntmps22
    go_wp2
    go_ret
    exact ⟨none, 0, rfl, Nat.le_refl _, by omega, H0.nilrow 2 1⟩
  | some ad =>
    go_enter Tryd.func22, Tryd.ntmps22
    go_wp2_with (first
      | ((with_reducible refine at_build0 ?_); refine wpList_build0 elt_i64 H0 ?_; intro gH1 wH1 H1)
      | ((with_reducible refine at_append ?_); refine wpList_append_row rfl _ _ rfl elt_i64 H1 0 rfl rfl rfl (RdC.below HX.out H1.below) (by unfold maxLen; omega) (by omega) ?_; intro A2 c2 w2 H2; simp only [List.set_cons_zero, Nat.zero_add, List.nil_append] at H2; obtain ⟨-, h3, h4⟩ := H2.rd 0 rfl elt_i64.pos))
    go_ret
    exact ⟨A2, c2, by simp, h3, (by unfold maxLen at h4; omega), H2⟩
def IntsRes (T : TypeId) (w : World) (l : List Int) (e : Ending) (w' : World) : Prop := ∃ A, e = .returned (.slice A l.length l.length) ∧ Mem w w' [own Enc.i64 T A l.length l]
set_option maxRecDepth 100000 in
theorem within_calls (G R F : Value) (A : Option Addr) (c : Nat) (ch : List Int) (l : Int) (w : World) (hR : Rd Enc.u64 w A ch) (hn : ch.length ≤ 2000000) :
    Calls Tryd.prog 7 #[MV G R F A c ch, .int .u64 l] w (IntsRes 3 w (ints (withL ch l ch.length))) := by
  have HR := hid hR
  clear hR
  have H0 : Mem w w [own Enc.i64 3 none 0 []] := (Mem.refl w).nilrow 3 1
  simp only [MV] at *
  go_enter Tryd.func7, Tryd.ntmps7
  go_wp2_with (first | ((with_reducible refine at_box ?_); refine wpList_box_box H0 ?_; intro u_ gH1 wH1 hu_ H1; simp only [Act.eval, Act.put, List.setIfInBounds_toArray, List.set_cons_zero, List.set_cons_succ, Array.getD_eq_getD_getElem?, List.getElem?_toArray, List.getElem?_cons_zero, List.getElem?_cons_succ, Option.getD_some] at hu_; subst hu_; simp only [splice, vcells_int, vcells_bool, vcells_string, vcells_pointer, vcells_slice, vcells_map, vcells_func, vcells_nilFunc, vcells_iface, vcells_nilIface, vcells_agg, List.take_zero, List.take_succ_cons, List.drop_zero, List.drop_succ_cons, List.length_cons, List.length_nil, List.nil_append, List.cons_append, List.append_nil, Nat.zero_add, List.set_cons_zero, List.set_cons_succ] at H1; (try clear b0); have b0 := H1.cells 0 rfl; simp only [cellsAre, and_true, Nat.zero_add] at b0))
  have HX0 : Hd (([] : List Nat) = withL ch l 0) := ⟨rfl⟩
  have H1 : Mem w wH1 [box gH1 26 #[G, R, .slice A ch.length c, F], own Enc.i64 3 none 0 (ints [])] := H1
  go_loopw [5, 11] (fun v5 v11 wr => ∃ (A5 : Option Addr) (c5 : Nat) (xs : List Nat) (k : Nat), v5 = .slice A5 (ints xs).length c5 ∧ v11 = .int .i64 k ∧ k ≤ ch.length ∧ Hd (xs = withL ch l k) ∧ Mem w wr [box gH1 26 #[G, R, .slice A ch.length c, F], own Enc.i64 3 A5 c5 (ints xs)]) (fun _ v _ => ch.length - (intOf v).toNat)
  case atStart => exact ⟨none, 0, [], 0, rfl, rfl, Nat.zero_le _, HX0, H1⟩
  case round =>
    clear H1 HX0 b0 H0
    obtain ⟨A5, c5, xs, k, rfl, rfl, hk, HX, H2⟩ := hrel
    obtain ⟨wo, rfl⟩ : ∃ wo : World, wo = wr := ⟨_, rfl⟩
    have hil : (ints xs).length = xs.length := by simp [ints]
    have hxl : (ints xs).length ≤ 2000000 := by rw [hil, HX.out]; exact Nat.le_trans (withL_len ch l k) (by omega)
    have HIL := hid hil
    clear hil
    by_cases hlt : k < ch.length
    · obtain ⟨x, hx⟩ : ∃ x, ch[k]? = some x := ⟨_, List.getElem?_eq_getElem hlt⟩
      obtain ⟨b, o, rfl, hc⟩ := HR.out.get1 rfl hx rfl
      have e1 := H2.old hc
      have HXX := hid hx
      clear hx hc
      cases hw : wi x l with
      | true =>
        have HW := hid hw
        clear hw
        go_wp2_with (first
          | (go_at_call 19; (with_reducible refine (bw_calls x l _).mono ?_); rintro e w2 ⟨rfl, rfl⟩; rw [HW.out])
          | ((with_reducible refine at_build1 ?_); refine wpList_build1 elt_int H2 rfl rfl (by decide) ?_; intro u_ gH3 wH3 hu_ H3; simp only [Act.eval, Act.put, List.setIfInBounds_toArray, List.set_cons_zero, List.set_cons_succ, Array.getD_eq_getD_getElem?, List.getElem?_toArray, List.getElem?_cons_zero, List.getElem?_cons_succ, Option.getD_some] at hu_; subst hu_; simp only [splice, vcells_int, vcells_bool, vcells_string, vcells_pointer, vcells_slice, vcells_map, vcells_func, vcells_nilFunc, vcells_iface, vcells_nilIface, vcells_agg, List.take_zero, List.take_succ_cons, List.drop_zero, List.drop_succ_cons, List.length_cons, List.length_nil, List.nil_append, List.cons_append, List.append_nil, Nat.zero_add, List.set_cons_zero, List.set_cons_succ] at H3)
          | ((with_reducible refine at_append ?_); refine wpList_append_own1 (E := Enc.i64) elt_int H3 2 (k : Int) rfl rfl rfl rfl (H3.rd 0 rfl elt_int.pos).1 (by omega) (by decide) ?_; intro AH4 cH4 wH4 H4; simp only [List.set_cons_zero, List.set_cons_succ] at H4; replace H4 := H4.drop 0; simp only [List.eraseIdx_cons_zero] at H4))
        go_roundw
        case rel =>
          have he : ints xs ++ [(k : Int)] = ints (xs ++ [k]) := by simp [ints]
          rw [he] at H4
          exact ⟨AH4, cH4, xs ++ [k], k + 1, by rw [← he, List.length_append]; rfl, by go_num, by omega, ⟨by rw [withL_succ HXX.out, if_pos HW.out, HX.out]⟩, H4⟩
        case measure => first | (simp [intOf]; done) | (simp [intOf]; omega)
      | false =>
        have HW := hid hw
        clear hw
        go_wp2_with (first
          | (go_at_call 19; (with_reducible refine (bw_calls x l _).mono ?_); rintro e w2 ⟨rfl, rfl⟩; rw [HW.out]))
        go_roundw
        case rel =>
          exact ⟨A5, c5, xs, k + 1, rfl, by go_num, by omega, ⟨by rw [withL_succ HXX.out, if_neg (by rw [HW.out]; decide), List.append_nil, HX.out]⟩, H2⟩
        case measure => first | (simp [intOf]; done) | (simp [intOf]; omega)
    · obtain rfl : k = ch.length := by omega
      obtain ⟨h1, h2, h3⟩ := H2.own_rd 1 rfl (by decide)
      go_wp2_with (first
        | (go_at_call 20; (with_reducible refine (clipI_calls A5 c5 _ _ h2 (by unfold maxLen at h3; omega)).mono ?_); rintro e w2 ⟨rfl, rfl⟩))
      go_ret
      rw [HX.out] at H2 ⊢
      exact ⟨A5, rfl, (H2.row_clip 1 rfl).drop 0⟩
end Go.Proofs.YtjgaacpiflmljaaDoor
