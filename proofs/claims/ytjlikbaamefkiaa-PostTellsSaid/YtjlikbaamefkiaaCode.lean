/- Lists of instructions: are they the same; lent, kept. -/
import Derived.Test.YtjlikbaamefkiaaLent
namespace Go.Proofs.Ytjlikbaamefkiaa
open Go.RowKit
set_option linter.unusedVariables false
set_option linter.unusedSimpArgs false
set_option maxHeartbeats 400000

theorem ins_struct : Try.prog.underlying 63 = some (.struct (Try.prog.fieldsOf 63)) := by kernel_rfl
theorem ins_held : Try.prog.stoodInHeld 63 = false := by kernel_rfl
theorem ins_guard : Try.prog.eqGuardType Try.prog.depth 63 = false := by kernel_rfl
theorem ins_neq (w : World) (x0 x1 y0 y1 : Int) : (binOp .neq 63 (.agg #[I x0, I x1]) (.agg #[I y0, I y1])).run Try.prog w = .ok (.bool (!(x0 == y0 && x1 == y1))) w := by
  rw [run_neq_struct, run_equalIn_agg w 9999 _ _ _ ins_struct ins_held]
  have hf : (Try.prog.fieldsOf 63).toList = (Try.prog.fieldsOf 63).toList := rfl
  cases h0 : (x0 == y0) <;> cases h1 : (x1 == y1) <;> simp [go_sem, h0, h1]
theorem ins_eql (w : World) (x0 x1 y0 y1 : Int) : (binOp .eql 63 (.agg #[I x0, I x1]) (.agg #[I y0, I y1])).run Try.prog w = .ok (.bool (x0 == y0 && x1 == y1)) w := by
  rw [run_eql_struct, run_equalIn_agg w 9999 _ _ _ ins_struct ins_held]
  cases h0 : (x0 == y0) <;> cases h1 : (x1 == y1) <;> simp [go_sem, h0, h1]
theorem ins_eqGuard (op : BinOp) (x y : Operand) (xs ys : Array Value) (w : World) : (eqGuard op 63 x y (.agg xs) (.agg ys)).run Try.prog w = .ok () w := run_eqGuard_agg w op _ x y xs ys ins_guard

deriving instance DecidableEq for Ins

theorem code_calls (A B : Option Addr) (c d : Nat) (xs ys : List Ins) (w : World) (hx : Rd Enc.ins w A xs) (hy : Rd Enc.ins w B ys) (hl : xs.length ≤ 1000000000000) (hm : ys.length ≤ 1000000000000) :
    Calls Try.prog 39 #[.slice A xs.length c, .slice B ys.length d] w fun e w' => e = .returned (.bool (decide (xs = ys))) ∧ Mem w w' [] := by
  have HX := hid hx
  have HY := hid hy
  clear hx hy
  have H0 := Mem.refl w
  have hn := ins_neq
  have hq := ins_eqGuard
  go_enter Try.func39, Try.ntmps39
  by_cases hne : xs.length = ys.length
  · have h1 : ((xs.length : Int) == (ys.length : Int)) = true := by simp [hne]
    have h2 : ((xs.length : Int) != (ys.length : Int)) = false := by simp [hne]
    have HN := hid hne
    clear hne
    go_wp2
    go_loopw [5] (fun i wr => ∃ k : Nat, k ≤ xs.length ∧ i = .int .i64 k ∧ Hd (∀ j, j < k → xs[j]? = ys[j]?) ∧ Mem w wr []) (fun i _ => xs.length - (intOf i).toNat)
    case atStart => exact ⟨0, Nat.zero_le _, rfl, ⟨fun j hj => by omega⟩, H0⟩
    case round =>
      obtain ⟨k, hk, rfl, HT, H1⟩ := hrel
      by_cases hlt : k < xs.length
      · have hlt' : k < ys.length := HN.out ▸ hlt
        obtain ⟨b, o, rfl, hc⟩ := HX.out.get2 rfl (List.getElem?_eq_getElem hlt) rfl
        obtain ⟨b', o', rfl, hd⟩ := HY.out.get2 rfl (List.getElem?_eq_getElem hlt') rfl
        have hc0 := H1.old hc.1
        have hc1 := H1.old hc.2
        have hd0 := H1.old hd.1
        have hd1 := H1.old hd.2
        clear hc hd
        have g1 : decide ((k : Int) < (xs.length : Int)) = true := by simpa using hlt
        obtain ⟨⟨x0, x1⟩, hX⟩ : ∃ x, xs[k] = x := ⟨_, rfl⟩
        obtain ⟨⟨y0, y1⟩, hY⟩ : ∃ y, ys[k] = y := ⟨_, rfl⟩
        rw [hX] at hc0 hc1
        rw [hY] at hd0 hd1
        have HX2 := hid hX
        have HY2 := hid hY
        clear hX hY
        simp only [] at hc0 hc1 hd0 hd1
        by_cases he : x0 = y0 ∧ x1 = y1
        · have h5 : (x0 == y0) = true := by simp [he.1]
          have h6 : (x1 == y1) = true := by simp [he.2]
          have HE := hid he
          clear he
          go_wp2
          go_quiet (fail)
          go_wp2
          go_roundw
          case rel =>
            refine ⟨k + 1, by omega, by go_num, ⟨fun j hj => ?_⟩, by first | exact H1.drewN _ | exact H1.drew⟩
            rcases Nat.lt_or_ge j k with h | h
            · exact HT.out j h
            · obtain rfl : j = k := by omega
              rw [List.getElem?_eq_getElem hlt, List.getElem?_eq_getElem hlt', HX2.out, HY2.out, HE.out.1, HE.out.2]
          case measure => simp [intOf]; omega
        · have h5 : (x0 == y0 && x1 == y1) = false := by
            rw [Bool.and_eq_false_iff]
            by_cases h : x0 = y0
            · exact .inr (by simpa using fun h' => he ⟨h, h'⟩)
            · exact .inl (by simpa using h)
          have HE := hid he
          clear he
          go_wp2
          go_quiet (fail)
          go_wp2
          go_ret
          refine ⟨?_, by first | exact H1.drewN _ | exact H1.drew⟩
          have : ¬ xs = ys := by
            rintro rfl
            have := HX2.out.symm.trans HY2.out
            injection this with h1 h2
            exact HE.out ⟨h1, h2⟩
          simp [this]
      · have g1 : decide ((k : Int) < (xs.length : Int)) = false := by simpa using hlt
        go_wp2
        go_ret
        refine ⟨?_, H1⟩
        have : xs = ys := by
          apply List.ext_getElem?
          intro j
          rcases Nat.lt_or_ge j k with h | h
          · exact HT.out j h
          · rw [List.getElem?_eq_none (by omega), List.getElem?_eq_none (by have := HN.out; omega)]
        simp [this]
  · have h1 : ((xs.length : Int) == (ys.length : Int)) = false := by simp; omega
    have h2 : ((xs.length : Int) != (ys.length : Int)) = true := by simp; omega
    have HN := hid hne
    clear hne
    go_wp2
    go_ret
    refine ⟨?_, H0⟩
    have : ¬ xs = ys := by
      rintro rfl
      exact HN.out rfl
    simp [this]

theorem lentCode_calls (A : Option Addr) (c : Nat) (xs : List (Ins)) (w : World) (hx : Rd Enc.ins w A xs) (hl : xs.length ≤ 1000000000000) :
    Calls Try.prog 20 #[.slice A xs.length c] w fun e w' => ∃ A' c', e = .returned (.slice A' xs.length c') ∧ xs.length + 1 ≤ c' ∧ Mem w w' [row 63 Enc.ins.sz A' (xs.length + 1) c' (Enc.ins.all xs ++ [I (-71), I 0])] := by
  have HX := hid hx
  clear hx
  have H0 := (Mem.refl w).nilrow 63 Enc.ins.sz
  go_enter Try.func20, Try.ntmps20
  go_wp2_with (first
    | ((with_reducible refine at_append ?_); refine wpList_append_row rfl _ _ rfl elt_ins H0 0 rfl rfl rfl HX.out (by unfold maxLen; omega) (by omega) ?_; intro AH1 cH1 wH1 H1; simp only [splice, vcells_int, vcells_bool, vcells_string, vcells_pointer, vcells_slice, vcells_map, vcells_func, vcells_nilFunc, vcells_iface, vcells_nilIface, vcells_agg, List.take_zero, List.take_succ_cons, List.drop_zero, List.drop_succ_cons, List.length_cons, List.length_nil, List.nil_append, List.cons_append, List.append_nil, Nat.zero_add, List.set_cons_zero, List.set_cons_succ] at H1)
    | ((with_reducible refine at_build1 ?_); refine wpList_build1 elt_ins H1 rfl rfl (by decide) ?_; intro u_ gH2 wH2 hu_ H2; simp only [Act.eval, Act.put, List.setIfInBounds_toArray, List.set_cons_zero, List.set_cons_succ, Array.getD_eq_getD_getElem?, List.getElem?_toArray, List.getElem?_cons_zero, List.getElem?_cons_succ, Option.getD_some] at hu_; subst hu_; simp only [splice, vcells_int, vcells_bool, vcells_string, vcells_pointer, vcells_slice, vcells_map, vcells_func, vcells_nilFunc, vcells_iface, vcells_nilIface, vcells_agg, List.take_zero, List.take_succ_cons, List.drop_zero, List.drop_succ_cons, List.length_cons, List.length_nil, List.nil_append, List.cons_append, List.append_nil, Nat.zero_add, List.set_cons_zero, List.set_cons_succ] at H2)
    | ((with_reducible refine at_append ?_); refine wpList_append_row rfl _ _ rfl elt_ins H2 1 rfl rfl rfl (H2.rd 0 rfl elt_ins.pos).1 (by unfold maxLen; omega) (by omega) ?_; intro A3 c3 w3 H3; simp only [List.set_cons_succ, List.set_cons_zero, Nat.zero_add] at H3; replace H3 := H3.drop 0; obtain ⟨-, h3, h4⟩ := H3.rd 0 rfl elt_ins.pos; have h5 : xs.length ≤ c3 := (by omega); unfold maxLen at h4))

  go_ret
  exact ⟨A3, c3, by simp, by omega, H3⟩


theorem keptCode_calls (A B : Option Addr) (c d : Nat) (xs ys : List Ins) (w : World) (hx : RdC w A (xs.length + 1) Enc.ins.sz (Enc.ins.all xs ++ [I (-71), I 0])) (hc : xs.length + 1 ≤ c) (hy : Rd Enc.ins w B ys) (hl : xs.length ≤ 1000000000000) (hm : ys.length ≤ 1000000000000) :
    Calls Try.prog 33 #[.slice A xs.length c, .slice B ys.length d] w fun e w' => e = .returned (.bool (decide (xs = ys))) ∧ Mem w w' [] := by
  obtain ⟨b, o, rfl, hk⟩ := hx.mark
  have hk0 := hk 0 _ rfl
  have hk1 := hk 1 _ rfl
  simp only [Enc.ins, Nat.add_zero] at hk0 hk1
  have HX := hid (Rd.of_marked hx)
  have HY := hid hy
  have hq := ins_eqGuard
  have hn := ins_eql
  clear hx hy hk
  by_cases he : xs = ys
  · have hd : decide (xs = ys) = true := by simp [he]
    have HD := hid hd
    clear hd
    have HE := hid he
    clear he
    go_enter Try.func33, Try.ntmps33
    go_wp2_with (go_at_call 39; (with_reducible refine (code_calls _ _ c d xs ys w HX.out HY.out hl hm).mono ?_); rw [HD.out]; rintro e w1 ⟨rfl, H1⟩; have k0 := H1.old hk0; have k1 := H1.old hk1)
    go_ret
    rw [HD.out]
    exact ⟨by simp, H1⟩
  · have hd : decide (xs = ys) = false := by simp [he]
    have HD := hid hd
    clear hd
    have HE := hid he
    clear he
    go_enter Try.func33, Try.ntmps33
    go_wp2_with (go_at_call 39; (with_reducible refine (code_calls _ _ c d xs ys w HX.out HY.out hl hm).mono ?_); rw [HD.out]; rintro e w1 ⟨rfl, H1⟩)
    go_ret
    rw [HD.out]
    exact ⟨by simp, H1⟩

/-- A function's words. -/
structure Fun where
  level : Int
  params : List Int
  results : List Int
  locals : Int
  stack : Int
  code : List Ins
structure FunH where
  A1 : Option Addr
  c1 : Nat
  A2 : Option Addr
  c2 : Nat
  A5 : Option Addr
  c5 : Nat
abbrev Fun.val (f : Fun) (h : FunH) : Value := .agg #[.int .u64 f.level, .slice h.A1 f.params.length h.c1, .slice h.A2 f.results.length h.c2, .int .i64 f.locals, .int .i64 f.stack, .slice h.A5 f.code.length h.c5]
structure Fun.Rd (w : World) (f : Fun) (h : FunH) : Prop where
  params : Go.Proofs.Ytjlikbaamefkiaa.Rd Enc.u64 w h.A1 f.params
  results : Go.Proofs.Ytjlikbaamefkiaa.Rd Enc.u64 w h.A2 f.results
  code : Go.Proofs.Ytjlikbaamefkiaa.Rd Enc.ins w h.A5 f.code
  b1 : f.params.length ≤ 17592186043904
  b2 : f.results.length ≤ 17592186043904
  b5 : f.code.length ≤ 1000000000000
theorem Fun.Rd.below {w w' : World} {f : Fun} {h : FunH} (H : f.Rd w h) (hb : Below w.heap.size w w') : f.Rd w' h := ⟨Go.Proofs.Ytjlikbaamefkiaa.Rd.below H.params hb, Go.Proofs.Ytjlikbaamefkiaa.Rd.below H.results hb, Go.Proofs.Ytjlikbaamefkiaa.Rd.below H.code hb, H.b1, H.b2, H.b5⟩
end Go.Proofs.Ytjlikbaamefkiaa
