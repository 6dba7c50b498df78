/- Names: slices.Repeat of one; where blocks end. -/
import Derived.Test.YtogndpckiognjaaNmY
import Derived.Laws.CopyRow
import Derived.Laws.IdiomCopy
import Derived.Laws.Bits64b
namespace Go.Proofs.Ytogndpckiognjaa
open Go.RowKit
set_option linter.unusedVariables false
set_option linter.unusedSimpArgs false
set_option maxHeartbeats 2000000
section
variable {P : Program} {w0 w : World} {As : List HP} {T : TypeId} {n cap : Nat} {cells : List Value}
theorem at_copy {ops : Array Oper} {rest : List Oper} {a : Act} {Q : Exit → Act → World → Prop} {d : Option Tmp} {ty : TypeId} {ps : String} {af : Array Edge} {t t' : TypeId} {x y : Operand} (h : wpList P ops Q (⟨d, .call { callee := .builtin .copy, args := #[x, y], argTypes := #[t, t'] }, ty, ps, af, none⟩ :: rest) a w) : wpList P ops Q (⟨d, .call { callee := .builtin .copy, args := #[x, y], argTypes := #[t, t'] }, ty, ps, af, none⟩ :: rest) a w := h
theorem run_copy_own {dT sT ty e : TypeId} (hu : P.underlying dT = some (.slice e)) (hsz : (P.info? e).map (·.size) = some 1) (H : Mem w0 w As) (i : Nat) {g o : Nat} (hi : As[i]? = some (row T 1 (some ⟨g, o, none⟩) n cap cells))
    (off : Nat) (dLen dCap sLen sCap : Nat) (sa : Addr) (cs : List Value) (hn : cs.length = Nat.min sLen dLen) (hsrc : ∀ j v, cs[j]? = some v → w.cell? (sa.add j) = some v) (hfit : off + cs.length ≤ n) (h1 : ∀ v ∈ cs, v.oneCell' = true) :
    ∃ w', (Builtin.copy_ #[dT, sT] ty #[.slice (some ⟨g, o + off, none⟩) dLen dCap, .slice (some sa) sLen sCap]).run P w = .ok (goInt cs.length) w' ∧ Mem w0 w' (As.set i (row T 1 (some ⟨g, o, none⟩) n cap (splice cells off cs))) := by
  by_cases h0 : cs = []
  · subst h0
    refine ⟨w, run_copy_none w dT sT ty e _ _ dLen dCap sLen sCap hu hsz hn.symm, H.conv i hi (by
      intro F hF
      have : splice cells off [] = cells := by simp [splice]
      rw [this]
      exact hF)⟩
  · have hpos : 0 < cs.length := List.length_pos_iff.2 h0
    obtain ⟨G, hG, _⟩ := H.get i hi
    obtain ⟨k1, k2, k3, k5, k4⟩ := hG
    rcases k4 with ⟨k4, _⟩ | ⟨g', o', cur, hA, hF, hg, ho, hc⟩
    · exfalso
      omega
    · obtain ⟨rfl, rfl⟩ : g = g' ∧ o = o' := by simpa using hA
      have hr := run_copy_row (P := P) w dT sT ty e g (o + off) dLen dCap sa sLen sCap cur T cs hu hsz hg hn hsrc (by omega) h1
      refine ⟨_, hr, H.step i hi ?_⟩
      rintro F ⟨h1', h2, h3, h5, h4⟩ hb
      rcases h4 with ⟨h4, _⟩ | ⟨g', o', cur', hA', hF', hg', ho', hc'⟩
      · exfalso
        omega
      · obtain ⟨rfl, rfl⟩ : g = g' ∧ o = o' := by simpa using hA'
        obtain rfl : cur = cur' := by rw [hg] at hg'; simpa using hg'
        refine ⟨F, ⟨?_, h2, h3, ?_, .inr ⟨g, o, _, rfl, hF', setRow_heap w g _ _ _ _ hg, ?_, ?_⟩⟩, fun k hk => .inl hk, Grw.setRow _ ((hF' g).2 rfl)⟩
        · simp only [splice, List.length_append, List.length_take, List.length_drop]; omega
        · intro v hv
          simp only [splice, List.mem_append] at hv
          rcases hv with (hv | hv) | hv
          · exact h5 v (List.mem_of_mem_take hv)
          · exact h1 v hv
          · exact h5 v (List.mem_of_mem_drop hv)
        · simp only [List.size_toArray, List.length_append, List.length_take, List.length_drop, Array.length_toList]; omega
        · subst hc
          apply List.ext_getElem?
          intro q
          simp only [splice, List.getElem?_take, List.getElem?_drop, List.getElem?_append, List.length_append, List.length_take, List.length_drop, Array.length_toList]
          by_cases hq : q < n * 1
          · rw [if_pos hq]
            by_cases h1 : q < off
            · rw [if_pos (by omega), if_pos (by omega), if_pos (by omega), if_pos (by omega), if_pos (by omega), if_pos (by omega), if_pos (by omega)]
            · by_cases h2 : q < off + cs.length
              · rw [if_pos (by omega), if_neg (by omega), if_pos (by omega), if_neg (by omega)]
                congr 1
                omega
              · rw [if_neg (by omega), if_neg (by omega), if_pos (by omega)]
                congr 1
                omega
          · rw [if_neg hq, if_neg (by omega), if_neg (by omega)]
theorem wpList_copy_row {ops : Array Oper} {rest : List Oper} {o1 : Oper} {a : Act} {Q : Exit → Act → World → Prop} {dT sT e : TypeId} (hgd : o1.guard = none) (d s : Operand)
    (ho : o1.op = .call { callee := .builtin .copy, args := #[d, s], argTypes := #[dT, sT] }) (hu : P.underlying dT = some (.slice e)) (hsz : (P.info? e).map (·.size) = some 1) (H : Mem w0 w As) (i : Nat) {g o : Nat} (hi : As[i]? = some (row T 1 (some ⟨g, o, none⟩) n cap cells))
    (off : Nat) {p dLen dCap sLen sCap : Nat} {sa : Addr} (hd : a.eval d = .slice (some ⟨g, p, none⟩) dLen dCap) (hp : p = o + off) (hs : a.eval s = .slice (some sa) sLen sCap) (cs : List Value) (hn : cs.length = Nat.min sLen dLen) (hsrc : ∀ j v, cs[j]? = some v → w.cell? (sa.add j) = some v) (hfit : off + cs.length ≤ n) (h1 : ∀ v ∈ cs, v.oneCell' = true)
    (h : ∀ w', Mem w0 w' (As.set i (row T 1 (some ⟨g, o, none⟩) n cap (splice cells off cs))) → wpList P ops Q rest (a.put o1.dst (goInt cs.length)) w') : wpList P ops Q (o1 :: rest) a w :=
  wpList_plain hgd fun _ hK => by
    subst hp
    obtain ⟨w', hr, hM⟩ := run_copy_own (P := P) (dT := dT) (sT := sT) (ty := o1.type) hu hsz H i hi off dLen dCap sLen sCap sa cs hn hsrc hfit h1
    unfold Oper.wp execOp
    simp only [ho, resolve, invoke, builtin, Sem.run_bind, Sem.run_pure, Result.andThen_ok, List.map_toArray, List.map_cons, List.map_nil, hd, hs, hr]
    exact hK _ _ (h w' hM)
end
set_option maxRecDepth 100000 in
theorem mul64_calls (n : Nat) (w : World) (hn : n ≤ 2000000) : Calls Try.prog 61 #[.int .u64 1, .int .u64 n] w fun e w' => e = .returned (.tuple #[.int .u64 0, .int .u64 n]) ∧ w' = w := by
  have h1 : bits .and .u64 (n : Int) 4294967295 = (n : Int) := by
    have := bits_and_u64_nat n 4294967295 (by omega) (by omega)
    have e : n &&& 4294967295 = n := by
      have := Nat.and_two_pow_sub_one_eq_mod n 32
      rw [show (2 : Nat) ^ 32 - 1 = 4294967295 from by decide, show (2 : Nat) ^ 32 = 4294967296 from by decide] at this
      rw [this, Nat.mod_eq_of_lt (by omega)]
    rw [e] at this
    exact this
  have h2 : (n : Int) / 4294967296 = 0 := by omega
  have h3 : IntKind.u64.wrap (n : Int) = (n : Int) := by rw [IntKind.wrap_u64]; omega
  have h4 : bits .and .u64 1 4294967295 = 1 := by decide
  have h5 : bits .and .u64 0 4294967295 = 0 := by decide
  go_enter Try.func61, Try.ntmps61
  go_wp2
  go_ret2
  exact ⟨rfl, rfl⟩
theorem mul_calls (n : Nat) (w : World) (hn : n ≤ 2000000) : Calls Try.prog 58 #[.int .u64 1, .int .u64 n] w fun e w' => e = .returned (.tuple #[.int .u64 0, .int .u64 n]) ∧ w' = w := by
  go_enter Try.func58, Try.ntmps58
  go_wp2_with (first | (go_at_call 61; (with_reducible refine (mul64_calls n w hn).mono ?_); rintro e w' ⟨rfl, hw⟩; rw [hw]))
  go_ret2
  exact ⟨rfl, rfl⟩
theorem run_exec_copy {P : Program} {w w' : World} {ev : Operand → Value} {oi : Oper} {x y : Operand} {dT sT : TypeId} {vx vy v : Value} (ho : oi.op = .call { callee := .builtin .copy, args := #[x, y], argTypes := #[dT, sT] }) (hx : ev x = vx) (hy : ev y = vy) (hr : (Builtin.copy_ #[dT, sT] oi.type #[vx, vy]).run P w = .ok v w') : (execOp ev oi).run P w = .ok (.value v) w' := by
  unfold execOp
  simp only [ho, resolve, invoke, builtin, Sem.run_bind, Sem.run_pure, Result.andThen_ok, List.map_toArray, List.map_cons, List.map_nil, hx, hy, hr]
theorem splice_reps (x y : Value) (k m r : Nat) (t : List Value) : splice (List.replicate k x ++ (List.replicate m y ++ t)) k (List.replicate m x) = List.replicate (k + m) x ++ t := by
  unfold splice
  rw [List.length_replicate, List.take_left' (by simp), List.drop_append, List.drop_append]
  simp [List.replicate_append_replicate]
theorem int_size : (Try.prog.info? 3).map (·.size) = some 1 := by kernel_rfl
set_option maxRecDepth 100000 in
theorem repeat_calls (A : Option Addr) (n : Nat) (x : Int) (w : World) (hR : Rd Enc.i64 w A [x]) (hn : n ≤ 2000000) :
    Calls Try.prog 51 #[.slice A 1 1, .int .i64 n] w fun e w' => ∃ g, e = .returned (.slice (some ⟨g, 0, none⟩) n n) ∧ Mem w w' [own Enc.i64 3 (some ⟨g, 0, none⟩) n (List.replicate n x)] := by
  obtain ⟨fb, fo, rfl, p0⟩ := hR.get1 (k := 0) (x := x) rfl rfl rfl
  rw [Nat.add_zero] at p0
  have H0 := Mem.refl w
  have P0 := hid p0
  clear hR p0
  have h3 : IntKind.u64.wrap (n : Int) = (n : Int) := by rw [IntKind.wrap_u64]; omega
  have h4 : IntKind.i64.wrap (n : Int) = (n : Int) := by rw [IntKind.wrap_i64]; omega
  by_cases h0 : n = 0
  · subst h0
    have hmul := fun w => mul_calls 0 w (by omega)
    rw [show ((0 : Nat) : Int) = 0 from rfl] at hmul ⊢
    clear h3 h4
    go_enter Try.func51, Try.ntmps51
    go_wp2_with (first
      | (go_at_call 58; (with_reducible refine (hmul _).mono ?_); rintro e w' ⟨rfl, hw⟩; rw [hw])
      | ((with_reducible refine at_mk ?_); refine wpList_make_own (E := Enc.i64) elt_int H0 0 (0 : Int) rfl rfl rfl rfl rfl (by decide) (by decide) ?_; intro gH1 wH1 H1)
      | ((with_reducible refine at_copy ?_); refine wpList_copy_row rfl _ _ rfl Try.underlying87 int_size H1 0 rfl 0 rfl rfl rfl [] rfl (by intro j v h; simp at h) (by simp) (by simp) ?_; intro w2 H2; simp only [List.set_cons_zero] at H2))
    go_loopw [8] (fun v wr => v = .int .i64 0 ∧ Mem w wr [row 3 1 (some ⟨gH1, 0, none⟩) 0 0 (splice [] 0 [])]) (fun _ _ => 0)
    case atStart => exact ⟨rfl, H2⟩
    case round =>
      obtain ⟨rfl, H3⟩ := hrel
      go_wp2
      go_ret
      exact ⟨gH1, rfl, H3⟩
  · have h5 : 0 < n := by omega
    go_enter Try.func51, Try.ntmps51
    go_wp2_with (first
      | (go_at_call 58; (with_reducible refine (mul_calls n _ hn).mono ?_); rintro e w' ⟨rfl, hw⟩; rw [hw])
      | ((with_reducible refine at_mk ?_); refine wpList_make_own (E := Enc.i64) elt_int H0 n (0 : Int) rfl rfl rfl rfl rfl (by unfold maxLen; omega) (by omega) ?_; intro gH1 wH1 H1)
      | ((with_reducible refine at_copy ?_); refine wpList_copy_row rfl _ _ rfl Try.underlying87 int_size H1 0 rfl 0 rfl rfl rfl [I x] (by simp [Nat.min_def]; omega) (by intro j v h; have hj : j = 0 := (by have := (List.getElem?_eq_some_iff.1 h).1; simp at this; exact this); subst hj; obtain rfl := (by simpa using h : I x = v); rw [add_at]; exact H1.old P0.out) (by simp; omega) (by intro v hv; rw [List.mem_singleton.1 hv]; rfl) ?_; intro w2 H2; simp only [List.set_cons_zero] at H2))
    have hst : splice (Enc.i64.all (List.replicate n 0)) 0 [I x] = List.replicate 1 (I x) ++ List.replicate (n - 1) (I 0) := by
      have e : Enc.i64.all (List.replicate n 0) = List.replicate n (I 0) := by
        unfold Enc.all Enc.i64
        rw [List.flatMap_replicate]
        simp
      rw [e]
      unfold splice
      simp
    have hsl : (List.replicate n (0 : Int)).length = n := by simp
    rw [hst, hsl] at H2
    have H2 : Mem w w2 [row 3 1 (some ⟨gH1, 0, none⟩) n n (List.replicate 1 (I x) ++ List.replicate (n - 1) (I 0))] := H2
    go_loopw [8] (fun v wr => ∃ k : Nat, v = .int .i64 k ∧ 1 ≤ k ∧ k ≤ n ∧ Mem w wr [row 3 1 (some ⟨gH1, 0, none⟩) n n (List.replicate k (I x) ++ List.replicate (n - k) (I 0))]) (fun v _ => n - (intOf v).toNat)
    case atStart => exact ⟨1, rfl, Nat.le_refl _, h5, H2⟩
    case round =>
      clear H2 hst hsl H1 H0
      obtain ⟨k, rfl, k1, hk, H3⟩ := hrel
      obtain ⟨w3, rfl⟩ : ∃ wo : World, wo = wr := ⟨_, rfl⟩
      by_cases hlt : k < n
      · have kn : (k : Int) < (n : Int) := by omega
        obtain ⟨m, hm⟩ : ∃ m, min k (n - k) = m := ⟨_, rfl⟩
        have m1 : 1 ≤ m := by omega
        have m2 : m ≤ k := by omega
        have m3 : m ≤ n - k := by omega
        have HM := hid hm
        clear hm
        have hkc : k ≠ n := by omega
        have hnk : (n : Int) - (k : Int) = ((n - k : Nat) : Int) := by omega
        go_wp2
        refine wp_region_B (fun _ => false) (fun w' => True ∧ True) (by kernel_rfl) ?_
        have H4 := H3.drew
        obtain ⟨w4, hw⟩ : ∃ w2, w2 = w3.drew := ⟨_, rfl⟩
        rw [← hw] at H4 ⊢
        clear hw
        have hS : True ∧ True := ⟨trivial, trivial⟩
        obtain ⟨w5, hr5, H5⟩ := run_copy_own (P := Try.prog) (dT := 87) (sT := 87) (ty := 3) Try.underlying87 int_size H4 0 rfl k (n - k) (n - k) k n ⟨gH1, 0, none⟩ (List.replicate m (I x)) (by rw [List.length_replicate]; exact HM.out.symm) (by
          intro j v hj
          have hjm : j < m := by have := (List.getElem?_eq_some_iff.1 hj).1; simpa using this
          obtain ⟨g', o', he, hc, _⟩ := H4.row_at 0 rfl (by omega)
          obtain ⟨rfl, rfl⟩ : gH1 = g' ∧ 0 = o' := by simpa using he
          rw [add_at]
          refine hc j v ?_
          rw [List.getElem?_append_left (by simp; omega), List.getElem?_replicate, if_pos (by omega)]
          rw [List.getElem?_replicate, if_pos hjm] at hj
          exact hj) (by rw [List.length_replicate]; omega) (by intro v hv; rw [(List.mem_replicate.1 hv).2]; rfl)
        rw [Nat.zero_add, List.length_replicate] at hr5
        have hsp : splice (List.replicate k (I x) ++ List.replicate (n - k) (I 0)) k (List.replicate m (I x)) = List.replicate (k + m) (I x) ++ List.replicate (n - (k + m)) (I 0) := by
          have : List.replicate (n - k) (I 0) = List.replicate m (I 0) ++ List.replicate (n - (k + m)) (I 0) := by
            rw [List.replicate_append_replicate]
            congr 1
            omega
          rw [this, splice_reps (r := 0)]
        rw [hsp] at H5
        simp only [List.set_cons_zero] at H5
        have hwr : IntKind.i64.wrap ((k : Int) + (m : Int)) = (k : Int) + (m : Int) := by rw [IntKind.wrap_i64]; omega
        refine wpAnyB_take' (i := 0) (v := I (k : Int)) rfl (by kernel_rfl) (by kernel_rfl) rfl (by kernel_rfl) (by kernel_rfl) (fun _ _ _ h => h) (by rfl) hS (by intro w' hS'; obtain ⟨k1, k2⟩ := hS'; first | (go_simp; done) | (go_simp; rfl) | (go_simp; omega) | (go_simp; assumption)) ?_
        simp only [Act.put, List.setIfInBounds_toArray, List.set_cons_zero, List.set_cons_succ]
        refine wpAnyB_take' (i := 1) (v := .slice (some ⟨gH1, 0, none⟩) n n) rfl (by kernel_rfl) (by kernel_rfl) rfl (by kernel_rfl) (by kernel_rfl) (fun _ _ _ h => h) (by rfl) hS (by intro w' hS'; obtain ⟨k1, k2⟩ := hS'; first | (go_simp; done) | (go_simp; rfl) | (go_simp; omega) | (go_simp; assumption)) ?_
        simp only [Act.put, List.setIfInBounds_toArray, List.set_cons_zero, List.set_cons_succ]
        refine wpAnyB_take' (i := 2) (v := I (k : Int)) rfl (by kernel_rfl) (by kernel_rfl) rfl (by kernel_rfl) (by kernel_rfl) (fun _ _ _ h => h) (by rfl) hS (by intro w' hS'; obtain ⟨k1, k2⟩ := hS'; first | (go_simp; done) | (go_simp; rfl) | (go_simp; omega) | (go_simp; assumption)) ?_
        simp only [Act.put, List.setIfInBounds_toArray, List.set_cons_zero, List.set_cons_succ]
        refine wpAnyB_take' (i := 3) (v := .slice (some ⟨gH1, k, none⟩) (n - k) (n - k)) rfl (by kernel_rfl) (by kernel_rfl) rfl (by kernel_rfl) (by kernel_rfl) (fun _ _ _ h => h) (by rfl) hS (by intro w' hS'; obtain ⟨k1, k2⟩ := hS'; first | (go_simp; done) | (go_simp; rfl) | (go_simp; omega) | (go_simp; assumption)) ?_
        simp only [Act.put, List.setIfInBounds_toArray, List.set_cons_zero, List.set_cons_succ]
        refine wpAnyB_take' (i := 4) (v := .slice (some ⟨gH1, 0, none⟩) n n) rfl (by kernel_rfl) (by kernel_rfl) rfl (by kernel_rfl) (by kernel_rfl) (fun _ _ _ h => h) (by rfl) hS (by intro w' hS'; obtain ⟨k1, k2⟩ := hS'; first | (go_simp; done) | (go_simp; rfl) | (go_simp; omega) | (go_simp; assumption)) ?_
        simp only [Act.put, List.setIfInBounds_toArray, List.set_cons_zero, List.set_cons_succ]
        refine wpAnyB_take' (i := 5) (v := I (k : Int)) rfl (by kernel_rfl) (by kernel_rfl) rfl (by kernel_rfl) (by kernel_rfl) (fun _ _ _ h => h) (by rfl) hS (by intro w' hS'; obtain ⟨k1, k2⟩ := hS'; first | (go_simp; done) | (go_simp; rfl) | (go_simp; omega) | (go_simp; assumption)) ?_
        simp only [Act.put, List.setIfInBounds_toArray, List.set_cons_zero, List.set_cons_succ]
        refine wpAnyB_take' (i := 6) (v := .slice (some ⟨gH1, 0, none⟩) k n) rfl (by kernel_rfl) (by kernel_rfl) rfl (by kernel_rfl) (by kernel_rfl) (fun _ _ _ h => h) (by rfl) hS (by intro w' hS'; obtain ⟨k1, k2⟩ := hS'; first | (go_simp; done) | (go_simp; rfl) | (go_simp; omega) | (go_simp; assumption)) ?_
        simp only [Act.put, List.setIfInBounds_toArray, List.set_cons_zero, List.set_cons_succ]
        refine wpAnyB_do (i := 7) (v := I (m : Int)) (w1 := w5) rfl (by kernel_rfl) (by rfl) (run_exec_copy rfl rfl rfl hr5) ?_
        refine ⟨fun _ => hS, ?_⟩
        simp only [Act.put, List.setIfInBounds_toArray, List.set_cons_zero, List.set_cons_succ]
        refine wpAnyB_take' (i := 8) (v := I ((k : Int) + (m : Int))) rfl (by kernel_rfl) (by kernel_rfl) rfl (by kernel_rfl) (by kernel_rfl) (fun _ _ _ h => h) (by rfl) hS (by intro w' hS'; obtain ⟨k1, k2⟩ := hS'; first | (go_simp; done) | (go_simp; rfl) | (go_simp; omega) | (go_simp; assumption)) ?_
        simp only [Act.put, List.setIfInBounds_toArray, List.set_cons_zero, List.set_cons_succ]
        refine wpAnyB_take' (i := 9) (v := I ((k : Int) + (m : Int))) rfl (by kernel_rfl) (by kernel_rfl) rfl (by kernel_rfl) (by kernel_rfl) (fun _ _ _ h => h) (by rfl) hS (by intro w' hS'; obtain ⟨k1, k2⟩ := hS'; first | (go_simp; done) | (go_simp; rfl) | (go_simp; omega) | (go_simp; assumption)) ?_
        simp only [Act.put, List.setIfInBounds_toArray, List.set_cons_zero, List.set_cons_succ]
        refine wpAnyB_done (by kernel_rfl) ?_ _
        clear hS hwr
        go_wp2
        go_roundw
        case rel => exact ⟨k + m, by go_num, by omega, by omega, H5⟩
        case measure => first | (simp [intOf]; done) | (simp [intOf]; omega)
      · obtain rfl : k = n := by omega
        go_wp2
        go_ret
        refine ⟨gH1, rfl, ?_⟩
        rw [Nat.sub_self, List.replicate_zero, List.append_nil] at H3
        unfold own
        rw [List.length_replicate]
        have e : Enc.i64.all (List.replicate k x) = List.replicate k (I x) := by
          unfold Enc.all Enc.i64
          rw [List.flatMap_replicate]
          simp
        rw [e]
        exact H3
end Go.Proofs.Ytogndpckiognjaa
