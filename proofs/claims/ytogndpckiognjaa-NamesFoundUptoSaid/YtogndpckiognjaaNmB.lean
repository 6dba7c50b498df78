/- Names: slices.Grow, slices.Concat; what is declared for all; Find. -/
import Derived.Test.YtogndpckiognjaaNmA
import Derived.Lib.AppendZeros
namespace Go.Proofs.Ytogndpckiognjaa
open Go.RowKit
set_option linter.unusedVariables false
set_option linter.unusedSimpArgs false
set_option maxHeartbeats 2000000
theorem wpList_append_zeros {P : Program} {w0 w : World} {As : List HP} {t tn e : TypeId} {sz bytes : Nat} {z : Value} {ops : Array Oper} {rest : List Oper} {o : Oper} {a : Act} {Q : Exit → Act → World → Prop} (hgd : o.guard = none) (s x : Operand)
    (ho : o.op = .call { callee := .builtin .append, args := #[s, x], argTypes := #[t, tn] })
    (E : Elt P t e sz bytes z) (htn : P.underlying tn = some (.int .i64)) (H : Mem w0 w As) (n : Nat) (h0 : 0 < n)
    (hs : a.eval s = .slice none 0 0) (hx : a.eval x = .int .i64 n) (h63 : n ≤ maxLen) (hby : n * bytes ≤ 281474976710656)
    (h : ∀ A' cap' w' cs, n ≤ cap' → Mem w0 w' (row e sz A' n cap' cs :: As) → wpList P ops Q rest (a.put o.dst (.slice A' n cap')) w') : wpList P ops Q (o :: rest) a w := by
  obtain ⟨I, hI, hz, rfl, rfl⟩ := E.inf
  refine Lib.wpList_append_run w hgd s x t tn ho _ _ hs hx _ _ (Lib.run_append_nil_zeros w t tn o.type e I z .i64 .i64 E.und htn hI hz n h0 E.pos (by unfold maxLen at h63; omega) hby) ?_
  have hge := grownCap_ge w n 0 e
  have hcm : grownCap w n 0 e ≤ maxLen := grownCap_le_maxLen w n 0 e h63
  have hM := H.drew.alloc e (Builtin.zeroCells z.cells n ++ Builtin.zeroCells z.cells (grownCap w n 0 e - n))
  have hsz1 : (Builtin.zeroCells z.cells n).size = n * I.size := by rw [size_zeroCells, E.zs]
  have hsz2 : (Builtin.zeroCells z.cells (grownCap w n 0 e - n)).size = (grownCap w n 0 e - n) * I.size := by rw [size_zeroCells, E.zs]
  refine h _ _ _ (Builtin.zeroCells z.cells n).toList hge (hM.conv 0 rfl ?_)
  rintro F ⟨hF, hg⟩
  refine ⟨by rw [Array.length_toList, hsz1], hge, hcm, mem_zeroCells E.z1, .inr ⟨_, 0, _, rfl, hF, hg, ?_, ?_⟩⟩
  · rw [Array.size_append, hsz1, hsz2, ← Nat.add_mul, Nat.zero_add]
    exact Nat.mul_le_mul_right _ (by omega)
  · rw [List.drop_zero, Array.toList_append, ← hsz1, ← Array.length_toList]
    exact List.take_left
set_option maxRecDepth 100000 in
theorem grow_calls (n : Nat) (w : World) (hn : n ≤ 100000000) :
    Calls Try.prog 43 #[.slice none 0 0, .int .i64 n] w fun e w' => ∃ A c, e = .returned (.slice A 0 c) ∧ Mem w w' [own Enc.decl 37 A c []] := by
  have H0 := Mem.refl w
  go_enter Try.func43, Try.ntmps43
  by_cases h0 : n = 0
  · subst h0
    go_wp2
    go_ret
    exact ⟨none, 0, rfl, H0.nilrow 37 2⟩
  · have h1 : 0 < n := by omega
    have h2 : (0 : Int) < (n : Int) := by omega
    go_wp2_with (first
      | ((with_reducible refine wpList_append_zeros rfl _ _ rfl elt_decl Try.underlying3 H0 n h1 rfl rfl (by unfold maxLen; omega) (by omega) ?_); intro A1 c1 w1 cs1 hc1 H1; obtain ⟨-, -, hcm⟩ := H1.rd 0 rfl elt_decl.pos; unfold maxLen at hcm))
    go_ret
    refine ⟨A1, c1, by simp, ?_⟩
    have H2 := H1.row_take 0 rfl (k := 0) (by omega)
    simpa [own, Enc.all, Enc.decl] using H2
theorem flat_take {α : Type} {rows : List (List α)} {k : Nat} {r : List α} (h : rows[k]? = some r) : (rows.take (k + 1)).flatten = (rows.take k).flatten ++ r := by
  rw [List.take_add_one, h]
  simp
theorem flat_len {α : Type} {rows : List (List α)} (h : ∀ r ∈ rows, r.length ≤ 2000000) : ∀ k, (rows.take k).flatten.length ≤ k * 2000000
  | 0 => Nat.zero_le _
  | k + 1 => by
    have ih := flat_len h k
    cases hr : rows[k]? with
    | none => simp only [List.take_add_one, hr, Option.toList_none, List.append_nil]; exact Nat.le_trans ih (Nat.mul_le_mul_right _ (Nat.le_succ k))
    | some r =>
      simp only [flat_take hr, List.length_append]
      have h2 := h r (List.mem_of_getElem? hr)
      exact Nat.le_trans (Nat.add_le_add ih h2) (Nat.le_of_eq (Nat.succ_mul k 2000000).symm)
set_option maxRecDepth 100000 in
theorem concat_calls (A : Option Addr) (n c : Nat) (rows : List (List Decl)) (hs : List Hdr) (w : World) (R : RdHs Enc.decl w ⟨A, n, c⟩ rows hs) (hl : rows.length ≤ 8) (hb : ∀ r ∈ rows, r.length ≤ 2000000) :
    Calls Try.prog 25 #[.slice A n c] w fun e w' => ∃ A' c', e = .returned (.slice A' rows.flatten.length c') ∧ Mem w w' [own Enc.decl 37 A' c' rows.flatten] := by
  have HR := hid R
  have HB := hid hb
  have HL := hid (fun k => flat_len hb k)
  have hnl : n = hs.length := R.hdr.n
  subst hnl
  have hsl : rows.length = hs.length := R.len.symm
  have HSL := hid hsl
  have hl2 : hs.length ≤ 8 := by omega
  clear R hb hsl
  have H0 := Mem.refl w
  go_enter Try.func25, Try.ntmps25
  go_wp2
  go_loopw [3, 11] (fun v3 v wr => ∃ k : Nat, v = .int .i64 k ∧ v3 = .int .i64 ((rows.take k).flatten.length : Nat) ∧ k ≤ hs.length ∧ Mem w wr []) (fun _ v _ => hs.length - (intOf v).toNat)
  case atStart => exact ⟨0, rfl, by simp, Nat.zero_le _, H0⟩
  case round =>
    clear H0
    obtain ⟨k, rfl, rfl, hk, H1⟩ := hrel
    obtain ⟨wo, rfl⟩ : ∃ wo : World, wo = wr := ⟨_, rfl⟩
    have hsum := HL.out k
    have hsum1 := HL.out (k + 1)
    obtain ⟨z, hz⟩ : ∃ z, (rows.take k).flatten.length = z := ⟨_, rfl⟩
    have HZ := hid hz
    rw [hz] at hsum ⊢
    clear hz
    by_cases hlt : k < hs.length
    · obtain ⟨hd, hhd⟩ : ∃ x, hs[k]? = some x := ⟨_, List.getElem?_eq_getElem hlt⟩
      obtain ⟨r, hr⟩ : ∃ x, rows[k]? = some x := ⟨_, List.getElem?_eq_getElem (by rw [HSL.out]; exact hlt)⟩
      obtain ⟨b1, o1, e0, p0⟩ := HR.out.hdr.rd.get1 rfl hhd rfl
      simp only at e0
      subst e0
      have hrl : hd.n = r.length := (HR.out.each k hd r hhd hr).n
      rw [hrl] at p0
      have e1 := H1.old p0
      have hbr : r.length ≤ 2000000 := HB.out r (List.mem_of_getElem? hr)
      have HRR := hid hr
      clear hhd hr hrl p0
      have g1 : decide (((z : Int) + (r.length : Int)) < 0) = false := by simp; omega
      go_wp2
      go_roundw
      case rel =>
        refine ⟨k + 1, by go_num, ?_, by omega, H1⟩
        rw [flat_take HRR.out, List.length_append, HZ.out]
        first | go_num | simp
      case measure => first | (simp [intOf]; done) | (simp [intOf]; omega)
    · obtain rfl : k = hs.length := by omega
      have hz2 : rows.flatten.length = z := by rw [← HZ.out, ← HSL.out, List.take_length]
      have HZ2 := hid hz2
      clear hz2
      have hzb : z ≤ 100000000 := by
        have := hsum
        omega
      go_wp2_with (first
        | (go_at_call 43; (with_reducible refine (grow_calls z _ hzb).mono ?_); rintro e w2 ⟨A2, c2, rfl, H2'⟩; have H2 := H1.call H2'; simp only [List.append_nil] at H2))
      go_loopw [6, 27] (fun v6 v wr => ∃ (k : Nat) (A6 : Option Addr) (c6 : Nat), v = .int .i64 k ∧ v6 = .slice A6 (rows.take k).flatten.length c6 ∧ k ≤ hs.length ∧ Mem w wr [own Enc.decl 37 A6 c6 (rows.take k).flatten]) (fun _ v _ => hs.length - (intOf v).toNat)
      case atStart => exact ⟨0, A2, c2, rfl, by simp, Nat.zero_le _, by simpa using H2⟩
      case round =>
        clear H1 H2 H2'
        obtain ⟨k, A6, c6, rfl, rfl, hk2, H3⟩ := hrel
        obtain ⟨w3, rfl⟩ : ∃ wo : World, wo = wr := ⟨_, rfl⟩
        have hsum3 := HL.out k
        by_cases hlt : k < hs.length
        · obtain ⟨hd, hhd⟩ : ∃ x, hs[k]? = some x := ⟨_, List.getElem?_eq_getElem hlt⟩
          obtain ⟨r, hr⟩ : ∃ x, rows[k]? = some x := ⟨_, List.getElem?_eq_getElem (by rw [HSL.out]; exact hlt)⟩
          obtain ⟨b1, o1, e0, p0⟩ := HR.out.hdr.rd.get1 rfl hhd rfl
          simp only at e0
          subst e0
          have hE := HR.out.each k hd r hhd hr
          have hrl : hd.n = r.length := hE.n
          rw [hrl] at p0
          have e1 := H3.old p0
          have hbr : r.length ≤ 2000000 := HB.out r (List.mem_of_getElem? hr)
          have hsb : (rows.take k).flatten.length ≤ 16000000 := by omega
          have hbb : r.length ≤ 2000000 := hbr
          have HRR := hid hr
          have HRD := hid (Rd.below hE.rd H3.below)
          clear hhd hr hrl p0 hE hsum hsum1 hsum3 hbr
          obtain ⟨ys, hys⟩ : ∃ ys, (rows.take k).flatten = ys := ⟨_, rfl⟩
          have HYS := hid hys
          rw [hys] at H3 hsb ⊢
          clear hys
          go_wp2_with (first
            | ((with_reducible refine at_append ?_); refine wpList_append_row rfl _ _ rfl elt_decl H3 0 rfl rfl rfl HRD.out (by unfold maxLen; omega) (by omega) ?_; intro AH4 cH4 wH4 H4; simp only [splice, vcells_int, vcells_bool, vcells_string, vcells_pointer, vcells_slice, vcells_map, vcells_func, vcells_nilFunc, vcells_iface, vcells_nilIface, vcells_agg, List.take_zero, List.take_succ_cons, List.drop_zero, List.drop_succ_cons, List.length_cons, List.length_nil, List.nil_append, List.cons_append, List.append_nil, Nat.zero_add, List.set_cons_zero, List.set_cons_succ] at H4))
          go_roundw
          case rel =>
            refine ⟨k + 1, AH4, cH4, by go_num, ?_, by omega, ?_⟩
            · rw [flat_take HRR.out, List.length_append, HYS.out]
            · rw [flat_take HRR.out, HYS.out]
              unfold own
              rw [List.length_append, Enc.all_append]
              exact H4
          case measure => first | (simp [intOf]; done) | (simp [intOf]; omega)
        · obtain rfl : k = hs.length := by omega
          go_wp2
          go_ret
          rw [← HSL.out, List.take_length] at H3 ⊢
          exact ⟨A6, c6, rfl, H3⟩
end Go.Proofs.Ytogndpckiognjaa
