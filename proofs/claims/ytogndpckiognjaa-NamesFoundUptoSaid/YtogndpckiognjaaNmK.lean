/- Names: what the document names. -/
import Derived.Test.YtogndpckiognjaaNmL3
namespace Go.Proofs.Ytogndpckiognjaa
open Go.RowKit
set_option linter.unusedVariables false
set_option linter.unusedSimpArgs false
set_option maxHeartbeats 2000000
theorem at_buildN {P : Program} {ops : Array Oper} {rest : List Oper} {a : Act} {w : World} {Q : Exit → Act → World → Prop} {d : Option Tmp} {ty : TypeId} {ps : String} {af : Array Edge} {t : TypeId} {n : Nat} {xs : Array (Nat × Operand)} (h : wpList P ops Q (⟨d, .buildSlice t n xs, ty, ps, af, none⟩ :: rest) a w) : wpList P ops Q (⟨d, .buildSlice t n xs, ty, ps, af, none⟩ :: rest) a w := h
theorem wpList_lit {P : Program} {w0 w : World} {As : List HP} {ops : Array Oper} {rest : List Oper} {o : Oper} {a : Act} {Q : Exit → Act → World → Prop} (hgd : o.guard = none) (H : Mem w0 w As) (c : Array Value) (e : TypeId) (n : Nat)
    (hrun : (execOp a.eval o).run P w = .ok (.value (.slice (some ⟨w.heap.size, 0, none⟩) n n)) (w.alloc (.cells c e)))
    (h : ∀ g w', Mem w0 w' (box g e c :: As) → wpList P ops Q rest (a.put o.dst (.slice (some ⟨g, 0, none⟩) n n)) w') : wpList P ops Q (o :: rest) a w :=
  wpList_plain hgd fun _ hK => by
    have hM := H.alloc e c
    unfold Oper.wp
    rw [hrun]
    exact hK _ _ (h _ _ hM)
/-- A literal that is read. -/
theorem Mem.lit {w0 w : World} {As : List HP} {α : Type} {E : Enc α} {T : TypeId} {g : Nat} {c : Array Value} (H : Mem w0 w As) (i : Nat) (hi : As[i]? = some (box g T c)) (xs : List α) (hc : c.toList = E.all xs) : RdH E w ⟨some ⟨g, 0, Option.none⟩, xs.length, xs.length⟩ xs := by
  refine ⟨rfl, Nat.le_refl _, E.all_len xs, E.all_one xs, fun _ => ⟨g, 0, rfl, fun j u hu => ?_⟩⟩
  have := (H.box_cell i hi).1 j
  rw [Nat.zero_add, this, ← Array.getElem?_toList, hc]
  exact hu
theorem RdH.nil {α : Type} (E : Enc α) (w : World) : RdH E w ⟨none, 0, 0⟩ [] := ⟨rfl, Nat.le_refl _, RdC.nil _ _ _⟩
theorem ref_struct : Try.prog.underlying 52 = some (.struct (Try.prog.fieldsOf 52)) := by kernel_rfl
theorem ref_held : Try.prog.stoodInHeld 52 = false := by kernel_rfl
theorem ref_guard : Try.prog.eqGuardType Try.prog.depth 52 = false := by kernel_rfl
theorem ref_eql (w : World) (x0 x1 y0 y1 : Int) : (binOp .eql 52 (.agg #[I x0, I x1]) (.agg #[I y0, I y1])).run Try.prog w = .ok (.bool (x0 == y0 && x1 == y1)) w := by
  rw [run_eql_struct, run_equalIn_agg w 9999 _ _ _ ref_struct ref_held]
  cases h0 : (x0 == y0) <;> cases h1 : (x1 == y1) <;> simp [go_sem, h0, h1]
theorem ref_eqGuard (op : BinOp) (x y : Operand) (xs ys : Array Value) (w : World) : (eqGuard op 52 x y (.agg xs) (.agg ys)).run Try.prog w = .ok () w := run_eqGuard_agg w op _ x y xs ys ref_guard
theorem flt_struct : Try.prog.underlying 31 = some (.struct (Try.prog.fieldsOf 31)) := by kernel_rfl
theorem flt_held : Try.prog.stoodInHeld 31 = false := by kernel_rfl
theorem flt_guard : Try.prog.eqGuardType Try.prog.depth 31 = false := by kernel_rfl
theorem flt_eql (w : World) (x0 x1 x2 y0 y1 y2 : Int) : (binOp .eql 31 (.agg #[I x0, I x1, I x2]) (.agg #[I y0, I y1, I y2])).run Try.prog w = .ok (.bool (x0 == y0 && x1 == y1 && x2 == y2)) w := by
  rw [run_eql_struct, run_equalIn_agg w 9999 _ _ _ flt_struct flt_held]
  cases h0 : (x0 == y0) <;> cases h1 : (x1 == y1) <;> cases h2 : (x2 == y2) <;> simp [go_sem, h0, h1, h2]
theorem flt_neq (w : World) (x0 x1 x2 y0 y1 y2 : Int) : (binOp .neq 31 (.agg #[I x0, I x1, I x2]) (.agg #[I y0, I y1, I y2])).run Try.prog w = .ok (.bool (!(x0 == y0 && x1 == y1 && x2 == y2))) w := by
  rw [run_neq_struct, run_equalIn_agg w 9999 _ _ _ flt_struct flt_held]
  cases h0 : (x0 == y0) <;> cases h1 : (x1 == y1) <;> cases h2 : (x2 == y2) <;> simp [go_sem, h0, h1, h2]
theorem flt_eqGuard (op : BinOp) (x y : Operand) (xs ys : Array Value) (w : World) : (eqGuard op 31 x y (.agg xs) (.agg ys)).run Try.prog w = .ok () w := run_eqGuard_agg w op _ x y xs ys flt_guard
set_option maxRecDepth 100000 in
theorem finds_true (h : SrcH) (s : Src) (f : Int) (nm : ByteArray) (kd ix : Int) (w : World) (R : RdSrc w h s) (ok : s.Ok) (hq : s.find f nm = (kd, ix, kd != 0)) :
    Calls Try.prog 30 #[h.val, .int .i64 f, .string nm, .int .i64 kd, .int .i64 ix] w fun e w' => e = .returned (.bool true) ∧ Mem w w' [] := by
  have H0 := Mem.refl w
  have HC := hid (fun (w' : World) (hb : Below w.heap.size w w') => by have := find_calls h s f nm w' (R.below hb) ok; rw [hq] at this; exact this)
  have hr := ref_eql
  have hg := ref_eqGuard
  have hval : h.val = .agg #[.slice h.p.A h.p.n h.p.c, .slice h.g.A h.g.n h.g.c, .slice h.a.A h.a.n h.a.c, .slice h.c.A h.c.n h.c.c, .slice h.f.A h.f.n h.f.c] := rfl
  rw [hval]
  clear R ok hq hval
  go_enter Try.func30, Try.ntmps30
  go_wp2_with (first
    | ((with_reducible refine at_box ?_); refine wpList_box_box H0 ?_; intro u_ gH1 wH1 hu_ H1; simp only [Act.eval, Act.put, List.setIfInBounds_toArray, List.set_cons_zero, List.set_cons_succ, Array.getD_eq_getD_getElem?, List.getElem?_toArray, List.getElem?_cons_zero, List.getElem?_cons_succ, Option.getD_some] at hu_; subst hu_; simp only [splice, vcells_int, vcells_bool, vcells_string, vcells_pointer, vcells_slice, vcells_map, vcells_func, vcells_nilFunc, vcells_iface, vcells_nilIface, vcells_agg, List.take_zero, List.take_succ_cons, List.drop_zero, List.drop_succ_cons, List.length_cons, List.length_nil, List.nil_append, List.cons_append, List.append_nil, Nat.zero_add, List.set_cons_zero, List.set_cons_succ] at H1; (try clear b0); have b0 := H1.cells 0 rfl; simp only [cellsAre, and_true, Nat.zero_add] at b0)
    | (go_at_call 10; (with_reducible refine (HC.out _ H1.below).mono ?_); rintro e w2 ⟨rfl, H2'⟩; have H2 := H1.call H2'; simp only [List.nil_append] at H2; clear b0)
    | ((with_reducible refine at_alloc ?_); refine wpList_alloc_box H2 (.agg #[.int .i64 0, .int .i64 0]) (by kernel_rfl) ?_; intro gH3 wH3 H3; simp only [splice, vcells_int, vcells_bool, vcells_string, vcells_pointer, vcells_slice, vcells_map, vcells_func, vcells_nilFunc, vcells_iface, vcells_nilIface, vcells_agg, List.take_zero, List.take_succ_cons, List.drop_zero, List.drop_succ_cons, List.length_cons, List.length_nil, List.nil_append, List.cons_append, List.append_nil, Nat.zero_add, List.set_cons_zero, List.set_cons_succ] at H3)
    | ((with_reducible refine at_store ?_); refine wpList_store_box H3 0 2 rfl rfl (by kernel_rfl) rfl (Nat.le_of_ble_eq_true rfl) rfl ?_; intro u_ wH4 hu_ H4; simp only [Act.eval, Act.put, List.setIfInBounds_toArray, List.set_cons_zero, List.set_cons_succ, Array.getD_eq_getD_getElem?, List.getElem?_toArray, List.getElem?_cons_zero, List.getElem?_cons_succ, Option.getD_some] at hu_; subst hu_; simp only [splice, vcells_int, vcells_bool, vcells_string, vcells_pointer, vcells_slice, vcells_map, vcells_func, vcells_nilFunc, vcells_iface, vcells_nilIface, vcells_agg, List.take_zero, List.take_succ_cons, List.drop_zero, List.drop_succ_cons, List.length_cons, List.length_nil, List.nil_append, List.cons_append, List.append_nil, Nat.zero_add, List.set_cons_zero, List.set_cons_succ] at H4; (try clear b1); have b1 := H4.cells 0 rfl; simp only [cellsAre, and_true, Nat.zero_add] at b1))
  go_ret
  exact ⟨by simp, H4.none⟩
theorem done_calls (nm : ByteArray) (A : Option Addr) (c : Nat) (xs : List StmtH) (w : World) (hR : Rd Enc.stmt w A xs) (hl : xs.length ≤ 1000) :
    Calls Try.prog 15 #[.string nm, .slice A xs.length c] w fun e w' => ∃ A' c', e = .returned (.agg #[.string nm, .int .u64 0, .slice none 0 0, .slice none 0 0, .slice none 0 0, .slice A' (xs.length + 1) c']) ∧ Mem w w' [own Enc.stmt 47 A' c' (xs ++ [⟨9, ByteArray.empty, ⟨none, 0, 0⟩, ⟨none, 0, 0⟩⟩])] := by
  have HR := hid hR
  clear hR
  have H0 := Mem.refl w
  go_enter Try.func15, Try.ntmps15
  go_wp2_with (first
    | ((with_reducible refine at_alloc ?_); refine wpList_alloc_box H0 (.agg #[.string ByteArray.empty, .int .u64 0, .slice none 0 0, .slice none 0 0, .slice none 0 0, .slice none 0 0]) (by kernel_rfl) ?_; intro gH1 wH1 H1; simp only [splice, vcells_int, vcells_bool, vcells_string, vcells_pointer, vcells_slice, vcells_map, vcells_func, vcells_nilFunc, vcells_iface, vcells_nilIface, vcells_agg, List.take_zero, List.take_succ_cons, List.drop_zero, List.drop_succ_cons, List.length_cons, List.length_nil, List.nil_append, List.cons_append, List.append_nil, Nat.zero_add, List.set_cons_zero, List.set_cons_succ] at H1)
    | (((with_reducible refine at_build0 ?_); refine wpList_build0 elt_stmt H1 ?_; intro gH2 wH2 H2); have RA := Rd.below HR.out H2.below)
    | ((with_reducible refine at_append ?_); refine wpList_append_row rfl _ _ rfl elt_stmt H2 0 rfl rfl rfl RA (by unfold maxLen; omega) (by omega) ?_; intro A3 c3 w3 H3; simp only [List.set_cons_zero, Nat.zero_add, List.nil_append] at H3 ⊢)
    | ((with_reducible refine at_build1 ?_); refine wpList_build1 elt_stmt H3 rfl rfl (by decide) ?_; intro u_ gH4 wH4 hu_ H4; simp only [Act.eval, Act.put, List.setIfInBounds_toArray, List.set_cons_zero, List.set_cons_succ, Array.getD_eq_getD_getElem?, List.getElem?_toArray, List.getElem?_cons_zero, List.getElem?_cons_succ, Option.getD_some] at hu_; subst hu_; simp only [splice, vcells_int, vcells_bool, vcells_string, vcells_pointer, vcells_slice, vcells_map, vcells_func, vcells_nilFunc, vcells_iface, vcells_nilIface, vcells_agg, List.take_zero, List.take_succ_cons, List.drop_zero, List.drop_succ_cons, List.length_cons, List.length_nil, List.nil_append, List.cons_append, List.append_nil, Nat.zero_add, List.set_cons_zero, List.set_cons_succ] at H4)
    | ((with_reducible refine at_append ?_); refine wpList_append_own2 (E := Enc.stmt) elt_stmt H4 1 (⟨9, ByteArray.empty, ⟨none, 0, 0⟩, ⟨none, 0, 0⟩⟩ : StmtH) rfl rfl rfl rfl (H4.rd 0 rfl elt_stmt.pos).1 (by omega) (by decide) ?_; intro AH5 cH5 wH5 H5; simp only [List.set_cons_zero, List.set_cons_succ] at H5; replace H5 := H5.drop 0; simp only [List.eraseIdx_cons_zero] at H5)
    | ((with_reducible refine at_store ?_); refine wpList_store_box H5 1 6 rfl rfl (by kernel_rfl) rfl (Nat.le_of_ble_eq_true rfl) rfl ?_; intro u_ wH6 hu_ H6; simp only [Act.eval, Act.put, List.setIfInBounds_toArray, List.set_cons_zero, List.set_cons_succ, Array.getD_eq_getD_getElem?, List.getElem?_toArray, List.getElem?_cons_zero, List.getElem?_cons_succ, Option.getD_some] at hu_; subst hu_; simp only [splice, vcells_int, vcells_bool, vcells_string, vcells_pointer, vcells_slice, vcells_map, vcells_func, vcells_nilFunc, vcells_iface, vcells_nilIface, vcells_agg, List.take_zero, List.take_succ_cons, List.drop_zero, List.drop_succ_cons, List.length_cons, List.length_nil, List.nil_append, List.cons_append, List.append_nil, Nat.zero_add, List.set_cons_zero, List.set_cons_succ] at H6; (try clear b0); have b0 := H6.cells 1 rfl; simp only [cellsAre, and_true, Nat.zero_add] at b0))
  refine bodyPost_ret (v := .agg #[.string nm, .int .u64 0, .slice none 0 0, .slice none 0 0, .slice none 0 0, .slice AH5 (xs.length + 1) cH5]) (by simp [results, Try.results15, go_sem, b0]) rfl ?_
  exact ⟨AH5, cH5, rfl, H6.drop 1⟩
end Go.Proofs.Ytogndpckiognjaa
