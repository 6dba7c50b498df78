/- Names: the checker: what was seen; a fault told. -/
import Derived.Test.YtogndpckiognjaaNmEn
import Derived.Maps.Own
import Derived.Maps.OwnOps
import Derived.Maps.Views
namespace Go.Proofs.Ytogndpckiognjaa
open Go.RowKit
set_option linter.unusedVariables false
set_option linter.unusedSimpArgs false
set_option maxHeartbeats 2000000
open Go.Maps Go.WideMaps
abbrev strK : Keyed Try.prog 9 := string_keyed Try.underlying9
/-- How often a name is in a list. -/
def cntN : List ByteArray → ByteArray → Int
  | [], _ => 0
  | y :: ys, s => (if y = s then 1 else 0) + cntN ys s
theorem cntN_snoc : ∀ (ns : List ByteArray) (y s : ByteArray), cntN (ns ++ [y]) s = cntN ns s + if y = s then 1 else 0
  | [], y, s => by simp [cntN]
  | z :: zs, y, s => by
    rw [List.cons_append, cntN, cntN, cntN_snoc zs y s]
    omega
theorem cntN_le : ∀ (ns : List ByteArray) (s : ByteArray), 0 ≤ cntN ns s ∧ cntN ns s ≤ ns.length
  | [], s => by simp [cntN]
  | z :: zs, s => by
    have := cntN_le zs s
    rw [cntN, List.length_cons]
    push_cast
    split <;> omega
/-- A map that counts names. -/
def mapP (M : Nat) (ns : List ByteArray) : HP where
  P := fun F w => (∀ k, F k ↔ k = M) ∧ ∃ (n : Nat) (D : DataW Unit), w.ownsMap Try.prog 9 (plainElem Try.prog 3) M n D ∧ n ≤ ns.length ∧ IsMap D ∧ ∀ s : ByteArray, D.atKey (.string s.data.toList) (.lit (.int .i64 0)) = .lit (.int .i64 (cntN ns s))
  mv := by
    rintro F w w' ⟨hF, n, D, ⟨es, cl, h1, h2⟩, h3⟩ hm
    exact ⟨hF, n, D, ⟨es, cl, (hm M ((hF M).2 rfl)).trans h1, h2⟩, h3⟩
theorem Mem.mkmap {w0 w : World} {As : List HP} (H : Mem w0 w As) : Mem w0 (w.alloc (.map #[] 0)) (mapP w.heap.size [] :: As) := by
  refine H.add (Below.refl _ w |>.alloc (Nat.le_refl _) _) (G := fun k => k = w.heap.size) ⟨fun k => Iff.rfl, 0, .map [], World.ownsMap_made _ _ _ _, Nat.le_refl _, isMap_empty, fun s => rfl⟩ ?_
  rintro k rfl
  exact ⟨Nat.le_refl _, by simp⟩
section
variable {w0 w : World} {As : List HP} {ops : Array Oper} {rest : List Oper} {o : Oper} {a : Act} {Q : Exit → Act → World → Prop}
theorem strWf (s : ByteArray) : WideAt.IsKeyLit (.string s.data.toList) := trivial
theorem wpList_lookup_map (hg : o.guard = none) (m x : Operand) (hop : o.op = Op.lookup 84 m x false) (H : Mem w0 w As) (i : Nat) {M : Nat} {ns : List ByteArray} (hi : As[i]? = some (mapP M ns)) {s : ByteArray} (hm : a.eval m = .map (some M)) (hx : a.eval x = .string s) (hs : s.size ≤ 2000000)
    (h : wpList Try.prog ops Q rest (a.put o.dst (.int .i64 (cntN ns s))) w) : wpList Try.prog ops Q (o :: rest) a w := by
  obtain ⟨F, ⟨hF, n, D, hown, hn, hD, hat⟩, _⟩ := H.get i hi
  refine wpList_lookup_own_int w hg m x 84 hop 9 3 .i64 strK Try.underlying84 Try.underlying3 (by kernel_rfl) M n D hm hown _ (.string s.data.toList) hx (keyOf_string_mk Try.underlying9 (by unfold maxLen; omega)) ?_
  intro c hc _
  rw [hat s] at hc
  have : cntN ns s = c := by simpa using hc
  rw [← this]
  exact h
theorem wpList_update_map (hg : o.guard = none) (m x v : Operand) (hop : o.op = Op.mapUpdate 84 m x v) (H : Mem w0 w As) (i : Nat) {M : Nat} {ns : List ByteArray} (hi : As[i]? = some (mapP M ns)) {s : ByteArray} (hm : a.eval m = .map (some M)) (hx : a.eval x = .string s) (hv : a.eval v = .int .i64 (cntN ns s + 1)) (hs : s.size ≤ 2000000) (hl : ns.length ≤ 1000000000)
    (h : ∀ w', Mem w0 w' (As.set i (mapP M (ns ++ [s]))) → wpList Try.prog ops Q rest (a.put o.dst undef) w') : wpList Try.prog ops Q (o :: rest) a w := by
  obtain ⟨F, ⟨hF, n, D, hown, hn, hD, hat⟩, _⟩ := H.get i hi
  have hc := cntN_le ns s
  refine wpList_mapUpdate_own w hg m x v 84 hop 9 3 strK Try.underlying84 (plainElem Try.prog 3) M n D hm hown (by unfold maxLen; omega) _ _ (.string s.data.toList) hx hv (keyOf_string_mk Try.underlying9 (by unfold maxLen; omega)) _ [] (plainElem_int Try.underlying3 (WalkArith.wf_i64 (by omega))) ?_
  intro w' hown' hgr
  refine h w' (H.step i hi ?_)
  rintro F' ⟨hF', _⟩ hb
  refine ⟨F', ⟨hF', n + 1, _, hown', by simp; omega, hD.put _ _, fun t => ?_⟩, fun k hk => .inl hk, ⟨hgr.os, hgr.tape, hgr.output, hgr.size, fun k hk hnF => hgr.block k hk (fun e => hnF ((hF' k).2 (by simpa using e)))⟩⟩
  rw [cntN_snoc]
  by_cases ht : t = s
  · subst ht
    rw [atKey_put_same hD (strWf t), if_pos rfl]
  · rw [atKey_put_other (by
      intro he
      apply ht
      have : t.data.toList = s.data.toList := by simpa using he
      exact ByteArray.ext (Array.toList_inj.mp this)), hat t, if_neg (fun e => ht e.symm), Int.add_zero]
end
/-- A fault: its number, the function, the place. -/
abbrev Flt : Type := Int × Int × Int
def tellF (b : Bool) (er fn at_ : Int) (x : Flt) : Flt := if b = true ∧ x.1 = 0 then (er, fn, at_) else x
/-- The checker's block. -/
abbrev ckB (g : Nat) (h : SrcH) (x : Flt) : HP := box g 67 #[.slice h.p.A h.p.n h.p.c, .slice h.g.A h.g.n h.g.c, .slice h.a.A h.a.n h.a.c, .slice h.c.A h.c.n h.c.c, .slice h.f.A h.f.n h.f.c, .int .i64 x.1, .int .i64 x.2.1, .int .i64 x.2.2]
set_option maxRecDepth 100000 in
theorem tell_calls {w0 w : World} {As : List HP} {gc : Nat} {h : SrcH} {x : Flt} (b : Bool) (er fn at_ : Int) (H : Mem w0 w (ckB gc h x :: As)) :
    Calls Try.prog 31 #[pt gc, .bool b, .int .i64 er, .int .i64 fn, .int .i64 at_] w fun e w' => e = .returned (.tuple #[]) ∧ Mem w0 w' (ckB gc h (tellF b er fn at_ x) :: As) := by
  obtain ⟨x0, x1, x2⟩ := x
  simp only [ckB] at H
  have b0 := H.cells 0 rfl
  simp only [cellsAre, and_true, Nat.zero_add] at b0
  cases b with
  | false =>
    have hv : tellF false er fn at_ (x0, x1, x2) = (x0, x1, x2) := rfl
    have HV := hid hv
    clear hv
    go_enter Try.func31, Try.ntmps31
    go_wp2
    go_end0
    rw [HV.out]
    exact ⟨rfl, H⟩
  | true =>
    by_cases hx : x0 = 0
    · subst hx
      have hv : tellF true er fn at_ (0, x1, x2) = (er, fn, at_) := rfl
      have HV := hid hv
      clear hv
      go_enter Try.func31, Try.ntmps31
      go_wp2_with (first | ((with_reducible refine at_store ?_); refine wpList_store_box H 0 3 rfl rfl (by kernel_rfl) rfl (Nat.le_of_ble_eq_true rfl) rfl ?_; intro u_ wH1 hu_ H1; simp only [Act.eval, Act.put, List.setIfInBounds_toArray, List.set_cons_zero, List.set_cons_succ, Array.getD_eq_getD_getElem?, List.getElem?_toArray, List.getElem?_cons_zero, List.getElem?_cons_succ, Option.getD_some] at hu_; subst hu_; simp only [splice, vcells_int, vcells_bool, vcells_string, vcells_pointer, vcells_slice, vcells_map, vcells_func, vcells_nilFunc, vcells_iface, vcells_nilIface, vcells_agg, List.take_zero, List.take_succ_cons, List.drop_zero, List.drop_succ_cons, List.length_cons, List.length_nil, List.nil_append, List.cons_append, List.append_nil, Nat.zero_add, List.set_cons_zero, List.set_cons_succ] at H1))
      go_end0
      rw [HV.out]
      exact ⟨rfl, H1⟩
    · have hv : tellF true er fn at_ (x0, x1, x2) = (x0, x1, x2) := if_neg (fun h => hx h.2)
      have HV := hid hv
      have g1 : (x0 == 0) = false := by simpa using hx
      clear hv hx
      go_enter Try.func31, Try.ntmps31
      go_wp2
      go_end0
      rw [HV.out]
      exact ⟨rfl, H⟩
/-- Has a label a number that is no principal's? -/
def foreignF (n : Nat) (l : Int) : Bool := if n < 64 then l / 2 ^ n != 0 else false
theorem foreign_calls {w0 w : World} {As : List HP} {gc : Nat} {h : SrcH} {x : Flt} (l : Int) (n : Nat) (hn : h.p.n = n) (hl : n ≤ 2000000) (H : Mem w0 w (ckB gc h x :: As)) :
    Calls Try.prog 34 #[pt gc, .int .u64 l] w fun e w' => e = .returned (.bool (foreignF n l)) ∧ w' = w := by
  have b0 := H.cells 0 rfl
  simp only [cellsAre, and_true, Nat.zero_add, hn] at b0
  clear H hn
  by_cases h1 : n < 64
  · have h2 : (n : Int) < 64 := by omega
    have hv : foreignF n l = (l / 2 ^ n != 0) := if_pos h1
    have HV := hid hv
    clear hv
    go_enter Try.func34, Try.ntmps34
    go_wp2
    go_ret
    rw [HV.out]
    exact ⟨rfl, rfl⟩
  · have h2 : decide ((n : Int) < 64) = false := by simp; omega
    have hv : foreignF n l = false := if_neg h1
    have HV := hid hv
    clear hv h1
    go_enter Try.func34, Try.ntmps34
    go_wp2
    go_ret
    rw [HV.out]
    exact ⟨rfl, rfl⟩
/-- One use of a name. -/
def useF (s : Src) (f at_ : Int) (nm : ByteArray) (ks : List Int) (x : Flt) : Flt := tellF (!(ks.any fun k => (s.find f nm).1 == k)) 72 f at_ (tellF (!(s.find f nm).2.2) 71 f at_ x)
theorem Mem.box0 {w0 w : World} {As : List HP} {A : HP} (H : Mem w0 w (A :: As)) (B : HP) (hB : Mem w0 w (B :: A :: As)) : Mem w0 w (A :: As) := hB.drop 0
set_option maxRecDepth 100000 in
theorem use_calls {w0 w : World} {As : List HP} {gc : Nat} {h : SrcH} {s : Src} {x : Flt} (R : RdSrc w0 h s) (ok : s.Ok) (f at_ : Int) (nm : ByteArray) (A : Option Addr) (c : Nat) (ks : List Int) (hl : ks.length ≤ 100) (H : Mem w0 w (ckB gc h x :: own Enc.i64 3 A c ks :: As)) :
    Calls Try.prog 41 #[pt gc, .int .i64 f, .int .i64 at_, .string nm, .slice A ks.length c] w fun e w' => e = .returned (.tuple #[]) ∧ Mem w0 w' (ckB gc h (useF s f at_ nm ks x) :: own Enc.i64 3 A c ks :: As) := by
  have HR := hid R
  have HO := hid ok
  clear R ok
  obtain ⟨r0, r1, r2, hq⟩ : ∃ r0 r1 r2, s.find f nm = (r0, r1, r2) := ⟨_, _, _, rfl⟩
  have hu : useF s f at_ nm ks x = tellF (!(ks.any fun k => r0 == k)) 72 f at_ (tellF (!r2) 71 f at_ x) := by unfold useF; rw [hq]
  have HQ := hid hq
  have HU := hid hu
  clear hq hu
  have b0 := H.cells 0 rfl
  simp only [cellsAre, and_true, Nat.zero_add] at b0
  have FC := hid (fun (w' : World) (hb : Below w0.heap.size w0 w') => find_calls h s f nm w' (HR.out.below hb) HO.out)
  go_enter Try.func41, Try.ntmps41
  go_wp2_with (first
    | (go_at_call 10; (with_reducible refine (FC.out _ H.below).mono ?_); rintro e w1 ⟨rfl, H1'⟩; rw [HQ.out]; have H1 := H.call H1'; simp only [List.nil_append] at H1; clear b0)
    | ((with_reducible refine at_alloc ?_); refine wpList_alloc_box H1 (.agg #[.int .i64 0, .int .i64 0]) (by kernel_rfl) ?_; intro gH2 wH2 H2; simp only [splice, vcells_int, vcells_bool, vcells_string, vcells_pointer, vcells_slice, vcells_map, vcells_func, vcells_nilFunc, vcells_iface, vcells_nilIface, vcells_agg, List.take_zero, List.take_succ_cons, List.drop_zero, List.drop_succ_cons, List.length_cons, List.length_nil, List.nil_append, List.cons_append, List.append_nil, Nat.zero_add, List.set_cons_zero, List.set_cons_succ] at H2)
    | ((with_reducible refine at_store ?_); refine wpList_store_box H2 0 2 rfl rfl (by kernel_rfl) rfl (Nat.le_of_ble_eq_true rfl) rfl ?_; intro u_ wH3 hu_ H3; simp only [Act.eval, Act.put, List.setIfInBounds_toArray, List.set_cons_zero, List.set_cons_succ, Array.getD_eq_getD_getElem?, List.getElem?_toArray, List.getElem?_cons_zero, List.getElem?_cons_succ, Option.getD_some] at hu_; subst hu_; simp only [splice, vcells_int, vcells_bool, vcells_string, vcells_pointer, vcells_slice, vcells_map, vcells_func, vcells_nilFunc, vcells_iface, vcells_nilIface, vcells_agg, List.take_zero, List.take_succ_cons, List.drop_zero, List.drop_succ_cons, List.length_cons, List.length_nil, List.nil_append, List.cons_append, List.append_nil, Nat.zero_add, List.set_cons_zero, List.set_cons_succ] at H3; (try clear b1); have b1 := H3.cells 0 rfl; simp only [cellsAre, and_true, Nat.zero_add] at b1)
    | ((go_at_call 31; (with_reducible refine (tell_calls (!r2) 71 f at_ (H3.mv 1 rfl)).mono ?_); rintro e w4 ⟨rfl, H4⟩; simp only [List.eraseIdx_cons_succ, List.eraseIdx_cons_zero] at H4; clear b1); have R5 := (H4.own_rd 2 rfl (by decide)).1; (try clear b1); have b1 := H4.cells 1 rfl; simp only [cellsAre, and_true, Nat.zero_add] at b1)
    | ((go_at_call 53; (with_reducible refine (containsInt_calls A c ks r0 _ R5 (by omega)).mono ?_); rintro e w5 ⟨rfl, H5'⟩; have H5 := H4.call H5'; simp only [List.nil_append] at H5))
    | ((go_at_call 31; (with_reducible refine (tell_calls (!(ks.any fun k => r0 == k)) 72 f at_ H5).mono ?_); rintro e w6 ⟨rfl, H6⟩)))
  go_end0
  rw [HU.out]
  have H7 := H6.drop 1
  simp only [List.eraseIdx_cons_succ, List.eraseIdx_cons_zero] at H7
  exact ⟨rfl, H7⟩
end Go.Proofs.Ytogndpckiognjaa
