/- Names: lent sources: in memory of their own. -/
import Derived.Test.YtogndpckiognjaaNmZ
namespace Go.Proofs.Ytogndpckiognjaa
open Go.RowKit
set_option linter.unusedVariables false
set_option linter.unusedSimpArgs false
set_option maxHeartbeats 2000000
/-- What is read, in blocks from B on that nobody has frozen. -/
structure LH {α : Type} (E : Enc α) (B : Nat) (w : World) (h : Hdr) (xs : List α) : Prop where
  rd : RdH E w h xs
  fr : ∃ b o, h.A = some ⟨b, o, none⟩ ∧ B ≤ b ∧ b < w.heap.size ∧ ∀ j, w.frozen? ⟨b, j, none⟩ = false
theorem frozen_below {w w' : World} {b j : Nat} (hb : Below w.heap.size w w') (h : b < w.heap.size) (hf : w.frozen? ⟨b, j, none⟩ = false) : w'.frozen? ⟨b, j, none⟩ = false := by
  rw [World.frozen?_of_block (hb.block b h)]
  exact hf
theorem LH.below {α : Type} {E : Enc α} {B : Nat} {w w' : World} {h : Hdr} {xs : List α} (H : LH E B w h xs) (hb : Below w.heap.size w w') : LH E B w' h xs :=
  ⟨H.rd.below hb, by obtain ⟨b, o, h1, h2, h3, h4⟩ := H.fr; exact ⟨b, o, h1, h2, Nat.lt_of_lt_of_le h3 hb.size, fun j => frozen_below hb h3 (h4 j)⟩⟩
theorem LH.less {α : Type} {E : Enc α} {B B' : Nat} {w : World} {h : Hdr} {xs : List α} (H : LH E B w h xs) (hb : B' ≤ B) : LH E B' w h xs :=
  ⟨H.rd, by obtain ⟨b, o, h1, h2, h3, h4⟩ := H.fr; exact ⟨b, o, h1, Nat.le_trans hb h2, h3, h4⟩⟩
structure LHs {α : Type} (E : Enc α) (B : Nat) (w : World) (h : Hdr) (rows : List (List α)) (hs : List Hdr) : Prop where
  len : hs.length = rows.length
  hdr : LH Enc.hdr B w h hs
  each : ∀ (i : Nat) (hd : Hdr) (r : List α), hs[i]? = some hd → rows[i]? = some r → LH E B w hd r
structure LS (B : Nat) (w : World) (h : StmtH) (s : Stmt) : Prop where
  kind : h.kind = s.kind
  name : h.name = s.name
  targets : LH Enc.str B w h.t s.targets
  exprs : ∃ hs, LHs Enc.term B w h.e s.exprs hs
structure LB (B : Nat) (w : World) (h : Hdr) (l : List Stmt) (hs : List StmtH) : Prop where
  len : hs.length = l.length
  hdr : LH Enc.stmt B w h hs
  each : ∀ (i : Nat) (hd : StmtH) (s : Stmt), hs[i]? = some hd → l[i]? = some s → LS B w hd s
structure LF (B : Nat) (w : World) (h : FuncH) (f : FDecl) : Prop where
  name : h.name = f.name
  level : h.level = f.level
  params : LH Enc.decl B w h.p f.params
  results : LH Enc.u64 B w h.r f.results
  vars : LH Enc.decl B w h.v f.vars
  body : ∃ hs, LB B w h.b f.body hs
structure LFs (B : Nat) (w : World) (h : Hdr) (l : List FDecl) (hs : List FuncH) : Prop where
  len : hs.length = l.length
  hdr : LH Enc.func B w h hs
  each : ∀ (i : Nat) (hd : FuncH) (s : FDecl), hs[i]? = some hd → l[i]? = some s → LF B w hd s
structure LSrc (B : Nat) (w : World) (h : SrcH) (s : Src) : Prop where
  principals : LH Enc.str B w h.p s.principals
  globals : LH Enc.decl B w h.g s.globals
  arrays : LH Enc.arr B w h.a s.arrays
  channels : LH Enc.decl B w h.c s.channels
  funcs : LFs B w h.f s.funcs h.fs
theorem LHs.rd {α : Type} {E : Enc α} {B : Nat} {w : World} {h : Hdr} {rows : List (List α)} {hs : List Hdr} (H : LHs E B w h rows hs) : RdHs E w h rows hs := ⟨H.len, H.hdr.rd, fun i hd r h1 h2 => (H.each i hd r h1 h2).rd⟩
theorem LS.rd {B : Nat} {w : World} {h : StmtH} {s : Stmt} (H : LS B w h s) : RdS w h s := ⟨H.kind, H.name, H.targets.rd, H.exprs.imp fun hs h => h.rd⟩
theorem LB.rd {B : Nat} {w : World} {h : Hdr} {l : List Stmt} {hs : List StmtH} (H : LB B w h l hs) : RdB w h l hs := ⟨H.len, H.hdr.rd, fun i hd r h1 h2 => (H.each i hd r h1 h2).rd⟩
theorem LF.rd {B : Nat} {w : World} {h : FuncH} {f : FDecl} (H : LF B w h f) : RdF w h f := ⟨H.name, H.level, H.params.rd, H.results.rd, H.vars.rd, H.body.imp fun hs h => h.rd⟩
theorem LFs.rd {B : Nat} {w : World} {h : Hdr} {l : List FDecl} {hs : List FuncH} (H : LFs B w h l hs) : RdFs w h l hs := ⟨H.len, H.hdr.rd, fun i hd r h1 h2 => (H.each i hd r h1 h2).rd⟩
theorem LSrc.rd {B : Nat} {w : World} {h : SrcH} {s : Src} (H : LSrc B w h s) : RdSrc w h s := ⟨H.principals.rd, H.globals.rd, H.arrays.rd, H.channels.rd, H.funcs.rd⟩
theorem LHs.less {α : Type} {E : Enc α} {B B' : Nat} {w : World} {h : Hdr} {rows : List (List α)} {hs : List Hdr} (H : LHs E B w h rows hs) (hb : B' ≤ B) : LHs E B' w h rows hs := ⟨H.len, H.hdr.less hb, fun i hd r h1 h2 => (H.each i hd r h1 h2).less hb⟩
theorem LS.less {B B' : Nat} {w : World} {h : StmtH} {s : Stmt} (H : LS B w h s) (hb : B' ≤ B) : LS B' w h s := ⟨H.kind, H.name, H.targets.less hb, H.exprs.imp fun hs h => h.less hb⟩
theorem LB.less {B B' : Nat} {w : World} {h : Hdr} {l : List Stmt} {hs : List StmtH} (H : LB B w h l hs) (hb : B' ≤ B) : LB B' w h l hs := ⟨H.len, H.hdr.less hb, fun i hd r h1 h2 => (H.each i hd r h1 h2).less hb⟩
theorem LF.less {B B' : Nat} {w : World} {h : FuncH} {f : FDecl} (H : LF B w h f) (hb : B' ≤ B) : LF B' w h f := ⟨H.name, H.level, H.params.less hb, H.results.less hb, H.vars.less hb, H.body.imp fun hs h => h.less hb⟩
/-- What is owned becomes what is read. -/
theorem Mem.toFoot {w0 w : World} {As : List HP} {A : HP} {K : World → Prop} (h : Mem w0 w (A :: As)) (hK : ∀ (F : Nat → Prop) (w' : World), A.P F w' → (∀ k, F k → w0.heap.size ≤ k) → K w') : Mem w0 w (foot K :: As) := by
  obtain ⟨F, ⟨F1, F2, he, hd, hA, hs⟩, hF, hb⟩ := h.out
  exact ⟨F, ⟨F1, F2, he, hd, fun w' hw' => hK F1 w' (A.mv hA hw') fun k hk => (hF k ((he k).2 (.inl hk))).1, hs⟩, hF, hb⟩
theorem Mem.ftAnd {w0 w : World} {As : List HP} {K1 K2 : World → Prop} (h : Mem w0 w (foot K1 :: foot K2 :: As)) : Mem w0 w (foot (fun w => K1 w ∧ K2 w) :: As) := by
  obtain ⟨F, ⟨F1, F2, he, hd, hA, ⟨F3, F4, he2, hd2, hA2, hs⟩⟩, hF, hb⟩ := h.out
  refine ⟨F, ⟨fun k => F1 k ∨ F3 k, F4, fun k => ?_, ?_, fun w' hw' => ⟨hA w' fun k hk => hw' k (.inl hk), hA2 w' fun k hk => hw' k (.inr hk)⟩, hs⟩, hF, hb⟩
  · rw [he k, he2 k]
    exact ⟨fun h => h.elim (fun h => .inl (.inl h)) fun h => h.elim (fun h => .inl (.inr h)) .inr, fun h => h.elim (fun h => h.elim .inl fun h => .inr (.inl h)) fun h => .inr (.inr h)⟩
  · rintro k (h1 | h1) h2
    · exact hd k h1 ((he2 k).2 (.inr h2))
    · exact hd2 k h1 h2
theorem Mem.ftMono {w0 w : World} {As : List HP} {K K' : World → Prop} (h : Mem w0 w (foot K :: As)) (hK : ∀ w, K w → K' w) : Mem w0 w (foot K' :: As) := h.conv 0 rfl fun F hF w' hw' => hK _ (hF w' hw')
theorem Mem.ftNew {w0 w : World} {As : List HP} {K : World → Prop} (h : Mem w0 w As) (hK : ∀ w, K w) : Mem w0 w (foot K :: As) := by
  obtain ⟨F, hs, hF, hb⟩ := h.out
  exact ⟨F, ⟨fun _ => False, F, fun k => ⟨.inr, fun h => h.elim False.elim id⟩, fun k h => h.elim, fun w' _ => hK w', hs⟩, hF, hb⟩
/-- A row with a mark behind it. -/
theorem LH.of_row {α : Type} {E : Enc α} {T : TypeId} {A : Option Addr} {c B : Nat} {xs : List α} {mk : List Value} (hp : 0 < E.sz) (F : Nat → Prop) (w : World) (h : (row T E.sz A (xs.length + 1) c (E.all xs ++ mk)).P F w) (hB : ∀ k, F k → B ≤ k) : LH E B w ⟨A, xs.length, c⟩ xs := by
  obtain ⟨h1, h2, h3, h5, h4⟩ := h
  rcases h4 with ⟨h4, _⟩ | ⟨g, o, cur, rfl, hF, hg, ho, hc⟩
  · exfalso; omega
  · have hcell : ∀ j u, (E.all xs ++ mk)[j]? = some u → w.cell? ⟨g, o + j, none⟩ = some u := fun j u hu => by
      rw [cell_of_row w g (o + j) cur T (0, 0) hg]
      have := take_get hc hu
      simpa using this
    have hsz : g < w.heap.size := by
      rcases Nat.lt_or_ge g w.heap.size with h | h
      · exact h
      · rw [Array.getElem?_eq_none h] at hg; cases hg
    refine ⟨⟨rfl, by show xs.length ≤ c; omega, Rd.of_marked (mk := mk) ⟨h1, h5, fun _ => ⟨g, o, rfl, hcell⟩⟩⟩, g, o, rfl, hB g ((hF g).2 rfl), hsz, fun j => ?_⟩
    unfold World.frozen?
    rw [hg]
    simp
section
variable {P : Program} {w0 w : World} {As : List HP} {t e : TypeId} {sz bytes : Nat} {z : Value} {cap : Nat} {A : Option Addr} {α : Type} {E : Enc α} {xs : List α} {ops : Array Oper} {rest : List Oper} {a : Act} {Q : Exit → Act → World → Prop} {d : Option Tmp} {ty : TypeId} {ps : String} {af : Array Edge} {x y : Operand}
theorem wpList_append_own2 (El : Elt P t e sz bytes z) (H : Mem w0 w As) (i : Nat) (x0 : α) {B : Option Addr} {c : Nat} (hi : As[i]? = some (own E e A cap xs)) (hsz : E.sz = sz) (hs : a.eval x = .slice A xs.length cap) (hx : a.eval y = .slice B 1 c) (R : RdC w B 1 sz (E.enc x0)) (hb : xs.length ≤ 1000000000) (hby : bytes ≤ 128)
    (h : ∀ A' cap' w', Mem w0 w' (As.set i (own E e A' cap' (xs ++ [x0]))) → wpList P ops Q rest (a.put d (.slice A' (xs.length + 1) cap')) w') : wpList P ops Q (⟨d, .call { callee := .builtin .append, args := #[x, y], argTypes := #[t, t] }, ty, ps, af, none⟩ :: rest) a w := by
  subst hsz
  have h64 : (xs.length + 1) * bytes ≤ 140737488355328 := Nat.le_trans (Nat.mul_le_mul_left _ hby) (by omega)
  refine wpList_append_row rfl _ _ rfl El H i hi hs hx R (by unfold maxLen; omega) h64 ?_
  intro A' c' w' hM
  refine h A' c' w' ?_
  unfold own
  rw [E.all_append, E.all_one_el, List.length_append]
  exact hM
end
theorem lentStrings_calls (A : Option Addr) (c : Nat) (xs : List (ByteArray)) (w : World) (hx : Rd Enc.str w A xs) (hl : xs.length ≤ 5000000) :
    Calls Try.prog 21 #[.slice A xs.length c] w fun e w' => ∃ A' c', e = .returned (.slice A' xs.length c') ∧ xs.length + 1 ≤ c' ∧ Mem w w' [row 9 Enc.str.sz A' (xs.length + 1) c' (Enc.str.all xs ++ [.string ⟨#[109, 97, 114, 107]⟩])] := by
  have HX := hid hx
  clear hx
  have H0 := (Mem.refl w).nilrow 9 Enc.str.sz
  go_enter Try.func21, Try.ntmps21
  go_wp2_with (first
    | ((with_reducible refine at_append ?_); refine wpList_append_row rfl _ _ rfl elt_str H0 0 rfl rfl rfl HX.out (by unfold maxLen; omega) (by omega) ?_; intro AH1 cH1 wH1 H1; simp only [splice, vcells_int, vcells_bool, vcells_string, vcells_pointer, vcells_slice, vcells_map, vcells_func, vcells_nilFunc, vcells_iface, vcells_nilIface, vcells_agg, List.take_zero, List.take_succ_cons, List.drop_zero, List.drop_succ_cons, List.length_cons, List.length_nil, List.nil_append, List.cons_append, List.append_nil, Nat.zero_add, List.set_cons_zero, List.set_cons_succ] at H1)
    | ((with_reducible refine at_build1 ?_); refine wpList_build1 elt_str H1 rfl rfl (by decide) ?_; intro u_ gH2 wH2 hu_ H2; simp only [Act.eval, Act.put, List.setIfInBounds_toArray, List.set_cons_zero, List.set_cons_succ, Array.getD_eq_getD_getElem?, List.getElem?_toArray, List.getElem?_cons_zero, List.getElem?_cons_succ, Option.getD_some] at hu_; subst hu_; simp only [splice, vcells_int, vcells_bool, vcells_string, vcells_pointer, vcells_slice, vcells_map, vcells_func, vcells_nilFunc, vcells_iface, vcells_nilIface, vcells_agg, List.take_zero, List.take_succ_cons, List.drop_zero, List.drop_succ_cons, List.length_cons, List.length_nil, List.nil_append, List.cons_append, List.append_nil, Nat.zero_add, List.set_cons_zero, List.set_cons_succ] at H2)
    | ((with_reducible refine at_append ?_); refine wpList_append_row rfl _ _ rfl elt_str H2 1 rfl rfl rfl (H2.rd 0 rfl elt_str.pos).1 (by unfold maxLen; omega) (by omega) ?_; intro A3 c3 w3 H3; simp only [List.set_cons_succ, List.set_cons_zero, Nat.zero_add] at H3; replace H3 := H3.drop 0; obtain ⟨-, h3, h4⟩ := H3.rd 0 rfl elt_str.pos; have h5 : xs.length ≤ c3 := (by omega); unfold maxLen at h4))

  go_ret
  exact ⟨A3, c3, by simp, by omega, H3⟩

theorem lentDecls_calls (A : Option Addr) (c : Nat) (xs : List (Decl)) (w : World) (hx : Rd Enc.decl w A xs) (hl : xs.length ≤ 5000000) :
    Calls Try.prog 22 #[.slice A xs.length c] w fun e w' => ∃ A' c', e = .returned (.slice A' xs.length c') ∧ xs.length + 1 ≤ c' ∧ Mem w w' [row 37 Enc.decl.sz A' (xs.length + 1) c' (Enc.decl.all xs ++ [.string ⟨#[109, 97, 114, 107]⟩, .int .u64 0])] := by
  have HX := hid hx
  clear hx
  have H0 := (Mem.refl w).nilrow 37 Enc.decl.sz
  go_enter Try.func22, Try.ntmps22
  go_wp2_with (first
    | ((with_reducible refine at_append ?_); refine wpList_append_row rfl _ _ rfl elt_decl H0 0 rfl rfl rfl HX.out (by unfold maxLen; omega) (by omega) ?_; intro AH1 cH1 wH1 H1; simp only [splice, vcells_int, vcells_bool, vcells_string, vcells_pointer, vcells_slice, vcells_map, vcells_func, vcells_nilFunc, vcells_iface, vcells_nilIface, vcells_agg, List.take_zero, List.take_succ_cons, List.drop_zero, List.drop_succ_cons, List.length_cons, List.length_nil, List.nil_append, List.cons_append, List.append_nil, Nat.zero_add, List.set_cons_zero, List.set_cons_succ] at H1)
    | ((with_reducible refine at_build1 ?_); refine wpList_build1 elt_decl H1 rfl rfl (by decide) ?_; intro u_ gH2 wH2 hu_ H2; simp only [Act.eval, Act.put, List.setIfInBounds_toArray, List.set_cons_zero, List.set_cons_succ, Array.getD_eq_getD_getElem?, List.getElem?_toArray, List.getElem?_cons_zero, List.getElem?_cons_succ, Option.getD_some] at hu_; subst hu_; simp only [splice, vcells_int, vcells_bool, vcells_string, vcells_pointer, vcells_slice, vcells_map, vcells_func, vcells_nilFunc, vcells_iface, vcells_nilIface, vcells_agg, List.take_zero, List.take_succ_cons, List.drop_zero, List.drop_succ_cons, List.length_cons, List.length_nil, List.nil_append, List.cons_append, List.append_nil, Nat.zero_add, List.set_cons_zero, List.set_cons_succ] at H2)
    | ((with_reducible refine at_append ?_); refine wpList_append_row rfl _ _ rfl elt_decl H2 1 rfl rfl rfl (H2.rd 0 rfl elt_decl.pos).1 (by unfold maxLen; omega) (by omega) ?_; intro A3 c3 w3 H3; simp only [List.set_cons_succ, List.set_cons_zero, Nat.zero_add] at H3; replace H3 := H3.drop 0; obtain ⟨-, h3, h4⟩ := H3.rd 0 rfl elt_decl.pos; have h5 : xs.length ≤ c3 := (by omega); unfold maxLen at h4))

  go_ret
  exact ⟨A3, c3, by simp, by omega, H3⟩

theorem lentTerms_calls (A : Option Addr) (c : Nat) (xs : List (Term)) (w : World) (hx : Rd Enc.term w A xs) (hl : xs.length ≤ 5000000) :
    Calls Try.prog 42 #[.slice A xs.length c] w fun e w' => ∃ A' c', e = .returned (.slice A' xs.length c') ∧ xs.length + 1 ≤ c' ∧ Mem w w' [row 62 Enc.term.sz A' (xs.length + 1) c' (Enc.term.all xs ++ [.int .i64 (-71), .int .i64 0, .string ByteArray.empty])] := by
  have HX := hid hx
  clear hx
  have H0 := (Mem.refl w).nilrow 62 Enc.term.sz
  go_enter Try.func42, Try.ntmps42
  go_wp2_with (first
    | ((with_reducible refine at_append ?_); refine wpList_append_row rfl _ _ rfl elt_term H0 0 rfl rfl rfl HX.out (by unfold maxLen; omega) (by omega) ?_; intro AH1 cH1 wH1 H1; simp only [splice, vcells_int, vcells_bool, vcells_string, vcells_pointer, vcells_slice, vcells_map, vcells_func, vcells_nilFunc, vcells_iface, vcells_nilIface, vcells_agg, List.take_zero, List.take_succ_cons, List.drop_zero, List.drop_succ_cons, List.length_cons, List.length_nil, List.nil_append, List.cons_append, List.append_nil, Nat.zero_add, List.set_cons_zero, List.set_cons_succ] at H1)
    | ((with_reducible refine at_build1 ?_); refine wpList_build1 elt_term H1 rfl rfl (by decide) ?_; intro u_ gH2 wH2 hu_ H2; simp only [Act.eval, Act.put, List.setIfInBounds_toArray, List.set_cons_zero, List.set_cons_succ, Array.getD_eq_getD_getElem?, List.getElem?_toArray, List.getElem?_cons_zero, List.getElem?_cons_succ, Option.getD_some] at hu_; subst hu_; simp only [splice, vcells_int, vcells_bool, vcells_string, vcells_pointer, vcells_slice, vcells_map, vcells_func, vcells_nilFunc, vcells_iface, vcells_nilIface, vcells_agg, List.take_zero, List.take_succ_cons, List.drop_zero, List.drop_succ_cons, List.length_cons, List.length_nil, List.nil_append, List.cons_append, List.append_nil, Nat.zero_add, List.set_cons_zero, List.set_cons_succ] at H2)
    | ((with_reducible refine at_append ?_); refine wpList_append_row rfl _ _ rfl elt_term H2 1 rfl rfl rfl (H2.rd 0 rfl elt_term.pos).1 (by unfold maxLen; omega) (by omega) ?_; intro A3 c3 w3 H3; simp only [List.set_cons_succ, List.set_cons_zero, Nat.zero_add] at H3; replace H3 := H3.drop 0; obtain ⟨-, h3, h4⟩ := H3.rd 0 rfl elt_term.pos; have h5 : xs.length ≤ c3 := (by omega); unfold maxLen at h4))

  go_ret
  exact ⟨A3, c3, by simp, by omega, H3⟩

theorem lentLabels_calls (A : Option Addr) (c : Nat) (xs : List (Int)) (w : World) (hx : Rd Enc.u64 w A xs) (hl : xs.length ≤ 17592186043904) :
    Calls Try.prog 23 #[.slice A xs.length c] w fun e w' => ∃ A' c', e = .returned (.slice A' xs.length c') ∧ xs.length + 1 ≤ c' ∧ Mem w w' [row 35 Enc.u64.sz A' (xs.length + 1) c' (Enc.u64.all xs ++ [U 7171])] := by
  have HX := hid hx
  clear hx
  have H0 := (Mem.refl w).nilrow 35 Enc.u64.sz
  go_enter Try.func23, Try.ntmps23
  go_wp2_with (first
    | ((with_reducible refine at_append ?_); refine wpList_append_row rfl _ _ rfl elt_lab H0 0 rfl rfl rfl HX.out (by unfold maxLen; omega) (by omega) ?_; intro AH1 cH1 wH1 H1; simp only [splice, vcells_int, vcells_bool, vcells_string, vcells_pointer, vcells_slice, vcells_map, vcells_func, vcells_nilFunc, vcells_iface, vcells_nilIface, vcells_agg, List.take_zero, List.take_succ_cons, List.drop_zero, List.drop_succ_cons, List.length_cons, List.length_nil, List.nil_append, List.cons_append, List.append_nil, Nat.zero_add, List.set_cons_zero, List.set_cons_succ] at H1)
    | ((with_reducible refine at_build1 ?_); refine wpList_build1 elt_lab H1 rfl rfl (by decide) ?_; intro u_ gH2 wH2 hu_ H2; simp only [Act.eval, Act.put, List.setIfInBounds_toArray, List.set_cons_zero, List.set_cons_succ, Array.getD_eq_getD_getElem?, List.getElem?_toArray, List.getElem?_cons_zero, List.getElem?_cons_succ, Option.getD_some] at hu_; subst hu_; simp only [splice, vcells_int, vcells_bool, vcells_string, vcells_pointer, vcells_slice, vcells_map, vcells_func, vcells_nilFunc, vcells_iface, vcells_nilIface, vcells_agg, List.take_zero, List.take_succ_cons, List.drop_zero, List.drop_succ_cons, List.length_cons, List.length_nil, List.nil_append, List.cons_append, List.append_nil, Nat.zero_add, List.set_cons_zero, List.set_cons_succ] at H2)
    | ((with_reducible refine at_append ?_); refine wpList_append_row rfl _ _ rfl elt_lab H2 1 rfl rfl rfl (H2.rd 0 rfl elt_lab.pos).1 (by unfold maxLen; omega) (by omega) ?_; intro A3 c3 w3 H3; simp only [List.set_cons_succ, List.set_cons_zero, Nat.zero_add] at H3; replace H3 := H3.drop 0; obtain ⟨-, h3, h4⟩ := H3.rd 0 rfl elt_lab.pos; have h5 : xs.length ≤ c3 := (by omega); unfold maxLen at h4))

  go_ret
  exact ⟨A3, c3, by simp, by omega, H3⟩

end Go.Proofs.Ytogndpckiognjaa
