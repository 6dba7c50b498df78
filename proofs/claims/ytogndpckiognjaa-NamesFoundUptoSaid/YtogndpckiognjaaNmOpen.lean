/- What NamesFound is given, read off the datum that came in: a source's words; and how long they can be. -/
import Derived.Test.YtogndpckiognjaaNmK2
import Derived.Test.YtogndpckiognjaaRows
import Derived.ProofKit
import Derived.OpenShut
import Derived.ShutString
import Derived.ChangeOld
import Derived.Below
import Derived.SizedLaws
import Derived.Deep.Slices
namespace Go.Proofs.Ytogndpckiognjaa
open Go.ChangeShapes Go.WideShapes Go.ChangeAt Go.RowKit Go.Deep
set_option linter.unusedVariables false
set_option linter.unusedSimpArgs false

theorem bulk_one {H : Type} (d : DataW H) : 1 ≤ Rows.uptoBulk d := by
  cases d with
  | lit l => cases l <;> simp [Rows.uptoBulk]
  | nil => simp [Rows.uptoBulk]
  | ptr d => simp [Rows.uptoBulk]
  | slice elems spare => simp [Rows.uptoBulk]
  | agg parts => simp [Rows.uptoBulk]
  | iface t d => simp [Rows.uptoBulk]
  | map entries => simp [Rows.uptoBulk]
  | held h => simp [Rows.uptoBulk]
theorem bulk_part {H : Type} {d : DataW H} {l : List (DataW H)} (h : d ∈ l) : Rows.uptoBulk d ≤ Rows.uptoBulkAll l := by
  induction l with
  | nil => cases h
  | cons x r ih =>
    simp only [Rows.uptoBulkAll]
    cases List.mem_cons.1 h with
    | inl e => subst e; omega
    | inr e => have := ih e; omega
theorem bulk_len {H : Type} (l : List (DataW H)) : l.length ≤ Rows.uptoBulkAll l := by
  induction l with
  | nil => simp [Rows.uptoBulkAll]
  | cons x r ih => have := bulk_one x; simp only [Rows.uptoBulkAll, List.length_cons]; omega
theorem bulk_slice {H : Type} (elems spare : List (DataW H)) : Rows.uptoBulkAll elems ≤ Rows.uptoBulk (.slice elems spare) := by
  simp only [Rows.uptoBulk]
  omega

theorem Rd.of_cells {α : Type} {E : Enc α} {w : World} {a : Addr} {xs : List α} (hs : 0 < E.sz) (h : ∀ (k : Nat) (x : α), xs[k]? = some x → ∀ (j : Nat) (u : Value), (E.enc x)[j]? = some u → w.cell? (a.add (k * E.sz + j)) = some u) : Rd E w (some a) xs := by
  refine ⟨E.all_len xs, E.all_one xs, fun hne => ?_⟩
  have hsp : a.spot = none := by
    obtain ⟨x, hx⟩ : ∃ x, xs[0]? = some x := ⟨_, List.getElem?_eq_getElem (Nat.pos_of_ne_zero hne)⟩
    obtain ⟨u, hu⟩ : ∃ u, (E.enc x)[0]? = some u := ⟨_, List.getElem?_eq_getElem (by rw [E.len]; exact hs)⟩
    have := World.cell?_spot (h 0 x hx 0 u hu)
    simpa [Addr.add] using this
  obtain ⟨b, o, spot⟩ := a
  simp only [] at hsp
  subst hsp
  refine ⟨b, o, rfl, fun j u hu => ?_⟩
  have hj : j < xs.length * E.sz := by
    have := (List.getElem?_eq_some_iff.1 hu).1
    rwa [E.all_len] at this
  have hk : j / E.sz < xs.length := Nat.div_lt_of_lt_mul (by rw [Nat.mul_comm]; exact hj)
  obtain ⟨x, hx⟩ : ∃ x, xs[j / E.sz]? = some x := ⟨_, List.getElem?_eq_getElem hk⟩
  obtain ⟨u', hu'⟩ : ∃ u', (E.enc x)[j % E.sz]? = some u' := ⟨_, List.getElem?_eq_getElem (by rw [E.len]; exact Nat.mod_lt _ hs)⟩
  have he : j / E.sz * E.sz + j % E.sz = j := Nat.div_add_mod' _ _
  have h1 := E.all_get hx hu'
  rw [he, hu] at h1
  obtain rfl := Option.some.inj h1
  have h2 := h _ x hx _ u hu'
  rw [he, add_at] at h2
  exact h2
theorem choose_list {α β : Type} {P : α → β → Prop} (l : List α) (h : ∀ x ∈ l, ∃ r, P x r) : ∃ rs : List β, rs.length = l.length ∧ ∀ (i : Nat) (x : α) (r : β), l[i]? = some x → rs[i]? = some r → P x r := by
  induction l with
  | nil => exact ⟨[], rfl, fun i x r h1 => by simp at h1⟩
  | cons a l ih =>
    obtain ⟨r, hr⟩ := h a (by simp)
    obtain ⟨rs, hl, hp⟩ := ih fun x hx => h x (by simp [hx])
    refine ⟨r :: rs, by simp [hl], fun i x r' h1 h2 => ?_⟩
    cases i with
    | zero =>
      simp only [List.getElem?_cons_zero, Option.some.injEq] at h1 h2
      subst h1; subst h2
      exact hr
    | succ i =>
      simp only [List.getElem?_cons_succ] at h1 h2
      exact hp i x r' h1 h2
theorem mem_pair {α β : Type} {xa : List α} {bs : List β} (hl : xa.length = bs.length) {b : β} (hb : b ∈ bs) : ∃ (i : Nat) (a : α), xa[i]? = some a ∧ bs[i]? = some b := by
  obtain ⟨i, hi⟩ := List.getElem?_of_mem hb
  have h1 := (List.getElem?_eq_some_iff.1 hi).1
  exact ⟨i, xa[i]'(by omega), List.getElem?_eq_getElem (by omega), hi⟩

section
variable {H : Type} {enc : TypeId × Value → H} {W : World}
/-- A slice's words, each entry opened. -/
theorem slice_gen {α : Type} {E : Enc α} {t e : TypeId} (d0 : α) (ht : Try.prog.underlying t = some (.slice e)) (hC : Try.prog.cellsOf e = E.sz) (hs : 0 < E.sz) (Q : α → DataW H → Prop)
    (each : ∀ (cs' : List Value) (fu : Nat) (y : DataW H × List MemPlace), cs'.length = E.sz → DataW.trod enc Try.prog W 0 (fun _ => true) true fu e cs' = some y → ∃ x : α, cs' = E.enc x ∧ Q x y.1)
    {fuel : Nat} {c : Value} {y : DataW H × List MemPlace} (h : DataW.trod enc Try.prog W 0 (fun _ => true) true fuel t [c] = some y) :
    ∃ (hd : Hdr) (xs : List α), c = .slice hd.A hd.n hd.c ∧ RdH E W hd xs ∧ xs.length ≤ Rows.uptoBulk y.1 ∧ ∀ x ∈ xs, ∃ d, Q x d ∧ Rows.uptoBulk d ≤ Rows.uptoBulk y.1 := by
  rcases open_slice ht h with ⟨hc, _⟩ | ⟨a, len, cap, m, n, D, Pl, hc, _, hl, hm, hmm, rfl, hi⟩
  · exact ⟨⟨none, 0, 0⟩, [], by simpa using hc, ⟨rfl, Nat.le_refl _, RdC.nil _ _ _⟩, Nat.zero_le _, fun x hx => by cases hx⟩
  · simp only [if_true] at hmm
    subst hmm
    have ea : ∀ i : Nat, ∃ x : α, i < len → (∀ (j : Nat) (u : Value), (E.enc x)[j]? = some u → W.cell? (a.add (i * E.sz + j)) = some u) ∧ Q x (D i) := by
      intro i
      by_cases hil : i < len
      · obtain ⟨cs', hcs, htr⟩ := hi i (by omega)
        rw [hC] at hcs
        obtain ⟨_, hcl, hat⟩ := World.cells?_some hcs
        obtain ⟨x, rfl, hq⟩ := each cs' _ _ hcl htr
        refine ⟨x, fun _ => ⟨fun j u hu => ?_, hq⟩⟩
        have hj : j < E.sz := by have := (List.getElem?_eq_some_iff.1 hu).1; rwa [E.len] at this
        have g := hat j hj
        rw [hu] at g
        rw [← Go.Deep.add_add]
        exact g
      · exact ⟨d0, fun h => absurd h hil⟩
    obtain ⟨F, hF⟩ : ∃ F : Nat → α, ∀ i, i < len → (∀ (j : Nat) (u : Value), (E.enc (F i))[j]? = some u → W.cell? (a.add (i * E.sz + j)) = some u) ∧ Q (F i) (D i) := ⟨fun i => Classical.choose (ea i), fun i hi => Classical.choose_spec (ea i) hi⟩
    have hlen : ((List.range len).map F).length = len := by simp
    refine ⟨⟨some a, len, m⟩, (List.range len).map F, by simpa using hc, ⟨hlen.symm, by rw [hlen]; exact hl, Rd.of_cells hs fun k x hx j u hu => ?_⟩, ?_, fun x hx => ?_⟩
    · have hk : k < len := by have := (List.getElem?_eq_some_iff.1 hx).1; omega
      rw [List.getElem?_map, List.getElem?_range hk] at hx
      obtain rfl : F k = x := by simpa using hx
      exact (hF k hk).1 j u hu
    · rw [hlen]
      refine Nat.le_trans ?_ (bulk_slice _ _)
      refine Nat.le_trans ?_ (bulk_len _)
      simp
    · obtain ⟨i, hi', rfl⟩ := List.mem_map.1 hx
      have hk : i < len := by simpa using hi'
      refine ⟨D i, (hF i hk).2, Nat.le_trans (bulk_part (l := (List.range len).map D) ?_) (bulk_slice _ _)⟩
      exact List.mem_map.2 ⟨i, by simpa using hk, rfl⟩
theorem str_size (s : ByteArray) : s.size = s.data.toList.length := by cases s; rfl
theorem str_each (cs' : List Value) (fu : Nat) (y : DataW H × List MemPlace) (hl : cs'.length = 1) (h : DataW.trod enc Try.prog W 0 (fun _ => true) true fu 9 cs' = some y) : ∃ x : ByteArray, cs' = Enc.str.enc x ∧ x.size ≤ Rows.uptoBulk y.1 := by
  obtain ⟨s, rfl, rfl, _⟩ := DataW.trod_string Try.underlying9 h
  exact ⟨s, rfl, by simp only [Rows.uptoBulk]; rw [str_size]; omega⟩
theorem u64_each (cs' : List Value) (fu : Nat) (y : DataW H × List MemPlace) (hl : cs'.length = 1) (h : DataW.trod enc Try.prog W 0 (fun _ => true) true fu 35 cs' = some y) : ∃ x : Int, cs' = Enc.u64.enc x ∧ True := by
  obtain ⟨s, rfl, rfl, _⟩ := DataW.trod_int Try.underlying35 h
  exact ⟨s, rfl, trivial⟩
theorem decl_each (cs' : List Value) (fu : Nat) (y : DataW H × List MemPlace) (hl : cs'.length = 2) (h : DataW.trod enc Try.prog W 0 (fun _ => true) true fu 37 cs' = some y) : ∃ x : Decl, cs' = Enc.decl.enc x ∧ x.name.size ≤ Rows.uptoBulk y.1 := by
  have c1 : Try.prog.cellsOf 9 = 1 := by kernel_rfl
  have c2 : Try.prog.cellsOf 35 = 1 := by kernel_rfl
  match cs', hl with
  | [v0, v1], _ =>
    obtain ⟨xs, n, _, rfl, _, hlen, hg⟩ := DataW.trod_struct Try.underlying37 h
    match xs, hlen with
    | [y0, y1], _ =>
      have g0 : DataW.trod enc Try.prog W 0 (fun _ => true) true n 9 [v0] = some y0 := by simpa [c1] using hg 0 _ rfl
      have g1 : DataW.trod enc Try.prog W 0 (fun _ => true) true n 35 [v1] = some y1 := by simpa [c2] using hg 1 _ rfl
      obtain ⟨s, e0, hs⟩ := str_each [v0] n y0 rfl g0
      obtain ⟨k, e1, _, _⟩ := DataW.trod_int Try.underlying35 g1
      simp only [Enc.str, List.cons.injEq, and_true] at e0 e1
      subst e0; subst e1
      refine ⟨⟨s, k⟩, rfl, Nat.le_trans hs ?_⟩
      have := bulk_part (d := y0.1) (l := [y0.1, y1.1]) (by simp)
      simp only [Rows.uptoBulk, List.map_cons, List.map_nil]
      omega
theorem arr_each (cs' : List Value) (fu : Nat) (y : DataW H × List MemPlace) (hl : cs'.length = 3) (h : DataW.trod enc Try.prog W 0 (fun _ => true) true fu 39 cs' = some y) : ∃ x : Arr, cs' = Enc.arr.enc x ∧ x.name.size ≤ Rows.uptoBulk y.1 := by
  have c1 : Try.prog.cellsOf 9 = 1 := by kernel_rfl
  have c2 : Try.prog.cellsOf 35 = 1 := by kernel_rfl
  have c3 : Try.prog.cellsOf 3 = 1 := by kernel_rfl
  match cs', hl with
  | [v0, v1, v2], _ =>
    obtain ⟨xs, n, _, rfl, _, hlen, hg⟩ := DataW.trod_struct Try.underlying39 h
    match xs, hlen with
    | [y0, y1, y2], _ =>
      have g0 : DataW.trod enc Try.prog W 0 (fun _ => true) true n 9 [v0] = some y0 := by simpa [c1] using hg 0 _ rfl
      have g1 : DataW.trod enc Try.prog W 0 (fun _ => true) true n 3 [v1] = some y1 := by simpa [c3] using hg 1 _ rfl
      have g2 : DataW.trod enc Try.prog W 0 (fun _ => true) true n 35 [v2] = some y2 := by simpa [c2] using hg 2 _ rfl
      obtain ⟨s, e0, hs⟩ := str_each [v0] n y0 rfl g0
      obtain ⟨k, e1, _, _⟩ := DataW.trod_int Try.underlying3 g1
      obtain ⟨k2, e2, _, _⟩ := DataW.trod_int Try.underlying35 g2
      simp only [Enc.str, List.cons.injEq, and_true] at e0 e1 e2
      subst e0; subst e1; subst e2
      refine ⟨⟨s, k, k2⟩, rfl, Nat.le_trans hs ?_⟩
      have := bulk_part (d := y0.1) (l := [y0.1, y1.1, y2.1]) (by simp)
      simp only [Rows.uptoBulk, List.map_cons, List.map_nil]
      omega
def termQ (x : Term) (N : Nat) : Prop := x.name.size ≤ N ∧ -9223372036854775808 ≤ x.value ∧ x.value ≤ 9223372036854775807
theorem term_each (cs' : List Value) (fu : Nat) (y : DataW H × List MemPlace) (hl : cs'.length = 3) (h : DataW.trod enc Try.prog W 0 (fun _ => true) true fu 62 cs' = some y) : ∃ x : Term, cs' = Enc.term.enc x ∧ termQ x (Rows.uptoBulk y.1) := by
  have c1 : Try.prog.cellsOf 9 = 1 := by kernel_rfl
  have c2 : Try.prog.cellsOf 2 = 1 := by kernel_rfl
  have c3 : Try.prog.cellsOf 3 = 1 := by kernel_rfl
  match cs', hl with
  | [v0, v1, v2], _ =>
    obtain ⟨xs, n, _, rfl, _, hlen, hg⟩ := DataW.trod_struct Try.underlying62 h
    match xs, hlen with
    | [y0, y1, y2], _ =>
      have g0 : DataW.trod enc Try.prog W 0 (fun _ => true) true n 3 [v0] = some y0 := by simpa [c3] using hg 0 _ rfl
      have g1 : DataW.trod enc Try.prog W 0 (fun _ => true) true n 2 [v1] = some y1 := by simpa [c2] using hg 1 _ rfl
      have g2 : DataW.trod enc Try.prog W 0 (fun _ => true) true n 9 [v2] = some y2 := by simpa [c1] using hg 2 _ rfl
      obtain ⟨k0, e0, _, _⟩ := DataW.trod_int Try.underlying3 g0
      obtain ⟨k1, e1, _, w1⟩ := DataW.trod_int Try.underlying2 g1
      obtain ⟨s, e2, hs⟩ := str_each [v2] n y2 rfl g2
      simp only [Enc.str, List.cons.injEq, and_true] at e0 e1 e2
      subst e0; subst e1; subst e2
      refine ⟨⟨k0, k1, s⟩, rfl, Nat.le_trans hs ?_, bounds_i64 w1⟩
      have := bulk_part (d := y2.1) (l := [y0.1, y1.1, y2.1]) (by simp)
      simp only [Rows.uptoBulk, List.map_cons, List.map_nil]
      omega
theorem strs_open {fuel : Nat} {c : Value} {y : DataW H × List MemPlace} (h : DataW.trod enc Try.prog W 0 (fun _ => true) true fuel 22 [c] = some y) :
    ∃ (hd : Hdr) (xs : List ByteArray), c = .slice hd.A hd.n hd.c ∧ RdH Enc.str W hd xs ∧ xs.length ≤ Rows.uptoBulk y.1 ∧ ∀ x ∈ xs, x.size ≤ Rows.uptoBulk y.1 := by
  obtain ⟨hd, xs, h1, h2, h3, h4⟩ := slice_gen (E := Enc.str) ByteArray.empty Try.underlying22 (by kernel_rfl) (by decide) (fun x d => x.size ≤ Rows.uptoBulk d) str_each h
  exact ⟨hd, xs, h1, h2, h3, fun x hx => by obtain ⟨d, q, hb⟩ := h4 x hx; exact Nat.le_trans q hb⟩
theorem labs_open {fuel : Nat} {c : Value} {y : DataW H × List MemPlace} (h : DataW.trod enc Try.prog W 0 (fun _ => true) true fuel 40 [c] = some y) :
    ∃ (hd : Hdr) (xs : List Int), c = .slice hd.A hd.n hd.c ∧ RdH Enc.u64 W hd xs ∧ xs.length ≤ Rows.uptoBulk y.1 := by
  obtain ⟨hd, xs, h1, h2, h3, h4⟩ := slice_gen (E := Enc.u64) 0 Try.underlying40 (by kernel_rfl) (by decide) (fun x d => True) u64_each h
  exact ⟨hd, xs, h1, h2, h3⟩
theorem decls_open {fuel : Nat} {c : Value} {y : DataW H × List MemPlace} (h : DataW.trod enc Try.prog W 0 (fun _ => true) true fuel 23 [c] = some y) :
    ∃ (hd : Hdr) (xs : List Decl), c = .slice hd.A hd.n hd.c ∧ RdH Enc.decl W hd xs ∧ xs.length ≤ Rows.uptoBulk y.1 ∧ ∀ x ∈ xs, x.name.size ≤ Rows.uptoBulk y.1 := by
  obtain ⟨hd, xs, h1, h2, h3, h4⟩ := slice_gen (E := Enc.decl) ⟨ByteArray.empty, 0⟩ Try.underlying23 (by kernel_rfl) (by decide) (fun x d => x.name.size ≤ Rows.uptoBulk d) decl_each h
  exact ⟨hd, xs, h1, h2, h3, fun x hx => by obtain ⟨d, q, hb⟩ := h4 x hx; exact Nat.le_trans q hb⟩
theorem arrs_open {fuel : Nat} {c : Value} {y : DataW H × List MemPlace} (h : DataW.trod enc Try.prog W 0 (fun _ => true) true fuel 24 [c] = some y) :
    ∃ (hd : Hdr) (xs : List Arr), c = .slice hd.A hd.n hd.c ∧ RdH Enc.arr W hd xs ∧ xs.length ≤ Rows.uptoBulk y.1 ∧ ∀ x ∈ xs, x.name.size ≤ Rows.uptoBulk y.1 := by
  obtain ⟨hd, xs, h1, h2, h3, h4⟩ := slice_gen (E := Enc.arr) ⟨ByteArray.empty, 0, 0⟩ Try.underlying24 (by kernel_rfl) (by decide) (fun x d => x.name.size ≤ Rows.uptoBulk d) arr_each h
  exact ⟨hd, xs, h1, h2, h3, fun x hx => by obtain ⟨d, q, hb⟩ := h4 x hx; exact Nat.le_trans q hb⟩
def termsQ (W : World) (hd : Hdr) (N : Nat) (xs : List Term) : Prop := RdH Enc.term W hd xs ∧ xs.length ≤ N ∧ ∀ x ∈ xs, termQ x N
theorem terms_each (cs' : List Value) (fu : Nat) (y : DataW H × List MemPlace) (hl : cs'.length = 1) (h : DataW.trod enc Try.prog W 0 (fun _ => true) true fu 60 cs' = some y) : ∃ x : Hdr, cs' = Enc.hdr.enc x ∧ ∃ xs, termsQ W x (Rows.uptoBulk y.1) xs := by
  match cs', hl with
  | [v], _ =>
    obtain ⟨hd, xs, rfl, h2, h3, h4⟩ := slice_gen (E := Enc.term) ⟨0, 0, ByteArray.empty⟩ Try.underlying60 (by kernel_rfl) (by decide) (fun x d => termQ x (Rows.uptoBulk d)) term_each h
    exact ⟨hd, rfl, xs, h2, h3, fun x hx => by obtain ⟨d, q, hb⟩ := h4 x hx; exact ⟨Nat.le_trans q.1 hb, q.2⟩⟩
theorem exprs_open {fuel : Nat} {c : Value} {y : DataW H × List MemPlace} (h : DataW.trod enc Try.prog W 0 (fun _ => true) true fuel 45 [c] = some y) :
    ∃ (hd : Hdr) (rows : List (List Term)) (hs : List Hdr), c = .slice hd.A hd.n hd.c ∧ RdHs Enc.term W hd rows hs ∧ rows.length ≤ Rows.uptoBulk y.1 ∧ ∀ e ∈ rows, e.length ≤ Rows.uptoBulk y.1 ∧ ∀ x ∈ e, termQ x (Rows.uptoBulk y.1) := by
  obtain ⟨hd, hs, h1, h2, h3, h4⟩ := slice_gen (E := Enc.hdr) ⟨none, 0, 0⟩ Try.underlying45 (by kernel_rfl) (by decide) (fun x d => ∃ xs, termsQ W x (Rows.uptoBulk d) xs) terms_each h
  obtain ⟨rows, hl, hp⟩ := choose_list (P := fun x xs => termsQ W x (Rows.uptoBulk y.1) xs) hs fun x hx => by
    obtain ⟨d, ⟨xs, q1, q2, q3⟩, hb⟩ := h4 x hx
    exact ⟨xs, q1, Nat.le_trans q2 hb, fun x hx => ⟨Nat.le_trans (q3 x hx).1 hb, (q3 x hx).2⟩⟩
  refine ⟨hd, rows, hs, h1, ⟨hl.symm, h2, fun i x r g1 g2 => (hp i x r g1 g2).1⟩, by omega, fun e he => ?_⟩
  obtain ⟨i, x, g1, g2⟩ := mem_pair hl.symm he
  exact (hp i x e g1 g2).2
def stmtQ (W : World) (x : StmtH) (N : Nat) (s : Stmt) : Prop := RdS W x s ∧ (N ≤ 2000000 → s.Ok)
theorem stmt_each (cs' : List Value) (fu : Nat) (y : DataW H × List MemPlace) (hl : cs'.length = 4) (h : DataW.trod enc Try.prog W 0 (fun _ => true) true fu 47 cs' = some y) : ∃ x : StmtH, cs' = Enc.stmt.enc x ∧ ∃ s, stmtQ W x (Rows.uptoBulk y.1) s := by
  have c1 : Try.prog.cellsOf 9 = 1 := by kernel_rfl
  have c3 : Try.prog.cellsOf 3 = 1 := by kernel_rfl
  have c4 : Try.prog.cellsOf 22 = 1 := by kernel_rfl
  have c5 : Try.prog.cellsOf 45 = 1 := by kernel_rfl
  match cs', hl with
  | [v0, v1, v2, v3], _ =>
    obtain ⟨xs, n, _, rfl, _, hlen, hg⟩ := DataW.trod_struct Try.underlying47 h
    match xs, hlen with
    | [y0, y1, y2, y3], _ =>
      have g0 : DataW.trod enc Try.prog W 0 (fun _ => true) true n 3 [v0] = some y0 := by simpa [c3] using hg 0 _ rfl
      have g1 : DataW.trod enc Try.prog W 0 (fun _ => true) true n 9 [v1] = some y1 := by simpa [c1] using hg 1 _ rfl
      have g2 : DataW.trod enc Try.prog W 0 (fun _ => true) true n 22 [v2] = some y2 := by simpa [c4] using hg 2 _ rfl
      have g3 : DataW.trod enc Try.prog W 0 (fun _ => true) true n 45 [v3] = some y3 := by simpa [c5] using hg 3 _ rfl
      obtain ⟨k0, e0, _, _⟩ := DataW.trod_int Try.underlying3 g0
      obtain ⟨s, e1, hs⟩ := str_each [v1] n y1 rfl g1
      obtain ⟨t, ts, rfl, r2, l2, b2⟩ := strs_open g2
      obtain ⟨e, es, hs3, rfl, r3, l3, b3⟩ := exprs_open g3
      simp only [Enc.str, List.cons.injEq, and_true] at e0 e1
      subst e0; subst e1
      have hb : ∀ z ∈ [y0, y1, y2, y3], Rows.uptoBulk z.1 ≤ Rows.uptoBulk (DataW.agg ([y0, y1, y2, y3].map (·.1))) := fun z hz => by
        have := bulk_part (d := z.1) (l := [y0, y1, y2, y3].map (·.1)) (List.mem_map.2 ⟨z, hz, rfl⟩)
        simp only [Rows.uptoBulk]
        omega
      have m1 := hb y1 (by simp)
      have m2 := hb y2 (by simp)
      have m3 := hb y3 (by simp)
      refine ⟨⟨k0, s, t, e⟩, rfl, ⟨k0, s, ts, es⟩, ⟨rfl, rfl, r2, hs3, r3⟩, fun hN => ⟨?_, ?_, fun x hx => ?_, ?_, fun x hx => ?_, fun x hx t ht => ⟨?_, ?_, ?_⟩⟩⟩
      · exact Nat.le_trans hs (Nat.le_trans m1 hN)
      · exact Nat.le_trans l2 (Nat.le_trans m2 hN)
      · exact Nat.le_trans (b2 x hx) (Nat.le_trans m2 hN)
      · exact Nat.le_trans l3 (Nat.le_trans m3 hN)
      · exact Nat.le_trans (b3 x hx).1 (Nat.le_trans m3 hN)
      · exact Nat.le_trans ((b3 x hx).2 t ht).1 (Nat.le_trans m3 hN)
      · exact ((b3 x hx).2 t ht).2.1
      · exact ((b3 x hx).2 t ht).2.2
theorem body_open {fuel : Nat} {c : Value} {y : DataW H × List MemPlace} (h : DataW.trod enc Try.prog W 0 (fun _ => true) true fuel 41 [c] = some y) :
    ∃ (hd : Hdr) (l : List Stmt) (hs : List StmtH), c = .slice hd.A hd.n hd.c ∧ RdB W hd l hs ∧ l.length ≤ Rows.uptoBulk y.1 ∧ ∀ s ∈ l, Rows.uptoBulk y.1 ≤ 2000000 → s.Ok := by
  obtain ⟨hd, hs, h1, h2, h3, h4⟩ := slice_gen (E := Enc.stmt) ⟨0, ByteArray.empty, ⟨none, 0, 0⟩, ⟨none, 0, 0⟩⟩ Try.underlying41 (by kernel_rfl) (by decide) (fun x d => ∃ s, stmtQ W x (Rows.uptoBulk d) s) stmt_each h
  obtain ⟨rows, hl, hp⟩ := choose_list (P := fun x s => stmtQ W x (Rows.uptoBulk y.1) s) hs fun x hx => by
    obtain ⟨d, ⟨s, q1, q2⟩, hb⟩ := h4 x hx
    exact ⟨s, q1, fun hN => q2 (Nat.le_trans hb hN)⟩
  refine ⟨hd, rows, hs, h1, ⟨hl.symm, h2, fun i x r g1 g2 => (hp i x r g1 g2).1⟩, by omega, fun e he => ?_⟩
  obtain ⟨i, x, g1, g2⟩ := mem_pair hl.symm he
  exact (hp i x e g1 g2).2
def funcQ (W : World) (x : FuncH) (N : Nat) (f : FDecl) : Prop := RdF W x f ∧ (N ≤ 2000000 → f.Ok)
theorem func_each (cs' : List Value) (fu : Nat) (y : DataW H × List MemPlace) (hl : cs'.length = 6) (h : DataW.trod enc Try.prog W 0 (fun _ => true) true fu 43 cs' = some y) : ∃ x : FuncH, cs' = Enc.func.enc x ∧ ∃ f, funcQ W x (Rows.uptoBulk y.1) f := by
  have c1 : Try.prog.cellsOf 9 = 1 := by kernel_rfl
  have c3 : Try.prog.cellsOf 35 = 1 := by kernel_rfl
  have c4 : Try.prog.cellsOf 23 = 1 := by kernel_rfl
  have c5 : Try.prog.cellsOf 40 = 1 := by kernel_rfl
  have c6 : Try.prog.cellsOf 41 = 1 := by kernel_rfl
  match cs', hl with
  | [v0, v1, v2, v3, v4, v5], _ =>
    obtain ⟨xs, n, _, rfl, _, hlen, hg⟩ := DataW.trod_struct Try.underlying43 h
    match xs, hlen with
    | [y0, y1, y2, y3, y4, y5], _ =>
      have g0 : DataW.trod enc Try.prog W 0 (fun _ => true) true n 9 [v0] = some y0 := by simpa [c1] using hg 0 _ rfl
      have g1 : DataW.trod enc Try.prog W 0 (fun _ => true) true n 35 [v1] = some y1 := by simpa [c3] using hg 1 _ rfl
      have g2 : DataW.trod enc Try.prog W 0 (fun _ => true) true n 23 [v2] = some y2 := by simpa [c4] using hg 2 _ rfl
      have g3 : DataW.trod enc Try.prog W 0 (fun _ => true) true n 40 [v3] = some y3 := by simpa [c5] using hg 3 _ rfl
      have g4 : DataW.trod enc Try.prog W 0 (fun _ => true) true n 23 [v4] = some y4 := by simpa [c4] using hg 4 _ rfl
      have g5 : DataW.trod enc Try.prog W 0 (fun _ => true) true n 41 [v5] = some y5 := by simpa [c6] using hg 5 _ rfl
      obtain ⟨s, e0, hs⟩ := str_each [v0] n y0 rfl g0
      obtain ⟨k1, e1, _, _⟩ := DataW.trod_int Try.underlying35 g1
      obtain ⟨h2, x2, rfl, r2, l2, b2⟩ := decls_open g2
      obtain ⟨h3, x3, rfl, r3, l3⟩ := labs_open g3
      obtain ⟨h4, x4, rfl, r4, l4, b4⟩ := decls_open g4
      obtain ⟨h5, x5, hs5, rfl, r5, l5, b5⟩ := body_open g5
      simp only [Enc.str, List.cons.injEq, and_true] at e0 e1
      subst e0; subst e1
      have hb : ∀ z ∈ [y0, y1, y2, y3, y4, y5], Rows.uptoBulk z.1 ≤ Rows.uptoBulk (DataW.agg ([y0, y1, y2, y3, y4, y5].map (·.1))) := fun z hz => by
        have := bulk_part (d := z.1) (l := [y0, y1, y2, y3, y4, y5].map (·.1)) (List.mem_map.2 ⟨z, hz, rfl⟩)
        simp only [Rows.uptoBulk]
        omega
      have m0 := hb y0 (by simp)
      have m2 := hb y2 (by simp)
      have m3 := hb y3 (by simp)
      have m4 := hb y4 (by simp)
      have m5 := hb y5 (by simp)
      refine ⟨⟨s, k1, h2, h3, h4, h5⟩, rfl, ⟨s, k1, x2, x3, x4, x5⟩, ⟨rfl, rfl, r2, r3, r4, hs5, r5⟩, fun hN => ⟨?_, ?_, fun x hx => ?_, ?_, ?_, fun x hx => ?_, ?_, fun x hx => ?_⟩⟩
      · exact Nat.le_trans hs (Nat.le_trans m0 hN)
      · exact Nat.le_trans l2 (Nat.le_trans m2 hN)
      · exact Nat.le_trans (b2 x hx) (Nat.le_trans m2 hN)
      · exact Nat.le_trans l3 (Nat.le_trans m3 hN)
      · exact Nat.le_trans l4 (Nat.le_trans m4 hN)
      · exact Nat.le_trans (b4 x hx) (Nat.le_trans m4 hN)
      · exact Nat.le_trans l5 (Nat.le_trans m5 hN)
      · exact b5 x hx (Nat.le_trans m5 hN)
theorem funcs_open {fuel : Nat} {c : Value} {y : DataW H × List MemPlace} (h : DataW.trod enc Try.prog W 0 (fun _ => true) true fuel 25 [c] = some y) :
    ∃ (hd : Hdr) (l : List FDecl) (hs : List FuncH), c = .slice hd.A hd.n hd.c ∧ RdFs W hd l hs ∧ l.length ≤ Rows.uptoBulk y.1 ∧ ∀ s ∈ l, Rows.uptoBulk y.1 ≤ 2000000 → s.Ok := by
  obtain ⟨hd, hs, h1, h2, h3, h4⟩ := slice_gen (E := Enc.func) ⟨ByteArray.empty, 0, ⟨none, 0, 0⟩, ⟨none, 0, 0⟩, ⟨none, 0, 0⟩, ⟨none, 0, 0⟩⟩ Try.underlying25 (by kernel_rfl) (by decide) (fun x d => ∃ s, funcQ W x (Rows.uptoBulk d) s) func_each h
  obtain ⟨rows, hl, hp⟩ := choose_list (P := fun x s => funcQ W x (Rows.uptoBulk y.1) s) hs fun x hx => by
    obtain ⟨d, ⟨s, q1, q2⟩, hb⟩ := h4 x hx
    exact ⟨s, q1, fun hN => q2 (Nat.le_trans hb hN)⟩
  refine ⟨hd, rows, hs, h1, ⟨hl.symm, h2, fun i x r g1 g2 => (hp i x r g1 g2).1⟩, by omega, fun e he => ?_⟩
  obtain ⟨i, x, g1, g2⟩ := mem_pair hl.symm he
  exact (hp i x e g1 g2).2
set_option maxRecDepth 100000 in
/-- A source that came in. -/
theorem src_open {r : Reach} {b0 : Nat} {v : Value} {d : DataW H} {p : List MemPlace} (hv : Value.okWide Try.prog W r b0 27 v) (h : DataW.Trod enc Try.prog W 0 (fun _ => true) true 27 v d p) :
    ∃ (x : SrcH) (s : Src), v = x.val ∧ RdSrc W x s ∧ (Rows.uptoBulk d ≤ 2000000 → s.Ok) := by
  obtain ⟨cs, rfl, hsz⟩ := okWide_struct Try.underlying27 hv
  have hC : Try.prog.cellsOf 27 = 5 := by kernel_rfl
  have c1 : Try.prog.cellsOf 22 = 1 := by kernel_rfl
  have c2 : Try.prog.cellsOf 23 = 1 := by kernel_rfl
  have c3 : Try.prog.cellsOf 24 = 1 := by kernel_rfl
  have c4 : Try.prog.cellsOf 25 = 1 := by kernel_rfl
  obtain ⟨l⟩ := cs
  match l, hsz.trans hC with
  | [v0, v1, v2, v3, v4], _ =>
    obtain ⟨fuel, hf⟩ := h
    obtain ⟨xs, n, _, hx, _, hlen, hg⟩ := DataW.trod_struct Try.underlying27 hf
    match xs, hlen with
    | [y0, y1, y2, y3, y4], _ =>
      simp only [Prod.mk.injEq] at hx
      have g0 : DataW.trod enc Try.prog W 0 (fun _ => true) true n 22 [v0] = some y0 := by simpa [Value.cells, c1] using hg 0 _ rfl
      have g1 : DataW.trod enc Try.prog W 0 (fun _ => true) true n 23 [v1] = some y1 := by simpa [Value.cells, c2] using hg 1 _ rfl
      have g2 : DataW.trod enc Try.prog W 0 (fun _ => true) true n 24 [v2] = some y2 := by simpa [Value.cells, c3] using hg 2 _ rfl
      have g3 : DataW.trod enc Try.prog W 0 (fun _ => true) true n 23 [v3] = some y3 := by simpa [Value.cells, c2] using hg 3 _ rfl
      have g4 : DataW.trod enc Try.prog W 0 (fun _ => true) true n 25 [v4] = some y4 := by simpa [Value.cells, c4] using hg 4 _ rfl
      obtain ⟨h0, x0, rfl, r0, l0, b0⟩ := strs_open g0
      obtain ⟨h1, x1, rfl, r1, l1, b1⟩ := decls_open g1
      obtain ⟨h2, x2, rfl, r2, l2, b2⟩ := arrs_open g2
      obtain ⟨h3, x3, rfl, r3, l3, b3⟩ := decls_open g3
      obtain ⟨h4, x4, hs4, rfl, r4, l4, b4⟩ := funcs_open g4
      have hd := hx.1
      subst hd
      have hb : ∀ z ∈ [y0, y1, y2, y3, y4], Rows.uptoBulk z.1 ≤ Rows.uptoBulk (DataW.agg ([y0, y1, y2, y3, y4].map (·.1))) := fun z hz => by
        have := bulk_part (d := z.1) (l := [y0, y1, y2, y3, y4].map (·.1)) (List.mem_map.2 ⟨z, hz, rfl⟩)
        simp only [Rows.uptoBulk]
        omega
      have m0 := hb y0 (by simp)
      have m1 := hb y1 (by simp)
      have m2 := hb y2 (by simp)
      have m3 := hb y3 (by simp)
      have m4 := hb y4 (by simp)
      refine ⟨⟨h0, h1, h2, h3, h4, hs4⟩, ⟨x0, x1, x2, x3, x4⟩, rfl, ⟨r0, r1, r2, r3, r4⟩, fun hN => ⟨?_, fun x hx => ?_, ?_, fun x hx => ?_, ?_, fun x hx => ?_, ?_, fun x hx => ?_, ?_, fun x hx => ?_⟩⟩
      · exact Nat.le_trans l0 (Nat.le_trans m0 hN)
      · exact Nat.le_trans (b0 x hx) (Nat.le_trans m0 hN)
      · exact Nat.le_trans l1 (Nat.le_trans m1 hN)
      · exact Nat.le_trans (b1 x hx) (Nat.le_trans m1 hN)
      · exact Nat.le_trans l2 (Nat.le_trans m2 hN)
      · exact Nat.le_trans (b2 x hx) (Nat.le_trans m2 hN)
      · exact Nat.le_trans l3 (Nat.le_trans m3 hN)
      · exact Nat.le_trans (b3 x hx) (Nat.le_trans m3 hN)
      · exact Nat.le_trans l4 (Nat.le_trans m4 hN)
      · exact b4 x hx (Nat.le_trans m4 hN)
end
end Go.Proofs.Ytogndpckiognjaa
