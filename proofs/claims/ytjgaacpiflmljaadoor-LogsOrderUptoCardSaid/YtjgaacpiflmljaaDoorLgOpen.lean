/- What LogsOrder is given, read off the data that came in: the module's labels, two tables; and how long they can be. -/
import Derived.Test.YtjgaacpiflmljaaDoorLgD
import Derived.Test.YtjgaacpiflmljaaDoorRows
import Derived.ProofKit
import Derived.OpenShut
import Derived.ShutString
import Derived.ChangeOld
import Derived.Below
import Derived.SizedLaws
import Derived.Deep.Slices
namespace Go.Proofs.YtjgaacpiflmljaaDoor
open Go.ChangeShapes Go.WideShapes Go.ChangeAt Go.RowKit Go.Deep
set_option linter.unusedVariables false
set_option linter.unusedSimpArgs false

theorem bulk_one {H : Type} (d : DataW H) : 1 ≤ Rows.uptoBulk d := by
  cases d with
  | lit l => cases l <;> simp [Rows.uptoBulk]
  | nil => simp [Rows.uptoBulk]
  | ptr d => simp [Rows.uptoBulk]
  | slice elems spare => simp [Rows.uptoBulk]
  | agg parts => simp [Rows.uptoBulk]
  | iface t d => simp [Rows.uptoBulk]
  | map entries => simp [Rows.uptoBulk]
  | held h => simp [Rows.uptoBulk]
theorem bulk_part {H : Type} {d : DataW H} {l : List (DataW H)} (h : d ∈ l) : Rows.uptoBulk d ≤ Rows.uptoBulkAll l := by
  induction l with
  | nil => cases h
  | cons x r ih =>
    simp only [Rows.uptoBulkAll]
    cases List.mem_cons.1 h with
    | inl e => subst e; omega
    | inr e => have := ih e; omega
theorem bulk_len {H : Type} (l : List (DataW H)) : l.length ≤ Rows.uptoBulkAll l := by
  induction l with
  | nil => simp [Rows.uptoBulkAll]
  | cons x r ih => have := bulk_one x; simp only [Rows.uptoBulkAll, List.length_cons]; omega
theorem bulk_slice {H : Type} (elems spare : List (DataW H)) : Rows.uptoBulkAll elems ≤ Rows.uptoBulk (.slice elems spare) := by
  simp only [Rows.uptoBulk]
  omega

theorem Rd.of_cells {α : Type} {E : Enc α} {w : World} {a : Addr} {xs : List α} (hs : 0 < E.sz) (h : ∀ (k : Nat) (x : α), xs[k]? = some x → ∀ (j : Nat) (u : Value), (E.enc x)[j]? = some u → w.cell? (a.add (k * E.sz + j)) = some u) : Rd E w (some a) xs := by
  refine ⟨E.all_len xs, E.all_one xs, fun hne => ?_⟩
  have hsp : a.spot = none := by
    obtain ⟨x, hx⟩ : ∃ x, xs[0]? = some x := ⟨_, List.getElem?_eq_getElem (Nat.pos_of_ne_zero hne)⟩
    obtain ⟨u, hu⟩ : ∃ u, (E.enc x)[0]? = some u := ⟨_, List.getElem?_eq_getElem (by rw [E.len]; exact hs)⟩
    have := World.cell?_spot (h 0 x hx 0 u hu)
    simpa [Addr.add] using this
  obtain ⟨b, o, spot⟩ := a
  simp only [] at hsp
  subst hsp
  refine ⟨b, o, rfl, fun j u hu => ?_⟩
  have hj : j < xs.length * E.sz := by
    have := (List.getElem?_eq_some_iff.1 hu).1
    rwa [E.all_len] at this
  have hk : j / E.sz < xs.length := Nat.div_lt_of_lt_mul (by rw [Nat.mul_comm]; exact hj)
  obtain ⟨x, hx⟩ : ∃ x, xs[j / E.sz]? = some x := ⟨_, List.getElem?_eq_getElem hk⟩
  obtain ⟨u', hu'⟩ : ∃ u', (E.enc x)[j % E.sz]? = some u' := ⟨_, List.getElem?_eq_getElem (by rw [E.len]; exact Nat.mod_lt _ hs)⟩
  have he : j / E.sz * E.sz + j % E.sz = j := Nat.div_add_mod' _ _
  have h1 := E.all_get hx hu'
  rw [he, hu] at h1
  obtain rfl := Option.some.inj h1
  have h2 := h _ x hx _ u hu'
  rw [he, add_at] at h2
  exact h2
/-- .. where an entry is one cell. -/
theorem Rd.of_cell1 {α : Type} {E : Enc α} {w : World} {a : Addr} {xs : List α} (hs : E.sz = 1) (v : α → Value) (hv : ∀ x, E.enc x = [v x]) (h : ∀ (k : Nat) (x : α), xs[k]? = some x → w.cell? (a.add k) = some (v x)) : Rd E w (some a) xs := by
  refine Rd.of_cells (by rw [hs]; decide) fun k x hx j u hu => ?_
  rw [hv x] at hu
  obtain rfl : j = 0 := by
    have := (List.getElem?_eq_some_iff.1 hu).1
    simp at this
    exact this
  obtain rfl : v x = u := by simpa using hu
  rw [hs]
  simpa using h k x hx

section
variable {H : Type} {enc : TypeId × Value → H} {W : World}
theorem u64s_open {fuel : Nat} {c : Value} {y : DataW H × List MemPlace} (h : DataW.trod enc Tryd.prog W 0 (fun _ => true) true fuel 22 [c] = some y) :
    ∃ (A : Option Addr) (cap : Nat) (zs : List Int), c = .slice A zs.length cap ∧ Rd Enc.u64 W A zs ∧ zs.length ≤ Rows.uptoBulk y.1 := by
  rcases open_ints Tryd.underlying22 Tryd.underlying28 (by kernel_rfl) h with ⟨hc, _⟩ | ⟨a, len, cap, zs, hc, _, hl, hm, hz, rfl, hcell, _⟩
  · exact ⟨none, 0, [], by simpa using hc, RdC.nil _ _ _, Nat.zero_le _⟩
  · simp only [if_true] at hz
    have hlen : (zs.take len).length = len := by rw [List.length_take]; omega
    refine ⟨some a, cap, zs.take len, by rw [hlen]; simpa using hc, Rd.of_cell1 rfl (fun x => .int .u64 x) (fun _ => rfl) fun k x hx => ?_, ?_⟩
    · have hk : k < len := by have := (List.getElem?_eq_some_iff.1 hx).1; omega
      rw [List.getElem?_take_of_lt hk] at hx
      have h1 := hcell k (by omega)
      rw [List.getD_eq_getElem?_getD, hx] at h1
      exact h1
    · refine Nat.le_trans ?_ (bulk_slice _ _)
      refine Nat.le_trans ?_ (bulk_len _)
      simp [lits]
theorem i64s_open {fuel : Nat} {c : Value} {y : DataW H × List MemPlace} (h : DataW.trod enc Tryd.prog W 0 (fun _ => true) true fuel 34 [c] = some y) :
    ∃ (A : Option Addr) (cap : Nat) (zs : List Int), c = .slice A zs.length cap ∧ zs.length ≤ cap ∧ Rd Enc.i64 W A zs ∧ zs.length ≤ Rows.uptoBulk y.1 := by
  rcases open_ints Tryd.underlying34 Tryd.underlying2 (by kernel_rfl) h with ⟨hc, _⟩ | ⟨a, len, cap, zs, hc, _, hl, hm, hz, rfl, hcell, _⟩
  · exact ⟨none, 0, [], by simpa using hc, Nat.zero_le _, RdC.nil _ _ _, Nat.zero_le _⟩
  · simp only [if_true] at hz
    have hlen : (zs.take len).length = len := by rw [List.length_take]; omega
    refine ⟨some a, cap, zs.take len, by rw [hlen]; simpa using hc, by omega, Rd.of_cell1 rfl (fun x => .int .i64 x) (fun _ => rfl) fun k x hx => ?_, ?_⟩
    · have hk : k < len := by have := (List.getElem?_eq_some_iff.1 hx).1; omega
      rw [List.getElem?_take_of_lt hk] at hx
      have h1 := hcell k (by omega)
      rw [List.getD_eq_getElem?_getD, hx] at h1
      exact h1
    · refine Nat.le_trans ?_ (bulk_slice _ _)
      refine Nat.le_trans ?_ (bulk_len _)
      simp [lits]
theorem table_open {fuel : Nat} {c : Value} {y : DataW H × List MemPlace} (h : DataW.trod enc Tryd.prog W 0 (fun _ => true) true fuel 29 [c] = some y) :
    ∃ (A : Option Addr) (cap : Nat) (rows : List (List Int)) (hs : List Hdr), c = .slice A rows.length cap ∧ RdRows Enc.i64 W A rows hs ∧ rows.length ≤ Rows.uptoBulk y.1 ∧ ∀ r ∈ rows, r.length ≤ Rows.uptoBulk y.1 := by
  rcases open_slice1 Tryd.underlying29 (by kernel_rfl) h with ⟨hc, _⟩ | ⟨a, len, cap, m, n, V, D, Pl, hc, _, hl, hm, hmm, rfl, hi⟩
  · exact ⟨none, 0, [], [], by simpa using hc, ⟨rfl, RdC.nil _ _ _, fun i hd r h1 h2 => by simp at h1⟩, Nat.zero_le _, fun r hr => by cases hr⟩
  · simp only [if_true] at hmm
    subst hmm
    have each : ∀ i : Nat, ∃ x : Hdr × List Int, i < len → W.cell? (a.add i) = some (.slice x.1.A x.1.n x.1.c) ∧ x.1.n = x.2.length ∧ x.2.length ≤ x.1.c ∧ Rd Enc.i64 W x.1.A x.2 ∧ x.2.length ≤ Rows.uptoBulk (D i) := by
      intro i
      by_cases hil : i < len
      · obtain ⟨h1, h2⟩ := hi i (by omega)
        obtain ⟨A, k, zs, e, hk, hr, hb⟩ := i64s_open h2
        rw [e] at h1
        exact ⟨(⟨A, zs.length, k⟩, zs), fun _ => ⟨h1, rfl, hk, hr, hb⟩⟩
      · exact ⟨(⟨none, 0, 0⟩, []), fun h => absurd h hil⟩
    obtain ⟨F, hF⟩ : ∃ F : Nat → Hdr × List Int, ∀ i, i < len → W.cell? (a.add i) = some (.slice (F i).1.A (F i).1.n (F i).1.c) ∧ (F i).1.n = (F i).2.length ∧ (F i).2.length ≤ (F i).1.c ∧ Rd Enc.i64 W (F i).1.A (F i).2 ∧ (F i).2.length ≤ Rows.uptoBulk (D i) := ⟨fun i => Classical.choose (each i), fun i hi => Classical.choose_spec (each i) hi⟩
    have hlen : ((List.range len).map fun i => (F i).2).length = len := by simp
    have hbulk : ∀ i, i < len → Rows.uptoBulk (D i) ≤ Rows.uptoBulk (.slice ((List.range len).map D) ((List.range (m - len)).map fun j => D (len + j))) := fun i hi => by
      refine Nat.le_trans (bulk_part (l := (List.range len).map D) ?_) (bulk_slice _ _)
      exact List.mem_map.2 ⟨i, by simpa using hi, rfl⟩
    refine ⟨some a, m, (List.range len).map (fun i => (F i).2), (List.range len).map (fun i => (F i).1), by rw [hlen]; simpa using hc, ⟨by simp, Rd.of_cell1 rfl (fun x => .slice x.A x.n x.c) (fun _ => rfl) fun k x hx => ?_, fun i hd r h1 h2 => ?_⟩, ?_, fun r hr => ?_⟩
    · have hk : k < len := by have := (List.getElem?_eq_some_iff.1 hx).1; simpa using this
      rw [List.getElem?_map, List.getElem?_range hk] at hx
      obtain rfl : (F k).1 = x := by simpa using hx
      exact (hF k hk).1
    · have hk : i < len := by have := (List.getElem?_eq_some_iff.1 h1).1; simpa using this
      rw [List.getElem?_map, List.getElem?_range hk] at h1 h2
      obtain rfl : (F i).1 = hd := by simpa using h1
      obtain rfl : (F i).2 = r := by simpa using h2
      exact ⟨(hF i hk).2.1, (hF i hk).2.2.1, (hF i hk).2.2.2.1⟩
    · rw [hlen]
      refine Nat.le_trans ?_ (bulk_slice _ _)
      refine Nat.le_trans ?_ (bulk_len _)
      simp
    · obtain ⟨i, hi, rfl⟩ := List.mem_map.1 hr
      have hk : i < len := by simpa using hi
      exact Nat.le_trans (hF i hk).2.2.2.2 (hbulk i hk)
/-- A module that came in. -/
theorem mod_open {r : Reach} {b0 : Nat} {v : Value} {d : DataW H} {p : List MemPlace} (hv : Value.okWide Tryd.prog W r b0 26 v) (h : DataW.Trod enc Tryd.prog W 0 (fun _ => true) true 26 v d p) :
    ∃ (G R F : Value) (A : Option Addr) (c : Nat) (ch : List Int), v = MV G R F A c ch ∧ Rd Enc.u64 W A ch ∧ ch.length ≤ Rows.uptoBulk d := by
  obtain ⟨cs, rfl, hsz⟩ := okWide_struct Tryd.underlying26 hv
  have hC : Tryd.prog.cellsOf 26 = 4 := by kernel_rfl
  have c2 : Tryd.prog.cellsOf 22 = 1 := by kernel_rfl
  obtain ⟨l⟩ := cs
  match l, hsz.trans hC with
  | [v0, v1, v2, v3], _ =>
    obtain ⟨fuel, hf⟩ := h
    obtain ⟨xs, n, _, hx, _, hlen, hg⟩ := DataW.trod_struct Tryd.underlying26 hf
    match xs, hlen with
    | [y0, y1, y2, y3], _ =>
      simp only [Prod.mk.injEq] at hx
      have g2 : DataW.trod enc Tryd.prog W 0 (fun _ => true) true n 22 [v2] = some y2 := by simpa [Value.cells, c2] using hg 2 _ rfl
      obtain ⟨A, c, ch, rfl, hR, hb⟩ := u64s_open g2
      refine ⟨v0, v1, v3, A, c, ch, rfl, hR, Nat.le_trans hb ?_⟩
      have hd := hx.1
      simp only [List.map_cons, List.map_nil] at hd
      subst hd
      have h1 : Rows.uptoBulk y2.1 ≤ Rows.uptoBulkAll [y0.1, y1.1, y2.1, y3.1] := bulk_part (by simp)
      simp only [Rows.uptoBulk]
      omega
end
end Go.Proofs.YtjgaacpiflmljaaDoor
