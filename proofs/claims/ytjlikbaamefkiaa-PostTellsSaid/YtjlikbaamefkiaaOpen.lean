/- What a function's words are, read off the datum that came in: its lists, their cells and their sizes. -/
import Derived.Test.YtjlikbaamefkiaaCode
import Derived.ProofKit
import Derived.OpenShut
import Derived.ShutString
import Derived.ChangeOld
import Derived.Below
import Derived.SizedLaws
import Derived.Deep.Slices
namespace Go.Proofs.Ytjlikbaamefkiaa
open Go.ChangeShapes Go.WideShapes Go.ChangeAt Go.RowKit Go.Deep
set_option linter.unusedVariables false
set_option linter.unusedSimpArgs false

theorem Rd.of_cells {α : Type} {E : Enc α} {w : World} {a : Addr} {xs : List α} (hs : 0 < E.sz) (h : ∀ (k : Nat) (x : α), xs[k]? = some x → ∀ (j : Nat) (u : Value), (E.enc x)[j]? = some u → w.cell? (a.add (k * E.sz + j)) = some u) : Rd E w (some a) xs := by
  refine ⟨E.all_len xs, E.all_one xs, fun hne => ?_⟩
  have hsp : a.spot = none := by
    obtain ⟨x, hx⟩ : ∃ x, xs[0]? = some x := ⟨_, List.getElem?_eq_getElem (Nat.pos_of_ne_zero hne)⟩
    obtain ⟨u, hu⟩ : ∃ u, (E.enc x)[0]? = some u := ⟨_, List.getElem?_eq_getElem (by rw [E.len]; exact hs)⟩
    have := World.cell?_spot (h 0 x hx 0 u hu)
    simpa [Addr.add] using this
  obtain ⟨b, o, spot⟩ := a
  simp only [] at hsp
  subst hsp
  refine ⟨b, o, rfl, fun j u hu => ?_⟩
  have hj : j < xs.length * E.sz := by
    have := (List.getElem?_eq_some_iff.1 hu).1
    rwa [E.all_len] at this
  have hk : j / E.sz < xs.length := Nat.div_lt_of_lt_mul (by rw [Nat.mul_comm]; exact hj)
  obtain ⟨x, hx⟩ : ∃ x, xs[j / E.sz]? = some x := ⟨_, List.getElem?_eq_getElem hk⟩
  obtain ⟨u', hu'⟩ : ∃ u', (E.enc x)[j % E.sz]? = some u' := ⟨_, List.getElem?_eq_getElem (by rw [E.len]; exact Nat.mod_lt _ hs)⟩
  have he : j / E.sz * E.sz + j % E.sz = j := Nat.div_add_mod' _ _
  have h1 := E.all_get hx hu'
  rw [he, hu] at h1
  obtain rfl := Option.some.inj h1
  have h2 := h _ x hx _ u hu'
  rw [he, add_at] at h2
  exact h2

section
variable {H : Type} {enc : TypeId × Value → H} {W : World}
theorem labels_open {fuel : Nat} {c : Value} {y : DataW H × List MemPlace} (h : DataW.trod enc Try.prog W 0 (fun _ => true) true fuel 24 [c] = some y) :
    ∃ (A : Option Addr) (cap : Nat) (zs : List Int), c = .slice A zs.length cap ∧ Rd Enc.u64 W A zs ∧ ((∀ n ∈ y.1.weights Try.prog 24, n ≤ reachBytes) → zs.length ≤ 17592186043904) := by
  rcases open_ints Try.underlying24 Try.underlying23 (by kernel_rfl) h with ⟨hc, _⟩ | ⟨a, len, cap, zs, hc, _, hl, hm, hz, rfl, hcell, _⟩
  · refine ⟨none, 0, [], by simpa using hc, RdC.nil _ _ _, fun _ => by simp⟩
  · simp only [if_true] at hz
    have hlen : (zs.take len).length = len := by rw [List.length_take]; omega
    refine ⟨some a, cap, zs.take len, by rw [hlen]; simpa using hc, Rd.of_cells (by decide) fun k x hx j u hu => ?_, fun hw => ?_⟩
    · have hk : k < len := by have := (List.getElem?_eq_some_iff.1 hx).1; omega
      have hj : j = 0 := by
        have := (List.getElem?_eq_some_iff.1 hu).1
        simp [Enc.u64] at this
        exact this
      subst hj
      have hu' : u = .int .u64 x := by simpa [Enc.u64] using hu.symm
      subst hu'
      have h1 := hcell k (by omega)
      have hxx : zs[k]? = some x := by
        rw [List.getElem?_take_of_lt hk] at hx
        exact hx
      have h2 : zs.getD k 0 = x := by rw [List.getD_eq_getElem?_getD, hxx]; rfl
      rw [h2] at h1
      simpa [Enc.u64] using h1
    · have hb : Try.prog.bytesOf 23 = 8 := by kernel_rfl
      have h1 := hw ((zs.length) * 8) (by
        simp only [DataW.weights, Try.underlying24, hb]
        refine List.mem_cons.2 (.inl ?_)
        simp [lits]
        omega)
      rw [hlen]
      simp only [reachBytes] at h1
      omega

theorem code_open {fuel : Nat} {c : Value} {y : DataW H × List MemPlace} (h : DataW.trod enc Try.prog W 0 (fun _ => true) true fuel 25 [c] = some y) :
    ∃ (A : Option Addr) (cap : Nat) (code : List Ins), c = .slice A code.length cap ∧ Rd Enc.ins W A code ∧ (∀ i ∈ code, -9223372036854775808 ≤ i.a ∧ i.a ≤ 9223372036854775807) ∧ ((∀ n ∈ y.1.weights Try.prog 25, n ≤ reachBytes) → code.length ≤ 8796093021952) := by
  rcases open_slice Try.underlying25 h with ⟨hc, _⟩ | ⟨a, len, cap, m, n, D, Pl, hc, _, hl, hm, hmm, rfl, hi⟩
  · refine ⟨none, 0, [], by simpa using hc, RdC.nil _ _ _, (fun i hi => by cases hi), fun _ => by simp⟩
  · simp only [if_true] at hmm
    subst hmm
    have hC : Try.prog.cellsOf 63 = 2 := by kernel_rfl
    have each : ∀ i : Nat, ∃ x : Ins, i < len → W.cell? (a.add (i * 2 + 0)) = some (I x.op) ∧ W.cell? (a.add (i * 2 + 1)) = some (I x.a) ∧ -9223372036854775808 ≤ x.a ∧ x.a ≤ 9223372036854775807 := by
      intro i
      by_cases hil : i < len
      · obtain ⟨cs', hcs, ht⟩ := hi i (by omega)
        rw [hC] at hcs
        obtain ⟨_, hcl, hat⟩ := World.cells?_some hcs
        obtain ⟨ys, n', _, _, hlen, hyl, hf⟩ := DataW.trod_struct Try.underlying63 ht
        match cs', hcl with
        | [v0, v1], _ =>
          have c3 : Try.prog.cellsOf 3 = 1 := by kernel_rfl
          have c2 : Try.prog.cellsOf 2 = 1 := by kernel_rfl
          have f0 : DataW.trod enc Try.prog W 0 (fun _ => true) true n' 3 [v0] = ys[0]? := by simpa [c3] using hf 0 _ rfl
          have f1 : DataW.trod enc Try.prog W 0 (fun _ => true) true n' 2 [v1] = ys[1]? := by simpa [c2] using hf 1 _ rfl
          obtain ⟨y0, hy0⟩ : ∃ y0, ys[0]? = some y0 := ⟨_, List.getElem?_eq_getElem (by rw [hyl]; decide)⟩
          obtain ⟨y1, hy1⟩ : ∃ y1, ys[1]? = some y1 := ⟨_, List.getElem?_eq_getElem (by rw [hyl]; decide)⟩
          rw [hy0] at f0
          rw [hy1] at f1
          obtain ⟨k0, e0, _, _⟩ := DataW.trod_int Try.underlying3 f0
          obtain ⟨k1, e1, _, w1⟩ := DataW.trod_int Try.underlying2 f1
          simp only [List.cons.injEq, and_true] at e0 e1
          have g0 := hat 0 (by decide)
          have g1 := hat 1 (by decide)
          simp only [e0, e1, List.getElem?_cons_zero, List.getElem?_cons_succ] at g0 g1
          refine ⟨⟨k0, k1⟩, fun _ => ⟨?_, ?_, ?_⟩⟩
          · rw [← Go.Deep.add_add]; exact g0
          · rw [← Go.Deep.add_add]; exact g1
          · exact bounds_i64 w1
      · exact ⟨⟨0, 0⟩, fun h => absurd h hil⟩
    obtain ⟨F, hF⟩ : ∃ F : Nat → Ins, ∀ i, i < len → W.cell? (a.add (i * 2 + 0)) = some (I (F i).op) ∧ W.cell? (a.add (i * 2 + 1)) = some (I (F i).a) ∧ -9223372036854775808 ≤ (F i).a ∧ (F i).a ≤ 9223372036854775807 := ⟨fun i => Classical.choose (each i), fun i hi => Classical.choose_spec (each i) hi⟩
    have hlen : ((List.range len).map F).length = len := by simp
    refine ⟨some a, m, (List.range len).map F, by rw [hlen]; simpa using hc, Rd.of_cells (by decide) fun k x hx j u hu => ?_, fun i hi => ?_, fun hw => ?_⟩
    · have hk : k < len := by have := (List.getElem?_eq_some_iff.1 hx).1; omega
      rw [List.getElem?_map, List.getElem?_range hk] at hx
      obtain rfl : F k = x := by simpa using hx
      obtain ⟨h1, h2, _⟩ := hF k hk
      match j, hu with
      | 0, hu =>
        obtain rfl : I (F k).op = u := by simpa [Enc.ins] using hu
        exact h1
      | 1, hu =>
        obtain rfl : I (F k).a = u := by simpa [Enc.ins] using hu
        exact h2
      | j + 2, hu => simp [Enc.ins] at hu
    · obtain ⟨k, hk, rfl⟩ := List.mem_map.1 hi
      exact (hF k (by simpa using hk)).2.2
    · have hb : Try.prog.bytesOf 63 = 16 := by kernel_rfl
      have h1 := hw ((len + (m - len)) * 16) (by
        simp only [DataW.weights, Try.underlying25, hb]
        refine List.mem_cons.2 (.inl ?_)
        simp)
      rw [hlen]
      simp only [reachBytes] at h1
      omega

/-- A function that came in. -/
theorem fun_open {r : Reach} {b0 : Nat} {v : Value} {d : DataW H} {p : List MemPlace} (hv : Value.okWide Try.prog W r b0 27 v) (h : DataW.Trod enc Try.prog W 0 (fun _ => true) true 27 v d p) (hw : ∀ n ∈ d.weights Try.prog 27, n ≤ reachBytes) :
    ∃ (f : Fun) (hh : FunH), v = f.val hh ∧ (f.code.length ≤ 40 → f.Rd W hh) ∧ f.code.length ≤ 8796093021952 ∧ ∀ i ∈ f.code, -9223372036854775808 ≤ i.a ∧ i.a ≤ 9223372036854775807 := by
  obtain ⟨cs, rfl, hsz⟩ := okWide_struct Try.underlying27 hv
  have hC : Try.prog.cellsOf 27 = 6 := by kernel_rfl
  have c23 : Try.prog.cellsOf 23 = 1 := by kernel_rfl
  have c24 : Try.prog.cellsOf 24 = 1 := by kernel_rfl
  have c3 : Try.prog.cellsOf 3 = 1 := by kernel_rfl
  have c25 : Try.prog.cellsOf 25 = 1 := by kernel_rfl
  obtain ⟨l⟩ := cs
  match l, hsz.trans hC with
  | [v0, v1, v2, v3, v4, v5], _ =>
    obtain ⟨fuel, hf⟩ := h
    obtain ⟨xs, n, _, hx, _, hlen, hg⟩ := DataW.trod_struct Try.underlying27 hf
    match xs, hlen with
    | [y0, y1, y2, y3, y4, y5], _ =>
      simp only [Prod.mk.injEq] at hx
      have g0 : DataW.trod enc Try.prog W 0 (fun _ => true) true n 23 [v0] = some y0 := by simpa [Value.cells, c23] using hg 0 _ rfl
      have g1 : DataW.trod enc Try.prog W 0 (fun _ => true) true n 24 [v1] = some y1 := by simpa [Value.cells, c24] using hg 1 _ rfl
      have g2 : DataW.trod enc Try.prog W 0 (fun _ => true) true n 24 [v2] = some y2 := by simpa [Value.cells, c24] using hg 2 _ rfl
      have g3 : DataW.trod enc Try.prog W 0 (fun _ => true) true n 3 [v3] = some y3 := by simpa [Value.cells, c3] using hg 3 _ rfl
      have g4 : DataW.trod enc Try.prog W 0 (fun _ => true) true n 3 [v4] = some y4 := by simpa [Value.cells, c3] using hg 4 _ rfl
      have g5 : DataW.trod enc Try.prog W 0 (fun _ => true) true n 25 [v5] = some y5 := by simpa [Value.cells, c25] using hg 5 _ rfl
      obtain ⟨lv, e0, _, _⟩ := DataW.trod_int Try.underlying23 g0
      obtain ⟨lo, e3, _, _⟩ := DataW.trod_int Try.underlying3 g3
      obtain ⟨st, e4, _, _⟩ := DataW.trod_int Try.underlying3 g4
      obtain ⟨A1, k1, ps, rfl, R1, z1⟩ := labels_open g1
      obtain ⟨A2, k2, rs, rfl, R2, z2⟩ := labels_open g2
      obtain ⟨A5, k5, code, rfl, R5, ho, z5⟩ := code_open g5
      simp only [List.cons.injEq, and_true] at e0 e3 e4
      subst e0; subst e3; subst e4
      have hd := hx.1
      simp only [List.map_cons, List.map_nil] at hd
      subst hd
      have hwt : ∀ (j : Nat) (t : TypeId) (d : DataW H), [23, 24, 24, 3, 3, 25][j]? = some t → [y0.1, y1.1, y2.1, y3.1, y4.1, y5.1][j]? = some d → ∀ n ∈ d.weights Try.prog t, n ≤ reachBytes := by
        intro j t d ht hd n hn
        refine hw n ?_
        have := DataW.weights_mem_each (P := Try.prog) ht hd n hn
        simp only [DataW.weights, Try.underlying27]
        exact this
      have b1 := z1 (hwt 1 _ _ rfl rfl)
      have b2 := z2 (hwt 2 _ _ rfl rfl)
      have b5 := z5 (hwt 5 _ _ rfl rfl)
      exact ⟨⟨lv, ps, rs, lo, st, code⟩, ⟨A1, k1, A2, k2, A5, k5⟩, rfl, fun h40 => ⟨R1, R2, R5, b1, b2, by simp only [] at h40 ⊢; omega⟩, b5, ho⟩
end
end Go.Proofs.Ytjlikbaamefkiaa
