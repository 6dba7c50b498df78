/- A symbolic heap for walks: assertions with footprints of their own, side by side; rows, boxes; what one operation does to them. -/
import Derived.WalkKit
import Derived.Deep.Draws
import Derived.RowKit
import Derived.KernelRfl
import Derived.WalkSpells
import Derived.Deep.QuietTactic
import Derived.BigQuiet
namespace Go.Proofs.Ytogndpckiognjaa
open Go.RowKit
set_option linter.unusedVariables false
set_option linter.unusedSimpArgs false

/-! ### Lv0 -/

structure Hd (p : Prop) : Prop where mk :: (out : p)
theorem hid {p : Prop} (h : p) : Hd p := ⟨h⟩

/-- An assertion on blocks of its own (F), that only looks at these. -/
structure HP where
  P : (Nat → Prop) → World → Prop
  mv : ∀ {F : Nat → Prop} {w w' : World}, P F w → (∀ k, F k → w'.heap[k]? = w.heap[k]?) → P F w'

/-- Side by side: the footprints share nothing. -/
def Star : List HP → (Nat → Prop) → World → Prop
  | [], F, _ => ∀ k, ¬ F k
  | A :: As, F, w => ∃ F1 F2 : Nat → Prop, (∀ k, F k ↔ F1 k ∨ F2 k) ∧ (∀ k, F1 k → F2 k → False) ∧ A.P F1 w ∧ Star As F2 w

theorem Star.mv : ∀ {As : List HP} {F : Nat → Prop} {w w' : World}, Star As F w → (∀ k, F k → w'.heap[k]? = w.heap[k]?) → Star As F w'
  | [], _, _, _, h, _ => h
  | _ :: _, _, _, _, ⟨F1, F2, he, hd, ha, hs⟩, hm => ⟨F1, F2, he, hd, HP.mv _ ha fun k hk => hm k ((he k).2 (.inl hk)), Star.mv hs fun k hk => hm k ((he k).2 (.inr hk))⟩

/-- How a world grows: what lies outside S stays. -/
structure Grw (S : Nat → Prop) (w w' : World) : Prop where
  os : w'.os = w.os
  tape : w'.tape = w.tape
  output : w'.output = w.output
  size : w.heap.size ≤ w'.heap.size
  keep : ∀ k, k < w.heap.size → ¬ S k → w'.heap[k]? = w.heap[k]?

theorem Grw.refl (S : Nat → Prop) (w : World) : Grw S w w := ⟨rfl, rfl, rfl, Nat.le_refl _, fun _ _ _ => rfl⟩
theorem Grw.below {w w' : World} (h : Grw (fun _ => False) w w') : Below w.heap.size w w' := ⟨h.os, h.tape, h.output, h.size, fun k hk => h.keep k hk (fun h => h)⟩
theorem Grw.of_below {w w' : World} (S : Nat → Prop) (h : Below w.heap.size w w') : Grw S w w' := ⟨h.os, h.tape, h.output, h.size, fun k hk _ => h.block k hk⟩

/-- One assertion's step: its blocks alone turn, and what is new is its own. -/
def Step (A : HP) (w : World) (B : HP) (w' : World) : Prop :=
  ∀ F, A.P F w → (∀ k, F k → k < w.heap.size) → ∃ F', B.P F' w' ∧ (∀ k, F' k → F k ∨ (w.heap.size ≤ k ∧ k < w'.heap.size)) ∧ Grw F w w'

/-- The state of a call: what it has made since w0 are these, nothing of w0 has turned. -/
structure Mem (w0 w : World) (As : List HP) : Prop where mk' ::
  out : ∃ F, Star As F w ∧ (∀ k, F k → w0.heap.size ≤ k ∧ k < w.heap.size) ∧ Below w0.heap.size w0 w

section
variable {w0 w w' : World} {As Bs : List HP} {A B : HP}

theorem Mem.below (h : Mem w0 w As) : Below w0.heap.size w0 w := let ⟨_, _, _, hb⟩ := h.out; hb
theorem Mem.refl (w : World) : Mem w w [] := ⟨fun _ => False, fun _ h => h, fun _ h => h.elim, Below.refl _ _⟩
theorem Mem.size (h : Mem w0 w As) : w0.heap.size ≤ w.heap.size := h.below.size

/-- What is new lies behind all that was. -/
theorem Star.new {F : Nat → Prop} (h : Star As F w) (hF : ∀ k, F k → k < w.heap.size) (hg : ∀ k, k < w.heap.size → w'.heap[k]? = w.heap[k]?) {G : Nat → Prop} (hG : ∀ k, G k → w.heap.size ≤ k) (hA : A.P G w') :
    Star (A :: As) (fun k => G k ∨ F k) w' :=
  ⟨G, F, fun _ => Iff.rfl, fun k h1 h2 => by have := hG k h1; have := hF k h2; omega, hA, h.mv fun k hk => hg k (hF k hk)⟩

theorem Star.append : ∀ {As Bs : List HP} {F G : Nat → Prop} {w : World}, Star As F w → Star Bs G w → (∀ k, F k → G k → False) → Star (As ++ Bs) (fun k => F k ∨ G k) w
  | [], Bs, F, G, w, h1, h2, _ => by
    have : (fun k => F k ∨ G k) = G := by funext k; exact propext ⟨fun h => h.resolve_left (h1 k), .inr⟩
    rw [this]; exact h2
  | A :: As, Bs, F, G, w, ⟨F1, F2, he, hd, ha, hs⟩, h2, hx =>
    ⟨F1, fun k => F2 k ∨ G k, fun k => by show F k ∨ G k ↔ _; rw [he k, or_assoc], fun k h3 h4 => h4.elim (hd k h3) (hx k ((he k).2 (.inl h3))), ha, Star.append hs h2 fun k h5 => hx k ((he k).2 (.inr h5))⟩

/-- A callee has made things of its own. -/
theorem Mem.call (h : Mem w0 w As) (h1 : Mem w w' Bs) : Mem w0 w' (Bs ++ As) := by
  obtain ⟨F, hs, hF, hb⟩ := h.out
  obtain ⟨G, ht, hG, hb1⟩ := h1.out
  refine ⟨_, Star.append ht (hs.mv fun k hk => hb1.block k (hF k hk).2) (fun k h2 h3 => by have := (hG k h2).1; have := (hF k h3).2; omega), ?_, ?_⟩
  · intro k hk
    rcases hk with hk | hk
    · exact ⟨Nat.le_trans hb.size (hG k hk).1, (hG k hk).2⟩
    · exact ⟨(hF k hk).1, Nat.lt_of_lt_of_le (hF k hk).2 hb1.size⟩
  · exact hb.trans (hb1.mono hb.size)

/-- What leaves the heap alone. -/
theorem Mem.same (h : Mem w0 w As) (hw : w'.heap = w.heap) (ho : w'.os = w.os) (ht : w'.tape = w.tape) (hu : w'.output = w.output) : Mem w0 w' As := by
  obtain ⟨F, hs, hF, hb⟩ := h.out
  refine ⟨F, hs.mv fun k _ => by rw [hw], fun k hk => by rw [hw]; exact hF k hk, ?_⟩
  exact ⟨ho.trans hb.os, ht.trans hb.tape, hu.trans hb.output, by rw [hw]; exact hb.size, fun k hk => by rw [hw]; exact hb.block k hk⟩
/-- A cell of w0 reads as it did. -/
theorem Mem.old (h : Mem w0 w As) {a : Addr} {v : Value} (hc : w0.cell? a = some v) : w.cell? a = some v := (h.below.cell (World.block_lt_of_cell? w0 a hc)).trans hc
theorem Mem.drew (h : Mem w0 w As) : Mem w0 w.drew As := h.same rfl rfl rfl rfl
theorem Mem.drewN (h : Mem w0 w As) (n : Nat) : Mem w0 (w.drewN n) As := h.same rfl rfl rfl rfl

/-- One of them steps. -/
theorem Star.step : ∀ {As : List HP} {F : Nat → Prop} {w w' : World} (i : Nat) {A B : HP}, As[i]? = some A → Star As F w → (∀ k, F k → k < w.heap.size) → Step A w B w' →
    ∃ F', Star (As.set i B) F' w' ∧ (∀ k, F' k → F k ∨ (w.heap.size ≤ k ∧ k < w'.heap.size)) ∧ Grw F w w'
  | [], _, _, _, _, _, _, h, _, _, _ => by simp at h
  | A :: As, F, w, w', 0, A', B, h, ⟨F1, F2, he, hd, ha, hs⟩, hF, hst => by
    obtain rfl : A = A' := by simpa using h
    obtain ⟨F1', hb, hn, hg⟩ := hst F1 ha fun k hk => hF k ((he k).2 (.inl hk))
    refine ⟨fun k => F1' k ∨ F2 k, ⟨F1', F2, fun _ => Iff.rfl, fun k h1 h2 => ?_, hb, hs.mv fun k hk => hg.keep k (hF k ((he k).2 (.inr hk))) fun h1 => hd k h1 hk⟩, fun k hk => ?_, ⟨hg.os, hg.tape, hg.output, hg.size, fun k hk hn' => hg.keep k hk fun h1 => hn' ((he k).2 (.inl h1))⟩⟩
    · rcases hn k h1 with h3 | h3
      · exact hd k h3 h2
      · have := hF k ((he k).2 (.inr h2)); omega
    · rcases hk with hk | hk
      · exact (hn k hk).imp (fun h => (he k).2 (.inl h)) id
      · exact .inl ((he k).2 (.inr hk))
  | A :: As, F, w, w', i + 1, A', B, h, ⟨F1, F2, he, hd, ha, hs⟩, hF, hst => by
    obtain ⟨F2', hs', hn, hg⟩ := Star.step i (As := As) (by simpa using h) hs (fun k hk => hF k ((he k).2 (.inr hk))) hst
    refine ⟨fun k => F1 k ∨ F2' k, ⟨F1, F2', fun _ => Iff.rfl, fun k h1 h2 => ?_, HP.mv _ ha fun k hk => hg.keep k (hF k ((he k).2 (.inl hk))) fun h1 => hd k hk h1, hs'⟩, fun k hk => ?_, ⟨hg.os, hg.tape, hg.output, hg.size, fun k hk hn' => hg.keep k hk fun h1 => hn' ((he k).2 (.inr h1))⟩⟩
    · rcases hn k h2 with h3 | h3
      · exact hd k h1 h3
      · have := hF k ((he k).2 (.inl h1)); omega
    · rcases hk with hk | hk
      · exact .inl ((he k).2 (.inl hk))
      · exact (hn k hk).imp (fun h => (he k).2 (.inr h)) id

theorem Mem.step (h : Mem w0 w As) (i : Nat) (hi : As[i]? = some A) (hst : Step A w B w') : Mem w0 w' (As.set i B) := by
  obtain ⟨F, hs, hF, hb⟩ := h.out
  obtain ⟨F', hs', hn, hg⟩ := Star.step i hi hs (fun k hk => (hF k hk).2) hst
  refine ⟨F', hs', fun k hk => ?_, ⟨hg.os.trans hb.os, hg.tape.trans hb.tape, hg.output.trans hb.output, Nat.le_trans hb.size hg.size, fun k hk => ?_⟩⟩
  · rcases hn k hk with h1 | h1
    · exact ⟨(hF k h1).1, Nat.lt_of_lt_of_le (hF k h1).2 hg.size⟩
    · exact ⟨Nat.le_trans hb.size h1.1, h1.2⟩
  · rw [hg.keep k (Nat.lt_of_lt_of_le hk hb.size) fun h1 => by have := (hF k h1).1; omega]
    exact hb.block k hk

/-- One of them, looked at. -/
theorem Star.get : ∀ {As : List HP} {F : Nat → Prop} {w : World} (i : Nat) {A : HP}, As[i]? = some A → Star As F w → ∃ G, A.P G w ∧ ∀ k, G k → F k
  | [], _, _, _, _, h, _ => by simp at h
  | A :: As, F, w, 0, A', h, ⟨F1, F2, he, _, ha, _⟩ => by
    obtain rfl : A = A' := by simpa using h
    exact ⟨F1, ha, fun k hk => (he k).2 (.inl hk)⟩
  | A :: As, F, w, i + 1, A', h, ⟨F1, F2, he, _, _, hs⟩ => by
    obtain ⟨G, hg, hG⟩ := Star.get i (As := As) (by simpa using h) hs
    exact ⟨G, hg, fun k hk => (he k).2 (.inr (hG k hk))⟩

theorem Mem.get (h : Mem w0 w As) (i : Nat) (hi : As[i]? = some A) : ∃ G, A.P G w ∧ ∀ k, G k → w0.heap.size ≤ k ∧ k < w.heap.size := by
  obtain ⟨F, hs, hF, _⟩ := h.out
  obtain ⟨G, hg, hG⟩ := Star.get i hi hs
  exact ⟨G, hg, fun k hk => hF k (hG k hk)⟩

/-- Two of them, looked at. -/
theorem Star.two : ∀ {As : List HP} {F : Nat → Prop} {w : World} (i j : Nat) {A B : HP}, i < j → As[i]? = some A → As[j]? = some B → Star As F w → ∃ G G', A.P G w ∧ B.P G' w ∧ (∀ k, G k → G' k → False) ∧ (∀ k, G k → F k) ∧ ∀ k, G' k → F k
  | [], _, _, _, _, _, _, _, h, _, _ => by simp at h
  | A :: As, F, w, 0, 0, _, _, hlt, _, _, _ => absurd hlt (Nat.lt_irrefl _)
  | A :: As, F, w, 0, j + 1, A', B, _, hi, hj, ⟨F1, F2, he, hd, ha, hs⟩ => by
    obtain rfl : A = A' := by simpa using hi
    obtain ⟨G, hg, hG⟩ := Star.get j (As := As) (by simpa using hj) hs
    exact ⟨F1, G, ha, hg, fun k h1 h2 => hd k h1 (hG k h2), fun k hk => (he k).2 (.inl hk), fun k hk => (he k).2 (.inr (hG k hk))⟩
  | A :: As, F, w, i + 1, 0, _, _, hlt, _, _, _ => by omega
  | A :: As, F, w, i + 1, j + 1, A', B, hlt, hi, hj, ⟨F1, F2, he, hd, ha, hs⟩ => by
    obtain ⟨G, G', h1, h2, h3, h4, h5⟩ := Star.two i j (As := As) (Nat.lt_of_succ_lt_succ hlt) (by simpa using hi) (by simpa using hj) hs
    exact ⟨G, G', h1, h2, h3, fun k hk => (he k).2 (.inr (h4 k hk)), fun k hk => (he k).2 (.inr (h5 k hk))⟩
theorem Mem.two (h : Mem w0 w As) (i j : Nat) (hij : i < j) (hi : As[i]? = some A) (hj : As[j]? = some B) : ∃ G G', A.P G w ∧ B.P G' w ∧ (∀ k, G k → G' k → False) := by
  obtain ⟨F, hs, _⟩ := h.out
  obtain ⟨G, G', h1, h2, h3, _⟩ := Star.two i j hij hi hj hs
  exact ⟨G, G', h1, h2, h3⟩

/-- One of them is told otherwise (its world stays). -/
theorem Mem.conv (h : Mem w0 w As) (i : Nat) (hi : As[i]? = some A) (hc : ∀ F, A.P F w → B.P F w) : Mem w0 w (As.set i B) :=
  h.step i hi fun F hF _ => ⟨F, hc F hF, fun _ hk => .inl hk, Grw.refl _ _⟩

/-- Something new. -/
theorem Mem.add (h : Mem w0 w As) (hg : Below w.heap.size w w') {G : Nat → Prop} (hA : A.P G w') (hG : ∀ k, G k → w.heap.size ≤ k ∧ k < w'.heap.size) : Mem w0 w' (A :: As) := by
  obtain ⟨F, hs, hF, hb⟩ := h.out
  refine ⟨_, hs.new (fun k hk => (hF k hk).2) hg.block (fun k hk => (hG k hk).1) hA, ?_, hb.trans (hg.mono hb.size)⟩
  intro k hk
  rcases hk with hk | hk
  · exact ⟨Nat.le_trans hb.size (hG k hk).1, (hG k hk).2⟩
  · exact ⟨(hF k hk).1, Nat.lt_of_lt_of_le (hF k hk).2 hg.size⟩

/-- Some are let go. -/
theorem Star.drop : ∀ {As : List HP} {F : Nat → Prop} {w : World} (i : Nat), Star As F w → ∃ G, Star (As.eraseIdx i) G w ∧ ∀ k, G k → F k
  | [], F, w, i, h => ⟨F, by simpa using h, fun _ h => h⟩
  | A :: As, F, w, 0, ⟨F1, F2, he, _, _, hs⟩ => ⟨F2, by simpa using hs, fun k hk => (he k).2 (.inr hk)⟩
  | A :: As, F, w, i + 1, ⟨F1, F2, he, hd, ha, hs⟩ => by
    obtain ⟨G, hg, hG⟩ := Star.drop i hs
    refine ⟨fun k => F1 k ∨ G k, ?_, fun k hk => (he k).2 (hk.imp id (hG k))⟩
    rw [List.eraseIdx_cons_succ]
    exact ⟨F1, G, fun _ => Iff.rfl, fun k h1 h2 => hd k h1 (hG k h2), ha, hg⟩
theorem Mem.drop (h : Mem w0 w As) (i : Nat) : Mem w0 w (As.eraseIdx i) := by
  obtain ⟨F, hs, hF, hb⟩ := h.out
  obtain ⟨G, hg, hG⟩ := Star.drop i hs
  exact ⟨G, hg, fun k hk => hF k (hG k hk), hb⟩

theorem Star.perm : ∀ {As Bs : List HP}, As.Perm Bs → ∀ {F : Nat → Prop} {w : World}, Star As F w → Star Bs F w := by
  intro As Bs hp
  induction hp with
  | nil => exact fun h => h
  | cons A _ ih => rintro F w ⟨F1, F2, he, hd, ha, hs⟩; exact ⟨F1, F2, he, hd, ha, ih hs⟩
  | swap A B As =>
    rintro F w ⟨F1, F2, he, hd, ha, F3, F4, he', hd', hb, hs⟩
    refine ⟨F3, fun k => F1 k ∨ F4 k, fun k => ?_, fun k h1 h2 => ?_, hb, F1, F4, fun _ => Iff.rfl, fun k h1 h2 => hd k h1 ((he' k).2 (.inr h2)), ha, hs⟩
    · rw [he k, he' k]
      exact ⟨fun h => h.elim (fun h => .inr (.inl h)) (fun h => h.elim .inl (fun h => .inr (.inr h))), fun h => h.elim (fun h => .inr (.inl h)) (fun h => h.elim .inl (fun h => .inr (.inr h)))⟩
    · rcases h2 with h2 | h2
      · exact hd k h2 ((he' k).2 (.inl h1))
      · exact hd' k h1 h2
  | trans _ _ ih1 ih2 => exact fun h => ih2 (ih1 h)
theorem Mem.perm (h : Mem w0 w As) (hp : As.Perm Bs) : Mem w0 w Bs := by
  obtain ⟨F, hs, hF, hb⟩ := h.out
  exact ⟨F, hs.perm hp, hF, hb⟩

theorem Mem.rot (h : Mem w0 w (A :: As)) : Mem w0 w (As ++ [A]) := h.perm (List.perm_append_comm (l₁ := [A]) (l₂ := As))

/-- One of them comes to the front. -/
theorem Mem.mv (h : Mem w0 w As) (i : Nat) (hi : As[i]? = some A) : Mem w0 w (A :: As.eraseIdx i) := by
  refine h.perm ?_
  clear h
  induction As generalizing i with
  | nil => simp at hi
  | cons B As ih =>
    cases i with
    | zero =>
      obtain rfl : B = A := by simpa using hi
      simp
    | succ i =>
      rw [List.eraseIdx_cons_succ]
      exact ((ih i (by simpa using hi)).cons B).trans (List.Perm.swap _ _ _)

/-- Two taken together as one. -/
def HP.and (A B : HP) : HP where
  P := fun F w => Star [A, B] F w
  mv := Star.mv
theorem Mem.join (h : Mem w0 w (A :: B :: As)) : Mem w0 w (A.and B :: As) := by
  obtain ⟨F, ⟨F1, F2, he, hd, ha, F3, F4, he', hd', hb', hs⟩, hF, hb⟩ := h.out
  refine ⟨F, ⟨fun k => F1 k ∨ F3 k, F4, fun k => by rw [he k, he' k, or_assoc], fun k h1 h2 => h1.elim (fun h1 => hd k h1 ((he' k).2 (.inr h2))) (fun h1 => hd' k h1 h2), ?_, hs⟩, hF, hb⟩
  exact ⟨F1, F3, fun _ => Iff.rfl, fun k h1 h2 => hd k h1 ((he' k).2 (.inl h2)), ha, F3, fun _ => False, fun k => by simp, fun _ _ h => h, hb', fun _ h => h⟩
theorem Mem.part (h : Mem w0 w (A.and B :: As)) : Mem w0 w (A :: B :: As) := by
  obtain ⟨F, ⟨F1, F2, he, hd, ⟨G1, G2, hg, hgd, ha, G3, G4, hg', hgd', hb', hn⟩, hs⟩, hF, hb⟩ := h.out
  have h24 : ∀ k, G2 k ↔ G3 k := fun k => by rw [hg' k]; exact ⟨fun h => h.resolve_right (hn k), .inl⟩
  refine ⟨F, ⟨G1, fun k => G3 k ∨ F2 k, fun k => by rw [he k, hg k, h24 k, or_assoc], fun k h1 h2 => h2.elim (fun h2 => hgd k h1 ((h24 k).2 h2)) (fun h2 => hd k ((hg k).2 (.inl h1)) h2), ha, G3, F2, fun _ => Iff.rfl, fun k h1 h2 => hd k ((hg k).2 (.inr ((h24 k).2 h1))) h2, hb', hs⟩, hF, hb⟩
end

/-! ### Lv1 -/

theorem add_at (g o j : Nat) : (⟨g, o, none⟩ : Addr).add j = ⟨g, o + j, none⟩ := by unfold Addr.add; split <;> simp_all

/-- Cells that are read: n elements of sz cells each from A on. -/
structure RdC (w : World) (A : Option Addr) (n sz : Nat) (cells : List Value) : Prop where
  len : cells.length = n * sz
  one : ∀ u ∈ cells, u.oneCell' = true
  at' : n ≠ 0 → ∃ b o, A = some ⟨b, o, none⟩ ∧ ∀ j u, cells[j]? = some u → w.cell? ⟨b, o + j, none⟩ = some u

theorem RdC.below {w w' : World} {A n sz cells} (h : RdC w A n sz cells) (hb : Below w.heap.size w w') : RdC w' A n sz cells :=
  ⟨h.len, h.one, fun hn => by
    obtain ⟨b, o, e, hc⟩ := h.at' hn
    exact ⟨b, o, e, fun j u hu => (hb.cell (World.block_lt_of_cell? w _ (hc j u hu))).trans (hc j u hu)⟩⟩
theorem RdC.nil (w : World) (A : Option Addr) (sz : Nat) : RdC w A 0 sz [] := ⟨by simp, (fun _ h => by cases h), fun h => absurd rfl h⟩

/-- A slice that owns its row: element type T, of sz cells each; what the n elements' cells hold. -/
def row (T : TypeId) (sz : Nat) (A : Option Addr) (n cap : Nat) (cells : List Value) : HP where
  P := fun F w => cells.length = n * sz ∧ n ≤ cap ∧ cap ≤ maxLen ∧ (∀ u ∈ cells, u.oneCell' = true) ∧
    ((cap = 0 ∧ ∀ k, ¬ F k) ∨ ∃ g o cur, A = some ⟨g, o, none⟩ ∧ (∀ k, F k ↔ k = g) ∧ w.heap[g]? = some (.cells cur T (0, 0)) ∧ o + cap * sz ≤ cur.size ∧ (cur.toList.drop o).take (n * sz) = cells)
  mv := by
    rintro F w w' ⟨h1, h2, h3, h5, h4⟩ hm
    refine ⟨h1, h2, h3, h5, h4.imp id ?_⟩
    rintro ⟨g, o, cur, hA, hF, hg, ho, hc⟩
    exact ⟨g, o, cur, hA, hF, (hm g ((hF g).2 rfl)).trans hg, ho, hc⟩

/-- A block of cells that is known whole. -/
def box (g : Nat) (T : TypeId) (c : Array Value) : HP where
  P := fun F w => (∀ k, F k ↔ k = g) ∧ w.heap[g]? = some (.cells c T (0, 0))
  mv := fun ⟨hF, hg⟩ hm => ⟨hF, (hm g ((hF g).2 rfl)).trans hg⟩

/-- What is read, and hangs on blocks of its own. -/
def foot (K : World → Prop) : HP where
  P := fun F w => ∀ w' : World, (∀ k, F k → w'.heap[k]? = w.heap[k]?) → K w'
  mv := fun h hm w' hm' => h w' fun k hk => (hm' k hk).trans (hm k hk)

section
variable {w0 w w' : World} {As : List HP} {T : TypeId} {sz n cap : Nat} {A : Option Addr} {cells : List Value}

theorem Mem.ft {K : World → Prop} (h : Mem w0 w As) (i : Nat) (hi : As[i]? = some (foot K)) : K w := by
  obtain ⟨G, hG, _⟩ := h.get i hi
  exact hG w fun _ _ => rfl

theorem take_get {α : Type} {l cells : List α} {o n : Nat} (h : (l.drop o).take n = cells) {j : Nat} {u : α} (hu : cells[j]? = some u) : l[o + j]? = some u := by
  subst h
  rw [List.getElem?_take] at hu
  split at hu
  · rwa [List.getElem?_drop] at hu
  · cases hu

/-- What a row holds is read. -/
theorem Mem.rd (h : Mem w0 w As) (i : Nat) (hi : As[i]? = some (row T sz A n cap cells)) (hs : 0 < sz) : RdC w A n sz cells ∧ n ≤ cap ∧ cap ≤ maxLen := by
  obtain ⟨G, ⟨h1, h2, h3, h5, h4⟩, hG⟩ := h.get i hi
  refine ⟨⟨h1, h5, fun hn => ?_⟩, h2, h3⟩
  rcases h4 with ⟨h4, _⟩ | ⟨g, o, cur, rfl, hF, hg, ho, hc⟩
  · omega
  · refine ⟨g, o, rfl, fun j u hu => ?_⟩
    rw [cell_of_row w g (o + j) cur T (0, 0) hg]
    have := take_get hc hu
    simpa using this

/-- .. and where its block is, if there is one. -/
theorem Mem.row_at (h : Mem w0 w As) (i : Nat) (hi : As[i]? = some (row T sz A n cap cells)) (hn : n ≠ 0) : ∃ g o, A = some ⟨g, o, none⟩ ∧ (∀ j u, cells[j]? = some u → w.cell? ⟨g, o + j, none⟩ = some u) ∧ (∀ j, w.frozen? ⟨g, j, none⟩ = false) ∧ w0.heap.size ≤ g ∧ g < w.heap.size := by
  obtain ⟨G, ⟨h1, h2, h3, h5, h4⟩, hG⟩ := h.get i hi
  rcases h4 with ⟨h4, _⟩ | ⟨g, o, cur, rfl, hF, hg, ho, hc⟩
  · omega
  · refine ⟨g, o, rfl, fun j u hu => ?_, fun j => ?_, hG g ((hF g).2 rfl)⟩
    · rw [cell_of_row w g (o + j) cur T (0, 0) hg]
      have := take_get hc hu
      simpa using this
    · simp only [World.frozen?, hg]
      simp

theorem Mem.nilrow (h : Mem w0 w As) (T : TypeId) (sz : Nat) : Mem w0 w (row T sz none 0 0 [] :: As) :=
  h.add (Below.refl _ _) (G := fun _ => False) ⟨by simp, Nat.le_refl _, Nat.zero_le _, (fun _ h => by cases h), .inl ⟨rfl, fun _ h => h⟩⟩ fun _ h => h.elim

/-- A new block. -/
theorem Mem.alloc (h : Mem w0 w As) (T : TypeId) (c : Array Value) : Mem w0 (w.alloc (.cells c T)) (box w.heap.size T c :: As) :=
  h.add ((Below.refl _ _).alloc (Nat.le_refl _) _) (G := fun k => k = w.heap.size) ⟨fun _ => Iff.rfl, heap_alloc_new w _⟩ (by rintro k rfl; simp)

theorem Mem.bx (h : Mem w0 w As) (i : Nat) {g : Nat} {c : Array Value} (hi : As[i]? = some (box g T c)) : w.heap[g]? = some (.cells c T (0, 0)) ∧ w0.heap.size ≤ g ∧ g < w.heap.size := by
  obtain ⟨G, ⟨hF, hg⟩, hG⟩ := h.get i hi
  exact ⟨hg, hG g ((hF g).2 rfl)⟩
theorem Mem.box_cell (h : Mem w0 w As) (i : Nat) {g : Nat} {c : Array Value} (hi : As[i]? = some (box g T c)) : (∀ j, w.cell? ⟨g, j, none⟩ = c[j]?) ∧ (∀ j, w.frozen? ⟨g, j, none⟩ = false) := by
  have hg := (h.bx i hi).1
  exact ⟨fun j => cell_of_row w g j c T (0, 0) hg, fun j => by simp only [World.frozen?, hg]; simp⟩

theorem Mem.ne (h : Mem w0 w As) (i j : Nat) (hij : i < j) {g g' : Nat} {T T' : TypeId} {c c' : Array Value} (hi : As[i]? = some (box g T c)) (hj : As[j]? = some (box g' T' c')) : g ≠ g' ∧ g' ≠ g := by
  obtain ⟨G, G', ⟨h1, _⟩, ⟨h2, _⟩, hd⟩ := h.two i j hij hi hj
  have : g ≠ g' := by rintro rfl; exact hd g ((h1 g).2 rfl) ((h2 g).2 rfl)
  exact ⟨this, this.symm⟩
theorem heap_setCell {w : World} {g o : Nat} {cur : Array Value} {T : TypeId} {fz : Nat × Nat} (hg : w.heap[g]? = some (.cells cur T fz)) (u : Value) : (w.setCell ⟨g, o, none⟩ u).heap[g]? = some (.cells (cur.setIfInBounds o u) T fz) := by
  have hlt : g < w.heap.size := (Array.getElem?_eq_some_iff.1 hg).1
  have hv : w.heap[g] = .cells cur T fz := (Array.getElem?_eq_some_iff.1 hg).2
  unfold World.setCell
  rw [Array.getElem?_eq_getElem (by simpa using hlt), Array.getElem_modify]
  simp [hv]

theorem Grw.setCell {S : Nat → Prop} {w : World} {g o : Nat} (u : Value) (hS : S g) : Grw S w (w.setCell ⟨g, o, none⟩ u) :=
  ⟨rfl, rfl, rfl, by simp, fun k hk hn => Below.heap_setCell _ _ _ _ (fun e => hn (by simp only at e; rw [e]; exact hS))⟩

/-- A store into a block that is known. -/
theorem Mem.box_set (h : Mem w0 w As) (i : Nat) {g : Nat} {c : Array Value} (hi : As[i]? = some (box g T c)) (j : Nat) (u : Value) : Mem w0 (w.setCell ⟨g, j, none⟩ u) (As.set i (box g T (c.setIfInBounds j u))) :=
  h.step i hi (by
    rintro F ⟨hF, hg⟩ hb
    exact ⟨F, ⟨hF, heap_setCell hg u⟩, fun k hk => .inl hk, Grw.setCell u ((hF g).2 rfl)⟩)

/-- A store into a row. -/
theorem Mem.row_set (h : Mem w0 w As) (i : Nat) {g o : Nat} (hi : As[i]? = some (row T sz (some ⟨g, o, none⟩) n cap cells)) (j : Nat) (hj : j < n * sz) (u : Value) (hu : u.oneCell' = true) :
    Mem w0 (w.setCell ⟨g, o + j, none⟩ u) (As.set i (row T sz (some ⟨g, o, none⟩) n cap (cells.set j u))) :=
  h.step i hi (by
    rintro F ⟨h1, h2, h3, h5, h4⟩ hb
    rcases h4 with ⟨h4, _⟩ | ⟨g', o', cur, hA, hF, hg, ho, hc⟩
    · have : n = 0 := by omega
      subst this
      simp at hj
    · obtain ⟨rfl, rfl⟩ : g = g' ∧ o = o' := by simpa using hA
      refine ⟨F, ⟨by simpa using h1, h2, h3, ?_, .inr ⟨g, o, _, rfl, hF, heap_setCell hg u, by simpa using ho, ?_⟩⟩, fun k hk => .inl hk, Grw.setCell u ((hF g).2 rfl)⟩
      · intro v hv
        rcases List.mem_or_eq_of_mem_set hv with hv | rfl
        · exact h5 v hv
        · exact hu
      · subst hc
        have hle : n * sz ≤ cap * sz := Nat.mul_le_mul_right _ h2
        apply List.ext_getElem?
        intro q
        simp only [Array.toList_setIfInBounds, List.getElem?_take, List.getElem?_drop, List.getElem?_set, List.length_take, List.length_drop, Array.length_toList]
        by_cases hq : q < n * sz
        · by_cases hjq : j = q
          · subst hjq
            rw [if_pos hq, if_pos rfl, if_pos rfl, if_pos (by omega), if_pos (by omega)]
          · rw [if_pos hq, if_neg (by omega), if_neg hjq, if_pos hq]
        · rw [if_neg hq]
          by_cases hjq : j = q
          · omega
          · rw [if_neg hjq, if_neg hq])

/-- A cut at the front: xs[:k]. -/
theorem Mem.row_take (h : Mem w0 w As) (i : Nat) (hi : As[i]? = some (row T sz A n cap cells)) {k : Nat} (hk : k ≤ n) : Mem w0 w (As.set i (row T sz A k cap (cells.take (k * sz)))) :=
  h.conv i hi (by
    rintro F ⟨h1, h2, h3, h5, h4⟩
    have hle : k * sz ≤ n * sz := Nat.mul_le_mul_right _ hk
    refine ⟨by rw [List.length_take]; omega, by omega, h3, fun u hu => h5 u (List.mem_of_mem_take hu), h4.imp id ?_⟩
    rintro ⟨g, o, cur, hA, hF, hg, ho, hc⟩
    refine ⟨g, o, cur, hA, hF, hg, ho, ?_⟩
    rw [← hc, List.take_take, Nat.min_eq_left hle])
/-- xs[:n:n]. -/
theorem Mem.row_clip (h : Mem w0 w As) (i : Nat) (hi : As[i]? = some (row T sz A n cap cells)) : Mem w0 w (As.set i (row T sz A n n cells)) :=
  h.conv i hi (by
    rintro F ⟨h1, h2, h3, h5, h4⟩
    rcases h4 with ⟨h4, h6⟩ | ⟨g, o, cur, hA, hF, hg, ho, hc⟩
    · exact ⟨h1, Nat.le_refl _, Nat.le_trans h2 h3, h5, .inl ⟨by omega, h6⟩⟩
    · exact ⟨h1, Nat.le_refl _, Nat.le_trans h2 h3, h5, .inr ⟨g, o, cur, hA, hF, hg, Nat.le_trans (Nat.add_le_add_left (Nat.mul_le_mul_right _ h2) _) ho, hc⟩⟩)
/-- A row that is a whole box. -/
theorem Mem.row_of_box (h : Mem w0 w As) (i : Nat) {g : Nat} {c : Array Value} (hi : As[i]? = some (box g T c)) {n : Nat} (hs : c.size = n * sz) (hm : n ≤ maxLen) (h1 : ∀ u ∈ c.toList, u.oneCell' = true) : Mem w0 w (As.set i (row T sz (some ⟨g, 0, none⟩) n n c.toList)) :=
  h.conv i hi (by
    rintro F ⟨hF, hg⟩
    refine ⟨by simpa using hs, Nat.le_refl _, hm, h1, .inr ⟨g, 0, c, rfl, hF, hg, by omega, ?_⟩⟩
    rw [List.drop_zero, List.take_of_length_le (by rw [Array.length_toList]; omega)])
end

/-! ### Lv2 -/

/-- What the table says of an element type. -/
structure Elt (P : Program) (t e : TypeId) (sz bytes : Nat) (z : Value) : Prop where
  und : P.underlying t = some (.slice e)
  inf : ∃ i, P.info? e = some i ∧ i.zero = some z ∧ i.size = sz ∧ i.bytes = bytes
  zs : z.cells.size = sz
  pos : 0 < sz
  z1 : ∀ u ∈ z.cells.toList, u.oneCell' = true

section
variable {P : Program} {w0 w : World} {As : List HP} {t e : TypeId} {sz bytes : Nat} {z : Value} {n cap : Nat} {A : Option Addr} {cells : List Value}

theorem run_append_zero (t ty e : TypeId) (i : TypeInfo) (ht : P.underlying t = some (.slice e)) (hi : P.info? e = some i) (A : Option Addr) (n cap : Nat) (hn : n ≤ cap) (B : Option Addr) (c : Nat) :
    (Builtin.append_ #[t, t] ty #[.slice A n cap, .slice B 0 c]).run P w = .ok (.slice A n cap) w := by
  cases A <;> cases B <;> simp [Builtin.append_, run_underlying ht, sizeOf, typeInfo, hi, Builtin.lenOf, hn, Builtin.firstCells, loadCells, loadCellsFrom, storeCells]

theorem run_append_at (t ty e : TypeId) (i : TypeInfo) (ht : P.underlying t = some (.slice e)) (hi : P.info? e = some i)
    (g o n cap : Nat) (cur : Array Value) (hg : w.heap[g]? = some (.cells cur e (0, 0)))
    (a : Addr) (m c : Nat) (news : List Value) (hl : news.length = m * i.size) (hnews : ∀ j u, news[j]? = some u → w.cell? (a.add j) = some u) (h1 : ∀ u ∈ news, u.oneCell' = true)
    (hroom : n + m ≤ cap) (hfit : o + n * i.size + news.length ≤ cur.size) :
    (Builtin.append_ #[t, t] ty #[.slice (some ⟨g, o, none⟩) n cap, .slice (some a) m c]).run P w =
      .ok (.slice (some ⟨g, o, none⟩) (n + m) cap) (w.setRow g (cur.toList.take (o + n * i.size) ++ news ++ cur.toList.drop (o + n * i.size + news.length)).toArray) := by
  have hf := run_firstCells_some (P := P) w i.size m a m c news hl hnews
  have hst := run_storeCells_at P g (o + n * i.size) e news 0 cur w hg (by simpa using hfit) h1
  simp only [Nat.add_zero] at hst
  simp [Builtin.append_, run_underlying ht, sizeOf, typeInfo, hi, Builtin.lenOf, hroom, hf, Addr.add_lit, hst]

theorem Grw.setRow {S : Nat → Prop} {w : World} {g : Nat} (c : Array Value) (hS : S g) : Grw S w (w.setRow g c) :=
  ⟨rfl, rfl, rfl, by simp [World.setRow], fun k hk hn => setRow_other w g k c (fun e => hn (by rw [e]; exact hS))⟩
theorem Grw.alloc {S : Nat → Prop} {w : World} (o : Obj) : Grw S w (w.alloc o) :=
  ⟨rfl, rfl, rfl, by simp, fun k hk hn => Below.heap_alloc w o k hk⟩
theorem Grw.drew {S : Nat → Prop} {w w' : World} (h : Grw S w w') : Grw S w w'.drew := ⟨h.os, h.tape, h.output, h.size, h.keep⟩
theorem Grw.from_drew {S : Nat → Prop} {w w' : World} (h : Grw S w.drew w') : Grw S w w' := ⟨h.os, h.tape, h.output, h.size, h.keep⟩

theorem mem_zeroCells {zs : Array Value} {n : Nat} (hz : ∀ u ∈ zs.toList, u.oneCell' = true) : ∀ u ∈ (Builtin.zeroCells zs n).toList, u.oneCell' = true := by
  intro u hu
  simp only [Builtin.zeroCells, Array.toList_map, List.mem_map] at hu
  obtain ⟨i, hi, rfl⟩ := hu
  have hi' : i < n * zs.size := by simpa using hi
  have hp : 0 < zs.size := by
    rcases Nat.eq_zero_or_pos zs.size with h | h
    · rw [h] at hi'; omega
    · exact h
  have hlt : i % zs.size < zs.size := Nat.mod_lt _ hp
  rw [getElem!_pos zs _ hlt]
  exact hz _ (by simp)

/-- append(s, x...). -/
theorem run_append_row (E : Elt P t e sz bytes z) (ty : TypeId) (H : Mem w0 w As) (i : Nat) (hi : As[i]? = some (row e sz A n cap cells))
    {B : Option Addr} {m c : Nat} {news : List Value} (R : RdC w B m sz news) (h63 : n + m ≤ maxLen) (hby : (n + m) * bytes ≤ 140737488355328) :
    ∃ A' cap' w', (Builtin.append_ #[t, t] ty #[.slice A n cap, .slice B m c]).run P w = .ok (.slice A' (n + m) cap') w' ∧
      Mem w0 w' (As.set i (row e sz A' (n + m) cap' (cells ++ news))) := by
  obtain ⟨I, hI, hz, rfl, rfl⟩ := E.inf
  have ht := E.und
  obtain ⟨-, hnc, hcm⟩ := H.rd i hi E.pos
  by_cases hm : m = 0
  · subst hm
    have hn0 : news = [] := List.eq_nil_of_length_eq_zero (by simpa using R.len)
    subst hn0
    refine ⟨A, cap, w, run_append_zero t ty e I ht hI A n cap hnc B c, ?_⟩
    exact H.conv i hi (by intro F h; simpa using h)
  · obtain ⟨ab, ao, rfl, hc0⟩ := R.at' hm
    obtain ⟨ad, had⟩ : ∃ ad : Addr, ad = ⟨ab, ao, none⟩ := ⟨_, rfl⟩
    have hc : ∀ j u, news[j]? = some u → w.cell? (ad.add j) = some u := fun j u hu => by rw [had, add_at]; exact hc0 j u hu
    rw [← had]
    have hsmall : n + m ≤ 9223372036854775807 := by simp only [maxLen] at h63; omega
    -- a new row
    have grown : ∀ old, cap < n + m → Step (row e I.size A n cap cells) w
        (row e I.size (some ⟨w.heap.size, 0, none⟩) (n + m) (grownCap w (n + m) old e) (cells ++ news))
        (w.drew.alloc (.cells (cells.toArray ++ news.toArray ++ Builtin.zeroCells z.cells (grownCap w (n + m) old e - (n + m))) e)) := by
      intro old hcap F ⟨h1, h2, h3, h5, h4⟩ hb
      have hge := grownCap_ge w (n + m) old e
      have hcm' : grownCap w (n + m) old e ≤ maxLen := grownCap_le_maxLen w (n + m) old e h63
      have hlen : (cells ++ news).length = (n + m) * I.size := by rw [List.length_append, h1, R.len, Nat.add_mul]
      refine ⟨fun k => k = w.heap.size, ⟨hlen, hge, hcm', ?_, .inr ⟨w.heap.size, 0, _, rfl, fun _ => Iff.rfl, heap_alloc_new w.drew _, ?_, ?_⟩⟩, ?_, (Grw.alloc _).from_drew⟩
      · intro u hu
        rcases List.mem_append.1 hu with hu | hu
        · exact h5 u hu
        · exact R.one u hu
      · simp only [Array.size_append, List.size_toArray, size_zeroCells, E.zs, h1, R.len, ← Nat.add_mul]
        rw [Nat.zero_add]
        exact Nat.mul_le_mul_right _ (by omega)
      · simp only [Array.toList_append, List.append_assoc, List.drop_zero]
        rw [← List.append_assoc, ← hlen]
        exact List.take_left
      · rintro k rfl
        right
        simp
    by_cases hroom : n + m ≤ cap
    · -- there is room
      obtain ⟨G, ⟨h1, h2, h3, h5, h4⟩, hG⟩ := H.get i hi
      rcases h4 with ⟨h4, _⟩ | ⟨g, o, cur, rfl, hF, hg, ho, hcc⟩
      · omega
      · have hle : (n + m) * I.size ≤ cap * I.size := Nat.mul_le_mul_right _ hroom
        have hfit : o + n * I.size + news.length ≤ cur.size := by rw [R.len]; rw [Nat.add_mul] at hle; omega
        refine ⟨_, _, _, run_append_at t ty e I ht hI g o n cap cur hg ad m c news R.len hc R.one hroom hfit, ?_⟩
        refine H.step i hi ?_
        rintro F ⟨k1, k2, k3, k5, k4⟩ hb
        rcases k4 with ⟨k4, _⟩ | ⟨g', o', cur', hA, hF', hg', ho', hcc'⟩
        · omega
        · obtain ⟨rfl, rfl⟩ : g = g' ∧ o = o' := by simpa using hA
          obtain rfl : cur = cur' := by rw [hg] at hg'; simpa using hg'
          refine ⟨F, ⟨by rw [List.length_append, h1, R.len, Nat.add_mul], hroom, h3, ?_, .inr ⟨g, o, _, rfl, hF', setRow_heap w g cur _ e _ hg, ?_, ?_⟩⟩, fun k hk => .inl hk, Grw.setRow _ ((hF' g).2 rfl)⟩
          · intro u hu
            rcases List.mem_append.1 hu with hu | hu
            · exact h5 u hu
            · exact R.one u hu
          · simp only [List.size_toArray, List.length_append, List.length_take, List.length_drop, Array.length_toList]
            omega
          · have hlen : (cells ++ news).length = (n + m) * I.size := by rw [List.length_append, h1, R.len, Nat.add_mul]
            have hol : o ≤ cur.toList.length := by rw [Array.length_toList]; omega
            have hsp : cur.toList.take (o + n * I.size) = cur.toList.take o ++ cells := by rw [← hcc, List.take_add]
            have htl : (cur.toList.take o).length = o := by rw [List.length_take]; omega
            rw [hsp]
            simp only [List.append_assoc]
            rw [List.drop_left' htl, ← List.append_assoc, ← hlen]
            exact List.take_left
    · -- none
      obtain ⟨G, ⟨h1, h2, h3, h5, h4⟩, hG⟩ := H.get i hi
      rcases h4 with ⟨h4, _⟩ | ⟨g, o, cur, rfl, hF, hg, ho, hcc⟩
      · have hn : n = 0 := by omega
        subst hn
        subst h4
        have hc0 : cells = [] := List.eq_nil_of_length_eq_zero (by simpa using h1)
        subst hc0
        cases A with
        | none =>
          have hr := run_append_nil (P := P) w t ty e I z ht hI hz ad m c news R.len hc (by omega) (by omega) (by have hb := hby; simp only [Nat.zero_add] at hb; omega)
          have hgr := grown 0 (by omega)
          simp only [Nat.zero_add, List.nil_append, Array.empty_append] at hgr ⊢
          exact ⟨_, _, _, hr, H.step i hi hgr⟩
        | some b =>
          have hr := run_append_grow (P := P) w t ty e I z ht hI hz b 0 0 [] (by simp) (fun j v h => by simp at h) ad m c news R.len hc (by omega) (by omega) (growslice_fits (by omega) hby)
          have hgr := grown 0 (by omega)
          simp only [Nat.zero_add, List.nil_append, Array.empty_append] at hr hgr ⊢
          exact ⟨_, _, _, hr, H.step i hi hgr⟩
      · obtain ⟨R0, _, _⟩ := H.rd i hi E.pos
        have holds : ∀ j u, cells[j]? = some u → w.cell? ((⟨g, o, none⟩ : Addr).add j) = some u := by
          intro j u hu
          rw [add_at, cell_of_row w g (o + j) cur e (0, 0) hg]
          have := take_get hcc hu
          simpa using this
        have hr := run_append_grow (P := P) w t ty e I z ht hI hz ⟨g, o, none⟩ n cap cells h1 holds ad m c news R.len hc (by omega) (by omega) (growslice_fits (by omega) hby)
        exact ⟨_, _, _, hr, H.step i hi (grown cap (by omega))⟩

theorem wpList_append_row {ops : Array Oper} {rest : List Oper} {o : Oper} {a : Act} {Q : Exit → Act → World → Prop} (hgd : o.guard = none) (s x : Operand)
    (ho : o.op = .call { callee := .builtin .append, args := #[s, x], argTypes := #[t, t] })
    (E : Elt P t e sz bytes z) (H : Mem w0 w As) (i : Nat) (hi : As[i]? = some (row e sz A n cap cells)) {B : Option Addr} {m c : Nat} {news : List Value}
    (hs : a.eval s = .slice A n cap) (hx : a.eval x = .slice B m c) (R : RdC w B m sz news) (h63 : n + m ≤ maxLen) (hby : (n + m) * bytes ≤ 140737488355328)
    (h : ∀ A' cap' w', Mem w0 w' (As.set i (row e sz A' (n + m) cap' (cells ++ news))) → wpList P ops Q rest (a.put o.dst (.slice A' (n + m) cap')) w') : wpList P ops Q (o :: rest) a w :=
  wpList_plain hgd fun _ hK => by
    obtain ⟨A', cap', w', hr, hM⟩ := run_append_row (P := P) E o.type H i hi (c := c) R h63 hby
    unfold Oper.wp execOp
    simp only [ho, resolve, invoke, builtin, Sem.run_bind, Sem.run_pure, Result.andThen_ok, List.map_toArray, List.map_cons, List.map_nil, hs, hx, hr]
    exact hK _ _ (h A' cap' w' hM)
end

/-! ### Lv3 -/

theorem made_one (z : Value) (hz : z.cells = #[z]) (n : Nat) : (madeCells z.cells n).toList = List.replicate n z := by
  rw [hz]
  apply List.ext_getElem?
  intro i
  simp only [madeCells, Array.toList_map, List.getElem?_map, List.getElem?_replicate, Array.toList_range]
  by_cases h : i < n
  · simp [h, Nat.mod_one]
  · simp [h]

section
variable {P : Program} {w0 w : World} {As : List HP} {t e : TypeId} {sz bytes : Nat} {z : Value} {n cap : Nat} {A : Option Addr} {cells : List Value}

theorem mem_madeCells {zs : Array Value} {n : Nat} (hz : ∀ u ∈ zs.toList, u.oneCell' = true) (hp : 0 < zs.size) : ∀ u ∈ (madeCells zs n).toList, u.oneCell' = true := by
  intro u hu
  simp only [madeCells, Array.toList_map, List.mem_map] at hu
  obtain ⟨i, hi, rfl⟩ := hu
  have hlt : i % zs.size < zs.size := Nat.mod_lt _ hp
  rw [getElem!_pos zs _ hlt]
  exact hz _ (by simp)

theorem wpList_make_row {ops : Array Oper} {rest : List Oper} {o : Oper} {a : Act} {Q : Exit → Act → World → Prop} (hgd : o.guard = none) (x y : Operand)
    (ho : o.op = .makeSlice t x y) (E : Elt P t e sz bytes z) (H : Mem w0 w As) (n : Nat) {k1 k2 : IntKind} (hx : a.eval x = .int k1 n) (hy : a.eval y = .int k2 n) (h63 : n ≤ maxLen) (hby : bytes * n ≤ 281474976710656)
    (h : ∀ g w', Mem w0 w' (row e sz (some ⟨g, 0, none⟩) n n (madeCells z.cells (n * sz)).toList :: As) → wpList P ops Q rest (a.put o.dst (.slice (some ⟨g, 0, none⟩) n n)) w') : wpList P ops Q (o :: rest) a w :=
  wpList_plain hgd fun _ hK => by
    obtain ⟨I, hI, hz, rfl, rfl⟩ := E.inf
    have hb' : (I.bytes : Int) * (n : Int) ≤ 281474976710656 := by
      have h : ((I.bytes * n : Nat) : Int) ≤ 281474976710656 := by omega
      rwa [Int.natCast_mul] at h
    have hr := run_make (P := P) w t e I z E.und hI hz k1 k2 n n (by omega) (Int.le_refl _) hb' (by unfold maxLen at h63; omega)
    simp only [Int.toNat_natCast] at hr
    have hM := H.alloc e (madeCells z.cells (n * I.size))
    have hM' := hM.row_of_box (sz := I.size) 0 rfl (size_madeCells _ _) h63 (mem_madeCells E.z1 (by rw [E.zs]; exact E.pos))
    unfold Oper.wp execOp
    simp only [ho, Sem.run_bind, Sem.run_pure, hx, hy, hr, Result.andThen_ok]
    exact hK _ _ (h _ _ hM')
end

/-! ### Lv4 -/

def splice (c : List Value) (o : Nat) (vs : List Value) : List Value := c.take o ++ vs ++ c.drop (o + vs.length)

/-- What the cells of a known block are, one by one. -/
def cellsAre (w : World) (g : Nat) : Nat → List Value → Prop
  | _, [] => True
  | j, v :: vs => (w.cell? ⟨g, j, none⟩ = some v ∧ w.frozen? ⟨g, j, none⟩ = false) ∧ cellsAre w g (j + 1) vs

/-- A value's cells as a list. -/
def vcells (v : Value) : List Value := v.cells.toList
theorem vcells_int (k : IntKind) (n : Int) : vcells (.int k n) = [.int k n] := rfl
theorem vcells_bool (b : Bool) : vcells (.bool b) = [.bool b] := rfl
theorem vcells_string (b : ByteArray) : vcells (.string b) = [.string b] := rfl
theorem vcells_pointer (b : Option Addr) : vcells (.pointer b) = [.pointer b] := rfl
theorem vcells_slice (b : Option Addr) (n c : Nat) : vcells (.slice b n c) = [.slice b n c] := rfl
theorem vcells_map (b : Option Nat) : vcells (.map b) = [.map b] := rfl
theorem vcells_func (f : Fn) (b c : Array Value) : vcells (.func f b c) = [.func f b c] := rfl
theorem vcells_nilFunc : vcells .nilFunc = [.nilFunc] := rfl
theorem vcells_iface (t : TypeId) (v : Value) : vcells (.iface t v) = [.iface t v] := rfl
theorem vcells_nilIface : vcells .nilIface = [.nilIface] := rfl
theorem vcells_agg (l : List Value) : vcells (.agg l.toArray) = l := rfl

section
variable {P : Program} {w0 w : World} {As : List HP} {T : TypeId}

theorem cellsAre_of {w : World} {g : Nat} {c : List Value} (h1 : ∀ j, w.cell? ⟨g, j, none⟩ = c[j]?) (h2 : ∀ j, w.frozen? ⟨g, j, none⟩ = false) : ∀ (l : List Value) (k : Nat), (∀ j, l[j]? = c[k + j]?) → cellsAre w g k l
  | [], _, _ => trivial
  | v :: vs, k, hl => ⟨⟨by rw [h1 k, ← Nat.add_zero k, ← hl 0]; rfl, h2 k⟩, cellsAre_of h1 h2 vs (k + 1) fun j => by
      have := hl (j + 1)
      rw [List.getElem?_cons_succ] at this
      rw [this, Nat.add_assoc, Nat.add_comm 1 j]⟩

theorem Mem.cells (h : Mem w0 w As) (i : Nat) {g : Nat} {c : List Value} (hi : As[i]? = some (box g T c.toArray)) : cellsAre w g 0 c := by
  obtain ⟨h1, h2⟩ := h.box_cell i hi
  exact cellsAre_of (by simpa using h1) h2 c 0 (by simp)

theorem run_storeVar_box {t : TypeId} {u : Value} (ht : (P.info? t).map (·.size) = some u.cells.size) (H : Mem w0 w As) (i : Nat) {g : Nat} {c : List Value} (hi : As[i]? = some (box g T c.toArray)) {j : Nat} (hj : j + u.cells.size ≤ c.length) (h1 : u.cells.toList.all Value.oneCell' = true) :
    ∃ w', (Instr.storeAt t (.pointer (some ⟨g, j, none⟩)) u).run P w = .ok () w' ∧ Mem w0 w' (As.set i (box g T (splice c j u.cells.toList).toArray)) := by
  have hg := (H.bx i hi).1
  have hst := run_storeCells_at P g j T u.cells.toList 0 c.toArray w hg (by simpa using hj) (fun v hv => List.all_eq_true.1 h1 v hv)
  simp only [Nat.add_zero] at hst
  cases hI : P.info? t with
  | none => rw [hI] at ht; cases ht
  | some I =>
    rw [hI] at ht
    have hsz : I.size = u.cells.size := by simpa using ht
    refine ⟨w.setRow g (splice c j u.cells.toList).toArray, ?_, ?_⟩
    · simp only [Instr.storeAt, Instr.sureAddr, storeVar, sizeOf, typeInfo]
      simp [hI, hsz, hst, splice]
    · refine H.step i hi ?_
      rintro F ⟨hF, hg'⟩ hb
      exact ⟨F, ⟨hF, setRow_heap w g _ _ _ _ hg'⟩, fun k hk => .inl hk, Grw.setRow _ ((hF g).2 rfl)⟩

theorem at_store {ops : Array Oper} {rest : List Oper} {a : Act} {Q : Exit → Act → World → Prop} {ty : TypeId} {ps : String} {af : Array Edge} {t : TypeId} {x y : Operand}
    (h : wpList P ops Q (⟨none, .store t x y, ty, ps, af, none⟩ :: rest) a w) : wpList P ops Q (⟨none, .store t x y, ty, ps, af, none⟩ :: rest) a w := h
theorem wpList_store_box {ops : Array Oper} {rest : List Oper} {a : Act} {Q : Exit → Act → World → Prop} {ty : TypeId} {ps : String} {af : Array Edge} {t : TypeId} {x y : Operand}
    (H : Mem w0 w As) (i k : Nat) {g j : Nat} {c : List Value} (hi : As[i]? = some (box g T c.toArray)) (hx : a.eval x = .pointer (some ⟨g, j, none⟩))
    (ht : (P.info? t).map (·.size) = some k) (hk : (a.eval y).cells.size = k) (hj : j + k ≤ c.length) (h1 : (a.eval y).cells.toList.all Value.oneCell' = true)
    (h : ∀ u w', a.eval y = u → Mem w0 w' (As.set i (box g T (splice c j (vcells u)).toArray)) → wpList P ops Q rest a w') : wpList P ops Q (⟨none, .store t x y, ty, ps, af, none⟩ :: rest) a w :=
  wpList_plain rfl fun _ hK => by
    subst hk
    obtain ⟨w', hr, hM⟩ := run_storeVar_box (P := P) ht H i hi hj h1
    unfold Oper.wp execOp
    simp only [Sem.run_bind, Sem.run_pure, hx, hr, Result.andThen_ok]
    exact hK _ _ (h _ _ rfl hM)
end

/-! ### typed rows -/
abbrev I (n : Int) : Value := .int .i64 n
abbrev U (n : Int) : Value := .int .u64 n
/-- A block's first address. -/
abbrev pt (g : Nat) : Value := .pointer (some ⟨g, 0, none⟩)

/-- How an element lies in cells. -/
structure Enc (α : Type) where
  sz : Nat
  enc : α → List Value
  len : ∀ x, (enc x).length = sz
  one : ∀ x, ∀ u ∈ enc x, u.oneCell' = true
def Enc.i64 : Enc Int := ⟨1, fun x => [.int .i64 x], fun _ => rfl, fun _ u h => by rw [List.mem_singleton.1 h]; rfl⟩
def Enc.u64 : Enc Int := ⟨1, fun x => [.int .u64 x], fun _ => rfl, fun _ u h => by rw [List.mem_singleton.1 h]; rfl⟩
def Enc.bool : Enc Bool := ⟨1, fun x => [.bool x], fun _ => rfl, fun _ u h => by rw [List.mem_singleton.1 h]; rfl⟩
def Enc.str : Enc ByteArray := ⟨1, fun x => [.string x], fun _ => rfl, fun _ u h => by rw [List.mem_singleton.1 h]; rfl⟩
/-- A slice's three words. -/
structure Hdr where
  A : Option Addr
  n : Nat
  c : Nat
def Hdr.val (h : Hdr) : Value := .slice h.A h.n h.c
def Enc.hdr : Enc Hdr := ⟨1, fun x => [.slice x.A x.n x.c], fun _ => rfl, fun _ u h => by rw [List.mem_singleton.1 h]; rfl⟩

section
variable {α : Type} (E : Enc α)
def Enc.all (xs : List α) : List Value := xs.flatMap E.enc
theorem Enc.all_len (xs : List α) : (E.all xs).length = xs.length * E.sz := by
  induction xs with
  | nil => simp [Enc.all]
  | cons x xs ih => simp only [Enc.all, List.flatMap_cons, List.length_append, E.len, List.length_cons, Nat.add_mul, Nat.one_mul] at ih ⊢; omega
theorem Enc.all_one (xs : List α) : ∀ u ∈ E.all xs, u.oneCell' = true := by
  intro u hu
  obtain ⟨x, _, hx⟩ := List.mem_flatMap.1 hu
  exact E.one x u hx
theorem Enc.all_append (xs ys : List α) : E.all (xs ++ ys) = E.all xs ++ E.all ys := by simp [Enc.all]
theorem Enc.all_one_el (x : α) : E.all [x] = E.enc x := by simp [Enc.all]
theorem Enc.all_get {xs : List α} {k : Nat} {x : α} (h : xs[k]? = some x) {j : Nat} {u : Value} (hu : (E.enc x)[j]? = some u) : (E.all xs)[k * E.sz + j]? = some u := by
  induction xs generalizing k with
  | nil => simp at h
  | cons y ys ih =>
    simp only [Enc.all, List.flatMap_cons] at ih ⊢
    cases k with
    | zero =>
      have : y = x := by simpa using h
      subst this
      have hj : j < (E.enc y).length := (List.getElem?_eq_some_iff.1 hu).1
      rw [Nat.zero_mul, Nat.zero_add, List.getElem?_append_left hj]
      exact hu
    | succ k =>
      have h' : ys[k]? = some x := by simpa using h
      rw [List.getElem?_append_right (by rw [E.len, Nat.add_mul]; omega), E.len]
      have := ih h'
      rw [show (k + 1) * E.sz + j - E.sz = k * E.sz + j from by rw [Nat.add_mul]; omega]
      exact this
theorem Enc.all_take (xs : List α) (k : Nat) : (E.all xs).take (k * E.sz) = E.all (xs.take k) := by
  induction xs generalizing k with
  | nil => simp [Enc.all]
  | cons x xs ih =>
    cases k with
    | zero => simp [Enc.all]
    | succ k =>
      have := ih k
      simp only [Enc.all, List.flatMap_cons, List.take_succ_cons] at this ⊢
      rw [Nat.add_mul, Nat.one_mul, Nat.add_comm, ← E.len x, List.take_length_add_append, E.len x, this]
theorem Enc.all_drop (xs : List α) (k : Nat) : (E.all xs).drop (k * E.sz) = E.all (xs.drop k) := by
  induction xs generalizing k with
  | nil => simp [Enc.all]
  | cons x xs ih =>
    cases k with
    | zero => simp [Enc.all]
    | succ k =>
      have := ih k
      simp only [Enc.all, List.flatMap_cons, List.drop_succ_cons] at this ⊢
      rw [Nat.add_mul, Nat.one_mul, Nat.add_comm, ← E.len x, List.drop_length_add_append, E.len x, this]
theorem Enc.all_set {xs : List α} {k : Nat} (hk : k < xs.length) (x : α) : splice (E.all xs) (k * E.sz) (E.enc x) = E.all (xs.set k x) := by
  unfold splice
  rw [E.all_take, E.len, show k * E.sz + E.sz = (k + 1) * E.sz from by rw [Nat.add_mul, Nat.one_mul], E.all_drop, ← E.all_one_el x, ← E.all_append, ← E.all_append]
  congr 1
  rw [List.set_eq_take_append_cons_drop, if_pos hk]
  simp

/-- A slice that is read. -/
def Rd (w : World) (A : Option Addr) (xs : List α) : Prop := RdC w A xs.length E.sz (E.all xs)
variable {E}
theorem Rd.below {w w' : World} {A : Option Addr} {xs : List α} (h : Rd E w A xs) (hb : Below w.heap.size w w') : Rd E w' A xs := RdC.below h hb
theorem Rd.get {w : World} {A : Option Addr} {xs : List α} (h : Rd E w A xs) {k : Nat} {x : α} (hk : xs[k]? = some x) : ∃ b o, A = some ⟨b, o, none⟩ ∧ ∀ j u, (E.enc x)[j]? = some u → w.cell? ⟨b, o + (k * E.sz + j), none⟩ = some u := by
  have hl : k < xs.length := (List.getElem?_eq_some_iff.1 hk).1
  obtain ⟨b, o, e, hc⟩ := h.at' (by omega)
  exact ⟨b, o, e, fun j u hu => hc _ _ (E.all_get hk hu)⟩
theorem Rd.get1 {w : World} {A : Option Addr} {xs : List α} (h : Rd E w A xs) (hs : E.sz = 1) {k : Nat} {x : α} (hk : xs[k]? = some x) {v : Value} (hv : E.enc x = [v]) : ∃ b o, A = some ⟨b, o, none⟩ ∧ w.cell? ⟨b, o + k, none⟩ = some v := by
  obtain ⟨b, o, e, hc⟩ := h.get hk
  refine ⟨b, o, e, ?_⟩
  have := hc 0 v (by rw [hv]; rfl)
  rwa [hs, Nat.mul_one, Nat.add_zero] at this
theorem Rd.get2 {w : World} {A : Option Addr} {xs : List α} (h : Rd E w A xs) (hs : E.sz = 2) {k : Nat} {x : α} (hk : xs[k]? = some x) {v u : Value} (hv : E.enc x = [v, u]) : ∃ b o, A = some ⟨b, o, none⟩ ∧ w.cell? ⟨b, o + k * 2, none⟩ = some v ∧ w.cell? ⟨b, o + k * 2 + 1, none⟩ = some u := by
  obtain ⟨b, o, e, hc⟩ := h.get hk
  refine ⟨b, o, e, ?_, ?_⟩
  · have := hc 0 v (by rw [hv]; rfl)
    rwa [hs, Nat.add_zero] at this
  · have := hc 1 u (by rw [hv]; rfl)
    rwa [hs, ← Nat.add_assoc] at this
variable (E) in
/-- A slice of the call's own. -/
def own (T : TypeId) (A : Option Addr) (cap : Nat) (xs : List α) : HP := row T E.sz A xs.length cap (E.all xs)
theorem Mem.own_rd {w0 w : World} {As : List HP} {T : TypeId} {A : Option Addr} {cap : Nat} {xs : List α} (h : Mem w0 w As) (i : Nat) (hi : As[i]? = some (own E T A cap xs)) (hs : 0 < E.sz) : Rd E w A xs ∧ xs.length ≤ cap ∧ cap ≤ maxLen := h.rd i hi hs
end

section
variable {P : Program} {w0 w : World} {As : List HP} {T : TypeId} {sz n cap : Nat} {cells : List Value}
theorem run_store_step {t : TypeId} {u : Value} (ht : (P.info? t).map (·.size) = some u.cells.size) {G : Nat → Prop} {g o : Nat} (hG : (row T sz (some ⟨g, o, none⟩) n cap cells).P G w) {j : Nat} (hj : j + u.cells.size ≤ n * sz) (hpos : 0 < u.cells.size) (h1 : u.cells.toList.all Value.oneCell' = true) :
    ∃ w', (Instr.storeAt t (.pointer (some ⟨g, o + j, none⟩)) u).run P w = .ok () w' ∧ Step (row T sz (some ⟨g, o, none⟩) n cap cells) w (row T sz (some ⟨g, o, none⟩) n cap (splice cells j (vcells u))) w' := by
  obtain ⟨k1, k2, k3, k5, k4⟩ := hG
  rcases k4 with ⟨k4, _⟩ | ⟨g', o', cur, hA, hF, hg, ho, hc⟩
  · exfalso
    have : n = 0 := by omega
    subst this
    omega
  · obtain ⟨rfl, rfl⟩ : g = g' ∧ o = o' := by simpa using hA
    have hle : n * sz ≤ cap * sz := Nat.mul_le_mul_right _ k2
    have hst := run_storeCells_at P g (o + j) T u.cells.toList 0 cur w hg (by simp; omega) (fun v hv => List.all_eq_true.1 h1 v hv)
    simp only [Nat.add_zero] at hst
    cases hI : P.info? t with
    | none => rw [hI] at ht; cases ht
    | some I =>
      rw [hI] at ht
      have hsz : I.size = u.cells.size := by simpa using ht
      refine ⟨w.setRow g (splice cur.toList (o + j) u.cells.toList).toArray, ?_, ?_⟩
      · simp only [Instr.storeAt, Instr.sureAddr, storeVar, sizeOf, typeInfo]
        simp [hI, hsz, hst, splice]
      · rintro F ⟨h1', h2, h3, h5, h4⟩ hb
        rcases h4 with ⟨h4, _⟩ | ⟨g', o', cur', hA', hF', hg', ho', hc'⟩
        · exfalso
          have : n = 0 := by omega
          subst this
          omega
        · obtain ⟨rfl, rfl⟩ : g = g' ∧ o = o' := by simpa using hA'
          obtain rfl : cur = cur' := by rw [hg] at hg'; simpa using hg'
          have hul : u.cells.toList.length = u.cells.size := by simp
          refine ⟨F, ⟨?_, h2, h3, ?_, .inr ⟨g, o, _, rfl, hF', setRow_heap w g _ _ _ _ hg, ?_, ?_⟩⟩, fun k hk => .inl hk, Grw.setRow _ ((hF' g).2 rfl)⟩
          · simp only [splice, vcells, List.length_append, List.length_take, List.length_drop, hul]; omega
          · intro v hv
            simp only [splice, List.mem_append] at hv
            rcases hv with (hv | hv) | hv
            · exact h5 v (List.mem_of_mem_take hv)
            · exact List.all_eq_true.1 h1 v hv
            · exact h5 v (List.mem_of_mem_drop hv)
          · simp only [splice, List.size_toArray, List.length_append, List.length_take, List.length_drop, Array.length_toList]; omega
          · subst hc
            apply List.ext_getElem?
            intro q
            simp only [splice, vcells, List.getElem?_take, List.getElem?_drop, List.getElem?_append, List.length_append, List.length_take, List.length_drop, Array.length_toList]
            by_cases hq : q < n * sz
            · rw [if_pos hq]
              by_cases h1 : q < j
              · rw [if_pos (by omega), if_pos (by omega), if_pos (by omega), if_pos (by omega), if_pos (by omega), if_pos (by omega), if_pos (by omega)]
              · by_cases h2 : q < j + u.cells.size
                · rw [if_pos (by omega), if_neg (by omega), if_pos (by omega), if_neg (by omega)]
                  congr 1
                  omega
                · rw [if_neg (by omega), if_neg (by omega), if_pos (by omega)]
                  congr 1
                  omega
            · rw [if_neg hq, if_neg (by omega), if_neg (by omega)]
theorem run_storeVar_row {t : TypeId} {u : Value} (ht : (P.info? t).map (·.size) = some u.cells.size) (H : Mem w0 w As) (i : Nat) {g o : Nat} (hi : As[i]? = some (row T sz (some ⟨g, o, none⟩) n cap cells)) {j : Nat} (hj : j + u.cells.size ≤ n * sz) (hpos : 0 < u.cells.size) (h1 : u.cells.toList.all Value.oneCell' = true) :
    ∃ w', (Instr.storeAt t (.pointer (some ⟨g, o + j, none⟩)) u).run P w = .ok () w' ∧ Mem w0 w' (As.set i (row T sz (some ⟨g, o, none⟩) n cap (splice cells j (vcells u)))) := by
  obtain ⟨G, hG, _⟩ := H.get i hi
  obtain ⟨w', hr, hst⟩ := run_store_step (P := P) ht hG hj hpos h1
  exact ⟨w', hr, H.step i hi hst⟩
theorem wpList_store_row {ops : Array Oper} {rest : List Oper} {a : Act} {Q : Exit → Act → World → Prop} {ty : TypeId} {ps : String} {af : Array Edge} {t : TypeId} {x y : Operand}
    (H : Mem w0 w As) (i k j : Nat) {g o p : Nat} (hi : As[i]? = some (row T sz (some ⟨g, o, none⟩) n cap cells)) (hx : a.eval x = .pointer (some ⟨g, p, none⟩)) (hp : p = o + j)
    (ht : (P.info? t).map (·.size) = some k) (hk : (a.eval y).cells.size = k) (hpos : 0 < k) (hj : j + k ≤ n * sz) (h1 : (a.eval y).cells.toList.all Value.oneCell' = true)
    (h : ∀ u w', a.eval y = u → Mem w0 w' (As.set i (row T sz (some ⟨g, o, none⟩) n cap (splice cells j (vcells u)))) → wpList P ops Q rest a w') : wpList P ops Q (⟨none, .store t x y, ty, ps, af, none⟩ :: rest) a w :=
  wpList_plain rfl fun _ hK => by
    subst hk
    subst hp
    obtain ⟨w', hr, hM⟩ := run_storeVar_row (P := P) ht H i hi hj hpos h1
    unfold Oper.wp execOp
    simp only [Sem.run_bind, Sem.run_pure, hx, hr, Result.andThen_ok]
    exact hK _ _ (h _ _ rfl hM)
end

theorem Mem.empty {w0 w : World} {As : List HP} (H : Mem w0 w As) (T sz : Nat) : Mem w0 (w.alloc (.cells #[] T)) (row T sz (some ⟨w.heap.size, 0, none⟩) 0 0 [] :: As) :=
  (H.alloc T #[]).row_of_box (sz := sz) (n := 0) 0 rfl (by simp) (Nat.zero_le _) (by simp)

theorem elt_of {P : Program} {t e : TypeId} {sz bytes : Nat} {z : Value} (h1 : P.underlying t = some (.slice e)) (h2 : (P.info? e).map (fun i => (i.zero, i.size, i.bytes)) = some (some z, sz, bytes)) (h3 : z.cells.size = sz) (h4 : 0 < sz) (h5 : z.cells.toList.all Value.oneCell' = true) : Elt P t e sz bytes z :=
  ⟨h1, by
    cases hi : P.info? e with
    | none => rw [hi] at h2; simp at h2
    | some i => rw [hi] at h2; simp only [Option.map_some, Option.some.injEq, Prod.mk.injEq] at h2; exact ⟨i, rfl, h2.1, h2.2.1, h2.2.2⟩, h3, h4, fun u hu => List.all_eq_true.1 h5 u hu⟩

/-! ### what makes memory -/
section
variable {P : Program} {w0 w : World} {As : List HP} {ops : Array Oper} {rest : List Oper} {a : Act} {Q : Exit → Act → World → Prop} {d : Option Tmp} {ty : TypeId} {ps : String} {af : Array Edge} {t e : TypeId} {x y : Operand}
theorem at_alloc (h : wpList P ops Q (⟨d, .alloc t, ty, ps, af, none⟩ :: rest) a w) : wpList P ops Q (⟨d, .alloc t, ty, ps, af, none⟩ :: rest) a w := h
theorem at_box (h : wpList P ops Q (⟨d, .box t x, ty, ps, af, none⟩ :: rest) a w) : wpList P ops Q (⟨d, .box t x, ty, ps, af, none⟩ :: rest) a w := h
theorem at_build1 {k : Nat} (h : wpList P ops Q (⟨d, .buildSlice t 1 #[(k, x)], ty, ps, af, none⟩ :: rest) a w) : wpList P ops Q (⟨d, .buildSlice t 1 #[(k, x)], ty, ps, af, none⟩ :: rest) a w := h
theorem at_build0 (h : wpList P ops Q (⟨d, .buildSlice t 0 #[], ty, ps, af, none⟩ :: rest) a w) : wpList P ops Q (⟨d, .buildSlice t 0 #[], ty, ps, af, none⟩ :: rest) a w := h
theorem at_append (h : wpList P ops Q (⟨d, .call { callee := .builtin .append, args := #[x, y], argTypes := #[t, t] }, ty, ps, af, none⟩ :: rest) a w) : wpList P ops Q (⟨d, .call { callee := .builtin .append, args := #[x, y], argTypes := #[t, t] }, ty, ps, af, none⟩ :: rest) a w := h
theorem at_mk (h : wpList P ops Q (⟨d, .makeSlice t x y, ty, ps, af, none⟩ :: rest) a w) : wpList P ops Q (⟨d, .makeSlice t x y, ty, ps, af, none⟩ :: rest) a w := h

theorem wpList_alloc_box (H : Mem w0 w As) (z : Value) (ht : (P.info? t).map (·.zero) = some (some z))
    (h : ∀ g w', Mem w0 w' (box g t (vcells z).toArray :: As) → wpList P ops Q rest (a.put d (pt g)) w') : wpList P ops Q (⟨d, .alloc t, ty, ps, af, none⟩ :: rest) a w :=
  wpList_plain rfl fun _ hK => by
    have hM := H.alloc t z.cells
    cases hI : P.info? t with
    | none => rw [hI] at ht; cases ht
    | some I =>
      rw [hI] at ht
      have hz : I.zero = some z := by simpa using ht
      unfold Oper.wp execOp
      simp only [Instr.alloc, zeroValue, typeInfo, newVar, newRow]
      simp [hI, hz]
      exact hK _ _ (h _ _ (by simpa [vcells] using hM))
theorem wpList_box_box (H : Mem w0 w As)
    (h : ∀ u g w', a.eval x = u → Mem w0 w' (box g t (vcells u).toArray :: As) → wpList P ops Q rest (a.put d (pt g)) w') : wpList P ops Q (⟨d, .box t x, ty, ps, af, none⟩ :: rest) a w :=
  wpList_plain rfl fun _ hK => by
    have hM := H.alloc t (a.eval x).cells
    unfold Oper.wp execOp
    simp only [Instr.box, newVar, newRow]
    simp
    exact hK _ _ (h _ _ _ rfl (by simpa [vcells] using hM))
theorem toArray_vcells (u : Value) : (vcells u).toArray = u.cells := by simp [vcells]
theorem fill_one (cells : Array Value) (u : Value) (h : u.cells.size = cells.size) : Instr.fill (fun i => some (i * cells.size, cells.size)) cells [(0, u)] = some u.cells := by
  have key : ∀ (n : Nat) (cs : Array Value), cs.size = u.cells.size → n ≤ u.cells.size → (∀ j, j < n → cs[j]? = u.cells[j]?) → 
      ∀ l : List (Value × Nat), l = (u.cells.toList.zipIdx).drop n → (l.foldl (fun cs (x : Value × Nat) => cs.setIfInBounds (0 + x.2) x.1) cs) = u.cells := by
    intro n cs hs hn hj l hl
    induction l generalizing n cs with
    | nil =>
      have hlen : (u.cells.toList.zipIdx).length ≤ n := by
        have := congrArg List.length hl
        simp only [List.length_nil, List.length_drop] at this
        omega
      simp at hlen
      apply Array.ext_getElem?
      intro j
      simp only [List.foldl_nil]
      by_cases h1 : j < n
      · exact hj j h1
      · rw [Array.getElem?_eq_none (by omega), Array.getElem?_eq_none (by omega)]
    | cons p l ih =>
      have hlt : n < u.cells.size := by
        rcases Nat.lt_or_ge n u.cells.size with h1 | h1
        · exact h1
        · rw [List.drop_eq_nil_of_le (by simpa using h1)] at hl; cases hl
      have hp : p = (u.cells[n], n) := by
        have : (p :: l)[0]? = ((u.cells.toList.zipIdx).drop n)[0]? := by rw [hl]
        simp [hlt] at this
        exact this
      have hl' : l = (u.cells.toList.zipIdx).drop (n + 1) := by
        have : (p :: l).tail = ((u.cells.toList.zipIdx).drop n).tail := by rw [hl]
        simpa [List.tail_drop] using this
      rw [List.foldl_cons]
      refine ih (n + 1) _ (by simpa using hs) (by omega) ?_ hl'
      intro j hj'
      rw [hp]
      simp only [Nat.zero_add, Array.getElem?_setIfInBounds]
      by_cases h1 : n = j
      · subst h1; simp [hs, hlt]
      · rw [if_neg h1]; exact hj j (by omega)
  have h2 := key 0 cells h.symm (Nat.zero_le _) (fun j hj => by omega) _ rfl
  simp only [List.drop_zero] at h2
  unfold Instr.fill Instr.fill
  simp only [h, Nat.zero_mul, Nat.zero_add, ne_eq, not_true_eq_false, gt_iff_lt, Nat.lt_irrefl, decide_false, Bool.or_self, Bool.false_eq_true, ite_false] at h2 ⊢
  have h3 : ∀ (zs : List (Value × Nat)) (cs : Array Value), Array.foldl (fun cs x => cs.setIfInBounds x.snd x.fst) cs zs.toArray 0 zs.toArray.size = List.foldl (fun cs x => cs.setIfInBounds x.snd x.fst) cs zs := fun zs cs => by simp
  have h4 : u.cells.zipIdx = (u.cells.toList.zipIdx).toArray := Array.ext' (by simp [Array.toList_zipIdx])
  have h5 : u.cells.size = (u.cells.toList.zipIdx).toArray.size := by simp
  simp
  rw [h4]
  conv => lhs; rw [h5]
  rw [h3, h2]
theorem wpList_build1 {sz bytes : Nat} {z : Value} (E : Elt P t e sz bytes z) (H : Mem w0 w As) (hk : (a.eval x).cells.size = sz) (h1 : (a.eval x).cells.toList.all Value.oneCell' = true) (hs : sz ≤ 1000)
    (h : ∀ u g w', a.eval x = u → Mem w0 w' (row e sz (some ⟨g, 0, none⟩) 1 1 (vcells u) :: As) → wpList P ops Q rest (a.put d (.slice (some ⟨g, 0, none⟩) 1 1)) w') : wpList P ops Q (⟨d, .buildSlice t 1 #[(0, x)], ty, ps, af, none⟩ :: rest) a w :=
  wpList_plain rfl fun _ hK => by
    obtain ⟨I, hI, hz, rfl, rfl⟩ := E.inf
    have hM := (H.alloc e (a.eval x).cells).row_of_box (sz := I.size) (n := 1) 0 rfl (by rw [hk]; omega) (by unfold maxLen; omega) (fun v hv => List.all_eq_true.1 h1 v hv)
    have hsz : ((Array.range (1 * I.size)).map (z.cells[· % z.cells.size]!)).size = I.size := by simp
    have hf := fill_one ((Array.range (1 * I.size)).map (z.cells[· % z.cells.size]!)) (a.eval x) (by rw [hsz, hk])
    rw [hsz] at hf
    have hpos := E.pos
    unfold Oper.wp execOp
    simp only [Instr.buildSlice, newRow, Sem.run_bind, run_underlying E.und, Result.andThen_ok, sizeOf, typeInfo, zeroValue]
    rw [Nat.one_mul] at hf
    have h24 : ¬ (16777216 < I.size) := by omega
    have hne : ¬ (I.size = 0) := by omega
    simp [hI, hz, hf, h24, hne]
    exact hK _ _ (h _ _ _ rfl (by simpa [vcells] using hM))
theorem wpList_build0 {sz bytes : Nat} {z : Value} (E : Elt P t e sz bytes z) (H : Mem w0 w As)
    (h : ∀ g w', Mem w0 w' (row e sz (some ⟨g, 0, none⟩) 0 0 [] :: As) → wpList P ops Q rest (a.put d (.slice (some ⟨g, 0, none⟩) 0 0)) w') : wpList P ops Q (⟨d, .buildSlice t 0 #[], ty, ps, af, none⟩ :: rest) a w :=
  wpList_plain rfl fun _ hK => by
    obtain ⟨I, hI, hz, rfl, rfl⟩ := E.inf
    have hM := H.empty e I.size
    unfold Oper.wp execOp
    simp only [Instr.buildSlice, newRow, Sem.run_bind, run_underlying E.und, Result.andThen_ok, sizeOf, typeInfo, zeroValue]
    simp [hI, hz, Instr.fill]
    refine hK _ _ (h _ _ ?_)
    have he : (Array.map (fun x => (default : Value)) (Array.range 0)) = #[] := by apply Array.ext_getElem?; intro i; simp
    first | exact hM | (rw [he]; exact hM)
end

theorem RdC.take {w : World} {A : Option Addr} {n sz : Nat} {cells : List Value} (h : RdC w A n sz cells) {k : Nat} (hk : k ≤ n) : RdC w A k sz (cells.take (k * sz)) := by
  have hle : k * sz ≤ n * sz := Nat.mul_le_mul_right _ hk
  refine ⟨by rw [List.length_take, h.len]; omega, fun u hu => h.one u (List.mem_of_mem_take hu), fun hn => ?_⟩
  obtain ⟨b, o, e, hc⟩ := h.at' (by omega)
  refine ⟨b, o, e, fun j u hu => hc j u ?_⟩
  rw [List.getElem?_take] at hu
  split at hu
  · exact hu
  · cases hu
/-- What is read with a mark behind it. -/
theorem Rd.of_marked {α : Type} {E : Enc α} {w : World} {A : Option Addr} {xs : List α} {mk : List Value} (h : RdC w A (xs.length + 1) E.sz (E.all xs ++ mk)) : Rd E w A xs := by
  have := h.take (k := xs.length) (by omega)
  rwa [← E.all_len, List.take_left] at this
theorem RdC.mark {α : Type} {E : Enc α} {w : World} {A : Option Addr} {xs : List α} {mk : List Value} (h : RdC w A (xs.length + 1) E.sz (E.all xs ++ mk)) : ∃ b o, A = some ⟨b, o, none⟩ ∧ ∀ j u, mk[j]? = some u → w.cell? ⟨b, o + xs.length * E.sz + j, none⟩ = some u := by
  obtain ⟨b, o, e, hc⟩ := h.at' (by omega)
  refine ⟨b, o, e, fun j u hu => ?_⟩
  rw [Nat.add_assoc]
  refine hc _ _ ?_
  rw [← E.all_len, List.getElem?_append_right (by omega)]
  simpa using hu

/-! ### rows of one-cell elements that begin at their block's head -/
section
variable {α : Type} {E : Enc α} {P : Program} {w0 w : World} {As : List HP} {T : TypeId} {g o cap : Nat} {xs : List α}
theorem Mem.own_get1 (h : Mem w0 w As) (i : Nat) (hi : As[i]? = some (own E T (some ⟨g, o, none⟩) cap xs)) (hs : E.sz = 1) {k : Nat} {x : α} (hk : xs[k]? = some x) {v : Value} (hv : E.enc x = [v]) : w.cell? ⟨g, o + k, none⟩ = some v ∧ w.frozen? ⟨g, o + k, none⟩ = false := by
  have hl : k < xs.length := (List.getElem?_eq_some_iff.1 hk).1
  obtain ⟨g', o', hA, hc, hf, _⟩ := h.row_at i hi (by omega)
  obtain ⟨rfl, rfl⟩ : g = g' ∧ o = o' := by simpa using hA
  refine ⟨hc k v ?_, hf _⟩
  have := E.all_get hk (j := 0) (u := v) (by rw [hv]; rfl)
  rwa [hs, Nat.mul_one, Nat.add_zero] at this
theorem Mem.own_get0 (h : Mem w0 w As) (i : Nat) (hi : As[i]? = some (own E T (some ⟨g, 0, none⟩) cap xs)) (hs : E.sz = 1) {k : Nat} {x : α} (hk : xs[k]? = some x) {v : Value} (hv : E.enc x = [v]) : w.cell? ⟨g, k, none⟩ = some v ∧ w.frozen? ⟨g, k, none⟩ = false := by
  have := h.own_get1 i hi hs hk hv
  rwa [Nat.zero_add] at this

variable {ops : Array Oper} {rest : List Oper} {a : Act} {Q : Exit → Act → World → Prop} {ty : TypeId} {ps : String} {af : Array Edge} {t e : TypeId} {x y : Operand} {d : Option Tmp} {sz bytes : Nat} {z : Value}
theorem wpList_store_own (H : Mem w0 w As) (i k : Nat) (x0 : α) {p : Nat} (hi : As[i]? = some (own E T (some ⟨g, o, none⟩) cap xs)) (hx : a.eval x = .pointer (some ⟨g, p, none⟩)) (hp : p = o + k) (hs : E.sz = 1) (hv : E.enc x0 = [a.eval y])
    (ht : (P.info? t).map (·.size) = some 1) (hk : k < xs.length)
    (h : ∀ w', Mem w0 w' (As.set i (own E T (some ⟨g, o, none⟩) cap (xs.set k x0))) → wpList P ops Q rest a w') : wpList P ops Q (⟨none, .store t x y, ty, ps, af, none⟩ :: rest) a w := by
  have h1 : (a.eval y).oneCell' = true := E.one x0 _ (by rw [hv]; simp)
  have hc : (a.eval y).cells = #[a.eval y] := by
    cases hh : a.eval y with
    | agg c => rw [hh] at h1; cases h1
    | _ => rfl
  refine wpList_store_row H i 1 k (sz := E.sz) hi hx hp ht (by rw [hc]; rfl) (by omega) (by rw [hs]; omega) (by rw [hc]; simp [h1]) ?_
  intro u w' hu hM
  refine h w' ?_
  have := E.all_set hk x0
  rw [hs, Nat.mul_one] at this
  have hu2 : vcells u = E.enc x0 := by rw [← hu, hv]; unfold vcells; rw [hc]
  rw [hu2, this] at hM
  unfold own
  rw [List.length_set]
  exact hM
theorem wpList_make_own (El : Elt P t e sz bytes z) (H : Mem w0 w As) (n : Nat) (d0 : α) {k1 k2 : IntKind} (hs : E.sz = sz) (hz : z.cells = #[z]) (hd : E.enc d0 = [z]) (hx : a.eval x = .int k1 n) (hy : a.eval y = .int k2 n) (h63 : n ≤ maxLen) (hby : bytes * n ≤ 281474976710656)
    (h : ∀ g w', Mem w0 w' (own E e (some ⟨g, 0, none⟩) n (List.replicate n d0) :: As) → wpList P ops Q rest (a.put d (.slice (some ⟨g, 0, none⟩) n n)) w') : wpList P ops Q (⟨d, .makeSlice t x y, ty, ps, af, none⟩ :: rest) a w :=
  wpList_make_row rfl _ _ rfl El H n hx hy h63 hby (fun g w' hM => h g w' (by
    have h1 : sz = 1 := by have := El.zs; rw [hz] at this; exact this.symm
    subst h1
    have : E.all (List.replicate n d0) = (madeCells z.cells (n * 1)).toList := by
      rw [Nat.mul_one, made_one z hz]
      unfold Enc.all
      rw [List.flatMap_replicate, hd]
      induction n with
      | zero => rfl
      | succ n ih => simp
    unfold own
    rw [this, List.length_replicate, hs]
    exact hM))
end

/-- A slice of slices that is read. -/
structure RdRows {α : Type} (E : Enc α) (w : World) (A : Option Addr) (rows : List (List α)) (hs : List Hdr) : Prop where
  len : hs.length = rows.length
  out : Rd Enc.hdr w A hs
  inn : ∀ (i : Nat) (h : Hdr) (r : List α), hs[i]? = some h → rows[i]? = some r → h.n = r.length ∧ r.length ≤ h.c ∧ Rd E w h.A r
theorem RdRows.below {α : Type} {E : Enc α} {w w' : World} {A : Option Addr} {rows : List (List α)} {hs : List Hdr} (h : RdRows E w A rows hs) (hb : Below w.heap.size w w') : RdRows E w' A rows hs :=
  ⟨h.len, h.out.below hb, fun i hd r h1 h2 => ⟨(h.inn i hd r h1 h2).1, (h.inn i hd r h1 h2).2.1, (h.inn i hd r h1 h2).2.2.below hb⟩⟩

/-! ### many of one kind as one: the rows of a slice of slices -/
def HP.stars (L : List HP) : HP := ⟨Star L, Star.mv⟩
/-- The inner rows of a slice of slices, each in memory of its own. -/
def rowsP {α : Type} (E : Enc α) (T : TypeId) (hs : List Hdr) (rows : List (List α)) : HP := HP.stars (List.zipWith (fun (h : Hdr) (r : List α) => own E T h.A h.c r) hs rows)
section
variable {α : Type} {E : Enc α} {P : Program} {w0 w w' : World} {As : List HP} {T : TypeId} {hs : List Hdr} {rows : List (List α)}
theorem Mem.rows_nil (h : Mem w0 w As) (E : Enc α) (T : TypeId) : Mem w0 w (rowsP E T [] [] :: As) :=
  h.add (Below.refl _ _) (G := fun _ => False) (fun _ h => h) fun _ h => h.elim
theorem Mem.rows_push {A : Option Addr} {c : Nat} {r : List α} (h : Mem w0 w (own E T A c r :: rowsP E T hs rows :: As)) (hl : hs.length = rows.length) : Mem w0 w (rowsP E T (hs ++ [⟨A, r.length, c⟩]) (rows ++ [r]) :: As) := by
  obtain ⟨F, ⟨F1, F2, he, hd, ha, F3, F4, he', hd', hb', hss⟩, hF, hb⟩ := h.out
  refine ⟨F, ⟨fun k => F3 k ∨ F1 k, F4, fun k => ?_, fun k h1 h2 => ?_, ?_, hss⟩, hF, hb⟩
  · rw [he k, he' k]
    exact ⟨fun h => h.elim (fun h => .inl (.inr h)) (fun h => h.elim (fun h => .inl (.inl h)) .inr), fun h => h.elim (fun h => h.elim (fun h => .inr (.inl h)) .inl) (fun h => .inr (.inr h))⟩
  · rcases h1 with h1 | h1
    · exact hd' k h1 h2
    · exact hd k h1 ((he' k).2 (.inr h2))
  · have hz : List.zipWith (fun (h : Hdr) (r : List α) => own E T h.A h.c r) (hs ++ [⟨A, r.length, c⟩]) (rows ++ [r]) = List.zipWith (fun (h : Hdr) (r : List α) => own E T h.A h.c r) hs rows ++ [own E T A c r] := by
      rw [List.zipWith_append hl]; rfl
    show Star _ _ _
    rw [hz]
    refine Star.append hb' ?_ fun k h1 h2 => hd k h2 ((he' k).2 (.inl h1))
    exact ⟨F1, fun _ => False, fun k => by simp, fun _ _ h => h, ha, fun _ h => h⟩
theorem rows_zip {k : Nat} {hd : Hdr} {r : List α} (hk : hs[k]? = some hd) (hr : rows[k]? = some r) : (List.zipWith (fun (h : Hdr) (r : List α) => own E T h.A h.c r) hs rows)[k]? = some (own E T hd.A hd.c r) := by
  rw [List.getElem?_zipWith, hk, hr]
/-- One of the inner rows is read. -/
theorem Mem.rows_get (h : Mem w0 w As) (i : Nat) (hi : As[i]? = some (rowsP E T hs rows)) (hs0 : 0 < E.sz) {k : Nat} {hd : Hdr} {r : List α} (hk : hs[k]? = some hd) (hr : rows[k]? = some r) : Rd E w hd.A r ∧ r.length ≤ hd.c ∧ hd.c ≤ maxLen := by
  obtain ⟨G, hG, hb⟩ := h.get i hi
  obtain ⟨G', hg, hsub⟩ := Star.get k (rows_zip (E := E) (T := T) hk hr) hG
  have : Mem w0 w [own E T hd.A hd.c r] := ⟨G', ⟨G', fun _ => False, fun k => by simp, fun _ _ h => h, hg, fun _ h => h⟩, fun k hk => hb k (hsub k hk), h.below⟩
  exact this.own_rd 0 rfl hs0
theorem Mem.rows_at (h : Mem w0 w As) (i : Nat) (hi : As[i]? = some (rowsP E T hs rows)) {k : Nat} {hd : Hdr} {r : List α} (hk : hs[k]? = some hd) (hr : rows[k]? = some r) (hn : r ≠ []) (hs1 : E.sz = 1) :
    ∃ g o, hd.A = some ⟨g, o, none⟩ ∧ w0.heap.size ≤ g ∧ g < w.heap.size ∧ ∀ j x v, r[j]? = some x → E.enc x = [v] → w.cell? ⟨g, o + j, none⟩ = some v ∧ w.frozen? ⟨g, o + j, none⟩ = false := by
  obtain ⟨G, hG, hb⟩ := h.get i hi
  obtain ⟨G', hg, hsub⟩ := Star.get k (rows_zip (E := E) (T := T) hk hr) hG
  have hM : Mem w0 w [own E T hd.A hd.c r] := ⟨G', ⟨G', fun _ => False, fun k => by simp, fun _ _ h => h, hg, fun _ h => h⟩, fun k hk => hb k (hsub k hk), h.below⟩
  obtain ⟨g, o, hA, _, _, h1, h2⟩ := hM.row_at 0 rfl (by simpa using hn)
  refine ⟨g, o, hA, h1, h2, fun j x v hj hv => ?_⟩
  rw [hA] at hM
  exact hM.own_get1 0 rfl hs1 hj hv
theorem zipWith_set {α β γ : Type} (f : α → β → γ) (l : List α) (m : List β) (k : Nat) (a : α) (b : β) : List.zipWith f (l.set k a) (m.set k b) = (List.zipWith f l m).set k (f a b) := by
  induction l generalizing m k with
  | nil => simp
  | cons x l ih =>
    cases m with
    | nil => cases k <;> simp
    | cons y m =>
      cases k with
      | zero => simp
      | succ k => simp [ih]
/-- One of the inner rows steps. -/
theorem Mem.rows_step (h : Mem w0 w As) (i : Nat) (hi : As[i]? = some (rowsP E T hs rows)) {k : Nat} {hd : Hdr} {r : List α} (hk : hs[k]? = some hd) (hr : rows[k]? = some r) {A' : Option Addr} {c' : Nat} {r' : List α} (hst : Step (own E T hd.A hd.c r) w (own E T A' c' r') w') (n' : Nat) :
    Mem w0 w' (As.set i (rowsP E T (hs.set k ⟨A', n', c'⟩) (rows.set k r'))) := by
  refine h.step i hi ?_
  intro F hF hb
  obtain ⟨F', h1, h2, h3⟩ := Star.step k (rows_zip (E := E) (T := T) hk hr) hF hb hst
  refine ⟨F', ?_, h2, h3⟩
  show Star _ _ _
  rw [zipWith_set (fun (h : Hdr) (r : List α) => own E T h.A h.c r)]
  exact h1
theorem hdr_set_self {hs : List Hdr} {k : Nat} {hd : Hdr} (hk : hs[k]? = some hd) : hs.set k hd = hs := by
  apply List.ext_getElem?
  intro j
  by_cases h : k = j
  · subst h; rw [List.getElem?_set_self (List.getElem?_eq_some_iff.1 hk).1, hk]
  · rw [List.getElem?_set_ne h]

variable {ops : Array Oper} {rest : List Oper} {a : Act} {Q : Exit → Act → World → Prop} {ty : TypeId} {ps : String} {af : Array Edge} {t e : TypeId} {x y : Operand} {d : Option Tmp}
/-- A store into an element of an inner row. -/
theorem wpList_store_rows (H : Mem w0 w As) (i k j : Nat) (x0 : α) {g o p n c : Nat} {r : List α} (hi : As[i]? = some (rowsP E T hs rows)) (hk : hs[k]? = some ⟨some ⟨g, o, none⟩, n, c⟩) (hr : rows[k]? = some r) (hx : a.eval x = .pointer (some ⟨g, p, none⟩)) (hp : p = o + j) (hs1 : E.sz = 1) (hv : E.enc x0 = [a.eval y])
    (ht : (P.info? t).map (·.size) = some 1) (hj : j < r.length)
    (h : ∀ w', Mem w0 w' (As.set i (rowsP E T hs (rows.set k (r.set j x0)))) → wpList P ops Q rest a w') : wpList P ops Q (⟨none, .store t x y, ty, ps, af, none⟩ :: rest) a w := by
  subst hp
  have h1 : (a.eval y).oneCell' = true := E.one x0 _ (by rw [hv]; simp)
  have hc : (a.eval y).cells = #[a.eval y] := by
    cases hh : a.eval y with
    | agg c => rw [hh] at h1; cases h1
    | _ => rfl
  refine wpList_plain rfl fun _ hK => ?_
  obtain ⟨G, hG, hb⟩ := H.get i hi
  obtain ⟨G', hg, _⟩ := Star.get k (rows_zip (E := E) (T := T) hk hr) hG
  obtain ⟨w', hrun, hst⟩ := run_store_step (P := P) (t := t) (u := a.eval y) (j := j) (by rw [hc]; exact ht) (T := T) (sz := E.sz) (n := r.length) (cap := c) (cells := E.all r) hg (by rw [hc, hs1]; simp; omega) (by rw [hc]; simp) (by rw [hc]; simp [h1])
  have hcell : splice (E.all r) j (vcells (a.eval y)) = E.all (r.set j x0) := by
    have := E.all_set hj x0
    rw [hs1, Nat.mul_one] at this
    rw [← this, hv]
    unfold vcells
    rw [hc]
  rw [hcell] at hst
  have hst' : Step (own E T (some ⟨g, o, none⟩) c r) w (own E T (some ⟨g, o, none⟩) c (r.set j x0)) w' := by
    unfold own
    rw [List.length_set]
    exact hst
  have hM := H.rows_step i hi hk hr hst' n
  rw [hdr_set_self hk] at hM
  unfold Oper.wp execOp
  simp only [Sem.run_bind, Sem.run_pure, hx, hrun, Result.andThen_ok]
  exact hK _ _ (h _ hM)
end
/-- The outer row and the inner ones, as what is read. -/
theorem Mem.rdRows {α : Type} {E : Enc α} {w0 w : World} {As : List HP} {T U : TypeId} {A : Option Addr} {c : Nat} {hs : List Hdr} {rows : List (List α)} (h : Mem w0 w As) (i j : Nat) (hi : As[i]? = some (own Enc.hdr U A c hs)) (hj : As[j]? = some (rowsP E T hs rows)) (hl : hs.length = rows.length) (hn : ∀ (k : Nat) (hd : Hdr) (r : List α), hs[k]? = some hd → rows[k]? = some r → hd.n = r.length) (hs0 : 0 < E.sz) : RdRows E w A rows hs :=
  ⟨hl, (h.own_rd i hi (by decide)).1, fun k hd r h1 h2 => ⟨hn k hd r h1 h2, (h.rows_get j hj hs0 h1 h2).2.1, (h.rows_get j hj hs0 h1 h2).1⟩⟩

section
variable {α : Type} {E : Enc α} {P : Program} {w0 w w' : World} {As : List HP} {T : TypeId} {hs : List Hdr} {rows : List (List α)} {A : Option Addr} {cap : Nat} {xs : List α}
theorem step_set_own {g o : Nat} (hs1 : E.sz = 1) {j : Nat} (hj : j < xs.length) (x0 : α) {v : Value} (hv : E.enc x0 = [v]) : Step (own E T (some ⟨g, o, none⟩) cap xs) w (own E T (some ⟨g, o, none⟩) cap (xs.set j x0)) (w.setCell ⟨g, o + j, none⟩ v) := by
  intro F hF hb
  have hM : Mem ⟨#[], w.tape, w.drawn, w.os, w.output⟩ w [own E T (some ⟨g, o, none⟩) cap xs] :=
    ⟨F, ⟨F, fun _ => False, fun k => by simp, fun _ _ h => h, hF, fun _ h => h⟩, fun k hk => ⟨Nat.zero_le _, hb k hk⟩, ⟨rfl, rfl, rfl, Nat.zero_le _, fun k hk => by simp at hk⟩⟩
  obtain ⟨h1, h2, h3, h5, h4⟩ := hF
  rcases h4 with ⟨h4, _⟩ | ⟨g', o', cur, hA, hF', hg, ho, hc⟩
  · omega
  · obtain ⟨rfl, rfl⟩ : g = g' ∧ o = o' := by simpa using hA
    have hcell : (E.all xs).set j v = E.all (xs.set j x0) := by
      have := E.all_set hj x0
      rw [hs1, Nat.mul_one, hv] at this
      rw [← this]
      unfold splice
      have hjl : j < (E.all xs).length := by rw [E.all_len, hs1]; omega
      rw [List.set_eq_take_append_cons_drop, if_pos hjl]
      simp
    refine ⟨F, ⟨by rw [E.all_len], by rw [List.length_set]; exact h2, h3, E.all_one _, .inr ⟨g, o, _, rfl, hF', heap_setCell hg v, by simpa using ho, ?_⟩⟩, fun k hk => .inl hk, Grw.setCell v ((hF' g).2 rfl)⟩
    rw [← hcell, ← hc, List.length_set]
    have hle : xs.length * E.sz ≤ cap * E.sz := Nat.mul_le_mul_right _ h2
    apply List.ext_getElem?
    intro q
    simp only [Array.toList_setIfInBounds, List.getElem?_take, List.getElem?_drop, List.getElem?_set, List.length_take, List.length_drop, Array.length_toList]
    rw [hs1, Nat.mul_one] at *
    by_cases hq : q < xs.length
    · by_cases hjq : j = q
      · subst hjq
        rw [if_pos hq, if_pos rfl, if_pos rfl, if_pos (by omega), if_pos (by omega)]
      · rw [if_pos hq, if_neg (by omega), if_neg hjq, if_pos hq]
    · rw [if_neg hq]
      by_cases hjq : j = q
      · omega
      · rw [if_neg hjq, if_neg hq]
theorem Mem.own_set (h : Mem w0 w As) (i : Nat) {g o : Nat} (hi : As[i]? = some (own E T (some ⟨g, o, none⟩) cap xs)) (hs1 : E.sz = 1) {j : Nat} (hj : j < xs.length) (x0 : α) {v : Value} (hv : E.enc x0 = [v]) : Mem w0 (w.setCell ⟨g, o + j, none⟩ v) (As.set i (own E T (some ⟨g, o, none⟩) cap (xs.set j x0))) :=
  h.step i hi (step_set_own hs1 hj x0 hv)
theorem Mem.rows_set (h : Mem w0 w As) (i : Nat) (hi : As[i]? = some (rowsP E T hs rows)) {k g o n c : Nat} {r : List α} (hk : hs[k]? = some ⟨some ⟨g, o, none⟩, n, c⟩) (hr : rows[k]? = some r) (hs1 : E.sz = 1) {j : Nat} (hj : j < r.length) (x0 : α) {v : Value} (hv : E.enc x0 = [v]) : Mem w0 (w.setCell ⟨g, o + j, none⟩ v) (As.set i (rowsP E T hs (rows.set k (r.set j x0)))) := by
  have := h.rows_step i hi hk hr (step_set_own hs1 hj x0 hv) n
  rwa [hdr_set_self hk] at this
variable {ops : Array Oper} {rest : List Oper} {a : Act} {Q : Exit → Act → World → Prop} {ty : TypeId} {ps : String} {af : Array Edge} {t e : TypeId} {x y : Operand} {d : Option Tmp} {sz bytes : Nat} {z : Value}
/-- append(s, x) of one element, told by its cells. -/
theorem wpList_append_own1 (El : Elt P t e sz bytes z) (H : Mem w0 w As) (i : Nat) (x0 : α) {B : Option Addr} {c : Nat} (hi : As[i]? = some (own E e A cap xs)) (hsz : E.sz = sz) (hs : a.eval x = .slice A xs.length cap) (hx : a.eval y = .slice B 1 c) (R : RdC w B 1 sz (E.enc x0)) (hb : xs.length ≤ 1000000000000) (hby : bytes ≤ 64)
    (h : ∀ A' cap' w', Mem w0 w' (As.set i (own E e A' cap' (xs ++ [x0]))) → wpList P ops Q rest (a.put d (.slice A' (xs.length + 1) cap')) w') : wpList P ops Q (⟨d, .call { callee := .builtin .append, args := #[x, y], argTypes := #[t, t] }, ty, ps, af, none⟩ :: rest) a w := by
  subst hsz
  have h64 : (xs.length + 1) * bytes ≤ 140737488355328 := Nat.le_trans (Nat.mul_le_mul_left _ hby) (by omega)
  refine wpList_append_row rfl _ _ rfl El H i hi hs hx R (by unfold maxLen; omega) h64 ?_
  intro A' c' w' hM
  refine h A' c' w' ?_
  unfold own
  rw [E.all_append, E.all_one_el, List.length_append]
  exact hM
end
end Go.Proofs.Ytogndpckiognjaa
