/- What a range over a function wants of the memory; the iterator over the edges. -/
import Derived.Test.YtjlikbaamefkiaaRound
import Derived.Test.YtjlikbaamefkiaaAll15
namespace Go.Proofs.Ytjlikbaamefkiaa
open Go.RowKit
set_option linter.unusedVariables false
set_option linter.unusedSimpArgs false
attribute [local go_sem] Oper.semAt_some

/-- What it hangs on are blocks of cells. -/
def HP.cellular (A : HP) : Prop := ∀ (F : Nat → Prop) (w : World), A.P F w → ∀ k, F k → ∃ c T z, w.heap[k]? = some (.cells c T z)
theorem box_cellular (g : Nat) (T : TypeId) (c : Array Value) : (box g T c).cellular := by
  rintro F w ⟨h1, h2⟩ k hk
  obtain rfl := (h1 k).1 hk
  exact ⟨_, _, _, h2⟩
theorem row_cellular (T : TypeId) (sz : Nat) (A : Option Addr) (n cap : Nat) (cells : List Value) : (row T sz A n cap cells).cellular := by
  rintro F w ⟨_, _, _, _, h⟩ k hk
  rcases h with ⟨_, h⟩ | ⟨g, o, cur, _, h1, h2, _⟩
  · exact absurd hk (h k)
  · obtain rfl := (h1 k).1 hk
    exact ⟨_, _, _, h2⟩
theorem own_cellular {α : Type} (E : Enc α) (T : TypeId) (A : Option Addr) (cap : Nat) (xs : List α) : (own E T A cap xs).cellular := row_cellular _ _ _ _ _ _
def AllC (As : List HP) : Prop := ∀ A ∈ As, A.cellular
theorem Star.cellular : ∀ {As : List HP} {F : Nat → Prop} {w : World}, AllC As → Star As F w → ∀ k, F k → ∃ c T z, w.heap[k]? = some (.cells c T z)
  | [], _, _, _, h, k, hk => absurd hk (h k)
  | A :: As, F, w, hC, ⟨F1, F2, he, _, ha, hs⟩, k, hk => by
    rcases (he k).1 hk with h | h
    · exact hC A (List.mem_cons_self ..) F1 w ha k h
    · exact Star.cellular (fun B hB => hC B (List.mem_cons_of_mem _ hB)) hs k h
theorem stars_cellular {L : List HP} (h : AllC L) : (HP.stars L).cellular := fun F w hP => Star.cellular h hP
theorem rowsP_cellular {α : Type} (E : Enc α) (T : TypeId) (hs : List Hdr) (rows : List (List α)) : (rowsP E T hs rows).cellular := by
  refine stars_cellular ?_
  intro A hA
  obtain ⟨i, hi⟩ := List.getElem?_of_mem hA
  rw [List.getElem?_zipWith_eq_some] at hi
  obtain ⟨h, r, _, _, rfl⟩ := hi
  exact own_cellular _ _ _ _ _

theorem Mem.grown {w0 W W' : World} {As : List HP} (H : Mem w0 W As) (hC : AllC As) {rw' : Option Nat} (hg : W.grownBy W' rw') (hr : ∀ r, rw' = some r → w0.heap.size ≤ r ∧ ∃ o : Obj, W.heap[r]? = some o ∧ o.isCells = false) : Mem w0 W' As := by
  obtain ⟨F, hs, hF, hb⟩ := H.out
  have hne : ∀ k, F k → some k ≠ rw' := by
    intro k hk e
    obtain ⟨_, o, ho, hn⟩ := hr k e.symm
    obtain ⟨c, T, z, hc⟩ := Star.cellular hC hs k hk
    rw [hc] at ho
    obtain rfl := Option.some.inj ho
    cases hn
  refine ⟨F, hs.mv fun k hk => hg.block k (hF k hk).2 (hne k hk), fun k hk => ⟨(hF k hk).1, Nat.lt_of_lt_of_le (hF k hk).2 hg.size⟩, ?_⟩
  refine ⟨hg.os.trans hb.os, hg.tape.trans hb.tape, hg.output.trans hb.output, Nat.le_trans hb.size hg.size, fun k hk => ?_⟩
  rw [hg.block k (Nat.lt_of_lt_of_le hk hb.size) fun e => by have := (hr k e.symm).1; omega]
  exact hb.block k hk

/-- What stays as it lies in W: these blocks. -/
def still (W : World) (G : Nat → Prop) : HP where
  P := fun F w => (∀ k, F k ↔ G k) ∧ ∀ k, G k → w.heap[k]? = W.heap[k]?
  mv := fun ⟨h1, h2⟩ hm => ⟨h1, fun k hk => (hm k ((h1 k).2 hk)).trans (h2 k hk)⟩

theorem Star.split : ∀ {Cs Fs : List HP} {F : Nat → Prop} {w : World}, Star (Cs ++ Fs) F w → ∃ F1 F2, (∀ k, F k ↔ F1 k ∨ F2 k) ∧ (∀ k, F1 k → F2 k → False) ∧ Star Cs F1 w ∧ Star Fs F2 w
  | [], Fs, F, w, h => ⟨fun _ => False, F, fun k => by simp, fun _ h => h.elim, fun _ h => h, h⟩
  | C :: Cs, Fs, F, w, ⟨G1, G2, he, hd, hc, hs⟩ => by
    obtain ⟨F1, F2, he', hd', h1, h2⟩ := Star.split hs
    refine ⟨fun k => G1 k ∨ F1 k, F2, fun k => ?_, fun k h3 h4 => ?_, ⟨G1, F1, fun _ => Iff.rfl, fun k h3 h4 => hd k h3 ((he' k).2 (.inl h4)), hc, h1⟩, h2⟩
    · rw [he k, he' k, or_assoc]
    · rcases h3 with h3 | h3
      · exact hd k h3 ((he' k).2 (.inr h4))
      · exact hd' k h3 h4

/-- .. and these bear one of these tags. -/
def HP.tagged (Ts : List TypeId) (A : HP) : Prop := ∀ (F : Nat → Prop) (w : World), A.P F w → ∀ k, F k → ∃ c T z, T ∈ Ts ∧ w.heap[k]? = some (.cells c T z)
theorem row_tagged {Ts : List TypeId} {T : TypeId} (h : T ∈ Ts) (sz : Nat) (A : Option Addr) (n cap : Nat) (cells : List Value) : (row T sz A n cap cells).tagged Ts := by
  rintro F w ⟨_, _, _, _, h⟩ k hk
  rcases h with ⟨_, h⟩ | ⟨g, o, cur, _, h1, h2, _⟩
  · exact absurd hk (h k)
  · obtain rfl := (h1 k).1 hk
    exact ⟨_, _, _, by assumption, h2⟩
theorem own_tagged {α : Type} {Ts : List TypeId} (E : Enc α) {T : TypeId} (h : T ∈ Ts) (A : Option Addr) (cap : Nat) (xs : List α) : (own E T A cap xs).tagged Ts := row_tagged h _ _ _ _ _
theorem box_tagged {Ts : List TypeId} {T : TypeId} (h : T ∈ Ts) (g : Nat) (c : Array Value) : (box g T c).tagged Ts := by
  rintro F w ⟨h1, h2⟩ k hk
  obtain rfl := (h1 k).1 hk
  exact ⟨_, _, _, h, h2⟩
def AllT (Ts : List TypeId) (As : List HP) : Prop := ∀ A ∈ As, A.tagged Ts
theorem Star.tagged {Ts : List TypeId} : ∀ {As : List HP} {F : Nat → Prop} {w : World}, AllT Ts As → Star As F w → ∀ k, F k → ∃ c T z, T ∈ Ts ∧ w.heap[k]? = some (.cells c T z)
  | [], _, _, _, h, k, hk => absurd hk (h k)
  | A :: As, F, w, hC, ⟨F1, F2, he, _, ha, hs⟩, k, hk => by
    rcases (he k).1 hk with h | h
    · exact hC A (List.mem_cons_self ..) F1 w ha k h
    · exact Star.tagged (fun B hB => hC B (List.mem_cons_of_mem _ hB)) hs k h
theorem rowsP_tagged {α : Type} {Ts : List TypeId} (E : Enc α) {T : TypeId} (h : T ∈ Ts) (hs : List Hdr) (rows : List (List α)) : (rowsP E T hs rows).tagged Ts := by
  intro F w hP
  refine Star.tagged (As := List.zipWith (fun (h : Hdr) (r : List α) => own E T h.A h.c r) hs rows) ?_ hP
  intro A hA
  obtain ⟨i, hi⟩ := List.getElem?_of_mem hA
  rw [List.getElem?_zipWith_eq_some] at hi
  obtain ⟨h', r, _, _, rfl⟩ := hi
  exact own_tagged E h _ _ _

/-- Some lie still, with all that bears none of the tags, while the others turn. -/
theorem Mem.freeze {w0 W : World} {Cs Fs : List HP} {Ts : List TypeId} (H : Mem w0 W (Cs ++ Fs)) (hC : AllT Ts Cs) : ∃ K : HP, Mem w0 W (Cs ++ [K]) ∧ ∀ (w' : World) (Cs' : List HP), Mem w0 w' (Cs' ++ [K]) →
    Mem w0 w' (Cs' ++ Fs) ∧ (∀ (k : Nat) (o : Obj), W.heap[k]? = some o → (∀ c T z, o = .cells c T z → T ∉ Ts) → w'.heap[k]? = some o) := by
  obtain ⟨F, hs, hF, hb⟩ := H.out
  obtain ⟨F1, F2, he, hd, h1, h2⟩ := hs.split
  refine ⟨still W (fun k => w0.heap.size ≤ k ∧ k < W.heap.size ∧ ¬ F1 k), ?_, ?_⟩
  · refine ⟨_, Star.append h1 (Bs := [still W _]) ⟨_, fun _ => False, fun k => (or_false _).symm.to_iff, fun _ _ h => h, ⟨fun _ => Iff.rfl, fun _ _ => rfl⟩, fun _ h => h⟩ ?_, ?_, hb⟩
    · rintro k h3 ⟨_, _, h4⟩
      exact h4 h3
    · rintro k (h3 | ⟨h3, h4, _⟩)
      · exact hF k ((he k).2 (.inl h3))
      · exact ⟨h3, h4⟩
  · intro w' Cs' H'
    obtain ⟨F', hs', hF', hb'⟩ := H'.out
    obtain ⟨E1, E2, he', hd', g1, G2, G3, he2, hd2, ⟨g2, g3⟩, hn⟩ := hs'.split
    have hE2 : ∀ k, E2 k ↔ (w0.heap.size ≤ k ∧ k < W.heap.size ∧ ¬ F1 k) := fun k => by rw [he2 k, g2 k]; exact ⟨fun h => h.resolve_right (hn k), .inl⟩
    have hin : ∀ k, F2 k → w0.heap.size ≤ k ∧ k < W.heap.size ∧ ¬ F1 k := fun k hk => by
      have := hF k ((he k).2 (.inr hk))
      exact ⟨this.1, this.2, fun h => hd k h hk⟩
    refine ⟨⟨_, Star.append g1 (h2.mv fun k hk => g3 k (hin k hk)) ?_, ?_, hb'⟩, ?_⟩
    · intro k h3 h4
      exact hd' k h3 ((hE2 k).2 (hin k h4))
    · intro k h3
      exact hF' k ((he' k).2 (h3.imp id fun h => (hE2 k).2 (hin k h)))
    · intro k o ho hn
      rcases Nat.lt_or_ge k w0.heap.size with h3 | h3
      · rw [hb'.block k h3, ← hb.block k h3]; exact ho
      · rw [g3 k ⟨h3, (Array.getElem?_eq_some_iff.1 ho).1, fun h4 => ?_⟩]
        · exact ho
        · obtain ⟨c, T, z, hT, hc⟩ := Star.tagged hC h1 k h4
          rw [hc] at ho
          exact hn c T z (Option.some.inj ho).symm hT

section
variable {P : Program} {w0 w : World} {As : List HP} {ops : Array Oper} {rest : List Oper} {a : Act} {Q : Exit → Act → World → Prop} {d : Option Tmp} {ty : TypeId} {ps : String} {af : Array Edge} {t e : TypeId} {x y : Operand}
/-- A literal of one, and where it lies. -/
theorem wpList_build1g {sz bytes : Nat} {z : Value} (E : Elt P t e sz bytes z) (H : Mem w0 w As) (hk : (a.eval x).cells.size = sz) (h1 : (a.eval x).cells.toList.all Value.oneCell' = true) (hs : sz ≤ 1000)
    (h : ∀ u w', a.eval x = u → Mem w0 w' (row e sz (some ⟨w.heap.size, 0, none⟩) 1 1 (vcells u) :: As) → wpList P ops Q rest (a.put d (.slice (some ⟨w.heap.size, 0, none⟩) 1 1)) w') : wpList P ops Q (⟨d, .buildSlice t 1 #[(0, x)], ty, ps, af, none⟩ :: rest) a w :=
  wpList_plain rfl fun _ hK => by
    obtain ⟨I, hI, hz, rfl, rfl⟩ := E.inf
    have hM := (H.alloc e (a.eval x).cells).row_of_box (sz := I.size) (n := 1) 0 rfl (by rw [hk]; omega) (by unfold maxLen; omega) (fun v hv => List.all_eq_true.1 h1 v hv)
    have hsz : ((Array.range (1 * I.size)).map (z.cells[· % z.cells.size]!)).size = I.size := by simp
    have hf := fill_one ((Array.range (1 * I.size)).map (z.cells[· % z.cells.size]!)) (a.eval x) (by rw [hsz, hk])
    rw [hsz] at hf
    have hpos := E.pos
    unfold Oper.wp execOp
    simp only [Instr.buildSlice, newRow, Sem.run_bind, run_underlying E.und, Result.andThen_ok, sizeOf, typeInfo, zeroValue]
    rw [Nat.one_mul] at hf
    have h24 : ¬ (16777216 < I.size) := by omega
    have hne : ¬ (I.size = 0) := by omega
    simp [hI, hz, hf, h24, hne]
    exact hK _ _ (h _ _ rfl (by simpa [vcells] using hM))
end

/-- What bears one of these tags stays. -/
def keepT (Ts : List TypeId) (W W' : World) : Prop := ∀ (k : Nat) (c : Array Value) (T : TypeId) (z : Nat × Nat), T ∈ Ts → W.heap[k]? = some (.cells c T z) → W'.heap[k]? = some (.cells c T z)
theorem keepT.refl (Ts : List TypeId) (W : World) : keepT Ts W W := fun _ _ _ _ _ h => h
theorem keepT.trans {Ts : List TypeId} {A B C : World} (h : keepT Ts A B) (h' : keepT Ts B C) : keepT Ts A C := fun k c T z hT hk => h' k c T z hT (h k c T z hT hk)
theorem keepT_b {Ts : List TypeId} {w : World} (W : World) (l : Nat) (o o' : Obj) (_ : w.heap.size ≤ l) (h : W.heap[l]? = some o) (hc : o.isCells = false) (_ : o.isWalk = false) : keepT Ts W (W.putObj l o') := by
  intro k c T z hT hk
  by_cases e : k = l
  · subst e
    rw [h] at hk
    obtain rfl := Option.some.inj hk
    cases hc
  · rw [World.putObj_heap_other e]; exact hk
theorem keepT.below {Ts : List TypeId} {W W' : World} (h : Below W.heap.size W W') : keepT Ts W W' := fun k c T z _ hk => by
  rw [h.block k (Array.getElem?_eq_some_iff.1 hk).1]; exact hk
end Go.Proofs.Ytjlikbaamefkiaa
