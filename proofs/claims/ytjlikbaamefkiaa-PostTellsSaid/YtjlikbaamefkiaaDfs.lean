/- The order of the nodes: plain. A search by depth from the exit along edges backward. -/
import Derived.Test.YtjlikbaamefkiaaDom
namespace Go.Proofs.Ytjlikbaamefkiaa
set_option linter.unusedVariables false

def wt (bk : Nat → List Nat) (l : List Nat) : Nat := (l.map fun x => (bk x).length + 1).sum
theorem wt_append (bk : Nat → List Nat) (l m : List Nat) : wt bk (l ++ m) = wt bk l + wt bk m := by simp [wt]
theorem wt_erase {bk : Nat → List Nat} {l : List Nat} {x : Nat} (h : x ∈ l) : wt bk l = (bk x).length + 1 + wt bk (l.erase x) := by
  induction l with
  | nil => cases h
  | cons y l ih =>
    by_cases e : y = x
    · subst e; simp [wt]
    · have hm : x ∈ l := (List.mem_cons.1 h).resolve_left (Ne.symm e)
      rw [List.erase_cons_tail (by simpa using e)]
      have := ih hm
      simp only [wt, List.map_cons, List.sum_cons] at this ⊢
      omega
theorem wt_le {bk : Nat → List Nat} {l m : List Nat} (hn : l.Nodup) (hs : ∀ x ∈ l, x ∈ m) : wt bk l ≤ wt bk m := by
  induction l generalizing m with
  | nil => simp [wt]
  | cons x l ih =>
    have hx := hs x (List.mem_cons_self ..)
    rw [List.nodup_cons] at hn
    rw [wt_erase hx]
    have := ih (m := m.erase x) hn.2 fun y hy => (List.mem_erase_of_ne (fun e => hn.1 (by rw [← e]; exact hy))).2 (hs y (List.mem_cons_of_mem _ hy))
    simp only [wt, List.map_cons, List.sum_cons] at this ⊢
    omega

/-- What the search keeps: what is done, what is being done (the deepest last), what was seen. -/
structure DF (bk : Nat → List Nat) (N : Nat) (o : List Nat) (st : List (Nat × Nat)) (sn : List Bool) : Prop where
  len : sn.length = N + 1
  nod : (o ++ st.map (·.1)).Nodup
  seen : ∀ (x : Nat), sn[x]? = some true ↔ x ∈ o ∨ x ∈ st.map (·.1)
  done : ∀ x ∈ o, ∀ a ∈ bk x, a ∈ o ∨ a ∈ st.map (·.1)
  prog : ∀ x i, (x, i) ∈ st → i ≤ (bk x).length ∧ ∀ k a, k < i → (bk x)[k]? = some a → a ∈ o ∨ a ∈ st.map (·.1)
  chain : ∀ (j y : Nat), (st.map (·.1))[j + 1]? = some y → ∃ x, (st.map (·.1))[j]? = some x ∧ y ∈ bk x
  bot : (∀ (x : Nat), (st.map (·.1))[0]? = some x → x = N) ∧ (st = [] → ∃ o', o = o' ++ [N])
  par : ∀ (k x : Nat), o[k]? = some x → x = N ∨ ∃ b, x ∈ bk b ∧ (b ∈ st.map (·.1) ∨ ∃ k', k < k' ∧ o[k']? = some b)

variable {bk : Nat → List Nat} {N : Nat} {o : List Nat} {st : List (Nat × Nat)} {sn : List Bool}

theorem DF.le (h : DF bk N o st sn) {x : Nat} (hx : x ∈ o ∨ x ∈ st.map (·.1)) : x ≤ N := by
  have := (h.seen x).2 hx
  have := (List.getElem?_eq_some_iff.1 this).1
  have := h.len
  omega
theorem DF.init (bk : Nat → List Nat) (N : Nat) : DF bk N [] [(N, 0)] ((List.replicate (N + 1) false).set N true) where
  len := by simp
  nod := by simp
  seen := by
    intro x
    simp only [List.not_mem_nil, false_or, List.map_cons, List.map_nil, List.mem_singleton]
    by_cases e : N = x
    · subst e; rw [List.getElem?_set_self (by simp)]; simp
    · rw [List.getElem?_set_ne e, List.getElem?_replicate]
      constructor
      · intro h; split at h <;> cases h
      · intro h; exact absurd h.symm e
  done := by intro x h; cases h
  prog := by
    intro x i h
    obtain ⟨rfl, rfl⟩ : x = N ∧ i = 0 := by simpa using h
    exact ⟨Nat.zero_le _, fun k a hk => by omega⟩
  chain := by intro j y h; simp at h
  bot := ⟨by intro x h; simp at h; exact h.symm, by intro h; cases h⟩
  par := by intro k x h; simp at h

/-- How much has been done. -/
def used (bk : Nat → List Nat) (o : List Nat) (st : List (Nat × Nat)) : Nat := wt bk o + (st.map (·.2)).sum

theorem DF.used_lt (h : DF bk N o st sn) (hne : st ≠ []) : used bk o st < wt bk (List.range (N + 1)) := by
  have h1 : wt bk (o ++ st.map (·.1)) ≤ wt bk (List.range (N + 1)) := wt_le h.nod fun x hx => by
    have := h.le (List.mem_append.1 hx)
    simp
    omega
  have h2 : (st.map (·.2)).sum < wt bk (st.map (·.1)) := by
    have hp := h.prog
    clear h h1
    induction st with
    | nil => exact absurd rfl hne
    | cons p st ih =>
      have h3 := (hp p.1 p.2 (List.mem_cons_self ..)).1
      have hp' : ∀ x i, (x, i) ∈ st → i ≤ (bk x).length := fun x i hx => (hp x i (List.mem_cons_of_mem _ hx)).1
      have h4 : (st.map (·.2)).sum ≤ wt bk (st.map (·.1)) := by
        clear ih hp hne
        induction st with
        | nil => simp [wt]
        | cons q st ih =>
          have := hp' q.1 q.2 (List.mem_cons_self ..)
          have := ih fun x i hx => hp' x i (List.mem_cons_of_mem _ hx)
          simp only [wt, List.map_cons, List.sum_cons] at this ⊢
          omega
      simp only [wt, List.map_cons, List.sum_cons] at h4 ⊢
      omega
  rw [wt_append] at h1
  unfold used
  omega

/-- The deepest one is done. -/
theorem DF.pop {x i : Nat} (h : DF bk N o (st ++ [(x, i)]) sn) (hi : i = (bk x).length) : DF bk N (o ++ [x]) st sn where
  len := h.len
  nod := by
    have := h.nod
    simp only [List.map_append, List.map_cons, List.map_nil] at this
    have hp : ((o ++ [x]) ++ st.map (·.1)).Perm (o ++ (st.map (·.1) ++ [x])) := by
      rw [List.append_assoc]
      exact List.Perm.append_left o List.perm_append_comm
    exact hp.nodup_iff.2 this
  seen := by
    intro y
    rw [h.seen y]
    simp only [List.map_append, List.map_cons, List.map_nil, List.mem_append, List.mem_singleton]
    exact ⟨fun h => h.elim (fun h => .inl (.inl h)) (fun h => h.elim .inr (fun h => .inl (.inr h))), fun h => h.elim (fun h => h.elim .inl (fun h => .inr (.inr h))) (fun h => .inr (.inl h))⟩
  done := by
    intro y hy a ha
    have hmv : ∀ a, (a ∈ o ∨ a ∈ (st ++ [(x, i)]).map (·.1)) → a ∈ o ++ [x] ∨ a ∈ st.map (·.1) := by
      intro a h
      simp only [List.map_append, List.map_cons, List.map_nil, List.mem_append, List.mem_singleton] at h ⊢
      exact h.elim (fun h => .inl (.inl h)) (fun h => h.elim .inr (fun h => .inl (.inr h)))
    rcases List.mem_append.1 hy with hy | hy
    · exact hmv a (h.done y hy a ha)
    · obtain rfl := List.mem_singleton.1 hy
      obtain ⟨k, hk⟩ := List.getElem?_of_mem ha
      exact hmv a ((h.prog y i (by simp)).2 k a (by have := (List.getElem?_eq_some_iff.1 hk).1; omega) hk)
  prog := by
    intro y j hy
    obtain ⟨h1, h2⟩ := h.prog y j (List.mem_append_left _ hy)
    refine ⟨h1, fun k a hk ha => ?_⟩
    have := h2 k a hk ha
    simp only [List.map_append, List.map_cons, List.map_nil, List.mem_append, List.mem_singleton] at this ⊢
    exact this.elim (fun h => .inl (.inl h)) (fun h => h.elim .inr (fun h => .inl (.inr h)))
  chain := by
    intro j y hy
    have hlt : j + 1 < (st.map (·.1)).length := (List.getElem?_eq_some_iff.1 hy).1
    obtain ⟨z, hz, hyz⟩ := h.chain j y (by rw [List.map_append, List.getElem?_append_left hlt]; exact hy)
    rw [List.map_append, List.getElem?_append_left (by omega)] at hz
    exact ⟨z, hz, hyz⟩
  bot := by
    refine ⟨fun y hy => ?_, fun he => ?_⟩
    · have hlt : 0 < (st.map (·.1)).length := (List.getElem?_eq_some_iff.1 hy).1
      exact h.bot.1 y (by rw [List.map_append, List.getElem?_append_left hlt]; exact hy)
    · subst he
      have := h.bot.1 x (by simp)
      exact ⟨o, by rw [this]⟩
  par := by
    intro k y hk
    rw [List.getElem?_append] at hk
    split at hk
    · rename_i hlt
      rcases h.par k y hk with h1 | ⟨b, hb, h1⟩
      · exact .inl h1
      · refine .inr ⟨b, hb, ?_⟩
        rcases h1 with h1 | ⟨k', hk', h1⟩
        · simp only [List.map_append, List.map_cons, List.map_nil, List.mem_append, List.mem_singleton] at h1
          rcases h1 with h1 | h1
          · exact .inl h1
          · subst h1
            exact .inr ⟨o.length, hlt, by simp⟩
        · exact .inr ⟨k', hk', by rw [List.getElem?_append_left (List.getElem?_eq_some_iff.1 h1).1]; exact h1⟩
    · rw [List.getElem?_singleton] at hk
      split at hk
      · obtain rfl := Option.some.inj hk
        by_cases he : st = []
        · subst he
          exact .inl (h.bot.1 x (by simp))
        · have hl : 0 < st.length := List.length_pos_iff.2 he
          obtain ⟨z, hz, hxz⟩ := h.chain (st.length - 1) x (by
            rw [List.map_append, List.getElem?_append_right (by simp; omega)]
            simp
            rw [show st.length - 1 + 1 - st.length = 0 from by omega]
            rfl)
          rw [List.map_append, List.getElem?_append_left (by simp; omega)] at hz
          exact .inr ⟨z, hxz, .inl (List.mem_of_getElem? hz)⟩
      · cases hk

/-- The deepest one goes on: its next neighbour has been seen. -/
theorem DF.next {x i a : Nat} (h : DF bk N o (st ++ [(x, i)]) sn) (ha : (bk x)[i]? = some a) (hs : sn[a]? = some true) : DF bk N o (st ++ [(x, i + 1)]) sn where
  len := h.len
  nod := by have := h.nod; simpa using this
  seen := by intro y; have := h.seen y; simpa using this
  done := by intro y hy a ha; have := h.done y hy a ha; simpa using this
  prog := by
    intro y j hy
    have hsa := (h.seen a).1 hs
    rcases List.mem_append.1 hy with hy | hy
    · obtain ⟨h1, h2⟩ := h.prog y j (List.mem_append_left _ hy)
      exact ⟨h1, fun k a hk ha => by have := h2 k a hk ha; simpa using this⟩
    · obtain ⟨rfl, rfl⟩ : y = x ∧ j = i + 1 := by simpa using hy
      obtain ⟨h1, h2⟩ := h.prog y i (by simp)
      have hlt := (List.getElem?_eq_some_iff.1 ha).1
      refine ⟨hlt, fun k a' hk ha' => ?_⟩
      rcases Nat.lt_or_ge k i with h3 | h3
      · have := h2 k a' h3 ha'; simpa using this
      · obtain rfl : k = i := by omega
        rw [ha] at ha'
        obtain rfl := Option.some.inj ha'
        simpa using hsa
  chain := by intro j y hy; have := h.chain j y (by simpa using hy); simpa using this
  bot := ⟨fun y hy => h.bot.1 y (by simpa using hy), fun he => by simp at he⟩
  par := by intro k y hk; have := h.par k y hk; simpa using this
/-- .. or it is seen now, and deeper. -/
theorem DF.push {x i a : Nat} (h : DF bk N o (st ++ [(x, i)]) sn) (ha : (bk x)[i]? = some a) (haN : a ≤ N) (hs : sn[a]? = some false) : DF bk N o (st ++ [(x, i + 1), (a, 0)]) (sn.set a true) := by
  have hna : ¬ (a ∈ o ∨ a ∈ (st ++ [(x, i)]).map (·.1)) := fun hc => by have := (h.seen a).2 hc; rw [this] at hs; cases hs
  have hmap : (st ++ [(x, i + 1), (a, 0)]).map (·.1) = (st ++ [(x, i)]).map (·.1) ++ [a] := by simp
  refine ⟨by simpa using h.len, ?_, ?_, ?_, ?_, ?_, ?_, ?_⟩
  · rw [hmap, ← List.append_assoc, List.nodup_append]
    refine ⟨h.nod, by simp, ?_⟩
    intro y hy z hz
    obtain rfl := List.mem_singleton.1 hz
    rintro rfl
    exact hna (List.mem_append.1 hy)
  · intro y
    rw [hmap]
    by_cases e : a = y
    · subst e
      rw [List.getElem?_set_self (by have := h.len; omega)]
      simp
    · rw [List.getElem?_set_ne e, h.seen y]
      simp only [List.mem_append, List.mem_singleton]
      exact ⟨fun h => h.imp id .inl, fun h => h.imp id (fun h => h.resolve_right (Ne.symm e))⟩
  · intro y hy b hb
    rw [hmap]
    exact (h.done y hy b hb).imp id (fun h => List.mem_append_left _ h)
  · intro y j hy
    rw [hmap]
    have hy' : (y, j) ∈ st ∨ (y = x ∧ j = i + 1) ∨ (y = a ∧ j = 0) := by simpa using hy
    rcases hy' with hy | ⟨rfl, rfl⟩ | ⟨rfl, rfl⟩
    · obtain ⟨h1, h2⟩ := h.prog y j (List.mem_append_left _ hy)
      exact ⟨h1, fun k b hk hb => (h2 k b hk hb).imp id (fun h => List.mem_append_left _ h)⟩
    · obtain ⟨h1, h2⟩ := h.prog y i (by simp)
      refine ⟨(List.getElem?_eq_some_iff.1 ha).1, fun k b hk hb => ?_⟩
      rcases Nat.lt_or_ge k i with h3 | h3
      · exact (h2 k b h3 hb).imp id (fun h => List.mem_append_left _ h)
      · obtain rfl : k = i := by omega
        rw [ha] at hb
        obtain rfl := Option.some.inj hb
        exact .inr (by simp)
    · exact ⟨Nat.zero_le _, fun k b hk => by omega⟩
  · intro j y hy
    rw [hmap] at hy ⊢
    rw [List.getElem?_append] at hy
    split at hy
    · rename_i hlt
      obtain ⟨z, hz, hyz⟩ := h.chain j y hy
      exact ⟨z, by rw [List.getElem?_append_left (by omega)]; exact hz, hyz⟩
    · rename_i hge
      rw [List.getElem?_singleton] at hy
      split at hy
      · rename_i h0
        obtain rfl := Option.some.inj hy
        have hj : j = st.length := by simp at h0 hge; omega
        subst hj
        exact ⟨x, by simp, List.mem_of_getElem? ha⟩
      · cases hy
  · refine ⟨fun y hy => ?_, fun he => by simp at he⟩
    rw [hmap, List.getElem?_append_left (by simp)] at hy
    exact h.bot.1 y hy
  · intro k y hk
    rw [hmap]
    rcases h.par k y hk with h1 | ⟨b, hb, h1⟩
    · exact .inl h1
    · exact .inr ⟨b, hb, h1.imp (fun h => List.mem_append_left _ h) id⟩

/-- The order itself: where each node stands, the exit first. -/
structure Order (nx : Nat → List Nat) (n : Nat) (l : List Nat) : Prop where
  nod : l.Nodup
  mem : ∀ x, x ∈ l ↔ Av nx n (-1) x
  top : l[0]? = some n
  up : ∀ (k x : Nat), l[k]? = some x → x ≠ n → ∃ b ∈ nx x, ∃ k', k' < k ∧ l[k']? = some b

theorem DF.order {nx : Nat → List Nat} (h : DF bk N o [] sn) (hb : ∀ b a, a ∈ bk b → a < N ∧ b ∈ nx a) (hb' : ∀ a b, a < N → b ∈ nx a → a ∈ bk b) : Order nx N o.reverse := by
  obtain ⟨o', ho⟩ := h.bot.2 rfl
  have hpar : ∀ (k x : Nat), o[k]? = some x → x ≠ N → ∃ b, x ∈ bk b ∧ ∃ k', k < k' ∧ o[k']? = some b := by
    intro k x hk hx
    rcases h.par k x hk with h1 | ⟨b, h1, h2⟩
    · exact absurd h1 hx
    · exact ⟨b, h1, h2.resolve_left (by simp)⟩
  have hsound : ∀ (m k x : Nat), o.length - k ≤ m → o[k]? = some x → Av nx N (-1) x := by
    intro m
    induction m with
    | zero => intro k x hm hk; have := (List.getElem?_eq_some_iff.1 hk).1; omega
    | succ m ih =>
      intro k x hm hk
      by_cases hx : x = N
      · subst hx; exact .base (by omega)
      · obtain ⟨b, h1, k', hk', h2⟩ := hpar k x hk hx
        have := ih k' b (by have := (List.getElem?_eq_some_iff.1 h2).1; omega) h2
        exact .step (hb b x h1).1 (by omega) (hb b x h1).2 this
  refine ⟨?_, fun x => ⟨fun hx => ?_, fun hx => ?_⟩, ?_, ?_⟩
  · have := h.nod
    simp at this
    exact (List.reverse_perm o).nodup_iff.2 this
  · obtain ⟨k, hk⟩ := List.getElem?_of_mem (List.mem_reverse.1 hx)
    exact hsound _ k x (Nat.le_refl _) hk
  · rw [List.mem_reverse]
    induction hx with
    | base _ => rw [ho]; simp
    | @step p b h1 _ h3 _ ih =>
      have := h.done b ih p (hb' p b h1 h3)
      exact this.resolve_right (by simp)
  · rw [ho]; simp
  · intro k x hk hx
    have hlt := (List.getElem?_eq_some_iff.1 hk).1
    rw [List.length_reverse] at hlt
    rw [List.getElem?_reverse hlt] at hk
    obtain ⟨b, h1, k', hk', h2⟩ := hpar _ x hk hx
    have hlt' := (List.getElem?_eq_some_iff.1 h2).1
    refine ⟨b, (hb b x h1).2, o.length - 1 - k', by omega, ?_⟩
    rw [List.getElem?_reverse (by omega)]
    rw [show o.length - 1 - (o.length - 1 - k') = k' from by omega]
    exact h2
theorem Order.places {nx : Nat → List Nat} {n : Nat} {l : List Nat} (h : Order nx n l) : Places nx n (fun x => l.idxOf x) := by
  have hidx : ∀ (k x : Nat), l[k]? = some x → l.idxOf x = k := by
    intro k x hk
    obtain ⟨hlt, hv⟩ := List.getElem?_eq_some_iff.1 hk
    have hm : x ∈ l := List.mem_of_getElem? hk
    have h1 := List.idxOf_lt_length_iff.2 hm
    have h2 : l[l.idxOf x] = x := List.getElem_idxOf h1
    have hpw := List.pairwise_iff_getElem.1 h.nod
    rcases Nat.lt_trichotomy (l.idxOf x) k with h3 | h3 | h3
    · exact absurd (h2.trans hv.symm) (hpw _ _ h1 hlt h3)
    · exact h3
    · exact absurd (hv.trans h2.symm) (hpw _ _ hlt h1 h3)
  refine ⟨hidx 0 n h.top, fun x y hx hy he => ?_, fun x hx hn => ?_, fun x hx => hx.le⟩
  · have h1 := List.idxOf_lt_length_iff.2 ((h.mem x).2 hx)
    have h2 := List.idxOf_lt_length_iff.2 ((h.mem y).2 hy)
    have h3 : l[l.idxOf x] = x := List.getElem_idxOf h1
    have h4 : l[l.idxOf y] = y := List.getElem_idxOf h2
    rw [← h3, ← h4]
    congr 1
  · obtain ⟨k, hk⟩ := List.getElem?_of_mem ((h.mem x).2 hx)
    obtain ⟨b, hb, k', hk', h2⟩ := h.up k x hk hn
    exact ⟨b, hb, (h.mem b).1 (List.mem_of_getElem? h2), by rw [hidx k x hk, hidx k' b h2]; exact hk'⟩
end Go.Proofs.Ytjlikbaamefkiaa
