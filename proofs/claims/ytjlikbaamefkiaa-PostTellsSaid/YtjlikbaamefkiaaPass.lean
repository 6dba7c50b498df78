/- One pass of post.Tree's fixpoint: plain, no program. -/
import Derived.Test.YtjlikbaamefkiaaDfs
namespace Go.Proofs.Ytjlikbaamefkiaa
section
variable {nx : Nat → List Nat} {n : Nat} {pl : Nat → Nat} {f : Nat → Option Nat} {a c : Nat}
/-- What the best one so far is made of. -/
def BestL (nx : Nat → List Nat) (n : Nat) (f : Nat → Option Nat) (l : List Nat) : Option Nat → Prop
  | none => ∀ b ∈ l, f b = none
  | some c => f c ≠ none ∧ (∀ b ∈ l, f b ≠ none → Anc n f c b) ∧ ∀ q, (∀ b ∈ l, f b ≠ none → Dom nx n q b) → Dom nx n q c
theorem BestL.skip {l : List Nat} {o : Option Nat} {b : Nat} (h : BestL nx n f l o) (hb : f b = none) : BestL nx n f (l ++ [b]) o := by
  cases o with
  | none =>
    intro x hx
    rcases List.mem_append.1 hx with hx | hx
    · exact h x hx
    · rw [List.mem_singleton.1 hx]; exact hb
  | some c =>
    refine ⟨h.1, fun x hx hf => ?_, fun q hq => h.2.2 q fun x hx => hq x (List.mem_append_left _ hx)⟩
    rcases List.mem_append.1 hx with hx | hx
    · exact h.2.1 x hx hf
    · rw [List.mem_singleton.1 hx] at hf; exact absurd hb hf
theorem BestL.first {l : List Nat} {b : Nat} (h : BestL nx n f l none) (hb : f b ≠ none) : BestL nx n f (l ++ [b]) (some b) := by
  refine ⟨hb, fun x hx hf => ?_, fun q hq => hq b (by simp) hb⟩
  rcases List.mem_append.1 hx with hx | hx
  · exact absurd (h x hx) hf
  · rw [List.mem_singleton.1 hx]; exact .refl
theorem BestL.meet {l : List Nat} {b c c' : Nat} (h : BestL nx n f l (some c)) (hb : f b ≠ none) (hM : Meets nx n f c b c' c') : BestL nx n f (l ++ [b]) (some c') := by
  refine ⟨hM.pa, fun x hx hf => ?_, fun q hq => ?_⟩
  · rcases List.mem_append.1 hx with hx | hx
    · exact hM.aa.trans (h.2.1 x hx hf)
    · rw [List.mem_singleton.1 hx]; exact hM.bb
  · exact (hM.dom q (h.2.2 q fun x hx => hq x (List.mem_append_left _ hx)) (hq b (by simp) hb)).1
theorem BestL.best {l : List Nat} {o : Option Nat} (h : BestL nx n f l o) (hl : ∀ b, b ∈ l ↔ b ∈ nx a) (hex : ∃ b ∈ nx a, f b ≠ none) : ∃ c, o = some c ∧ Best nx n f a c := by
  cases o with
  | none =>
    obtain ⟨b, hb, hf⟩ := hex
    exact absurd (h b ((hl b).2 hb)) hf
  | some c => exact ⟨c, rfl, h.1, fun b hb => h.2.1 b ((hl b).2 hb), fun q hq => h.2.2 q fun b hb => hq b ((hl b).1 hb)⟩

theorem idx_of {l : List Nat} (h : l.Nodup) {k x : Nat} (hk : l[k]? = some x) : l.idxOf x = k := by
  obtain ⟨hlt, hv⟩ := List.getElem?_eq_some_iff.1 hk
  have hm : x ∈ l := List.mem_of_getElem? hk
  have h1 := List.idxOf_lt_length_iff.2 hm
  have h2 : l[l.idxOf x] = x := List.getElem_idxOf h1
  have hpw := List.pairwise_iff_getElem.1 h
  rcases Nat.lt_trichotomy (l.idxOf x) k with h3 | h3 | h3
  · exact absurd (h2.trans hv.symm) (hpw _ _ h1 hlt h3)
  · exact h3
  · exact absurd (hv.trans h2.symm) (hpw _ _ hlt h1 h3)
theorem idx_get {l : List Nat} {x : Nat} (hx : x ∈ l) : l[l.idxOf x]? = some x := by
  have h1 := List.idxOf_lt_length_iff.2 hx
  rw [List.getElem?_eq_getElem h1, List.getElem_idxOf h1]

/-- What stands when the first i + 1 of the order are handled. -/
structure PassI (nx : Nat → List Nat) (n : Nat) (ol : List Nat) (K m : Nat) (f : Nat → Option Nat) (i : Nat) (ch : Bool) : Prop where
  hC : Chk nx n (fun x => ol.idxOf x) f
  up : ∀ (k x : Nat), k ≤ i → ol[k]? = some x → f x ≠ none ∧ Lvl nx n (fun x => ol.idxOf x) f (m + 1) x
  dn : 0 < m → ∀ x, Av nx n (-1) x → f x ≠ none ∧ Lvl nx n (fun x => ol.idxOf x) f m x
  best : ch = false → ∀ (k x : Nat), 0 < k → k ≤ i → ol[k]? = some x → ∀ y, f x = some y → ∀ b ∈ nx x, f b ≠ none → Anc n f y b
  mch : ch = true → m ≤ K
theorem PassI.start {ol : List Nat} {K m : Nat} (hO : Order nx n ol) (hC : Chk nx n (fun x => ol.idxOf x) f) (dn : 0 < m → ∀ x, Av nx n (-1) x → f x ≠ none ∧ Lvl nx n (fun x => ol.idxOf x) f m x) : PassI nx n ol K m f 0 false := by
  refine ⟨hC, fun k x hk hx => ?_, dn, fun _ k x h1 h2 => by omega, fun h => by cases h⟩
  obtain rfl : k = 0 := by omega
  rw [hO.top] at hx
  obtain rfl := Option.some.inj hx
  refine ⟨by rw [hC.top]; simp, fun q k _ hq hav => ?_⟩
  have := hq.top
  subst this
  exact hav.av.ne rfl
theorem PassI.hup {ol : List Nat} {K m i : Nat} {ch : Bool} (h : PassI nx n ol K m f i ch) (hO : Order nx n ol) (hi : ol[i + 1]? = some a) : ∀ b, Av nx n (-1) b → ol.idxOf b < ol.idxOf a → f b ≠ none ∧ Lvl nx n (fun x => ol.idxOf x) f (m + 1) b := by
  intro b hb hlt
  rw [idx_of hO.nod hi] at hlt
  exact h.up (ol.idxOf b) b (by omega) (idx_get ((hO.mem b).2 hb))
theorem PassI.some_next {ol : List Nat} {K m i : Nat} {ch : Bool} (h : PassI nx n ol K m f i ch) (hO : Order nx n ol) (hi : ol[i + 1]? = some a) : a ≠ n ∧ Av nx n (-1) a ∧ ∃ b ∈ nx a, f b ≠ none := by
  have han : a ≠ n := by
    rintro rfl
    have h1 := idx_of hO.nod hi
    have h2 := idx_of hO.nod hO.top
    omega
  have ha := (hO.mem a).1 (List.mem_of_getElem? hi)
  obtain ⟨b, hb, hr, hlt⟩ := hO.places.up a ha han
  exact ⟨han, ha, b, hb, (h.hup hO hi b hr hlt).1⟩
theorem upd_same (h : f a = some c) : upd f a c = f := by
  funext x
  unfold upd
  split
  · rename_i e; rw [e, h]
  · rfl
theorem PassI.next {ol : List Nat} {K m i : Nat} {ch : Bool} (h : PassI nx n ol K m f i ch) (hO : Order nx n ol) (hi : ol[i + 1]? = some a) (hB : Best nx n f a c) (hm : m ≤ K + 1)
    (hK : ∀ q, q ≤ n → ∀ x, x ≤ n → Av nx n q x → AvR nx n (fun x => ol.idxOf x) q K x) :
    PassI nx n ol K m (upd f a c) (i + 1) (ch || decide (f a ≠ some c)) := by
  obtain ⟨han, ha, -⟩ := h.some_next hO hi
  have hup := h.hup hO hi
  have hP := hO.places
  have hC' : Chk nx n (fun x => ol.idxOf x) (upd f a c) := h.hC.upd hP hB ha han fun b h1 h2 => (hup b h1 h2).1
  have hLa : Lvl nx n (fun x => ol.idxOf x) (upd f a c) (m + 1) a := Lvl.handled hP h.hC hB ha han hup h.dn
  have hLm : Lvl nx n (fun x => ol.idxOf x) (upd f a c) m a := fun q k hk => hLa q k (by omega)
  have hne : ∀ x, f x ≠ none → upd f a c x ≠ none := fun x hx => by
    unfold upd
    split
    · simp
    · exact hx
  refine ⟨hC', fun k x hk hx => ?_, fun h0 x hx => ?_, fun hc k x h0 hk hx y hy b hb hbn => ?_, fun hc => ?_⟩
  · by_cases e : x = a
    · subst e; exact ⟨by simp [upd], hLa⟩
    · have hk' : k ≤ i := by
        rcases Nat.lt_or_ge k (i + 1) with h1 | h1
        · omega
        · obtain rfl : k = i + 1 := by omega
          rw [hi] at hx
          exact absurd (Option.some.inj hx).symm e
      obtain ⟨h1, h2⟩ := h.up k x hk' hx
      exact ⟨hne x h1, h2.others h.hC hC' e hLa⟩
  · by_cases e : x = a
    · subst e; exact ⟨by simp [upd], hLm⟩
    · obtain ⟨h1, h2⟩ := h.dn h0 x hx
      exact ⟨hne x h1, h2.others h.hC hC' e hLm⟩
  · obtain ⟨h1, h2⟩ := Bool.or_eq_false_iff.1 hc
    have h3 : f a = some c := by simpa using h2
    rw [upd_same h3] at hy hbn ⊢
    rcases Nat.lt_or_ge k (i + 1) with h4 | h4
    · exact h.best h1 k x h0 (by omega) hx y hy b hb hbn
    · obtain rfl : k = i + 1 := by omega
      rw [hi] at hx
      obtain rfl := Option.some.inj hx
      rw [h3] at hy
      obtain rfl := Option.some.inj hy
      exact hB.anc b hb hbn
  · rcases Bool.or_eq_true_iff.1 hc with h1 | h1
    · exact h.mch h1
    · have h2 : f a ≠ some c := by simpa using h1
      rcases Nat.lt_or_ge K m with h3 | h3
      · obtain rfl : m = K + 1 := by omega
        exact absurd (no_change hP h.hC hK (fun x hx => (h.dn (by omega) x hx).1) (fun x hx => (h.dn (by omega) x hx).2) hB ha han) h2
      · exact h3
/-- A pass that turned something: one level more. -/
theorem PassI.level {ol : List Nat} {K m i : Nat} {ch : Bool} (h : PassI nx n ol K m f i ch) (hO : Order nx n ol) (hi : ol.length ≤ i + 1) : ∀ x, Av nx n (-1) x → f x ≠ none ∧ Lvl nx n (fun x => ol.idxOf x) f (m + 1) x := by
  intro x hx
  have h1 := (hO.mem x).2 hx
  have h2 := List.idxOf_lt_length_iff.2 h1
  exact h.up (ol.idxOf x) x (by omega) (idx_get h1)
/-- A pass that turned nothing: the table is right. -/
theorem PassI.done {ol : List Nat} {K m i : Nat} (h : PassI nx n ol K m f i false) (hO : Order nx n ol) (hi : ol.length ≤ i + 1) {p : Nat} (hp : p < n) : nearI nx n p = match f p with | none => -1 | some y => (y : Int) := by
  have hall := fun x hx => (h.level hO hi x hx).1
  by_cases hr : Av nx n (-1) p
  · cases hf : f p with
    | none => exact absurd hf (hall p hr)
    | some y =>
      refine nearI_of (rest_near hO.places h.hC hall (fun x y hy hx b hb hbn => ?_) hf (by omega))
      have h1 := (hO.mem x).2 (h.hC.rch x y hy)
      have h2 := List.idxOf_lt_length_iff.2 h1
      refine h.best rfl (ol.idxOf x) x ?_ (by omega) (idx_get h1) y hy b hb hbn
      rcases Nat.eq_zero_or_pos (ol.idxOf x) with h3 | h3
      · have h4 := idx_get h1
        rw [h3, hO.top] at h4
        exact absurd (Option.some.inj h4).symm hx
      · exact h3
  · cases hf : f p with
    | none => exact nearI_none (near_off hr)
    | some y => exact absurd (h.hC.rch p y hf) hr
/-- Each node with a way to the exit has a nearest one. -/
def NearAll (nx : Nat → List Nat) (n : Nat) : Prop := ∀ p, Av nx n (-1) p → p ≠ n → ∃ q, NearP nx n p q
theorem PassI.all {ol : List Nat} {K m i : Nat} (h : PassI nx n ol K m f i false) (hO : Order nx n ol) (hi : ol.length ≤ i + 1) : NearAll nx n := by
  intro p hr hp
  have hall := fun x hx => (h.level hO hi x hx).1
  cases hf : f p with
  | none => exact absurd hf (hall p hr)
  | some y =>
    refine ⟨y, rest_near hO.places h.hC hall (fun x y hy hx b hb hbn => ?_) hf hp⟩
    have h1 := (hO.mem x).2 (h.hC.rch x y hy)
    have h2 := List.idxOf_lt_length_iff.2 h1
    refine h.best rfl (ol.idxOf x) x ?_ (by omega) (idx_get h1) y hy b hb hbn
    rcases Nat.eq_zero_or_pos (ol.idxOf x) with h3 | h3
    · have h4 := idx_get h1
      rw [h3, hO.top] at h4
      exact absurd (Option.some.inj h4).symm hx
    · exact h3
end
end Go.Proofs.Ytjlikbaamefkiaa
