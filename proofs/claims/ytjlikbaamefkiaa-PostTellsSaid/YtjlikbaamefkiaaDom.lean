/- Post-dominators: plain. Ways that avoid a node; what the search by nearest ancestors keeps, and that it comes to rest. -/
import Derived.Test.YtjlikbaamefkiaaPostMath
namespace Go.Proofs.Ytjlikbaamefkiaa
set_option linter.unusedVariables false

section
variable {nx : Nat → List Nat} {n : Nat}

theorem Av.ne {q : Int} {x : Nat} (h : Av nx n q x) : (x : Int) ≠ q := by
  cases h with
  | base h => exact h
  | step _ h _ _ => exact h
theorem Av.le {q : Int} {x : Nat} (h : Av nx n q x) : x ≤ n := by
  cases h with
  | base h => exact Nat.le_refl _
  | step h _ _ _ => omega
theorem Av.reach {q : Int} {x : Nat} (h : Av nx n q x) : Av nx n (-1) x := by
  induction h with
  | base h => exact .base (by omega)
  | step h1 h2 h3 _ ih => exact .step h1 (by omega) h3 ih
/-- A way that avoids q, from where no way avoids a, comes by a. -/
theorem Av.pass {q : Int} {a x : Nat} (h : Av nx n q x) (ha : ¬ Av nx n a x) : Av nx n q a := by
  induction h with
  | base h =>
    by_cases e : n = a
    · subst e; exact .base h
    · exact absurd (.base (by omega)) ha
  | @step p b h1 h2 h3 h4 ih =>
    by_cases e : p = a
    · subst e; exact .step h1 h2 h3 h4
    · exact ih fun hb => ha (.step h1 (by omega) h3 hb)

def Dom (nx : Nat → List Nat) (n : Nat) (q p : Nat) : Prop := Av nx n (-1) p ∧ ¬ Av nx n q p

theorem Dom.refl {p : Nat} (h : Av nx n (-1) p) : Dom nx n p p := ⟨h, fun h => h.ne rfl⟩
theorem Dom.trans {r q p : Nat} (h1 : Dom nx n r q) (h2 : Dom nx n q p) : Dom nx n r p := ⟨h2.1, fun h => h1.2 (h.pass h2.2)⟩
theorem Dom.of_step {q p b : Nat} (h : Dom nx n q p) (hne : q ≠ p) (hp : p < n) (hb : b ∈ nx p) (hr : Av nx n (-1) b) : Dom nx n q b := ⟨hr, fun h' => h.2 (.step hp (by omega) hb h')⟩
theorem Dom.top {q : Nat} (h : Dom nx n q n) : q = n := by
  by_cases e : q = n
  · exact e
  · exact absurd (.base (by omega)) h.2
theorem Dom.of_all {q p : Nat} (hr : Av nx n (-1) p) (hp : p < n) (h : ∀ b ∈ nx p, Av nx n (-1) b → Dom nx n q b) : Dom nx n q p := by
  refine ⟨hr, fun h' => ?_⟩
  cases h' with
  | base _ => omega
  | @step _ b h1 h2 h3 h4 => exact (h b h3 h4.reach).2 h4
theorem leave {q x : Nat} (h : Av nx n (-1) x) : Av nx n q x ∨ (q < n ∧ ∃ b ∈ nx q, Av nx n q b) ∨ q = n := by
  induction h with
  | base h =>
    by_cases e : q = n
    · exact .inr (.inr e)
    · exact .inl (.base (by omega))
  | @step p b h1 h2 h3 h4 ih =>
    rcases ih with ih | ih
    · by_cases e : p = q
      · subst e; exact .inr (.inl ⟨h1, b, h3, ih⟩)
      · exact .inl (.step h1 (by omega) h3 ih)
    · exact .inr ih
theorem Dom.antisymm {q r : Nat} (h1 : Dom nx n q r) (h2 : Dom nx n r q) : q = r := by
  by_cases e : q = r
  · exact e
  · exfalso
    rcases leave (q := q) h2.1 with h | ⟨hq, b, hb, h⟩ | h
    · exact h.ne rfl
    · have h3 : ¬ Av nx n r b := fun h' => h2.2 (.step hq (by omega) hb h')
      exact h1.2 (h.pass h3)
    · subst h
      exact e (h2.top).symm

/-- The order's places: each node but the exit has an edge to an earlier one. -/
structure Places (nx : Nat → List Nat) (n : Nat) (pl : Nat → Nat) : Prop where
  top : pl n = 0
  inj : ∀ x y, Av nx n (-1) x → Av nx n (-1) y → pl x = pl y → x = y
  up : ∀ x, Av nx n (-1) x → x ≠ n → ∃ b ∈ nx x, Av nx n (-1) b ∧ pl b < pl x
  lt : ∀ x, Av nx n (-1) x → x ≤ n

theorem Places.dom {pl : Nat → Nat} (hP : Places nx n pl) {q x : Nat} (h : Dom nx n q x) (hne : q ≠ x) : pl q < pl x := by
  have key : ∀ m x, pl x ≤ m → Av nx n (-1) x → Dom nx n q x → q ≠ x → pl q < pl x := by
    intro m
    induction m with
    | zero =>
      intro x hm hr hd hne
      by_cases hx : x = n
      · subst hx; exact absurd hd.top hne
      · obtain ⟨b, _, _, hb⟩ := hP.up x hr hx; omega
    | succ m ih =>
      intro x hm hr hd hne
      by_cases hx : x = n
      · subst hx; exact absurd hd.top hne
      · obtain ⟨b, hb, hrb, hlt⟩ := hP.up x hr hx
        have hxn : x < n := by have := hP.lt x hr; omega
        have hdb := hd.of_step hne hxn hb hrb
        by_cases e : q = b
        · subst e; exact hlt
        · have := ih b (by omega) hrb hdb e; omega
  exact key (pl x) x (Nat.le_refl _) h.1 h hne

/-- What the search keeps: f x is the nearest one known of a node that has one. -/
structure Chk (nx : Nat → List Nat) (n : Nat) (pl : Nat → Nat) (f : Nat → Option Nat) : Prop where
  top : f n = some n
  rch : ∀ x y, f x = some y → Av nx n (-1) x
  down : ∀ x y, f x = some y → x ≠ n → f y ≠ none ∧ pl y < pl x
  sd : ∀ x y, f x = some y → x ≠ n → ∀ q, q ≠ x → Dom nx n q x → Dom nx n q y

/-- q is on the chain of x. -/
inductive Anc (n : Nat) (f : Nat → Option Nat) (q : Nat) : Nat → Prop
  | refl : Anc n f q q
  | up {x y : Nat} : x ≠ n → f x = some y → Anc n f q y → Anc n f q x
theorem Anc.trans {f : Nat → Option Nat} {q r x : Nat} (h1 : Anc n f q r) (h2 : Anc n f r x) : Anc n f q x := by
  induction h2 with
  | refl => exact h1
  | up ha hb _ ih => exact .up ha hb ih
theorem Anc.top {f : Nat → Option Nat} {q : Nat} (h : Anc n f q n) : q = n := by
  cases h with
  | refl => rfl
  | up h _ _ => exact absurd rfl h
theorem Chk.anc_pl {pl : Nat → Nat} {f : Nat → Option Nat} (hC : Chk nx n pl f) {q x : Nat} (h : Anc n f q x) : pl q ≤ pl x := by
  induction h with
  | refl => exact Nat.le_refl _
  | up ha hb _ ih => have := (hC.down _ _ hb ha).2; omega
theorem Chk.anc_pr {pl : Nat → Nat} {f : Nat → Option Nat} (hC : Chk nx n pl f) {q x : Nat} (h : Anc n f q x) (hx : f x ≠ none) : f q ≠ none := by
  induction h with
  | refl => exact hx
  | up ha hb _ ih => exact ih (hC.down _ _ hb ha).1

/-- What two are brought to. -/
structure Meets (nx : Nat → List Nat) (n : Nat) (f : Nat → Option Nat) (a b a' b' : Nat) : Prop where
  pa : f a' ≠ none
  pb : f b' ≠ none
  aa : Anc n f a' a
  bb : Anc n f b' b
  dom : ∀ q, Dom nx n q a → Dom nx n q b → Dom nx n q a' ∧ Dom nx n q b'
theorem Meets.refl {f : Nat → Option Nat} {a b : Nat} (ha : f a ≠ none) (hb : f b ≠ none) : Meets nx n f a b a b := ⟨ha, hb, .refl, .refl, fun _ h1 h2 => ⟨h1, h2⟩⟩
theorem Meets.symm {f : Nat → Option Nat} {a b a' b' : Nat} (h : Meets nx n f a b a' b') : Meets nx n f b a b' a' := ⟨h.pb, h.pa, h.bb, h.aa, fun q h1 h2 => (h.dom q h2 h1).symm⟩
theorem Meets.left {pl : Nat → Nat} {f : Nat → Option Nat} (hP : Places nx n pl) (hC : Chk nx n pl f) {a b a' b' y : Nat} (h : Meets nx n f a b a' b') (hlt : pl b' < pl a') (hy : f a' = some y) : Meets nx n f a b y b' := by
  have hn : a' ≠ n := fun e => by rw [e, hP.top] at hlt; omega
  refine ⟨(hC.down _ _ hy hn).1, h.pb, Anc.trans (.up hn hy .refl) h.aa, h.bb, fun q h1 h2 => ?_⟩
  obtain ⟨h3, h4⟩ := h.dom q h1 h2
  refine ⟨hC.sd _ _ hy hn q ?_ h3, h4⟩
  rintro rfl
  by_cases e : q = b'
  · subst e; omega
  · have := hP.dom h4 e; omega

/-- Ways that avoid q and go back in the order at most k times. -/
inductive AvR (nx : Nat → List Nat) (n : Nat) (pl : Nat → Nat) (q : Nat) : Nat → Nat → Prop
  | base {k : Nat} : n ≠ q → AvR nx n pl q k n
  | fwd {k p b : Nat} : p < n → p ≠ q → b ∈ nx p → pl b < pl p → AvR nx n pl q k b → AvR nx n pl q k p
  | bck {k p b : Nat} : p < n → p ≠ q → b ∈ nx p → AvR nx n pl q k b → AvR nx n pl q (k + 1) p
variable {pl : Nat → Nat}
theorem AvR.av {q k x : Nat} (h : AvR nx n pl q k x) : Av nx n q x := by
  induction h with
  | base h => exact .base (by omega)
  | fwd h1 h2 h3 _ _ ih => exact .step h1 (by omega) h3 ih
  | bck h1 h2 h3 _ ih => exact .step h1 (by omega) h3 ih
theorem AvR.more {q k x : Nat} (h : AvR nx n pl q k x) : AvR nx n pl q (k + 1) x := by
  induction h with
  | base h => exact .base h
  | fwd h1 h2 h3 h4 _ ih => exact .fwd h1 h2 h3 h4 ih
  | bck h1 h2 h3 _ ih => exact .bck h1 h2 h3 ih
theorem AvR.le {q k k' x : Nat} (h : AvR nx n pl q k x) (hk : k ≤ k') : AvR nx n pl q k' x := by
  induction hk with
  | refl => exact h
  | step _ ih => exact ih.more
theorem AvR.pass {q a k x : Nat} (h : AvR nx n pl q k x) (ha : ¬ AvR nx n pl a k x) : AvR nx n pl q k a := by
  induction h with
  | base h =>
    by_cases e : n = a
    · subst e; exact .base h
    · exact absurd (.base e) ha
  | @fwd k p b h1 h2 h3 h4 h5 ih =>
    by_cases e : p = a
    · subst e; exact .fwd h1 h2 h3 h4 h5
    · exact ih fun hb => ha (.fwd h1 e h3 h4 hb)
  | @bck k p b h1 h2 h3 h5 ih =>
    by_cases e : p = a
    · subst e; exact .bck h1 h2 h3 h5
    · exact (ih fun hb => ha (.bck h1 e h3 hb)).more
theorem Av.some_k {q x : Nat} (h : Av nx n q x) : ∃ k, AvR nx n pl q k x := by
  generalize hq : (q : Int) = qi at h
  induction h with
  | base h => exact ⟨0, .base (by omega)⟩
  | step h1 h2 h3 _ ih =>
    obtain ⟨k, hk⟩ := ih
    exact ⟨k + 1, .bck h1 (by omega) h3 hk⟩
theorem bounded {P : Nat → Nat → Prop} (hm : ∀ x k k', P x k → k ≤ k' → P x k') (N : Nat) (h : ∀ x, x < N → ∃ k, P x k) : ∃ K, ∀ x, x < N → P x K := by
  induction N with
  | zero => exact ⟨0, fun x hx => by omega⟩
  | succ N ih =>
    obtain ⟨K, hK⟩ := ih fun x hx => h x (by omega)
    obtain ⟨k, hk⟩ := h N (by omega)
    refine ⟨max K k, fun x hx => ?_⟩
    rcases Nat.lt_or_ge x N with h1 | h1
    · exact hm x _ _ (hK x h1) (by omega)
    · obtain rfl : x = N := by omega
      exact hm x _ _ hk (by omega)
theorem bound_all (nx : Nat → List Nat) (n : Nat) (pl : Nat → Nat) : ∃ K, ∀ q, q ≤ n → ∀ x, x ≤ n → Av nx n q x → AvR nx n pl q K x := by
  have := bounded (P := fun q k => ∀ x, x ≤ n → Av nx n q x → AvR nx n pl q k x) (fun q k k' h hk x hx ha => (h x hx ha).le hk) (n + 1) (fun q hq => by
    have := bounded (P := fun x k => Av nx n q x → AvR nx n pl q k x) (fun x k k' h hk ha => (h ha).le hk) (n + 1) (fun x hx => by
      by_cases h : Av nx n q x
      · obtain ⟨k, hk⟩ := Av.some_k (pl := pl) h; exact ⟨k, fun _ => hk⟩
      · exact ⟨0, fun h' => absurd h' h⟩)
    obtain ⟨K, hK⟩ := this
    exact ⟨K, fun x hx => hK x (by omega)⟩)
  obtain ⟨K, hK⟩ := this
  exact ⟨K, fun q hq => hK q (by omega)⟩

/-- How far a node's chain is right: told with m, none of it is avoided by a way that goes back fewer than m times. -/
def Lvl (nx : Nat → List Nat) (n : Nat) (pl : Nat → Nat) (f : Nat → Option Nat) (m x : Nat) : Prop := ∀ q k, k < m → Anc n f q x → ¬ AvR nx n pl q k x
def upd (f : Nat → Option Nat) (a c : Nat) : Nat → Option Nat := fun x => if x = a then some c else f x

/-- What the new nearest one of a is made of. -/
structure Best (nx : Nat → List Nat) (n : Nat) (f : Nat → Option Nat) (a c : Nat) : Prop where
  pr : f c ≠ none
  anc : ∀ b ∈ nx a, f b ≠ none → Anc n f c b
  dom : ∀ q, (∀ b ∈ nx a, f b ≠ none → Dom nx n q b) → Dom nx n q c

theorem Anc.upd_old {f : Nat → Option Nat} {a c q x : Nat} (hpl : Chk nx n pl f) (h : Anc n (upd f a c) q x) (hx : pl x < pl a) : Anc n f q x := by
  induction h with
  | refl => exact .refl
  | @up x y h1 h2 _ ih =>
    have hxa : x ≠ a := fun e => by subst e; omega
    have h2' : f x = some y := by simpa [upd, hxa] using h2
    exact .up h1 h2' (ih (by have := (hpl.down _ _ h2' h1).2; omega))

variable {f : Nat → Option Nat} {a c : Nat}
theorem Best.lt (hP : Places nx n pl) (hC : Chk nx n pl f) (hB : Best nx n f a c) (ha : Av nx n (-1) a) (han : a ≠ n) (hup : ∀ b, Av nx n (-1) b → pl b < pl a → f b ≠ none) : pl c < pl a := by
  obtain ⟨b, hb, hrb, hlt⟩ := hP.up a ha han
  have := hC.anc_pl (hB.anc b hb (hup b hrb hlt))
  omega
theorem Chk.upd (hP : Places nx n pl) (hC : Chk nx n pl f) (hB : Best nx n f a c) (ha : Av nx n (-1) a) (han : a ≠ n) (hup : ∀ b, Av nx n (-1) b → pl b < pl a → f b ≠ none) : Chk nx n pl (upd f a c) := by
  have hlt := hB.lt hP hC ha han hup
  have hca : c ≠ a := fun e => by subst e; omega
  refine ⟨by simp [Go.Proofs.Ytjlikbaamefkiaa.upd, Ne.symm han, hC.top], fun x y h => ?_, fun x y h hx => ?_, fun x y h hx => ?_⟩
  · by_cases e : x = a
    · subst e; exact ha
    · exact hC.rch x y (by simpa [Go.Proofs.Ytjlikbaamefkiaa.upd, e] using h)
  · by_cases e : x = a
    · subst e
      have : c = y := by simpa [Go.Proofs.Ytjlikbaamefkiaa.upd] using h
      subst this
      refine ⟨?_, hlt⟩
      simp [Go.Proofs.Ytjlikbaamefkiaa.upd, hca, hB.pr]
    · have h' : f x = some y := by simpa [Go.Proofs.Ytjlikbaamefkiaa.upd, e] using h
      obtain ⟨h1, h2⟩ := hC.down x y h' hx
      refine ⟨?_, h2⟩
      by_cases e2 : y = a
      · simp [Go.Proofs.Ytjlikbaamefkiaa.upd, e2]
      · simp [Go.Proofs.Ytjlikbaamefkiaa.upd, e2, h1]
  · by_cases e : x = a
    · subst e
      have : c = y := by simpa [Go.Proofs.Ytjlikbaamefkiaa.upd] using h
      subst this
      intro q hq hd
      refine hB.dom q fun b hb hpb => ?_
      cases hfb : f b with
      | none => exact absurd hfb hpb
      | some z => exact hd.of_step hq (by have := hP.lt x ha; omega) hb (hC.rch b z hfb)
    · exact hC.sd x y (by simpa [Go.Proofs.Ytjlikbaamefkiaa.upd, e] using h) hx

/-- The node that is handled: its chain is right one step further. -/
theorem Lvl.handled (hP : Places nx n pl) (hC : Chk nx n pl f) (hB : Best nx n f a c) (ha : Av nx n (-1) a) (han : a ≠ n) {m : Nat}
    (hup : ∀ b, Av nx n (-1) b → pl b < pl a → f b ≠ none ∧ Lvl nx n pl f (m + 1) b) (hdn : 0 < m → ∀ b, Av nx n (-1) b → f b ≠ none ∧ Lvl nx n pl f m b) : Lvl nx n pl (upd f a c) (m + 1) a := by
  have hlt := hB.lt hP hC ha han fun b h1 h2 => (hup b h1 h2).1
  intro q k hk hq hav
  have hqa : q ≠ a := fun e => hav.av.ne (by rw [e])
  -- q is on the chain of c
  have hqc : Anc n f q c := by
    cases hq with
    | refl => exact absurd rfl hqa
    | @up _ y h1 h2 h3 =>
      have : c = y := by simpa [upd] using h2
      subst this
      exact h3.upd_old hC hlt
  have hstep : ∀ k' b, k' ≤ k → b ∈ nx a → AvR nx n pl q k' b → pl b < pl a ∨ k' < k → False := by
    intro k' b hk' hb hab hor
    have hrb := hab.av.reach
    by_cases hlb : pl b < pl a
    · obtain ⟨hp, hL⟩ := hup b hrb hlb
      exact hL q k' (by omega) (hqc.trans (hB.anc b hb hp)) hab
    · have hlt' : k' < k := hor.resolve_left hlb
      obtain ⟨hp, hL⟩ := hdn (by omega) b hrb
      exact hL q k' (by omega) (hqc.trans (hB.anc b hb hp)) hab
  cases hav with
  | base _ => exact han rfl
  | fwd h1 h2 h3 h4 h5 => exact hstep _ _ (Nat.le_refl _) h3 h5 (.inl h4)
  | bck h1 h2 h3 h5 => exact hstep _ _ (by omega) h3 h5 (.inr (by omega))
/-- The others stay as right as they were. -/
theorem Lvl.others (hC : Chk nx n pl f) (hC' : Chk nx n pl (upd f a c)) {m x : Nat} (hx : x ≠ a) (hL : Lvl nx n pl f m x) (hLa : Lvl nx n pl (upd f a c) m a) : Lvl nx n pl (upd f a c) m x := by
  intro q k hk hq hav
  have key : ∀ x, Anc n (upd f a c) q x → Anc n f q x ∨ (Anc n f a x ∧ Anc n (upd f a c) q a) := by
    intro x h
    induction h with
    | refl => exact .inl .refl
    | @up x y h1 h2 h3 ih =>
      by_cases e : x = a
      · subst e; exact .inr ⟨.refl, .up h1 h2 h3⟩
      · have h2' : f x = some y := by simpa [upd, e] using h2
        rcases ih with ih | ⟨i1, i2⟩
        · exact .inl (.up h1 h2' ih)
        · exact .inr ⟨.up h1 h2' i1, i2⟩
  rcases key x hq with h | ⟨h1, h2⟩
  · exact hL q k hk h hav
  · exact hLa q k hk h2 (hav.pass (hL a k hk h1))

/-- At rest: each chain is just what post-dominates. -/
theorem rest_dom (hP : Places nx n pl) (hC : Chk nx n pl f) (hall : ∀ x, Av nx n (-1) x → f x ≠ none) (hfix : ∀ x y, f x = some y → x ≠ n → ∀ b ∈ nx x, f b ≠ none → Anc n f y b) {q x : Nat} (hx : Av nx n (-1) x) (hq : Anc n f q x) : Dom nx n q x := by
  refine ⟨hx, fun h => ?_⟩
  generalize hqi : (q : Int) = qi at h
  induction h with
  | base h => exact h (by rw [hq.top] at hqi; exact hqi)
  | @step p b h1 h2 h3 h4 ih =>
    cases hq with
    | refl => exact h2 hqi
    | @up _ y e1 e2 e3 => exact ih h4.reach (e3.trans (hfix _ _ e2 e1 b h3 (hall b h4.reach)))
/-- Far enough, nothing turns any more. -/
theorem no_change (hP : Places nx n pl) (hC : Chk nx n pl f) {K : Nat} (hK : ∀ q, q ≤ n → ∀ x, x ≤ n → Av nx n q x → AvR nx n pl q K x) (hall : ∀ x, Av nx n (-1) x → f x ≠ none) (hL : ∀ x, Av nx n (-1) x → Lvl nx n pl f (K + 1) x)
    (hB : Best nx n f a c) (ha : Av nx n (-1) a) (han : a ≠ n) : f a = some c := by
  have hdom : ∀ q x, Av nx n (-1) x → Anc n f q x → Dom nx n q x := fun q x hx hq => by
    have hqn : q ≤ n := by
      cases hf : f q with
      | none => exact absurd hf (hC.anc_pr hq (hall x hx))
      | some z => exact hP.lt q (hC.rch q z hf)
    exact ⟨hx, fun h => hL x hx q K (by omega) hq (hK q hqn x (hP.lt x hx) h)⟩
  cases hf : f a with
  | none => exact absurd hf (hall a ha)
  | some y =>
    have hlt := (hC.down a y hf han).2
    have han' : a < n := by have := hP.lt a ha; omega
    have hyd : Dom nx n y a := hdom y a ha (.up han hf .refl)
    have hya : y ≠ a := fun e => by subst e; omega
    have h1 : Dom nx n y c := hB.dom y fun b hb hpb => by
      cases hfb : f b with
      | none => exact absurd hfb hpb
      | some z => exact hyd.of_step hya han' hb (hC.rch b z hfb)
    have h2 : Dom nx n c a := Dom.of_all ha han' fun b hb hrb => hdom c b hrb (hB.anc b hb (hall b hrb))
    have hcl := hB.lt hP hC ha han fun b hb _ => hall b hb
    have h3 : Dom nx n c y := hC.sd a y hf han c (fun e => by subst e; omega) h2
    rw [h1.antisymm h3]

/-- The nearest one, as the document has it. -/
def NearP (nx : Nat → List Nat) (n : Nat) (p q : Nat) : Prop := q ≤ n ∧ q ≠ p ∧ Dom nx n q p ∧ ∀ r, r ≤ n → r ≠ p → Dom nx n r p → Dom nx n r q
theorem NearP.uniq {p q q' : Nat} (h : NearP nx n p q) (h' : NearP nx n p q') : q = q' :=
  (h'.2.2.2 q h.1 h.2.1 h.2.2.1).antisymm (h.2.2.2 q' h'.1 h'.2.1 h'.2.2.1)
theorem rest_near (hP : Places nx n pl) (hC : Chk nx n pl f) (hall : ∀ x, Av nx n (-1) x → f x ≠ none) (hfix : ∀ x y, f x = some y → x ≠ n → ∀ b ∈ nx x, f b ≠ none → Anc n f y b) {x y : Nat} (hf : f x = some y) (hx : x ≠ n) : NearP nx n x y := by
  have hr := hC.rch x y hf
  have hlt := hC.down x y hf hx
  refine ⟨?_, fun e => by rw [e] at hlt; omega, rest_dom hP hC hall hfix hr (.up hx hf .refl), fun r _ hne hd => hC.sd x y hf hx r hne hd⟩
  cases hy : f y with
  | none => exact absurd hy hlt.1
  | some z => exact hP.lt y (hC.rch y z hy)
open Classical in
/-- The table of the nearest ones; -1: none. -/
noncomputable def nearI (nx : Nat → List Nat) (n : Nat) (p : Nat) : Int := if h : ∃ q, NearP nx n p q then (Classical.choose h : Nat) else -1
theorem nearI_of {p q : Nat} (h : NearP nx n p q) : nearI nx n p = q := by
  unfold nearI
  rw [dif_pos ⟨q, h⟩]
  exact congrArg _ ((Classical.choose_spec ⟨q, h⟩ : NearP nx n p _).uniq h)
theorem nearI_none {p : Nat} (h : ¬ ∃ q, NearP nx n p q) : nearI nx n p = -1 := by
  unfold nearI
  rw [dif_neg h]
theorem near_top : ¬ ∃ q, NearP nx n n q := fun ⟨q, h⟩ => h.2.1 h.2.2.1.top
theorem near_off {p : Nat} (h : ¬ Av nx n (-1) p) : ¬ ∃ q, NearP nx n p q := fun ⟨q, hq⟩ => h hq.2.2.1.1
end
end Go.Proofs.Ytjlikbaamefkiaa
