/- Ways to the exit that pass a node or do not: plain, no program. -/
import Derived.Test.YtjlikbaamefkiaaRef14
namespace Go.Proofs.Ytjlikbaamefkiaa

/-- There is a way from a node to n that does not pass q. -/
inductive Av (nx : Nat → List Nat) (n : Nat) (q : Int) : Nat → Prop
  | base : (n : Int) ≠ q → Av nx n q n
  | step {p b : Nat} : p < n → (p : Int) ≠ q → b ∈ nx p → Av nx n q b → Av nx n q p

/-- What the reference's table of marks is at the end: just the nodes with a way. -/
theorem marks_all {nx : Nat → List Nat} {n : Nat} {q : Int} {l : List Bool} (hlen : l.length = n + 1) (hn : l[n]? = some (decide ((n : Int) ≠ q))) (hs : ∀ p : Nat, l[p]? = some true → Av nx n q p)
    (hf : ∀ p : Nat, p < n → (p : Int) ≠ q → l[p]? = some false → ∀ b ∈ nx p, l[b]? = some false) (p : Nat) (hp : p ≤ n) : l[p]? = some true ↔ Av nx n q p := by
  refine ⟨hs p, fun h => ?_⟩
  induction h with
  | base h => rw [hn]; simp [h]
  | @step p b h1 h2 h3 h4 ih =>
    by_cases hb : b ≤ n
    · have ih := ih hb
      cases hc : l[p]? with
      | none => rw [List.getElem?_eq_none_iff] at hc; omega
      | some v =>
        cases v with
        | true => rfl
        | false => have := hf p h1 h2 hc b h3; rw [this] at ih; cases ih
    · cases h4 with
      | base => omega
      | step h => omega
end Go.Proofs.Ytjlikbaamefkiaa
