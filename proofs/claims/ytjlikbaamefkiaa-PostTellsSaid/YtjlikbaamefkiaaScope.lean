/- A scope whose run jumps back to one label: by a ghost that each jump lowers; the pass from the label is shown once. -/
import Derived.Test.YtjlikbaamefkiaaLib
import Derived.ScopeJumps
import Derived.Control
namespace Go.Proofs.Ytjlikbaamefkiaa
section
variable {P : Program} {a : Act} {w : World} {Q : Exit → Act → World → Prop}
theorem jump_mono {l : Nat} {J J' : Act → World → Prop} (h : ∀ a w, J a w → J' a w) : ∀ (e : Exit) (a : Act) (w : World), Exit.jump l J Q e a w → Exit.jump l J' Q e a w := by
  intro e a w hq
  cases e with
  | goto l' => exact ⟨hq.1, h _ _ hq.2⟩
  | _ => exact hq
open Classical in
theorem wp_scope_ghost {c X : Code} (l : Nat) (J : Nat → Act → World → Prop) (hf : findLabel c l = some (Code.skip.seq X))
    (pass : ∀ g a w, J g a w → X.wp P (Exit.jump l (fun a' w' => ∃ g', g' < g ∧ J g' a' w') Q) a w)
    (first : (∀ g a w, J g a w → X.wp P (Exit.jump l (fun a' w' => ∃ g', J g' a' w') Q) a w) → c.wp P (Exit.jump l (fun a' w' => ∃ g', J g' a' w') Q) a w) : (Code.scope c).wp P Q a w := by
  have least : ∀ (a : Act) (w : World), (∃ g, J g a w) → ∃ g, J g a w ∧ ∀ g', J g' a w → g ≤ g' := by
    intro a w ⟨g, hg⟩
    induction g using Nat.strongRecOn with
    | _ g ih =>
      by_cases h : ∃ g', g' < g ∧ J g' a w
      · obtain ⟨g', h1, h2⟩ := h
        exact ih g' h1 h2
      · exact ⟨g, hg, fun g' hg' => by
          rcases Nat.lt_or_ge g' g with h1 | h1
          · exact absurd ⟨g', h1, hg'⟩ h
          · exact h1⟩
  refine wp_scope_jumps l (fun a w => ∃ g, J g a w) (fun a w => if h : ∃ g, J g a w then Classical.choose (least a w h) else 0) hf (first fun g a w hg => wp_mono (pass g a w hg) (jump_mono fun a' w' ⟨g', _, h⟩ => ⟨g', h⟩)) ?_
  intro a w hJ
  obtain ⟨h1, h2⟩ := Classical.choose_spec (least a w hJ)
  rw [dif_pos hJ]
  refine wp_seq (wp_skip ?_)
  refine wp_mono (pass _ a w h1) (jump_mono ?_)
  rintro a' w' ⟨g', hlt, hg'⟩
  have hJ' : ∃ g, J g a' w' := ⟨g', hg'⟩
  refine ⟨hJ', ?_⟩
  rw [dif_pos hJ']
  obtain ⟨h3, h4⟩ := Classical.choose_spec (least a' w' hJ')
  exact Nat.lt_of_le_of_lt (h4 g' hg') hlt
end
end Go.Proofs.Ytjlikbaamefkiaa
