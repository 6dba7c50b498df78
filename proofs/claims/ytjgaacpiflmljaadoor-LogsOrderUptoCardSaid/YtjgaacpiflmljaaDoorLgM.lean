/- What LogsOrder compares: plain. -/
import Derived.Test.YtjgaacpiflmljaaDoorLgF
namespace Go.Proofs.YtjgaacpiflmljaaDoor
theorem cmn_self : ∀ xs : List Int, cmn xs xs = xs.length
  | [] => rfl
  | x :: xs => by unfold cmn; rw [if_pos rfl, cmn_self xs]; rfl
theorem cmn_comm : ∀ xs ys : List Int, cmn xs ys = cmn ys xs
  | [], [] => rfl
  | [], y :: ys => rfl
  | x :: xs, [] => rfl
  | x :: xs, y :: ys => by
    unfold cmn
    by_cases h : x = y
    · rw [if_pos h, if_pos h.symm, cmn_comm xs ys]
    · rw [if_neg h, if_neg (fun e => h e.symm)]
theorem cmn_take : ∀ xs ys : List Int, xs.take (cmn xs ys) = ys.take (cmn xs ys)
  | [], ys => by simp [cmn]
  | x :: xs, [] => by simp [cmn]
  | x :: xs, y :: ys => by
    unfold cmn
    by_cases h : x = y
    · subst h
      rw [if_pos rfl, List.take_succ_cons, List.take_succ_cons, cmn_take xs ys]
    · rw [if_neg h]; simp
theorem cmn_of_take : ∀ (xs ys : List Int) (k : Nat), k ≤ xs.length → xs.take k = ys.take k → k ≤ ys.length → k ≤ cmn xs ys
  | xs, ys, 0, _, _, _ => Nat.zero_le _
  | [], ys, k + 1, h, _, _ => by simp at h
  | x :: xs, [], k + 1, _, _, h => by simp at h
  | x :: xs, y :: ys, k + 1, h1, h2, h3 => by
    rw [List.take_succ_cons, List.take_succ_cons] at h2
    obtain ⟨e, h4⟩ := List.cons.inj h2
    unfold cmn
    rw [if_pos e]
    have := cmn_of_take xs ys k (by simpa using h1) h4 (by simpa using h3)
    omega
theorem cmn_next {xs ys : List Int} {x : Int} (h1 : xs[cmn xs ys]? = some x) (h2 : ys[cmn xs ys]? = some x) : False := by
  have l1 := (List.getElem?_eq_some_iff.1 h1).1
  have l2 := (List.getElem?_eq_some_iff.1 h2).1
  have := cmn_of_take xs ys (cmn xs ys + 1) l1 (by rw [List.take_add_one, List.take_add_one, h1, h2, cmn_take xs ys]) l2
  omega
theorem pre_self (xs : List Int) : pre xs xs = true := by unfold pre; rw [cmn_self]; simp
theorem pre_take (xs ys : List Int) : pre (xs.take (cmn xs ys)) xs = true := by
  unfold pre
  have h := (cmn_le xs ys).1
  have hl : (xs.take (cmn xs ys)).length = cmn xs ys := by rw [List.length_take]; omega
  have h1 := cmn_of_take (xs.take (cmn xs ys)) xs (cmn xs ys) (by rw [hl]; exact Nat.le_refl _) (by rw [List.take_take, Nat.min_self]) h
  have h2 := (cmn_le (xs.take (cmn xs ys)) xs).1
  rw [decide_eq_true_iff]
  omega
theorem pre_take' (xs ys : List Int) : pre (xs.take (cmn xs ys)) ys = true := by
  rw [cmn_take, cmn_comm]
  exact pre_take ys xs
theorem pre_eq {xs ys : List Int} (h : pre xs ys = true) (hl : xs.length = ys.length) : xs = ys := by
  unfold pre at h
  rw [decide_eq_true_iff] at h
  have := cmn_take xs ys
  rw [h, List.take_length, hl, List.take_length] at this
  exact this
theorem alikeF_self (x : List Int) : alikeF x x = true := by unfold alikeF; rw [pre_self]; rfl
theorem alikeF_comm (x y : List Int) : alikeF x y = alikeF y x := by unfold alikeF; rw [Bool.or_comm]
theorem alikeF_same {x y : List Int} : sameF x y = (alikeF x y && decide (x.length = y.length)) := by
  unfold sameF
  by_cases h : x = y
  · subst h; rw [alikeF_self]; simp
  · rw [decide_eq_false h]
    symm
    rw [Bool.and_eq_false_iff]
    by_cases hl : x.length = y.length
    · left
      unfold alikeF
      rw [Bool.or_eq_false_iff]
      constructor
      · cases hp : pre x y with
        | false => rfl
        | true => exact absurd (pre_eq hp hl) h
      · cases hp : pre y x with
        | false => rfl
        | true => exact absurd (pre_eq hp hl.symm).symm h
    · right; simp [hl]
section
variable {ch : List Int} {l : Int} {a b : List (List Int)}
theorem allB_self (h : a.length = ch.length) {hf : List Int → List Int → Bool} (hs : ∀ x, hf x x = true) : allB hf ch l a a = true := by
  unfold allB fails
  rw [decide_eq_true h]
  simp [hs]
theorem allB_comm (h1 : a.length = ch.length) (h2 : b.length = ch.length) : allB alikeF ch l b a = allB alikeF ch l a b := by
  unfold allB fails
  rw [decide_eq_true h1, decide_eq_true h2]
  congr 1
  apply congrArg (fun f => (withL ch l ch.length).all f)
  funext k
  rw [alikeF_comm]
theorem allB_less {s : Int} (h : allB alikeF ch l a b = true) : allB alikeF ch (bits .and .u64 l s) a b = true := by
  unfold allB at h ⊢
  rw [Bool.and_eq_true] at h ⊢
  refine ⟨h.1, ?_⟩
  rw [List.all_eq_true] at *
  intro k hk
  obtain ⟨h1, x, h2, h3⟩ := mem_withL.1 hk
  exact h.2 k (mem_withL.2 ⟨h1, x, h2, wi_less h3⟩)
/-- Are those that are seen as long? -/
def longB (a b : List (List Int)) (ws : List Nat) : Bool := ws.all fun k => decide ((a.getD k []).length = (b.getD k []).length)
theorem allB_same : allB sameF ch l a b = (allB alikeF ch l a b && longB a b (withL ch l ch.length)) := by
  have key : ((withL ch l ch.length).all fun k => sameF (a.getD k []) (b.getD k [])) = (((withL ch l ch.length).all fun k => alikeF (a.getD k []) (b.getD k [])) && (withL ch l ch.length).all fun k => decide ((a.getD k []).length = (b.getD k []).length)) := by
    rw [Bool.eq_iff_iff, Bool.and_eq_true, List.all_eq_true, List.all_eq_true, List.all_eq_true]
    constructor
    · intro h
      refine ⟨fun k hk => ?_, fun k hk => ?_⟩
      · have := h k hk; rw [alikeF_same, Bool.and_eq_true] at this; exact this.1
      · have := h k hk; rw [alikeF_same, Bool.and_eq_true] at this; exact this.2
    · rintro ⟨h1, h2⟩ k hk
      rw [alikeF_same, Bool.and_eq_true]
      exact ⟨h1 k hk, h2 k hk⟩
  unfold allB longB fails
  simp only [Bool.not_not]
  rw [key, Bool.and_assoc (decide _ && decide _)]
theorem allB_seen {n : Nat} (hn : ch.length = n) (ha : a.length = n) {f : Nat → List Int} (hf : ∀ (k : Nat) (x : List Int), a[k]? = some x → f k = x) : allB sameF ch l a (fillT n f (fun k => (withL ch l n).contains k)) = true := by
  subst hn
  unfold allB fails
  rw [decide_eq_true ha, decide_eq_true (fillT_len _ _ _)]
  simp only [Bool.and_self, Bool.true_and, Bool.not_not]
  rw [List.all_eq_true]
  intro k hk
  have hkn := (mem_withL.1 hk).1
  obtain ⟨x, hx⟩ : ∃ x, a[k]? = some x := ⟨_, List.getElem?_eq_getElem (by rw [ha]; exact hkn)⟩
  have hc : (withL ch l ch.length).contains k = true := by rw [List.contains_iff_mem]; exact hk
  rw [List.getD_eq_getElem?_getD, List.getD_eq_getElem?_getD, hx, fillT_get hkn, hc]
  simp only [if_true, Option.getD_some]
  rw [hf k x hx]
  unfold sameF
  simp
end
end Go.Proofs.YtjgaacpiflmljaaDoor
