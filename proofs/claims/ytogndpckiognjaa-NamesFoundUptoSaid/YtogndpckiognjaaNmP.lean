/- A source without a fault: all its names are names, no two of a function's are one, each use is found as what it must be. -/
import Derived.Test.YtogndpckiognjaaNmZ
namespace Go.Proofs.Ytogndpckiognjaa
set_option linter.unusedVariables false
set_option linter.unusedSimpArgs false
theorem tell_zero {b : Bool} {er fn a : Int} {x : Flt} (her : er ≠ 0) (h : (tellF b er fn a x).1 = 0) : b = false ∧ x.1 = 0 := by
  unfold tellF at h
  split at h
  · exact absurd h her
  · rename_i h1
    refine ⟨?_, h⟩
    cases b with
    | false => rfl
    | true => exact absurd ⟨rfl, h⟩ h1
theorem use_zero {s : Src} {f a : Int} {nm : ByteArray} {ks : List Int} {x : Flt} (h : (useF s f a nm ks x).1 = 0) : (s.find f nm).2.2 = true ∧ (ks.any fun k => (s.find f nm).1 == k) = true ∧ x.1 = 0 := by
  unfold useF at h
  obtain ⟨h1, h2⟩ := tell_zero (by decide) h
  obtain ⟨h3, h4⟩ := tell_zero (by decide) h2
  exact ⟨by simpa using h3, by simpa using h1, h4⟩
theorem foldl_zero {α : Type} {f : Flt → α → Flt} (hf : ∀ x a, (f x a).1 = 0 → x.1 = 0) : ∀ (l : List α) (x : Flt), (l.foldl f x).1 = 0 → x.1 = 0 ∧ ∀ a ∈ l, ∃ y, y.1 = 0 ∧ (f y a).1 = 0
  | [], x, h => ⟨h, fun a ha => by cases ha⟩
  | b :: l, x, h => by
    obtain ⟨h1, h2⟩ := foldl_zero hf l (f x b) h
    refine ⟨hf x b h1, fun a ha => ?_⟩
    rcases List.mem_cons.1 ha with rfl | h3
    · exact ⟨x, hf _ _ h1, h1⟩
    · exact h2 a h3
/-- A statement's uses: the name, and two kinds that it may be. -/
def uterm (t : Term) : List (ByteArray × Int × Int) := if t.kind = 2 then [(t.name, 1, 2)] else if t.kind = 3 then [(t.name, 3, 3)] else []
def ukind (st : Stmt) : List (ByteArray × Int × Int) := if st.kind = 2 ∨ st.kind = 3 ∨ st.kind = 4 then [(st.name, st.kind + 1, st.kind + 1)] else []
def useL (st : Stmt) : List (ByteArray × Int × Int) := st.targets.map (fun n => (n, 1, 2)) ++ ukind st ++ st.exprs.flatMap fun e => e.flatMap uterm
/-- A use that is found as what it may be. -/
def UseOk (s : Src) (f : Int) (u : ByteArray × Int × Int) : Prop := (s.find f u.1).2.2 = true ∧ ((s.find f u.1).1 = u.2.1 ∨ (s.find f u.1).1 = u.2.2)
theorem term_zero {s : Src} {f a : Int} {x : Flt} {t : Term} (h : (termF s f a x t).1 = 0) : x.1 = 0 ∧ ∀ u ∈ uterm t, UseOk s f u := by
  unfold termF at h
  unfold uterm
  split at h
  · rename_i h1
    rw [if_pos h1]
    obtain ⟨h2, h3, h4⟩ := use_zero h
    refine ⟨h4, fun u hu => ?_⟩
    rw [List.mem_singleton.1 hu]
    refine ⟨h2, ?_⟩
    simpa using h3
  · rename_i h1
    rw [if_neg h1]
    split at h
    · rename_i h5
      rw [if_pos h5]
      obtain ⟨h2, h3, h4⟩ := use_zero h
      refine ⟨h4, fun u hu => ?_⟩
      rw [List.mem_singleton.1 hu]
      refine ⟨h2, ?_⟩
      simpa using h3
    · rename_i h5
      rw [if_neg h5]
      exact ⟨h, fun u hu => by cases hu⟩
theorem expr_zero {s : Src} {f a : Int} {x : Flt} {e : List Term} (h : (exprF s f a x e).1 = 0) : x.1 = 0 ∧ ∀ u ∈ e.flatMap uterm, UseOk s f u := by
  obtain ⟨h1, h2⟩ := foldl_zero (fun x t h => (term_zero h).1) e x h
  refine ⟨h1, fun u hu => ?_⟩
  obtain ⟨t, ht, hu2⟩ := List.mem_flatMap.1 hu
  obtain ⟨y, _, hy⟩ := h2 t ht
  exact (term_zero hy).2 u hu2
theorem kind_zero {s : Src} {f a : Int} {x : Flt} {st : Stmt} (h : (kindUse s f a st x).1 = 0) : x.1 = 0 ∧ ∀ u ∈ ukind st, UseOk s f u := by
  have key : ∀ (k : Int), st.kind = k → (k = 2 ∨ k = 3 ∨ k = 4) → (useF s f a st.name [k + 1] x).1 = 0 → x.1 = 0 ∧ ∀ u ∈ ukind st, UseOk s f u := by
    intro k hk h1 h2
    obtain ⟨h3, h4, h5⟩ := use_zero h2
    refine ⟨h5, fun u hu => ?_⟩
    unfold ukind at hu
    rw [hk, if_pos h1] at hu
    rw [List.mem_singleton.1 hu]
    refine ⟨h3, .inl ?_⟩
    simpa using h4
  unfold kindUse at h
  split at h
  · rename_i h1
    exact key 2 h1 (by omega) h
  · split at h
    · rename_i h1
      exact key 3 h1 (by omega) h
    · split at h
      · rename_i h1
        exact key 4 h1 (by omega) h
      · rename_i h1 h2 h3
        refine ⟨h, fun u hu => ?_⟩
        unfold ukind at hu
        rw [if_neg (by omega)] at hu
        cases hu
theorem uses_zero {s : Src} {f a : Int} {x : Flt} {st : Stmt} (h : (usesF s f a st x).1 = 0) : x.1 = 0 ∧ ∀ u ∈ useL st, UseOk s f u := by
  unfold usesF at h
  obtain ⟨h1, h2⟩ := foldl_zero (fun x e h => (expr_zero h).1) _ _ h
  obtain ⟨h3, h4⟩ := kind_zero h1
  obtain ⟨h5, h6⟩ := foldl_zero (f := fun x nm => useF s f a nm [1, 2] x) (fun x e h => (use_zero h).2.2) _ _ h3
  refine ⟨h5, fun u hu => ?_⟩
  unfold useL at hu
  rcases List.mem_append.1 hu with hu | hu
  · rcases List.mem_append.1 hu with hu | hu
    · obtain ⟨n, hn, rfl⟩ := List.mem_map.1 hu
      obtain ⟨y, _, hy⟩ := h6 n hn
      obtain ⟨h7, h8, _⟩ := use_zero hy
      exact ⟨h7, by simpa using h8⟩
    · exact h4 u hu
  · obtain ⟨e, he, hu2⟩ := List.mem_flatMap.1 hu
    obtain ⟨y, _, hy⟩ := h2 e he
    exact (expr_zero hy).2 u hu2
theorem ret_zero {f a : Int} {g : FDecl} {st : Stmt} {x : Flt} (h : (retF f a g st x).1 = 0) : x.1 = 0 := by
  unfold retF at h
  split at h
  · exact (tell_zero (by decide) h).2
  · exact h
theorem call_zero {s : Src} {f a : Int} {st : Stmt} {x : Flt} (h : (callF s f a st x).1 = 0) : x.1 = 0 := by
  unfold callF at h
  split at h
  · split at h
    · exact (tell_zero (by decide) h).2
    · exact h
  · exact h
theorem stmt_zero {s : Src} {f a : Int} {g : FDecl} {st : Stmt} {x : Flt} (h : (stmtF s f a g st x).1 = 0) : x.1 = 0 ∧ st.fits = true ∧ longF st = false ∧ ∀ u ∈ useL st, UseOk s f u := by
  unfold stmtF at h
  obtain ⟨h1, h2⟩ := uses_zero (ret_zero (call_zero h))
  obtain ⟨h6, h3⟩ := tell_zero (by decide) h1
  obtain ⟨h4, h5⟩ := tell_zero (by decide) h3
  exact ⟨h5, by simpa using h4, h6, h2⟩
theorem body_zero {s : Src} {f : Int} {g : FDecl} : ∀ (l : List Stmt) (a : Nat) (x : Flt), (bodyF s f g l a x).1 = 0 → x.1 = 0 ∧ ∀ st ∈ l, st.fits = true ∧ longF st = false ∧ ∀ u ∈ useL st, UseOk s f u
  | [], _, x, h => ⟨h, fun st hs => by cases hs⟩
  | b :: l, a, x, h => by
    unfold bodyF at h
    split at h
    · rename_i hx
      obtain ⟨h1, h2⟩ := body_zero l (a + 1) _ h
      obtain ⟨h3, h4, h5⟩ := stmt_zero h1
      refine ⟨h3, fun st hs => ?_⟩
      rcases List.mem_cons.1 hs with rfl | hs
      · exact ⟨h4, h5⟩
      · exact h2 st hs
    · rename_i hx
      exact absurd h hx
theorem posL_neg : ∀ {l : List ByteArray} {s : ByteArray} {n : Nat}, posL l s n < 0 → s ∉ l
  | [], _, _, _ => by simp
  | x :: xs, s, n, h => by
    unfold posL at h
    split at h
    · omega
    · rename_i h1
      have := posL_neg h
      intro hm
      rcases List.mem_cons.1 hm with rfl | hm
      · exact h1 rfl
      · exact this hm
theorem cnt_zero : ∀ {ns : List ByteArray} {s : ByteArray}, ¬ 0 < cntN ns s → s ∉ ns
  | [], _, _ => by simp
  | x :: xs, s, h => by
    unfold cntN at h
    have h0 := cntN_le xs s
    split at h
    · omega
    · rename_i h1
      have := cnt_zero (ns := xs) (s := s) (by omega)
      intro hm
      rcases List.mem_cons.1 hm with rfl | hm
      · exact h1 rfl
      · exact this hm
/-- All names that are declared for all. -/
def Src.all (s : Src) : List ByteArray := s.globals.map (·.name) ++ s.arrays.map (·.name) ++ s.channels.map (·.name) ++ s.funcs.map (·.name)
theorem glob_none {s : Src} {nm : ByteArray} (h : (s.glob nm).2.2 = false) : nm ∉ s.all := by
  unfold Src.glob at h
  split at h
  · cases h
  · split at h
    · cases h
    · split at h
      · cases h
      · split at h
        · cases h
        · rename_i h1 h2 h3 h4
          unfold Src.all
          simp only [List.mem_append, not_or]
          exact ⟨⟨⟨posL_neg (n := 0) (by unfold pos at h1; omega), posL_neg (n := 0) (by unfold pos at h2; omega)⟩, posL_neg (n := 0) (by unfold pos at h3; omega)⟩, posL_neg (n := 0) (by unfold pos at h4; omega)⟩
/-- No two are one, and each is a name. -/
def Good (l : List ByteArray) : Prop := l.Nodup ∧ ∀ x ∈ l, nameOk x = true
theorem Good.snoc {l : List ByteArray} {x : ByteArray} (h : Good l) (hx : x ∉ l) (hn : nameOk x = true) : Good (l ++ [x]) := by
  refine ⟨List.nodup_append.2 ⟨h.1, by simp, fun a ha b hb => ?_⟩, fun y hy => ?_⟩
  · rw [List.mem_singleton.1 hb]
    rintro rfl
    exact hx ha
  · rcases List.mem_append.1 hy with h1 | h1
    · exact h.2 y h1
    · rw [List.mem_singleton.1 h1]; exact hn
theorem one_zero {np : Nat} {n i most : Int} {nm : ByteArray} {long l : Int} {ns : List ByteArray} {x : Flt} (h : (oneF np n i most nm long l ns x).1 = 0) : x.1 = 0 ∧ nm ∉ ns ∧ nameOk nm = true := by
  unfold oneF at h
  obtain ⟨_, h1⟩ := tell_zero (by decide) h
  obtain ⟨_, h2⟩ := tell_zero (by decide) h1
  obtain ⟨h3, h4⟩ := tell_zero (by decide) h2
  obtain ⟨h5, h6⟩ := tell_zero (by decide) h4
  obtain ⟨_, h7⟩ := tell_zero (by decide) h6
  exact ⟨h7, cnt_zero (of_decide_eq_false h3), by simpa using h5⟩
theorem oneL_zero {α : Type} {np : Nat} {most : Int} {f : α → ByteArray × Int × Int} {n : Nat} {ns : List ByteArray} {l : List α} : ∀ (r : List α) (k : Nat) (x : Flt), l.drop k = r → (oneL np most f n ns l k r x).1 = 0 → x.1 = 0 ∧ (Good (ns ++ (l.take k).map fun y => (f y).1) → Good (ns ++ l.map fun y => (f y).1))
  | [], k, x, hr, h => by
    refine ⟨h, fun hg => ?_⟩
    have : l.length ≤ k := List.drop_eq_nil_iff.1 hr
    rwa [List.take_of_length_le this] at hg
  | a :: r, k, x, hr, h => by
    unfold oneL at h
    have hk : l[k]? = some a := by
      have := congrArg (fun z => z[0]?) hr
      simpa [List.getElem?_drop] using this
    have hr2 : l.drop (k + 1) = r := by
      rw [← List.drop_drop, hr]
      rfl
    obtain ⟨h1, h2⟩ := oneL_zero r (k + 1) _ hr2 h
    obtain ⟨h3, h4, h5⟩ := one_zero h1
    refine ⟨h3, fun hg => h2 ?_⟩
    rw [map_take _ hk, ← List.append_assoc]
    exact hg.snoc h4 h5
theorem decl_zero {s : Src} {x : Flt} (h : (declF s x).1 = 0) : Good s.all := by
  unfold declF at h
  obtain ⟨h1, g1⟩ := oneL_zero _ 0 _ rfl h
  obtain ⟨h2, g2⟩ := oneL_zero _ 0 _ rfl h1
  obtain ⟨h3, g3⟩ := oneL_zero _ 0 _ rfl h2
  obtain ⟨h4, g4⟩ := oneL_zero _ 0 _ rfl h3
  have e0 : Good ([] : List ByteArray) := ⟨by simp, by simp⟩
  have e1 := g4 (by simpa using e0)
  have e2 := g3 (by simpa using e1)
  have e3 := g2 (by simpa using e2)
  have e4 := g1 (by simpa using e3)
  exact e4
theorem loc_zero {s : Src} {f : Int} {ls : List Decl} : ∀ (r : List Decl) (k : Nat) (x : Flt), ls.drop k = r → (locF s f ls r k x).1 = 0 → x.1 = 0 ∧ (Good (s.all ++ (ls.take k).map (·.name)) → Good (s.all ++ ls.map (·.name)))
  | [], k, x, hr, h => by
    refine ⟨h, fun hg => ?_⟩
    have : ls.length ≤ k := List.drop_eq_nil_iff.1 hr
    rwa [List.take_of_length_le this] at hg
  | a :: r, k, x, hr, h => by
    unfold locF at h
    have hk : ls[k]? = some a := by
      have := congrArg (fun z => z[0]?) hr
      simpa [List.getElem?_drop] using this
    have hr2 : ls.drop (k + 1) = r := by
      rw [← List.drop_drop, hr]
      rfl
    obtain ⟨h1, h2⟩ := loc_zero r (k + 1) _ hr2 h
    obtain ⟨_, h3⟩ := tell_zero (by decide) h1
    obtain ⟨h4, h5⟩ := tell_zero (by decide) h3
    obtain ⟨h6, h7⟩ := tell_zero (by decide) h5
    rw [Bool.or_eq_false_iff] at h4
    refine ⟨h7, fun hg => h2 ?_⟩
    rw [map_take (·.name) hk, ← List.append_assoc]
    refine hg.snoc ?_ (by simpa using h6)
    rw [List.mem_append, not_or]
    have h8 := of_decide_eq_false h4.2
    exact ⟨glob_none h4.1, posL_neg (n := 0) (by unfold pos at h8; omega)⟩
theorem res_zero {np : Nat} {f : Int} : ∀ (l : List Int) (x : Flt), (resF np f l x).1 = 0 → x.1 = 0
  | [], x, h => h
  | a :: l, x, h => (tell_zero (by decide) (res_zero l _ h)).2
theorem head_zero {s : Src} {f : Int} {g : FDecl} {x : Flt} (h : (headF s f g x).1 = 0) : x.1 = 0 ∧ (Good s.all → Good (s.all ++ g.locals.map (·.name))) := by
  unfold headF at h
  obtain ⟨_, h1⟩ := tell_zero (by decide) h
  obtain ⟨_, h2⟩ := tell_zero (by decide) h1
  obtain ⟨h3, h4⟩ := loc_zero _ 0 _ rfl (res_zero _ _ h2)
  obtain ⟨_, h5⟩ := tell_zero (by decide) h3
  obtain ⟨_, h6⟩ := tell_zero (by decide) h5
  exact ⟨h6, fun hg => h4 (by simpa using hg)⟩
/-- A function without a fault. -/
structure FunOk (s : Src) (k : Nat) (g : FDecl) : Prop where
  names : Good (s.all ++ g.locals.map (·.name))
  body : ∀ st ∈ g.body, st.fits = true ∧ longF st = false ∧ ∀ u ∈ useL st, UseOk s k u
theorem funs_zero {s : Src} (hg : Good s.all) : ∀ (l : List FDecl) (k : Nat) (x : Flt), s.funcs.drop k = l → (funsF s l k x).1 = 0 → x.1 = 0 ∧ ∀ (j : Nat) (g : FDecl), k ≤ j → s.funcs[j]? = some g → FunOk s j g
  | [], k, x, hl, h => by
    refine ⟨h, fun j g hj hgj => ?_⟩
    have h1 : s.funcs.length ≤ k := List.drop_eq_nil_iff.1 hl
    have h2 := (List.getElem?_eq_some_iff.1 hgj).1
    omega
  | a :: l, k, x, hl, h => by
    unfold funsF at h
    have hk : s.funcs[k]? = some a := by
      have := congrArg (fun z => z[0]?) hl
      simpa [List.getElem?_drop] using this
    have hl2 : s.funcs.drop (k + 1) = l := by
      rw [← List.drop_drop, hl]
      rfl
    split at h
    · obtain ⟨h1, h2⟩ := funs_zero hg l (k + 1) _ hl2 h
      unfold funF at h1
      obtain ⟨h3, h4⟩ := body_zero _ _ _ h1
      obtain ⟨h5, h6⟩ := head_zero h3
      refine ⟨h5, fun j g hj hgj => ?_⟩
      rcases Nat.lt_or_ge k j with h7 | h7
      · exact h2 j g h7 hgj
      · obtain rfl : j = k := by omega
        rw [hk] at hgj
        obtain rfl := Option.some.inj hgj
        exact ⟨h6 hg, h4⟩
    · rename_i hx
      exact absurd h hx
theorem check_zero {s : Src} (h : (checkF s).1 = 0) : ∀ (j : Nat) (g : FDecl), s.funcs[j]? = some g → FunOk s j g := by
  unfold checkF at h
  have key : ∀ (l : List FDecl) (k : Nat) (x : Flt), (funsF s l k x).1 = 0 → x.1 = 0 := by
    intro l
    induction l with
    | nil => intro k x h; exact h
    | cons a l ih =>
      intro k x h
      unfold funsF at h
      split at h
      · assumption
      · exact h
  exact fun j g hj => (funs_zero (decl_zero (key _ _ _ h)) _ 0 _ rfl h).2 j g (Nat.zero_le _) hj
theorem long_false {st : Stmt} (h : longF st = false) : st.exprs.length ≤ 8 ∧ ∀ e ∈ st.exprs, e.length ≤ 48 := by
  unfold longF at h
  rw [Bool.or_eq_false_iff] at h
  refine ⟨by have := of_decide_eq_false h.2; omega, fun e he => ?_⟩
  have h1 := List.any_eq_false.1 h.1 e he
  have h2 : ¬ (48 < (e.length : Int)) := by simpa using h1
  omega
end Go.Proofs.Ytogndpckiognjaa
