/- louverref14.Without and Reach, louverref15.Dominates. -/
import Derived.Test.YtjlikbaamefkiaaNear
import Derived.Deep.RegionWith
import Derived.BigRegion
namespace Go.Proofs.Ytjlikbaamefkiaa
open Go.RowKit
set_option linter.unusedVariables false
set_option linter.unusedSimpArgs false
set_option maxHeartbeats 2000000

/-- What holds of the queue and the marks all along. -/
structure RchI (nx : Nat → List Nat) (n p : Nat) (q : Int) (i : Nat) (qs : List Nat) (l : List Bool) : Prop where
  len : l.length = n + 1
  nod : qs.Nodup
  le : ∀ x ∈ qs, x ≤ n
  mark : ∀ x, x ≤ n → (l[x]? = some (decide (x ∈ qs)))
  ne : ∀ x ∈ qs, (x : Int) ≠ q
  first : p ∈ qs
  snd : ∀ x ∈ qs, Av nx n q x → Av nx n q p
  ile : i ≤ qs.length
  done : ∀ (k x : Nat), k < i → qs[k]? = some x → ∀ b ∈ nx x, (b : Int) ≠ q → b ∈ qs
theorem nod_len {l : List Nat} {n : Nat} (h : l.Nodup) (hl : ∀ x ∈ l, x ≤ n) : l.length ≤ n + 1 := by
  have : ∀ (m : Nat) (l : List Nat), l.Nodup → (∀ x ∈ l, x < m) → l.length ≤ m := by
    intro m
    induction m with
    | zero =>
      intro l _ h2
      cases l with
      | nil => simp
      | cons x l => have := h2 x (by simp); omega
    | succ m ih =>
      intro l h1 h2
      by_cases hm : m ∈ l
      · have h3 := ih (l.erase m) (h1.erase m) (fun x hx => by
          have h4 := h2 x (List.mem_of_mem_erase hx)
          have h5 : x ≠ m := fun e => by subst e; exact (h1.mem_erase_iff.1 hx).1 rfl
          omega)
        rw [List.length_erase_of_mem hm] at h3
        omega
      · have := ih l h1 (fun x hx => by
          have h4 := h2 x hx
          have h5 : x ≠ m := fun e => hm (by rw [← e]; exact hx)
          omega)
        omega
  exact this (n + 1) l h fun x hx => Nat.lt_succ_of_le (hl x hx)
section
variable {nx : Nat → List Nat} {n p : Nat} {q : Int}
theorem RchI.small {i : Nat} {qs : List Nat} {l : List Bool} (h : RchI nx n p q i qs l) : qs.length ≤ n + 1 := nod_len h.nod h.le
theorem RchI.start (hp : p ≤ n) (hq : (p : Int) ≠ q) : RchI nx n p q 0 [p] ((List.replicate (n + 1) false).set p true) := by
  refine ⟨by simp, by simp, by simpa using hp, fun x hx => ?_, by simpa using hq, by simp, by simp, by simp, fun k x hk => by omega⟩
  by_cases e : p = x
  · subst e
    rw [List.getElem?_set_self (by simp; omega)]
    simp
  · rw [List.getElem?_set_ne e, List.getElem?_replicate, if_pos (by omega)]
    simp [Ne.symm e]
/-- One more, not met before. -/
theorem RchI.push {i a b : Nat} {qs : List Nat} {l : List Bool} (h : RchI nx n p q i qs l) (ha : a ∈ qs) (han : a < n) (hb : b ∈ nx a) (hbn : b ≤ n) (hbq : (b : Int) ≠ q) (hnew : b ∉ qs) : RchI nx n p q i (qs ++ [b]) (l.set b true) := by
  refine ⟨by rw [List.length_set]; exact h.len, ?_, fun x hx => ?_, fun x hx => ?_, fun x hx => ?_, by simp [h.first], fun x hx hav => ?_, by have := h.ile; simp; omega, fun k x hk hx y hy hyq => ?_⟩
  · rw [List.nodup_append]
    refine ⟨h.nod, by simp, fun x hx y hy => ?_⟩
    rw [List.mem_singleton] at hy
    subst hy
    intro e
    subst e
    exact hnew hx
  · rcases List.mem_append.1 hx with hx | hx
    · exact h.le x hx
    · rw [List.mem_singleton.1 hx]; exact hbn
  · by_cases e : b = x
    · subst e
      rw [List.getElem?_set_self (by rw [h.len]; omega)]
      simp
    · rw [List.getElem?_set_ne e, h.mark x hx]
      simp [Ne.symm e]
  · rcases List.mem_append.1 hx with hx | hx
    · exact h.ne x hx
    · rw [List.mem_singleton.1 hx]; exact hbq
  · rcases List.mem_append.1 hx with hx | hx
    · exact h.snd x hx hav
    · rw [List.mem_singleton.1 hx] at hav
      exact h.snd a ha (.step han (h.ne a ha) hb hav)
  · rw [List.getElem?_append_left (by have := h.ile; omega)] at hx
    exact List.mem_append_left _ (h.done k x hk hx y hy hyq)
theorem RchI.next {i a : Nat} {qs : List Nat} {l : List Bool} (h : RchI nx n p q i qs l) (hi : qs[i]? = some a) (hall : ∀ b ∈ nx a, (b : Int) ≠ q → b ∈ qs) : RchI nx n p q (i + 1) qs l := by
  refine ⟨h.len, h.nod, h.le, h.mark, h.ne, h.first, h.snd, (List.getElem?_eq_some_iff.1 hi).1, fun k x hk hx => ?_⟩
  rcases Nat.lt_or_ge k i with h1 | h1
  · exact h.done k x h1 hx
  · obtain rfl : k = i := by omega
    rw [hi] at hx
    obtain rfl := Option.some.inj hx
    exact hall
open Classical in
theorem RchI.end {i : Nat} {qs : List Nat} {l : List Bool} (h : RchI nx n p q i qs l) (hi : qs.length ≤ i) : l[n]? = some (decide (Av nx n q p)) := by
  rw [h.mark n (Nat.le_refl _)]
  congr 1
  have : n ∈ qs ↔ Av nx n q p := by
    constructor
    · intro hn
      exact h.snd n hn (.base (h.ne n hn))
    · intro hav
      have key : ∀ x, Av nx n q x → x ∈ qs → n ∈ qs := by
        intro x hx
        induction hx with
        | base _ => exact fun h => h
        | @step x b h1 h2 h3 h4 ih =>
          intro hxq
          obtain ⟨k, hk⟩ := List.getElem?_of_mem hxq
          exact ih (h.done k x (by have := (List.getElem?_eq_some_iff.1 hk).1; omega) hk b h3 h4.ne)
      exact key p hav h.first
  simp [this]
end
open Classical in
/-- The marks: of interest is the exit's. -/
noncomputable def avZ (nx : Nat → List Nat) (n : Nat) (p q : Int) : Bool := decide (0 ≤ p ∧ p ≤ n ∧ Av nx n q p.toNat)
def WoRes (T : TypeId) (nx : Nat → List Nat) (n : Nat) (p q : Int) (w : World) (e : Ending) (w' : World) : Prop :=
  ∃ A c l, e = .returned (.slice A (n + 1) c) ∧ n + 1 ≤ c ∧ l.length = n + 1 ∧ l[n]? = some (avZ nx n p q) ∧ Mem w w' [own Enc.bool T A c l]
theorem nxt_top (code : List Ins) {a : Nat} (h : code.length ≤ a) : nxt code a = [] := by
  unfold nxt
  rw [List.getElem?_eq_none h]

set_option maxRecDepth 100000 in
theorem without_calls (f : Fun) (h : FunH) (w : World) (hR : f.Rd w h) (hn : f.code.length ≤ 1000000) (ho : ∀ i ∈ f.code, -9223372036854775808 ≤ i.a ∧ i.a ≤ 9223372036854775807) (p q : Int) :
    Calls Try.prog 31 #[f.val h, I p, I q] w (WoRes 4 (nxt f.code) f.code.length p q w) := by
  have HR := hid hR
  have hnext := fun (a : Nat) (w' : World) hR' (ha : a ≤ f.code.length) => next14_calls f h a w' hR' ha ho
  have HT := hid hnext
  clear hR ho hnext
  obtain ⟨lv, ps, rs, lo, st, code⟩ := f
  obtain ⟨A1, c1, A2, c2, A5, c5⟩ := h
  simp only [] at hn
  have H0 := Mem.refl w
  simp only [Fun.val] at *
  go_enter Try.func31, Try.ntmps31
  by_cases hin : (0 ≤ p ∧ p ≤ (code.length : Int)) ∧ p ≠ q
  · obtain ⟨⟨h1, h2⟩, h3⟩ := hin
    obtain ⟨pn, rfl⟩ := Int.eq_ofNat_of_zero_le h1
    have k1 : ((pn : Int) == q) = false := by simpa using h3
    have HC0 := hid (RchI.start (nx := nxt code) (q := q) (by omega : pn ≤ code.length) h3)
    clear h1 h3
    go_wp2_with (first
      | ((with_reducible refine at_box ?_); refine wpList_box_box H0 ?_; intro u_ gH1 wH1 hu_ H1; simp only [Act.eval, Act.put, List.setIfInBounds_toArray, List.set_cons_zero, List.set_cons_succ, Array.getD_eq_getD_getElem?, List.getElem?_toArray, List.getElem?_cons_zero, List.getElem?_cons_succ, Option.getD_some] at hu_; subst hu_; simp only [splice, vcells_int, vcells_bool, vcells_string, vcells_pointer, vcells_slice, vcells_map, vcells_func, vcells_nilFunc, vcells_iface, vcells_nilIface, vcells_agg, List.take_zero, List.take_succ_cons, List.drop_zero, List.drop_succ_cons, List.length_cons, List.length_nil, List.nil_append, List.cons_append, List.append_nil, Nat.zero_add, List.set_cons_zero, List.set_cons_succ] at H1; (try clear b0); have b0 := H1.cells 0 rfl; simp only [cellsAre, and_true, Nat.zero_add] at b0)
      | ((with_reducible refine at_mk ?_); refine wpList_make_own (E := Enc.bool) elt_bool H1 (code.length + 1) false rfl rfl rfl rfl rfl (by unfold maxLen; omega) (by omega) ?_; intro gH2 wH2 H2)
      | ((with_reducible refine at_store ?_); refine wpList_store_own H2 0 pn true rfl rfl (by omega) rfl rfl (by kernel_rfl) (by simp; omega) ?_; intro wH3 H3; simp only [List.set_cons_zero, List.set_cons_succ] at H3)
      | ((with_reducible refine at_build1 ?_); refine wpList_build1 elt_int H3 rfl rfl (by decide) ?_; intro u_ gH4 wH4 hu_ H4; simp only [Act.eval, Act.put, List.setIfInBounds_toArray, List.set_cons_zero, List.set_cons_succ, Array.getD_eq_getD_getElem?, List.getElem?_toArray, List.getElem?_cons_zero, List.getElem?_cons_succ, Option.getD_some] at hu_; subst hu_; simp only [splice, vcells_int, vcells_bool, vcells_string, vcells_pointer, vcells_slice, vcells_map, vcells_func, vcells_nilFunc, vcells_iface, vcells_nilIface, vcells_agg, List.take_zero, List.take_succ_cons, List.drop_zero, List.drop_succ_cons, List.length_cons, List.length_nil, List.nil_append, List.cons_append, List.append_nil, Nat.zero_add, List.set_cons_zero, List.set_cons_succ] at H4))
    have H4 : Mem w wH4 [own Enc.i64 3 (some ⟨gH4, 0, none⟩) 1 (ints [pn]), own Enc.bool 4 (some ⟨gH2, 0, none⟩) (code.length + 1) ((List.replicate (code.length + 1) false).set pn true), box gH1 27 #[.int .u64 lv, .slice A1 ps.length c1, .slice A2 rs.length c2, .int .i64 lo, .int .i64 st, .slice A5 code.length c5]] := H4
    generalize (List.replicate (code.length + 1) false).set pn true = l0 at H4 HC0
    clear H3 H2 H1 b0
    go_loopw [9, 10] (fun v9 v10 wr => ∃ (A9 : Option Addr) (c9 : Nat) (qs : List Nat) (l : List Bool) (i : Nat), v9 = .slice A9 qs.length c9 ∧ v10 = .int .i64 i ∧ Hd (RchI (nxt code) code.length pn q i qs l) ∧ Mem w wr [own Enc.i64 3 A9 c9 (ints qs), own Enc.bool 4 (some ⟨gH2, 0, none⟩) (code.length + 1) l, box gH1 27 #[.int .u64 lv, .slice A1 ps.length c1, .slice A2 rs.length c2, .int .i64 lo, .int .i64 st, .slice A5 code.length c5]]) (fun _ v _ => code.length + 1 - (intOf v).toNat)
    case atStart => exact ⟨_, _, [pn], l0, 0, rfl, rfl, HC0, H4⟩
    case round =>
      clear H4 HC0
      obtain ⟨A9, c9, qs, l, i, rfl, rfl, HI, H5⟩ := hrel
      obtain ⟨wo, rfl⟩ : ∃ wo : World, wo = wr := ⟨_, rfl⟩
      have hqs := HI.out.small
      by_cases hlt : i < qs.length
      · obtain ⟨a, ha⟩ : ∃ a, qs[i]? = some a := ⟨_, List.getElem?_eq_getElem hlt⟩
        have haN := HI.out.le a (List.mem_of_getElem? ha)
        obtain ⟨b9, o9, rfl, e9⟩ := (H5.own_rd 0 rfl (by decide)).1.get1 (k := i) (x := (a : Int)) rfl (by unfold ints; rw [List.getElem?_map, ha]; rfl) rfl
        have b0 := H5.cells 2 rfl
        simp only [cellsAre, and_true, Nat.zero_add] at b0
        have HAI := hid ha
        clear ha
        go_wp2
        go_cut [11] from 43 to 48 (fun v11 wc => ∃ (A11 : Option Addr) (c11 : Nat), v11 = .slice A11 (ints (nxt code a)).length c11 ∧ Mem w wc [own Enc.i64 3 A11 c11 (ints (nxt code a)), own Enc.i64 3 (some ⟨b9, o9, none⟩) c9 (ints qs), own Enc.bool 4 (some ⟨gH2, 0, none⟩) (code.length + 1) l, box gH1 27 #[.int .u64 lv, .slice A1 ps.length c1, .slice A2 rs.length c2, .int .i64 lo, .int .i64 st, .slice A5 code.length c5]])
        case first =>
          go_region_with (first
            | (go_at_call 21; (with_reducible refine (HT.out a _ (Fun.Rd.below HR.out H5.drew.below) haN).mono ?_); rintro e w3 ⟨A11, c11, rfl, h11, H6'⟩; have H6 := H5.drew.call H6'; simp only [List.cons_append, List.nil_append] at H6))
          all_goals (go_wp2; go_meet; exact ⟨A11, c11, rfl, H6⟩)
        case rest =>
        obtain ⟨A11, c11, rfl, H6⟩ := hcut
        obtain ⟨w2, rfl⟩ : ∃ w2 : World, w2 = wc := ⟨_, rfl⟩
        clear H5 b0 e9
        obtain ⟨xs, hxs⟩ : ∃ xs, xs = nxt code a := ⟨_, rfl⟩
        have hil : (ints (nxt code a)).length = xs.length := by rw [hxs]; simp [ints]
        have hxl : xs.length ≤ 2 := by rw [hxs]; exact nxt_two code a
        rw [hil]
        rw [← hxs] at H6
        have HXS := hid hxs
        have HQA : Hd (qs[i]? = some a) := HAI
        have HDN : Hd (∀ (k b : Nat), k < 0 → xs[k]? = some b → (b : Int) ≠ q → b ∈ qs) := ⟨fun k b hk => by omega⟩
        clear hil hxs h2
        clear hqs hlt HAI
        have hA9 : ∃ A9 : Option Addr, A9 = some ⟨b9, o9, none⟩ := ⟨_, rfl⟩
        obtain ⟨A9, hA9⟩ := hA9
        rw [← hA9] at H6 ⊢
        clear hA9
        go_wp2
        go_loopw [9, 12] (fun v9 v12 wr => ∃ (A9 : Option Addr) (c9 : Nat) (qs : List Nat) (l : List Bool) (j : Nat), v9 = .slice A9 qs.length c9 ∧ v12 = .int .i64 j ∧ j ≤ xs.length ∧ Hd (RchI (nxt code) code.length pn q i qs l) ∧ Hd (qs[i]? = some a) ∧ Hd (∀ (k b : Nat), k < j → xs[k]? = some b → (b : Int) ≠ q → b ∈ qs) ∧ Mem w wr [own Enc.i64 3 A11 c11 (ints xs), own Enc.i64 3 A9 c9 (ints qs), own Enc.bool 4 (some ⟨gH2, 0, none⟩) (code.length + 1) l, box gH1 27 #[.int .u64 lv, .slice A1 ps.length c1, .slice A2 rs.length c2, .int .i64 lo, .int .i64 st, .slice A5 code.length c5]]) (fun _ v _ => xs.length - (intOf v).toNat)
        case atStart => exact ⟨A9, c9, qs, l, 0, rfl, rfl, Nat.zero_le _, HI, HQA, HDN, H6⟩
        case round =>
          clear H6 HI HQA HDN
          obtain ⟨A9, c9, qs, l, j, rfl, rfl, hj, HI, HQA, HDN, H7⟩ := hrel
          obtain ⟨w3, rfl⟩ : ∃ w3 : World, w3 = wr := ⟨_, rfl⟩
          have hqs := HI.out.small
          have hi5 := (List.getElem?_eq_some_iff.1 HQA.out).1
          by_cases hlt : j < xs.length
          · obtain ⟨b, hb⟩ : ∃ b, xs[j]? = some b := ⟨_, List.getElem?_eq_getElem hlt⟩
            have hbm : b ∈ nxt code a := by rw [← HXS.out]; exact List.mem_of_getElem? hb
            have han : a < code.length := by
              rcases Nat.lt_or_ge a code.length with h5 | h5
              · exact h5
              · rw [nxt_top code h5] at hbm; cases hbm
            have hbN : b ≤ code.length := nxt_le han b hbm
            obtain ⟨b7, o7, rfl, e7⟩ := (H7.own_rd 0 rfl (by decide)).1.get1 (k := j) (x := (b : Int)) rfl (by unfold ints; rw [List.getElem?_map, hb]; rfl) rfl
            have e8 := (H7.own_get0 2 rfl rfl (HI.out.mark b hbN) rfl).1
            have HB := hid hb
            have HBM := hid hbm
            clear hb hbm
            by_cases hmem : b ∈ qs
            · rw [decide_eq_true hmem] at e8
              have HME := hid hmem
              clear hmem
              go_wp2
              go_roundw
              case rel =>
                refine ⟨A9, c9, qs, l, j + 1, rfl, by go_num, by omega, HI, HQA, ⟨fun k y hk hy hyq => ?_⟩, H7⟩
                rcases Nat.lt_or_ge k j with h5 | h5
                · exact HDN.out k y h5 hy hyq
                · obtain rfl : k = j := by omega
                  rw [HB.out] at hy
                  obtain rfl := Option.some.inj hy
                  exact HME.out
              case measure => first | (simp [intOf]; done) | (simp [intOf]; omega)
            · rw [decide_eq_false hmem] at e8
              have HME := hid hmem
              clear hmem
              by_cases hbq : (b : Int) = q
              · have g1 : ((b : Int) == q) = true := by simpa using hbq
                have g2 : ((b : Int) != q) = false := by simpa using hbq
                have HBQ := hid hbq
                clear hbq
                go_wp2
                go_roundw
                case rel =>
                  refine ⟨A9, c9, qs, l, j + 1, rfl, by go_num, by omega, HI, HQA, ⟨fun k y hk hy hyq => ?_⟩, H7⟩
                  rcases Nat.lt_or_ge k j with h5 | h5
                  · exact HDN.out k y h5 hy hyq
                  · obtain rfl : k = j := by omega
                    rw [HB.out] at hy
                    obtain rfl := Option.some.inj hy
                    exact absurd HBQ.out hyq
                case measure => first | (simp [intOf]; done) | (simp [intOf]; omega)
              · have g1 : ((b : Int) == q) = false := by simpa using hbq
                have g2 : ((b : Int) != q) = true := by simpa using hbq
                have HPU := hid (HI.out.push (List.mem_of_getElem? HQA.out) han HBM.out hbN hbq HME.out)
                have hil : (ints qs).length = qs.length := by simp [ints]
                have HIL := hid hil
                clear hbq hil
                have hq1 : (ints qs).length ≤ 1000001 := by rw [HIL.out]; omega
                rw [← HIL.out]
                go_wp2_with (first
                  | (((with_reducible refine at_store ?_); refine wpList_store_own H7 2 b true rfl rfl (by omega) rfl rfl (by kernel_rfl) (by have := HI.out.len; omega) ?_; intro wH8 H8; simp only [List.set_cons_zero, List.set_cons_succ] at H8); obtain ⟨bx, ox, hx7, e17⟩ := (H8.own_rd 0 rfl (by decide)).1.get1 (k := j) (x := (b : Int)) rfl (by unfold ints; rw [List.getElem?_map, HB.out]; rfl) rfl; obtain ⟨rfl, rfl⟩ : b7 = bx ∧ o7 = ox := (by simp at hx7; exact hx7))
                  | ((with_reducible refine at_build1 ?_); refine wpList_build1 elt_int H8 rfl rfl (by decide) ?_; intro u_ gH9 wH9 hu_ H9; simp only [Act.eval, Act.put, List.setIfInBounds_toArray, List.set_cons_zero, List.set_cons_succ, Array.getD_eq_getD_getElem?, List.getElem?_toArray, List.getElem?_cons_zero, List.getElem?_cons_succ, Option.getD_some] at hu_; subst hu_; simp only [splice, vcells_int, vcells_bool, vcells_string, vcells_pointer, vcells_slice, vcells_map, vcells_func, vcells_nilFunc, vcells_iface, vcells_nilIface, vcells_agg, List.take_zero, List.take_succ_cons, List.drop_zero, List.drop_succ_cons, List.length_cons, List.length_nil, List.nil_append, List.cons_append, List.append_nil, Nat.zero_add, List.set_cons_zero, List.set_cons_succ] at H9)
                  | ((with_reducible refine at_append ?_); refine wpList_append_own1 (E := Enc.i64) elt_int H9 2 (b : Int) rfl rfl rfl rfl (H9.rd 0 rfl elt_int.pos).1 (by omega) (by decide) ?_; intro AH10 cH10 wH10 H10; simp only [List.set_cons_zero, List.set_cons_succ] at H10; replace H10 := H10.drop 0; simp only [List.eraseIdx_cons_zero] at H10))
                go_roundw
                case rel =>
                  have he : ints qs ++ [(b : Int)] = ints (qs ++ [b]) := by simp [ints]
                  rw [he] at H10
                  have hlen : (qs ++ [b]).length ≤ qs.length + 1 := by simp
                  refine ⟨AH10, cH10, qs ++ [b], l.set b true, j + 1, ?_, by go_num, by omega, HPU, ⟨?_⟩, ⟨fun k y hk hy hyq => ?_⟩, H10⟩
                  · rw [List.length_append, ← HIL.out]; rfl
                  · rw [List.getElem?_append_left (List.getElem?_eq_some_iff.1 HQA.out).1]; exact HQA.out
                  · rcases Nat.lt_or_ge k j with h5 | h5
                    · exact List.mem_append_left _ (HDN.out k y h5 hy hyq)
                    · obtain rfl : k = j := by omega
                      rw [HB.out] at hy
                      obtain rfl := Option.some.inj hy
                      simp
                case measure => first | (simp [intOf]; done) | (simp [intOf]; omega)
          · obtain rfl : j = xs.length := by omega
            go_wp2
            go_roundw
            case rel =>
              refine ⟨A9, c9, qs, l, i + 1, rfl, by go_num, ⟨HI.out.next HQA.out fun b hb hbq => ?_⟩, H7.drop 0⟩
              rw [← HXS.out] at hb
              obtain ⟨k, hk⟩ := List.getElem?_of_mem hb
              exact HDN.out k b (List.getElem?_eq_some_iff.1 hk).1 hk hbq
            case measure =>
              simp [intOf]; omega
      · have hend := HI.out.end (by omega)
        have HEN := hid hend
        clear hend
        go_wp2
        go_ret
        refine ⟨_, _, l, rfl, Nat.le_refl _, HI.out.len, ?_, (H5.drop 0).drop 1⟩
        rw [HEN.out]
        unfold avZ
        congr 2
        simp
        omega
  · have hz : avZ (nxt code) code.length p q = false := by
      unfold avZ
      rw [decide_eq_false_iff_not]
      rintro ⟨h1, h2, h3⟩
      by_cases e : p = q
      · subst e
        exact h3.ne (Int.toNat_of_nonneg h1)
      · exact hin ⟨⟨h1, h2⟩, e⟩
    have HZ := hid hz
    clear hz
    have hcs : p < 0 ∨ (0 ≤ p ∧ (code.length : Int) < p) ∨ ((0 ≤ p ∧ p ≤ (code.length : Int)) ∧ p = q) := by omega
    clear hin
    rcases hcs with k1 | ⟨k1, k2⟩ | ⟨⟨k1, k2⟩, k3⟩
    · go_wp2_with (first
        | ((with_reducible refine at_box ?_); refine wpList_box_box H0 ?_; intro u_ gH1 wH1 hu_ H1; simp only [Act.eval, Act.put, List.setIfInBounds_toArray, List.set_cons_zero, List.set_cons_succ, Array.getD_eq_getD_getElem?, List.getElem?_toArray, List.getElem?_cons_zero, List.getElem?_cons_succ, Option.getD_some] at hu_; subst hu_; simp only [splice, vcells_int, vcells_bool, vcells_string, vcells_pointer, vcells_slice, vcells_map, vcells_func, vcells_nilFunc, vcells_iface, vcells_nilIface, vcells_agg, List.take_zero, List.take_succ_cons, List.drop_zero, List.drop_succ_cons, List.length_cons, List.length_nil, List.nil_append, List.cons_append, List.append_nil, Nat.zero_add, List.set_cons_zero, List.set_cons_succ] at H1; (try clear b0); have b0 := H1.cells 0 rfl; simp only [cellsAre, and_true, Nat.zero_add] at b0)
        | ((with_reducible refine at_mk ?_); refine wpList_make_own (E := Enc.bool) elt_bool H1 (code.length + 1) false rfl rfl rfl rfl rfl (by unfold maxLen; omega) (by omega) ?_; intro gH2 wH2 H2))
      go_ret
      exact ⟨_, _, _, rfl, Nat.le_refl _, by simp, by rw [HZ.out]; simp, H2.drop 1⟩
    · go_wp2_with (first
        | ((with_reducible refine at_box ?_); refine wpList_box_box H0 ?_; intro u_ gH1 wH1 hu_ H1; simp only [Act.eval, Act.put, List.setIfInBounds_toArray, List.set_cons_zero, List.set_cons_succ, Array.getD_eq_getD_getElem?, List.getElem?_toArray, List.getElem?_cons_zero, List.getElem?_cons_succ, Option.getD_some] at hu_; subst hu_; simp only [splice, vcells_int, vcells_bool, vcells_string, vcells_pointer, vcells_slice, vcells_map, vcells_func, vcells_nilFunc, vcells_iface, vcells_nilIface, vcells_agg, List.take_zero, List.take_succ_cons, List.drop_zero, List.drop_succ_cons, List.length_cons, List.length_nil, List.nil_append, List.cons_append, List.append_nil, Nat.zero_add, List.set_cons_zero, List.set_cons_succ] at H1; (try clear b0); have b0 := H1.cells 0 rfl; simp only [cellsAre, and_true, Nat.zero_add] at b0)
        | ((with_reducible refine at_mk ?_); refine wpList_make_own (E := Enc.bool) elt_bool H1 (code.length + 1) false rfl rfl rfl rfl rfl (by unfold maxLen; omega) (by omega) ?_; intro gH2 wH2 H2))
      go_ret
      exact ⟨_, _, _, rfl, Nat.le_refl _, by simp, by rw [HZ.out]; simp, H2.drop 1⟩
    · subst k3
      have k4 : (p == p) = true := by simp
      go_wp2_with (first
        | ((with_reducible refine at_box ?_); refine wpList_box_box H0 ?_; intro u_ gH1 wH1 hu_ H1; simp only [Act.eval, Act.put, List.setIfInBounds_toArray, List.set_cons_zero, List.set_cons_succ, Array.getD_eq_getD_getElem?, List.getElem?_toArray, List.getElem?_cons_zero, List.getElem?_cons_succ, Option.getD_some] at hu_; subst hu_; simp only [splice, vcells_int, vcells_bool, vcells_string, vcells_pointer, vcells_slice, vcells_map, vcells_func, vcells_nilFunc, vcells_iface, vcells_nilIface, vcells_agg, List.take_zero, List.take_succ_cons, List.drop_zero, List.drop_succ_cons, List.length_cons, List.length_nil, List.nil_append, List.cons_append, List.append_nil, Nat.zero_add, List.set_cons_zero, List.set_cons_succ] at H1; (try clear b0); have b0 := H1.cells 0 rfl; simp only [cellsAre, and_true, Nat.zero_add] at b0)
        | ((with_reducible refine at_mk ?_); refine wpList_make_own (E := Enc.bool) elt_bool H1 (code.length + 1) false rfl rfl rfl rfl rfl (by unfold maxLen; omega) (by omega) ?_; intro gH2 wH2 H2))
      go_ret
      exact ⟨_, _, _, rfl, Nat.le_refl _, by simp, by rw [HZ.out]; simp, H2.drop 1⟩
end Go.Proofs.Ytjlikbaamefkiaa
