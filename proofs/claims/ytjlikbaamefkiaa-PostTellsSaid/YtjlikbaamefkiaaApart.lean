/- kit.ApartInts: of slices that are full and lie apart. -/
import Derived.Test.YtjlikbaamefkiaaLentFun
namespace Go.Proofs.Ytjlikbaamefkiaa
open Go.RowKit
set_option linter.unusedVariables false
set_option linter.unusedSimpArgs false
set_option maxHeartbeats 2000000

section
variable {P : Program} {w0 w : World} {As : List HP} {t e : TypeId} {sz n bytes : Nat} {z : Value} {cells : List Value}
/-- An append to a slice that is full: a new row; the old one stays. -/
theorem run_append_full (E : Elt P t e sz bytes z) (ty : TypeId) (H : Mem w0 w As) {g o : Nat} (R0 : RdC w (some ⟨g, o, none⟩) n sz cells) (hn : 0 < n)
    {B : Option Addr} {m c : Nat} {news : List Value} (R : RdC w B m sz news) (hm : 0 < m) (h63 : n + m ≤ maxLen) (hby : (n + m) * bytes ≤ 140737488355328) :
    ∃ A' cap' w', (Builtin.append_ #[t, t] ty #[.slice (some ⟨g, o, none⟩) n n, .slice B m c]).run P w = .ok (.slice A' (n + m) cap') w' ∧ Mem w0 w' (row e sz A' (n + m) cap' (cells ++ news) :: As) := by
  obtain ⟨I, hI, hz, rfl, rfl⟩ := E.inf
  have ht := E.und
  obtain ⟨ab, ao, rfl, hc0⟩ := R.at' (by omega)
  obtain ⟨ad, had⟩ : ∃ ad : Addr, ad = ⟨ab, ao, none⟩ := ⟨_, rfl⟩
  have hc : ∀ j u, news[j]? = some u → w.cell? (ad.add j) = some u := fun j u hu => by rw [had, add_at]; exact hc0 j u hu
  rw [← had]
  have hsmall : n + m ≤ 9223372036854775807 := by simp only [maxLen] at h63; omega
  obtain ⟨g', o', hgo, hcs⟩ := R0.at' (by omega)
  obtain ⟨rfl, rfl⟩ : g = g' ∧ o = o' := by simpa using hgo
  have holds : ∀ j u, cells[j]? = some u → w.cell? ((⟨g, o, none⟩ : Addr).add j) = some u := fun j u hu => by rw [add_at]; exact hcs j u hu
  have hr := run_append_grow (P := P) w t ty e I z ht hI hz ⟨g, o, none⟩ n n cells R0.len holds ad m c news R.len hc (by omega) (by omega) (growslice_fits (by omega) hby)
  refine ⟨_, _, _, hr, ?_⟩
  have hge := grownCap_ge w (n + m) n e
  have hcm' : grownCap w (n + m) n e ≤ maxLen := grownCap_le_maxLen w (n + m) n e h63
  have hlen : (cells ++ news).length = (n + m) * I.size := by rw [List.length_append, R0.len, R.len, Nat.add_mul]
  refine H.drew.add (G := fun k => k = w.heap.size) ((Below.refl _ _).alloc (Nat.le_refl _) _) ⟨hlen, hge, hcm', ?_, .inr ⟨w.heap.size, 0, _, rfl, fun _ => Iff.rfl, heap_alloc_new w.drew _, ?_, ?_⟩⟩ (by rintro k rfl; exact ⟨Nat.le_refl _, by simp⟩)
  · intro u hu
    rcases List.mem_append.1 hu with hu | hu
    · exact R0.one u hu
    · exact R.one u hu
  · simp only [Array.size_append, List.size_toArray, size_zeroCells, E.zs, R0.len, R.len, ← Nat.add_mul]
    rw [Nat.zero_add]
    exact Nat.mul_le_mul_right _ (by omega)
  · simp only [Array.toList_append, List.append_assoc, List.drop_zero]
    rw [← List.append_assoc, ← hlen]
    exact List.take_left
theorem wpList_append_full1 {α : Type} {E : Enc α} {xs : List α} {ops : Array Oper} {rest : List Oper} {a : Act} {Q : Exit → Act → World → Prop} {ty : TypeId} {ps : String} {af : Array Go.Edge} {x y : Operand} {d : Option Tmp} (El : Elt P t e sz bytes z) (H : Mem w0 w As) (x0 : α) {g o : Nat} (hsz : E.sz = sz) (hs : a.eval x = .slice (some ⟨g, o, none⟩) xs.length xs.length) (R0 : Rd E w (some ⟨g, o, none⟩) xs) (hn : 0 < xs.length)
    {B : Option Addr} {c : Nat} (hx : a.eval y = .slice B 1 c) (R : RdC w B 1 sz (E.enc x0)) (hb : xs.length ≤ 1000000000000) (hby : bytes ≤ 64)
    (h : ∀ A' cap' w', Mem w0 w' (own E e A' cap' (xs ++ [x0]) :: As) → wpList P ops Q rest (a.put d (.slice A' (xs.length + 1) cap')) w') : wpList P ops Q (⟨d, .call { callee := .builtin .append, args := #[x, y], argTypes := #[t, t] }, ty, ps, af, none⟩ :: rest) a w :=
  wpList_plain rfl fun _ hK => by
    subst hsz
    have h64 : (xs.length + 1) * bytes ≤ 140737488355328 := Nat.le_trans (Nat.mul_le_mul_left _ hby) (by omega)
    obtain ⟨A', cap', w', hr, hM⟩ := run_append_full (P := P) El ty H R0 hn (c := c) R (by decide) (by unfold maxLen; omega) h64
    unfold Oper.wp execOp
    simp only [resolve, invoke, builtin, Sem.run_bind, Sem.run_pure, Result.andThen_ok, List.map_toArray, List.map_cons, List.map_nil, hs, hx, hr]
    refine hK _ _ (h A' cap' w' ?_)
    unfold own
    rw [E.all_append, E.all_one_el, List.length_append]
    exact hM
end

/-- What is written over the i-th. -/
def fillL (i n : Nat) : List Int := (List.range n).map fun k : Nat => (1000 * (i : Int) + (k : Int))
def moreL (i n : Nat) : List Int := (List.range n).map fun k : Nat => (500000 + 1000 * (i : Int) + (k : Int))
theorem fillL_len (i n : Nat) : (fillL i n).length = n := by simp [fillL]
theorem moreL_len (i n : Nat) : (moreL i n).length = n := by simp [moreL]
theorem fillL_get {i n k : Nat} (hk : k < n) : (fillL i n)[k]? = some (1000 * (i : Int) + k) := by
  unfold fillL
  rw [List.getElem?_map, List.getElem?_range hk]
  rfl
theorem moreL_get {i n k : Nat} (hk : k < n) : (moreL i n)[k]? = some (500000 + 1000 * (i : Int) + k) := by
  unfold moreL
  rw [List.getElem?_map, List.getElem?_range hk]
  rfl
theorem moreL_succ (i n : Nat) : moreL i (n + 1) = moreL i n ++ [500000 + 1000 * (i : Int) + n] := by simp [moreL, List.range_succ]
/-- All is full. -/
def FullOk (hs : List Hdr) (rows : List (List Int)) : Prop := hs.length = rows.length ∧ ∀ (k : Nat) (hd : Hdr) (r : List Int), hs[k]? = some hd → rows[k]? = some r → hd.n = r.length ∧ hd.c = r.length ∧ 0 < r.length ∧ r.length ≤ 1000001
theorem FullOk.set {hs : List Hdr} {rows : List (List Int)} (h : FullOk hs rows) {i : Nat} {r r' : List Int} (hr : rows[i]? = some r) (hl : r'.length = r.length) : FullOk hs (rows.set i r') := by
  refine ⟨by rw [List.length_set]; exact h.1, fun k hd s h1 h2 => ?_⟩
  by_cases e : i = k
  · subst e
    rw [List.getElem?_set_self (List.getElem?_eq_some_iff.1 hr).1] at h2
    obtain rfl := Option.some.inj h2
    rw [hl]
    exact h.2 i hd r h1 hr
  · rw [List.getElem?_set_ne e] at h2
    exact h.2 k hd s h1 h2
theorem set_back {α : Type} {l : List α} {i : Nat} {x y : α} (h : l[i]? = some x) : (l.set i y).set i x = l := by
  rw [List.set_set]
  apply List.ext_getElem?
  intro k
  by_cases e : i = k
  · subst e
    rw [List.getElem?_set_self (List.getElem?_eq_some_iff.1 h).1, h]
  · rw [List.getElem?_set_ne e]

set_option maxRecDepth 100000 in
theorem apart_calls (w0 w : World) (As : List HP) (A : Option Addr) (c : Nat) (hs : List Hdr) (rows : List (List Int)) (hF : FullOk hs rows) (hm : hs.length ≤ 1000) (H : Mem w0 w (rowsP Enc.i64 3 hs rows :: own Enc.hdr 32 A c hs :: As)) :
    Calls Try.prog 17 #[.slice A hs.length c] w fun e w' => e = .returned (.bool true) ∧ Mem w0 w' As := by
  have HF := hid hF
  have H0 := H
  clear hF H
  have HI0 : Hd (∀ (k : Nat) (r : List Int), k < 0 → rows[k]? = some r → r = fillL k r.length) := ⟨fun k r hk => by omega⟩
  go_enter Try.func17, Try.ntmps17
  go_wp2
  go_loopw [3] (fun v3 wr => ∃ (i : Nat) (rows : List (List Int)), v3 = .int .i64 i ∧ i ≤ hs.length ∧ Hd (FullOk hs rows) ∧ Hd (∀ (k : Nat) (r : List Int), k < i → rows[k]? = some r → r = fillL k r.length) ∧ Mem w0 wr (rowsP Enc.i64 3 hs rows :: own Enc.hdr 32 A c hs :: As)) (fun v _ => hs.length - (intOf v).toNat)
  case atStart => exact ⟨0, rows, rfl, Nat.zero_le _, HF, HI0, H0⟩
  case round =>
    clear H0 HF HI0
    obtain ⟨i, rows, rfl, hi, HF, HI, H1⟩ := hrel
    obtain ⟨wo, rfl⟩ : ∃ wo : World, wo = wr := ⟨_, rfl⟩
    by_cases hlt : i < hs.length
    · obtain ⟨⟨A', n', c'⟩, hhd⟩ : ∃ hd, hs[i]? = some hd := ⟨_, List.getElem?_eq_getElem hlt⟩
      obtain ⟨r, hr⟩ : ∃ r, rows[i]? = some r := ⟨_, List.getElem?_eq_getElem (by have := HF.out.1; omega)⟩
      obtain ⟨hn, hc, hp, hb⟩ := HF.out.2 i _ r hhd hr
      simp only [] at hn hc
      subst hn
      obtain ⟨gA, oA, rfl, eA⟩ := (H1.own_rd 1 rfl (by decide)).1.get1 rfl hhd rfl
      have H2 := H1.rows_out hhd hr
      simp only [] at H2
      obtain ⟨x0, hx0⟩ : ∃ x0, r[0]? = some x0 := ⟨_, List.getElem?_eq_getElem hp⟩
      obtain ⟨g', o', rfl, -⟩ := (H2.own_rd 0 rfl (by decide)).1.get1 rfl hx0 rfl
      have HHD := hid hhd
      have HRR := hid hr
      have HR0 : Hd (∀ (k : Nat), k < 0 → r[k]? = some (1000 * (i : Int) + k)) := ⟨fun k hk => by omega⟩
      have HRL : Hd (r.length = r.length) := ⟨rfl⟩
      obtain ⟨m, hm'⟩ : ∃ m, m = r.length := ⟨_, rfl⟩
      have HML := hid hm'
      clear hhd hr hx0 eA
      rw [← hm'] at hb hp hc
      clear hm'
      go_wp2
      go_loopw [4] (fun v4 wr => ∃ (k : Nat) (r' : List Int), v4 = .int .i64 k ∧ k ≤ m ∧ Hd (r'.length = m) ∧ Hd (∀ (j : Nat), j < k → r'[j]? = some (1000 * (i : Int) + j)) ∧ Mem w0 wr (own Enc.i64 3 (some ⟨g', o', none⟩) c' r' :: rowsP Enc.i64 3 (hs.set i ⟨none, 0, 0⟩) (rows.set i []) :: own Enc.hdr 32 (some ⟨gA, oA, none⟩) c hs :: As)) (fun v _ => m - (intOf v).toNat)
      case atStart => exact ⟨0, r, rfl, Nat.zero_le _, ⟨HML.out.symm⟩, HR0, H2⟩
      case round =>
        clear H2 HR0
        obtain ⟨k, r', rfl, hk, HL, HK, H3⟩ := hrel
        obtain ⟨w3, rfl⟩ : ∃ w3 : World, w3 = wr := ⟨_, rfl⟩
        obtain ⟨gB, oB, hgB, eA⟩ := (H3.own_rd 2 rfl (by decide)).1.get1 rfl HHD.out rfl
        obtain ⟨rfl, rfl⟩ : gA = gB ∧ oA = oB := by simp at hgB; exact hgB
        rw [← HML.out] at eA
        clear hgB
        by_cases hkl : k < m
        · go_wp2_with ((with_reducible refine at_store ?_); refine wpList_store_own H3 0 k (1000 * (i : Int) + k) rfl rfl rfl rfl rfl (by kernel_rfl) (by have := HL.out; omega) ?_; intro wH4 H4; simp only [List.set_cons_zero, List.set_cons_succ] at H4)
          go_roundw
          case rel =>
            refine ⟨k + 1, r'.set k (1000 * (i : Int) + k), by go_num, by omega, ⟨by rw [List.length_set]; exact HL.out⟩, ⟨fun j hj => ?_⟩, H4⟩
            by_cases e : k = j
            · subst e
              rw [List.getElem?_set_self (by have := HL.out; omega)]
            · rw [List.getElem?_set_ne e]
              exact HK.out j (by omega)
          case measure => first | (simp [intOf]; done) | (simp [intOf]; omega)
        · obtain rfl : k = m := by omega
          go_wp2
          go_roundw
          case rel =>
            have hr' : r' = fillL i k := by
              apply List.ext_getElem?
              intro j
              by_cases hj : j < k
              · rw [HK.out j hj, fillL_get hj]
              · rw [List.getElem?_eq_none (by have := HL.out; omega), List.getElem?_eq_none (by rw [fillL_len]; omega)]
            have H4 := H3.rows_in (by rw [List.getElem?_set_self hlt]) (by rw [List.getElem?_set_self (List.getElem?_eq_some_iff.1 HRR.out).1])
            rw [HL.out] at H4
            rw [show (rows.set i []).set i r' = rows.set i r' from List.set_set _] at H4
            have hsb : (hs.set i ⟨none, 0, 0⟩).set i ⟨some ⟨g', o', none⟩, k, c'⟩ = hs := set_back (by rw [HHD.out, HML.out])
            rw [hsb] at H4
            refine ⟨i + 1, rows.set i r', by go_num, by omega, ⟨HF.out.set HRR.out (by rw [HL.out, HML.out])⟩, ⟨fun j s hj hs' => ?_⟩, H4⟩
            by_cases e : i = j
            · subst e
              rw [List.getElem?_set_self (List.getElem?_eq_some_iff.1 HRR.out).1] at hs'
              obtain rfl := Option.some.inj hs'
              rw [HL.out]
              exact hr'
            · rw [List.getElem?_set_ne e] at hs'
              exact HI.out j s (by omega) hs'
          case measure => first | (simp [intOf]; done) | (simp [intOf]; omega)
    · obtain rfl : i = hs.length := by omega
      have HS0 : Hd (([] : List Hdr).length = 0 ∧ ([] : List (List Int)).length = 0 ∧ (∀ (k : Nat) (hd : Hdr) (s : List Int), ([] : List Hdr)[k]? = some hd → ([] : List (List Int))[k]? = some s → hd.n = s.length) ∧ ∀ (k : Nat) (r : List Int), k < 0 → rows[k]? = some r → ([] : List (List Int))[k]? = some (r ++ moreL k 30)) := ⟨rfl, rfl, fun k hd s h => by simp at h, fun k r hk => by omega⟩
      have H2 : Mem w0 wo (own Enc.hdr 32 none 0 [] :: rowsP Enc.i64 3 [] [] :: rowsP Enc.i64 3 hs rows :: own Enc.hdr 32 A c hs :: As) := (H1.rows_nil Enc.i64 3).nilrow 32 1
      clear H1 hlt hi
      go_wp2
      go_loopw [5, 6] (fun v5 v6 wr => ∃ (A5 : Option Addr) (c5 : Nat) (gs : List Hdr) (ls : List (List Int)) (i : Nat), v5 = .slice A5 gs.length c5 ∧ v6 = .int .i64 i ∧ i ≤ hs.length ∧ Hd (gs.length = i ∧ ls.length = i ∧ (∀ (k : Nat) (hd : Hdr) (s : List Int), gs[k]? = some hd → ls[k]? = some s → hd.n = s.length) ∧ ∀ (k : Nat) (r : List Int), k < i → rows[k]? = some r → ls[k]? = some (r ++ moreL k 30)) ∧ Mem w0 wr (own Enc.hdr 32 A5 c5 gs :: rowsP Enc.i64 3 gs ls :: rowsP Enc.i64 3 hs rows :: own Enc.hdr 32 A c hs :: As)) (fun _ v _ => hs.length - (intOf v).toNat)
      case atStart => exact ⟨none, 0, [], [], 0, rfl, rfl, Nat.zero_le _, HS0, H2⟩
      case round =>
        clear H2 HS0
        obtain ⟨A5, c5, gs, ls, i, rfl, rfl, hi, HS, H3⟩ := hrel
        obtain ⟨w3, rfl⟩ : ∃ w3 : World, w3 = wr := ⟨_, rfl⟩
        have hgl : gs.length ≤ 1000 := by have := HS.out.1; omega
        by_cases hlt : i < hs.length
        · obtain ⟨⟨A', n', c'⟩, hhd⟩ : ∃ hd, hs[i]? = some hd := ⟨_, List.getElem?_eq_getElem hlt⟩
          obtain ⟨r, hr⟩ : ∃ r, rows[i]? = some r := ⟨_, List.getElem?_eq_getElem (by have := HF.out.1; omega)⟩
          obtain ⟨hn, hc, hp, hb⟩ := HF.out.2 i _ r hhd hr
          simp only [] at hn hc
          subst hn
          subst hc
          obtain ⟨gA, oA, rfl, eA⟩ := (H3.own_rd 3 rfl (by decide)).1.get1 rfl hhd rfl
          obtain ⟨x0, hx0⟩ : ∃ x0, r[0]? = some x0 := ⟨_, List.getElem?_eq_getElem hp⟩
          obtain ⟨g', o', rfl, -⟩ := (H3.rows_get 2 rfl (by decide) hhd hr).1.get1 rfl hx0 rfl
          have HHD := hid hhd
          have HRR := hid hr
          clear hhd hr hx0
          go_wp2
          go_loopw [7, 8] (fun v7 v8 wr => ∃ (k : Nat), v8 = .int .i64 k ∧ k ≤ 30 ∧ Hd ((k = 0 ∧ v7 = .slice (some ⟨g', o', none⟩) r.length r.length ∧ Mem w0 wr (own Enc.hdr 32 A5 c5 gs :: rowsP Enc.i64 3 gs ls :: rowsP Enc.i64 3 hs rows :: own Enc.hdr 32 (some ⟨gA, oA, none⟩) c hs :: As)) ∨ (0 < k ∧ ∃ (A7 : Option Addr) (c7 : Nat), v7 = .slice A7 (r ++ moreL i k).length c7 ∧ Mem w0 wr (own Enc.i64 3 A7 c7 (r ++ moreL i k) :: own Enc.hdr 32 A5 c5 gs :: rowsP Enc.i64 3 gs ls :: rowsP Enc.i64 3 hs rows :: own Enc.hdr 32 (some ⟨gA, oA, none⟩) c hs :: As)))) (fun _ v _ => 30 - (intOf v).toNat)
          case atStart => exact ⟨0, rfl, Nat.zero_le _, ⟨.inl ⟨rfl, rfl, H3⟩⟩⟩
          case round =>
            clear H3 eA
            obtain ⟨k, rfl, hk, HO⟩ := hrel
            rcases HO.out with ⟨rfl, rfl, H4⟩ | ⟨hk0, A7, c7, rfl, H4⟩
            · clear HO
              obtain ⟨w4, rfl⟩ : ∃ w4 : World, w4 = wr := ⟨_, rfl⟩
              go_wp2_with (first
                | ((with_reducible refine at_build1 ?_); refine wpList_build1 elt_int H4 rfl rfl (by decide) ?_; intro u_ gH5 wH5 hu_ H5; simp only [Act.eval, Act.put, List.setIfInBounds_toArray, List.set_cons_zero, List.set_cons_succ, Array.getD_eq_getD_getElem?, List.getElem?_toArray, List.getElem?_cons_zero, List.getElem?_cons_succ, Option.getD_some] at hu_; subst hu_; simp only [splice, vcells_int, vcells_bool, vcells_string, vcells_pointer, vcells_slice, vcells_map, vcells_func, vcells_nilFunc, vcells_iface, vcells_nilIface, vcells_agg, List.take_zero, List.take_succ_cons, List.drop_zero, List.drop_succ_cons, List.length_cons, List.length_nil, List.nil_append, List.cons_append, List.append_nil, Nat.zero_add, List.set_cons_zero, List.set_cons_succ] at H5)
                | ((with_reducible refine at_append ?_); refine wpList_append_full1 (E := Enc.i64) elt_int H5 _ rfl rfl (H5.rows_get 3 rfl (by decide) HHD.out HRR.out).1 hp rfl (H5.rd 0 rfl elt_int.pos).1 (by omega) (by decide) ?_; intro A7 c7 w7 H7; replace H7 := H7.drop 1; simp only [List.eraseIdx_cons_succ, List.eraseIdx_cons_zero] at H7))
              go_roundw
              case rel =>
                have hm1 : moreL i 1 = [500000 + 1000 * (i : Int)] := by simp [moreL]
                refine ⟨1, by go_num, by omega, ⟨.inr ⟨by omega, A7, c7, ?_, ?_⟩⟩⟩
                · rw [List.length_append, moreL_len]
                · rw [hm1]; exact H7
              case measure => first | (simp [intOf]; done) | (simp [intOf]; omega)
            · clear HO
              obtain ⟨w4, rfl⟩ : ∃ w4 : World, w4 = wr := ⟨_, rfl⟩
              have hml : (r ++ moreL i k).length ≤ 1000031 := by rw [List.length_append, moreL_len]; omega
              by_cases hk30 : k < 30
              · obtain ⟨ys, hys⟩ : ∃ ys, ys = r ++ moreL i k := ⟨_, rfl⟩
                rw [← hys] at H4 hml ⊢
                have HYS := hid hys
                clear hys
                go_wp2_with (first
                  | ((with_reducible refine at_build1 ?_); refine wpList_build1 elt_int H4 rfl rfl (by decide) ?_; intro u_ gH5 wH5 hu_ H5; simp only [Act.eval, Act.put, List.setIfInBounds_toArray, List.set_cons_zero, List.set_cons_succ, Array.getD_eq_getD_getElem?, List.getElem?_toArray, List.getElem?_cons_zero, List.getElem?_cons_succ, Option.getD_some] at hu_; subst hu_; simp only [splice, vcells_int, vcells_bool, vcells_string, vcells_pointer, vcells_slice, vcells_map, vcells_func, vcells_nilFunc, vcells_iface, vcells_nilIface, vcells_agg, List.take_zero, List.take_succ_cons, List.drop_zero, List.drop_succ_cons, List.length_cons, List.length_nil, List.nil_append, List.cons_append, List.append_nil, Nat.zero_add, List.set_cons_zero, List.set_cons_succ] at H5)
                  | ((with_reducible refine at_append ?_); refine wpList_append_own1 (E := Enc.i64) elt_int H5 1 (500000 + 1000 * (i : Int) + (k : Int)) rfl rfl rfl rfl (H5.rd 0 rfl elt_int.pos).1 (by omega) (by decide) ?_; intro AH6 cH6 wH6 H6; simp only [List.set_cons_zero, List.set_cons_succ] at H6; replace H6 := H6.drop 0; simp only [List.eraseIdx_cons_zero] at H6))
                go_roundw
                case rel =>
                  have hm1 : ys ++ [500000 + 1000 * (i : Int) + (k : Int)] = r ++ moreL i (k + 1) := by rw [moreL_succ, ← List.append_assoc, HYS.out]
                  rw [hm1] at H6
                  refine ⟨k + 1, by go_num, by omega, ⟨.inr ⟨by omega, AH6, cH6, ?_, H6⟩⟩⟩
                  rw [← hm1, List.length_append]
                  rfl
                case measure => first | (simp [intOf]; done) | (simp [intOf]; omega)
              · obtain rfl : k = 30 := by omega
                obtain ⟨ys, hys⟩ : ∃ ys, ys = r ++ moreL i 30 := ⟨_, rfl⟩
                rw [← hys] at H4 hml ⊢
                have HYS := hid hys
                clear hys
                go_wp2_with (first
                  | ((with_reducible refine at_build1 ?_); refine wpList_build1 elt_ints H4 rfl rfl (by decide) ?_; intro u_ gH5 wH5 hu_ H5; simp only [Act.eval, Act.put, List.setIfInBounds_toArray, List.set_cons_zero, List.set_cons_succ, Array.getD_eq_getD_getElem?, List.getElem?_toArray, List.getElem?_cons_zero, List.getElem?_cons_succ, Option.getD_some] at hu_; subst hu_; simp only [splice, vcells_int, vcells_bool, vcells_string, vcells_pointer, vcells_slice, vcells_map, vcells_func, vcells_nilFunc, vcells_iface, vcells_nilIface, vcells_agg, List.take_zero, List.take_succ_cons, List.drop_zero, List.drop_succ_cons, List.length_cons, List.length_nil, List.nil_append, List.cons_append, List.append_nil, Nat.zero_add, List.set_cons_zero, List.set_cons_succ] at H5)
                  | ((with_reducible refine at_append ?_); refine wpList_append_own1 (E := Enc.hdr) elt_ints H5 2 (⟨A7, ys.length, c7⟩ : Hdr) rfl rfl rfl rfl (H5.rd 0 rfl elt_ints.pos).1 (by omega) (by decide) ?_; intro AH6 cH6 wH6 H6; simp only [List.set_cons_zero, List.set_cons_succ] at H6; replace H6 := H6.drop 0; simp only [List.eraseIdx_cons_zero] at H6))
                go_roundw
                case rel =>
                  have H7 := (((H6.perm (List.Perm.cons _ (List.Perm.swap _ _ _))).rows_push (by rw [HS.out.1, HS.out.2.1])).perm (List.Perm.swap _ _ _))
                  refine ⟨AH6, cH6, gs ++ [⟨A7, ys.length, c7⟩], ls ++ [ys], i + 1, by simp, by go_num, by omega, ⟨by simp [HS.out.1], by simp [HS.out.2.1], fun k hd s h1 h2 => ?_, fun k s hk hs' => ?_⟩, H7⟩
                  · rcases Nat.lt_trichotomy k i with h5 | h5 | h5
                    · rw [List.getElem?_append_left (by rw [HS.out.1]; exact h5)] at h1
                      rw [List.getElem?_append_left (by rw [HS.out.2.1]; exact h5)] at h2
                      exact HS.out.2.2.1 k hd s h1 h2
                    · subst h5
                      rw [List.getElem?_append_right (by rw [HS.out.1]; exact Nat.le_refl _), HS.out.1, Nat.sub_self] at h1
                      rw [List.getElem?_append_right (by rw [HS.out.2.1]; exact Nat.le_refl _), HS.out.2.1, Nat.sub_self] at h2
                      obtain rfl := Option.some.inj h1
                      obtain rfl := Option.some.inj h2
                      rfl
                    · rw [List.getElem?_eq_none (by simp [HS.out.1]; omega)] at h1
                      cases h1
                  · rcases Nat.lt_or_ge k i with h5 | h5
                    · rw [List.getElem?_append_left (by rw [HS.out.2.1]; exact h5)]
                      exact HS.out.2.2.2 k s h5 hs'
                    · obtain rfl : k = i := by omega
                      rw [HRR.out] at hs'
                      obtain rfl := Option.some.inj hs'
                      rw [List.getElem?_append_right (by rw [HS.out.2.1]; exact Nat.le_refl _), HS.out.2.1, Nat.sub_self, HYS.out]
                      rfl
                case measure => first | (simp [intOf]; done) | (simp [intOf]; omega)
        · obtain rfl : i = hs.length := by omega
          clear hlt hi
          go_wp2
          go_loopw [9] (fun v9 wr => ∃ (i : Nat), v9 = .int .i64 i ∧ i ≤ hs.length ∧ Mem w0 wr (own Enc.hdr 32 A5 c5 gs :: rowsP Enc.i64 3 gs ls :: rowsP Enc.i64 3 hs rows :: own Enc.hdr 32 A c hs :: As)) (fun v _ => hs.length - (intOf v).toNat)
          case atStart => exact ⟨0, rfl, Nat.zero_le _, H3⟩
          case round =>
            clear H3
            obtain ⟨i, rfl, hi, H3⟩ := hrel
            obtain ⟨w3, rfl⟩ : ∃ w3 : World, w3 = wr := ⟨_, rfl⟩
            by_cases hlt : i < hs.length
            · obtain ⟨⟨A', n', c'⟩, hhd⟩ : ∃ hd, hs[i]? = some hd := ⟨_, List.getElem?_eq_getElem hlt⟩
              obtain ⟨r, hr⟩ : ∃ r, rows[i]? = some r := ⟨_, List.getElem?_eq_getElem (by have := HF.out.1; omega)⟩
              obtain ⟨hn, hc, hp, hb⟩ := HF.out.2 i _ r hhd hr
              simp only [] at hn hc
              subst hn
              have hrf := HI.out i r hlt hr
              have hgl2 : i < gs.length := by rw [HS.out.1]; exact hlt
              obtain ⟨⟨B', m', d'⟩, hgd⟩ : ∃ hd, gs[i]? = some hd := ⟨_, List.getElem?_eq_getElem (by have := HS.out.1; omega)⟩
              have hls := HS.out.2.2.2 i r hlt hr
              have hm := HS.out.2.2.1 i _ _ hgd hls
              simp only [] at hm
              rw [List.length_append, moreL_len] at hm
              subst hm
              obtain ⟨gA, oA, rfl, eA⟩ := (H3.own_rd 3 rfl (by decide)).1.get1 rfl hhd rfl
              obtain ⟨gB, oB, rfl, eB⟩ := (H3.own_rd 0 rfl (by decide)).1.get1 rfl hgd rfl
              have hR1 := (H3.rows_get 2 rfl (by decide) hhd hr).1
              have hR2 := (H3.rows_get 1 rfl (by decide) hgd hls).1
              obtain ⟨m, hm⟩ : ∃ m, m = r.length := ⟨_, rfl⟩
              have hg1 : ∀ k, k < m → r[k]? = some (1000 * (i : Int) + (k : Int)) := fun k hk => by rw [hrf, fillL_get (by omega)]
              have hg2 : ∀ k, k < m → (r ++ moreL i 30)[k]? = some (1000 * (i : Int) + (k : Int)) := fun k hk => by rw [List.getElem?_append_left (by omega)]; exact hg1 k hk
              have hg3 : ∀ k, k < 30 → (r ++ moreL i 30)[m + k]? = some (500000 + 1000 * (i : Int) + (k : Int)) := fun k hk => by rw [List.getElem?_append_right (by omega), hm, Nat.add_sub_cancel_left]; exact moreL_get hk
              have HG1 := hid hg1
              have HG2 := hid hg2
              have HG3 := hid hg3
              have HR1 := hid hR1
              have HR2 := hid hR2
              have HM := hid hm
              rw [← hm] at eA eB hb hp
              clear hg1 hg2 hg3 hR1 hR2 hhd hr hrf hgd hls hm hc
              go_wp2
              go_loopw [11] (fun v11 wr => ∃ (k : Nat), v11 = .int .i64 k ∧ k ≤ m ∧ Hd (w3 = wr)) (fun v _ => m - (intOf v).toNat)
              case atStart => exact ⟨0, rfl, Nat.zero_le _, ⟨by first | trivial | rfl⟩⟩
              case round =>
                obtain ⟨k, rfl, hk, HW⟩ := hrel
                obtain rfl := HW.out
                clear HW
                by_cases hkl : k < m
                · obtain ⟨b1, o1, rfl, d1⟩ := HR1.out.get1 rfl (HG1.out k hkl) rfl
                  obtain ⟨b2, o2, rfl, d2⟩ := HR2.out.get1 rfl (HG2.out k hkl) rfl
                  have q1 : ((1000 * (i : Int) + (k : Int)) == (1000 * (i : Int) + (k : Int))) = true := by simp
                  go_wp2
                  go_roundw
                  case rel => exact ⟨k + 1, by go_num, by omega, ⟨by first | trivial | rfl⟩⟩
                  case measure => first | (simp [intOf]; done) | (simp [intOf]; omega)
                · obtain rfl : k = m := by omega
                  go_wp2
                  go_loopw [12] (fun v12 wr => ∃ (j : Nat), v12 = .int .i64 j ∧ j ≤ 30 ∧ Hd (w3 = wr)) (fun v _ => 30 - (intOf v).toNat)
                  case atStart => exact ⟨0, rfl, Nat.zero_le _, ⟨by first | trivial | rfl⟩⟩
                  case round =>
                    obtain ⟨j, rfl, hj, HW⟩ := hrel
                    obtain rfl := HW.out
                    clear HW
                    by_cases hjl : j < 30
                    · obtain ⟨b2, o2, rfl, d2⟩ := HR2.out.get1 rfl (HG3.out j hjl) rfl
                      go_wp2
                      go_roundw
                      case rel => exact ⟨j + 1, by go_num, by omega, ⟨by first | trivial | rfl⟩⟩
                      case measure => first | (simp [intOf]; done) | (simp [intOf]; omega)
                    · obtain rfl : j = 30 := by omega
                      go_wp2
                      go_roundw
                      case rel => exact ⟨i + 1, by go_num, by omega, H3⟩
                      case measure => first | (simp [intOf]; done) | (simp [intOf]; omega)
            · obtain rfl : i = hs.length := by omega
              go_wp2
              go_ret
              exact ⟨rfl, (((H3.drop 0).drop 0).drop 0).drop 0⟩
end Go.Proofs.Ytjlikbaamefkiaa
