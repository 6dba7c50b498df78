/- Names: known. -/
import Derived.Test.YtogndpckiognjaaNmK2
namespace Go.Proofs.Ytogndpckiognjaa
open Go.RowKit
set_option linter.unusedVariables false
set_option linter.unusedSimpArgs false
set_option maxHeartbeats 2000000
def knownA : Src := ⟨[], [⟨⟨#[120]⟩, 0⟩, ⟨⟨#[120]⟩, 0⟩], [], [], []⟩
def knownB : Src := ⟨[], [], [], [], [⟨⟨#[102]⟩, 0, [], [], [], [⟨1, ⟨#[]⟩, [⟨#[120]⟩], [[⟨1, 1, ⟨#[]⟩⟩]]⟩, ⟨9, ⟨#[]⟩, [], []⟩]⟩]⟩
def knownC : Src := ⟨[], [], [], [⟨⟨#[99]⟩, 0⟩], [⟨⟨#[102]⟩, 0, [], [], [], [⟨1, ⟨#[]⟩, [⟨#[99]⟩], [[⟨1, 1, ⟨#[]⟩⟩]]⟩, ⟨9, ⟨#[]⟩, [], []⟩]⟩]⟩
def knownD : Src := ⟨[], [], [], [], [⟨⟨#[102]⟩, 0, [], [], [], [⟨9, ⟨#[]⟩, [], []⟩]⟩]⟩
theorem check_is (h : SrcH) (s : Src) (er fn at_ : Int) (hb : checkF s = (er, fn, at_)) (w : World) (R : RdSrc w h s) (ok : s.Ok) :
    Calls Try.prog 6 #[h.val] w fun e w' => e = .returned (.agg #[.int .i64 er, .int .i64 fn, .int .i64 at_]) ∧ Mem w w' [] := by
  have := check_calls h s w R ok
  rw [hb] at this
  exact this
theorem own_h {w0 w : World} {As : List HP} {α : Type} {E : Enc α} {T : TypeId} {A : Option Addr} {c : Nat} {xs : List α} (H : Mem w0 w As) (i : Nat) (hi : As[i]? = some (own E T A c xs)) (hp : 0 < E.sz) : RdH E w ⟨A, xs.length, c⟩ xs := ⟨rfl, (H.own_rd i hi hp).2.1, (H.own_rd i hi hp).1⟩
theorem done_is (nm : ByteArray) (A : Option Addr) (c : Nat) (xs : List StmtH) (n m : Nat) (hn : xs.length = n) (hm : n + 1 = m) (w : World) (hR : Rd Enc.stmt w A xs) (hl : xs.length ≤ 1000) :
    Calls Try.prog 15 #[.string nm, .slice A n c] w fun e w' => ∃ A' c', e = .returned (.agg #[.string nm, .int .u64 0, .slice none 0 0, .slice none 0 0, .slice none 0 0, .slice A' m c']) ∧ Mem w w' [own Enc.stmt 47 A' c' (xs ++ [⟨9, ByteArray.empty, ⟨none, 0, 0⟩, ⟨none, 0, 0⟩⟩])] := by
  subst hn hm
  exact done_calls nm A c xs w hR hl
/-- One function with one body. -/
theorem RdFs.one {w : World} {g : Nat} {nm : ByteArray} {b : Hdr} {l : List Stmt} {hs : List StmtH} (hd : RdH Enc.func w ⟨some ⟨g, 0, none⟩, 1, 1⟩ [⟨nm, 0, ⟨none, 0, 0⟩, ⟨none, 0, 0⟩, ⟨none, 0, 0⟩, b⟩]) (hb : RdB w b l hs) : RdFs w ⟨some ⟨g, 0, none⟩, 1, 1⟩ [⟨nm, 0, [], [], [], l⟩] [⟨nm, 0, ⟨none, 0, 0⟩, ⟨none, 0, 0⟩, ⟨none, 0, 0⟩, b⟩] :=
  ⟨rfl, hd, fun i hd s h1 h2 => by
    match i, h1, h2 with
    | 0, h1, h2 => obtain rfl := Option.some.inj h1; obtain rfl := Option.some.inj h2; exact ⟨rfl, rfl, RdH.nil _ _, RdH.nil _ _, RdH.nil _ _, hs, hb⟩
    | i + 1, h1, h2 => simp at h1⟩
theorem RdFs.none' {w : World} : RdFs w ⟨none, 0, 0⟩ [] [] := ⟨rfl, RdH.nil _ _, fun i hd s h1 => by simp at h1⟩
theorem RdB.two {w : World} {A : Option Addr} {c gs ge gt : Nat} {nm : ByteArray} (hd : RdH Enc.stmt w ⟨A, 2, c⟩ [⟨1, ⟨#[]⟩, ⟨some ⟨gs, 0, none⟩, 1, 1⟩, ⟨some ⟨ge, 0, none⟩, 1, 1⟩⟩, ⟨9, ByteArray.empty, ⟨none, 0, 0⟩, ⟨none, 0, 0⟩⟩]) (h1 : RdH Enc.str w ⟨some ⟨gs, 0, none⟩, 1, 1⟩ [nm]) (h2 : RdH Enc.hdr w ⟨some ⟨ge, 0, none⟩, 1, 1⟩ [⟨some ⟨gt, 0, none⟩, 1, 1⟩]) (h3 : RdH Enc.term w ⟨some ⟨gt, 0, none⟩, 1, 1⟩ [⟨1, 1, ⟨#[]⟩⟩]) :
    RdB w ⟨A, 2, c⟩ [⟨1, ⟨#[]⟩, [nm], [[⟨1, 1, ⟨#[]⟩⟩]]⟩, ⟨9, ⟨#[]⟩, [], []⟩] [⟨1, ⟨#[]⟩, ⟨some ⟨gs, 0, none⟩, 1, 1⟩, ⟨some ⟨ge, 0, none⟩, 1, 1⟩⟩, ⟨9, ByteArray.empty, ⟨none, 0, 0⟩, ⟨none, 0, 0⟩⟩] :=
  ⟨rfl, hd, fun i hd s k1 k2 => by
    match i, k1, k2 with
    | 0, k1, k2 =>
      obtain rfl := Option.some.inj k1
      obtain rfl := Option.some.inj k2
      refine ⟨rfl, rfl, h1, _, ⟨rfl, h2, fun i hd r k1 k2 => ?_⟩⟩
      match i, k1, k2 with
      | 0, k1, k2 => obtain rfl := Option.some.inj k1; obtain rfl := Option.some.inj k2; exact h3
      | i + 1, k1, k2 => simp at k1
    | 1, k1, k2 =>
      obtain rfl := Option.some.inj k1
      obtain rfl := Option.some.inj k2
      exact RdS.plain _ _ _
    | i + 2, k1, k2 => simp at k1⟩
theorem RdB.last {w : World} {A : Option Addr} {c : Nat} (hd : RdH Enc.stmt w ⟨A, 1, c⟩ [⟨9, ByteArray.empty, ⟨none, 0, 0⟩, ⟨none, 0, 0⟩⟩]) : RdB w ⟨A, 1, c⟩ [⟨9, ⟨#[]⟩, [], []⟩] [⟨9, ByteArray.empty, ⟨none, 0, 0⟩, ⟨none, 0, 0⟩⟩] :=
  ⟨rfl, hd, fun i hd s k1 k2 => by
    match i, k1, k2 with
    | 0, k1, k2 =>
      obtain rfl := Option.some.inj k1
      obtain rfl := Option.some.inj k2
      exact RdS.plain _ _ _
    | i + 1, k1, k2 => simp at k1⟩
set_option maxRecDepth 100000 in
theorem known_calls (w : World) : Calls Try.prog 5 #[] w fun e w' => e = .returned (.bool true) ∧ Mem w w' [] := by
  have hr := flt_eql
  have hg := flt_eqGuard
  go_enter Try.func5, Try.ntmps5
  go_upto_region 7 with (first
    | (go_at_call 14; (with_reducible refine (found_calls _).mono ?_); rintro e wH1 ⟨rfl, H1⟩)
    | ((with_reducible refine at_buildN ?_); refine wpList_lit rfl H1 #[.string ⟨#[120]⟩, .int .u64 0, .string ⟨#[120]⟩, .int .u64 0] 37 2 (by first | rfl | (go_simp; done) | (go_simp; rfl)) ?_; intro gA1 wH2 H2)
    | ((with_reducible refine at_alloc ?_); refine wpList_alloc_box H2 (.agg #[.slice none 0 0, .slice none 0 0, .slice none 0 0, .slice none 0 0, .slice none 0 0]) (by kernel_rfl) ?_; intro gH3 wH3 H3; simp only [splice, vcells_int, vcells_bool, vcells_string, vcells_pointer, vcells_slice, vcells_map, vcells_func, vcells_nilFunc, vcells_iface, vcells_nilIface, vcells_agg, List.take_zero, List.take_succ_cons, List.drop_zero, List.drop_succ_cons, List.length_cons, List.length_nil, List.nil_append, List.cons_append, List.append_nil, Nat.zero_add, List.set_cons_zero, List.set_cons_succ] at H3)
    | ((with_reducible refine at_store ?_); refine wpList_store_box H3 0 5 rfl rfl (by kernel_rfl) rfl (Nat.le_of_ble_eq_true rfl) rfl ?_; intro u_ wH4 hu_ H4; simp only [Act.eval, Act.put, List.setIfInBounds_toArray, List.set_cons_zero, List.set_cons_succ, Array.getD_eq_getD_getElem?, List.getElem?_toArray, List.getElem?_cons_zero, List.getElem?_cons_succ, Option.getD_some] at hu_; subst hu_; simp only [splice, vcells_int, vcells_bool, vcells_string, vcells_pointer, vcells_slice, vcells_map, vcells_func, vcells_nilFunc, vcells_iface, vcells_nilIface, vcells_agg, List.take_zero, List.take_succ_cons, List.drop_zero, List.drop_succ_cons, List.length_cons, List.length_nil, List.nil_append, List.cons_append, List.append_nil, Nat.zero_add, List.set_cons_zero, List.set_cons_succ] at H4)
    | ((with_reducible refine at_buildN ?_); refine wpList_lit rfl H4 #[.string ⟨#[120]⟩] 9 1 (by first | rfl | (go_simp; done) | (go_simp; rfl)) ?_; intro gBs wH5 H5)
    | ((with_reducible refine at_buildN ?_); refine wpList_lit rfl H5 #[.int .i64 1, .int .i64 1, .string ⟨#[]⟩] 62 1 (by first | rfl | (go_simp; done) | (go_simp; rfl)) ?_; intro gBt wH6 H6)
    | ((with_reducible refine at_buildN ?_); refine wpList_lit rfl H6 #[.slice (some ⟨gBt, 0, none⟩) 1 1] 60 1 (by first | rfl | (go_simp; done) | (go_simp; rfl)) ?_; intro gBe wH7 H7)
    | ((with_reducible refine at_buildN ?_); refine wpList_lit rfl H7 #[.int .i64 1, .string ⟨#[]⟩, .slice (some ⟨gBs, 0, none⟩) 1 1, .slice (some ⟨gBe, 0, none⟩) 1 1] 47 1 (by first | rfl | (go_simp; done) | (go_simp; rfl)) ?_; intro gBm wH8 H8)
    | (go_at_call 15; (have HF := done_is ⟨#[102]⟩ (some ⟨gBm, 0, none⟩) 1 [⟨1, ⟨#[]⟩, ⟨some ⟨gBs, 0, none⟩, 1, 1⟩, ⟨some ⟨gBe, 0, none⟩, 1, 1⟩⟩] 1 2 rfl rfl _ (H8.lit (E := Enc.stmt) 0 rfl [⟨1, ⟨#[]⟩, ⟨some ⟨gBs, 0, none⟩, 1, 1⟩, ⟨some ⟨gBe, 0, none⟩, 1, 1⟩⟩] rfl).rd (by simp)); ((with_reducible refine HF.mono ?_); rintro e wH9 ⟨ABd, cBd, rfl, MM⟩; have H9 := H8.call MM; simp only [List.cons_append, List.nil_append] at H9; clear MM HF))
    | ((with_reducible refine at_buildN ?_); refine wpList_lit rfl H9 #[.string ⟨#[102]⟩, .int .u64 0, .slice none 0 0, .slice none 0 0, .slice none 0 0, .slice ABd 2 cBd] 43 1 (by first | rfl | (go_simp; done) | (go_simp; rfl)) ?_; intro gBf wH10 H10)
    | ((with_reducible refine at_alloc ?_); refine wpList_alloc_box H10 (.agg #[.slice none 0 0, .slice none 0 0, .slice none 0 0, .slice none 0 0, .slice none 0 0]) (by kernel_rfl) ?_; intro gH11 wH11 H11; simp only [splice, vcells_int, vcells_bool, vcells_string, vcells_pointer, vcells_slice, vcells_map, vcells_func, vcells_nilFunc, vcells_iface, vcells_nilIface, vcells_agg, List.take_zero, List.take_succ_cons, List.drop_zero, List.drop_succ_cons, List.length_cons, List.length_nil, List.nil_append, List.cons_append, List.append_nil, Nat.zero_add, List.set_cons_zero, List.set_cons_succ] at H11)
    | ((with_reducible refine at_store ?_); refine wpList_store_box H11 0 5 rfl rfl (by kernel_rfl) rfl (Nat.le_of_ble_eq_true rfl) rfl ?_; intro u_ wH12 hu_ H12; simp only [Act.eval, Act.put, List.setIfInBounds_toArray, List.set_cons_zero, List.set_cons_succ, Array.getD_eq_getD_getElem?, List.getElem?_toArray, List.getElem?_cons_zero, List.getElem?_cons_succ, Option.getD_some] at hu_; subst hu_; simp only [splice, vcells_int, vcells_bool, vcells_string, vcells_pointer, vcells_slice, vcells_map, vcells_func, vcells_nilFunc, vcells_iface, vcells_nilIface, vcells_agg, List.take_zero, List.take_succ_cons, List.drop_zero, List.drop_succ_cons, List.length_cons, List.length_nil, List.nil_append, List.cons_append, List.append_nil, Nat.zero_add, List.set_cons_zero, List.set_cons_succ] at H12)
    | ((with_reducible refine at_buildN ?_); refine wpList_lit rfl H12 #[.string ⟨#[99]⟩, .int .u64 0] 37 1 (by first | rfl | (go_simp; done) | (go_simp; rfl)) ?_; intro gC1 wH13 H13)
    | ((with_reducible refine at_buildN ?_); refine wpList_lit rfl H13 #[.string ⟨#[99]⟩] 9 1 (by first | rfl | (go_simp; done) | (go_simp; rfl)) ?_; intro gCs wH14 H14)
    | ((with_reducible refine at_buildN ?_); refine wpList_lit rfl H14 #[.int .i64 1, .int .i64 1, .string ⟨#[]⟩] 62 1 (by first | rfl | (go_simp; done) | (go_simp; rfl)) ?_; intro gCt wH15 H15)
    | ((with_reducible refine at_buildN ?_); refine wpList_lit rfl H15 #[.slice (some ⟨gCt, 0, none⟩) 1 1] 60 1 (by first | rfl | (go_simp; done) | (go_simp; rfl)) ?_; intro gCe wH16 H16)
    | ((with_reducible refine at_buildN ?_); refine wpList_lit rfl H16 #[.int .i64 1, .string ⟨#[]⟩, .slice (some ⟨gCs, 0, none⟩) 1 1, .slice (some ⟨gCe, 0, none⟩) 1 1] 47 1 (by first | rfl | (go_simp; done) | (go_simp; rfl)) ?_; intro gCm wH17 H17)
    | (go_at_call 15; (have HF := done_is ⟨#[102]⟩ (some ⟨gCm, 0, none⟩) 1 [⟨1, ⟨#[]⟩, ⟨some ⟨gCs, 0, none⟩, 1, 1⟩, ⟨some ⟨gCe, 0, none⟩, 1, 1⟩⟩] 1 2 rfl rfl _ (H17.lit (E := Enc.stmt) 0 rfl [⟨1, ⟨#[]⟩, ⟨some ⟨gCs, 0, none⟩, 1, 1⟩, ⟨some ⟨gCe, 0, none⟩, 1, 1⟩⟩] rfl).rd (by simp)); ((with_reducible refine HF.mono ?_); rintro e wH18 ⟨ACd, cCd, rfl, MM⟩; have H18 := H17.call MM; simp only [List.cons_append, List.nil_append] at H18; clear MM HF))
    | ((with_reducible refine at_buildN ?_); refine wpList_lit rfl H18 #[.string ⟨#[102]⟩, .int .u64 0, .slice none 0 0, .slice none 0 0, .slice none 0 0, .slice ACd 2 cCd] 43 1 (by first | rfl | (go_simp; done) | (go_simp; rfl)) ?_; intro gCf wH19 H19)
    | ((with_reducible refine at_alloc ?_); refine wpList_alloc_box H19 (.agg #[.slice none 0 0, .slice none 0 0, .slice none 0 0, .slice none 0 0, .slice none 0 0]) (by kernel_rfl) ?_; intro gH20 wH20 H20; simp only [splice, vcells_int, vcells_bool, vcells_string, vcells_pointer, vcells_slice, vcells_map, vcells_func, vcells_nilFunc, vcells_iface, vcells_nilIface, vcells_agg, List.take_zero, List.take_succ_cons, List.drop_zero, List.drop_succ_cons, List.length_cons, List.length_nil, List.nil_append, List.cons_append, List.append_nil, Nat.zero_add, List.set_cons_zero, List.set_cons_succ] at H20)
    | ((with_reducible refine at_store ?_); refine wpList_store_box H20 0 5 rfl rfl (by kernel_rfl) rfl (Nat.le_of_ble_eq_true rfl) rfl ?_; intro u_ wH21 hu_ H21; simp only [Act.eval, Act.put, List.setIfInBounds_toArray, List.set_cons_zero, List.set_cons_succ, Array.getD_eq_getD_getElem?, List.getElem?_toArray, List.getElem?_cons_zero, List.getElem?_cons_succ, Option.getD_some] at hu_; subst hu_; simp only [splice, vcells_int, vcells_bool, vcells_string, vcells_pointer, vcells_slice, vcells_map, vcells_func, vcells_nilFunc, vcells_iface, vcells_nilIface, vcells_agg, List.take_zero, List.take_succ_cons, List.drop_zero, List.drop_succ_cons, List.length_cons, List.length_nil, List.nil_append, List.cons_append, List.append_nil, Nat.zero_add, List.set_cons_zero, List.set_cons_succ] at H21)
    | (go_at_call 15; (have HF := done_is ⟨#[102]⟩ none 0 [] 0 1 rfl rfl _ (RdC.nil wH21 _ _) (by simp)); ((with_reducible refine HF.mono ?_); rintro e wH22 ⟨ADd, cDd, rfl, MM⟩; have H22 := H21.call MM; simp only [List.cons_append, List.nil_append] at H22; clear MM HF))
    | ((with_reducible refine at_buildN ?_); refine wpList_lit rfl H22 #[.string ⟨#[102]⟩, .int .u64 0, .slice none 0 0, .slice none 0 0, .slice none 0 0, .slice ADd 1 cDd] 43 1 (by first | rfl | (go_simp; done) | (go_simp; rfl)) ?_; intro gDf wH23 H23)
    | ((with_reducible refine at_alloc ?_); refine wpList_alloc_box H23 (.agg #[.slice none 0 0, .slice none 0 0, .slice none 0 0, .slice none 0 0, .slice none 0 0]) (by kernel_rfl) ?_; intro gH24 wH24 H24; simp only [splice, vcells_int, vcells_bool, vcells_string, vcells_pointer, vcells_slice, vcells_map, vcells_func, vcells_nilFunc, vcells_iface, vcells_nilIface, vcells_agg, List.take_zero, List.take_succ_cons, List.drop_zero, List.drop_succ_cons, List.length_cons, List.length_nil, List.nil_append, List.cons_append, List.append_nil, Nat.zero_add, List.set_cons_zero, List.set_cons_succ] at H24)
    | ((with_reducible refine at_store ?_); refine wpList_store_box H24 0 5 rfl rfl (by kernel_rfl) rfl (Nat.le_of_ble_eq_true rfl) rfl ?_; intro u_ wH25 hu_ H25; simp only [Act.eval, Act.put, List.setIfInBounds_toArray, List.set_cons_zero, List.set_cons_succ, Array.getD_eq_getD_getElem?, List.getElem?_toArray, List.getElem?_cons_zero, List.getElem?_cons_succ, Option.getD_some] at hu_; subst hu_; simp only [splice, vcells_int, vcells_bool, vcells_string, vcells_pointer, vcells_slice, vcells_map, vcells_func, vcells_nilFunc, vcells_iface, vcells_nilIface, vcells_agg, List.take_zero, List.take_succ_cons, List.drop_zero, List.drop_succ_cons, List.length_cons, List.length_nil, List.nil_append, List.cons_append, List.append_nil, Nat.zero_add, List.set_cons_zero, List.set_cons_succ] at H25))
  simp only [Act.put, List.setIfInBounds_toArray, List.set_cons_zero, List.set_cons_succ]
  have RA : RdSrc wH25 ⟨⟨none, 0, 0⟩, ⟨some ⟨gA1, 0, none⟩, 2, 2⟩, ⟨none, 0, 0⟩, ⟨none, 0, 0⟩, ⟨none, 0, 0⟩, []⟩ knownA := ⟨RdH.nil _ _, H25.lit (E := Enc.decl) 19 rfl [⟨⟨#[120]⟩, 0⟩, ⟨⟨#[120]⟩, 0⟩] rfl, RdH.nil _ _, RdH.nil _ _, RdFs.none'⟩
  have RB : RdSrc wH25 ⟨⟨none, 0, 0⟩, ⟨none, 0, 0⟩, ⟨none, 0, 0⟩, ⟨none, 0, 0⟩, ⟨some ⟨gBf, 0, none⟩, 1, 1⟩, [⟨⟨#[102]⟩, 0, ⟨none, 0, 0⟩, ⟨none, 0, 0⟩, ⟨none, 0, 0⟩, ⟨ABd, 2, cBd⟩⟩]⟩ knownB := ⟨RdH.nil _ _, RdH.nil _ _, RdH.nil _ _, RdH.nil _ _, RdFs.one (H25.lit (E := Enc.func) 12 rfl [⟨⟨#[102]⟩, 0, ⟨none, 0, 0⟩, ⟨none, 0, 0⟩, ⟨none, 0, 0⟩, ⟨ABd, 2, cBd⟩⟩] rfl) (RdB.two (own_h H25 13 rfl (by decide)) (H25.lit (E := Enc.str) 17 rfl [⟨#[120]⟩] rfl) (H25.lit (E := Enc.hdr) 15 rfl [⟨some ⟨gBt, 0, none⟩, 1, 1⟩] rfl) (H25.lit (E := Enc.term) 16 rfl [⟨1, 1, ⟨#[]⟩⟩] rfl))⟩
  have RC : RdSrc wH25 ⟨⟨none, 0, 0⟩, ⟨none, 0, 0⟩, ⟨none, 0, 0⟩, ⟨some ⟨gC1, 0, none⟩, 1, 1⟩, ⟨some ⟨gCf, 0, none⟩, 1, 1⟩, [⟨⟨#[102]⟩, 0, ⟨none, 0, 0⟩, ⟨none, 0, 0⟩, ⟨none, 0, 0⟩, ⟨ACd, 2, cCd⟩⟩]⟩ knownC := ⟨RdH.nil _ _, RdH.nil _ _, RdH.nil _ _, H25.lit (E := Enc.decl) 10 rfl [⟨⟨#[99]⟩, 0⟩] rfl, RdFs.one (H25.lit (E := Enc.func) 4 rfl [⟨⟨#[102]⟩, 0, ⟨none, 0, 0⟩, ⟨none, 0, 0⟩, ⟨none, 0, 0⟩, ⟨ACd, 2, cCd⟩⟩] rfl) (RdB.two (own_h H25 5 rfl (by decide)) (H25.lit (E := Enc.str) 9 rfl [⟨#[99]⟩] rfl) (H25.lit (E := Enc.hdr) 7 rfl [⟨some ⟨gCt, 0, none⟩, 1, 1⟩] rfl) (H25.lit (E := Enc.term) 8 rfl [⟨1, 1, ⟨#[]⟩⟩] rfl))⟩
  have RD : RdSrc wH25 ⟨⟨none, 0, 0⟩, ⟨none, 0, 0⟩, ⟨none, 0, 0⟩, ⟨none, 0, 0⟩, ⟨some ⟨gDf, 0, none⟩, 1, 1⟩, [⟨⟨#[102]⟩, 0, ⟨none, 0, 0⟩, ⟨none, 0, 0⟩, ⟨none, 0, 0⟩, ⟨ADd, 1, cDd⟩⟩]⟩ knownD := ⟨RdH.nil _ _, RdH.nil _ _, RdH.nil _ _, RdH.nil _ _, RdFs.one (H25.lit (E := Enc.func) 1 rfl [⟨⟨#[102]⟩, 0, ⟨none, 0, 0⟩, ⟨none, 0, 0⟩, ⟨none, 0, 0⟩, ⟨ADd, 1, cDd⟩⟩] rfl) (RdB.last (own_h H25 2 rfl (by decide)))⟩
  have b0 := H25.cells 18 rfl
  simp only [cellsAre, and_true, Nat.zero_add] at b0
  have B0 := hid b0
  have b1 := H25.cells 11 rfl
  simp only [cellsAre, and_true, Nat.zero_add] at b1
  have B1 := hid b1
  have b2 := H25.cells 3 rfl
  simp only [cellsAre, and_true, Nat.zero_add] at b2
  have B2 := hid b2
  have b3 := H25.cells 0 rfl
  simp only [cellsAre, and_true, Nat.zero_add] at b3
  have B3 := hid b3
  have HW := H25.none
  have RA' := hid RA
  have RB' := hid RB
  have RC' := hid RC
  have RD' := hid RD
  have M0 := Mem.refl wH25
  clear RA RB RC RD b0 b1 b2 b3 H1 H2 H3 H4 H5 H6 H7 H8 H9 H10 H11 H12 H13 H14 H15 H16 H17 H18 H19 H20 H21 H22 H23 H24 H25
  have c0 := M0.old B0.out.1.1
  have c1 := M0.old B0.out.2.1.1
  have c2 := M0.old B0.out.2.2.1.1
  have c3 := M0.old B0.out.2.2.2.1.1
  have c4 := M0.old B0.out.2.2.2.2.1
  go_wp2_with (first
    | ((go_at_call 6; (with_reducible refine (check_is ⟨⟨none, 0, 0⟩, ⟨some ⟨gA1, 0, none⟩, 2, 2⟩, ⟨none, 0, 0⟩, ⟨none, 0, 0⟩, ⟨none, 0, 0⟩, []⟩ knownA 70 (-1) 1 (by kernel_rfl) _ (RA'.out.below M0.below) (Src.ok_of (by kernel_rfl))).mono ?_); rintro e m1 ⟨rfl, MM⟩); have M1 := M0.call MM; simp only [List.nil_append] at M1; clear MM; clear c0 c1 c2 c3 c4; have c0 := M1.old B1.out.1.1; have c1 := M1.old B1.out.2.1.1; have c2 := M1.old B1.out.2.2.1.1; have c3 := M1.old B1.out.2.2.2.1.1; have c4 := M1.old B1.out.2.2.2.2.1)
    | ((go_at_call 6; (with_reducible refine (check_is ⟨⟨none, 0, 0⟩, ⟨none, 0, 0⟩, ⟨none, 0, 0⟩, ⟨none, 0, 0⟩, ⟨some ⟨gBf, 0, none⟩, 1, 1⟩, [⟨⟨#[102]⟩, 0, ⟨none, 0, 0⟩, ⟨none, 0, 0⟩, ⟨none, 0, 0⟩, ⟨ABd, 2, cBd⟩⟩]⟩ knownB 71 (0) 0 (by kernel_rfl) _ (RB'.out.below M1.below) (Src.ok_of (by kernel_rfl))).mono ?_); rintro e m2 ⟨rfl, MM⟩); have M2 := M1.call MM; simp only [List.nil_append] at M2; clear MM; clear c0 c1 c2 c3 c4; have c0 := M2.old B2.out.1.1; have c1 := M2.old B2.out.2.1.1; have c2 := M2.old B2.out.2.2.1.1; have c3 := M2.old B2.out.2.2.2.1.1; have c4 := M2.old B2.out.2.2.2.2.1)
    | ((go_at_call 6; (with_reducible refine (check_is ⟨⟨none, 0, 0⟩, ⟨none, 0, 0⟩, ⟨none, 0, 0⟩, ⟨some ⟨gC1, 0, none⟩, 1, 1⟩, ⟨some ⟨gCf, 0, none⟩, 1, 1⟩, [⟨⟨#[102]⟩, 0, ⟨none, 0, 0⟩, ⟨none, 0, 0⟩, ⟨none, 0, 0⟩, ⟨ACd, 2, cCd⟩⟩]⟩ knownC 72 (0) 0 (by kernel_rfl) _ (RC'.out.below M2.below) (Src.ok_of (by kernel_rfl))).mono ?_); rintro e m3 ⟨rfl, MM⟩); have M3 := M2.call MM; simp only [List.nil_append] at M3; clear MM; clear c0 c1 c2 c3 c4; have c0 := M3.old B3.out.1.1; have c1 := M3.old B3.out.2.1.1; have c2 := M3.old B3.out.2.2.1.1; have c3 := M3.old B3.out.2.2.2.1.1; have c4 := M3.old B3.out.2.2.2.2.1)
    | ((go_at_call 6; (with_reducible refine (check_is ⟨⟨none, 0, 0⟩, ⟨none, 0, 0⟩, ⟨none, 0, 0⟩, ⟨none, 0, 0⟩, ⟨some ⟨gDf, 0, none⟩, 1, 1⟩, [⟨⟨#[102]⟩, 0, ⟨none, 0, 0⟩, ⟨none, 0, 0⟩, ⟨none, 0, 0⟩, ⟨ADd, 1, cDd⟩⟩]⟩ knownD 0 (0) 0 (by kernel_rfl) _ (RD'.out.below M3.below) (Src.ok_of (by kernel_rfl))).mono ?_); rintro e m4 ⟨rfl, MM⟩); have M4 := M3.call MM; simp only [List.nil_append] at M4; clear MM)
    | (go_at_call 8; ((with_reducible refine (name_is ⟨#[97, 95, 49]⟩ _ true (by kernel_rfl) (by decide)).mono ?_); rintro e m ⟨rfl, MM⟩; have M5 := M4.call MM; simp only [List.nil_append] at M5; clear MM))
    | (go_at_call 8; ((with_reducible refine (name_is ⟨#[105, 102]⟩ _ false (by kernel_rfl) (by decide)).mono ?_); rintro e m ⟨rfl, MM⟩; have M6 := M5.call MM; simp only [List.nil_append] at M6; clear MM)))
  go_ret
  exact ⟨rfl, (HW.call M6).none⟩
end Go.Proofs.Ytogndpckiognjaa
