/- Names: the checker: declarations. -/
import Derived.Test.YtogndpckiognjaaNmC1
namespace Go.Proofs.Ytogndpckiognjaa
open Go.RowKit Go.Maps
set_option linter.unusedVariables false
set_option linter.unusedSimpArgs false
set_option maxHeartbeats 2000000
theorem Mem.ck {w0 w : World} {As : List HP} {gc : Nat} {h : SrcH} {x : Flt} (H : Mem w0 w (ckB gc h x :: As)) : w.cell? ⟨gc, 0, Option.none⟩ = some (.slice h.p.A h.p.n h.p.c) ∧ w.cell? ⟨gc, 1, Option.none⟩ = some (.slice h.g.A h.g.n h.g.c) ∧ w.cell? ⟨gc, 2, Option.none⟩ = some (.slice h.a.A h.a.n h.a.c) ∧ w.cell? ⟨gc, 3, Option.none⟩ = some (.slice h.c.A h.c.n h.c.c) ∧ w.cell? ⟨gc, 4, Option.none⟩ = some (.slice h.f.A h.f.n h.f.c) := by
  have hh := (H.box_cell 0 rfl).1
  exact ⟨by simpa using hh 0, by simpa using hh 1, by simpa using hh 2, by simpa using hh 3, by simpa using hh 4⟩
/-- The principals. -/
def prinF (ps : List ByteArray) : List ByteArray → Nat → Flt → Flt
  | [], _, x => x
  | p :: r, k, x => prinF ps r (k + 1) (tellF ((ps.take k).any fun y => p.toList == y.toList) 70 (-1) k (tellF (!nameOk p) 1 (-1) k (tellF (decide (64 ≤ (k : Int))) 74 (-1) k x)))
theorem prin_at {ps l : List ByteArray} {k : Nat} {p : ByteArray} {x : Flt} (h : l[k]? = some p) : prinF ps (l.drop k) k x = prinF ps (l.drop (k + 1)) (k + 1) (tellF ((ps.take k).any fun y => p.toList == y.toList) 70 (-1) k (tellF (!nameOk p) 1 (-1) k (tellF (decide (64 ≤ (k : Int))) 74 (-1) k x))) := by
  obtain ⟨hk, rfl⟩ := List.getElem?_eq_some_iff.1 h
  rw [List.drop_eq_getElem_cons hk, prinF]
/-- A list of things that are declared: how many there were before, the names before; the whole list; from a place on. -/
def oneL {α : Type} (np : Nat) (most : Int) (f : α → ByteArray × Int × Int) (n : Nat) (ns : List ByteArray) (l : List α) : Nat → List α → Flt → Flt
  | _, [], x => x
  | i, a :: r, x => oneL np most f n ns l (i + 1) r (oneF np ((n + i : Nat) : Int) i most (f a).1 (f a).2.1 (f a).2.2 (ns ++ (l.take i).map fun y => (f y).1) x)
theorem oneL_at {α : Type} {np : Nat} {most : Int} {f : α → ByteArray × Int × Int} {n : Nat} {ns : List ByteArray} {l : List α} {k : Nat} {a : α} {x : Flt} (h : l[k]? = some a) :
    oneL np most f n ns l k (l.drop k) x = oneL np most f n ns l (k + 1) (l.drop (k + 1)) (oneF np ((n + k : Nat) : Int) k most (f a).1 (f a).2.1 (f a).2.2 (ns ++ (l.take k).map fun y => (f y).1) x) := by
  obtain ⟨hk, rfl⟩ := List.getElem?_eq_some_iff.1 h
  rw [List.drop_eq_getElem_cons hk, oneL]
theorem map_take {α β : Type} {l : List α} {k : Nat} {a : α} (f : α → β) (h : l[k]? = some a) : (l.take (k + 1)).map f = (l.take k).map f ++ [f a] := by
  rw [List.take_add_one, h]
  simp
abbrev gF (d : Decl) : ByteArray × Int × Int := (d.name, 1, d.label)
abbrev aF (d : Arr) : ByteArray × Int × Int := (d.name, d.len, d.label)
abbrev fF (d : FDecl) : ByteArray × Int × Int := (d.name, 1, 0)
/-- All that is declared. -/
def declF (s : Src) (x : Flt) : Flt :=
  let np := s.principals.length
  let x0 := prinF s.principals s.principals 0 x
  let x1 := oneL np 32 gF np [] s.globals 0 s.globals x0
  let ns1 := s.globals.map (·.name)
  let x2 := oneL np 16 aF (np + s.globals.length) ns1 s.arrays 0 s.arrays x1
  let ns2 := ns1 ++ s.arrays.map (·.name)
  let x3 := oneL np 16 gF (np + s.globals.length + s.arrays.length) ns2 s.channels 0 s.channels x2
  let ns3 := ns2 ++ s.channels.map (·.name)
  oneL np 32 fF (np + s.globals.length + s.arrays.length + s.channels.length) ns3 s.funcs 0 s.funcs x3
set_option maxRecDepth 100000 in
theorem declarations_calls {w0 w : World} {As : List HP} {gc : Nat} {h : SrcH} {s : Src} {x : Flt} (R : RdSrc w0 h s) (ok : s.Ok) (H : Mem w0 w (ckB gc h x :: As)) :
    Calls Try.prog 17 #[pt gc] w fun e w' => e = .returned (.tuple #[]) ∧ Mem w0 w' (ckB gc h (declF s x) :: As) := by
  have hmm := @run_makeMap Try.prog
  have HR := hid R
  have HO := hid ok
  have lp := ok.principals
  have lg := ok.globals
  have la := ok.arrays
  have lc := ok.channels
  have lf := ok.funcs
  have hpn : h.p.n = s.principals.length := R.principals.n
  have hgn : h.g.n = s.globals.length := R.globals.n
  have han : h.a.n = s.arrays.length := R.arrays.n
  have hcn : h.c.n = s.channels.length := R.channels.n
  have hfn : h.f.n = s.funcs.length := by rw [R.funcs.hdr.n, R.funcs.len]
  have HN := hid (And.intro hpn (And.intro hgn (And.intro han (And.intro hcn hfn))))
  have CK := hid (fun (w' : World) (As' : List HP) (x' : Flt) (H' : Mem w0 w' (ckB gc h x' :: As')) => by have := H'.ck; rw [hpn, hgn, han, hcn, hfn] at this; exact this)
  obtain ⟨R5, hR5⟩ : ∃ R5, declF s x = R5 := ⟨_, rfl⟩
  have HR5 := hid hR5
  rw [hR5]
  clear R ok hpn hgn han hcn hfn hR5
  obtain ⟨k0, -⟩ := CK.out _ _ _ H
  go_enter Try.func17, Try.ntmps17
  go_wp2_with (first
    | (((with_reducible refine at_box ?_); refine wpList_box_box H ?_; intro u_ gH1 wH1 hu_ H1; simp only [Act.eval, Act.put, List.setIfInBounds_toArray, List.set_cons_zero, List.set_cons_succ, Array.getD_eq_getD_getElem?, List.getElem?_toArray, List.getElem?_cons_zero, List.getElem?_cons_succ, Option.getD_some] at hu_; subst hu_; simp only [splice, vcells_int, vcells_bool, vcells_string, vcells_pointer, vcells_slice, vcells_map, vcells_func, vcells_nilFunc, vcells_iface, vcells_nilIface, vcells_agg, List.take_zero, List.take_succ_cons, List.drop_zero, List.drop_succ_cons, List.length_cons, List.length_nil, List.nil_append, List.cons_append, List.append_nil, Nat.zero_add, List.set_cons_zero, List.set_cons_succ] at H1); have c1 := H1.cell1 0 rfl; obtain ⟨k0, -⟩ := CK.out _ _ _ (H1.mv 1 rfl))
    | ((with_reducible refine at_alloc ?_); refine wpList_alloc_box H1 (.int .i64 0) (by kernel_rfl) ?_; intro gH2 wH2 H2; simp only [splice, vcells_int, vcells_bool, vcells_string, vcells_pointer, vcells_slice, vcells_map, vcells_func, vcells_nilFunc, vcells_iface, vcells_nilIface, vcells_agg, List.take_zero, List.take_succ_cons, List.drop_zero, List.drop_succ_cons, List.length_cons, List.length_nil, List.nil_append, List.cons_append, List.append_nil, Nat.zero_add, List.set_cons_zero, List.set_cons_succ] at H2)
    | (((with_reducible refine at_store ?_); refine wpList_store_box H2 0 1 rfl rfl (by kernel_rfl) rfl (Nat.le_of_ble_eq_true rfl) rfl ?_; intro u_ wH3 hu_ H3; simp only [Act.eval, Act.put, List.setIfInBounds_toArray, List.set_cons_zero, List.set_cons_succ, Array.getD_eq_getD_getElem?, List.getElem?_toArray, List.getElem?_cons_zero, List.getElem?_cons_succ, Option.getD_some] at hu_; subst hu_; simp only [splice, vcells_int, vcells_bool, vcells_string, vcells_pointer, vcells_slice, vcells_map, vcells_func, vcells_nilFunc, vcells_iface, vcells_nilIface, vcells_agg, List.take_zero, List.take_succ_cons, List.drop_zero, List.drop_succ_cons, List.length_cons, List.length_nil, List.nil_append, List.cons_append, List.append_nil, Nat.zero_add, List.set_cons_zero, List.set_cons_succ] at H3); clear c1 k0; have c1 := H3.cell1 1 rfl; obtain ⟨k0, -⟩ := CK.out _ _ _ (H3.mv 2 rfl)))
  have H4 := (H3.mv 1 rfl).mv 2 rfl
  simp only [List.eraseIdx_cons_succ, List.eraseIdx_cons_zero] at H4
  clear H1 H2 H3 H
  go_loopw [21] (fun v wr => ∃ (k : Nat) (y : Flt), v = .int .i64 k ∧ k ≤ s.principals.length ∧ Hd (prinF s.principals s.principals 0 x = prinF s.principals (s.principals.drop k) k y) ∧ Mem w0 wr (ckB gc h y :: box gH1 65 #[pt gc] :: box gH2 3 #[.int .i64 k] :: As)) (fun v _ => s.principals.length - (intOf v).toNat)
  case atStart => exact ⟨0, x, rfl, Nat.zero_le _, ⟨rfl⟩, H4⟩
  case round =>
    clear c1 k0 H4
    obtain ⟨k, y, rfl, hk, HT, H1⟩ := hrel
    obtain ⟨w1, rfl⟩ : ∃ wo : World, wo = wr := ⟨_, rfl⟩
    by_cases hlt : k < s.principals.length
    · obtain ⟨p, hp⟩ : ∃ p, s.principals[k]? = some p := ⟨_, List.getElem?_eq_getElem hlt⟩
      have hps : p.size ≤ 2000000 := HO.out.principal p (List.mem_of_getElem? hp)
      obtain ⟨fb, fo, hA, p0⟩ := HR.out.principals.rd.get1 rfl hp rfl
      have HA := hid hA
      have e0 := H1.old p0
      have HPA := hid (prin_at (ps := s.principals) (x := y) hp)
      clear hp p0 hA
      have c1 := H1.cell1 1 rfl
      have c2 := H1.cell1 2 rfl
      rw [HA.out]
      have hpc := HR.out.principals.c
      go_wp2_with (first | (go_at_call 31; (with_reducible refine (tell_calls (decide (64 ≤ (k : Int))) 74 (-1) (k : Int) H1).mono ?_); rintro e w2 ⟨rfl, H2⟩; clear c1 c2))
      refine wp_region_B (fun _ => false) (fun w' => w'.cell? ⟨gH1, 0, none⟩ = some (pt gc) ∧ w'.cell? ⟨gH2, 0, none⟩ = some (.int .i64 k) ∧ w'.cell? ⟨gc, 0, none⟩ = some (.slice (some ⟨fb, fo, none⟩) s.principals.length h.p.c)) (by kernel_rfl) ?_
      have H3 := H2.drew
      obtain ⟨w3, hw⟩ : ∃ wq, wq = w2.drew := ⟨_, rfl⟩
      rw [← hw] at H3 ⊢
      clear hw
      have hS : w3.cell? ⟨gH1, 0, none⟩ = some (pt gc) ∧ w3.cell? ⟨gH2, 0, none⟩ = some (.int .i64 k) ∧ w3.cell? ⟨gc, 0, none⟩ = some (.slice (some ⟨fb, fo, none⟩) s.principals.length h.p.c) := ⟨H3.cell1 1 rfl, H3.cell1 2 rfl, by rw [← HA.out]; exact (CK.out _ _ _ H3).1⟩
      refine wpAnyB_take' (i := 0) (v := pt gc) rfl (by kernel_rfl) (by kernel_rfl) rfl (by kernel_rfl) (by kernel_rfl) (fun _ _ _ h => h) (by rfl) hS (by intro w' hS'; obtain ⟨k1, k2, k3⟩ := hS'; first | (go_simp; done) | (go_simp; rfl) | (go_simp; omega) | (go_simp; assumption)) ?_
      simp only [Act.put, List.setIfInBounds_toArray, List.set_cons_zero, List.set_cons_succ]
      refine wpAnyB_take' (i := 1) (v := .string p) rfl (by kernel_rfl) (by kernel_rfl) rfl (by kernel_rfl) (by kernel_rfl) (fun _ _ _ h => h) (by rfl) hS (by intro w' hS'; obtain ⟨k1, k2, k3⟩ := hS'; first | (go_simp; done) | (go_simp; rfl) | (go_simp; omega) | (go_simp; assumption)) ?_
      simp only [Act.put, List.setIfInBounds_toArray, List.set_cons_zero, List.set_cons_succ]
      refine wpAnyB_take' (i := 4) (v := I (k : Int)) rfl (by kernel_rfl) (by kernel_rfl) rfl (by kernel_rfl) (by kernel_rfl) (fun _ _ _ h => h) (by rfl) hS (by intro w' hS'; obtain ⟨k1, k2, k3⟩ := hS'; first | (go_simp; done) | (go_simp; rfl) | (go_simp; omega) | (go_simp; assumption)) ?_
      simp only [Act.put, List.setIfInBounds_toArray, List.set_cons_zero, List.set_cons_succ]
      refine wpAnyB_call (i := 2) rfl (by kernel_rfl) (by rfl) (by first | rfl | (go_simp; done) | (go_simp; rfl)) (name_calls p w3 hps) ?_
      rintro e w4 ⟨rfl, H4'⟩
      have H4 := H3.call H4'
      simp only [List.nil_append, List.cons_append] at H4
      clear hS H4'
      have hS : w4.cell? ⟨gH1, 0, none⟩ = some (pt gc) ∧ w4.cell? ⟨gH2, 0, none⟩ = some (.int .i64 k) ∧ w4.cell? ⟨gc, 0, none⟩ = some (.slice (some ⟨fb, fo, none⟩) s.principals.length h.p.c) := ⟨H4.cell1 1 rfl, H4.cell1 2 rfl, by rw [← HA.out]; exact (CK.out _ _ _ H4).1⟩
      refine ⟨_, rfl, fun _ => hS, ?_⟩
      simp only [Act.put, List.setIfInBounds_toArray, List.set_cons_zero, List.set_cons_succ]
      refine wpAnyB_take' (i := 3) (v := .bool (!nameOk p)) rfl (by kernel_rfl) (by kernel_rfl) rfl (by kernel_rfl) (by kernel_rfl) (fun _ _ _ h => h) (by rfl) hS (by intro w' hS'; obtain ⟨k1, k2, k3⟩ := hS'; first | (go_simp; done) | (go_simp; rfl) | (go_simp; omega) | (go_simp; assumption)) ?_
      simp only [Act.put, List.setIfInBounds_toArray, List.set_cons_zero, List.set_cons_succ]
      refine wpAnyB_call (i := 5) rfl (by kernel_rfl) (by rfl) (by first | rfl | (go_simp; done) | (go_simp; rfl)) (tell_calls (!nameOk p) 1 (-1) (k : Int) H4) ?_
      rintro e w5 ⟨rfl, H5⟩
      clear hS
      have hS : w5.cell? ⟨gH1, 0, none⟩ = some (pt gc) ∧ w5.cell? ⟨gH2, 0, none⟩ = some (.int .i64 k) ∧ w5.cell? ⟨gc, 0, none⟩ = some (.slice (some ⟨fb, fo, none⟩) s.principals.length h.p.c) := ⟨H5.cell1 1 rfl, H5.cell1 2 rfl, by rw [← HA.out]; exact (CK.out _ _ _ H5).1⟩
      refine ⟨_, rfl, fun _ => hS, ?_⟩
      simp only [Act.put, List.setIfInBounds_toArray, List.set_cons_zero, List.set_cons_succ]
      refine wpAnyB_done (by kernel_rfl) ?_ _
      clear hS
      go_wp2
      refine wp_region_B (fun _ => false) (fun w' => w'.cell? ⟨gH1, 0, none⟩ = some (pt gc) ∧ w'.cell? ⟨gH2, 0, none⟩ = some (.int .i64 k) ∧ w'.cell? ⟨gc, 0, none⟩ = some (.slice (some ⟨fb, fo, none⟩) s.principals.length h.p.c)) (by kernel_rfl) ?_
      have H6 := H5.drew
      obtain ⟨w6, hw⟩ : ∃ wq, wq = w5.drew := ⟨_, rfl⟩
      rw [← hw] at H6 ⊢
      clear hw
      have hS : w6.cell? ⟨gH1, 0, none⟩ = some (pt gc) ∧ w6.cell? ⟨gH2, 0, none⟩ = some (.int .i64 k) ∧ w6.cell? ⟨gc, 0, none⟩ = some (.slice (some ⟨fb, fo, none⟩) s.principals.length h.p.c) := ⟨H6.cell1 1 rfl, H6.cell1 2 rfl, by rw [← HA.out]; exact (CK.out _ _ _ H6).1⟩
      refine wpAnyB_take' (i := 0) (v := pt gc) rfl (by kernel_rfl) (by kernel_rfl) rfl (by kernel_rfl) (by kernel_rfl) (fun _ _ _ h => h) (by rfl) hS (by intro w' hS'; obtain ⟨k1, k2, k3⟩ := hS'; first | (go_simp; done) | (go_simp; rfl) | (go_simp; omega) | (go_simp; assumption)) ?_
      simp only [Act.put, List.setIfInBounds_toArray, List.set_cons_zero, List.set_cons_succ]
      refine wpAnyB_take' (i := 1) (v := pt gc) rfl (by kernel_rfl) (by kernel_rfl) rfl (by kernel_rfl) (by kernel_rfl) (fun _ _ _ h => h) (by rfl) hS (by intro w' hS'; obtain ⟨k1, k2, k3⟩ := hS'; first | (go_simp; done) | (go_simp; rfl) | (go_simp; omega) | (go_simp; assumption)) ?_
      simp only [Act.put, List.setIfInBounds_toArray, List.set_cons_zero, List.set_cons_succ]
      refine wpAnyB_take' (i := 2) (v := pt gc) rfl (by kernel_rfl) (by kernel_rfl) rfl (by kernel_rfl) (by kernel_rfl) (fun _ _ _ h => h) (by rfl) hS (by intro w' hS'; obtain ⟨k1, k2, k3⟩ := hS'; first | (go_simp; done) | (go_simp; rfl) | (go_simp; omega) | (go_simp; assumption)) ?_
      simp only [Act.put, List.setIfInBounds_toArray, List.set_cons_zero, List.set_cons_succ]
      refine wpAnyB_take' (i := 3) (v := pt gc) rfl (by kernel_rfl) (by kernel_rfl) rfl (by kernel_rfl) (by kernel_rfl) (fun _ _ _ h => h) (by rfl) hS (by intro w' hS'; obtain ⟨k1, k2, k3⟩ := hS'; first | (go_simp; done) | (go_simp; rfl) | (go_simp; omega) | (go_simp; assumption)) ?_
      simp only [Act.put, List.setIfInBounds_toArray, List.set_cons_zero, List.set_cons_succ]
      refine wpAnyB_take' (i := 4) (v := pt gc) rfl (by kernel_rfl) (by kernel_rfl) rfl (by kernel_rfl) (by kernel_rfl) (fun _ _ _ h => h) (by rfl) hS (by intro w' hS'; obtain ⟨k1, k2, k3⟩ := hS'; first | (go_simp; done) | (go_simp; rfl) | (go_simp; omega) | (go_simp; assumption)) ?_
      simp only [Act.put, List.setIfInBounds_toArray, List.set_cons_zero, List.set_cons_succ]
      refine wpAnyB_take' (i := 5) (v := .slice (some ⟨fb, fo, none⟩) s.principals.length h.p.c) rfl (by kernel_rfl) (by kernel_rfl) rfl (by kernel_rfl) (by kernel_rfl) (fun _ _ _ h => h) (by rfl) hS (by intro w' hS'; obtain ⟨k1, k2, k3⟩ := hS'; first | (go_simp; done) | (go_simp; rfl) | (go_simp; omega) | (go_simp; assumption)) ?_
      simp only [Act.put, List.setIfInBounds_toArray, List.set_cons_zero, List.set_cons_succ]
      refine wpAnyB_take' (i := 6) (v := I (k : Int)) rfl (by kernel_rfl) (by kernel_rfl) rfl (by kernel_rfl) (by kernel_rfl) (fun _ _ _ h => h) (by rfl) hS (by intro w' hS'; obtain ⟨k1, k2, k3⟩ := hS'; first | (go_simp; done) | (go_simp; rfl) | (go_simp; omega) | (go_simp; assumption)) ?_
      simp only [Act.put, List.setIfInBounds_toArray, List.set_cons_zero, List.set_cons_succ]
      refine wpAnyB_take' (i := 7) (v := .slice (some ⟨fb, fo, none⟩) k h.p.c) rfl (by kernel_rfl) (by kernel_rfl) rfl (by kernel_rfl) (by kernel_rfl) (fun _ _ _ h => h) (by rfl) hS (by intro w' hS'; obtain ⟨k1, k2, k3⟩ := hS'; first | (go_simp; done) | (go_simp; rfl) | (go_simp; omega) | (go_simp; assumption)) ?_
      simp only [Act.put, List.setIfInBounds_toArray, List.set_cons_zero, List.set_cons_succ]
      refine wpAnyB_take' (i := 8) (v := .string p) rfl (by kernel_rfl) (by kernel_rfl) rfl (by kernel_rfl) (by kernel_rfl) (fun _ _ _ h => h) (by rfl) hS (by intro w' hS'; obtain ⟨k1, k2, k3⟩ := hS'; first | (go_simp; done) | (go_simp; rfl) | (go_simp; omega) | (go_simp; assumption)) ?_
      simp only [Act.put, List.setIfInBounds_toArray, List.set_cons_zero, List.set_cons_succ]
      refine wpAnyB_take' (i := 10) (v := I (k : Int)) rfl (by kernel_rfl) (by kernel_rfl) rfl (by kernel_rfl) (by kernel_rfl) (fun _ _ _ h => h) (by rfl) hS (by intro w' hS'; obtain ⟨k1, k2, k3⟩ := hS'; first | (go_simp; done) | (go_simp; rfl) | (go_simp; omega) | (go_simp; assumption)) ?_
      simp only [Act.put, List.setIfInBounds_toArray, List.set_cons_zero, List.set_cons_succ]
      refine wpAnyB_call (i := 9) rfl (by kernel_rfl) (by rfl) (by first | rfl | (go_simp; done) | (go_simp; rfl)) (show Calls Try.prog 32 #[.slice (some ⟨fb, fo, none⟩) k h.p.c, .string p] w6 _ from (by have := containsStr_calls (some ⟨fb, fo, none⟩) h.p.c (s.principals.take k) p w6 (by have hr := (Rd.below HR.out.principals.rd H6.below); rw [HA.out] at hr; have h2 := RdC.take hr (k := k) (by omega); rw [Enc.all_take] at h2; unfold Rd; rw [List.length_take, Nat.min_eq_left (by omega)]; exact h2) (by rw [List.length_take]; omega); rw [List.length_take, Nat.min_eq_left (by omega)] at this; exact this)) ?_
      rintro e w7 ⟨rfl, H7'⟩
      have H7 := H6.call H7'
      simp only [List.nil_append, List.cons_append] at H7
      clear hS H7'
      have hS : w7.cell? ⟨gH1, 0, none⟩ = some (pt gc) ∧ w7.cell? ⟨gH2, 0, none⟩ = some (.int .i64 k) ∧ w7.cell? ⟨gc, 0, none⟩ = some (.slice (some ⟨fb, fo, none⟩) s.principals.length h.p.c) := ⟨H7.cell1 1 rfl, H7.cell1 2 rfl, by rw [← HA.out]; exact (CK.out _ _ _ H7).1⟩
      refine ⟨_, rfl, fun _ => hS, ?_⟩
      simp only [Act.put, List.setIfInBounds_toArray, List.set_cons_zero, List.set_cons_succ]
      refine wpAnyB_call (i := 11) rfl (by kernel_rfl) (by rfl) (by first | rfl | (go_simp; done) | (go_simp; rfl)) (tell_calls ((s.principals.take k).any fun y => p.toList == y.toList) 70 (-1) (k : Int) H7) ?_
      rintro e w8 ⟨rfl, H8⟩
      clear hS
      have hS : w8.cell? ⟨gH1, 0, none⟩ = some (pt gc) ∧ w8.cell? ⟨gH2, 0, none⟩ = some (.int .i64 k) ∧ w8.cell? ⟨gc, 0, none⟩ = some (.slice (some ⟨fb, fo, none⟩) s.principals.length h.p.c) := ⟨H8.cell1 1 rfl, H8.cell1 2 rfl, by rw [← HA.out]; exact (CK.out _ _ _ H8).1⟩
      refine ⟨_, rfl, fun _ => hS, ?_⟩
      simp only [Act.put, List.setIfInBounds_toArray, List.set_cons_zero, List.set_cons_succ]
      refine wpAnyB_done (by kernel_rfl) ?_ _
      clear hS
      have c2 := H8.cell1 2 rfl
      go_wp2_with (first | ((with_reducible refine at_store ?_); refine wpList_store_box H8 2 1 rfl rfl (by kernel_rfl) rfl (Nat.le_of_ble_eq_true rfl) rfl ?_; intro u_ wH9 hu_ H9; simp only [Act.eval, Act.put, List.setIfInBounds_toArray, List.set_cons_zero, List.set_cons_succ, Array.getD_eq_getD_getElem?, List.getElem?_toArray, List.getElem?_cons_zero, List.getElem?_cons_succ, Option.getD_some] at hu_; subst hu_; simp only [splice, vcells_int, vcells_bool, vcells_string, vcells_pointer, vcells_slice, vcells_map, vcells_func, vcells_nilFunc, vcells_iface, vcells_nilIface, vcells_agg, List.take_zero, List.take_succ_cons, List.drop_zero, List.drop_succ_cons, List.length_cons, List.length_nil, List.nil_append, List.cons_append, List.append_nil, Nat.zero_add, List.set_cons_zero, List.set_cons_succ] at H9))
      go_roundw
      case rel => exact ⟨k + 1, _, by go_num, by omega, ⟨HT.out.trans HPA.out⟩, by simpa using H9⟩
      case measure => first | (simp [intOf]; done) | (simp [intOf]; omega)
    · obtain rfl : k = s.principals.length := by omega
      have hx0 : prinF s.principals s.principals 0 x = y := by rw [HT.out, List.drop_eq_nil_of_le (Nat.le_refl _)]; rfl
      have HX0 := hid hx0
      clear hx0 hlt hk
      have c1 := H1.cell1 1 rfl
      obtain ⟨-, k1, -⟩ := CK.out _ _ _ H1
      have H1m := H1.mkmap
      obtain ⟨wm, hwm⟩ : ∃ wm, wm = w1.alloc (.map #[] 0) := ⟨_, rfl⟩
      obtain ⟨M, hM⟩ : ∃ M, M = w1.heap.size := ⟨_, rfl⟩
      have hmm' : ∀ t : TypeId, (Instr.makeMap t Option.none).run Try.prog w1 = .ok (.map (some M)) wm := fun t => by rw [hM, hwm]; exact hmm t w1
      rw [← hM, ← hwm] at H1m
      clear hmm hM hwm
      go_wp2_with (first
        | (((with_reducible refine at_alloc ?_); refine wpList_alloc_box H1m (.map Option.none) (by kernel_rfl) ?_; intro gH12 wH12 H12; simp only [splice, vcells_int, vcells_bool, vcells_string, vcells_pointer, vcells_slice, vcells_map, vcells_func, vcells_nilFunc, vcells_iface, vcells_nilIface, vcells_agg, List.take_zero, List.take_succ_cons, List.drop_zero, List.drop_succ_cons, List.length_cons, List.length_nil, List.nil_append, List.cons_append, List.append_nil, Nat.zero_add, List.set_cons_zero, List.set_cons_succ] at H12); clear c1 k1; have c1 := H12.cell1 3 rfl)
        | (((with_reducible refine at_store ?_); refine wpList_store_box H12 0 1 rfl rfl (by kernel_rfl) rfl (Nat.le_of_ble_eq_true rfl) rfl ?_; intro u_ wH13 hu_ H13; simp only [Act.eval, Act.put, List.setIfInBounds_toArray, List.set_cons_zero, List.set_cons_succ, Array.getD_eq_getD_getElem?, List.getElem?_toArray, List.getElem?_cons_zero, List.getElem?_cons_succ, Option.getD_some] at hu_; subst hu_; simp only [splice, vcells_int, vcells_bool, vcells_string, vcells_pointer, vcells_slice, vcells_map, vcells_func, vcells_nilFunc, vcells_iface, vcells_nilIface, vcells_agg, List.take_zero, List.take_succ_cons, List.drop_zero, List.drop_succ_cons, List.length_cons, List.length_nil, List.nil_append, List.cons_append, List.append_nil, Nat.zero_add, List.set_cons_zero, List.set_cons_succ] at H13); clear c1; have c1 := H13.cell1 3 rfl; obtain ⟨-, k1, -⟩ := CK.out _ _ _ (H13.mv 2 rfl)))
      have H14 := ((H13.mv 4 rfl).mv 4 rfl).mv 4 rfl
      simp only [List.eraseIdx_cons_succ, List.eraseIdx_cons_zero] at H14
      clear H12 H13 H1m H1 HT hmm' c1 k1
      obtain ⟨np, hnp⟩ : ∃ np, np = s.principals.length := ⟨_, rfl⟩
      have hpn : h.p.n = np := by rw [hnp]; exact HN.out.1
      have HPN := hid hpn
      have H14 : Mem w0 wH13 (ckB gc h y :: box gH1 65 #[pt gc] :: box gH2 3 #[.int .i64 ((np + 0 : Nat) : Int)] :: box gH12 84 #[.map (some M)] :: mapP M ([] ++ (s.globals.take 0).map (·.name)) :: As) := by rw [hnp]; exact H14
      rw [← hnp] at lp
      have hd0 : declF s x = oneL np 32 fF (np + s.globals.length + s.arrays.length + s.channels.length) ((s.globals.map (·.name) ++ s.arrays.map (·.name)) ++ s.channels.map (·.name)) s.funcs 0 s.funcs (oneL np 16 gF (np + s.globals.length + s.arrays.length) (s.globals.map (·.name) ++ s.arrays.map (·.name)) s.channels 0 s.channels (oneL np 16 aF (np + s.globals.length) (s.globals.map (·.name)) s.arrays 0 s.arrays (oneL np 32 gF np [] s.globals 0 s.globals y))) := by rw [hnp, ← HX0.out]; rfl
      have HD0 := hid hd0
      clear hpn hd0
      clear hnp HX0
      go_loopw [60] (fun v wr => ∃ (k : Nat) (z : Flt), v = .int .i64 k ∧ k ≤ s.globals.length ∧ Hd (oneL np 32 gF (np) ([]) s.globals 0 s.globals y = oneL np 32 gF (np) ([]) s.globals k (s.globals.drop k) z) ∧ Mem w0 wr (ckB gc h z :: box gH1 65 #[pt gc] :: box gH2 3 #[.int .i64 ((np + k : Nat) : Int)] :: box gH12 84 #[.map (some M)] :: mapP M ([] ++ (s.globals.take k).map (·.name)) :: As)) (fun v _ => s.globals.length - (intOf v).toNat)
      case atStart => exact ⟨0, _, rfl, Nat.zero_le _, ⟨rfl⟩, H14⟩
      case round =>
        clear H14
        obtain ⟨k, z, rfl, hk, HT, H1⟩ := hrel
        obtain ⟨w1, rfl⟩ : ∃ wo : World, wo = wr := ⟨_, rfl⟩
        by_cases hlt : k < s.globals.length
        · obtain ⟨p, hp⟩ : ∃ p, s.globals[k]? = some p := ⟨_, List.getElem?_eq_getElem hlt⟩
          have hps : p.name.size ≤ 2000000 := HO.out.global p (List.mem_of_getElem? hp)
          obtain ⟨fb, fo, hA, p0, p1⟩ := HR.out.globals.rd.get2 rfl hp rfl
          have HA := hid hA
          have e0 := H1.old p0
          have e1 := H1.old p1
          have HOA := hid (oneL_at (np := np) (most := 32) (f := gF) (n := np) (ns := []) (x := z) hp)
          have HMT := hid (map_take (·.name) hp)
          clear hp p0 p1 hA
          rw [HA.out]
          go_wp2_with (first
            | ((with_reducible refine at_alloc ?_); refine wpList_alloc_box H1 (.agg #[.string ByteArray.empty, .int .u64 0]) (by kernel_rfl) ?_; intro gH2 wH2 H2; simp only [splice, vcells_int, vcells_bool, vcells_string, vcells_pointer, vcells_slice, vcells_map, vcells_func, vcells_nilFunc, vcells_iface, vcells_nilIface, vcells_agg, List.take_zero, List.take_succ_cons, List.drop_zero, List.drop_succ_cons, List.length_cons, List.length_nil, List.nil_append, List.cons_append, List.append_nil, Nat.zero_add, List.set_cons_zero, List.set_cons_succ] at H2)
            | (((with_reducible refine at_store ?_); refine wpList_store_box H2 0 2 rfl rfl (by kernel_rfl) rfl (Nat.le_of_ble_eq_true rfl) rfl ?_; intro u_ wH3 hu_ H3; simp only [Act.eval, Act.put, List.setIfInBounds_toArray, List.set_cons_zero, List.set_cons_succ, Array.getD_eq_getD_getElem?, List.getElem?_toArray, List.getElem?_cons_zero, List.getElem?_cons_succ, Option.getD_some] at hu_; subst hu_; simp only [splice, vcells_int, vcells_bool, vcells_string, vcells_pointer, vcells_slice, vcells_map, vcells_func, vcells_nilFunc, vcells_iface, vcells_nilIface, vcells_agg, List.take_zero, List.take_succ_cons, List.drop_zero, List.drop_succ_cons, List.length_cons, List.length_nil, List.nil_append, List.cons_append, List.append_nil, Nat.zero_add, List.set_cons_zero, List.set_cons_succ] at H3; (try clear b0); have b0 := H3.cells 0 rfl; simp only [cellsAre, and_true, Nat.zero_add] at b0); have H4 := ((((H3.mv 5 rfl).mv 5 rfl).mv 5 rfl).mv 5 rfl).mv 5 rfl; simp only [List.eraseIdx_cons_succ, List.eraseIdx_cons_zero] at H4)
            | ((go_at_call 33; (with_reducible refine (one_calls HPN.out lp ((np + k : Nat) : Int) (k : Int) 32 1 p.label p.name _ (by omega) (by simp only [List.length_append, List.length_map, List.length_take, List.length_nil]; omega) hps H4).mono ?_); rintro e w5 ⟨rfl, H5⟩)))
          have H6 := H5.drop 5
          simp only [List.eraseIdx_cons_succ, List.eraseIdx_cons_zero] at H6
          go_roundw
          case rel =>
            refine ⟨k + 1, _, by go_num, by omega, ⟨HT.out.trans HOA.out⟩, ?_⟩
            rw [HMT.out, ← List.append_assoc]
            have hc : (((np + k : Nat) : Int) + 1) = ((np + (k + 1) : Nat) : Int) := by omega
            rw [hc] at H6
            exact H6
          case measure => first | (simp [intOf]; done) | (simp [intOf]; omega)
        · obtain rfl : k = s.globals.length := by omega
          have hx1 : oneL np 32 gF (np) ([]) s.globals 0 s.globals y = z := by rw [HT.out, List.drop_eq_nil_of_le (Nat.le_refl _)]; rfl
          have hd1 := HD0.out
          rw [hx1] at hd1
          clear HD0
          have HD0 := hid hd1
          clear hx1 hd1 HT hlt hk
          have c1 := H1.cell1 1 rfl
          have k1 := (CK.out _ _ _ H1).2.2.1
          go_wp2
          clear c1 k1
          have H24 : Mem w0 w1 (ckB gc h z :: box gH1 65 #[pt gc] :: box gH2 3 #[.int .i64 ((np + s.globals.length + 0 : Nat) : Int)] :: box gH12 84 #[.map (some M)] :: mapP M (s.globals.map (·.name) ++ (s.arrays.take 0).map (·.name)) :: As) := by simpa using H1
          clear H1
          obtain ⟨z1, rfl⟩ : ∃ z0 : Flt, z0 = z := ⟨_, rfl⟩
          go_loopw [79] (fun v wr => ∃ (k : Nat) (z : Flt), v = .int .i64 k ∧ k ≤ s.arrays.length ∧ Hd (oneL np 16 aF (np + s.globals.length) (s.globals.map (·.name)) s.arrays 0 s.arrays z1 = oneL np 16 aF (np + s.globals.length) (s.globals.map (·.name)) s.arrays k (s.arrays.drop k) z) ∧ Mem w0 wr (ckB gc h z :: box gH1 65 #[pt gc] :: box gH2 3 #[.int .i64 ((np + s.globals.length + k : Nat) : Int)] :: box gH12 84 #[.map (some M)] :: mapP M (s.globals.map (·.name) ++ (s.arrays.take k).map (·.name)) :: As)) (fun v _ => s.arrays.length - (intOf v).toNat)
          case atStart => exact ⟨0, _, rfl, Nat.zero_le _, ⟨rfl⟩, H24⟩
          case round =>
            clear H24
            obtain ⟨k, z, rfl, hk, HT, H1⟩ := hrel
            obtain ⟨w1, rfl⟩ : ∃ wo : World, wo = wr := ⟨_, rfl⟩
            by_cases hlt : k < s.arrays.length
            · obtain ⟨p, hp⟩ : ∃ p, s.arrays[k]? = some p := ⟨_, List.getElem?_eq_getElem hlt⟩
              have hps : p.name.size ≤ 2000000 := HO.out.array p (List.mem_of_getElem? hp)
              obtain ⟨fb, fo, hA, p0, p1, p2⟩ := HR.out.arrays.rd.get3 rfl hp rfl
              have HA := hid hA
              have e0 := H1.old p0
              have e1 := H1.old p1
              have e2 := H1.old p2
              have HOA := hid (oneL_at (np := np) (most := 16) (f := aF) (n := np + s.globals.length) (ns := s.globals.map (·.name)) (x := z) hp)
              have HMT := hid (map_take (·.name) hp)
              clear hp p0 p1 p2 hA
              rw [HA.out]
              go_wp2_with (first
                | ((with_reducible refine at_alloc ?_); refine wpList_alloc_box H1 (.agg #[.string ByteArray.empty, .int .i64 0, .int .u64 0]) (by kernel_rfl) ?_; intro gH2 wH2 H2; simp only [splice, vcells_int, vcells_bool, vcells_string, vcells_pointer, vcells_slice, vcells_map, vcells_func, vcells_nilFunc, vcells_iface, vcells_nilIface, vcells_agg, List.take_zero, List.take_succ_cons, List.drop_zero, List.drop_succ_cons, List.length_cons, List.length_nil, List.nil_append, List.cons_append, List.append_nil, Nat.zero_add, List.set_cons_zero, List.set_cons_succ] at H2)
                | (((with_reducible refine at_store ?_); refine wpList_store_box H2 0 3 rfl rfl (by kernel_rfl) rfl (Nat.le_of_ble_eq_true rfl) rfl ?_; intro u_ wH3 hu_ H3; simp only [Act.eval, Act.put, List.setIfInBounds_toArray, List.set_cons_zero, List.set_cons_succ, Array.getD_eq_getD_getElem?, List.getElem?_toArray, List.getElem?_cons_zero, List.getElem?_cons_succ, Option.getD_some] at hu_; subst hu_; simp only [splice, vcells_int, vcells_bool, vcells_string, vcells_pointer, vcells_slice, vcells_map, vcells_func, vcells_nilFunc, vcells_iface, vcells_nilIface, vcells_agg, List.take_zero, List.take_succ_cons, List.drop_zero, List.drop_succ_cons, List.length_cons, List.length_nil, List.nil_append, List.cons_append, List.append_nil, Nat.zero_add, List.set_cons_zero, List.set_cons_succ] at H3; (try clear b0); have b0 := H3.cells 0 rfl; simp only [cellsAre, and_true, Nat.zero_add] at b0); have H4 := ((((H3.mv 5 rfl).mv 5 rfl).mv 5 rfl).mv 5 rfl).mv 5 rfl; simp only [List.eraseIdx_cons_succ, List.eraseIdx_cons_zero] at H4)
                | ((go_at_call 33; (with_reducible refine (one_calls HPN.out lp ((np + s.globals.length + k : Nat) : Int) (k : Int) 16 p.len p.label p.name _ (by omega) (by simp only [List.length_append, List.length_map, List.length_take, List.length_nil]; omega) hps H4).mono ?_); rintro e w5 ⟨rfl, H5⟩)))
              have H6 := H5.drop 5
              simp only [List.eraseIdx_cons_succ, List.eraseIdx_cons_zero] at H6
              go_roundw
              case rel =>
                refine ⟨k + 1, _, by go_num, by omega, ⟨HT.out.trans HOA.out⟩, ?_⟩
                rw [HMT.out, ← List.append_assoc]
                have hc : (((np + s.globals.length + k : Nat) : Int) + 1) = ((np + s.globals.length + (k + 1) : Nat) : Int) := by omega
                rw [hc] at H6
                exact H6
              case measure => first | (simp [intOf]; done) | (simp [intOf]; omega)
            · obtain rfl : k = s.arrays.length := by omega
              have hx1 : oneL np 16 aF (np + s.globals.length) (s.globals.map (·.name)) s.arrays 0 s.arrays z1 = z := by rw [HT.out, List.drop_eq_nil_of_le (Nat.le_refl _)]; rfl
              have hd1 := HD0.out
              rw [hx1] at hd1
              clear HD0
              have HD0 := hid hd1
              clear hx1 hd1 HT hlt hk
              have c1 := H1.cell1 1 rfl
              have k1 := (CK.out _ _ _ H1).2.2.2.1
              go_wp2
              clear c1 k1
              have H34 : Mem w0 w1 (ckB gc h z :: box gH1 65 #[pt gc] :: box gH2 3 #[.int .i64 ((np + s.globals.length + s.arrays.length + 0 : Nat) : Int)] :: box gH12 84 #[.map (some M)] :: mapP M ((s.globals.map (·.name) ++ s.arrays.map (·.name)) ++ (s.channels.take 0).map (·.name)) :: As) := by simpa using H1
              clear H1
              obtain ⟨z2, rfl⟩ : ∃ z0 : Flt, z0 = z := ⟨_, rfl⟩
              go_loopw [100] (fun v wr => ∃ (k : Nat) (z : Flt), v = .int .i64 k ∧ k ≤ s.channels.length ∧ Hd (oneL np 16 gF (np + s.globals.length + s.arrays.length) ((s.globals.map (·.name) ++ s.arrays.map (·.name))) s.channels 0 s.channels z2 = oneL np 16 gF (np + s.globals.length + s.arrays.length) ((s.globals.map (·.name) ++ s.arrays.map (·.name))) s.channels k (s.channels.drop k) z) ∧ Mem w0 wr (ckB gc h z :: box gH1 65 #[pt gc] :: box gH2 3 #[.int .i64 ((np + s.globals.length + s.arrays.length + k : Nat) : Int)] :: box gH12 84 #[.map (some M)] :: mapP M ((s.globals.map (·.name) ++ s.arrays.map (·.name)) ++ (s.channels.take k).map (·.name)) :: As)) (fun v _ => s.channels.length - (intOf v).toNat)
              case atStart => exact ⟨0, _, rfl, Nat.zero_le _, ⟨rfl⟩, H34⟩
              case round =>
                clear H34
                obtain ⟨k, z, rfl, hk, HT, H1⟩ := hrel
                obtain ⟨w1, rfl⟩ : ∃ wo : World, wo = wr := ⟨_, rfl⟩
                by_cases hlt : k < s.channels.length
                · obtain ⟨p, hp⟩ : ∃ p, s.channels[k]? = some p := ⟨_, List.getElem?_eq_getElem hlt⟩
                  have hps : p.name.size ≤ 2000000 := HO.out.channel p (List.mem_of_getElem? hp)
                  obtain ⟨fb, fo, hA, p0, p1⟩ := HR.out.channels.rd.get2 rfl hp rfl
                  have HA := hid hA
                  have e0 := H1.old p0
                  have e1 := H1.old p1
                  have HOA := hid (oneL_at (np := np) (most := 16) (f := gF) (n := np + s.globals.length + s.arrays.length) (ns := (s.globals.map (·.name) ++ s.arrays.map (·.name))) (x := z) hp)
                  have HMT := hid (map_take (·.name) hp)
                  clear hp p0 p1 hA
                  rw [HA.out]
                  go_wp2_with (first
                    | ((with_reducible refine at_alloc ?_); refine wpList_alloc_box H1 (.agg #[.string ByteArray.empty, .int .u64 0]) (by kernel_rfl) ?_; intro gH2 wH2 H2; simp only [splice, vcells_int, vcells_bool, vcells_string, vcells_pointer, vcells_slice, vcells_map, vcells_func, vcells_nilFunc, vcells_iface, vcells_nilIface, vcells_agg, List.take_zero, List.take_succ_cons, List.drop_zero, List.drop_succ_cons, List.length_cons, List.length_nil, List.nil_append, List.cons_append, List.append_nil, Nat.zero_add, List.set_cons_zero, List.set_cons_succ] at H2)
                    | (((with_reducible refine at_store ?_); refine wpList_store_box H2 0 2 rfl rfl (by kernel_rfl) rfl (Nat.le_of_ble_eq_true rfl) rfl ?_; intro u_ wH3 hu_ H3; simp only [Act.eval, Act.put, List.setIfInBounds_toArray, List.set_cons_zero, List.set_cons_succ, Array.getD_eq_getD_getElem?, List.getElem?_toArray, List.getElem?_cons_zero, List.getElem?_cons_succ, Option.getD_some] at hu_; subst hu_; simp only [splice, vcells_int, vcells_bool, vcells_string, vcells_pointer, vcells_slice, vcells_map, vcells_func, vcells_nilFunc, vcells_iface, vcells_nilIface, vcells_agg, List.take_zero, List.take_succ_cons, List.drop_zero, List.drop_succ_cons, List.length_cons, List.length_nil, List.nil_append, List.cons_append, List.append_nil, Nat.zero_add, List.set_cons_zero, List.set_cons_succ] at H3; (try clear b0); have b0 := H3.cells 0 rfl; simp only [cellsAre, and_true, Nat.zero_add] at b0); have H4 := ((((H3.mv 5 rfl).mv 5 rfl).mv 5 rfl).mv 5 rfl).mv 5 rfl; simp only [List.eraseIdx_cons_succ, List.eraseIdx_cons_zero] at H4)
                    | ((go_at_call 33; (with_reducible refine (one_calls HPN.out lp ((np + s.globals.length + s.arrays.length + k : Nat) : Int) (k : Int) 16 1 p.label p.name _ (by omega) (by simp only [List.length_append, List.length_map, List.length_take, List.length_nil]; omega) hps H4).mono ?_); rintro e w5 ⟨rfl, H5⟩)))
                  have H6 := H5.drop 5
                  simp only [List.eraseIdx_cons_succ, List.eraseIdx_cons_zero] at H6
                  go_roundw
                  case rel =>
                    refine ⟨k + 1, _, by go_num, by omega, ⟨HT.out.trans HOA.out⟩, ?_⟩
                    rw [HMT.out, ← List.append_assoc]
                    have hc : (((np + s.globals.length + s.arrays.length + k : Nat) : Int) + 1) = ((np + s.globals.length + s.arrays.length + (k + 1) : Nat) : Int) := by omega
                    rw [hc] at H6
                    exact H6
                  case measure => first | (simp [intOf]; done) | (simp [intOf]; omega)
                · obtain rfl : k = s.channels.length := by omega
                  have hx1 : oneL np 16 gF (np + s.globals.length + s.arrays.length) ((s.globals.map (·.name) ++ s.arrays.map (·.name))) s.channels 0 s.channels z2 = z := by rw [HT.out, List.drop_eq_nil_of_le (Nat.le_refl _)]; rfl
                  have hd1 := HD0.out
                  rw [hx1] at hd1
                  clear HD0
                  have HD0 := hid hd1
                  clear hx1 hd1 HT hlt hk
                  have c1 := H1.cell1 1 rfl
                  have k1 := (CK.out _ _ _ H1).2.2.2.2
                  go_wp2
                  clear c1 k1
                  have H44 : Mem w0 w1 (ckB gc h z :: box gH1 65 #[pt gc] :: box gH2 3 #[.int .i64 ((np + s.globals.length + s.arrays.length + s.channels.length + 0 : Nat) : Int)] :: box gH12 84 #[.map (some M)] :: mapP M ((s.globals.map (·.name) ++ s.arrays.map (·.name) ++ s.channels.map (·.name)) ++ (s.funcs.take 0).map (·.name)) :: As) := by simpa using H1
                  clear H1
                  obtain ⟨z3, rfl⟩ : ∃ z0 : Flt, z0 = z := ⟨_, rfl⟩
                  go_loopw [119] (fun v wr => ∃ (k : Nat) (z : Flt), v = .int .i64 k ∧ k ≤ s.funcs.length ∧ Hd (oneL np 32 fF (np + s.globals.length + s.arrays.length + s.channels.length) ((s.globals.map (·.name) ++ s.arrays.map (·.name) ++ s.channels.map (·.name))) s.funcs 0 s.funcs z3 = oneL np 32 fF (np + s.globals.length + s.arrays.length + s.channels.length) ((s.globals.map (·.name) ++ s.arrays.map (·.name) ++ s.channels.map (·.name))) s.funcs k (s.funcs.drop k) z) ∧ Mem w0 wr (ckB gc h z :: box gH1 65 #[pt gc] :: box gH2 3 #[.int .i64 ((np + s.globals.length + s.arrays.length + s.channels.length + k : Nat) : Int)] :: box gH12 84 #[.map (some M)] :: mapP M ((s.globals.map (·.name) ++ s.arrays.map (·.name) ++ s.channels.map (·.name)) ++ (s.funcs.take k).map (·.name)) :: As)) (fun v _ => s.funcs.length - (intOf v).toNat)
                  case atStart => exact ⟨0, _, rfl, Nat.zero_le _, ⟨rfl⟩, H44⟩
                  case round =>
                    clear H44
                    obtain ⟨k, z, rfl, hk, HT, H1⟩ := hrel
                    obtain ⟨w1, rfl⟩ : ∃ wo : World, wo = wr := ⟨_, rfl⟩
                    by_cases hlt : k < s.funcs.length
                    · obtain ⟨p, hp⟩ : ∃ p, s.funcs[k]? = some p := ⟨_, List.getElem?_eq_getElem hlt⟩
                      have hps : p.name.size ≤ 2000000 := (HO.out.func p (List.mem_of_getElem? hp)).name
                      obtain ⟨fb, fo, hd, hA, -, -, p0, p1, p2, p3, p4, p5⟩ := HR.out.funcs.at' hp
                      have HA := hid hA
                      have e0 := H1.old p0
                      have e1 := H1.old p1
                      have e2 := H1.old p2
                      have e3 := H1.old p3
                      have e4 := H1.old p4
                      have e5 := H1.old p5
                      have HOA := hid (oneL_at (np := np) (most := 32) (f := fF) (n := np + s.globals.length + s.arrays.length + s.channels.length) (ns := (s.globals.map (·.name) ++ s.arrays.map (·.name) ++ s.channels.map (·.name))) (x := z) hp)
                      have HMT := hid (map_take (·.name) hp)
                      clear hp p0 p1 p2 p3 p4 p5 hA
                      rw [HA.out]
                      go_wp2_with (first
                        | ((with_reducible refine at_alloc ?_); refine wpList_alloc_box H1 (.agg #[.string ByteArray.empty, .int .u64 0, .slice Option.none 0 0, .slice Option.none 0 0, .slice Option.none 0 0, .slice Option.none 0 0]) (by kernel_rfl) ?_; intro gH2 wH2 H2; simp only [splice, vcells_int, vcells_bool, vcells_string, vcells_pointer, vcells_slice, vcells_map, vcells_func, vcells_nilFunc, vcells_iface, vcells_nilIface, vcells_agg, List.take_zero, List.take_succ_cons, List.drop_zero, List.drop_succ_cons, List.length_cons, List.length_nil, List.nil_append, List.cons_append, List.append_nil, Nat.zero_add, List.set_cons_zero, List.set_cons_succ] at H2)
                        | (((with_reducible refine at_store ?_); refine wpList_store_box H2 0 6 rfl rfl (by kernel_rfl) rfl (Nat.le_of_ble_eq_true rfl) rfl ?_; intro u_ wH3 hu_ H3; simp only [Act.eval, Act.put, List.setIfInBounds_toArray, List.set_cons_zero, List.set_cons_succ, Array.getD_eq_getD_getElem?, List.getElem?_toArray, List.getElem?_cons_zero, List.getElem?_cons_succ, Option.getD_some] at hu_; subst hu_; simp only [splice, vcells_int, vcells_bool, vcells_string, vcells_pointer, vcells_slice, vcells_map, vcells_func, vcells_nilFunc, vcells_iface, vcells_nilIface, vcells_agg, List.take_zero, List.take_succ_cons, List.drop_zero, List.drop_succ_cons, List.length_cons, List.length_nil, List.nil_append, List.cons_append, List.append_nil, Nat.zero_add, List.set_cons_zero, List.set_cons_succ] at H3; (try clear b0); have b0 := H3.cells 0 rfl; simp only [cellsAre, and_true, Nat.zero_add] at b0); have H4 := ((((H3.mv 5 rfl).mv 5 rfl).mv 5 rfl).mv 5 rfl).mv 5 rfl; simp only [List.eraseIdx_cons_succ, List.eraseIdx_cons_zero] at H4)
                        | ((go_at_call 33; (with_reducible refine (one_calls HPN.out lp ((np + s.globals.length + s.arrays.length + s.channels.length + k : Nat) : Int) (k : Int) 32 1 0 p.name _ (by omega) (by simp only [List.length_append, List.length_map, List.length_take, List.length_nil]; omega) hps H4).mono ?_); rintro e w5 ⟨rfl, H5⟩)))
                      have H6 := H5.drop 5
                      simp only [List.eraseIdx_cons_succ, List.eraseIdx_cons_zero] at H6
                      go_roundw
                      case rel =>
                        refine ⟨k + 1, _, by go_num, by omega, ⟨HT.out.trans HOA.out⟩, ?_⟩
                        rw [HMT.out, ← List.append_assoc]
                        have hc : (((np + s.globals.length + s.arrays.length + s.channels.length + k : Nat) : Int) + 1) = ((np + s.globals.length + s.arrays.length + s.channels.length + (k + 1) : Nat) : Int) := by omega
                        rw [hc] at H6
                        exact H6
                      case measure => first | (simp [intOf]; done) | (simp [intOf]; omega)
                    · obtain rfl : k = s.funcs.length := by omega
                      have hx1 : oneL np 32 fF (np + s.globals.length + s.arrays.length + s.channels.length) ((s.globals.map (·.name) ++ s.arrays.map (·.name) ++ s.channels.map (·.name))) s.funcs 0 s.funcs z3 = z := by rw [HT.out, List.drop_eq_nil_of_le (Nat.le_refl _)]; rfl
                      have hd1 := HD0.out
                      rw [hx1] at hd1
                      clear HD0
                      have HD0 := hid hd1
                      clear hx1 hd1 HT hlt hk
                      go_wp2
                      go_end0
                      have H6 := ((((H1.drop 4).drop 3).drop 2).drop 1)
                      simp only [List.eraseIdx_cons_succ, List.eraseIdx_cons_zero] at H6
                      rw [← HR5.out, HD0.out]
                      exact ⟨rfl, H6⟩
