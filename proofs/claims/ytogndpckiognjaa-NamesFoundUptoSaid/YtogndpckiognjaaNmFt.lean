/- Names: statements that are in order. -/
import Derived.Test.YtogndpckiognjaaNmH
namespace Go.Proofs.Ytogndpckiognjaa
open Go.RowKit
set_option linter.unusedVariables false
set_option linter.unusedSimpArgs false
set_option maxHeartbeats 2000000
/-- Does a statement's kind fit what it has: how many targets, how many expressions? -/
def kindFits (kd : Int) (nm : ByteArray) (nt ne : Nat) : Bool :=
  if kd = 1 then decide (nt = 1 ∧ nm = ByteArray.empty ∧ ne = 1)
  else if kd = 2 then decide (nt = 0 ∧ ne = 2)
  else if kd = 3 then decide (nt = 0 ∧ ne = 1)
  else if kd = 4 then true
  else if kd = 5 ∨ kd = 7 then decide (nt = 0 ∧ nm = ByteArray.empty ∧ ne = 1)
  else if kd = 6 ∨ kd = 8 then decide (nt = 0 ∧ nm = ByteArray.empty ∧ ne = 0)
  else if kd = 9 then decide (nt = 0 ∧ nm = ByteArray.empty)
  else false
def Stmt.fits (s : Stmt) : Bool := s.exprs.all (fun e => wholeF e 0) && kindFits s.kind s.name s.targets.length s.exprs.length
abbrev stV (sh : StmtH) (st : Stmt) : Value := .agg #[.int .i64 st.kind, .string st.name, .slice sh.t.A st.targets.length sh.t.c, .slice sh.e.A st.exprs.length sh.e.c]
abbrev stB (b : Nat) (sh : StmtH) (st : Stmt) : HP := box b 47 #[.int .i64 st.kind, .string st.name, .slice sh.t.A st.targets.length sh.t.c, .slice sh.e.A st.exprs.length sh.e.c]
theorem all_true {α : Type} {l : List α} {f : α → Bool} (h : ∀ (j : Nat) (x : α), j < l.length → l[j]? = some x → f x = true) : l.all f = true := by
  rw [List.all_eq_true]
  intro x hx
  obtain ⟨j, hj⟩ := List.getElem?_of_mem hx
  exact h j x (List.getElem?_eq_some_iff.1 hj).1 hj
theorem all_false {α : Type} {l : List α} {f : α → Bool} {k : Nat} {x : α} (h : l[k]? = some x) (hf : f x = false) : l.all f = false := by
  rw [List.all_eq_false]
  exact ⟨x, List.mem_of_getElem? h, by rw [hf]; decide⟩
set_option maxRecDepth 100000 in
theorem fits_calls (sh : StmtH) (st : Stmt) (w : World) (R : RdS w sh st) (ok : st.Ok) :
    Calls Try.prog 11 #[stV sh st] w fun e w' => e = .returned (.bool st.fits) ∧ Mem w w' [] := by
  obtain ⟨hs, RE⟩ := R.exprs
  have HO := hid ok
  have hle := ok.exprs
  have hlt := ok.targets
  have hsl : hs.length = st.exprs.length := RE.len
  have HSL := hid hsl
  have HRE := hid RE
  obtain ⟨kd, nm, ts, es⟩ := st
  obtain ⟨kd', nm', ⟨tA, tn, tc⟩, ⟨eA, en, ec⟩⟩ := sh
  simp only at hle hlt hsl
  clear R ok RE hsl
  have H0 := Mem.refl w
  simp only [stV]
  go_enter Try.func11, Try.ntmps11
  go_wp2_with (first | ((with_reducible refine at_box ?_); refine wpList_box_box H0 ?_; intro u_ gH1 wH1 hu_ H1; simp only [Act.eval, Act.put, List.setIfInBounds_toArray, List.set_cons_zero, List.set_cons_succ, Array.getD_eq_getD_getElem?, List.getElem?_toArray, List.getElem?_cons_zero, List.getElem?_cons_succ, Option.getD_some] at hu_; subst hu_; simp only [splice, vcells_int, vcells_bool, vcells_string, vcells_pointer, vcells_slice, vcells_map, vcells_func, vcells_nilFunc, vcells_iface, vcells_nilIface, vcells_agg, List.take_zero, List.take_succ_cons, List.drop_zero, List.drop_succ_cons, List.length_cons, List.length_nil, List.nil_append, List.cons_append, List.append_nil, Nat.zero_add, List.set_cons_zero, List.set_cons_succ] at H1; (try clear b0); have b0 := H1.cells 0 rfl; simp only [cellsAre, and_true, Nat.zero_add] at b0))
  go_loopw [10] (fun v wr => ∃ k : Nat, v = .int .i64 k ∧ k ≤ es.length ∧ Hd (∀ j e, j < k → es[j]? = some e → wholeF e 0 = true) ∧ Mem w wr [box gH1 47 #[.int .i64 kd, .string nm, .slice tA ts.length tc, .slice eA es.length ec]]) (fun v _ => es.length - (intOf v).toNat)
  case atStart => exact ⟨0, rfl, Nat.zero_le _, ⟨fun j x hj => by omega⟩, H1⟩
  case round =>
    clear H0 H1 b0
    obtain ⟨k, rfl, hk, HT, H1⟩ := hrel
    obtain ⟨wo, rfl⟩ : ∃ wo : World, wo = wr := ⟨_, rfl⟩
    by_cases hkl : k < es.length
    · obtain ⟨e, he⟩ : ∃ x, es[k]? = some x := ⟨_, List.getElem?_eq_getElem hkl⟩
      obtain ⟨hd, hhd⟩ : ∃ x, hs[k]? = some x := ⟨_, List.getElem?_eq_getElem (by rw [HSL.out]; exact hkl)⟩
      obtain ⟨fb, fo, hA, p0⟩ := HRE.out.hdr.rd.get1 rfl hhd rfl
      simp only at hA
      subst hA
      have hE := HRE.out.each k hd e hhd he
      rw [hE.n] at p0
      have e1 := H1.old p0
      have hel : e.length ≤ 2000000 := HO.out.expr e (List.mem_of_getElem? he)
      have HW := hid (whole_calls hd.A hd.c e wo (Rd.below hE.rd H1.below) hel)
      have HEX := hid he
      clear he hhd p0 hE
      obtain ⟨b, hb⟩ : ∃ b, wholeF e 0 = b := ⟨_, rfl⟩
      have HB := hid hb
      clear hb
      cases b with
      | true =>
        go_wp2_with (first | (go_at_call 29; (with_reducible refine HW.out.mono ?_); rintro e' w2 ⟨rfl, H2'⟩; rw [HB.out]; have H2 := H1.call H2'; simp only [List.nil_append] at H2))
        go_roundw
        case rel =>
          refine ⟨k + 1, by go_num, by omega, ⟨fun j z hj hz => ?_⟩, H2⟩
          rcases Nat.lt_or_ge j k with h | h
          · exact HT.out j z h hz
          · obtain rfl : j = k := by omega
            rw [HEX.out] at hz
            obtain rfl := Option.some.inj hz
            exact HB.out
        case measure => first | (simp [intOf]; done) | (simp [intOf]; omega)
      | false =>
        go_wp2_with (first | (go_at_call 29; (with_reducible refine HW.out.mono ?_); rintro e' w2 ⟨rfl, H2'⟩; rw [HB.out]; have H2 := H1.call H2'; simp only [List.nil_append] at H2))
        go_ret
        refine ⟨?_, H2.none⟩
        have : Stmt.fits ⟨kd, nm, ts, es⟩ = false := by
          unfold Stmt.fits
          simp only [show (es.all fun e => wholeF e 0) = false from all_false (f := fun e => wholeF e 0) HEX.out HB.out, Bool.false_and]
        rw [this]
        rfl
    · obtain rfl : k = es.length := by omega
      have hfx : Stmt.fits ⟨kd, nm, ts, es⟩ = kindFits kd nm ts.length es.length := by
        unfold Stmt.fits
        simp only [all_true HT.out, Bool.true_and]
      have HFX := hid hfx
      clear hfx
      obtain ⟨nt, hnt⟩ : ∃ nt, ts.length = nt := ⟨_, rfl⟩
      obtain ⟨ne, hne⟩ : ∃ nt, es.length = nt := ⟨_, rfl⟩
      rw [hnt] at hlt
      rw [hne] at hle
      rw [hnt, hne] at H1 ⊢
      have HNT := hid hnt
      have HNE := hid hne
      have b0 := H1.cells 0 rfl
      simp only [cellsAre, and_true, Nat.zero_add] at b0
      clear hnt hne hk hkl HT HRE HSL HO
      by_cases d1 : kd = 1
      · subst d1
        by_cases q4 : nt = 1
        · by_cases q2 : nm = ByteArray.empty
          · by_cases q5 : ne = 1
            · have hv : kindFits 1 nm nt ne = true := by
                simp only [kindFits]
                first | rfl | (simp [*]; done) | (simp [*]; omega) | (simp; omega) | (simp; intros; omega) | (simp; intros; simp_all; done) | (simp; intros; simp_all; omega)
              have HV := hid hv
              have f4 : ((nt : Int) == 1) = true := by simp; omega
              have f2 : (nm.toList == []) = true := by rw [q2, emptyL]; rfl
              have f2' : nm.toList.isEmpty = true := by rw [q2, emptyL]; rfl
              have f5 : ((ne : Int) == 1) = true := by simp; omega
              clear hv
              go_wp2
              go_quiet (fail)
              have H2 := H1.drewN nq
              obtain ⟨w3, hw3⟩ : ∃ w3, w3 = wo.drewN nq := ⟨_, rfl⟩
              rw [← hw3] at H2 ⊢
              clear hw3 b0
              have b0 := H2.cells 0 rfl
              simp only [cellsAre, and_true, Nat.zero_add] at b0
              go_wp2
              go_ret
              refine ⟨?_, H2.none⟩
              rw [HFX.out, HNT.out, HNE.out, HV.out]
              rfl
            · have hv : kindFits 1 nm nt ne = false := by
                simp only [kindFits]
                first | rfl | (simp [*]; done) | (simp [*]; omega) | (simp; omega) | (simp; intros; omega) | (simp; intros; simp_all; done) | (simp; intros; simp_all; omega)
              have HV := hid hv
              have f4 : ((nt : Int) == 1) = true := by simp; omega
              have f2 : (nm.toList == []) = true := by rw [q2, emptyL]; rfl
              have f2' : nm.toList.isEmpty = true := by rw [q2, emptyL]; rfl
              have f5 : ((ne : Int) == 1) = false := by simp; omega
              clear hv
              go_wp2
              go_quiet (fail)
              have H2 := H1.drewN nq
              obtain ⟨w3, hw3⟩ : ∃ w3, w3 = wo.drewN nq := ⟨_, rfl⟩
              rw [← hw3] at H2 ⊢
              clear hw3 b0
              have b0 := H2.cells 0 rfl
              simp only [cellsAre, and_true, Nat.zero_add] at b0
              go_wp2
              go_ret
              refine ⟨?_, H2.none⟩
              rw [HFX.out, HNT.out, HNE.out, HV.out]
              rfl
          · have hv : kindFits 1 nm nt ne = false := by
              simp only [kindFits]
              first | rfl | (simp [*]; done) | (simp [*]; omega) | (simp; omega) | (simp; intros; omega) | (simp; intros; simp_all; done) | (simp; intros; simp_all; omega)
            have HV := hid hv
            have f4 : ((nt : Int) == 1) = true := by simp; omega
            have f2 := nameEmpty q2
            have f2' := emptyFalse q2
            clear hv
            go_wp2
            go_quiet (fail)
            have H2 := H1.drewN nq
            obtain ⟨w3, hw3⟩ : ∃ w3, w3 = wo.drewN nq := ⟨_, rfl⟩
            rw [← hw3] at H2 ⊢
            clear hw3 b0
            have b0 := H2.cells 0 rfl
            simp only [cellsAre, and_true, Nat.zero_add] at b0
            go_wp2
            go_ret
            refine ⟨?_, H2.none⟩
            rw [HFX.out, HNT.out, HNE.out, HV.out]
            rfl
        · have hv : kindFits 1 nm nt ne = false := by
            simp only [kindFits]
            first | rfl | (simp [*]; done) | (simp [*]; omega) | (simp; omega) | (simp; intros; omega) | (simp; intros; simp_all; done) | (simp; intros; simp_all; omega)
          have HV := hid hv
          have f4 : ((nt : Int) == 1) = false := by simp; omega
          clear hv
          go_wp2
          go_quiet (fail)
          have H2 := H1.drewN nq
          obtain ⟨w3, hw3⟩ : ∃ w3, w3 = wo.drewN nq := ⟨_, rfl⟩
          rw [← hw3] at H2 ⊢
          clear hw3 b0
          have b0 := H2.cells 0 rfl
          simp only [cellsAre, and_true, Nat.zero_add] at b0
          go_wp2
          go_ret
          refine ⟨?_, H2.none⟩
          rw [HFX.out, HNT.out, HNE.out, HV.out]
          rfl
      · have c1 : (kd == 1) = false := by simpa using d1
        by_cases d2 : kd = 2
        · subst d2
          by_cases q3 : nt = 0
          · by_cases q5 : ne = 2
            · have hv : kindFits 2 nm nt ne = true := by
                simp only [kindFits]
                first | rfl | (simp [*]; done) | (simp [*]; omega) | (simp; omega) | (simp; intros; omega) | (simp; intros; simp_all; done) | (simp; intros; simp_all; omega)
              have HV := hid hv
              have f3 : ((nt : Int) == 0) = true := by simp; omega
              have f5 : ((ne : Int) == 2) = true := by simp; omega
              clear hv
              go_wp2
              go_quiet (fail)
              have H2 := H1.drewN nq
              obtain ⟨w3, hw3⟩ : ∃ w3, w3 = wo.drewN nq := ⟨_, rfl⟩
              rw [← hw3] at H2 ⊢
              clear hw3 b0
              have b0 := H2.cells 0 rfl
              simp only [cellsAre, and_true, Nat.zero_add] at b0
              go_wp2
              go_ret
              refine ⟨?_, H2.none⟩
              rw [HFX.out, HNT.out, HNE.out, HV.out]
              rfl
            · have hv : kindFits 2 nm nt ne = false := by
                simp only [kindFits]
                first | rfl | (simp [*]; done) | (simp [*]; omega) | (simp; omega) | (simp; intros; omega) | (simp; intros; simp_all; done) | (simp; intros; simp_all; omega)
              have HV := hid hv
              have f3 : ((nt : Int) == 0) = true := by simp; omega
              have f5 : ((ne : Int) == 2) = false := by simp; omega
              clear hv
              go_wp2
              go_quiet (fail)
              have H2 := H1.drewN nq
              obtain ⟨w3, hw3⟩ : ∃ w3, w3 = wo.drewN nq := ⟨_, rfl⟩
              rw [← hw3] at H2 ⊢
              clear hw3 b0
              have b0 := H2.cells 0 rfl
              simp only [cellsAre, and_true, Nat.zero_add] at b0
              go_wp2
              go_ret
              refine ⟨?_, H2.none⟩
              rw [HFX.out, HNT.out, HNE.out, HV.out]
              rfl
          · have hv : kindFits 2 nm nt ne = false := by
              simp only [kindFits]
              first | rfl | (simp [*]; done) | (simp [*]; omega) | (simp; omega) | (simp; intros; omega) | (simp; intros; simp_all; done) | (simp; intros; simp_all; omega)
            have HV := hid hv
            have f3 : ((nt : Int) == 0) = false := by simp; omega
            clear hv
            go_wp2
            go_quiet (fail)
            have H2 := H1.drewN nq
            obtain ⟨w3, hw3⟩ : ∃ w3, w3 = wo.drewN nq := ⟨_, rfl⟩
            rw [← hw3] at H2 ⊢
            clear hw3 b0
            have b0 := H2.cells 0 rfl
            simp only [cellsAre, and_true, Nat.zero_add] at b0
            go_wp2
            go_ret
            refine ⟨?_, H2.none⟩
            rw [HFX.out, HNT.out, HNE.out, HV.out]
            rfl
        · have c2 : (kd == 2) = false := by simpa using d2
          by_cases d3 : kd = 3
          · subst d3
            by_cases q3 : nt = 0
            · by_cases q5 : ne = 1
              · have hv : kindFits 3 nm nt ne = true := by
                  simp only [kindFits]
                  first | rfl | (simp [*]; done) | (simp [*]; omega) | (simp; omega) | (simp; intros; omega) | (simp; intros; simp_all; done) | (simp; intros; simp_all; omega)
                have HV := hid hv
                have f3 : ((nt : Int) == 0) = true := by simp; omega
                have f5 : ((ne : Int) == 1) = true := by simp; omega
                clear hv
                go_wp2
                go_quiet (fail)
                have H2 := H1.drewN nq
                obtain ⟨w3, hw3⟩ : ∃ w3, w3 = wo.drewN nq := ⟨_, rfl⟩
                rw [← hw3] at H2 ⊢
                clear hw3 b0
                have b0 := H2.cells 0 rfl
                simp only [cellsAre, and_true, Nat.zero_add] at b0
                go_wp2
                go_ret
                refine ⟨?_, H2.none⟩
                rw [HFX.out, HNT.out, HNE.out, HV.out]
                rfl
              · have hv : kindFits 3 nm nt ne = false := by
                  simp only [kindFits]
                  first | rfl | (simp [*]; done) | (simp [*]; omega) | (simp; omega) | (simp; intros; omega) | (simp; intros; simp_all; done) | (simp; intros; simp_all; omega)
                have HV := hid hv
                have f3 : ((nt : Int) == 0) = true := by simp; omega
                have f5 : ((ne : Int) == 1) = false := by simp; omega
                clear hv
                go_wp2
                go_quiet (fail)
                have H2 := H1.drewN nq
                obtain ⟨w3, hw3⟩ : ∃ w3, w3 = wo.drewN nq := ⟨_, rfl⟩
                rw [← hw3] at H2 ⊢
                clear hw3 b0
                have b0 := H2.cells 0 rfl
                simp only [cellsAre, and_true, Nat.zero_add] at b0
                go_wp2
                go_ret
                refine ⟨?_, H2.none⟩
                rw [HFX.out, HNT.out, HNE.out, HV.out]
                rfl
            · have hv : kindFits 3 nm nt ne = false := by
                simp only [kindFits]
                first | rfl | (simp [*]; done) | (simp [*]; omega) | (simp; omega) | (simp; intros; omega) | (simp; intros; simp_all; done) | (simp; intros; simp_all; omega)
              have HV := hid hv
              have f3 : ((nt : Int) == 0) = false := by simp; omega
              clear hv
              go_wp2
              go_quiet (fail)
              have H2 := H1.drewN nq
              obtain ⟨w3, hw3⟩ : ∃ w3, w3 = wo.drewN nq := ⟨_, rfl⟩
              rw [← hw3] at H2 ⊢
              clear hw3 b0
              have b0 := H2.cells 0 rfl
              simp only [cellsAre, and_true, Nat.zero_add] at b0
              go_wp2
              go_ret
              refine ⟨?_, H2.none⟩
              rw [HFX.out, HNT.out, HNE.out, HV.out]
              rfl
          · have c3 : (kd == 3) = false := by simpa using d3
            by_cases d4 : kd = 4
            · subst d4
              have hv : kindFits 4 nm nt ne = true := by
                simp only [kindFits]
                first | rfl | (simp [*]; done) | (simp [*]; omega) | (simp; omega) | (simp; intros; omega) | (simp; intros; simp_all; done) | (simp; intros; simp_all; omega)
              have HV := hid hv
              clear hv
              go_wp2
              go_quiet (fail)
              have H2 := H1.drewN nq
              obtain ⟨w3, hw3⟩ : ∃ w3, w3 = wo.drewN nq := ⟨_, rfl⟩
              rw [← hw3] at H2 ⊢
              clear hw3 b0
              have b0 := H2.cells 0 rfl
              simp only [cellsAre, and_true, Nat.zero_add] at b0
              go_wp2
              go_ret
              refine ⟨?_, H2.none⟩
              rw [HFX.out, HNT.out, HNE.out, HV.out]
              rfl
            · have c4 : (kd == 4) = false := by simpa using d4
              by_cases d5 : kd = 5
              · subst d5
                by_cases q3 : nt = 0
                · by_cases q2 : nm = ByteArray.empty
                  · by_cases q5 : ne = 1
                    · have hv : kindFits 5 nm nt ne = true := by
                        simp only [kindFits]
                        first | rfl | (simp [*]; done) | (simp [*]; omega) | (simp; omega) | (simp; intros; omega) | (simp; intros; simp_all; done) | (simp; intros; simp_all; omega)
                      have HV := hid hv
                      have f3 : ((nt : Int) == 0) = true := by simp; omega
                      have f2 : (nm.toList == []) = true := by rw [q2, emptyL]; rfl
                      have f2' : nm.toList.isEmpty = true := by rw [q2, emptyL]; rfl
                      have f5 : ((ne : Int) == 1) = true := by simp; omega
                      clear hv
                      go_wp2
                      go_quiet (fail)
                      have H2 := H1.drewN nq
                      obtain ⟨w3, hw3⟩ : ∃ w3, w3 = wo.drewN nq := ⟨_, rfl⟩
                      rw [← hw3] at H2 ⊢
                      clear hw3 b0
                      have b0 := H2.cells 0 rfl
                      simp only [cellsAre, and_true, Nat.zero_add] at b0
                      go_wp2
                      go_ret
                      refine ⟨?_, H2.none⟩
                      rw [HFX.out, HNT.out, HNE.out, HV.out]
                      rfl
                    · have hv : kindFits 5 nm nt ne = false := by
                        simp only [kindFits]
                        first | rfl | (simp [*]; done) | (simp [*]; omega) | (simp; omega) | (simp; intros; omega) | (simp; intros; simp_all; done) | (simp; intros; simp_all; omega)
                      have HV := hid hv
                      have f3 : ((nt : Int) == 0) = true := by simp; omega
                      have f2 : (nm.toList == []) = true := by rw [q2, emptyL]; rfl
                      have f2' : nm.toList.isEmpty = true := by rw [q2, emptyL]; rfl
                      have f5 : ((ne : Int) == 1) = false := by simp; omega
                      clear hv
                      go_wp2
                      go_quiet (fail)
                      have H2 := H1.drewN nq
                      obtain ⟨w3, hw3⟩ : ∃ w3, w3 = wo.drewN nq := ⟨_, rfl⟩
                      rw [← hw3] at H2 ⊢
                      clear hw3 b0
                      have b0 := H2.cells 0 rfl
                      simp only [cellsAre, and_true, Nat.zero_add] at b0
                      go_wp2
                      go_ret
                      refine ⟨?_, H2.none⟩
                      rw [HFX.out, HNT.out, HNE.out, HV.out]
                      rfl
                  · have hv : kindFits 5 nm nt ne = false := by
                      simp only [kindFits]
                      first | rfl | (simp [*]; done) | (simp [*]; omega) | (simp; omega) | (simp; intros; omega) | (simp; intros; simp_all; done) | (simp; intros; simp_all; omega)
                    have HV := hid hv
                    have f3 : ((nt : Int) == 0) = true := by simp; omega
                    have f2 := nameEmpty q2
                    have f2' := emptyFalse q2
                    clear hv
                    go_wp2
                    go_quiet (fail)
                    have H2 := H1.drewN nq
                    obtain ⟨w3, hw3⟩ : ∃ w3, w3 = wo.drewN nq := ⟨_, rfl⟩
                    rw [← hw3] at H2 ⊢
                    clear hw3 b0
                    have b0 := H2.cells 0 rfl
                    simp only [cellsAre, and_true, Nat.zero_add] at b0
                    go_wp2
                    go_ret
                    refine ⟨?_, H2.none⟩
                    rw [HFX.out, HNT.out, HNE.out, HV.out]
                    rfl
                · have hv : kindFits 5 nm nt ne = false := by
                    simp only [kindFits]
                    first | rfl | (simp [*]; done) | (simp [*]; omega) | (simp; omega) | (simp; intros; omega) | (simp; intros; simp_all; done) | (simp; intros; simp_all; omega)
                  have HV := hid hv
                  have f3 : ((nt : Int) == 0) = false := by simp; omega
                  clear hv
                  go_wp2
                  go_quiet (fail)
                  have H2 := H1.drewN nq
                  obtain ⟨w3, hw3⟩ : ∃ w3, w3 = wo.drewN nq := ⟨_, rfl⟩
                  rw [← hw3] at H2 ⊢
                  clear hw3 b0
                  have b0 := H2.cells 0 rfl
                  simp only [cellsAre, and_true, Nat.zero_add] at b0
                  go_wp2
                  go_ret
                  refine ⟨?_, H2.none⟩
                  rw [HFX.out, HNT.out, HNE.out, HV.out]
                  rfl
              · have c5 : (kd == 5) = false := by simpa using d5
                by_cases d7 : kd = 7
                · subst d7
                  by_cases q3 : nt = 0
                  · by_cases q2 : nm = ByteArray.empty
                    · by_cases q5 : ne = 1
                      · have hv : kindFits 7 nm nt ne = true := by
                          simp only [kindFits]
                          first | rfl | (simp [*]; done) | (simp [*]; omega) | (simp; omega) | (simp; intros; omega) | (simp; intros; simp_all; done) | (simp; intros; simp_all; omega)
                        have HV := hid hv
                        have f3 : ((nt : Int) == 0) = true := by simp; omega
                        have f2 : (nm.toList == []) = true := by rw [q2, emptyL]; rfl
                        have f2' : nm.toList.isEmpty = true := by rw [q2, emptyL]; rfl
                        have f5 : ((ne : Int) == 1) = true := by simp; omega
                        clear hv
                        go_wp2
                        go_quiet (fail)
                        have H2 := H1.drewN nq
                        obtain ⟨w3, hw3⟩ : ∃ w3, w3 = wo.drewN nq := ⟨_, rfl⟩
                        rw [← hw3] at H2 ⊢
                        clear hw3 b0
                        have b0 := H2.cells 0 rfl
                        simp only [cellsAre, and_true, Nat.zero_add] at b0
                        go_wp2
                        go_ret
                        refine ⟨?_, H2.none⟩
                        rw [HFX.out, HNT.out, HNE.out, HV.out]
                        rfl
                      · have hv : kindFits 7 nm nt ne = false := by
                          simp only [kindFits]
                          first | rfl | (simp [*]; done) | (simp [*]; omega) | (simp; omega) | (simp; intros; omega) | (simp; intros; simp_all; done) | (simp; intros; simp_all; omega)
                        have HV := hid hv
                        have f3 : ((nt : Int) == 0) = true := by simp; omega
                        have f2 : (nm.toList == []) = true := by rw [q2, emptyL]; rfl
                        have f2' : nm.toList.isEmpty = true := by rw [q2, emptyL]; rfl
                        have f5 : ((ne : Int) == 1) = false := by simp; omega
                        clear hv
                        go_wp2
                        go_quiet (fail)
                        have H2 := H1.drewN nq
                        obtain ⟨w3, hw3⟩ : ∃ w3, w3 = wo.drewN nq := ⟨_, rfl⟩
                        rw [← hw3] at H2 ⊢
                        clear hw3 b0
                        have b0 := H2.cells 0 rfl
                        simp only [cellsAre, and_true, Nat.zero_add] at b0
                        go_wp2
                        go_ret
                        refine ⟨?_, H2.none⟩
                        rw [HFX.out, HNT.out, HNE.out, HV.out]
                        rfl
                    · have hv : kindFits 7 nm nt ne = false := by
                        simp only [kindFits]
                        first | rfl | (simp [*]; done) | (simp [*]; omega) | (simp; omega) | (simp; intros; omega) | (simp; intros; simp_all; done) | (simp; intros; simp_all; omega)
                      have HV := hid hv
                      have f3 : ((nt : Int) == 0) = true := by simp; omega
                      have f2 := nameEmpty q2
                      have f2' := emptyFalse q2
                      clear hv
                      go_wp2
                      go_quiet (fail)
                      have H2 := H1.drewN nq
                      obtain ⟨w3, hw3⟩ : ∃ w3, w3 = wo.drewN nq := ⟨_, rfl⟩
                      rw [← hw3] at H2 ⊢
                      clear hw3 b0
                      have b0 := H2.cells 0 rfl
                      simp only [cellsAre, and_true, Nat.zero_add] at b0
                      go_wp2
                      go_ret
                      refine ⟨?_, H2.none⟩
                      rw [HFX.out, HNT.out, HNE.out, HV.out]
                      rfl
                  · have hv : kindFits 7 nm nt ne = false := by
                      simp only [kindFits]
                      first | rfl | (simp [*]; done) | (simp [*]; omega) | (simp; omega) | (simp; intros; omega) | (simp; intros; simp_all; done) | (simp; intros; simp_all; omega)
                    have HV := hid hv
                    have f3 : ((nt : Int) == 0) = false := by simp; omega
                    clear hv
                    go_wp2
                    go_quiet (fail)
                    have H2 := H1.drewN nq
                    obtain ⟨w3, hw3⟩ : ∃ w3, w3 = wo.drewN nq := ⟨_, rfl⟩
                    rw [← hw3] at H2 ⊢
                    clear hw3 b0
                    have b0 := H2.cells 0 rfl
                    simp only [cellsAre, and_true, Nat.zero_add] at b0
                    go_wp2
                    go_ret
                    refine ⟨?_, H2.none⟩
                    rw [HFX.out, HNT.out, HNE.out, HV.out]
                    rfl
                · have c7 : (kd == 7) = false := by simpa using d7
                  by_cases d6 : kd = 6
                  · subst d6
                    by_cases q3 : nt = 0
                    · by_cases q2 : nm = ByteArray.empty
                      · by_cases q5 : ne = 0
                        · have hv : kindFits 6 nm nt ne = true := by
                            simp only [kindFits]
                            first | rfl | (simp [*]; done) | (simp [*]; omega) | (simp; omega) | (simp; intros; omega) | (simp; intros; simp_all; done) | (simp; intros; simp_all; omega)
                          have HV := hid hv
                          have f3 : ((nt : Int) == 0) = true := by simp; omega
                          have f2 : (nm.toList == []) = true := by rw [q2, emptyL]; rfl
                          have f2' : nm.toList.isEmpty = true := by rw [q2, emptyL]; rfl
                          have f5 : ((ne : Int) == 0) = true := by simp; omega
                          clear hv
                          go_wp2
                          go_quiet (fail)
                          have H2 := H1.drewN nq
                          obtain ⟨w3, hw3⟩ : ∃ w3, w3 = wo.drewN nq := ⟨_, rfl⟩
                          rw [← hw3] at H2 ⊢
                          clear hw3 b0
                          have b0 := H2.cells 0 rfl
                          simp only [cellsAre, and_true, Nat.zero_add] at b0
                          go_wp2
                          go_ret
                          refine ⟨?_, H2.none⟩
                          rw [HFX.out, HNT.out, HNE.out, HV.out]
                          rfl
                        · have hv : kindFits 6 nm nt ne = false := by
                            simp only [kindFits]
                            first | rfl | (simp [*]; done) | (simp [*]; omega) | (simp; omega) | (simp; intros; omega) | (simp; intros; simp_all; done) | (simp; intros; simp_all; omega)
                          have HV := hid hv
                          have f3 : ((nt : Int) == 0) = true := by simp; omega
                          have f2 : (nm.toList == []) = true := by rw [q2, emptyL]; rfl
                          have f2' : nm.toList.isEmpty = true := by rw [q2, emptyL]; rfl
                          have f5 : ((ne : Int) == 0) = false := by simp; omega
                          clear hv
                          go_wp2
                          go_quiet (fail)
                          have H2 := H1.drewN nq
                          obtain ⟨w3, hw3⟩ : ∃ w3, w3 = wo.drewN nq := ⟨_, rfl⟩
                          rw [← hw3] at H2 ⊢
                          clear hw3 b0
                          have b0 := H2.cells 0 rfl
                          simp only [cellsAre, and_true, Nat.zero_add] at b0
                          go_wp2
                          go_ret
                          refine ⟨?_, H2.none⟩
                          rw [HFX.out, HNT.out, HNE.out, HV.out]
                          rfl
                      · have hv : kindFits 6 nm nt ne = false := by
                          simp only [kindFits]
                          first | rfl | (simp [*]; done) | (simp [*]; omega) | (simp; omega) | (simp; intros; omega) | (simp; intros; simp_all; done) | (simp; intros; simp_all; omega)
                        have HV := hid hv
                        have f3 : ((nt : Int) == 0) = true := by simp; omega
                        have f2 := nameEmpty q2
                        have f2' := emptyFalse q2
                        clear hv
                        go_wp2
                        go_quiet (fail)
                        have H2 := H1.drewN nq
                        obtain ⟨w3, hw3⟩ : ∃ w3, w3 = wo.drewN nq := ⟨_, rfl⟩
                        rw [← hw3] at H2 ⊢
                        clear hw3 b0
                        have b0 := H2.cells 0 rfl
                        simp only [cellsAre, and_true, Nat.zero_add] at b0
                        go_wp2
                        go_ret
                        refine ⟨?_, H2.none⟩
                        rw [HFX.out, HNT.out, HNE.out, HV.out]
                        rfl
                    · have hv : kindFits 6 nm nt ne = false := by
                        simp only [kindFits]
                        first | rfl | (simp [*]; done) | (simp [*]; omega) | (simp; omega) | (simp; intros; omega) | (simp; intros; simp_all; done) | (simp; intros; simp_all; omega)
                      have HV := hid hv
                      have f3 : ((nt : Int) == 0) = false := by simp; omega
                      clear hv
                      go_wp2
                      go_quiet (fail)
                      have H2 := H1.drewN nq
                      obtain ⟨w3, hw3⟩ : ∃ w3, w3 = wo.drewN nq := ⟨_, rfl⟩
                      rw [← hw3] at H2 ⊢
                      clear hw3 b0
                      have b0 := H2.cells 0 rfl
                      simp only [cellsAre, and_true, Nat.zero_add] at b0
                      go_wp2
                      go_ret
                      refine ⟨?_, H2.none⟩
                      rw [HFX.out, HNT.out, HNE.out, HV.out]
                      rfl
                  · have c6 : (kd == 6) = false := by simpa using d6
                    by_cases d8 : kd = 8
                    · subst d8
                      by_cases q3 : nt = 0
                      · by_cases q2 : nm = ByteArray.empty
                        · by_cases q5 : ne = 0
                          · have hv : kindFits 8 nm nt ne = true := by
                              simp only [kindFits]
                              first | rfl | (simp [*]; done) | (simp [*]; omega) | (simp; omega) | (simp; intros; omega) | (simp; intros; simp_all; done) | (simp; intros; simp_all; omega)
                            have HV := hid hv
                            have f3 : ((nt : Int) == 0) = true := by simp; omega
                            have f2 : (nm.toList == []) = true := by rw [q2, emptyL]; rfl
                            have f2' : nm.toList.isEmpty = true := by rw [q2, emptyL]; rfl
                            have f5 : ((ne : Int) == 0) = true := by simp; omega
                            clear hv
                            go_wp2
                            go_quiet (fail)
                            have H2 := H1.drewN nq
                            obtain ⟨w3, hw3⟩ : ∃ w3, w3 = wo.drewN nq := ⟨_, rfl⟩
                            rw [← hw3] at H2 ⊢
                            clear hw3 b0
                            have b0 := H2.cells 0 rfl
                            simp only [cellsAre, and_true, Nat.zero_add] at b0
                            go_wp2
                            go_ret
                            refine ⟨?_, H2.none⟩
                            rw [HFX.out, HNT.out, HNE.out, HV.out]
                            rfl
                          · have hv : kindFits 8 nm nt ne = false := by
                              simp only [kindFits]
                              first | rfl | (simp [*]; done) | (simp [*]; omega) | (simp; omega) | (simp; intros; omega) | (simp; intros; simp_all; done) | (simp; intros; simp_all; omega)
                            have HV := hid hv
                            have f3 : ((nt : Int) == 0) = true := by simp; omega
                            have f2 : (nm.toList == []) = true := by rw [q2, emptyL]; rfl
                            have f2' : nm.toList.isEmpty = true := by rw [q2, emptyL]; rfl
                            have f5 : ((ne : Int) == 0) = false := by simp; omega
                            clear hv
                            go_wp2
                            go_quiet (fail)
                            have H2 := H1.drewN nq
                            obtain ⟨w3, hw3⟩ : ∃ w3, w3 = wo.drewN nq := ⟨_, rfl⟩
                            rw [← hw3] at H2 ⊢
                            clear hw3 b0
                            have b0 := H2.cells 0 rfl
                            simp only [cellsAre, and_true, Nat.zero_add] at b0
                            go_wp2
                            go_ret
                            refine ⟨?_, H2.none⟩
                            rw [HFX.out, HNT.out, HNE.out, HV.out]
                            rfl
                        · have hv : kindFits 8 nm nt ne = false := by
                            simp only [kindFits]
                            first | rfl | (simp [*]; done) | (simp [*]; omega) | (simp; omega) | (simp; intros; omega) | (simp; intros; simp_all; done) | (simp; intros; simp_all; omega)
                          have HV := hid hv
                          have f3 : ((nt : Int) == 0) = true := by simp; omega
                          have f2 := nameEmpty q2
                          have f2' := emptyFalse q2
                          clear hv
                          go_wp2
                          go_quiet (fail)
                          have H2 := H1.drewN nq
                          obtain ⟨w3, hw3⟩ : ∃ w3, w3 = wo.drewN nq := ⟨_, rfl⟩
                          rw [← hw3] at H2 ⊢
                          clear hw3 b0
                          have b0 := H2.cells 0 rfl
                          simp only [cellsAre, and_true, Nat.zero_add] at b0
                          go_wp2
                          go_ret
                          refine ⟨?_, H2.none⟩
                          rw [HFX.out, HNT.out, HNE.out, HV.out]
                          rfl
                      · have hv : kindFits 8 nm nt ne = false := by
                          simp only [kindFits]
                          first | rfl | (simp [*]; done) | (simp [*]; omega) | (simp; omega) | (simp; intros; omega) | (simp; intros; simp_all; done) | (simp; intros; simp_all; omega)
                        have HV := hid hv
                        have f3 : ((nt : Int) == 0) = false := by simp; omega
                        clear hv
                        go_wp2
                        go_quiet (fail)
                        have H2 := H1.drewN nq
                        obtain ⟨w3, hw3⟩ : ∃ w3, w3 = wo.drewN nq := ⟨_, rfl⟩
                        rw [← hw3] at H2 ⊢
                        clear hw3 b0
                        have b0 := H2.cells 0 rfl
                        simp only [cellsAre, and_true, Nat.zero_add] at b0
                        go_wp2
                        go_ret
                        refine ⟨?_, H2.none⟩
                        rw [HFX.out, HNT.out, HNE.out, HV.out]
                        rfl
                    · have c8 : (kd == 8) = false := by simpa using d8
                      by_cases d9 : kd = 9
                      · subst d9
                        by_cases q3 : nt = 0
                        · by_cases q2 : nm = ByteArray.empty
                          · have hv : kindFits 9 nm nt ne = true := by
                              simp only [kindFits]
                              first | rfl | (simp [*]; done) | (simp [*]; omega) | (simp; omega) | (simp; intros; omega) | (simp; intros; simp_all; done) | (simp; intros; simp_all; omega)
                            have HV := hid hv
                            have f3 : ((nt : Int) == 0) = true := by simp; omega
                            have f2 : (nm.toList == []) = true := by rw [q2, emptyL]; rfl
                            have f2' : nm.toList.isEmpty = true := by rw [q2, emptyL]; rfl
                            clear hv
                            go_wp2
                            go_quiet (fail)
                            have H2 := H1.drewN nq
                            obtain ⟨w3, hw3⟩ : ∃ w3, w3 = wo.drewN nq := ⟨_, rfl⟩
                            rw [← hw3] at H2 ⊢
                            clear hw3 b0
                            have b0 := H2.cells 0 rfl
                            simp only [cellsAre, and_true, Nat.zero_add] at b0
                            go_wp2
                            go_ret
                            refine ⟨?_, H2.none⟩
                            rw [HFX.out, HNT.out, HNE.out, HV.out]
                            rfl
                          · have hv : kindFits 9 nm nt ne = false := by
                              simp only [kindFits]
                              first | rfl | (simp [*]; done) | (simp [*]; omega) | (simp; omega) | (simp; intros; omega) | (simp; intros; simp_all; done) | (simp; intros; simp_all; omega)
                            have HV := hid hv
                            have f3 : ((nt : Int) == 0) = true := by simp; omega
                            have f2 := nameEmpty q2
                            have f2' := emptyFalse q2
                            clear hv
                            go_wp2
                            go_quiet (fail)
                            have H2 := H1.drewN nq
                            obtain ⟨w3, hw3⟩ : ∃ w3, w3 = wo.drewN nq := ⟨_, rfl⟩
                            rw [← hw3] at H2 ⊢
                            clear hw3 b0
                            have b0 := H2.cells 0 rfl
                            simp only [cellsAre, and_true, Nat.zero_add] at b0
                            go_wp2
                            go_ret
                            refine ⟨?_, H2.none⟩
                            rw [HFX.out, HNT.out, HNE.out, HV.out]
                            rfl
                        · have hv : kindFits 9 nm nt ne = false := by
                            simp only [kindFits]
                            first | rfl | (simp [*]; done) | (simp [*]; omega) | (simp; omega) | (simp; intros; omega) | (simp; intros; simp_all; done) | (simp; intros; simp_all; omega)
                          have HV := hid hv
                          have f3 : ((nt : Int) == 0) = false := by simp; omega
                          clear hv
                          go_wp2
                          go_quiet (fail)
                          have H2 := H1.drewN nq
                          obtain ⟨w3, hw3⟩ : ∃ w3, w3 = wo.drewN nq := ⟨_, rfl⟩
                          rw [← hw3] at H2 ⊢
                          clear hw3 b0
                          have b0 := H2.cells 0 rfl
                          simp only [cellsAre, and_true, Nat.zero_add] at b0
                          go_wp2
                          go_ret
                          refine ⟨?_, H2.none⟩
                          rw [HFX.out, HNT.out, HNE.out, HV.out]
                          rfl
                      · have c9 : (kd == 9) = false := by simpa using d9
                        have hv : kindFits kd nm nt ne = false := by
                          simp only [kindFits]
                          first | rfl | (simp [*]; done) | (simp [*]; omega) | (simp; omega) | (simp; intros; omega) | (simp; intros; simp_all; done) | (simp; intros; simp_all; omega)
                        have HV := hid hv
                        clear hv
                        go_wp2
                        go_quiet (fail)
                        have H2 := H1.drewN nq
                        obtain ⟨w3, hw3⟩ : ∃ w3, w3 = wo.drewN nq := ⟨_, rfl⟩
                        rw [← hw3] at H2 ⊢
                        clear hw3 b0
                        have b0 := H2.cells 0 rfl
                        simp only [cellsAre, and_true, Nat.zero_add] at b0
                        go_wp2
                        go_ret
                        refine ⟨?_, H2.none⟩
                        rw [HFX.out, HNT.out, HNE.out, HV.out]
                        rfl
end Go.Proofs.Ytogndpckiognjaa
