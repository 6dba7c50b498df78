/- Names: NamesFound. -/
import Derived.Test.YtogndpckiognjaaNmU
import Derived.Test.YtogndpckiognjaaNmK3
namespace Go.Proofs.Ytogndpckiognjaa
open Go.RowKit
set_option linter.unusedVariables false
set_option linter.unusedSimpArgs false
set_option maxHeartbeats 2000000
theorem nodup_ne {l : List ByteArray} (h : l.Nodup) {i k : Nat} {x y : ByteArray} (hi : l[i]? = some x) (hk : l[k]? = some y) (hlt : k < i) : ¬ x = y := by
  rintro rfl
  obtain ⟨h1, e1⟩ := List.getElem?_eq_some_iff.1 hi
  obtain ⟨h2, e2⟩ := List.getElem?_eq_some_iff.1 hk
  have := (List.getElem_inj (h₀ := h1) (h₁ := h2) h).1 (e1.trans e2.symm)
  omega
set_option maxRecDepth 100000 in
theorem namesFound_calls (h : SrcH) (s : Src) (w : World) (R : RdSrc w h s) (ok : s.Ok) :
    Calls Try.prog 3 #[h.val] w fun e w' => e = .returned (.bool true) ∧ Mem w w' [] := by
  have HR := hid R
  have HO := hid ok
  have lg := ok.globals
  have la := ok.arrays
  have lc := ok.channels
  have lf := ok.funcs
  have hgn : h.g.n = s.globals.length := R.globals.n
  have han : h.a.n = s.arrays.length := R.arrays.n
  have hcn : h.c.n = s.channels.length := R.channels.n
  have hfn : h.f.n = s.funcs.length := by rw [R.funcs.hdr.n, R.funcs.len]
  have HN := hid (And.intro hgn (And.intro han (And.intro hcn hfn)))
  have hval : h.val = .agg #[.slice h.p.A h.p.n h.p.c, .slice h.g.A h.g.n h.g.c, .slice h.a.A h.a.n h.a.c, .slice h.c.A h.c.n h.c.c, .slice h.f.A h.f.n h.f.c] := rfl
  have hr := flt_neq
  have hq := flt_eqGuard
  obtain ⟨f0, f1, f2, hfe⟩ : ∃ a b c, checkF s = (a, b, c) := ⟨_, _, _, rfl⟩
  have HFE := hid hfe
  have LS := hid (fun (w' : World) (hb : Below w.heap.size w w') => lentSource_calls h s w' (R.below hb) ok)
  have H0 := Mem.refl w
  rw [hval]
  clear R ok hgn han hcn hfn hval hfe
  go_enter Try.func3, Try.ntmps3
  by_cases hz : f0 = 0 ∧ f1 = 0 ∧ f2 = 0
  · obtain ⟨rfl, rfl, rfl⟩ := hz
    have HZ := hid (check_zero (s := s) (by rw [HFE.out]))
    go_upto_region 5 with (first
      | ((with_reducible refine at_box ?_); refine wpList_box_box H0 ?_; intro u_ gH1 wH1 hu_ H1; simp only [Act.eval, Act.put, List.setIfInBounds_toArray, List.set_cons_zero, List.set_cons_succ, Array.getD_eq_getD_getElem?, List.getElem?_toArray, List.getElem?_cons_zero, List.getElem?_cons_succ, Option.getD_some] at hu_; subst hu_; simp only [splice, vcells_int, vcells_bool, vcells_string, vcells_pointer, vcells_slice, vcells_map, vcells_func, vcells_nilFunc, vcells_iface, vcells_nilIface, vcells_agg, List.take_zero, List.take_succ_cons, List.drop_zero, List.drop_succ_cons, List.length_cons, List.length_nil, List.nil_append, List.cons_append, List.append_nil, Nat.zero_add, List.set_cons_zero, List.set_cons_succ] at H1; (try clear b0); have b0 := H1.cells 0 rfl; simp only [cellsAre, and_true, Nat.zero_add] at b0)
      | ((go_at_call 5; (with_reducible refine (known_calls _).mono ?_); rintro e w2 ⟨rfl, H2'⟩; have H2 := H1.call H2'; simp only [List.nil_append] at H2; clear b0); (try clear b0); have b0 := H2.cells 0 rfl; simp only [cellsAre, and_true, Nat.zero_add] at b0)
      | (go_at_call 7; (with_reducible refine (LS.out _ H2.below).mono ?_); rintro e w3 ⟨h3, rfl, H3'⟩; have R3 := hid (LSrc.rd (H3'.ft 0 rfl)); have H3 := H2.call H3'; simp only [List.cons_append, List.nil_append] at H3; clear b0)
      | ((go_at_call 6; (with_reducible refine (check_calls h3 s _ R3.out HO.out).mono ?_); rw [HFE.out]; rintro e w4 ⟨rfl, H4'⟩; have H4 := H3.call H4'; simp only [List.nil_append] at H4)))
    (try simp only [Act.put, List.setIfInBounds_toArray, List.set_cons_zero, List.set_cons_succ])
    have H5 := H4.drop 0
    simp only [List.eraseIdx_cons_zero] at H5
    have H6 := (H5.nilrow 9 1).mv 1 rfl
    simp only [List.eraseIdx_cons_succ, List.eraseIdx_cons_zero] at H6
    have H6 : Mem w w4 [srcB gH1 h, own Enc.str 9 none 0 []] := H6
    clear H0 H1 H2 H3 H4 H5 H2' H3' H4' R3 hr hq
    go_wp2
    go_loopw [3, 4] (fun v3 v wr => ∃ (i : Nat) (A3 : Option Addr) (c3 : Nat) (xs : List ByteArray), v = .int .i64 i ∧ v3 = .slice A3 xs.length c3 ∧ i ≤ s.globals.length ∧ xs.length ≤ 2000000 ∧ Hd (xs = (s.globals.take i).map (·.name)) ∧ Mem w wr [srcB gH1 h, own Enc.str 9 A3 c3 xs]) (fun _ v _ => s.globals.length - (intOf v).toNat)
    case atStart => exact ⟨0, _, _, _, rfl, rfl, Nat.zero_le _, by simp, ⟨by simp⟩, H6⟩
    case round =>
      obtain ⟨i, A3, c3, xs, rfl, rfl, hi, hxl, HX, H1⟩ := hrel
      obtain ⟨w1, rfl⟩ : ∃ wo : World, wo = wr := ⟨_, rfl⟩
      have b0 := H1.cells 0 rfl
      simp only [cellsAre, and_true, Nat.zero_add] at b0
      rw [HN.out.1, HN.out.2.1, HN.out.2.2.1, HN.out.2.2.2] at b0
      by_cases hlt : i < s.globals.length
      · obtain ⟨d, hd⟩ : ∃ p, s.globals[i]? = some p := ⟨_, List.getElem?_eq_getElem hlt⟩
        obtain ⟨fb, fo, hA, p0, p1⟩ := HR.out.globals.rd.get2 rfl hd rfl
        have e0 := H1.old p0
        have e1 := H1.old p1
        rw [hA] at b0
        have HD := hid hd
        clear hd hA p0 p1
        go_wp2_with (first
          | ((with_reducible refine at_build1 ?_); refine wpList_build1 elt_str H1 rfl rfl (by decide) ?_; intro u_ gH2 wH2 hu_ H2; simp only [Act.eval, Act.put, List.setIfInBounds_toArray, List.set_cons_zero, List.set_cons_succ, Array.getD_eq_getD_getElem?, List.getElem?_toArray, List.getElem?_cons_zero, List.getElem?_cons_succ, Option.getD_some] at hu_; subst hu_; simp only [splice, vcells_int, vcells_bool, vcells_string, vcells_pointer, vcells_slice, vcells_map, vcells_func, vcells_nilFunc, vcells_iface, vcells_nilIface, vcells_agg, List.take_zero, List.take_succ_cons, List.drop_zero, List.drop_succ_cons, List.length_cons, List.length_nil, List.nil_append, List.cons_append, List.append_nil, Nat.zero_add, List.set_cons_zero, List.set_cons_succ] at H2)
          | ((with_reducible refine at_append ?_); refine wpList_append_own1 (E := Enc.str) elt_str H2 2 d.name rfl rfl rfl rfl (H2.rd 0 rfl elt_str.pos).1 (by omega) (by decide) ?_; intro AH3 cH3 wH3 H3; simp only [List.set_cons_zero, List.set_cons_succ] at H3; replace H3 := H3.drop 0; simp only [List.eraseIdx_cons_zero] at H3))
        go_roundw
        case rel =>
          have hx2 : xs ++ [d.name] = (s.globals.take (i + 1)).map (·.name) := by (rw [HX.out, map_take (·.name) HD.out]) <;> simp
          refine ⟨i + 1, AH3, cH3, xs ++ [d.name], by go_num, by rw [List.length_append]; rfl, by omega, ?_, ⟨hx2⟩, H3⟩
          rw [hx2]; simp; omega
        case measure => first | (simp [intOf]; done) | (simp [intOf]; omega)
      · obtain rfl : i = s.globals.length := by omega
        rw [List.take_length] at HX
        clear hlt hi
        go_wp2
        go_loopw [3, 5] (fun v3 v wr => ∃ (i : Nat) (A3 : Option Addr) (c3 : Nat) (xs : List ByteArray), v = .int .i64 i ∧ v3 = .slice A3 xs.length c3 ∧ i ≤ s.arrays.length ∧ xs.length ≤ 4000000 ∧ Hd (xs = s.globals.map (·.name) ++ (s.arrays.take i).map (·.name)) ∧ Mem w wr [srcB gH1 h, own Enc.str 9 A3 c3 xs]) (fun _ v _ => s.arrays.length - (intOf v).toNat)
        case atStart => exact ⟨0, _, _, _, rfl, rfl, Nat.zero_le _, by omega, ⟨by rw [HX.out]; simp⟩, H1⟩
        case round =>
          obtain ⟨i, A3, c3, xs, rfl, rfl, hi, hxl, HX, H1⟩ := hrel
          obtain ⟨w1, rfl⟩ : ∃ wo : World, wo = wr := ⟨_, rfl⟩
          have b0 := H1.cells 0 rfl
          simp only [cellsAre, and_true, Nat.zero_add] at b0
          rw [HN.out.1, HN.out.2.1, HN.out.2.2.1, HN.out.2.2.2] at b0
          by_cases hlt : i < s.arrays.length
          · obtain ⟨d, hd⟩ : ∃ p, s.arrays[i]? = some p := ⟨_, List.getElem?_eq_getElem hlt⟩
            obtain ⟨fb, fo, hA, p0, p1, p2⟩ := HR.out.arrays.rd.get3 rfl hd rfl
            have e0 := H1.old p0
            have e1 := H1.old p1
            have e2 := H1.old p2
            rw [hA] at b0
            have HD := hid hd
            clear hd hA p0 p1 p2
            go_wp2_with (first
              | ((with_reducible refine at_build1 ?_); refine wpList_build1 elt_str H1 rfl rfl (by decide) ?_; intro u_ gH2 wH2 hu_ H2; simp only [Act.eval, Act.put, List.setIfInBounds_toArray, List.set_cons_zero, List.set_cons_succ, Array.getD_eq_getD_getElem?, List.getElem?_toArray, List.getElem?_cons_zero, List.getElem?_cons_succ, Option.getD_some] at hu_; subst hu_; simp only [splice, vcells_int, vcells_bool, vcells_string, vcells_pointer, vcells_slice, vcells_map, vcells_func, vcells_nilFunc, vcells_iface, vcells_nilIface, vcells_agg, List.take_zero, List.take_succ_cons, List.drop_zero, List.drop_succ_cons, List.length_cons, List.length_nil, List.nil_append, List.cons_append, List.append_nil, Nat.zero_add, List.set_cons_zero, List.set_cons_succ] at H2)
              | ((with_reducible refine at_append ?_); refine wpList_append_own1 (E := Enc.str) elt_str H2 2 d.name rfl rfl rfl rfl (H2.rd 0 rfl elt_str.pos).1 (by omega) (by decide) ?_; intro AH3 cH3 wH3 H3; simp only [List.set_cons_zero, List.set_cons_succ] at H3; replace H3 := H3.drop 0; simp only [List.eraseIdx_cons_zero] at H3))
            go_roundw
            case rel =>
              have hx2 : xs ++ [d.name] = s.globals.map (·.name) ++ (s.arrays.take (i + 1)).map (·.name) := by (rw [HX.out, map_take (·.name) HD.out]) <;> simp
              refine ⟨i + 1, AH3, cH3, xs ++ [d.name], by go_num, by rw [List.length_append]; rfl, by omega, ?_, ⟨hx2⟩, H3⟩
              rw [hx2]; simp; omega
            case measure => first | (simp [intOf]; done) | (simp [intOf]; omega)
          · obtain rfl : i = s.arrays.length := by omega
            rw [List.take_length] at HX
            clear hlt hi
            go_wp2
            go_loopw [3, 6] (fun v3 v wr => ∃ (i : Nat) (A3 : Option Addr) (c3 : Nat) (xs : List ByteArray), v = .int .i64 i ∧ v3 = .slice A3 xs.length c3 ∧ i ≤ s.channels.length ∧ xs.length ≤ 6000000 ∧ Hd (xs = (s.globals.map (·.name) ++ s.arrays.map (·.name)) ++ (s.channels.take i).map (·.name)) ∧ Mem w wr [srcB gH1 h, own Enc.str 9 A3 c3 xs]) (fun _ v _ => s.channels.length - (intOf v).toNat)
            case atStart => exact ⟨0, _, _, _, rfl, rfl, Nat.zero_le _, by omega, ⟨by rw [HX.out]; simp⟩, H1⟩
            case round =>
              obtain ⟨i, A3, c3, xs, rfl, rfl, hi, hxl, HX, H1⟩ := hrel
              obtain ⟨w1, rfl⟩ : ∃ wo : World, wo = wr := ⟨_, rfl⟩
              have b0 := H1.cells 0 rfl
              simp only [cellsAre, and_true, Nat.zero_add] at b0
              rw [HN.out.1, HN.out.2.1, HN.out.2.2.1, HN.out.2.2.2] at b0
              by_cases hlt : i < s.channels.length
              · obtain ⟨d, hd⟩ : ∃ p, s.channels[i]? = some p := ⟨_, List.getElem?_eq_getElem hlt⟩
                obtain ⟨fb, fo, hA, p0, p1⟩ := HR.out.channels.rd.get2 rfl hd rfl
                have e0 := H1.old p0
                have e1 := H1.old p1
                rw [hA] at b0
                have HD := hid hd
                clear hd hA p0 p1
                go_wp2_with (first
                  | ((with_reducible refine at_build1 ?_); refine wpList_build1 elt_str H1 rfl rfl (by decide) ?_; intro u_ gH2 wH2 hu_ H2; simp only [Act.eval, Act.put, List.setIfInBounds_toArray, List.set_cons_zero, List.set_cons_succ, Array.getD_eq_getD_getElem?, List.getElem?_toArray, List.getElem?_cons_zero, List.getElem?_cons_succ, Option.getD_some] at hu_; subst hu_; simp only [splice, vcells_int, vcells_bool, vcells_string, vcells_pointer, vcells_slice, vcells_map, vcells_func, vcells_nilFunc, vcells_iface, vcells_nilIface, vcells_agg, List.take_zero, List.take_succ_cons, List.drop_zero, List.drop_succ_cons, List.length_cons, List.length_nil, List.nil_append, List.cons_append, List.append_nil, Nat.zero_add, List.set_cons_zero, List.set_cons_succ] at H2)
                  | ((with_reducible refine at_append ?_); refine wpList_append_own1 (E := Enc.str) elt_str H2 2 d.name rfl rfl rfl rfl (H2.rd 0 rfl elt_str.pos).1 (by omega) (by decide) ?_; intro AH3 cH3 wH3 H3; simp only [List.set_cons_zero, List.set_cons_succ] at H3; replace H3 := H3.drop 0; simp only [List.eraseIdx_cons_zero] at H3))
                go_roundw
                case rel =>
                  have hx2 : xs ++ [d.name] = (s.globals.map (·.name) ++ s.arrays.map (·.name)) ++ (s.channels.take (i + 1)).map (·.name) := by (rw [HX.out, map_take (·.name) HD.out]) <;> simp
                  refine ⟨i + 1, AH3, cH3, xs ++ [d.name], by go_num, by rw [List.length_append]; rfl, by omega, ?_, ⟨hx2⟩, H3⟩
                  rw [hx2]; simp; omega
                case measure => first | (simp [intOf]; done) | (simp [intOf]; omega)
              · obtain rfl : i = s.channels.length := by omega
                rw [List.take_length] at HX
                clear hlt hi
                go_wp2
                go_loopw [3, 7] (fun v3 v wr => ∃ (i : Nat) (A3 : Option Addr) (c3 : Nat) (xs : List ByteArray), v = .int .i64 i ∧ v3 = .slice A3 xs.length c3 ∧ i ≤ s.funcs.length ∧ xs.length ≤ 8000000 ∧ Hd (xs = (s.globals.map (·.name) ++ s.arrays.map (·.name) ++ s.channels.map (·.name)) ++ (s.funcs.take i).map (·.name)) ∧ Mem w wr [srcB gH1 h, own Enc.str 9 A3 c3 xs]) (fun _ v _ => s.funcs.length - (intOf v).toNat)
                case atStart => exact ⟨0, _, _, _, rfl, rfl, Nat.zero_le _, by omega, ⟨by rw [HX.out]; simp⟩, H1⟩
                case round =>
                  obtain ⟨i, A3, c3, xs, rfl, rfl, hi, hxl, HX, H1⟩ := hrel
                  obtain ⟨w1, rfl⟩ : ∃ wo : World, wo = wr := ⟨_, rfl⟩
                  have b0 := H1.cells 0 rfl
                  simp only [cellsAre, and_true, Nat.zero_add] at b0
                  rw [HN.out.1, HN.out.2.1, HN.out.2.2.1, HN.out.2.2.2] at b0
                  by_cases hlt : i < s.funcs.length
                  · obtain ⟨d, hd⟩ : ∃ p, s.funcs[i]? = some p := ⟨_, List.getElem?_eq_getElem hlt⟩
                    obtain ⟨fb, fo, hd', hA, -, -, p0, p1, p2, p3, p4, p5⟩ := HR.out.funcs.at' hd
                    have e0 := H1.old p0
                    have e1 := H1.old p1
                    have e2 := H1.old p2
                    have e3 := H1.old p3
                    have e4 := H1.old p4
                    have e5 := H1.old p5
                    rw [hA] at b0
                    have HD := hid hd
                    clear hd hA p0 p1 p2 p3 p4 p5
                    go_wp2_with (first
                      | ((with_reducible refine at_build1 ?_); refine wpList_build1 elt_str H1 rfl rfl (by decide) ?_; intro u_ gH2 wH2 hu_ H2; simp only [Act.eval, Act.put, List.setIfInBounds_toArray, List.set_cons_zero, List.set_cons_succ, Array.getD_eq_getD_getElem?, List.getElem?_toArray, List.getElem?_cons_zero, List.getElem?_cons_succ, Option.getD_some] at hu_; subst hu_; simp only [splice, vcells_int, vcells_bool, vcells_string, vcells_pointer, vcells_slice, vcells_map, vcells_func, vcells_nilFunc, vcells_iface, vcells_nilIface, vcells_agg, List.take_zero, List.take_succ_cons, List.drop_zero, List.drop_succ_cons, List.length_cons, List.length_nil, List.nil_append, List.cons_append, List.append_nil, Nat.zero_add, List.set_cons_zero, List.set_cons_succ] at H2)
                      | ((with_reducible refine at_append ?_); refine wpList_append_own1 (E := Enc.str) elt_str H2 2 d.name rfl rfl rfl rfl (H2.rd 0 rfl elt_str.pos).1 (by omega) (by decide) ?_; intro AH3 cH3 wH3 H3; simp only [List.set_cons_zero, List.set_cons_succ] at H3; replace H3 := H3.drop 0; simp only [List.eraseIdx_cons_zero] at H3))
                    go_roundw
                    case rel =>
                      have hx2 : xs ++ [d.name] = (s.globals.map (·.name) ++ s.arrays.map (·.name) ++ s.channels.map (·.name)) ++ (s.funcs.take (i + 1)).map (·.name) := by (rw [HX.out, map_take (·.name) HD.out]) <;> simp
                      refine ⟨i + 1, AH3, cH3, xs ++ [d.name], by go_num, by rw [List.length_append]; rfl, by omega, ?_, ⟨hx2⟩, H3⟩
                      rw [hx2]; simp; omega
                    case measure => first | (simp [intOf]; done) | (simp [intOf]; omega)
                  · obtain rfl : i = s.funcs.length := by omega
                    rw [List.take_length] at HX
                    clear hlt hi
                    have hall : xs = s.all := HX.out
                    have HALL := hid hall
                    clear hall
                    go_wp2
                    clear b0
                    go_loopw [8] (fun v wr => ∃ (f : Nat), v = .int .i64 f ∧ f ≤ s.funcs.length ∧ Mem w wr [srcB gH1 h, own Enc.str 9 A3 c3 xs]) (fun v _ => s.funcs.length - (intOf v).toNat)
                    case atStart => exact ⟨0, rfl, Nat.zero_le _, H1⟩
                    case round =>
                      clear H1
                      obtain ⟨f, rfl, hf, H1⟩ := hrel
                      obtain ⟨w1, rfl⟩ : ∃ wo : World, wo = wr := ⟨_, rfl⟩
                      have b0 := H1.cells 0 rfl
                      simp only [cellsAre, and_true, Nat.zero_add] at b0
                      rw [HN.out.1, HN.out.2.1, HN.out.2.2.1, HN.out.2.2.2] at b0
                      by_cases hlt : f < s.funcs.length
                      · obtain ⟨g, hg⟩ : ∃ p, s.funcs[f]? = some p := ⟨_, List.getElem?_eq_getElem hlt⟩
                        obtain ⟨fb, fo, hd, hA, -, RF, p0, p1, p2, p3, p4, p5⟩ := HR.out.funcs.at' hg
                        have og := HO.out.func g (List.mem_of_getElem? hg)
                        have hl1 := og.params
                        have hl2 := og.vars
                        have hl3 := og.body
                        have HOG := hid og
                        have HRF := hid RF
                        have FOK := hid (HZ.out f g hg)
                        have HA := hid hA
                        have PS := hid (And.intro p2 (And.intro p4 p5))
                        obtain ⟨bs, hbs⟩ := RF.body
                        have HBS := hid hbs
                        clear hg RF p0 p1 p2 p3 p4 p5 hA og hbs
                        rw [HA.out] at b0
                        have HXR := hid (H1.own_rd 1 rfl (by decide)).1
                        go_wp2_with (first
                          | ((with_reducible refine at_build0 ?_); refine wpList_build0 elt_str H1 ?_; intro gH2 wH2 H2)
                          | ((with_reducible refine at_append ?_); refine wpList_append_row rfl _ _ rfl elt_str H2 0 rfl rfl rfl (H2.own_rd 2 rfl (by decide)).1 (by unfold maxLen; omega) (by omega) ?_; intro A9 c9 w9 H3; simp only [List.set_cons_zero, Nat.zero_add, List.nil_append] at H3 ⊢))
                        have H4 := H3.mv 1 rfl
                        simp only [List.eraseIdx_cons_succ, List.eraseIdx_cons_zero] at H4
                        have H4 : Mem w w9 [srcB gH1 h, own Enc.str 9 A9 c9 xs, own Enc.str 9 A3 c3 xs] := H4
                        clear H2 H3 H1 b0 HXR
                        go_loopw [9, 10] (fun v9 v wr => ∃ (i : Nat) (A9 : Option Addr) (c9 : Nat) (ys : List ByteArray), v = .int .i64 i ∧ v9 = .slice A9 ys.length c9 ∧ i ≤ g.params.length ∧ ys.length ≤ 10000000 ∧ Hd (ys = xs ++ (g.params.take i).map (·.name)) ∧ Mem w wr [srcB gH1 h, own Enc.str 9 A9 c9 ys, own Enc.str 9 A3 c3 xs]) (fun _ v _ => g.params.length - (intOf v).toNat)
                        case atStart => exact ⟨0, _, _, _, rfl, rfl, Nat.zero_le _, by omega, ⟨by simp⟩, H4⟩
                        case round =>
                          (try clear H4)
                          obtain ⟨i, A9, c9, ys, rfl, rfl, hi, hyl, HY, H1⟩ := hrel
                          obtain ⟨w1, rfl⟩ : ∃ wo : World, wo = wr := ⟨_, rfl⟩
                          have b0 := H1.cells 0 rfl
                          simp only [cellsAre, and_true, Nat.zero_add] at b0
                          rw [HN.out.1, HN.out.2.1, HN.out.2.2.1, HN.out.2.2.2] at b0
                          rw [HA.out] at b0
                          have e2 := H1.old PS.out.1
                          by_cases hlt2 : i < g.params.length
                          · obtain ⟨d, hd2⟩ : ∃ p, g.params[i]? = some p := ⟨_, List.getElem?_eq_getElem hlt2⟩
                            obtain ⟨db, do_, hdA, q0, q1⟩ := HRF.out.params.rd.get2 rfl hd2 rfl
                            have d0 := H1.old q0
                            rw [hdA] at e2
                            have HD := hid hd2
                            clear hd2 hdA q0 q1
                            go_wp2_with (first
                              | ((with_reducible refine at_build1 ?_); refine wpList_build1 elt_str H1 rfl rfl (by decide) ?_; intro u_ gH2 wH2 hu_ H2; simp only [Act.eval, Act.put, List.setIfInBounds_toArray, List.set_cons_zero, List.set_cons_succ, Array.getD_eq_getD_getElem?, List.getElem?_toArray, List.getElem?_cons_zero, List.getElem?_cons_succ, Option.getD_some] at hu_; subst hu_; simp only [splice, vcells_int, vcells_bool, vcells_string, vcells_pointer, vcells_slice, vcells_map, vcells_func, vcells_nilFunc, vcells_iface, vcells_nilIface, vcells_agg, List.take_zero, List.take_succ_cons, List.drop_zero, List.drop_succ_cons, List.length_cons, List.length_nil, List.nil_append, List.cons_append, List.append_nil, Nat.zero_add, List.set_cons_zero, List.set_cons_succ] at H2)
                              | ((with_reducible refine at_append ?_); refine wpList_append_own1 (E := Enc.str) elt_str H2 2 d.name rfl rfl rfl rfl (H2.rd 0 rfl elt_str.pos).1 (by omega) (by decide) ?_; intro AH3 cH3 wH3 H3; simp only [List.set_cons_zero, List.set_cons_succ] at H3; replace H3 := H3.drop 0; simp only [List.eraseIdx_cons_zero] at H3))
                            go_roundw
                            case rel =>
                              have hx2 : ys ++ [d.name] = xs ++ (g.params.take (i + 1)).map (·.name) := by rw [HY.out, map_take (·.name) HD.out]; simp
                              refine ⟨i + 1, AH3, cH3, ys ++ [d.name], by go_num, by rw [List.length_append]; rfl, by omega, ?_, ⟨hx2⟩, H3⟩
                              rw [List.length_append]; simp only [List.length_singleton]; have := congrArg List.length HY.out; simp at this; omega
                            case measure => first | (simp [intOf]; done) | (simp [intOf]; omega)
                          · obtain rfl : i = g.params.length := by omega
                            rw [List.take_length] at HY
                            clear hlt2 hi
                            go_wp2
                            clear b0 e2
                            go_loopw [9, 11] (fun v9 v wr => ∃ (i : Nat) (A9 : Option Addr) (c9 : Nat) (ys : List ByteArray), v = .int .i64 i ∧ v9 = .slice A9 ys.length c9 ∧ i ≤ g.vars.length ∧ ys.length ≤ 12000000 ∧ Hd (ys = (xs ++ g.params.map (·.name)) ++ (g.vars.take i).map (·.name)) ∧ Mem w wr [srcB gH1 h, own Enc.str 9 A9 c9 ys, own Enc.str 9 A3 c3 xs]) (fun _ v _ => g.vars.length - (intOf v).toNat)
                            case atStart => exact ⟨0, _, _, _, rfl, rfl, Nat.zero_le _, by omega, ⟨by rw [HY.out]; simp⟩, H1⟩
                            case round =>
                              (try clear H4)
                              obtain ⟨i, A9, c9, ys, rfl, rfl, hi, hyl, HY, H1⟩ := hrel
                              obtain ⟨w1, rfl⟩ : ∃ wo : World, wo = wr := ⟨_, rfl⟩
                              have b0 := H1.cells 0 rfl
                              simp only [cellsAre, and_true, Nat.zero_add] at b0
                              rw [HN.out.1, HN.out.2.1, HN.out.2.2.1, HN.out.2.2.2] at b0
                              rw [HA.out] at b0
                              have e4 := H1.old PS.out.2.1
                              by_cases hlt2 : i < g.vars.length
                              · obtain ⟨d, hd2⟩ : ∃ p, g.vars[i]? = some p := ⟨_, List.getElem?_eq_getElem hlt2⟩
                                obtain ⟨db, do_, hdA, q0, q1⟩ := HRF.out.vars.rd.get2 rfl hd2 rfl
                                have d0 := H1.old q0
                                rw [hdA] at e4
                                have HD := hid hd2
                                clear hd2 hdA q0 q1
                                go_wp2_with (first
                                  | ((with_reducible refine at_build1 ?_); refine wpList_build1 elt_str H1 rfl rfl (by decide) ?_; intro u_ gH2 wH2 hu_ H2; simp only [Act.eval, Act.put, List.setIfInBounds_toArray, List.set_cons_zero, List.set_cons_succ, Array.getD_eq_getD_getElem?, List.getElem?_toArray, List.getElem?_cons_zero, List.getElem?_cons_succ, Option.getD_some] at hu_; subst hu_; simp only [splice, vcells_int, vcells_bool, vcells_string, vcells_pointer, vcells_slice, vcells_map, vcells_func, vcells_nilFunc, vcells_iface, vcells_nilIface, vcells_agg, List.take_zero, List.take_succ_cons, List.drop_zero, List.drop_succ_cons, List.length_cons, List.length_nil, List.nil_append, List.cons_append, List.append_nil, Nat.zero_add, List.set_cons_zero, List.set_cons_succ] at H2)
                                  | ((with_reducible refine at_append ?_); refine wpList_append_own1 (E := Enc.str) elt_str H2 2 d.name rfl rfl rfl rfl (H2.rd 0 rfl elt_str.pos).1 (by omega) (by decide) ?_; intro AH3 cH3 wH3 H3; simp only [List.set_cons_zero, List.set_cons_succ] at H3; replace H3 := H3.drop 0; simp only [List.eraseIdx_cons_zero] at H3))
                                go_roundw
                                case rel =>
                                  have hx2 : ys ++ [d.name] = (xs ++ g.params.map (·.name)) ++ (g.vars.take (i + 1)).map (·.name) := by rw [HY.out, map_take (·.name) HD.out]; simp
                                  refine ⟨i + 1, AH3, cH3, ys ++ [d.name], by go_num, by rw [List.length_append]; rfl, by omega, ?_, ⟨hx2⟩, H3⟩
                                  rw [List.length_append]; simp only [List.length_singleton]; have := congrArg List.length HY.out; simp at this; omega
                                case measure => first | (simp [intOf]; done) | (simp [intOf]; omega)
                              · obtain rfl : i = g.vars.length := by omega
                                rw [List.take_length] at HY
                                clear hlt2 hi
                                skip
                                have hys : Good ys := by
                                  have h1 := FOK.out.names
                                  rw [HY.out, HALL.out]
                                  simpa [FDecl.locals] using h1
                                have HYG := hid hys
                                have HYS : Hd (∀ y ∈ ys, y.size ≤ 2000000) := ⟨by
                                  rw [HY.out, HALL.out]
                                  intro y hy
                                  simp only [Src.all, List.mem_append, List.mem_map] at hy
                                  rcases hy with (((((⟨d, h1, rfl⟩ | ⟨d, h1, rfl⟩) | ⟨d, h1, rfl⟩) | ⟨d, h1, rfl⟩)) | ⟨d, h1, rfl⟩) | ⟨d, h1, rfl⟩
                                  · exact HO.out.global d h1
                                  · exact HO.out.array d h1
                                  · exact HO.out.channel d h1
                                  · exact (HO.out.func d h1).name
                                  · exact HOG.out.param d h1
                                  · exact HOG.out.var d h1⟩
                                clear hys HY
                                go_wp2
                                clear b0 e4
                                go_loopw [12] (fun v wr => ∃ (i : Nat), v = .int .i64 i ∧ i ≤ ys.length ∧ Mem w wr [srcB gH1 h, own Enc.str 9 A9 c9 ys, own Enc.str 9 A3 c3 xs]) (fun v _ => ys.length - (intOf v).toNat)
                                case atStart => exact ⟨0, rfl, Nat.zero_le _, H1⟩
                                case round =>
                                  clear H1
                                  obtain ⟨i, rfl, hi, H1⟩ := hrel
                                  obtain ⟨w1, rfl⟩ : ∃ wo : World, wo = wr := ⟨_, rfl⟩
                                  by_cases hlt2 : i < ys.length
                                  · obtain ⟨y, hy⟩ : ∃ p, ys[i]? = some p := ⟨_, List.getElem?_eq_getElem hlt2⟩
                                    have hys := HYS.out y (List.mem_of_getElem? hy)
                                    have HYO := hid (HYG.out.2 y (List.mem_of_getElem? hy))
                                    have HYI := hid hy
                                    clear hy
                                    go_wp2
                                    go_loopw [13] (fun v wr => ∃ (k : Nat), v = .int .i64 k ∧ k ≤ i ∧ Mem w wr [srcB gH1 h, own Enc.str 9 A9 c9 ys, own Enc.str 9 A3 c3 xs]) (fun v _ => i - (intOf v).toNat)
                                    case atStart => exact ⟨0, rfl, Nat.zero_le _, H1⟩
                                    case round =>
                                      clear H1
                                      obtain ⟨k, rfl, hk, H1⟩ := hrel
                                      obtain ⟨w2, rfl⟩ : ∃ wo : World, wo = wr := ⟨_, rfl⟩
                                      by_cases hki : k < i
                                      · obtain ⟨z, hz⟩ : ∃ p, ys[k]? = some p := ⟨_, List.getElem?_eq_getElem (by omega)⟩
                                        have hne := sNe (nodup_ne HYG.out.1 HYI.out hz hki)
                                        obtain ⟨yb, yo, hyA, q0⟩ := (H1.own_rd 1 rfl (by decide)).1.get1 rfl HYI.out rfl
                                        obtain ⟨yb', yo', hyA', q1⟩ := (H1.own_rd 1 rfl (by decide)).1.get1 rfl hz rfl
                                        obtain ⟨rfl, rfl⟩ : yb = yb' ∧ yo = yo' := by rw [hyA] at hyA'; simpa using hyA'
                                        subst hyA
                                        have i1 : (i : Int) < (ys.length : Int) := by omega
                                        have i2 : (k : Int) < (ys.length : Int) := by omega
                                        have i3 : (k : Int) < (i : Int) := by omega
                                        clear hz hyA'
                                        go_wp2
                                        go_quiet (fail)
                                        have H2 := H1.drewN nq
                                        obtain ⟨w3, hw3⟩ : ∃ w3, w3 = w2.drewN nq := ⟨_, rfl⟩
                                        rw [← hw3] at H2 ⊢
                                        clear hw3 q0 q1
                                        go_wp2
                                        go_roundw
                                        case rel => exact ⟨k + 1, by go_num, by omega, H2⟩
                                        case measure => first | (simp [intOf]; done) | (simp [intOf]; omega)
                                      · obtain rfl : k = i := by omega
                                        obtain ⟨yb, yo, hyA, q0⟩ := (H1.own_rd 1 rfl (by decide)).1.get1 rfl HYI.out rfl
                                        subst hyA
                                        go_wp2_with (first | (go_at_call 8; (with_reducible refine (name_is y _ true HYO.out hys).mono ?_); rintro e w3 ⟨rfl, H2'⟩; have H2 := H1.call H2'; simp only [List.nil_append] at H2))
                                        go_roundw
                                        case rel => exact ⟨k + 1, by go_num, by omega, H2⟩
                                        case measure => first | (simp [intOf]; done) | (simp [intOf]; omega)
                                  · obtain rfl : i = ys.length := by omega
                                    clear hlt2 hi
                                    go_wp2
                                    go_loopw [14] (fun v wr => ∃ (i : Nat), v = .int .i64 i ∧ i ≤ g.body.length ∧ Mem w wr [srcB gH1 h, own Enc.str 9 A3 c3 xs]) (fun v _ => g.body.length - (intOf v).toNat)
                                    case atStart => exact ⟨0, rfl, Nat.zero_le _, by have H2 := H1.drop 1; simp only [List.eraseIdx_cons_succ, List.eraseIdx_cons_zero] at H2; exact H2⟩
                                    case round =>
                                      clear H1
                                      obtain ⟨i, rfl, hi, H1⟩ := hrel
                                      obtain ⟨w2, rfl⟩ : ∃ wo : World, wo = wr := ⟨_, rfl⟩
                                      have b0 := H1.cells 0 rfl
                                      simp only [cellsAre, and_true, Nat.zero_add] at b0
                                      rw [HN.out.1, HN.out.2.1, HN.out.2.2.1, HN.out.2.2.2] at b0
                                      rw [HA.out] at b0
                                      have e5 := H1.old PS.out.2.2
                                      by_cases hib : i < g.body.length
                                      · obtain ⟨st, hst⟩ : ∃ p, g.body[i]? = some p := ⟨_, List.getElem?_eq_getElem hib⟩
                                        obtain ⟨bb, bo, sh, hbA, -, RS, q0, q1, q2, q3⟩ := HBS.out.at' hst
                                        obtain ⟨hfit, hlong, huse⟩ := FOK.out.body st (List.mem_of_getElem? hst)
                                        have hle := long_false hlong
                                        have ost := HOG.out.stmt st (List.mem_of_getElem? hst)
                                        have HFIT := hid hfit
                                        have HUSE := hid huse
                                        have HOS := hid ost
                                        have HRS := hid RS
                                        have HLE := hid hle
                                        have d0 := H1.old q0
                                        have d1 := H1.old q1
                                        have d2 := H1.old q2
                                        have d3 := H1.old q3
                                        rw [hbA] at e5
                                        have hul : (useL st).length ≤ 2000400 := by
                                          have h1 := ost.targets
                                          have h2 : (ukind st).length ≤ 1 := by unfold ukind; split <;> simp
                                          have h3 := flat_bound (fun e : List Term => e.flatMap uterm) 48 st.exprs fun e he => by
                                            have h4 := flat_bound uterm 1 e fun t _ => uterm_len t
                                            have h5 := hle.2 e he
                                            omega
                                          have h6 := Nat.mul_le_mul_right 48 hle.1
                                          unfold useL
                                          simp only [List.length_append, List.length_map]
                                          omega
                                        clear hst hbA RS q0 q1 q2 q3 hfit hlong huse hle ost
                                        go_wp2_with (first
                                          | ((with_reducible refine at_alloc ?_); refine wpList_alloc_box H1 (.agg #[.int .i64 0, .string ByteArray.empty, .slice none 0 0, .slice none 0 0]) (by kernel_rfl) ?_; intro gH2 wH2 H2; simp only [splice, vcells_int, vcells_bool, vcells_string, vcells_pointer, vcells_slice, vcells_map, vcells_func, vcells_nilFunc, vcells_iface, vcells_nilIface, vcells_agg, List.take_zero, List.take_succ_cons, List.drop_zero, List.drop_succ_cons, List.length_cons, List.length_nil, List.nil_append, List.cons_append, List.append_nil, Nat.zero_add, List.set_cons_zero, List.set_cons_succ] at H2)
                                          | (((with_reducible refine at_store ?_); refine wpList_store_box H2 0 4 rfl rfl (by kernel_rfl) rfl (Nat.le_of_ble_eq_true rfl) rfl ?_; intro u_ wH3 hu_ H3; simp only [Act.eval, Act.put, List.setIfInBounds_toArray, List.set_cons_zero, List.set_cons_succ, Array.getD_eq_getD_getElem?, List.getElem?_toArray, List.getElem?_cons_zero, List.getElem?_cons_succ, Option.getD_some] at hu_; subst hu_; simp only [splice, vcells_int, vcells_bool, vcells_string, vcells_pointer, vcells_slice, vcells_map, vcells_func, vcells_nilFunc, vcells_iface, vcells_nilIface, vcells_agg, List.take_zero, List.take_succ_cons, List.drop_zero, List.drop_succ_cons, List.length_cons, List.length_nil, List.nil_append, List.cons_append, List.append_nil, Nat.zero_add, List.set_cons_zero, List.set_cons_succ] at H3; (try clear b1); have b1 := H3.cells 0 rfl; simp only [cellsAre, and_true, Nat.zero_add] at b1); clear b0 e5 d0 d1 d2 d3)
                                          | ((go_at_call 9; (with_reducible refine (kinds_calls sh st _ (HRS.out.below H3.below) HOS.out HLE.out.1 HLE.out.2).mono ?_); rintro e w4 ⟨A16, c16, A17, c17, rfl, H4'⟩; have H4 := H3.call H4'; simp only [List.cons_append, List.nil_append] at H4; clear b1)))
                                        have H5 := ((H4.mv 2 rfl).mv 4 rfl).mv 4 rfl
                                        simp only [List.eraseIdx_cons_succ, List.eraseIdx_cons_zero] at H5
                                        have H5 : Mem w w4 [srcB gH1 h, own Enc.str 9 A3 c3 xs, stB gH2 sh st, own Enc.str 9 A16 c16 (uN (useL st)), own Enc.pair 55 A17 c17 (uK (useL st))] := H5
                                        clear H1 H2 H3 H4 H4'
                                        obtain ⟨U, hU⟩ : ∃ U, useL st = U := ⟨_, rfl⟩
                                        rw [hU] at H5 hul HUSE ⊢
                                        have HU := hid hU
                                        clear hU
                                        go_loopw [18] (fun v wr => ∃ (q : Nat), v = .int .i64 q ∧ q ≤ U.length ∧ Mem w wr [srcB gH1 h, own Enc.str 9 A3 c3 xs, stB gH2 sh st, own Enc.str 9 A16 c16 (uN U), own Enc.pair 55 A17 c17 (uK U)]) (fun v _ => U.length - (intOf v).toNat)
                                        case atStart => exact ⟨0, rfl, Nat.zero_le _, H5⟩
                                        case round =>
                                          clear H5
                                          obtain ⟨q, rfl, hq, H1⟩ := hrel
                                          obtain ⟨w5, rfl⟩ : ∃ wo : World, wo = wr := ⟨_, rfl⟩
                                          by_cases hqu : q < U.length
                                          · obtain ⟨u, hu⟩ : ∃ p, U[q]? = some p := ⟨_, List.getElem?_eq_getElem hqu⟩
                                            obtain ⟨un, k0, k1⟩ := u
                                            have hn1 : (uN U)[q]? = some un := by unfold uN; rw [List.getElem?_map, hu]; rfl
                                            have hn2 : (uK U)[q]? = some (k0, k1) := by unfold uK; rw [List.getElem?_map, hu]; rfl
                                            obtain ⟨hok, hkd⟩ := HUSE.out _ (List.mem_of_getElem? hu)
                                            obtain ⟨ub, uo, hyA, -⟩ := (H1.own_rd 3 rfl (by decide)).1.get1 rfl hn1 rfl
                                            obtain ⟨pb, po, hyB, -, -⟩ := (H1.own_rd 4 rfl (by decide)).1.get2 rfl hn2 rfl
                                            subst hyA hyB
                                            obtain ⟨r0, r1, r2, hq9⟩ : ∃ r0 r1 r2, s.find f un = (r0, r1, r2) := ⟨_, _, _, rfl⟩
                                            rw [hq9] at hok hkd
                                            simp only at hok hkd
                                            subst hok
                                            have HQ := hid hq9
                                            have HN1 := hid hn1
                                            have HN2 := hid hn2
                                            have HKD := hid hkd
                                            have hqi : (q : Int) < (U.length : Int) := by omega
                                            clear hn1 hn2 hkd hq9 hu
                                            go_upto_region 52 with (fail)
                                            go_cut [19, 20] from 207 to 216 (fun v19 v20 wc => ∃ g19, v19 = pt g19 ∧ v20 = .bool true ∧ Mem w wc [srcB gH1 h, own Enc.str 9 A3 c3 xs, stB gH2 sh st, own Enc.str 9 (some ⟨ub, uo, none⟩) c16 (uN U), own Enc.pair 55 (some ⟨pb, po, none⟩) c17 (uK U), box g19 52 #[.int .i64 r0, .int .i64 r1]])
                                            case first =>
                                              refine wp_region_B (fun _ => false) (fun w' => w'.cell? ⟨gH1, 0, none⟩ = some (.slice h.p.A h.p.n h.p.c) ∧ w'.cell? ⟨gH1, 1, none⟩ = some (.slice h.g.A h.g.n h.g.c) ∧ w'.cell? ⟨gH1, 2, none⟩ = some (.slice h.a.A h.a.n h.a.c) ∧ w'.cell? ⟨gH1, 3, none⟩ = some (.slice h.c.A h.c.n h.c.c) ∧ w'.cell? ⟨gH1, 4, none⟩ = some (.slice h.f.A h.f.n h.f.c) ∧ w'.cell? ⟨ub, uo + q, none⟩ = some (.string un)) (by kernel_rfl) ?_
                                              have H5 := H1.drew
                                              obtain ⟨w6, hw⟩ : ∃ wq, wq = w5.drew := ⟨_, rfl⟩
                                              rw [← hw] at H5 ⊢
                                              clear hw
                                              have hS : w6.cell? ⟨gH1, 0, none⟩ = some (.slice h.p.A h.p.n h.p.c) ∧ w6.cell? ⟨gH1, 1, none⟩ = some (.slice h.g.A h.g.n h.g.c) ∧ w6.cell? ⟨gH1, 2, none⟩ = some (.slice h.a.A h.a.n h.a.c) ∧ w6.cell? ⟨gH1, 3, none⟩ = some (.slice h.c.A h.c.n h.c.c) ∧ w6.cell? ⟨gH1, 4, none⟩ = some (.slice h.f.A h.f.n h.f.c) ∧ w6.cell? ⟨ub, uo + q, none⟩ = some (.string un) := by
                                                    have hh := (H5.box_cell 0 rfl).1
                                                    exact ⟨by simpa using hh 0, by simpa using hh 1, by simpa using hh 2, by simpa using hh 3, by simpa using hh 4, (H5.own_get1 3 rfl rfl HN1.out rfl).1⟩
                                              refine wpAnyB_take' (i := 0) (v := h.val) rfl (by kernel_rfl) (by kernel_rfl) rfl (by kernel_rfl) (by kernel_rfl) (fun _ _ _ h => h) (by rfl) hS (by intro w' hS'; obtain ⟨k1, k2, k3, k4, k5, k6⟩ := hS'; first | (go_simp; done) | (go_simp; rfl) | (go_simp; omega) | (go_simp; assumption)) ?_
                                              simp only [Act.put, List.setIfInBounds_toArray, List.set_cons_zero, List.set_cons_succ]
                                              refine wpAnyB_take' (i := 1) (v := I (f : Int)) rfl (by kernel_rfl) (by kernel_rfl) rfl (by kernel_rfl) (by kernel_rfl) (fun _ _ _ h => h) (by rfl) hS (by intro w' hS'; obtain ⟨k1, k2, k3, k4, k5, k6⟩ := hS'; first | (go_simp; done) | (go_simp; rfl) | (go_simp; omega) | (go_simp; assumption)) ?_
                                              simp only [Act.put, List.setIfInBounds_toArray, List.set_cons_zero, List.set_cons_succ]
                                              refine wpAnyB_take' (i := 2) (v := .slice (some ⟨ub, uo, none⟩) U.length c16) rfl (by kernel_rfl) (by kernel_rfl) rfl (by kernel_rfl) (by kernel_rfl) (fun _ _ _ h => h) (by rfl) hS (by intro w' hS'; obtain ⟨k1, k2, k3, k4, k5, k6⟩ := hS'; first | (go_simp; done) | (go_simp; rfl) | (go_simp; omega) | (go_simp; assumption)) ?_
                                              simp only [Act.put, List.setIfInBounds_toArray, List.set_cons_zero, List.set_cons_succ]
                                              refine wpAnyB_take' (i := 3) (v := I (q : Int)) rfl (by kernel_rfl) (by kernel_rfl) rfl (by kernel_rfl) (by kernel_rfl) (fun _ _ _ h => h) (by rfl) hS (by intro w' hS'; obtain ⟨k1, k2, k3, k4, k5, k6⟩ := hS'; first | (go_simp; done) | (go_simp; rfl) | (go_simp; omega) | (go_simp; assumption)) ?_
                                              simp only [Act.put, List.setIfInBounds_toArray, List.set_cons_zero, List.set_cons_succ]
                                              refine wpAnyB_take' (i := 4) (v := .pointer (some ⟨ub, uo + q, none⟩)) rfl (by kernel_rfl) (by kernel_rfl) rfl (by kernel_rfl) (by kernel_rfl) (fun _ _ _ h => h) (by rfl) hS (by intro w' hS'; obtain ⟨k1, k2, k3, k4, k5, k6⟩ := hS'; first | (go_simp; done) | (go_simp; rfl) | (go_simp; omega) | (go_simp; assumption)) ?_
                                              simp only [Act.put, List.setIfInBounds_toArray, List.set_cons_zero, List.set_cons_succ]
                                              refine wpAnyB_take' (i := 5) (v := .string un) rfl (by kernel_rfl) (by kernel_rfl) rfl (by kernel_rfl) (by kernel_rfl) (fun _ _ _ h => h) (by rfl) hS (by intro w' hS'; obtain ⟨k1, k2, k3, k4, k5, k6⟩ := hS'; first | (go_simp; done) | (go_simp; rfl) | (go_simp; omega) | (go_simp; assumption)) ?_
                                              simp only [Act.put, List.setIfInBounds_toArray, List.set_cons_zero, List.set_cons_succ]
                                              refine wpAnyB_two (i := 6) (j := 10) (by kernel_rfl) ?_ ?_
                                              · refine wpOp_call rfl (by kernel_rfl) (by first | rfl | (go_simp; done) | (go_simp; rfl)) (find_calls h s (f : Int) un w6 (HR.out.below H5.below) HO.out) ?_
                                                rintro e w7 ⟨rfl, H6'⟩
                                                rw [HQ.out]
                                                have H6 := H5.call H6'
                                                simp only [List.nil_append] at H6
                                                clear hS
                                                have hS : w7.cell? ⟨gH1, 0, none⟩ = some (.slice h.p.A h.p.n h.p.c) ∧ w7.cell? ⟨gH1, 1, none⟩ = some (.slice h.g.A h.g.n h.g.c) ∧ w7.cell? ⟨gH1, 2, none⟩ = some (.slice h.a.A h.a.n h.a.c) ∧ w7.cell? ⟨gH1, 3, none⟩ = some (.slice h.c.A h.c.n h.c.c) ∧ w7.cell? ⟨gH1, 4, none⟩ = some (.slice h.f.A h.f.n h.f.c) ∧ w7.cell? ⟨ub, uo + q, none⟩ = some (.string un) := by
                                                      have hh := (H6.box_cell 0 rfl).1
                                                      exact ⟨by simpa using hh 0, by simpa using hh 1, by simpa using hh 2, by simpa using hh 3, by simpa using hh 4, (H6.own_get1 3 rfl rfl HN1.out rfl).1⟩
                                                refine ⟨_, rfl, fun _ => hS, ?_⟩
                                                simp only [Act.put, List.setIfInBounds_toArray, List.set_cons_zero, List.set_cons_succ]
                                                refine wpAnyB_take' (i := 7) (v := refV (r0, r1, true)) rfl (by kernel_rfl) (by kernel_rfl) rfl (by kernel_rfl) (by kernel_rfl) (fun _ _ _ h => h) (by rfl) hS (by intro w' hS'; obtain ⟨k1, k2, k3, k4, k5, k6⟩ := hS'; first | (go_simp; done) | (go_simp; rfl) | (go_simp; omega) | (go_simp; assumption)) ?_
                                                simp only [Act.put, List.setIfInBounds_toArray, List.set_cons_zero, List.set_cons_succ]
                                                refine wpAnyB_take' (i := 8) (v := .agg #[I r0, I r1]) rfl (by kernel_rfl) (by kernel_rfl) rfl (by kernel_rfl) (by kernel_rfl) (fun _ _ _ h => h) (by rfl) hS (by intro w' hS'; obtain ⟨k1, k2, k3, k4, k5, k6⟩ := hS'; first | (go_simp; done) | (go_simp; rfl) | (go_simp; omega) | (go_simp; assumption)) ?_
                                                simp only [Act.put, List.setIfInBounds_toArray, List.set_cons_zero, List.set_cons_succ]
                                                refine wpAnyB_take' (i := 9) (v := .bool true) rfl (by kernel_rfl) (by kernel_rfl) rfl (by kernel_rfl) (by kernel_rfl) (fun _ _ _ h => h) (by rfl) hS (by intro w' hS'; obtain ⟨k1, k2, k3, k4, k5, k6⟩ := hS'; first | (go_simp; done) | (go_simp; rfl) | (go_simp; omega) | (go_simp; assumption)) ?_
                                                simp only [Act.put, List.setIfInBounds_toArray, List.set_cons_zero, List.set_cons_succ]
                                                refine wpAnyB_do (i := 10) (v := pt w7.heap.size) (w1 := w7.alloc (.cells (Value.cells (.agg #[.int .i64 0, .int .i64 0])) 52)) rfl (by kernel_rfl) (by rfl) (run_exec_alloc rfl (by kernel_rfl)) ?_
                                                have H8 := H6.alloc 52 (Value.cells (.agg #[.int .i64 0, .int .i64 0]))
                                                obtain ⟨w8, hw5⟩ : ∃ y, y = w7.alloc (.cells (Value.cells (.agg #[.int .i64 0, .int .i64 0])) 52) := ⟨_, rfl⟩
                                                obtain ⟨g19, hg8⟩ : ∃ y, y = w7.heap.size := ⟨_, rfl⟩
                                                rw [← hw5, ← hg8] at H8 ⊢
                                                clear hw5 hg8 hS
                                                have hS : w8.cell? ⟨gH1, 0, none⟩ = some (.slice h.p.A h.p.n h.p.c) ∧ w8.cell? ⟨gH1, 1, none⟩ = some (.slice h.g.A h.g.n h.g.c) ∧ w8.cell? ⟨gH1, 2, none⟩ = some (.slice h.a.A h.a.n h.a.c) ∧ w8.cell? ⟨gH1, 3, none⟩ = some (.slice h.c.A h.c.n h.c.c) ∧ w8.cell? ⟨gH1, 4, none⟩ = some (.slice h.f.A h.f.n h.f.c) ∧ w8.cell? ⟨ub, uo + q, none⟩ = some (.string un) := by
                                                      have hh := (H8.box_cell 1 rfl).1
                                                      exact ⟨by simpa using hh 0, by simpa using hh 1, by simpa using hh 2, by simpa using hh 3, by simpa using hh 4, (H8.own_get1 4 rfl rfl HN1.out rfl).1⟩
                                                refine ⟨fun _ => hS, ?_⟩
                                                simp only [Act.put, List.setIfInBounds_toArray, List.set_cons_zero, List.set_cons_succ]
                                                refine wpAnyB_one' (i := 11) rfl (by kernel_rfl) ?_
                                                (with_reducible refine at_store ?_); refine wpList_store_box H8 0 2 rfl rfl (by kernel_rfl) rfl (Nat.le_of_ble_eq_true rfl) rfl ?_; intro u_ w9 hu_ H9
                                                simp only [splice, vcells, Act.eval, Act.put, List.setIfInBounds_toArray, List.set_cons_zero, List.set_cons_succ, Array.getD_eq_getD_getElem?, List.getElem?_toArray, List.getElem?_cons_zero, List.getElem?_cons_succ, Option.getD_some] at hu_; subst hu_; simp only [splice, vcells_agg, List.take_zero, List.drop_zero, List.length_cons, List.length_nil, List.nil_append, List.cons_append, Nat.zero_add, List.drop_succ_cons, List.append_nil, List.set_cons_zero] at H9
                                                have H10 := ((((H9.mv 5 rfl).mv 5 rfl).mv 5 rfl).mv 5 rfl).mv 5 rfl
                                                simp only [List.eraseIdx_cons_succ, List.eraseIdx_cons_zero] at H10
                                                refine wpList_nil ?_
                                                clear hS
                                                have hS : w9.cell? ⟨gH1, 0, none⟩ = some (.slice h.p.A h.p.n h.p.c) ∧ w9.cell? ⟨gH1, 1, none⟩ = some (.slice h.g.A h.g.n h.g.c) ∧ w9.cell? ⟨gH1, 2, none⟩ = some (.slice h.a.A h.a.n h.a.c) ∧ w9.cell? ⟨gH1, 3, none⟩ = some (.slice h.c.A h.c.n h.c.c) ∧ w9.cell? ⟨gH1, 4, none⟩ = some (.slice h.f.A h.f.n h.f.c) ∧ w9.cell? ⟨ub, uo + q, none⟩ = some (.string un) := by
                                                      have hh := (H10.box_cell 0 rfl).1
                                                      exact ⟨by simpa using hh 0, by simpa using hh 1, by simpa using hh 2, by simpa using hh 3, by simpa using hh 4, (H10.own_get1 3 rfl rfl HN1.out rfl).1⟩
                                                refine ⟨fun _ => hS, ?_⟩
                                                refine wpAnyB_take' (i := 12) (v := .bool true) rfl (by kernel_rfl) (by kernel_rfl) rfl (by kernel_rfl) (by kernel_rfl) (fun _ _ _ h => h) (by rfl) hS (by intro w' hS'; first | rfl | (go_simp; done) | (go_simp; rfl)) ?_
                                                simp only [Act.put, List.setIfInBounds_toArray, List.set_cons_zero, List.set_cons_succ]
                                                refine wpAnyB_done (by kernel_rfl) ?_ _
                                                go_wp2
                                                go_meet
                                                exact ⟨g19, rfl, rfl, H10⟩
                                              · refine wpOp_do (v := pt w6.heap.size) (w1 := w6.alloc (.cells (Value.cells (.agg #[.int .i64 0, .int .i64 0])) 52)) rfl (by kernel_rfl) (run_exec_alloc rfl (by kernel_rfl)) ?_
                                                have H6 := H5.alloc 52 (Value.cells (.agg #[.int .i64 0, .int .i64 0]))
                                                obtain ⟨w7, hw5⟩ : ∃ y, y = w6.alloc (.cells (Value.cells (.agg #[.int .i64 0, .int .i64 0])) 52) := ⟨_, rfl⟩
                                                obtain ⟨g19, hg8⟩ : ∃ y, y = w6.heap.size := ⟨_, rfl⟩
                                                rw [← hw5, ← hg8] at H6 ⊢
                                                clear hw5 hg8 hS
                                                have hS : w7.cell? ⟨gH1, 0, none⟩ = some (.slice h.p.A h.p.n h.p.c) ∧ w7.cell? ⟨gH1, 1, none⟩ = some (.slice h.g.A h.g.n h.g.c) ∧ w7.cell? ⟨gH1, 2, none⟩ = some (.slice h.a.A h.a.n h.a.c) ∧ w7.cell? ⟨gH1, 3, none⟩ = some (.slice h.c.A h.c.n h.c.c) ∧ w7.cell? ⟨gH1, 4, none⟩ = some (.slice h.f.A h.f.n h.f.c) ∧ w7.cell? ⟨ub, uo + q, none⟩ = some (.string un) := by
                                                      have hh := (H6.box_cell 1 rfl).1
                                                      exact ⟨by simpa using hh 0, by simpa using hh 1, by simpa using hh 2, by simpa using hh 3, by simpa using hh 4, (H6.own_get1 4 rfl rfl HN1.out rfl).1⟩
                                                refine ⟨fun _ => hS, ?_⟩
                                                simp only [Act.put, List.setIfInBounds_toArray, List.set_cons_zero, List.set_cons_succ]
                                                refine wpAnyB_one (i := 6) (by kernel_rfl) ?_
                                                refine wpOp_call rfl (by kernel_rfl) (by first | rfl | (go_simp; done) | (go_simp; rfl)) (find_calls h s (f : Int) un w7 (HR.out.below H6.below) HO.out) ?_
                                                rintro e w8 ⟨rfl, H8'⟩
                                                rw [HQ.out]
                                                have H8 := H6.call H8'
                                                simp only [List.nil_append] at H8
                                                clear hS
                                                have hS : w8.cell? ⟨gH1, 0, none⟩ = some (.slice h.p.A h.p.n h.p.c) ∧ w8.cell? ⟨gH1, 1, none⟩ = some (.slice h.g.A h.g.n h.g.c) ∧ w8.cell? ⟨gH1, 2, none⟩ = some (.slice h.a.A h.a.n h.a.c) ∧ w8.cell? ⟨gH1, 3, none⟩ = some (.slice h.c.A h.c.n h.c.c) ∧ w8.cell? ⟨gH1, 4, none⟩ = some (.slice h.f.A h.f.n h.f.c) ∧ w8.cell? ⟨ub, uo + q, none⟩ = some (.string un) := by
                                                      have hh := (H8.box_cell 1 rfl).1
                                                      exact ⟨by simpa using hh 0, by simpa using hh 1, by simpa using hh 2, by simpa using hh 3, by simpa using hh 4, (H8.own_get1 4 rfl rfl HN1.out rfl).1⟩
                                                refine ⟨_, rfl, fun _ => hS, ?_⟩
                                                simp only [Act.put, List.setIfInBounds_toArray, List.set_cons_zero, List.set_cons_succ]
                                                refine wpAnyB_take' (i := 7) (v := refV (r0, r1, true)) rfl (by kernel_rfl) (by kernel_rfl) rfl (by kernel_rfl) (by kernel_rfl) (fun _ _ _ h => h) (by rfl) hS (by intro w' hS'; obtain ⟨k1, k2, k3, k4, k5, k6⟩ := hS'; first | (go_simp; done) | (go_simp; rfl) | (go_simp; omega) | (go_simp; assumption)) ?_
                                                simp only [Act.put, List.setIfInBounds_toArray, List.set_cons_zero, List.set_cons_succ]
                                                refine wpAnyB_take' (i := 8) (v := .agg #[I r0, I r1]) rfl (by kernel_rfl) (by kernel_rfl) rfl (by kernel_rfl) (by kernel_rfl) (fun _ _ _ h => h) (by rfl) hS (by intro w' hS'; obtain ⟨k1, k2, k3, k4, k5, k6⟩ := hS'; first | (go_simp; done) | (go_simp; rfl) | (go_simp; omega) | (go_simp; assumption)) ?_
                                                simp only [Act.put, List.setIfInBounds_toArray, List.set_cons_zero, List.set_cons_succ]
                                                refine wpAnyB_take' (i := 9) (v := .bool true) rfl (by kernel_rfl) (by kernel_rfl) rfl (by kernel_rfl) (by kernel_rfl) (fun _ _ _ h => h) (by rfl) hS (by intro w' hS'; obtain ⟨k1, k2, k3, k4, k5, k6⟩ := hS'; first | (go_simp; done) | (go_simp; rfl) | (go_simp; omega) | (go_simp; assumption)) ?_
                                                simp only [Act.put, List.setIfInBounds_toArray, List.set_cons_zero, List.set_cons_succ]
                                                refine wpAnyB_one' (i := 11) rfl (by kernel_rfl) ?_
                                                (with_reducible refine at_store ?_); refine wpList_store_box H8 0 2 rfl rfl (by kernel_rfl) rfl (Nat.le_of_ble_eq_true rfl) rfl ?_; intro u_ w9 hu_ H9
                                                simp only [splice, vcells, Act.eval, Act.put, List.setIfInBounds_toArray, List.set_cons_zero, List.set_cons_succ, Array.getD_eq_getD_getElem?, List.getElem?_toArray, List.getElem?_cons_zero, List.getElem?_cons_succ, Option.getD_some] at hu_; subst hu_; simp only [splice, vcells_agg, List.take_zero, List.drop_zero, List.length_cons, List.length_nil, List.nil_append, List.cons_append, Nat.zero_add, List.drop_succ_cons, List.append_nil, List.set_cons_zero] at H9
                                                have H10 := ((((H9.mv 5 rfl).mv 5 rfl).mv 5 rfl).mv 5 rfl).mv 5 rfl
                                                simp only [List.eraseIdx_cons_succ, List.eraseIdx_cons_zero] at H10
                                                refine wpList_nil ?_
                                                clear hS
                                                have hS : w9.cell? ⟨gH1, 0, none⟩ = some (.slice h.p.A h.p.n h.p.c) ∧ w9.cell? ⟨gH1, 1, none⟩ = some (.slice h.g.A h.g.n h.g.c) ∧ w9.cell? ⟨gH1, 2, none⟩ = some (.slice h.a.A h.a.n h.a.c) ∧ w9.cell? ⟨gH1, 3, none⟩ = some (.slice h.c.A h.c.n h.c.c) ∧ w9.cell? ⟨gH1, 4, none⟩ = some (.slice h.f.A h.f.n h.f.c) ∧ w9.cell? ⟨ub, uo + q, none⟩ = some (.string un) := by
                                                      have hh := (H10.box_cell 0 rfl).1
                                                      exact ⟨by simpa using hh 0, by simpa using hh 1, by simpa using hh 2, by simpa using hh 3, by simpa using hh 4, (H10.own_get1 3 rfl rfl HN1.out rfl).1⟩
                                                refine ⟨fun _ => hS, ?_⟩
                                                refine wpAnyB_take' (i := 12) (v := .bool true) rfl (by kernel_rfl) (by kernel_rfl) rfl (by kernel_rfl) (by kernel_rfl) (fun _ _ _ h => h) (by rfl) hS (by intro w' hS'; first | rfl | (go_simp; done) | (go_simp; rfl)) ?_
                                                simp only [Act.put, List.setIfInBounds_toArray, List.set_cons_zero, List.set_cons_succ]
                                                refine wpAnyB_done (by kernel_rfl) ?_ _
                                                go_wp2
                                                go_meet
                                                exact ⟨g19, rfl, rfl, H10⟩
                                            case rest =>
                                            obtain ⟨g19, rfl, rfl, H2⟩ := hcut
                                            clear H1
                                            have b2 := H2.cells 5 rfl
                                            simp only [cellsAre, and_true, Nat.zero_add] at b2
                                            obtain ⟨pb', po', hyB, s0, s1⟩ := (H2.own_rd 4 rfl (by decide)).1.get2 rfl HN2.out rfl
                                            obtain ⟨rfl, rfl⟩ : pb = pb' ∧ po = po' := by simpa using hyB
                                            simp only at s0 s1
                                            clear hyB
                                            by_cases hr0 : r0 = k0
                                            · have f1 : (r0 != k0) = false := by simp; omega
                                              clear hr0
                                              go_wp2
                                              go_quiet (fail)
                                              have H3 := H2.drewN nq
                                              obtain ⟨w8, hw8⟩ : ∃ w3, w3 = wc.drewN nq := ⟨_, rfl⟩
                                              rw [← hw8] at H3 ⊢
                                              clear hw8 b2 s0 s1
                                              go_wp2
                                              have H4 := H3.drop 5
                                              simp only [List.eraseIdx_cons_succ, List.eraseIdx_cons_zero] at H4
                                              go_roundw
                                              case rel => exact ⟨q + 1, by go_num, by omega, H4⟩
                                              case measure => first | (simp [intOf]; done) | (simp [intOf]; omega)
                                            · have f1 : (r0 != k0) = true := by simpa using hr0
                                              have hr1 : r0 = k1 := HKD.out.resolve_left hr0
                                              have f2 : (r0 != k1) = false := by simp; omega
                                              clear hr0 hr1
                                              go_wp2
                                              go_quiet (fail)
                                              have H3 := H2.drewN nq
                                              obtain ⟨w8, hw8⟩ : ∃ w3, w3 = wc.drewN nq := ⟨_, rfl⟩
                                              rw [← hw8] at H3 ⊢
                                              clear hw8 b2 s0 s1
                                              go_wp2
                                              have H4 := H3.drop 5
                                              simp only [List.eraseIdx_cons_succ, List.eraseIdx_cons_zero] at H4
                                              go_roundw
                                              case rel => exact ⟨q + 1, by go_num, by omega, H4⟩
                                              case measure => first | (simp [intOf]; done) | (simp [intOf]; omega)
                                          · obtain rfl : q = U.length := by omega
                                            have b1 := H1.cells 2 rfl
                                            simp only [cellsAre, and_true, Nat.zero_add] at b1
                                            clear hqu hq
                                            have HFF := hid (fun (w' : World) (hb : Below w.heap.size w w') => fits_is sh st w' true HFIT.out (HRS.out.below hb) HOS.out)
                                            go_wp2_with (first | (go_at_call 11; (with_reducible refine (HFF.out _ H1.below).mono ?_); rintro e w8 ⟨rfl, H2'⟩; have H2 := H1.call H2'; simp only [List.nil_append] at H2; clear b1))
                                            have H3 := ((H2.drop 4).drop 3).drop 2
                                            simp only [List.eraseIdx_cons_succ, List.eraseIdx_cons_zero] at H3
                                            go_roundw
                                            case rel => exact ⟨i + 1, by go_num, by omega, H3⟩
                                            case measure => first | (simp [intOf]; done) | (simp [intOf]; omega)
                                      · obtain rfl : i = g.body.length := by omega
                                        go_wp2
                                        go_roundw
                                        case rel => exact ⟨f + 1, by go_num, by omega, H1⟩
                                        case measure => first | (simp [intOf]; done) | (simp [intOf]; omega)
                      · obtain rfl : f = s.funcs.length := by omega
                        go_wp2
                        go_ret
                        exact ⟨rfl, H1.none⟩
  · have hne : (!(f0 == 0 && f1 == 0 && f2 == 0)) = true := by simp; omega
    have HNE := hid hne
    clear hz hne
    obtain ⟨bb, hbb⟩ : ∃ b, (!(f0 == 0 && f1 == 0 && f2 == 0)) = b := ⟨_, rfl⟩
    have hbt : bb = true := by rw [← hbb]; exact HNE.out
    subst hbt
    go_wp2_with (first
      | ((with_reducible refine at_box ?_); refine wpList_box_box H0 ?_; intro u_ gH1 wH1 hu_ H1; simp only [Act.eval, Act.put, List.setIfInBounds_toArray, List.set_cons_zero, List.set_cons_succ, Array.getD_eq_getD_getElem?, List.getElem?_toArray, List.getElem?_cons_zero, List.getElem?_cons_succ, Option.getD_some] at hu_; subst hu_; simp only [splice, vcells_int, vcells_bool, vcells_string, vcells_pointer, vcells_slice, vcells_map, vcells_func, vcells_nilFunc, vcells_iface, vcells_nilIface, vcells_agg, List.take_zero, List.take_succ_cons, List.drop_zero, List.drop_succ_cons, List.length_cons, List.length_nil, List.nil_append, List.cons_append, List.append_nil, Nat.zero_add, List.set_cons_zero, List.set_cons_succ] at H1; (try clear b0); have b0 := H1.cells 0 rfl; simp only [cellsAre, and_true, Nat.zero_add] at b0)
      | ((go_at_call 5; (with_reducible refine (known_calls _).mono ?_); rintro e w2 ⟨rfl, H2'⟩; have H2 := H1.call H2'; simp only [List.nil_append] at H2; clear b0); (try clear b0); have b0 := H2.cells 0 rfl; simp only [cellsAre, and_true, Nat.zero_add] at b0)
      | (go_at_call 7; (with_reducible refine (LS.out _ H2.below).mono ?_); rintro e w3 ⟨h3, rfl, H3'⟩; have R3 := hid (LSrc.rd (H3'.ft 0 rfl)); have H3 := H2.call H3'; simp only [List.cons_append, List.nil_append] at H3; clear b0)
      | ((go_at_call 6; (with_reducible refine (check_calls h3 s _ R3.out HO.out).mono ?_); rw [HFE.out]; rintro e w4 ⟨rfl, H4'⟩; have H4 := H3.call H4'; simp only [List.nil_append] at H4)))
    go_ret
    exact ⟨rfl, H4.none⟩
end Go.Proofs.Ytogndpckiognjaa
