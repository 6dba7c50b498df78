/- Names: where something stands first in a list; how deep blocks nest. -/
import Derived.Test.YtogndpckiognjaaNmX
namespace Go.Proofs.Ytogndpckiognjaa
open Go.RowKit
set_option linter.unusedVariables false
set_option linter.unusedSimpArgs false
set_option maxHeartbeats 2000000
/-- The first place of a list of answers that is true; -1 if none is. -/
def posB : List Bool → Nat → Int
  | [], _ => -1
  | b :: l, k => if b then k else posB l (k + 1)
theorem posB_some : ∀ {l : List Bool} {n k : Nat}, (∀ j b, j < k → l[j]? = some b → b = false) → l[k]? = some true → posB l n = n + k
  | [], n, k, _, h => by simp at h
  | x :: xs, n, 0, _, h => by
    obtain rfl : x = true := by simpa using h
    simp [posB]
  | x :: xs, n, k + 1, h1, h => by
    have := h1 0 x (by omega) rfl
    subst this
    unfold posB
    rw [if_neg (by decide), posB_some (k := k) (fun j y hj hy => h1 (j + 1) y (by omega) (by simpa using hy)) (by simpa using h)]
    push_cast
    omega
theorem posB_none : ∀ {l : List Bool} {n : Nat}, (∀ x ∈ l, x = false) → posB l n = -1
  | [], _, _ => rfl
  | x :: xs, n, h => by
    have := h x (by simp)
    subst this
    unfold posB
    rw [if_neg (by decide), posB_none fun y hy => h y (by simp [hy])]
theorem posB_ge : ∀ (l : List Bool) (n : Nat), decide (0 ≤ posB l n) = l.any id
  | [], n => by simp [posB]
  | x :: xs, n => by
    cases x with
    | true => simp [posB]
    | false => simp [posB, posB_ge xs (n + 1)]
theorem posB_range : ∀ (l : List Bool) (n : Nat), posB l n = -1 ∨ ((n : Int) ≤ posB l n ∧ posB l n < n + l.length)
  | [], n => .inl rfl
  | x :: xs, n => by
    cases x with
    | true => right; simp [posB]; omega
    | false =>
      rcases posB_range xs (n + 1) with h | h
      · left; simpa [posB] using h
      · right
        simp only [posB, Bool.false_eq_true, if_false, List.length_cons]
        push_cast at h ⊢
        omega
theorem head1_calls (x : StmtH) (w : World) : Calls Try.prog 38 #[x.val] w fun e w' => e = .returned (.bool (x.kind == 9)) ∧ Mem w w' [] := by
  have H0 := Mem.refl w
  go_enter Try.func38, Try.ntmps38
  go_wp2_with (first | ((with_reducible refine at_box ?_); refine wpList_box_box H0 ?_; intro u_ gH1 wH1 hu_ H1; simp only [Act.eval, Act.put, List.setIfInBounds_toArray, List.set_cons_zero, List.set_cons_succ, Array.getD_eq_getD_getElem?, List.getElem?_toArray, List.getElem?_cons_zero, List.getElem?_cons_succ, Option.getD_some] at hu_; subst hu_; simp only [splice, vcells_int, vcells_bool, vcells_string, vcells_pointer, vcells_slice, vcells_map, vcells_func, vcells_nilFunc, vcells_iface, vcells_nilIface, vcells_agg, List.take_zero, List.take_succ_cons, List.drop_zero, List.drop_succ_cons, List.length_cons, List.length_nil, List.nil_append, List.cons_append, List.append_nil, Nat.zero_add, List.set_cons_zero, List.set_cons_succ] at H1; (try clear b0); have b0 := H1.cells 0 rfl; simp only [cellsAre, and_true, Nat.zero_add] at b0))
  go_ret
  exact ⟨rfl, H1.none⟩
theorem stmt1_calls (A : Option Addr) (n c : Nat) (w : World) : Calls Try.prog 40 #[.slice A n c] w fun e w' => e = .returned (.bool (decide (48 < (n : Int)))) ∧ Mem w w' [] := by
  have H0 := Mem.refl w
  go_enter Try.func40, Try.ntmps40
  go_wp2
  go_ret
  exact ⟨rfl, H0⟩
set_option maxRecDepth 100000 in
theorem indexRet_calls (A : Option Addr) (c : Nat) (xs : List StmtH) (w : World) (hR : Rd Enc.stmt w A xs) (hl : xs.length ≤ 5000000) :
    Calls Try.prog 37 #[.slice A xs.length c, .func (.func 38) #[] #[]] w fun e w' => e = .returned (I (posB (xs.map fun x => x.kind == 9) 0)) ∧ Mem w w' [] := by
  have HR := hid hR
  clear hR
  have H0 := Mem.refl w
  go_enter Try.func37, Try.ntmps37
  go_wp2
  go_loopw [8] (fun v wr => ∃ k : Nat, v = .int .i64 k ∧ k ≤ xs.length ∧ Hd (∀ j x, j < k → xs[j]? = some x → (x.kind == 9) = false) ∧ Mem w wr []) (fun v _ => xs.length - (intOf v).toNat)
  case atStart => exact ⟨0, rfl, Nat.zero_le _, ⟨fun j x hj => by omega⟩, H0⟩
  case round =>
    clear H0
    obtain ⟨k, rfl, hk, HT, H1⟩ := hrel
    obtain ⟨wo, rfl⟩ : ∃ wo : World, wo = wr := ⟨_, rfl⟩
    by_cases hlt : k < xs.length
    · obtain ⟨x, hx⟩ : ∃ x, xs[k]? = some x := ⟨_, List.getElem?_eq_getElem hlt⟩
      obtain ⟨fb, fo, rfl, p0, p1, p2, p3⟩ := HR.out.get4 rfl hx rfl
      have e0 := H1.old p0
      have e1 := H1.old p1
      have e2 := H1.old p2
      have e3 := H1.old p3
      have HX := hid hx
      clear hx p0 p1 p2 p3
      obtain ⟨b, hb⟩ : ∃ b, (x.kind == 9) = b := ⟨_, rfl⟩
      have HB := hid hb
      cases b with
      | true =>
        clear hb
        go_wp2_with (first | (go_at_call 38; (with_reducible refine (head1_calls x _).mono ?_); rintro e w2 ⟨rfl, H2'⟩; rw [HB.out]; have H2 := H1.call H2'; simp only [List.nil_append] at H2))
        go_ret
        refine ⟨?_, H2⟩
        rw [posB_some (k := k) (fun j y hj hy => ?_) (by rw [List.getElem?_map, HX.out]; exact congrArg some HB.out)]
        · rw [show ((0 : Nat) : Int) + (k : Int) = k from by omega]
          rfl
        · rw [List.getElem?_map] at hy
          obtain ⟨z, hz, rfl⟩ := Option.map_eq_some_iff.1 hy
          exact HT.out j z hj hz
      | false =>
        clear hb
        go_wp2_with (first | (go_at_call 38; (with_reducible refine (head1_calls x _).mono ?_); rintro e w2 ⟨rfl, H2'⟩; rw [HB.out]; have H2 := H1.call H2'; simp only [List.nil_append] at H2))
        go_roundw
        case rel =>
          refine ⟨k + 1, by go_num, by omega, ⟨fun j z hj hz => ?_⟩, H2⟩
          rcases Nat.lt_or_ge j k with h | h
          · exact HT.out j z h hz
          · obtain rfl : j = k := by omega
            rw [HX.out] at hz
            obtain rfl := Option.some.inj hz
            exact HB.out
        case measure => first | (simp [intOf]; done) | (simp [intOf]; omega)
    · obtain rfl : k = xs.length := by omega
      go_wp2
      go_ret
      refine ⟨?_, H1⟩
      rw [posB_none]
      · rfl
      · intro y hy
        obtain ⟨z, hz, rfl⟩ := List.mem_map.1 hy
        obtain ⟨j, hj⟩ := List.getElem?_of_mem hz
        exact HT.out j z (List.getElem?_eq_some_iff.1 hj).1 hj
set_option maxRecDepth 100000 in
theorem indexLong_calls (A : Option Addr) (c : Nat) (xs : List Hdr) (w : World) (hR : Rd Enc.hdr w A xs) (hl : xs.length ≤ 5000000) :
    Calls Try.prog 52 #[.slice A xs.length c, .func (.func 40) #[] #[]] w fun e w' => e = .returned (I (posB (xs.map fun x => decide (48 < (x.n : Int))) 0)) ∧ Mem w w' [] := by
  have HR := hid hR
  clear hR
  have H0 := Mem.refl w
  go_enter Try.func52, Try.ntmps52
  go_wp2
  go_loopw [8] (fun v wr => ∃ k : Nat, v = .int .i64 k ∧ k ≤ xs.length ∧ Hd (∀ j x, j < k → xs[j]? = some x → (decide (48 < (x.n : Int))) = false) ∧ Mem w wr []) (fun v _ => xs.length - (intOf v).toNat)
  case atStart => exact ⟨0, rfl, Nat.zero_le _, ⟨fun j x hj => by omega⟩, H0⟩
  case round =>
    clear H0
    obtain ⟨k, rfl, hk, HT, H1⟩ := hrel
    obtain ⟨wo, rfl⟩ : ∃ wo : World, wo = wr := ⟨_, rfl⟩
    by_cases hlt : k < xs.length
    · obtain ⟨x, hx⟩ : ∃ x, xs[k]? = some x := ⟨_, List.getElem?_eq_getElem hlt⟩
      obtain ⟨fb, fo, rfl, p0⟩ := HR.out.get1 rfl hx rfl
      have e0 := H1.old p0
      have HX := hid hx
      clear hx p0
      obtain ⟨b, hb⟩ : ∃ b, (decide (48 < (x.n : Int))) = b := ⟨_, rfl⟩
      have HB := hid hb
      cases b with
      | true =>
        clear hb
        go_wp2_with (first | (go_at_call 40; (with_reducible refine (stmt1_calls x.A x.n x.c _).mono ?_); rintro e w2 ⟨rfl, H2'⟩; rw [HB.out]; have H2 := H1.call H2'; simp only [List.nil_append] at H2))
        go_ret
        refine ⟨?_, H2⟩
        rw [posB_some (k := k) (fun j y hj hy => ?_) (by rw [List.getElem?_map, HX.out]; exact congrArg some HB.out)]
        · rw [show ((0 : Nat) : Int) + (k : Int) = k from by omega]
          rfl
        · rw [List.getElem?_map] at hy
          obtain ⟨z, hz, rfl⟩ := Option.map_eq_some_iff.1 hy
          exact HT.out j z hj hz
      | false =>
        clear hb
        go_wp2_with (first | (go_at_call 40; (with_reducible refine (stmt1_calls x.A x.n x.c _).mono ?_); rintro e w2 ⟨rfl, H2'⟩; rw [HB.out]; have H2 := H1.call H2'; simp only [List.nil_append] at H2))
        go_roundw
        case rel =>
          refine ⟨k + 1, by go_num, by omega, ⟨fun j z hj hz => ?_⟩, H2⟩
          rcases Nat.lt_or_ge j k with h | h
          · exact HT.out j z h hz
          · obtain rfl : j = k := by omega
            rw [HX.out] at hz
            obtain rfl := Option.some.inj hz
            exact HB.out
        case measure => first | (simp [intOf]; done) | (simp [intOf]; omega)
    · obtain rfl : k = xs.length := by omega
      go_wp2
      go_ret
      refine ⟨?_, H1⟩
      rw [posB_none]
      · rfl
      · intro y hy
        obtain ⟨z, hz, rfl⟩ := List.mem_map.1 hy
        obtain ⟨j, hj⟩ := List.getElem?_of_mem hz
        exact HT.out j z (List.getElem?_eq_some_iff.1 hj).1 hj
set_option maxRecDepth 100000 in
theorem indexStr_calls (A : Option Addr) (c : Nat) (xs : List ByteArray) (s : ByteArray) (w : World) (hR : Rd Enc.str w A xs) (hl : xs.length ≤ 5000000) :
    Calls Try.prog 50 #[.slice A xs.length c, .string s] w fun e w' => e = .returned (I (posB (xs.map fun x => s.toList == x.toList) 0)) ∧ Mem w w' [] := by
  have HR := hid hR
  clear hR
  have H0 := Mem.refl w
  go_enter Try.func50, Try.ntmps50
  go_wp2
  go_loopw [8] (fun v wr => ∃ k : Nat, v = .int .i64 k ∧ k ≤ xs.length ∧ Hd (∀ j x, j < k → xs[j]? = some x → (s.toList == x.toList) = false) ∧ Mem w wr []) (fun v _ => xs.length - (intOf v).toNat)
  case atStart => exact ⟨0, rfl, Nat.zero_le _, ⟨fun j x hj => by omega⟩, H0⟩
  case round =>
    clear H0
    obtain ⟨k, rfl, hk, HT, H1⟩ := hrel
    obtain ⟨wo, rfl⟩ : ∃ wo : World, wo = wr := ⟨_, rfl⟩
    by_cases hlt : k < xs.length
    · obtain ⟨x, hx⟩ : ∃ x, xs[k]? = some x := ⟨_, List.getElem?_eq_getElem hlt⟩
      obtain ⟨fb, fo, rfl, p0⟩ := HR.out.get1 rfl hx rfl
      have e0 := H1.old p0
      have HX := hid hx
      clear hx p0
      obtain ⟨b, hb⟩ : ∃ b, (s.toList == x.toList) = b := ⟨_, rfl⟩
      have HB := hid hb
      cases b with
      | true =>
        skip
        go_wp2_with (fail)
        go_ret
        refine ⟨?_, H1⟩
        rw [posB_some (k := k) (fun j y hj hy => ?_) (by rw [List.getElem?_map, HX.out]; exact congrArg some HB.out)]
        · rw [show ((0 : Nat) : Int) + (k : Int) = k from by omega]
          rfl
        · rw [List.getElem?_map] at hy
          obtain ⟨z, hz, rfl⟩ := Option.map_eq_some_iff.1 hy
          exact HT.out j z hj hz
      | false =>
        skip
        go_wp2_with (fail)
        go_roundw
        case rel =>
          refine ⟨k + 1, by go_num, by omega, ⟨fun j z hj hz => ?_⟩, H1⟩
          rcases Nat.lt_or_ge j k with h | h
          · exact HT.out j z h hz
          · obtain rfl : j = k := by omega
            rw [HX.out] at hz
            obtain rfl := Option.some.inj hz
            exact HB.out
        case measure => first | (simp [intOf]; done) | (simp [intOf]; omega)
    · obtain rfl : k = xs.length := by omega
      go_wp2
      go_ret
      refine ⟨?_, H1⟩
      rw [posB_none]
      · rfl
      · intro y hy
        obtain ⟨z, hz, rfl⟩ := List.mem_map.1 hy
        obtain ⟨j, hj⟩ := List.getElem?_of_mem hz
        exact HT.out j z (List.getElem?_eq_some_iff.1 hj).1 hj
set_option maxRecDepth 100000 in
theorem indexInt_calls (A : Option Addr) (c : Nat) (xs : List Int) (s : Int) (w : World) (hR : Rd Enc.i64 w A xs) (hl : xs.length ≤ 5000000) :
    Calls Try.prog 59 #[.slice A xs.length c, .int .i64 s] w fun e w' => e = .returned (I (posB (xs.map fun x => s == x) 0)) ∧ Mem w w' [] := by
  have HR := hid hR
  clear hR
  have H0 := Mem.refl w
  go_enter Try.func59, Try.ntmps59
  go_wp2
  go_loopw [8] (fun v wr => ∃ k : Nat, v = .int .i64 k ∧ k ≤ xs.length ∧ Hd (∀ j x, j < k → xs[j]? = some x → (s == x) = false) ∧ Mem w wr []) (fun v _ => xs.length - (intOf v).toNat)
  case atStart => exact ⟨0, rfl, Nat.zero_le _, ⟨fun j x hj => by omega⟩, H0⟩
  case round =>
    clear H0
    obtain ⟨k, rfl, hk, HT, H1⟩ := hrel
    obtain ⟨wo, rfl⟩ : ∃ wo : World, wo = wr := ⟨_, rfl⟩
    by_cases hlt : k < xs.length
    · obtain ⟨x, hx⟩ : ∃ x, xs[k]? = some x := ⟨_, List.getElem?_eq_getElem hlt⟩
      obtain ⟨fb, fo, rfl, p0⟩ := HR.out.get1 rfl hx rfl
      have e0 := H1.old p0
      have HX := hid hx
      clear hx p0
      obtain ⟨b, hb⟩ : ∃ b, (s == x) = b := ⟨_, rfl⟩
      have HB := hid hb
      cases b with
      | true =>
        skip
        go_wp2_with (fail)
        go_ret
        refine ⟨?_, H1⟩
        rw [posB_some (k := k) (fun j y hj hy => ?_) (by rw [List.getElem?_map, HX.out]; exact congrArg some HB.out)]
        · rw [show ((0 : Nat) : Int) + (k : Int) = k from by omega]
          rfl
        · rw [List.getElem?_map] at hy
          obtain ⟨z, hz, rfl⟩ := Option.map_eq_some_iff.1 hy
          exact HT.out j z hj hz
      | false =>
        skip
        go_wp2_with (fail)
        go_roundw
        case rel =>
          refine ⟨k + 1, by go_num, by omega, ⟨fun j z hj hz => ?_⟩, H1⟩
          rcases Nat.lt_or_ge j k with h | h
          · exact HT.out j z h hz
          · obtain rfl : j = k := by omega
            rw [HX.out] at hz
            obtain rfl := Option.some.inj hz
            exact HB.out
        case measure => first | (simp [intOf]; done) | (simp [intOf]; omega)
    · obtain rfl : k = xs.length := by omega
      go_wp2
      go_ret
      refine ⟨?_, H1⟩
      rw [posB_none]
      · rfl
      · intro y hy
        obtain ⟨z, hz, rfl⟩ := List.mem_map.1 hy
        obtain ⟨j, hj⟩ := List.getElem?_of_mem hz
        exact HT.out j z (List.getElem?_eq_some_iff.1 hj).1 hj
theorem containsLong_calls (A : Option Addr) (c : Nat) (xs : List Hdr) (w : World) (hR : Rd Enc.hdr w A xs) (hl : xs.length ≤ 5000000) :
    Calls Try.prog 39 #[.slice A xs.length c, .func (.func 40) #[] #[]] w fun e w' => e = .returned (.bool (xs.any fun x => decide (48 < (x.n : Int)))) ∧ Mem w w' [] := by
  have HR := hid hR
  have HG := hid (posB_ge (xs.map fun x => decide (48 < (x.n : Int))) 0)
  clear hR
  go_enter Try.func39, Try.ntmps39
  go_wp2_with (first | (go_at_call 52; (with_reducible refine (indexLong_calls A c xs  w HR.out hl).mono ?_); rintro e w2 ⟨rfl, H2⟩))
  go_ret
  refine ⟨?_, H2⟩
  have : (xs.any fun x => decide (48 < (x.n : Int))) = decide (0 ≤ posB (xs.map fun x => decide (48 < (x.n : Int))) 0) := by rw [HG.out, List.any_map]; rfl
  rw [this]
  rfl
theorem containsStr_calls (A : Option Addr) (c : Nat) (xs : List ByteArray) (s : ByteArray) (w : World) (hR : Rd Enc.str w A xs) (hl : xs.length ≤ 5000000) :
    Calls Try.prog 32 #[.slice A xs.length c, .string s] w fun e w' => e = .returned (.bool (xs.any fun x => s.toList == x.toList)) ∧ Mem w w' [] := by
  have HR := hid hR
  have HG := hid (posB_ge (xs.map fun x => s.toList == x.toList) 0)
  clear hR
  go_enter Try.func32, Try.ntmps32
  go_wp2_with (first | (go_at_call 50; (with_reducible refine (indexStr_calls A c xs s w HR.out hl).mono ?_); rintro e w2 ⟨rfl, H2⟩))
  go_ret
  refine ⟨?_, H2⟩
  have : (xs.any fun x => s.toList == x.toList) = decide (0 ≤ posB (xs.map fun x => s.toList == x.toList) 0) := by rw [HG.out, List.any_map]; rfl
  rw [this]
  rfl
theorem containsInt_calls (A : Option Addr) (c : Nat) (xs : List Int) (s : Int) (w : World) (hR : Rd Enc.i64 w A xs) (hl : xs.length ≤ 5000000) :
    Calls Try.prog 53 #[.slice A xs.length c, .int .i64 s] w fun e w' => e = .returned (.bool (xs.any fun x => s == x)) ∧ Mem w w' [] := by
  have HR := hid hR
  have HG := hid (posB_ge (xs.map fun x => s == x) 0)
  clear hR
  go_enter Try.func53, Try.ntmps53
  go_wp2_with (first | (go_at_call 59; (with_reducible refine (indexInt_calls A c xs s w HR.out hl).mono ?_); rintro e w2 ⟨rfl, H2⟩))
  go_ret
  refine ⟨?_, H2⟩
  have : (xs.any fun x => s == x) = decide (0 ≤ posB (xs.map fun x => s == x) 0) := by rw [HG.out, List.any_map]; rfl
  rw [this]
  rfl
/-- How deep blocks nest. -/
def deepF : List Int → Int → Int → Int
  | [], _, m => m
  | k :: r, n, m => if k = 5 ∨ k = 7 then deepF r (n + 1) (max m (n + 1)) else if k = 8 then deepF r (n - 1) m else deepF r n m
theorem deep_at {l : List StmtH} {k : Nat} {t : StmtH} {n m : Int} (h : l[k]? = some t) : deepF ((l.drop k).map (·.kind)) n m = if t.kind = 5 ∨ t.kind = 7 then deepF ((l.drop (k + 1)).map (·.kind)) (n + 1) (max m (n + 1)) else if t.kind = 8 then deepF ((l.drop (k + 1)).map (·.kind)) (n - 1) m else deepF ((l.drop (k + 1)).map (·.kind)) n m := by
  obtain ⟨hk, rfl⟩ := List.getElem?_eq_some_iff.1 h
  rw [List.drop_eq_getElem_cons hk, List.map_cons, deepF]
set_option maxRecDepth 100000 in
theorem deep_calls (A : Option Addr) (c : Nat) (xs : List StmtH) (w : World) (hR : Rd Enc.stmt w A xs) (hl : xs.length ≤ 5000000) :
    Calls Try.prog 36 #[.slice A xs.length c] w fun e w' => e = .returned (I (deepF (xs.map (·.kind)) 0 0)) ∧ Mem w w' [] := by
  have HR := hid hR
  clear hR
  have H0 := Mem.refl w
  go_enter Try.func36, Try.ntmps36
  go_wp2
  go_loopw [2, 3, 8] (fun v2 v3 v wr => ∃ (k : Nat) (n m : Int), v = .int .i64 k ∧ v3 = .int .i64 n ∧ v2 = .int .i64 m ∧ k ≤ xs.length ∧ -(k : Int) ≤ n ∧ n ≤ (k : Int) ∧ 0 ≤ m ∧ m ≤ (k : Int) ∧ Hd (deepF (xs.map (·.kind)) 0 0 = deepF ((xs.drop k).map (·.kind)) n m) ∧ Mem w wr []) (fun _ _ v _ => xs.length - (intOf v).toNat)
  case atStart => exact ⟨0, 0, 0, rfl, rfl, rfl, Nat.zero_le _, by omega, by omega, by omega, by omega, ⟨rfl⟩, H0⟩
  case round =>
    clear H0
    obtain ⟨k, n, m, rfl, rfl, rfl, hk, n0, n1, m0, m1, HT, H1⟩ := hrel
    obtain ⟨wo, rfl⟩ : ∃ wo : World, wo = wr := ⟨_, rfl⟩
    by_cases hlt : k < xs.length
    · obtain ⟨t, ht⟩ : ∃ x, xs[k]? = some x := ⟨_, List.getElem?_eq_getElem hlt⟩
      obtain ⟨fb, fo, rfl, p0, p1, p2, p3⟩ := HR.out.get4 rfl ht rfl
      have e0 := H1.old p0
      have e1 := H1.old p1
      have e2 := H1.old p2
      have e3 := H1.old p3
      have DP := hid (deep_at (n := n) (m := m) ht)
      obtain ⟨kd, nm, tt, te⟩ := t
      simp only at e0 e1 e2 e3
      clear ht p0 p1 p2 p3
      by_cases d5 : kd = 5
      · subst d5
        have hv := DP.out
        rw [if_pos (.inl rfl)] at hv
        have HV := hid hv
        clear hv DP
        go_wp2_with (first
          | ((with_reducible refine at_alloc ?_); refine wpList_alloc_box H1 (.agg #[.int .i64 0, .string ByteArray.empty, .slice none 0 0, .slice none 0 0]) (by kernel_rfl) ?_; intro gH2 wH2 H2; simp only [splice, vcells_int, vcells_bool, vcells_string, vcells_pointer, vcells_slice, vcells_map, vcells_func, vcells_nilFunc, vcells_iface, vcells_nilIface, vcells_agg, List.take_zero, List.take_succ_cons, List.drop_zero, List.drop_succ_cons, List.length_cons, List.length_nil, List.nil_append, List.cons_append, List.append_nil, Nat.zero_add, List.set_cons_zero, List.set_cons_succ] at H2)
          | ((with_reducible refine at_store ?_); refine wpList_store_box H2 0 4 rfl rfl (by kernel_rfl) rfl (Nat.le_of_ble_eq_true rfl) rfl ?_; intro u_ wH3 hu_ H3; simp only [Act.eval, Act.put, List.setIfInBounds_toArray, List.set_cons_zero, List.set_cons_succ, Array.getD_eq_getD_getElem?, List.getElem?_toArray, List.getElem?_cons_zero, List.getElem?_cons_succ, Option.getD_some] at hu_; subst hu_; simp only [splice, vcells_int, vcells_bool, vcells_string, vcells_pointer, vcells_slice, vcells_map, vcells_func, vcells_nilFunc, vcells_iface, vcells_nilIface, vcells_agg, List.take_zero, List.take_succ_cons, List.drop_zero, List.drop_succ_cons, List.length_cons, List.length_nil, List.nil_append, List.cons_append, List.append_nil, Nat.zero_add, List.set_cons_zero, List.set_cons_succ] at H3; (try clear b0); have b0 := H3.cells 0 rfl; simp only [cellsAre, and_true, Nat.zero_add] at b0))
        go_roundw
        case rel => exact ⟨k + 1, n + 1, max m (n + 1), by go_num, by first | rfl | go_num, by first | rfl | go_num, by omega, by omega, by omega, by omega, by omega, ⟨HT.out.trans HV.out⟩, H3.none⟩
        case measure => first | (simp [intOf]; done) | (simp [intOf]; omega)
      · have c5 : (kd == 5) = false := by simpa using d5
        by_cases d7 : kd = 7
        · subst d7
          have hv := DP.out
          rw [if_pos (.inr rfl)] at hv
          have HV := hid hv
          clear hv DP
          go_wp2_with (first
            | ((with_reducible refine at_alloc ?_); refine wpList_alloc_box H1 (.agg #[.int .i64 0, .string ByteArray.empty, .slice none 0 0, .slice none 0 0]) (by kernel_rfl) ?_; intro gH2 wH2 H2; simp only [splice, vcells_int, vcells_bool, vcells_string, vcells_pointer, vcells_slice, vcells_map, vcells_func, vcells_nilFunc, vcells_iface, vcells_nilIface, vcells_agg, List.take_zero, List.take_succ_cons, List.drop_zero, List.drop_succ_cons, List.length_cons, List.length_nil, List.nil_append, List.cons_append, List.append_nil, Nat.zero_add, List.set_cons_zero, List.set_cons_succ] at H2)
            | ((with_reducible refine at_store ?_); refine wpList_store_box H2 0 4 rfl rfl (by kernel_rfl) rfl (Nat.le_of_ble_eq_true rfl) rfl ?_; intro u_ wH3 hu_ H3; simp only [Act.eval, Act.put, List.setIfInBounds_toArray, List.set_cons_zero, List.set_cons_succ, Array.getD_eq_getD_getElem?, List.getElem?_toArray, List.getElem?_cons_zero, List.getElem?_cons_succ, Option.getD_some] at hu_; subst hu_; simp only [splice, vcells_int, vcells_bool, vcells_string, vcells_pointer, vcells_slice, vcells_map, vcells_func, vcells_nilFunc, vcells_iface, vcells_nilIface, vcells_agg, List.take_zero, List.take_succ_cons, List.drop_zero, List.drop_succ_cons, List.length_cons, List.length_nil, List.nil_append, List.cons_append, List.append_nil, Nat.zero_add, List.set_cons_zero, List.set_cons_succ] at H3; (try clear b0); have b0 := H3.cells 0 rfl; simp only [cellsAre, and_true, Nat.zero_add] at b0))
          go_roundw
          case rel => exact ⟨k + 1, n + 1, max m (n + 1), by go_num, by first | rfl | go_num, by first | rfl | go_num, by omega, by omega, by omega, by omega, by omega, ⟨HT.out.trans HV.out⟩, H3.none⟩
          case measure => first | (simp [intOf]; done) | (simp [intOf]; omega)
        · have c7 : (kd == 7) = false := by simpa using d7
          by_cases d8 : kd = 8
          · subst d8
            have hv := DP.out
            rw [if_neg (by simp), if_pos rfl] at hv
            have HV := hid hv
            clear hv DP
            go_wp2_with (first
              | ((with_reducible refine at_alloc ?_); refine wpList_alloc_box H1 (.agg #[.int .i64 0, .string ByteArray.empty, .slice none 0 0, .slice none 0 0]) (by kernel_rfl) ?_; intro gH2 wH2 H2; simp only [splice, vcells_int, vcells_bool, vcells_string, vcells_pointer, vcells_slice, vcells_map, vcells_func, vcells_nilFunc, vcells_iface, vcells_nilIface, vcells_agg, List.take_zero, List.take_succ_cons, List.drop_zero, List.drop_succ_cons, List.length_cons, List.length_nil, List.nil_append, List.cons_append, List.append_nil, Nat.zero_add, List.set_cons_zero, List.set_cons_succ] at H2)
              | ((with_reducible refine at_store ?_); refine wpList_store_box H2 0 4 rfl rfl (by kernel_rfl) rfl (Nat.le_of_ble_eq_true rfl) rfl ?_; intro u_ wH3 hu_ H3; simp only [Act.eval, Act.put, List.setIfInBounds_toArray, List.set_cons_zero, List.set_cons_succ, Array.getD_eq_getD_getElem?, List.getElem?_toArray, List.getElem?_cons_zero, List.getElem?_cons_succ, Option.getD_some] at hu_; subst hu_; simp only [splice, vcells_int, vcells_bool, vcells_string, vcells_pointer, vcells_slice, vcells_map, vcells_func, vcells_nilFunc, vcells_iface, vcells_nilIface, vcells_agg, List.take_zero, List.take_succ_cons, List.drop_zero, List.drop_succ_cons, List.length_cons, List.length_nil, List.nil_append, List.cons_append, List.append_nil, Nat.zero_add, List.set_cons_zero, List.set_cons_succ] at H3; (try clear b0); have b0 := H3.cells 0 rfl; simp only [cellsAre, and_true, Nat.zero_add] at b0))
            go_roundw
            case rel => exact ⟨k + 1, n - 1, m, by go_num, by first | rfl | go_num, by first | rfl | go_num, by omega, by omega, by omega, by omega, by omega, ⟨HT.out.trans HV.out⟩, H3.none⟩
            case measure => first | (simp [intOf]; done) | (simp [intOf]; omega)
          · have c8 : (kd == 8) = false := by simpa using d8
            have hv := DP.out
            rw [if_neg (by simp; omega), if_neg d8] at hv
            have HV := hid hv
            clear hv DP
            go_wp2_with (first
              | ((with_reducible refine at_alloc ?_); refine wpList_alloc_box H1 (.agg #[.int .i64 0, .string ByteArray.empty, .slice none 0 0, .slice none 0 0]) (by kernel_rfl) ?_; intro gH2 wH2 H2; simp only [splice, vcells_int, vcells_bool, vcells_string, vcells_pointer, vcells_slice, vcells_map, vcells_func, vcells_nilFunc, vcells_iface, vcells_nilIface, vcells_agg, List.take_zero, List.take_succ_cons, List.drop_zero, List.drop_succ_cons, List.length_cons, List.length_nil, List.nil_append, List.cons_append, List.append_nil, Nat.zero_add, List.set_cons_zero, List.set_cons_succ] at H2)
              | ((with_reducible refine at_store ?_); refine wpList_store_box H2 0 4 rfl rfl (by kernel_rfl) rfl (Nat.le_of_ble_eq_true rfl) rfl ?_; intro u_ wH3 hu_ H3; simp only [Act.eval, Act.put, List.setIfInBounds_toArray, List.set_cons_zero, List.set_cons_succ, Array.getD_eq_getD_getElem?, List.getElem?_toArray, List.getElem?_cons_zero, List.getElem?_cons_succ, Option.getD_some] at hu_; subst hu_; simp only [splice, vcells_int, vcells_bool, vcells_string, vcells_pointer, vcells_slice, vcells_map, vcells_func, vcells_nilFunc, vcells_iface, vcells_nilIface, vcells_agg, List.take_zero, List.take_succ_cons, List.drop_zero, List.drop_succ_cons, List.length_cons, List.length_nil, List.nil_append, List.cons_append, List.append_nil, Nat.zero_add, List.set_cons_zero, List.set_cons_succ] at H3; (try clear b0); have b0 := H3.cells 0 rfl; simp only [cellsAre, and_true, Nat.zero_add] at b0))
            go_roundw
            case rel => exact ⟨k + 1, n, m, by go_num, by first | rfl | go_num, by first | rfl | go_num, by omega, by omega, by omega, by omega, by omega, ⟨HT.out.trans HV.out⟩, H3.none⟩
            case measure => first | (simp [intOf]; done) | (simp [intOf]; omega)
    · obtain rfl : k = xs.length := by omega
      have hv : deepF (xs.map (·.kind)) 0 0 = m := by rw [HT.out, List.drop_eq_nil_of_le (Nat.le_refl _)]; rfl
      have HV := hid hv
      clear hv
      go_wp2
      go_ret
      rw [HV.out]
      exact ⟨rfl, H1⟩
end Go.Proofs.Ytogndpckiognjaa
