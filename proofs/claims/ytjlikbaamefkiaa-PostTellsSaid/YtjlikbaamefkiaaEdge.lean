/- graph.Edges: the iterator over the edges. -/
import Derived.Test.YtjlikbaamefkiaaIter
namespace Go.Proofs.Ytjlikbaamefkiaa
open Go.RowKit
set_option linter.unusedVariables false
set_option linter.unusedSimpArgs false
set_option maxHeartbeats 1000000
attribute [local go_sem] Oper.semAt_some

/-- An edge of a code of n. -/
abbrev Edge (n : Nat) := { x : Nat × Nat // x.1 < n ∧ x.2 ≤ n }
def edgesTo (nx : Nat → List Nat) (k : Nat) : List (Nat × Nat) := (List.range k).flatMap fun a => (nx a).map fun b => (a, b)
theorem edgesTo_succ (nx : Nat → List Nat) (k : Nat) : edgesTo nx (k + 1) = edgesTo nx k ++ (nx k).map fun b => (k, b) := by
  unfold edgesTo
  rw [List.range_succ, List.flatMap_append]
  simp
theorem edgesTo_len {nx : Nat → List Nat} (h : ∀ a, (nx a).length ≤ 2) (k : Nat) : (edgesTo nx k).length ≤ 2 * k := by
  induction k with
  | zero => simp [edgesTo]
  | succ k ih => rw [edgesTo_succ, List.length_append, List.length_map]; have := h k; omega
/-- The tags of what the iterator reads. -/
abbrev iterT : List TypeId := [71, 25, 63]
theorem Rd.ofB {α : Type} {E : Enc α} {w w' : World} {A : Option Addr} {xs : List α} (h : Rd E w A xs) (hk : ∀ k o, 0 < xs.length → A = some ⟨k, o, none⟩ → w'.heap[k]? = w.heap[k]?) : Rd E w' A xs := by
  obtain ⟨h1, h2, h3⟩ := h
  refine ⟨h1, h2, fun hn => ?_⟩
  obtain ⟨b, o, rfl, hc⟩ := h3 hn
  refine ⟨b, o, rfl, fun j u hu => ?_⟩
  have := hc j u hu
  rw [World.cell?_of_block (a := ⟨b, o + j, none⟩) (hk b o (Nat.pos_of_ne_zero hn) rfl)]
  exact this

theorem slice_2 (a : Addr) (m : Nat) (hm : m ≤ 2) (w : World) : (Instr.sliceAt 71 (.pointer (some a)) none (some (.int .i64 (m : Int))) none).run Try.prog w = .ok (.slice (some a) m 2) w := by
  have hl : Try.prog.arrayLen 71 = 2 := by kernel_rfl
  have he : Try.prog.elem 71 = 3 := by kernel_rfl
  rw [run_sliceAt_array_h (P := Try.prog) w 71 a (by kernel_rfl) .i64 m (by omega) (by rw [hl]; omega), hl, he]
  have hi : (Try.prog.info? 3).map (·.size) = some 1 := by kernel_rfl
  cases hh : Try.prog.info? 3 with
  | none => rw [hh] at hi; cases hi
  | some i => simp [sizeOf, typeInfo, hh, slicedAt, go_sem]

set_option maxRecDepth 100000 in
theorem edges1_stops (n : Nat) (gb : Nat) (A : Option Addr) (c : Nat) (code : List Ins) (w : World) (hb : w.heap[gb]? = some (.cells #[.slice A code.length c] 25 (0, 0))) (hR : Rd Enc.ins w A code) (hT : ∀ b o, 0 < code.length → A = some ⟨b, o, none⟩ → ∃ cur z, w.heap[b]? = some (.cells cur 63 z))
    (hn : code.length ≤ 1000000) (hn1 : 1 ≤ n) (ho : ∀ i ∈ code, -9223372036854775808 ≤ i.a ∧ i.a ≤ 9223372036854775807) :
    SeqStopsK Fence.wide n Try.prog 40 #[pt gb] (fun x : Edge code.length => #[I x.1.1, I x.1.2]) (keepT iterT) (fun xs => xs.map Subtype.val = edgesTo (nxt code) code.length) (fun _ => True) (2 * code.length) w := by
  intro l J Jx W hW hJ hJx hY h0
  have hWb : W.heap[gb]? = some (.cells #[.slice A code.length c] 25 (0, 0)) := by rw [hW.block gb (Array.getElem?_eq_some_iff.1 hb).1]; exact hb
  have HT : Hd (∀ b o, 0 < code.length → A = some ⟨b, o, none⟩ → ∃ cur z, W.heap[b]? = some (.cells cur 63 z)) := ⟨fun b o h1 h2 => by
    obtain ⟨cur, z, h3⟩ := hT b o h1 h2
    exact ⟨cur, z, by rw [hW.block b (Array.getElem?_eq_some_iff.1 h3).1]; exact h3⟩⟩
  have HR := hid (RdC.below hR hW)
  have HO := hid ho
  have HJ := hid hJ
  have HY := hid hY
  have HWB := hid hWb
  have c0 : W.cell? ⟨gb, 0, none⟩ = some (.slice A code.length c) := by simp [World.cell?, hWb]
  clear hR ho hJ hY hb hW hT hWb hJx
  refine callsIn_of_wp Try.func40 rfl trivial ?_ rfl
  simp only [Try.ntmps40, List.size_toArray, List.length_cons, List.length_nil, Nat.reduceAdd, Nat.reduceSub, Array.replicate_succ, Array.replicate_zero, List.push_toArray, List.append_toArray, List.nil_append, List.cons_append]
  gi_wp2
  gi_loopw [10] (fun v wr => ∃ (k : Nat) (pre : List (Edge code.length)), k ≤ code.length ∧ v = .int .i64 k ∧ Hd (pre.map Subtype.val = edgesTo (nxt code) k) ∧ J pre wr ∧ Hd (keepT iterT W wr)) (fun v _ => code.length - (intOf v).toNat)
  case atStart => exact ⟨0, [], Nat.zero_le _, rfl, ⟨rfl⟩, h0, ⟨keepT.refl _ _⟩⟩
  case round =>
    obtain ⟨k, pre, hk, rfl, HP, hJs, HK⟩ := hrel
    have hbk := HK.out gb _ _ _ (by simp) HWB.out
    have hcb : wr.cell? ⟨gb, 0, none⟩ = some (.slice A code.length c) := by simp [World.cell?, hbk]
    clear hbk c0
    by_cases hlt : k < code.length
    · have HR2 : Hd (Rd Enc.ins wr A code) := ⟨Rd.ofB HR.out fun b o h1 h2 => by
        obtain ⟨cur, z, h3⟩ := HT.out b o h1 h2
        rw [h3]
        exact HK.out b _ _ _ (by simp) h3⟩
      gi_wp2_with (refine ⟨trivial, ?_⟩; gi_at_call 41; refine (callsIn_wide.2 (to_calls A c code k wr HR2.out hlt (by omega) HO.out)).mono ?_; rintro e w2 ⟨l0, l1, m, rfl, ⟨rfl, hl2, hA0, hA1⟩, H2⟩; have hb2 := fun a => slice_2 a (nxt code k).length hl2)
      obtain ⟨w3, hw3⟩ : ∃ w3, w3 = w2.alloc (.cells #[.int .i64 l0, .int .i64 l1] 71) := ⟨_, rfl⟩
      rw [← hw3]
      have hg3 : w3.heap[w2.heap.size]? = some (.cells #[.int .i64 l0, .int .i64 l1] 71 (0, 0)) := by rw [hw3]; exact World.alloc_heap_new w2 _
      have hb3 : Below w2.heap.size w2 w3 := by rw [hw3]; exact (Below.refl _ w2).alloc (Nat.le_refl _) _
      have hb4 : Below wr.heap.size wr w3 := H2.below.trans (hb3.mono H2.below.size)
      have hJ3 : J pre w3 := HJ.out pre wr w3 none hJs ⟨hb4.os, hb4.tape, hb4.output, hb4.size, fun j hj _ => hb4.block j hj⟩ (fun r h => by cases h)
      have hK3 : Hd (keepT iterT W w3) := ⟨HK.out.trans (keepT.below hb4)⟩
      have HG := hid hg3
      have HA0 := hid hA0
      have HA1 := hid hA1
      obtain ⟨g, hg⟩ : ∃ g, g = w2.heap.size := ⟨_, rfl⟩
      rw [← hg] at HG ⊢
      clear hw3 hg3 hb3 hb4 H2 hJs HK hb2 hA0 hA1 hg HR2 hcb
      gi_loopw [22] (fun v wq => ∃ (j : Nat) (pre' : List (Edge code.length)), j ≤ (nxt code k).length ∧ v = .int .i64 j ∧ Hd (pre'.map Subtype.val = edgesTo (nxt code) k ++ ((nxt code k).take j).map fun b => (k, b)) ∧ J pre' wq ∧ Hd (keepT iterT W wq) ∧ Hd (wq.heap[g]? = some (.cells #[.int .i64 l0, .int .i64 l1] 71 (0, 0)))) (fun v _ => (nxt code k).length - (intOf v).toNat)
      case atStart => exact ⟨0, pre, Nat.zero_le _, rfl, ⟨by simpa using HP.out⟩, hJ3, hK3, HG⟩
      case round =>
        obtain ⟨j, pre', hj, rfl, HP', hJs, HK, HG'⟩ := hrel
        obtain ⟨wq, rfl⟩ : ∃ wq : World, wq = wr := ⟨_, rfl⟩
        by_cases hjl : j < (nxt code k).length
        · obtain ⟨b, hbj⟩ : ∃ b, (nxt code k)[j]? = some b := ⟨_, List.getElem?_eq_getElem hjl⟩
          have hbn : b ≤ code.length := nxt_le hlt b (List.mem_of_getElem? hbj)
          have hcj : wq.cell? ⟨g, j, none⟩ = some (.int .i64 (b : Int)) := by
            have h01 : j = 0 ∨ j = 1 := by omega
            rcases h01 with rfl | rfl
            · rw [← HA0.out b hbj]; simp [World.cell?, HG'.out]
            · rw [← HA1.out b hbj]; simp [World.cell?, HG'.out]
          have hlen : pre'.length < 2 * code.length := by
            have h1 := congrArg List.length HP'.out
            rw [List.length_map, List.length_append, List.length_map, List.length_take] at h1
            have h2 := edgesTo_len (nxt_two code) k
            omega
          obtain ⟨fn, tmps, assign, body, hy, hR⟩ := HY.out pre' ⟨(k, b), hlt, hbn⟩ wq hJs hlen
          dsimp only at hy
          have HBJ := hid hbj
          clear hbj
          gi_wp2
          refine hR.mono ?_
          rintro e W3 (⟨rfl, hJ4, hK4⟩ | ⟨rfl, hJx4⟩)
          · gi_wp2
            go_roundw
            case rel =>
              refine ⟨j + 1, pre' ++ [⟨(k, b), hlt, hbn⟩], by omega, by go_num, ⟨?_⟩, hJ4, ⟨HK.out.trans hK4⟩, ⟨hK4 g _ _ _ (by simp) HG'.out⟩⟩
              rw [List.map_append, HP'.out, List.take_add_one, HBJ.out]
              simp
            case measure => first | (simp [intOf]; done) | (simp [intOf]; omega)
          · gi_wp2
            refine bodyPost_ret (results_none rfl _ _ _) rfl ?_
            exact ⟨⟨_, rfl⟩, .inr ⟨_, trivial, hJx4⟩⟩
        · obtain rfl : j = (nxt code k).length := by omega
          gi_wp2
          go_roundw
          case rel => exact ⟨k + 1, pre', by omega, by go_num, ⟨by rw [edgesTo_succ]; simpa using HP'.out⟩, hJs, HK⟩
          case measure => first | (simp [intOf]; done) | (simp [intOf]; omega)
    · obtain rfl : k = code.length := by omega
      gi_wp2
      go_end0
      exact ⟨⟨_, rfl⟩, .inl ⟨_, HP.out, hJs⟩⟩
end Go.Proofs.Ytjlikbaamefkiaa
