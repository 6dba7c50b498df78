/- What the program's table says of the element types. -/
import Derived.Test.YtjlikbaamefkiaaLib
import Derived.Test.YtjlikbaamefkiaaProg
namespace Go.Proofs.Ytjlikbaamefkiaa
open Go.RowKit
theorem elt_lab : Elt Try.prog 24 23 1 8 (.int .u64 0) := elt_of Try.underlying24 (by kernel_rfl) rfl (by decide) rfl
theorem elt_ins : Elt Try.prog 25 63 2 16 (.agg #[.int .i64 0, .int .i64 0]) := elt_of Try.underlying25 (by kernel_rfl) rfl (by decide) rfl
theorem elt_int : Elt Try.prog 32 3 1 8 (.int .i64 0) := elt_of Try.underlying32 (by kernel_rfl) rfl (by decide) rfl
theorem elt_bool : Elt Try.prog 39 4 1 1 (.bool false) := elt_of Try.underlying39 (by kernel_rfl) rfl (by decide) rfl
theorem elt_ints : Elt Try.prog 42 32 1 24 (.slice none 0 0) := elt_of Try.underlying42 (by kernel_rfl) rfl (by decide) rfl
theorem elt_bools : Elt Try.prog 30 39 1 24 (.slice none 0 0) := elt_of Try.underlying30 (by kernel_rfl) rfl (by decide) rfl

/-- An instruction: its number and its operand. -/
structure Ins where
  op : Int
  a : Int
def Enc.ins : Enc Ins := ⟨2, fun x => [.int .i64 x.op, .int .i64 x.a], fun _ => rfl, fun _ u h => by
  rcases List.mem_cons.1 h with rfl | h
  · rfl
  · rw [List.mem_singleton.1 h]; rfl⟩
end Go.Proofs.Ytjlikbaamefkiaa
