/- LogsOrder's seat: what the program's table says of the element types. -/
import Derived.Test.YtjgaacpiflmljaaDoorLib
import Derived.Test.YtjgaacpiflmljaaDoorProg
namespace Go.Proofs.YtjgaacpiflmljaaDoor
open Go.RowKit
theorem elt_lab : Elt Tryd.prog 22 28 1 8 (.int .u64 0) := elt_of Tryd.underlying22 (by kernel_rfl) rfl (by decide) rfl
theorem elt_int : Elt Tryd.prog 32 3 1 8 (.int .i64 0) := elt_of Tryd.underlying32 (by kernel_rfl) rfl (by decide) rfl
theorem elt_i64 : Elt Tryd.prog 34 2 1 8 (.int .i64 0) := elt_of Tryd.underlying34 (by kernel_rfl) rfl (by decide) rfl
theorem elt_i64s : Elt Tryd.prog 29 34 1 24 (.slice none 0 0) := elt_of Tryd.underlying29 (by kernel_rfl) rfl (by decide) rfl
end Go.Proofs.YtjgaacpiflmljaaDoor
