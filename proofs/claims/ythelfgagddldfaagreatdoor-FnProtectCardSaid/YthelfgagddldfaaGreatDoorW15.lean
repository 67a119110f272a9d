/- Walks of the laws' own helpers: slices of whole numbers. -/
import Derived.Test.YthelfgagddldfaaGreatDoorMem4
import Derived.Test.YthelfgagddldfaaGreatDoorW2
import Derived.Deep.DeepMust
namespace Go.Proofs.YthelfgagddldfaaGreatDoor
open Go.RowKit
set_option linter.unusedVariables false

theorem eltI : Elt Tryz.prog 48 2 1 8 (.int .i64 0) := Elt.mk' Tryz.underlying48 (by kernel_rfl) rfl (by decide)

end Go.Proofs.YthelfgagddldfaaGreatDoor
