/- Walks of the laws' own helpers: slices of whole numbers. -/
import Derived.Test.YtbobehieaaaleaaGreatDoorMem4
import Derived.Test.YtbobehieaaaleaaGreatDoorW2
import Derived.Deep.DeepMust
namespace Go.Proofs.YtbobehieaaaleaaGreatDoor
open Go.RowKit
set_option linter.unusedVariables false

theorem eltI : Elt Tryz.prog 68 2 1 8 (.int .i64 0) := Elt.mk' Tryz.underlying68 (by kernel_rfl) rfl (by decide)

end Go.Proofs.YtbobehieaaaleaaGreatDoor
