/- Walks of the laws' own helpers: slices of whole numbers. -/
import Derived.Test.YtbobehieaaaleaaDoorMem4
import Derived.Test.YtbobehieaaaleaaDoorW2
import Derived.Deep.DeepMust
namespace Go.Proofs.YtbobehieaaaleaaDoor
open Go.RowKit
set_option linter.unusedVariables false

theorem eltI : Elt Tryd.prog 55 2 1 8 (.int .i64 0) := Elt.mk' Tryd.underlying55 (by kernel_rfl) rfl (by decide)

end Go.Proofs.YtbobehieaaaleaaDoor
