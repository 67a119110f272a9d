/- Walks of the laws' own helpers: slices of whole numbers. -/
import Derived.Test.YtjcghghhpmghhaaDoorMem4
import Derived.Test.YtjcghghhpmghhaaDoorW2
import Derived.Deep.DeepMust
namespace Go.Proofs.YtjcghghhpmghhaaDoor
open Go.RowKit
set_option linter.unusedVariables false

theorem eltI : Elt Tryd.prog 34 2 1 8 (.int .i64 0) := Elt.mk' Tryd.underlying34 (by kernel_rfl) rfl (by decide)

end Go.Proofs.YtjcghghhpmghhaaDoor
