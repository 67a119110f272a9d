/- Walks of the laws' own helpers: slices of whole numbers. -/
import Derived.Test.YtemppogailpoiaaMem4
import Derived.Test.YtemppogailpoiaaW2
import Derived.Deep.DeepMust
namespace Go.Proofs.Ytemppogailpoiaa
open Go.RowKit
set_option linter.unusedVariables false

theorem eltI : Elt Try.prog 110 2 1 8 (.int .i64 0) := Elt.mk' Try.underlying110 (by kernel_rfl) rfl (by decide)

end Go.Proofs.Ytemppogailpoiaa
