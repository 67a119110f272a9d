/- Walks of the laws' own helpers: slices of whole numbers. -/
import Derived.Test.YtcfeelecfmepaaaMem4
import Derived.Test.YtcfeelecfmepaaaW2
import Derived.Deep.DeepMust
namespace Go.Proofs.Ytcfeelecfmepaaa
open Go.RowKit
set_option linter.unusedVariables false

theorem eltI : Elt Try.prog 27 2 1 8 (.int .i64 0) := Elt.mk' Try.underlying27 (by kernel_rfl) rfl (by decide)

end Go.Proofs.Ytcfeelecfmepaaa
