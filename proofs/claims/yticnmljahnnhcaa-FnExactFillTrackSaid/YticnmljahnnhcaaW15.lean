/- Walks of the laws' own helpers: slices of whole numbers. -/
import Derived.Test.YticnmljahnnhcaaMem4
import Derived.Test.YticnmljahnnhcaaW2
import Derived.Deep.DeepMust
namespace Go.Proofs.Yticnmljahnnhcaa
open Go.RowKit
set_option linter.unusedVariables false

theorem eltI : Elt Try.prog 29 2 1 8 (.int .i64 0) := Elt.mk' Try.underlying29 (by kernel_rfl) rfl (by decide)

end Go.Proofs.Yticnmljahnnhcaa
