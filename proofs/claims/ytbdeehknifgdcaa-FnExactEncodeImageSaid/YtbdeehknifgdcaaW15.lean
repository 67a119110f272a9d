/- Walks of the laws' own helpers: slices of whole numbers. -/
import Derived.Test.YtbdeehknifgdcaaMem4
import Derived.Test.YtbdeehknifgdcaaW2
import Derived.Deep.DeepMust
namespace Go.Proofs.Ytbdeehknifgdcaa
open Go.RowKit
set_option linter.unusedVariables false

end Go.Proofs.Ytbdeehknifgdcaa
