/- Walks: runs of equal bytes. -/
import Derived.Test.YtbdeehknifgdcaaPkM
import Derived.Test.YtbdeehknifgdcaaW10
namespace Go.Proofs.Ytbdeehknifgdcaa
open Go.RowKit
set_option linter.unusedVariables false

end Go.Proofs.Ytbdeehknifgdcaa
