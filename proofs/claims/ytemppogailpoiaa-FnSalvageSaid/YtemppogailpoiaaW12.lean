/- Walks: runs of equal bytes. -/
import Derived.Test.YtemppogailpoiaaPkM
import Derived.Test.YtemppogailpoiaaW10
namespace Go.Proofs.Ytemppogailpoiaa
open Go.RowKit
set_option linter.unusedVariables false

end Go.Proofs.Ytemppogailpoiaa
