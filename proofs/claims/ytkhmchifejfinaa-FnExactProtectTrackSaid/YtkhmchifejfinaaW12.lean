/- Walks: runs of equal bytes. -/
import Derived.Test.YtkhmchifejfinaaPkM
import Derived.Test.YtkhmchifejfinaaW10
namespace Go.Proofs.Ytkhmchifejfinaa
open Go.RowKit
set_option linter.unusedVariables false

end Go.Proofs.Ytkhmchifejfinaa
