/- Walks: runs of equal bytes. -/
import Derived.Test.YtcoidpooghmppaaPkM
import Derived.Test.YtcoidpooghmppaaW10
namespace Go.Proofs.Ytcoidpooghmppaa
open Go.RowKit
set_option linter.unusedVariables false

end Go.Proofs.Ytcoidpooghmppaa
