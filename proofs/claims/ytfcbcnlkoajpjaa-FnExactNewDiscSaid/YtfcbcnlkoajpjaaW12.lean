/- Walks: runs of equal bytes. -/
import Derived.Test.YtfcbcnlkoajpjaaPkM
import Derived.Test.YtfcbcnlkoajpjaaW10
namespace Go.Proofs.Ytfcbcnlkoajpjaa
open Go.RowKit
set_option linter.unusedVariables false

end Go.Proofs.Ytfcbcnlkoajpjaa
