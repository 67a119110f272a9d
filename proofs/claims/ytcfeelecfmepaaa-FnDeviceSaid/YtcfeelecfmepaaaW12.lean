/- Walks: runs of equal bytes. -/
import Derived.Test.YtcfeelecfmepaaaPkM
import Derived.Test.YtcfeelecfmepaaaW10
namespace Go.Proofs.Ytcfeelecfmepaaa
open Go.RowKit
set_option linter.unusedVariables false

end Go.Proofs.Ytcfeelecfmepaaa
