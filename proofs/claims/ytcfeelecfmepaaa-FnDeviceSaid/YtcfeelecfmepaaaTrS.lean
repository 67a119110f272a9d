/- Walks: the sectors of a track (impl). -/
import Derived.Test.YtcfeelecfmepaaaW31
import Derived.Test.YtcfeelecfmepaaaStep
namespace Go.Proofs.Ytcfeelecfmepaaa
open Go.RowKit
set_option linter.unusedVariables false

end Go.Proofs.Ytcfeelecfmepaaa
