/- Walks: the sectors of a track (impl). -/
import Derived.Test.YtjahgknehamlpaaW31
import Derived.Test.YtjahgknehamlpaaStep
namespace Go.Proofs.Ytjahgknehamlpaa
open Go.RowKit
set_option linter.unusedVariables false

end Go.Proofs.Ytjahgknehamlpaa
