/- Walks: runs of equal bytes. -/
import Derived.Test.YtipkckoejkmhfaaPkM
import Derived.Test.YtipkckoejkmhfaaW10
namespace Go.Proofs.Ytipkckoejkmhfaa
open Go.RowKit
set_option linter.unusedVariables false

end Go.Proofs.Ytipkckoejkmhfaa
