/- Walks: runs of equal bytes. -/
import Derived.Test.YtipkckoejkmhfabPkM
import Derived.Test.YtipkckoejkmhfabW10
namespace Go.Proofs.Ytipkckoejkmhfab
open Go.RowKit
set_option linter.unusedVariables false

end Go.Proofs.Ytipkckoejkmhfab
