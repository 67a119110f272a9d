/- Walks: PutSector (impl). -/
import Derived.Test.YtipkckoejkmhfabW80
namespace Go.Proofs.Ytipkckoejkmhfab
open Go.RowKit
set_option linter.unusedVariables false

end Go.Proofs.Ytipkckoejkmhfab
