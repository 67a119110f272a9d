/- Walks: runs of equal bytes. -/
import Derived.Test.YtlfmpgfobkmgfaaGreatDoorPkM
import Derived.Test.YtlfmpgfobkmgfaaGreatDoorW10
namespace Go.Proofs.YtlfmpgfobkmgfaaGreatDoor
open Go.RowKit
set_option linter.unusedVariables false

end Go.Proofs.YtlfmpgfobkmgfaaGreatDoor
