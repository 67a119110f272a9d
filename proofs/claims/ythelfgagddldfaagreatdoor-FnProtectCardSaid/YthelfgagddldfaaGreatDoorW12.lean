/- Walks: runs of equal bytes. -/
import Derived.Test.YthelfgagddldfaaGreatDoorPkM
import Derived.Test.YthelfgagddldfaaGreatDoorW10
namespace Go.Proofs.YthelfgagddldfaaGreatDoor
open Go.RowKit
set_option linter.unusedVariables false

end Go.Proofs.YthelfgagddldfaaGreatDoor
