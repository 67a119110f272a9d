/- Walks: runs of equal bytes. -/
import Derived.Test.YtbobehieaaaleaaGreatDoorPkM
import Derived.Test.YtbobehieaaaleaaGreatDoorW10
namespace Go.Proofs.YtbobehieaaaleaaGreatDoor
open Go.RowKit
set_option linter.unusedVariables false

end Go.Proofs.YtbobehieaaaleaaGreatDoor
