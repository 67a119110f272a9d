/- Walks: ValidDisc. -/
import Derived.Test.YtbobehieaaaleaaGreatDoorW31
namespace Go.Proofs.YtbobehieaaaleaaGreatDoor
open Go.RowKit
set_option linter.unusedVariables false

end Go.Proofs.YtbobehieaaaleaaGreatDoor
