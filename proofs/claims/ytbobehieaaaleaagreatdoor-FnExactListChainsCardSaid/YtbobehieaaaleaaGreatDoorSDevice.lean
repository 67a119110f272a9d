/- Walks of the helpers in laws: Device. Printed by mk_deep.py. -/
import Derived.Test.YtbobehieaaaleaaGreatDoorSDisc
import Derived.Test.YtbobehieaaaleaaGreatDoorSInt64
import Derived.Test.YtbobehieaaaleaaGreatDoorOpen
import Derived.Test.YtbobehieaaaleaaGreatDoorStep
namespace Go.Proofs.YtbobehieaaaleaaGreatDoor
open Go.RowKit Go.ChangeShapes Go.WideShapes Go.Deep

def tzDevice (l4 : List DSector) (l7 : List Int) : List Nat := tzDisc l4 ++ tzInt64 l7
end Go.Proofs.YtbobehieaaaleaaGreatDoor
