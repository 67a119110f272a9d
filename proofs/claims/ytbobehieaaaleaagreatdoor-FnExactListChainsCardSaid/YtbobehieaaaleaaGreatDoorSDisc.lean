/- Walks of the helpers in laws: Disc. Printed by mk_deep.py. -/
import Derived.Test.YtbobehieaaaleaaGreatDoorSSector
import Derived.Test.YtbobehieaaaleaaGreatDoorOpen
import Derived.Test.YtbobehieaaaleaaGreatDoorMem5
namespace Go.Proofs.YtbobehieaaaleaaGreatDoor
open Go.RowKit Go.ChangeShapes Go.WideShapes Go.Deep

def tzDisc (l4 : List DSector) : List Nat := tzSector l4
end Go.Proofs.YtbobehieaaaleaaGreatDoor
