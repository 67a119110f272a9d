/- Walks of the helpers in laws: Disc. Printed by mk_deep.py. -/
import Derived.Test.YtbobehieaaaleaaDoorSSector
import Derived.Test.YtbobehieaaaleaaDoorOpen
import Derived.Test.YtbobehieaaaleaaDoorMem5
namespace Go.Proofs.YtbobehieaaaleaaDoor
open Go.RowKit Go.ChangeShapes Go.WideShapes Go.Deep

def tzDisc (l4 : List DSector) : List Nat := tzSector l4
end Go.Proofs.YtbobehieaaaleaaDoor
