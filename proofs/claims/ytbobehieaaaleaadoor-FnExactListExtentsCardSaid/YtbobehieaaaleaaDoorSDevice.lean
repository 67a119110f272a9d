/- Walks of the helpers in laws: Device. Printed by mk_deep.py. -/
import Derived.Test.YtbobehieaaaleaaDoorSDisc
import Derived.Test.YtbobehieaaaleaaDoorSInt64
import Derived.Test.YtbobehieaaaleaaDoorOpen
import Derived.Test.YtbobehieaaaleaaDoorStep
namespace Go.Proofs.YtbobehieaaaleaaDoor
open Go.RowKit Go.ChangeShapes Go.WideShapes Go.Deep

def tzDevice (l4 : List DSector) (l7 : List Int) : List Nat := tzDisc l4 ++ tzInt64 l7
end Go.Proofs.YtbobehieaaaleaaDoor
