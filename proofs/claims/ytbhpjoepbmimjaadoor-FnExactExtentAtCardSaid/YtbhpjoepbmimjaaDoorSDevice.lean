/- Walks of the helpers in laws: Device. Printed by mk_deep.py. -/
import Derived.Test.YtbhpjoepbmimjaaDoorSDisc
import Derived.Test.YtbhpjoepbmimjaaDoorSInt64
import Derived.Test.YtbhpjoepbmimjaaDoorOpen
import Derived.Test.YtbhpjoepbmimjaaDoorStep
namespace Go.Proofs.YtbhpjoepbmimjaaDoor
open Go.RowKit Go.ChangeShapes Go.WideShapes Go.Deep

def tzDevice (l4 : List DSector) (l7 : List Int) : List Nat := tzDisc l4 ++ tzInt64 l7
end Go.Proofs.YtbhpjoepbmimjaaDoor
