/- Walks of the helpers in laws: Device. Printed by mk_deep.py. -/
import Derived.Test.YtbdeehknifgdcaaSDisc
import Derived.Test.YtbdeehknifgdcaaSInt64
import Derived.Test.YtbdeehknifgdcaaOpen
import Derived.Test.YtbdeehknifgdcaaStep
namespace Go.Proofs.Ytbdeehknifgdcaa
open Go.RowKit Go.ChangeShapes Go.WideShapes Go.Deep

def tzDevice (l4 : List DSector) (l7 : List Int) : List Nat := tzDisc l4 ++ tzInt64 l7
end Go.Proofs.Ytbdeehknifgdcaa
