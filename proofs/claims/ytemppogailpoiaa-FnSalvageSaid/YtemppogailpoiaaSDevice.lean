/- Walks of the helpers in laws: Device. Printed by mk_deep.py. -/
import Derived.Test.YtemppogailpoiaaSDisc
import Derived.Test.YtemppogailpoiaaSInt64
import Derived.Test.YtemppogailpoiaaOpen
import Derived.Test.YtemppogailpoiaaStep
namespace Go.Proofs.Ytemppogailpoiaa
open Go.RowKit Go.ChangeShapes Go.WideShapes Go.Deep

def tzDevice (l4 : List DSector) (l7 : List Int) : List Nat := tzDisc l4 ++ tzInt64 l7
end Go.Proofs.Ytemppogailpoiaa
