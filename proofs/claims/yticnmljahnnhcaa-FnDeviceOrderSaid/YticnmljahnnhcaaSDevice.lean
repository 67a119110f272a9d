/- Walks of the helpers in laws: Device. Printed by mk_deep.py. -/
import Derived.Test.YticnmljahnnhcaaSDisc
import Derived.Test.YticnmljahnnhcaaSInt64
import Derived.Test.YticnmljahnnhcaaOpen
import Derived.Test.YticnmljahnnhcaaStep
namespace Go.Proofs.Yticnmljahnnhcaa
open Go.RowKit Go.ChangeShapes Go.WideShapes Go.Deep

def tzDevice (l4 : List DSector) (l7 : List Int) : List Nat := tzDisc l4 ++ tzInt64 l7
end Go.Proofs.Yticnmljahnnhcaa
