/- Walks of the helpers in laws: Device. Printed by mk_deep.py. -/
import Derived.Test.YtjjcedodjoieoaaSDisc
import Derived.Test.YtjjcedodjoieoaaSInt64
import Derived.Test.YtjjcedodjoieoaaOpen
import Derived.Test.YtjjcedodjoieoaaStep
namespace Go.Proofs.Ytjjcedodjoieoaa
open Go.RowKit Go.ChangeShapes Go.WideShapes Go.Deep

def tzDevice (l4 : List DSector) (l7 : List Int) : List Nat := tzDisc l4 ++ tzInt64 l7
end Go.Proofs.Ytjjcedodjoieoaa
