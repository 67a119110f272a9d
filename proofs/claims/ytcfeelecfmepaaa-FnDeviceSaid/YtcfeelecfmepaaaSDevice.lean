/- Walks of the helpers in laws: Device. Printed by mk_deep.py. -/
import Derived.Test.YtcfeelecfmepaaaSDisc
import Derived.Test.YtcfeelecfmepaaaSInt64
import Derived.Test.YtcfeelecfmepaaaOpen
import Derived.Test.YtcfeelecfmepaaaStep
namespace Go.Proofs.Ytcfeelecfmepaaa
open Go.RowKit Go.ChangeShapes Go.WideShapes Go.Deep

def tzDevice (l4 : List DSector) (l7 : List Int) : List Nat := tzDisc l4 ++ tzInt64 l7
end Go.Proofs.Ytcfeelecfmepaaa
