/- Walks of the helpers in laws: Device. Printed by mk_deep.py. -/
import Derived.Test.YtjahgknehamlpaaSDisc
import Derived.Test.YtjahgknehamlpaaSInt64
import Derived.Test.YtjahgknehamlpaaOpen
import Derived.Test.YtjahgknehamlpaaStep
namespace Go.Proofs.Ytjahgknehamlpaa
open Go.RowKit Go.ChangeShapes Go.WideShapes Go.Deep

def tzDevice (l4 : List DSector) (l7 : List Int) : List Nat := tzDisc l4 ++ tzInt64 l7
end Go.Proofs.Ytjahgknehamlpaa
