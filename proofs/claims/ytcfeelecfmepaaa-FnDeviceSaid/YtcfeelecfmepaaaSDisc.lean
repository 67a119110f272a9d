/- Walks of the helpers in laws: Disc. Printed by mk_deep.py. -/
import Derived.Test.YtcfeelecfmepaaaSSector
import Derived.Test.YtcfeelecfmepaaaOpen
import Derived.Test.YtcfeelecfmepaaaMem5
namespace Go.Proofs.Ytcfeelecfmepaaa
open Go.RowKit Go.ChangeShapes Go.WideShapes Go.Deep

def tzDisc (l4 : List DSector) : List Nat := tzSector l4
end Go.Proofs.Ytcfeelecfmepaaa
