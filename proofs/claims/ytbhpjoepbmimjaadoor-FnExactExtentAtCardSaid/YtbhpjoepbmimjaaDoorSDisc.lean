/- Walks of the helpers in laws: Disc. Printed by mk_deep.py. -/
import Derived.Test.YtbhpjoepbmimjaaDoorSSector
import Derived.Test.YtbhpjoepbmimjaaDoorOpen
import Derived.Test.YtbhpjoepbmimjaaDoorMem5
namespace Go.Proofs.YtbhpjoepbmimjaaDoor
open Go.RowKit Go.ChangeShapes Go.WideShapes Go.Deep

def tzDisc (l4 : List DSector) : List Nat := tzSector l4
end Go.Proofs.YtbhpjoepbmimjaaDoor
