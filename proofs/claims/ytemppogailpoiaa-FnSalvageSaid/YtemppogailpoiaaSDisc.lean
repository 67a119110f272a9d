/- Walks of the helpers in laws: Disc. Printed by mk_deep.py. -/
import Derived.Test.YtemppogailpoiaaSSector
import Derived.Test.YtemppogailpoiaaOpen
import Derived.Test.YtemppogailpoiaaMem5
namespace Go.Proofs.Ytemppogailpoiaa
open Go.RowKit Go.ChangeShapes Go.WideShapes Go.Deep

def tzDisc (l4 : List DSector) : List Nat := tzSector l4
end Go.Proofs.Ytemppogailpoiaa
