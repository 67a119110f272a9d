/- Walks of the helpers in laws: Disc. Printed by mk_deep.py. -/
import Derived.Test.YtjahgknehamlpaaSSector
import Derived.Test.YtjahgknehamlpaaOpen
import Derived.Test.YtjahgknehamlpaaMem5
namespace Go.Proofs.Ytjahgknehamlpaa
open Go.RowKit Go.ChangeShapes Go.WideShapes Go.Deep

def tzDisc (l4 : List DSector) : List Nat := tzSector l4
end Go.Proofs.Ytjahgknehamlpaa
