/- Walks of small functions of numbers. -/
import Derived.Test.YtgilmdohlacknaaRows
import Derived.WalkKit
import Derived.WalkSpells
import Derived.WalkLawsBesides
namespace Go.Proofs.Ytgilmdohlacknaa
open Go.RowKit
set_option linter.unusedVariables false

def inB (x lo hi : Int) : Bool := decide (lo ≤ x) && decide (x ≤ hi)
def szB (n : Int) : Int := 8 * 2 ^ n.toNat

end Go.Proofs.Ytgilmdohlacknaa
