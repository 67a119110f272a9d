/- Walks: LayoutOf, LinkAt. -/
import Derived.Test.YtbhpjoepbmimjaaDoorW98
namespace Go.Proofs.YtbhpjoepbmimjaaDoor
open Go.RowKit
set_option linter.unusedVariables false

def loN (ok : Bool) (v : Nat) : Int := if ok then (v : Int) else 0
def okC (l : List ByteArray) : Bool := decide (chC l = 0)
end Go.Proofs.YtbhpjoepbmimjaaDoor
