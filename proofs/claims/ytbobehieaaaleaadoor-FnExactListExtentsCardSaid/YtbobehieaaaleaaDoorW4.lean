/- Walks: chunks: what is a valid chunk; check values; words. -/
import Derived.Test.YtbobehieaaaleaaDoorW2
import Derived.Test.YtbobehieaaaleaaDoorMem
namespace Go.Proofs.YtbobehieaaaleaaDoor
open Go.RowKit
set_option linter.unusedVariables false

/-- What is left of an allowance. -/
def subN (l : Int) (n : Nat) : Int := if l - n < 0 then -1 else l - n
def okChunk (k : Int) (s : ByteArray) : Bool := inB k 1 4 && decide (s.size ≤ 8192)

end Go.Proofs.YtbobehieaaaleaaDoor
