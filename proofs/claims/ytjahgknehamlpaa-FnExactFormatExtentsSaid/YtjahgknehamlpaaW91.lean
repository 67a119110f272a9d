/- Walks: the layout and the header of a disk of chains (2). -/
import Derived.Test.YtjahgknehamlpaaW90
import Derived.Test.YtjahgknehamlpaaPut
import Derived.Test.YtjahgknehamlpaaW70
namespace Go.Proofs.Ytjahgknehamlpaa
open Go.RowKit
set_option linter.unusedVariables false

theorem i_nat (x : Nat) (h : x ≤ 1000000) : IntKind.i64.wrap (x : Int) = (x : Int) := IntWalk.i64_in _ (by omega)
end Go.Proofs.Ytjahgknehamlpaa
