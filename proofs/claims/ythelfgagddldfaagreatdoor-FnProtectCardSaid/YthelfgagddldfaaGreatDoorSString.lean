/- Walks of the helpers in laws: slices of strings: copy, allowance, equality. -/
import Derived.Test.YthelfgagddldfaaGreatDoorMark
import Derived.Test.YthelfgagddldfaaGreatDoorW15
import Derived.StillTailTactics
import Derived.Lib.SmallJoins
namespace Go.Proofs.YthelfgagddldfaaGreatDoor
open Go.RowKit
set_option linter.unusedVariables false

theorem eltStr : Elt Tryz.prog 46 9 1 16 (.string ByteArray.empty) := Elt.mk' Tryz.underlying46 (by kernel_rfl) rfl (by decide)
def okString (x : ByteArray) : Prop := x.size ≤ maxLen

def tzString (l : List ByteArray) : List Nat := l.length :: l.map ByteArray.size
end Go.Proofs.YthelfgagddldfaaGreatDoor
