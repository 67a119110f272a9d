/- Walks of the helpers in laws: Feature. Printed by mk_leaf.py. -/
import Derived.Test.YthelfgagddldfaaGreatDoorMem4
import Derived.Test.YthelfgagddldfaaGreatDoorW2
import Derived.Deep.DeepMust
import Derived.StillTailTactics
import Derived.OpenShut
import Derived.Test.YthelfgagddldfaaGreatDoorMark
import Derived.Lib.SmallJoins
namespace Go.Proofs.YthelfgagddldfaaGreatDoor
open Go.RowKit Go.ChangeShapes Go.WideShapes Go.Deep

structure DFeature where
  f0 : Int
  f1 : Int
  f2 : Int
def fFeature (x : DFeature) : List Value := [.int .i64 x.f0, .int .i64 x.f1, .int .i64 x.f2]
theorem fFeature_len (x : DFeature) : (fFeature x).length = 3 := rfl
def vFeature (x : DFeature) : Value := .agg #[.int .i64 x.f0, .int .i64 x.f1, .int .i64 x.f2]
def zFeature (_ : DFeature) : List Nat := []
def okFeature (x : DFeature) : Prop := (-9223372036854775808 ≤ x.f0 ∧ x.f0 ≤ 9223372036854775807) ∧ (-9223372036854775808 ≤ x.f1 ∧ x.f1 ≤ 9223372036854775807) ∧ (-9223372036854775808 ≤ x.f2 ∧ x.f2 ≤ 9223372036854775807)

end Go.Proofs.YthelfgagddldfaaGreatDoor
