/- Walks of the helpers in laws: Feature. Printed by mk_leaf.py. -/
import Derived.Test.YtkhmchifejfinaaMem4
import Derived.Test.YtkhmchifejfinaaW2
import Derived.Deep.DeepMust
import Derived.StillTailTactics
import Derived.OpenShut
import Derived.Test.YtkhmchifejfinaaMark
import Derived.Lib.SmallJoins
namespace Go.Proofs.Ytkhmchifejfinaa
open Go.RowKit Go.ChangeShapes Go.WideShapes Go.Deep

structure DFeature where
  f0 : Int
  f1 : Int
  f2 : Int
def fFeature (x : DFeature) : List Value := [.int .i64 x.f0, .int .i64 x.f1, .int .i64 x.f2]
theorem fFeature_len (x : DFeature) : (fFeature x).length = 3 := rfl
def vFeature (x : DFeature) : Value := .agg #[.int .i64 x.f0, .int .i64 x.f1, .int .i64 x.f2]
def zFeature (_ : DFeature) : List Nat := []
def okFeature (x : DFeature) : Prop := (-9223372036854775808 ≤ x.f0 ∧ x.f0 ≤ 9223372036854775807) ∧ (-9223372036854775808 ≤ x.f1 ∧ x.f1 ≤ 9223372036854775807) ∧ (-9223372036854775808 ≤ x.f2 ∧ x.f2 ≤ 9223372036854775807)

set_option maxRecDepth 100000 in
set_option maxHeartbeats 1000000 in
theorem toFeature_any (a0 : Int) (a1 : Int) (a2 : Int) (w : World) :
    Calls Try.prog 7 #[.agg #[.int .i64 a0, .int .i64 a1, .int .i64 a2]] w fun e w' => e = .returned (.agg #[.int .i64 a0, .int .i64 a1, .int .i64 a2]) ∧ Below w.heap.size w w' := by
  go_enter Try.func7, Try.ntmps7
  go_wp2
  exact bodyPost_ret (v := .agg #[.int .i64 a0, .int .i64 a1, .int .i64 a2]) (by simp [results, Try.results7, go_sem]) rfl ⟨rfl, (by repeat (first | exact Below.refl _ _ | refine below_step ?_ (by assumption) | assumption | refine Below.drew ?_ | refine below_drewN ?_ _ | refine below_alloc ?_ _ | refine Below.setCell ?_ (by simp; try omega) _))⟩
end Go.Proofs.Ytkhmchifejfinaa
