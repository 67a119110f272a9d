/- Walks of the helpers in laws: ChainEntry. Printed by mk_leaf.py. -/
import Derived.Test.YtbobehieaaaleaaDoorMem4
import Derived.Test.YtbobehieaaaleaaDoorW2
import Derived.Deep.DeepMust
import Derived.StillTailTactics
import Derived.OpenShut
import Derived.Test.YtbobehieaaaleaaDoorMark
import Derived.Lib.SmallJoins
namespace Go.Proofs.YtbobehieaaaleaaDoor
open Go.RowKit Go.ChangeShapes Go.WideShapes Go.Deep

structure DChainEntry where
  f0 : ByteArray
  f1 : Int
  f2 : Int
  f3 : Bool
  f4 : Bool
def fChainEntry (x : DChainEntry) : List Value := [.string x.f0, .int .i64 x.f1, .int .i64 x.f2, .bool x.f3, .bool x.f4]
theorem fChainEntry_len (x : DChainEntry) : (fChainEntry x).length = 5 := rfl
def vChainEntry (x : DChainEntry) : Value := .agg #[.string x.f0, .int .i64 x.f1, .int .i64 x.f2, .bool x.f3, .bool x.f4]
def zChainEntry (x : DChainEntry) : List Nat := [x.f0.size]
def okChainEntry (x : DChainEntry) : Prop := x.f0.size ≤ maxLen ∧ (-9223372036854775808 ≤ x.f1 ∧ x.f1 ≤ 9223372036854775807) ∧ (-9223372036854775808 ≤ x.f2 ∧ x.f2 ≤ 9223372036854775807)

set_option maxRecDepth 100000 in
set_option maxHeartbeats 1000000 in
theorem eqChainEntry_any (a0 : ByteArray) (a1 : Int) (a2 : Int) (a3 : Bool) (a4 : Bool) (w : World) :
    Calls Tryd.prog 9 #[.agg #[.string a0, .int .i64 a1, .int .i64 a2, .bool a3, .bool a4], .agg #[.string a0, .int .i64 a1, .int .i64 a2, .bool a3, .bool a4]] w fun e w' => e = .returned (.bool true) ∧ Below w.heap.size w w' := by
  go_enter Tryd.func9, Tryd.ntmps9
  go_wp2
  go_ret
  exact ⟨rfl, (by repeat (first | exact Below.refl _ _ | refine below_step ?_ (by assumption) | assumption | refine Below.drew ?_ | refine below_drewN ?_ _ | refine below_alloc ?_ _ | refine Below.setCell ?_ (by simp; try omega) _))⟩
end Go.Proofs.YtbobehieaaaleaaDoor
