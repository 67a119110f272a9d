/- Walks of the helpers in laws: SectorSpec. Printed by mk_leaf.py. -/
import Derived.Test.YthelfgagddldfaaGreatDoorMem4
import Derived.Test.YthelfgagddldfaaGreatDoorW2
import Derived.Deep.DeepMust
import Derived.StillTailTactics
import Derived.OpenShut
import Derived.Test.YthelfgagddldfaaGreatDoorMark
import Derived.Lib.SmallJoins
namespace Go.Proofs.YthelfgagddldfaaGreatDoor
open Go.RowKit Go.ChangeShapes Go.WideShapes Go.Deep

structure DSectorSpec where
  f0 : Int
  f1 : Int
  f2 : Int
  f3 : Int
  f4 : ByteArray
  f5 : Bool
  f6 : Bool
  f7 : Bool
def fSectorSpec (x : DSectorSpec) : List Value := [.int .i64 x.f0, .int .i64 x.f1, .int .i64 x.f2, .int .i64 x.f3, .string x.f4, .bool x.f5, .bool x.f6, .bool x.f7]
theorem fSectorSpec_len (x : DSectorSpec) : (fSectorSpec x).length = 8 := rfl
def vSectorSpec (x : DSectorSpec) : Value := .agg #[.int .i64 x.f0, .int .i64 x.f1, .int .i64 x.f2, .int .i64 x.f3, .string x.f4, .bool x.f5, .bool x.f6, .bool x.f7]
def zSectorSpec (x : DSectorSpec) : List Nat := [x.f4.size]
def okSectorSpec (x : DSectorSpec) : Prop := x.f4.size ≤ maxLen ∧ (-9223372036854775808 ≤ x.f0 ∧ x.f0 ≤ 9223372036854775807) ∧ (-9223372036854775808 ≤ x.f1 ∧ x.f1 ≤ 9223372036854775807) ∧ (-9223372036854775808 ≤ x.f2 ∧ x.f2 ≤ 9223372036854775807) ∧ (-9223372036854775808 ≤ x.f3 ∧ x.f3 ≤ 9223372036854775807)

theorem eltSectorSpec : Elt Tryz.prog 24 41 8 56 (.agg #[.int .i64 0, .int .i64 0, .int .i64 0, .int .i64 0, .string ByteArray.empty, .bool false, .bool false, .bool false]) := Elt.mk' Tryz.underlying24 (by kernel_rfl) rfl (by decide)

def tzSectorSpec (l : List DSectorSpec) : List Nat := l.length :: (l.map zSectorSpec).flatten
theorem zSectorSpec_drop (l : List DSectorSpec) (k : Nat) (hk : k < l.length) : ((l.drop k).map zSectorSpec).flatten = zSectorSpec l[k] ++ ((l.drop (k + 1)).map zSectorSpec).flatten := by
  rw [List.drop_eq_getElem_cons hk, List.map_cons, List.flatten_cons]
def mqSectorSpec (q : Nat) : DSectorSpec := ⟨(q : Int), (q : Int) + 1, (q : Int) + 2, (q : Int) + 3, mtxt (q + 4), decide (((q : Int) + 5).tmod 3 = 0), decide (((q : Int) + 6).tmod 3 = 0), decide (((q : Int) + 7).tmod 3 = 0)⟩
def mksSectorSpec (k m : Nat) : List DSectorSpec := (List.range m).map fun i => mqSectorSpec (k + 8 * i)
theorem mksSectorSpec_len (k m : Nat) : (mksSectorSpec k m).length = m := by simp [mksSectorSpec]
theorem mksSectorSpec_succ (k m : Nat) : mksSectorSpec k (m + 1) = mksSectorSpec k m ++ [mqSectorSpec (k + 8 * m)] := by simp [mksSectorSpec, List.range_succ]
theorem mksSectorSpec_get (k m i : Nat) (h : i < (mksSectorSpec k m).length) : (mksSectorSpec k m)[i] = mqSectorSpec (k + 8 * i) := by simp [mksSectorSpec]
theorem mksSectorSpec_put (k m : Nat) (l : List DSectorSpec) (h : m < l.length) : putV (flat fSectorSpec (mksSectorSpec k m ++ l.drop m)) (m * 8) (fSectorSpec (mqSectorSpec (k + 8 * m))) = flat fSectorSpec (mksSectorSpec k (m + 1) ++ l.drop (m + 1)) := by
  have := flat_put fSectorSpec 8 fSectorSpec_len (mksSectorSpec k m) (l.drop (m + 1)) l[m] (mqSectorSpec (k + 8 * m))
  rw [mksSectorSpec_len] at this
  rw [List.drop_eq_getElem_cons h, this, mksSectorSpec_succ, List.append_assoc]
  rfl

end Go.Proofs.YthelfgagddldfaaGreatDoor
