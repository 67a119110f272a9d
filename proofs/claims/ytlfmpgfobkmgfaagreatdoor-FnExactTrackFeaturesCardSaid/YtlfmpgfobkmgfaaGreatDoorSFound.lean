/- Walks of the helpers in laws: Found. Printed by mk_leaf.py. -/
import Derived.Test.YtlfmpgfobkmgfaaGreatDoorMem4
import Derived.Test.YtlfmpgfobkmgfaaGreatDoorW2
import Derived.Deep.DeepMust
import Derived.StillTailTactics
import Derived.OpenShut
import Derived.Test.YtlfmpgfobkmgfaaGreatDoorMark
import Derived.Lib.SmallJoins
namespace Go.Proofs.YtlfmpgfobkmgfaaGreatDoor
open Go.RowKit Go.ChangeShapes Go.WideShapes Go.Deep

structure DFound where
  f0 : Int
  f1 : Int
  f2 : Int
  f3 : Int
  f4 : ByteArray
  f5 : Int
  f6 : Bool
  f7 : Int
def fFound (x : DFound) : List Value := [.int .i64 x.f0, .int .i64 x.f1, .int .i64 x.f2, .int .i64 x.f3, .string x.f4, .int .i64 x.f5, .bool x.f6, .int .i64 x.f7]
theorem fFound_len (x : DFound) : (fFound x).length = 8 := rfl
def vFound (x : DFound) : Value := .agg #[.int .i64 x.f0, .int .i64 x.f1, .int .i64 x.f2, .int .i64 x.f3, .string x.f4, .int .i64 x.f5, .bool x.f6, .int .i64 x.f7]
def zFound (x : DFound) : List Nat := [x.f4.size]
def okFound (x : DFound) : Prop := x.f4.size ≤ maxLen ∧ (-9223372036854775808 ≤ x.f0 ∧ x.f0 ≤ 9223372036854775807) ∧ (-9223372036854775808 ≤ x.f1 ∧ x.f1 ≤ 9223372036854775807) ∧ (-9223372036854775808 ≤ x.f2 ∧ x.f2 ≤ 9223372036854775807) ∧ (-9223372036854775808 ≤ x.f3 ∧ x.f3 ≤ 9223372036854775807) ∧ (-9223372036854775808 ≤ x.f5 ∧ x.f5 ≤ 9223372036854775807) ∧ (-9223372036854775808 ≤ x.f7 ∧ x.f7 ≤ 9223372036854775807)

theorem eltFound : Elt Tryz.prog 28 45 8 72 (.agg #[.int .i64 0, .int .i64 0, .int .i64 0, .int .i64 0, .string ByteArray.empty, .int .i64 0, .bool false, .int .i64 0]) := Elt.mk' Tryz.underlying28 (by kernel_rfl) rfl (by decide)

def tzFound (l : List DFound) : List Nat := l.length :: (l.map zFound).flatten
theorem zFound_drop (l : List DFound) (k : Nat) (hk : k < l.length) : ((l.drop k).map zFound).flatten = zFound l[k] ++ ((l.drop (k + 1)).map zFound).flatten := by
  rw [List.drop_eq_getElem_cons hk, List.map_cons, List.flatten_cons]
def mqFound (q : Nat) : DFound := ⟨(q : Int), (q : Int) + 1, (q : Int) + 2, (q : Int) + 3, mtxt (q + 4), (q : Int) + 5, decide (((q : Int) + 6).tmod 3 = 0), (q : Int) + 7⟩
def mksFound (k m : Nat) : List DFound := (List.range m).map fun i => mqFound (k + 8 * i)
theorem mksFound_len (k m : Nat) : (mksFound k m).length = m := by simp [mksFound]
theorem mksFound_succ (k m : Nat) : mksFound k (m + 1) = mksFound k m ++ [mqFound (k + 8 * m)] := by simp [mksFound, List.range_succ]
theorem mksFound_get (k m i : Nat) (h : i < (mksFound k m).length) : (mksFound k m)[i] = mqFound (k + 8 * i) := by simp [mksFound]
theorem mksFound_put (k m : Nat) (l : List DFound) (h : m < l.length) : putV (flat fFound (mksFound k m ++ l.drop m)) (m * 8) (fFound (mqFound (k + 8 * m))) = flat fFound (mksFound k (m + 1) ++ l.drop (m + 1)) := by
  have := flat_put fFound 8 fFound_len (mksFound k m) (l.drop (m + 1)) l[m] (mqFound (k + 8 * m))
  rw [mksFound_len] at this
  rw [List.drop_eq_getElem_cons h, this, mksFound_succ, List.append_assoc]
  rfl

end Go.Proofs.YtlfmpgfobkmgfaaGreatDoor
