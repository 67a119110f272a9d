/- Walks of the helpers in laws: slices of whole numbers: allowance, equality, marks. -/
import Derived.Test.YtbobehieaaaleaaDoorMark
import Derived.Test.YtbobehieaaaleaaDoorW15
import Derived.StillTailTactics
import Derived.Lib.SmallJoins
namespace Go.Proofs.YtbobehieaaaleaaDoor
open Go.RowKit
set_option linter.unusedVariables false

def tzInt64 (l : List Int) : List Nat := [l.length]
def okInt64 (x : Int) : Prop := -9223372036854775808 ≤ x ∧ x ≤ 9223372036854775807
def mksInt64 (k m : Nat) : List Int := (List.range m).map fun i => ((k + i : Nat) : Int)
theorem mksInt64_len (k m : Nat) : (mksInt64 k m).length = m := by simp [mksInt64]
theorem mksInt64_succ (k m : Nat) : mksInt64 k (m + 1) = mksInt64 k m ++ [((k + m : Nat) : Int)] := by simp [mksInt64, List.range_succ]
theorem mksInt64_get (k m i : Nat) (h : i < (mksInt64 k m).length) : (mksInt64 k m)[i] = ((k + i : Nat) : Int) := by simp [mksInt64]
theorem mksInt64_put (k m : Nat) (l : List Int) (h : m < l.length) : (flat fI (mksInt64 k m ++ l.drop m)).set m (.int .i64 ((k + m : Nat) : Int)) = flat fI (mksInt64 k (m + 1) ++ l.drop (m + 1)) := by
  have := flat_put fI 1 fI_len (mksInt64 k m) (l.drop (m + 1)) l[m] ((k + m : Nat) : Int)
  rw [mksInt64_len, Nat.mul_one] at this
  rw [List.drop_eq_getElem_cons h, mksInt64_succ, List.append_assoc]
  exact this

end Go.Proofs.YtbobehieaaaleaaDoor
