/- Walks of the helpers in laws: Delta. Printed by mk_leaf.py. -/
import Derived.Test.YtjahgknehamlpaaMem4
import Derived.Test.YtjahgknehamlpaaW2
import Derived.Deep.DeepMust
import Derived.StillTailTactics
import Derived.OpenShut
import Derived.Test.YtjahgknehamlpaaMark
import Derived.Lib.SmallJoins
namespace Go.Proofs.Ytjahgknehamlpaa
open Go.RowKit Go.ChangeShapes Go.WideShapes Go.Deep

structure DDelta where
  f0 : Int
  f1 : ByteArray
def fDelta (x : DDelta) : List Value := [.int .i64 x.f0, .string x.f1]
theorem fDelta_len (x : DDelta) : (fDelta x).length = 2 := rfl
def vDelta (x : DDelta) : Value := .agg #[.int .i64 x.f0, .string x.f1]
def zDelta (x : DDelta) : List Nat := [x.f1.size]
def okDelta (x : DDelta) : Prop := x.f1.size ≤ maxLen ∧ (-9223372036854775808 ≤ x.f0 ∧ x.f0 ≤ 9223372036854775807)

theorem eltDelta : Elt Try.prog 53 90 2 24 (.agg #[.int .i64 0, .string ByteArray.empty]) := Elt.mk' Try.underlying53 (by kernel_rfl) rfl (by decide)

def tzDelta (l : List DDelta) : List Nat := l.length :: (l.map zDelta).flatten
theorem zDelta_drop (l : List DDelta) (k : Nat) (hk : k < l.length) : ((l.drop k).map zDelta).flatten = zDelta l[k] ++ ((l.drop (k + 1)).map zDelta).flatten := by
  rw [List.drop_eq_getElem_cons hk, List.map_cons, List.flatten_cons]
def mqDelta (q : Nat) : DDelta := ⟨(q : Int), mtxt (q + 1)⟩
def mksDelta (k m : Nat) : List DDelta := (List.range m).map fun i => mqDelta (k + 2 * i)
theorem mksDelta_len (k m : Nat) : (mksDelta k m).length = m := by simp [mksDelta]
theorem mksDelta_succ (k m : Nat) : mksDelta k (m + 1) = mksDelta k m ++ [mqDelta (k + 2 * m)] := by simp [mksDelta, List.range_succ]
theorem mksDelta_get (k m i : Nat) (h : i < (mksDelta k m).length) : (mksDelta k m)[i] = mqDelta (k + 2 * i) := by simp [mksDelta]
theorem mksDelta_put (k m : Nat) (l : List DDelta) (h : m < l.length) : putV (flat fDelta (mksDelta k m ++ l.drop m)) (m * 2) (fDelta (mqDelta (k + 2 * m))) = flat fDelta (mksDelta k (m + 1) ++ l.drop (m + 1)) := by
  have := flat_put fDelta 2 fDelta_len (mksDelta k m) (l.drop (m + 1)) l[m] (mqDelta (k + 2 * m))
  rw [mksDelta_len] at this
  rw [List.drop_eq_getElem_cons h, this, mksDelta_succ, List.append_assoc]
  rfl

end Go.Proofs.Ytjahgknehamlpaa
