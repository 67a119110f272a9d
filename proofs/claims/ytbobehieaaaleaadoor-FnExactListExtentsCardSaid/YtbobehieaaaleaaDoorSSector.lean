/- Walks of the helpers in laws: Sector. Printed by mk_leaf.py. -/
import Derived.Test.YtbobehieaaaleaaDoorMem4
import Derived.Test.YtbobehieaaaleaaDoorW2
import Derived.Deep.DeepMust
import Derived.StillTailTactics
import Derived.OpenShut
import Derived.Test.YtbobehieaaaleaaDoorMark
import Derived.Lib.SmallJoins
namespace Go.Proofs.YtbobehieaaaleaaDoor
open Go.RowKit Go.ChangeShapes Go.WideShapes Go.Deep

structure DSector where
  f0 : ByteArray
  f1 : Int
def fSector (x : DSector) : List Value := [.string x.f0, .int .i64 x.f1]
theorem fSector_len (x : DSector) : (fSector x).length = 2 := rfl
def vSector (x : DSector) : Value := .agg #[.string x.f0, .int .i64 x.f1]
def zSector (x : DSector) : List Nat := [x.f0.size]
def okSector (x : DSector) : Prop := x.f0.size ≤ maxLen ∧ (-9223372036854775808 ≤ x.f1 ∧ x.f1 ≤ 9223372036854775807)

def tzSector (l : List DSector) : List Nat := l.length :: (l.map zSector).flatten
theorem zSector_drop (l : List DSector) (k : Nat) (hk : k < l.length) : ((l.drop k).map zSector).flatten = zSector l[k] ++ ((l.drop (k + 1)).map zSector).flatten := by
  rw [List.drop_eq_getElem_cons hk, List.map_cons, List.flatten_cons]
def mqSector (q : Nat) : DSector := ⟨mtxt (q), (q : Int) + 1⟩
def mksSector (k m : Nat) : List DSector := (List.range m).map fun i => mqSector (k + 2 * i)
theorem mksSector_len (k m : Nat) : (mksSector k m).length = m := by simp [mksSector]
theorem mksSector_succ (k m : Nat) : mksSector k (m + 1) = mksSector k m ++ [mqSector (k + 2 * m)] := by simp [mksSector, List.range_succ]
theorem mksSector_get (k m i : Nat) (h : i < (mksSector k m).length) : (mksSector k m)[i] = mqSector (k + 2 * i) := by simp [mksSector]
theorem mksSector_put (k m : Nat) (l : List DSector) (h : m < l.length) : putV (flat fSector (mksSector k m ++ l.drop m)) (m * 2) (fSector (mqSector (k + 2 * m))) = flat fSector (mksSector k (m + 1) ++ l.drop (m + 1)) := by
  have := flat_put fSector 2 fSector_len (mksSector k m) (l.drop (m + 1)) l[m] (mqSector (k + 2 * m))
  rw [mksSector_len] at this
  rw [List.drop_eq_getElem_cons h, this, mksSector_succ, List.append_assoc]
  rfl

end Go.Proofs.YtbobehieaaaleaaDoor
