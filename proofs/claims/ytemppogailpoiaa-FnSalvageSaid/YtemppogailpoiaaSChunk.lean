/- Walks of the helpers in laws: Chunk. Printed by mk_leaf.py. -/
import Derived.Test.YtemppogailpoiaaMem4
import Derived.Test.YtemppogailpoiaaW2
import Derived.Deep.DeepMust
import Derived.StillTailTactics
import Derived.OpenShut
import Derived.Test.YtemppogailpoiaaMark
import Derived.Lib.SmallJoins
namespace Go.Proofs.Ytemppogailpoiaa
open Go.RowKit Go.ChangeShapes Go.WideShapes Go.Deep

structure DChunk where
  f0 : Int
  f1 : ByteArray
def fChunk (x : DChunk) : List Value := [.int .i64 x.f0, .string x.f1]
theorem fChunk_len (x : DChunk) : (fChunk x).length = 2 := rfl
def vChunk (x : DChunk) : Value := .agg #[.int .i64 x.f0, .string x.f1]
def zChunk (x : DChunk) : List Nat := [x.f1.size]
def okCk (x : DChunk) : Prop := x.f1.size ≤ maxLen ∧ (-9223372036854775808 ≤ x.f0 ∧ x.f0 ≤ 9223372036854775807)

def mqChunk (q : Nat) : DChunk := ⟨(q : Int), mtxt (q + 1)⟩
def mksChunk (k m : Nat) : List DChunk := (List.range m).map fun i => mqChunk (k + 2 * i)
theorem mksChunk_len (k m : Nat) : (mksChunk k m).length = m := by simp [mksChunk]
theorem mksChunk_succ (k m : Nat) : mksChunk k (m + 1) = mksChunk k m ++ [mqChunk (k + 2 * m)] := by simp [mksChunk, List.range_succ]
theorem mksChunk_get (k m i : Nat) (h : i < (mksChunk k m).length) : (mksChunk k m)[i] = mqChunk (k + 2 * i) := by simp [mksChunk]
theorem mksChunk_put (k m : Nat) (l : List DChunk) (h : m < l.length) : putV (flat fChunk (mksChunk k m ++ l.drop m)) (m * 2) (fChunk (mqChunk (k + 2 * m))) = flat fChunk (mksChunk k (m + 1) ++ l.drop (m + 1)) := by
  have := flat_put fChunk 2 fChunk_len (mksChunk k m) (l.drop (m + 1)) l[m] (mqChunk (k + 2 * m))
  rw [mksChunk_len] at this
  rw [List.drop_eq_getElem_cons h, this, mksChunk_succ, List.append_assoc]
  rfl

end Go.Proofs.Ytemppogailpoiaa
