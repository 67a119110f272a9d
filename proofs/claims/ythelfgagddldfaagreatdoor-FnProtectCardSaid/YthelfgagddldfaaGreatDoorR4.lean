/- Walks: a text cut at its blanks (spec), the words of the kinds. -/
import Derived.Test.YthelfgagddldfaaGreatDoorR3
namespace Go.Proofs.YthelfgagddldfaaGreatDoor
open Go.RowKit Go.Lib

def mkR (l : List UInt8) : ByteArray := ⟨l.toArray⟩
/-- The words of a text. -/
def wdL (l : List UInt8) : List ByteArray := (splL l).map mkR
theorem ext_mk (t : ByteArray) (a k : Nat) : t.extract a k = mkR ((t.data.toList.drop a).take (k - a)) := by
  have h : (t.extract a k).data.toList = (t.data.toList.drop a).take (k - a) := by rw [extract_data]
  unfold mkR
  rw [← h]
theorem wdL_at {l : List UInt8} {a k : Nat} (hk : k < l.length) (ha : a ≤ k) (h : l[k] = 32) (hn : ∀ b ∈ (l.drop a).take (k - a), b ≠ 32) : wdL (l.drop a) = mkR ((l.drop a).take (k - a)) :: wdL (l.drop (k + 1)) := by
  have e : l.drop a = (l.drop a).take (k - a) ++ 32 :: l.drop (k + 1) := by
    rw [← h, ← List.drop_eq_getElem_cons hk]
    conv => lhs; rw [← List.take_append_drop (k - a) (l.drop a)]
    rw [List.drop_drop]
    congr 2
    omega
  unfold wdL
  conv => lhs; rw [e]
  rw [splL_at _ _ hn]
  rfl
theorem wdL_end {l : List UInt8} {a k : Nat} (hk : k = l.length) (ha : a ≤ k) (hn : ∀ b ∈ (l.drop a).take (k - a), b ≠ 32) : wdL (l.drop a) = [mkR ((l.drop a).take (k - a))] := by
  have e : (l.drop a).take (k - a) = l.drop a := List.take_of_length_le (by rw [List.length_drop]; omega)
  rw [e] at hn ⊢
  unfold wdL
  rw [splL_no _ hn]
  rfl
theorem no_step {l : List UInt8} {a k : Nat} (hk : k < l.length) (ha : a ≤ k) (h : l[k] ≠ 32) (hn : ∀ b ∈ (l.drop a).take (k - a), b ≠ 32) : ∀ b ∈ (l.drop a).take (k + 1 - a), b ≠ 32 := by
  have e : k + 1 - a = (k - a) + 1 := by omega
  have hk2 : k - a < (l.drop a).length := by rw [List.length_drop]; omega
  rw [e, List.take_succ_eq_append_getElem hk2]
  intro b hb
  rw [List.mem_append, List.mem_singleton] at hb
  rcases hb with hb | hb
  · exact hn b hb
  · rw [hb, List.getElem_drop]
    have : l[a + (k - a)]'(by omega) = l[k] := by congr 1; omega
    rw [this]
    exact h
def kwB : List ByteArray := kwL.map mkR
end Go.Proofs.YthelfgagddldfaaGreatDoor
