/- Plain functions: the chunk with which a string begins. -/
import Derived.Test.YtjjcedodjoieoaaUnpM
import Derived.Test.YtjjcedodjoieoaaMath
import Derived.Test.YtjjcedodjoieoaaW4
namespace Go.Proofs.Ytjjcedodjoieoaa
open Go.RowKit
set_option linter.unusedVariables false

def wd (t : ByteArray) (k : Nat) : Nat := bt t k * 256 + bt t (k + 1)
theorem wd_lt (t : ByteArray) (k : Nat) : wd t k < 65536 := by have := bt_lt t k; have := bt_lt t (k + 1); unfold wd; omega
theorem wd_or (a b : Nat) (hb : b < 256) : a * 256 ||| b = a * 256 + b := by
  have := Nat.shiftLeft_add_eq_or_of_lt (i := 8) (b := b) (by omega) a
  rw [Nat.shiftLeft_eq] at this
  exact this.symm
def dc (t : ByteArray) : Option (Nat × ByteArray × Nat) :=
  if t.size < 5 then none
  else if wd t 1 ≤ 8192 ∧ wd t 1 + 5 ≤ t.size then
    if okChunk (bt t 0 : Int) (t.extract 3 (wd t 1 + 3)) = true ∧ crcOf (t.extract 0 (wd t 1 + 3)) 65535 = wd t (wd t 1 + 3) then some (bt t 0, t.extract 3 (wd t 1 + 3), wd t 1 + 5) else none
  else none
theorem dc_1 {t : ByteArray} (h : t.size < 5) : dc t = none := if_pos h
theorem dc_2 {t : ByteArray} {n : Nat} (hn : wd t 1 = n) (h2 : ¬ (n ≤ 8192 ∧ n + 5 ≤ t.size)) : dc t = none := by
  subst hn
  unfold dc
  split
  · rfl
  · first | rfl | rw [if_neg h2]
theorem dc_3 {t : ByteArray} {n : Nat} (hn : wd t 1 = n) (h3 : ¬ (okChunk (bt t 0 : Int) (t.extract 3 (n + 3)) = true ∧ crcOf (t.extract 0 (n + 3)) 65535 = wd t (n + 3))) : dc t = none := by
  subst hn
  unfold dc
  split
  · rfl
  · split
    · first | rfl | rw [if_neg h3]
    · rfl
theorem dc_4 {t : ByteArray} {n : Nat} (hn : wd t 1 = n) (h : ¬ t.size < 5) (h2 : n ≤ 8192 ∧ n + 5 ≤ t.size) (h3 : okChunk (bt t 0 : Int) (t.extract 3 (n + 3)) = true ∧ crcOf (t.extract 0 (n + 3)) 65535 = wd t (n + 3)) : dc t = some (bt t 0, t.extract 3 (n + 3), n + 5) := by
  subst hn
  rw [dc, if_neg h, if_pos h2, if_pos h3]
theorem ext_size (s : ByteArray) (a : Nat) : (s.extract a s.size).size = s.size - a := by rw [ByteArray.size_extract]; omega
theorem ext_bt (s : ByteArray) (a k : Nat) (h : a + k < s.size) : bt (s.extract a s.size) k = bt s (a + k) := by
  have h1 : k < (s.extract a s.size).size := by rw [ext_size]; omega
  rw [← bt_eq _ k h1, ← bt_eq s (a + k) h]
  rw [ByteArray.getElem_extract]
theorem ext_ext (s : ByteArray) (a b c : Nat) (h : a + c ≤ s.size) : (s.extract a s.size).extract b c = s.extract (a + b) (a + c) := by
  rw [ByteArray.extract_extract]
  congr 1
  omega
/-- The chunk at a place. -/
def dcAt (s : ByteArray) (a : Nat) : Option (Nat × ByteArray × Nat) := dc (s.extract a s.size)
theorem dcAt_1 {s : ByteArray} {a : Nat} (h : s.size < a + 5) : dcAt s a = none := dc_1 (by rw [ext_size]; omega)
theorem ext_wd (s : ByteArray) (a k : Nat) (h : a + k + 1 < s.size) : wd (s.extract a s.size) k = wd s (a + k) := by
  unfold wd
  rw [ext_bt s a k (by omega), ext_bt s a (k + 1) (by omega)]
  rfl
theorem dcAt_2 {s : ByteArray} {a n : Nat} (h : a + 5 ≤ s.size) (hn : wd s (a + 1) = n) (h2 : ¬ (n ≤ 8192 ∧ a + 3 + n + 2 ≤ s.size)) : dcAt s a = none :=
  dc_2 (n := n) (by rw [ext_wd s a 1 (by omega)]; exact hn) (by rw [ext_size]; omega)
theorem dcAt_3 {s : ByteArray} {a n : Nat} (h : a + 5 ≤ s.size) (hn : wd s (a + 1) = n) (h2 : a + 3 + n + 2 ≤ s.size) (h3 : ¬ (okChunk (bt s a : Int) (s.extract (a + 3) (a + 3 + n)) = true ∧ crcOf (s.extract a (a + 3 + n)) 65535 = wd s (a + 3 + n))) : dcAt s a = none := by
  refine dc_3 (n := n) (by rw [ext_wd s a 1 (by omega)]; exact hn) ?_
  rw [ext_bt s a 0 (by omega), ext_ext s a 3 (n + 3) (by omega), ext_ext s a 0 (n + 3) (by omega), ext_wd s a (n + 3) (by omega)]
  rw [show a + (n + 3) = a + 3 + n by omega]
  exact h3
theorem dcAt_4 {s : ByteArray} {a n : Nat} (h : a + 5 ≤ s.size) (hn : wd s (a + 1) = n) (h1 : n ≤ 8192) (h2 : a + 3 + n + 2 ≤ s.size) (h3 : okChunk (bt s a : Int) (s.extract (a + 3) (a + 3 + n)) = true ∧ crcOf (s.extract a (a + 3 + n)) 65535 = wd s (a + 3 + n)) : dcAt s a = some (bt s a, s.extract (a + 3) (a + 3 + n), n + 5) := by
  have := dc_4 (t := s.extract a s.size) (n := n) (by rw [ext_wd s a 1 (by omega)]; exact hn) (by rw [ext_size]; omega) (by rw [ext_size]; omega) (by
    rw [ext_bt s a 0 (by omega), ext_ext s a 3 (n + 3) (by omega), ext_ext s a 0 (n + 3) (by omega), ext_wd s a (n + 3) (by omega)]
    rw [show a + (n + 3) = a + 3 + n by omega]
    exact h3)
  rw [ext_bt s a 0 (by omega), ext_ext s a 3 (n + 3) (by omega), show a + (n + 3) = a + 3 + n by omega] at this
  exact this
end Go.Proofs.Ytjjcedodjoieoaa
