/- Walks: check values and words. -/
import Derived.Test.YtjahgknehamlpaaW2
import Derived.Test.YtjahgknehamlpaaMem
import Derived.Test.YtjahgknehamlpaaMath
namespace Go.Proofs.Ytjahgknehamlpaa
open Go.RowKit
set_option linter.unusedVariables false

theorem crcBits_step (c n y : Nat) {R : Nat} (h : crcBits c (n + 1) y = R) : crcBits c n (crcBit y c n) = R := h
theorem crcBit_eq (y c n : Nat) (h : y / 32768 = bitOf c n) : crcBit y c n = crcV y := if_pos h
theorem crcBit_ne (y c n : Nat) (h : ¬ y / 32768 = bitOf c n) : crcBit y c n = crcX (crcV y) := if_neg h
theorem crc_drop (s : ByteArray) (k x : Nat) (h : k < s.size) {R : Nat} (hr : crcL (s.data.toList.drop k) x = R) : crcL (s.data.toList.drop (k + 1)) (crcBits s[k].toNat 8 x) = R := by
  rw [drop_cons s k h] at hr; exact hr

end Go.Proofs.Ytjahgknehamlpaa
