/- Plain functions and facts without the program: check values, words. -/
import Derived.Test.YtlfmpgfobkmgfaaGreatDoorLib
namespace Go.Proofs.YtlfmpgfobkmgfaaGreatDoor
open Go.RowKit

theorem ofInt_u8 (a : Nat) (ha : a < 256) : (BitVec.ofInt 8 (a : Int)).toNat = a := by
  rw [BitVec.ofInt_natCast, BitVec.toNat_ofNat]; exact Nat.mod_eq_of_lt (by omega)
theorem u8_and_nat (a b : Nat) (ha : a < 256) (hb : b < 256) : bits .and .u8 (a : Int) (b : Int) = ((a &&& b : Nat) : Int) := by
  have hx : a &&& b < 2 ^ 8 := Nat.and_lt_two_pow _ (by omega)
  show IntKind.u8.wrap ((BitVec.ofInt 8 (a : Int) &&& BitVec.ofInt 8 (b : Int)).toNat : Int) = _
  rw [BitVec.toNat_and, ofInt_u8 a ha, ofInt_u8 b hb]
  simp [IntKind.wrap, IntKind.bits, IntKind.signed]
  omega

def bitOf (c j : Nat) : Nat := (c / 2 ^ j) &&& 1
def crcV (y : Nat) : Nat := (y * 2) &&& 65535
def crcX (y : Nat) : Nat := y ^^^ 4129
def crcBit (y c j : Nat) : Nat := if y / 32768 = bitOf c j then crcV y else crcX (crcV y)
def crcBits (c : Nat) : Nat → Nat → Nat
  | 0, y => y
  | n + 1, y => crcBits c n (crcBit y c n)
def crcL : List UInt8 → Nat → Nat
  | [], y => y
  | b :: l, y => crcL l (crcBits b.toNat 8 y)
def crcOf (s : ByteArray) (v : Nat) : Nat := crcL s.data.toList v

theorem bitOf_lt (c j : Nat) : bitOf c j < 2 := Nat.and_lt_two_pow (n := 1) _ (by omega)
theorem crcV_lt (y : Nat) : crcV y < 65536 := Nat.and_lt_two_pow (n := 16) _ (by omega)
theorem crcX_lt (y : Nat) (h : y < 65536) : crcX y < 65536 := Nat.xor_lt_two_pow (n := 16) h (by omega)
theorem crcBit_lt (y c j : Nat) : crcBit y c j < 65536 := by
  unfold crcBit
  split
  · exact crcV_lt y
  · exact crcX_lt _ (crcV_lt y)
theorem crcBits_lt (c : Nat) : ∀ n y, y < 65536 → crcBits c n y < 65536
  | 0, _, h => h
  | n + 1, y, _ => crcBits_lt c n _ (crcBit_lt y c n)
theorem crcL_lt : ∀ l y, y < 65536 → crcL l y < 65536
  | [], _, h => h
  | _ :: l, _, h => crcL_lt l _ (crcBits_lt _ _ _ h)
theorem crcOf_lt (s : ByteArray) (v : Nat) (h : v < 65536) : crcOf s v < 65536 := crcL_lt _ _ h

theorem div_pow_lt (c j : Nat) (h : c < 256) : c / 2 ^ j < 256 := Nat.lt_of_le_of_lt (Nat.div_le_self _ _) h
theorem crc_e1 (y : Nat) (hy : y < 65536) : bits .and .i64 ((y : Int) * 2) 65535 = ((crcV y : Nat) : Int) := by
  have := i64_and_nat (y * 2) 65535 (by omega) (by omega)
  rw [crcV, ← this]
  congr 1
theorem crc_e2 (c j : Nat) (hc : c < 256) : bits .and .u8 ((c : Int) / 2 ^ j) 1 = ((bitOf c j : Nat) : Int) := by
  have := u8_and_nat (c / 2 ^ j) 1 (div_pow_lt c j hc) (by omega)
  rw [bitOf, ← this]
  congr 1
theorem crc_e2' (c j : Nat) (hc : c < 256) : bits .and .i64 ((c : Int) / 2 ^ j) 1 = ((bitOf c j : Nat) : Int) := by
  have := i64_and_nat (c / 2 ^ j) 1 (by have := div_pow_lt c j hc; omega) (by omega)
  rw [bitOf, ← this]
  congr 1
theorem crc_e5 (c j : Nat) (hc : c < 256) : bits .and .i64 (wrap64 ((c : Int) / 2 ^ j)) 1 = ((bitOf c j : Nat) : Int) := by
  have h : (c : Int) / 2 ^ j = ((c / 2 ^ j : Nat) : Int) := by
    rw [Int.natCast_ediv]
    rfl
  have h2 := div_pow_lt c j hc
  have h5 : wrap64 ((c : Int) / 2 ^ j) = (c : Int) / 2 ^ j := by
    rw [h]
    generalize c / 2 ^ j = q at h2
    exact IntWalk.wrap64_in _ ⟨by omega, by omega⟩
  rw [h5, crc_e2' c j hc]
theorem crc_e3 (y : Nat) (hy : y < 65536) : bits .xor .i64 (y : Int) 4129 = ((crcX y : Nat) : Int) := by
  have := i64_xor_nat y 4129 (by omega) (by omega)
  rw [crcX, ← this]
  rfl
theorem crc_e4 (y : Nat) (hy : y < 65536) : bits .and .i64 ((y : Int) / 32768) 1 = ((y / 32768 : Nat) : Int) := by
  have := i64_and_nat (y / 32768) 1 (by omega) (by omega)
  have h2 : y / 32768 &&& 1 = y / 32768 := by
    have : y / 32768 = 0 ∨ y / 32768 = 1 := by omega
    rcases this with h | h <;> rw [h] <;> rfl
  rw [h2] at this
  rw [← this]
  rfl
end Go.Proofs.YtlfmpgfobkmgfaaGreatDoor
