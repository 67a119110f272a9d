/- Plain functions: packing by runs. -/
import Derived.Test.YtlfmpgfobkmgfaaGreatDoorUnpM
namespace Go.Proofs.YtlfmpgfobkmgfaaGreatDoor
open Go.RowKit
set_option linter.unusedVariables false

/-- How many equal bytes follow, at most m; f more are allowed. -/
def runF (s : ByteArray) (at_ m : Nat) : Nat → Nat
  | 0 => m
  | f + 1 => if at_ + (m - (f + 1)) < s.size ∧ bt s (at_ + (m - (f + 1))) = bt s at_ then runF s at_ m f else m - (f + 1)
def runL (s : ByteArray) (at_ m : Nat) : Nat := runF s at_ m (m - 1)
theorem runF_yes (s : ByteArray) (at_ m f n : Nat) (hn : n + (f + 1) = m) (h : at_ + n < s.size) (he : bt s (at_ + n) = bt s at_) {R : Nat} (hr : runF s at_ m (f + 1) = R) : runF s at_ m f = R := by
  rw [runF, show m - (f + 1) = n by omega, if_pos ⟨h, he⟩] at hr; exact hr
theorem runF_no (s : ByteArray) (at_ m f n : Nat) (hn : n + (f + 1) = m) (h : ¬ (at_ + n < s.size ∧ bt s (at_ + n) = bt s at_)) {R : Nat} (hr : runF s at_ m (f + 1) = R) : n = R := by
  rw [runF, show m - (f + 1) = n by omega, if_neg h] at hr; exact hr
theorem runF_bd (s : ByteArray) (at_ m : Nat) : ∀ f, f < m → at_ + (m - f) ≤ s.size → m - f ≤ runF s at_ m f ∧ runF s at_ m f ≤ m ∧ at_ + runF s at_ m f ≤ s.size
  | 0, h, h2 => by rw [runF]; omega
  | f + 1, h, h2 => by
    rw [runF]
    split
    · rename_i hc
      have := runF_bd s at_ m f (by omega) (by omega)
      omega
    · omega
theorem runL_bd (s : ByteArray) (at_ m : Nat) (hm : 1 ≤ m) (h : at_ < s.size) : 1 ≤ runL s at_ m ∧ runL s at_ m ≤ m ∧ at_ + runL s at_ m ≤ s.size := by
  have := runF_bd s at_ m (m - 1) (by omega) (by omega)
  unfold runL
  omega
def isRun (s : ByteArray) (at_ : Nat) : Prop := at_ + 2 < s.size ∧ bt s (at_ + 1) = bt s at_ ∧ bt s (at_ + 2) = bt s at_
theorem runL_3 (s : ByteArray) (at_ m : Nat) (hm : 3 ≤ m) (h : at_ < s.size) : 3 ≤ runL s at_ m ↔ isRun s at_ := by
  obtain ⟨k, rfl⟩ : ∃ k, m = k + 3 := ⟨m - 3, by omega⟩
  unfold runL isRun
  rw [show k + 3 - 1 = k + 1 + 1 by omega, runF, show k + 3 - (k + 1 + 1) = 1 by omega]
  by_cases h1 : at_ + 1 < s.size ∧ bt s (at_ + 1) = bt s at_
  · rw [if_pos h1, runF, show k + 3 - (k + 1) = 2 by omega]
    by_cases h2 : at_ + 2 < s.size ∧ bt s (at_ + 2) = bt s at_
    · rw [if_pos h2]
      have := runF_bd s at_ (k + 3) k (by omega) (by omega)
      constructor
      · intro _; exact ⟨h2.1, h1.2, h2.2⟩
      · intro _; omega
    · rw [if_neg h2]
      constructor
      · intro h; omega
      · rintro ⟨a, b, c⟩; exact absurd ⟨a, c⟩ h2
  · rw [if_neg h1]
    constructor
    · intro h; omega
    · rintro ⟨a, b, c⟩; exact absurd ⟨by omega, b⟩ h1
/-- How many bytes stand for themselves; f more are allowed. -/
def litF (s : ByteArray) (at_ : Nat) : Nat → Nat
  | 0 => 64
  | f + 1 => if at_ + (64 - (f + 1)) < s.size ∧ ¬ 3 ≤ runL s (at_ + (64 - (f + 1))) 64 then litF s at_ f else 64 - (f + 1)
theorem litF_yes (s : ByteArray) (at_ f n : Nat) (hn : n + (f + 1) = 64) (h : at_ + n < s.size) (he : ¬ 3 ≤ runL s (at_ + n) 64) {R : Nat} (hr : litF s at_ (f + 1) = R) : litF s at_ f = R := by
  rw [litF, show 64 - (f + 1) = n by omega, if_pos ⟨h, he⟩] at hr; exact hr
theorem litF_no (s : ByteArray) (at_ f n : Nat) (hn : n + (f + 1) = 64) (h : ¬ (at_ + n < s.size ∧ ¬ 3 ≤ runL s (at_ + n) 64)) {R : Nat} (hr : litF s at_ (f + 1) = R) : n = R := by
  rw [litF, show 64 - (f + 1) = n by omega, if_neg h] at hr; exact hr
theorem litF_first (s : ByteArray) (at_ : Nat) (h : at_ < s.size) (he : ¬ 3 ≤ runL s at_ 64) : litF s at_ 64 = litF s at_ 63 := by
  rw [litF, if_pos ⟨by simpa using h, by simpa using he⟩]
theorem litF_bd (s : ByteArray) (at_ : Nat) : ∀ f, f < 64 → at_ + (64 - f) ≤ s.size → 64 - f ≤ litF s at_ f ∧ litF s at_ f ≤ 64 ∧ at_ + litF s at_ f ≤ s.size
  | 0, h, h2 => by rw [litF]; omega
  | f + 1, h, h2 => by
    rw [litF]
    split
    · rename_i hc
      have := litF_bd s at_ f (by omega) (by omega)
      omega
    · omega
def pkrG (s : ByteArray) : Nat → Nat → List UInt8 → List UInt8
  | 0, _, out => out
  | f + 1, at_, out =>
    if at_ < s.size then
      if 3 ≤ runL s at_ 64 then pkrG s f (at_ + runL s at_ 64) (out ++ [UInt8.ofNat (runL s at_ 64 + 61), UInt8.ofNat (bt s at_)])
      else pkrG s f (at_ + litF s at_ 63) (out ++ [UInt8.ofNat (litF s at_ 63 - 1)] ++ seg s at_ (at_ + litF s at_ 63))
    else out
def pkr (s : ByteArray) : Option (List UInt8) := if 4096 < s.size then none else some (pkrG s (s.size + 1) 0 [])
theorem pkr_big (s : ByteArray) (h : 4096 < s.size) : pkr s = none := if_pos h
theorem pkr_small (s : ByteArray) (h : s.size ≤ 4096) : pkr s = some (pkrG s (s.size + 1) 0 []) := if_neg (by omega)
theorem pkrG_end (s : ByteArray) (f at_ : Nat) (out : List UInt8) (h : ¬ at_ < s.size) {R : List UInt8} (hr : pkrG s f at_ out = R) : out = R := by
  subst hr
  cases f with
  | zero => rfl
  | succ f => simp [pkrG, h]
theorem pkrG_run (s : ByteArray) (f at_ : Nat) (out : List UInt8) (h : at_ < s.size) (h3 : 3 ≤ runL s at_ 64) {R : List UInt8} (hr : pkrG s (f + 1) at_ out = R) :
    pkrG s f (at_ + runL s at_ 64) (out ++ [UInt8.ofNat (runL s at_ 64 + 61), UInt8.ofNat (bt s at_)]) = R := by
  rw [pkrG, if_pos h, if_pos h3] at hr; exact hr
theorem pkrG_lit (s : ByteArray) (f at_ n : Nat) (out : List UInt8) (h : at_ < s.size) (h3 : ¬ 3 ≤ runL s at_ 64) (hn : n = litF s at_ 63) {R : List UInt8} (hr : pkrG s (f + 1) at_ out = R) :
    pkrG s f (at_ + n) (out ++ [UInt8.ofNat (n - 1)] ++ seg s at_ (at_ + n)) = R := by
  subst hn
  rw [pkrG, if_pos h, if_neg h3] at hr; exact hr
theorem ofNat_bt (s : ByteArray) (k : Nat) : ((UInt8.ofNat (bt s k)).toNat : Int) = bt s k := by
  have := bt_lt s k
  rw [UInt8.toNat_ofNat']
  omega
theorem ofNat_lt (n : Nat) (h : n < 256) : ((UInt8.ofNat n).toNat : Int) = n := by
  rw [UInt8.toNat_ofNat']
  omega
end Go.Proofs.YtlfmpgfobkmgfaaGreatDoor
