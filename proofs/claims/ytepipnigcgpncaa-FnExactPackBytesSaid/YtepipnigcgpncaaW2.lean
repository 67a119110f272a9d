/- Walks: names, sums and hashes of strings. -/
import Derived.Test.YtepipnigcgpncaaW1
import Derived.Test.YtepipnigcgpncaaLib
namespace Go.Proofs.Ytepipnigcgpncaa
open Go.RowKit
set_option linter.unusedVariables false

def sumL : List UInt8 → Int
  | [] => 0
  | b :: l => (b.toNat : Int) + sumL l
theorem sumL_bd : ∀ l : List UInt8, 0 ≤ sumL l ∧ sumL l ≤ 255 * l.length
  | [] => by simp [sumL]
  | b :: l => by
    have := sumL_bd l
    have hb := b.toNat_lt
    simp only [sumL, List.length_cons]
    omega
theorem drop_cons (s : ByteArray) (k : Nat) (h : k < s.size) : s.data.toList.drop k = s[k] :: s.data.toList.drop (k + 1) :=
  List.drop_eq_getElem_cons (by simpa using h)
theorem drop_end (s : ByteArray) (k : Nat) (h : ¬ k < s.size) : s.data.toList.drop k = [] :=
  List.drop_eq_nil_of_le (by simpa using Nat.le_of_not_lt h)
def sum16 (s : ByteArray) : Int := sumL s.data.toList % 65536
theorem ret_int {k : IntKind} {a b : Int} (h : a = b) : Ending.returned (.int k a) = .returned (.int k b) := by rw [h]
theorem ret_bool {a b : Bool} (h : a = b) : Ending.returned (.bool a) = .returned (.bool b) := by rw [h]

set_option maxHeartbeats 400000 in
theorem spec_Sum16_any (s : ByteArray) (w : World) (hs : s.size ≤ 1048576) :
    Calls Try.prog 59 #[.string s] w fun e w' => e = .returned (.int .i64 (sum16 s)) ∧ w = w' := by
  go_enter Try.func59, Try.ntmps59
  go_wp2
  go_loop [3, 4] (fun t i => ∃ (k : Nat) (x : Int), k ≤ s.size ∧ i = .int .i64 k ∧ t = .int .i64 x ∧ 0 ≤ x ∧ x ≤ 255 * k ∧ Hid (x + sumL (s.data.toList.drop k) = sumL s.data.toList)) (fun _ i => s.size - (intOf i).toNat)
  case atStart => exact ⟨0, 0, Nat.zero_le _, rfl, rfl, by omega, by omega, Lib.hid (by simp)⟩
  case round =>
    obtain ⟨k, x, hk, rfl, rfl, hx0, hx1, HS⟩ := hrel
    by_cases hlt : k < s.size
    · have hb := s[k].toNat_lt
      go_wp2
      go_round
      case rel => exact ⟨k + 1, x + s[k].toNat, by omega, by go_num, rfl, by omega, by omega, Lib.hid (by have := HS.out; rw [drop_cons s k hlt, sumL] at this; omega)⟩
      case measure => simp [intOf]; omega
    · have h2 : x = sumL s.data.toList := by have := HS.out; rw [drop_end s k hlt, sumL] at this; omega
      have H2 := Lib.hid h2
      clear h2
      go_wp2
      go_ret
      exact ⟨ret_int (by rw [sum16, ← H2.out]), rfl⟩

set_option maxHeartbeats 400000 in
theorem impl_Sum16_any (s : ByteArray) (w : World) (hs : s.size ≤ 1048576) :
    Calls Try.prog 83 #[.string s] w fun e w' => e = .returned (.int .i64 (sum16 s)) ∧ w = w' := by
  go_enter Try.func83, Try.ntmps83
  go_wp2
  go_loop [3, 4, 7] (fun t _ i => ∃ (k : Nat) (x : Int), k ≤ s.size ∧ i = .int .i64 k ∧ t = .int .i64 x ∧ 0 ≤ x ∧ x ≤ 255 * k ∧ Hid (x + sumL (s.data.toList.drop k) = sumL s.data.toList)) (fun _ _ i => s.size - (intOf i).toNat)
  case atStart => exact ⟨0, 0, Nat.zero_le _, rfl, rfl, by omega, by omega, Lib.hid (by simp)⟩
  case round =>
    obtain ⟨k, x, hk, rfl, rfl, hx0, hx1, HS⟩ := hrel
    by_cases hlt : k < s.size
    · have hb := s[k].toNat_lt
      go_wp2
      go_round
      case rel => exact ⟨k + 1, x + s[k].toNat, by omega, by go_num, rfl, by omega, by omega, Lib.hid (by have := HS.out; rw [drop_cons s k hlt, sumL] at this; omega)⟩
      case measure => simp [intOf]; omega
    · have h2 : x = sumL s.data.toList := by have := HS.out; rw [drop_end s k hlt, sumL] at this; omega
      have H2 := Lib.hid h2
      clear h2
      go_wp2
      go_ret
      exact ⟨ret_int (by rw [sum16, ← H2.out]), rfl⟩

/-- Letters and the characters of names. -/
def isLet (c : Int) : Bool := decide (65 ≤ c) && decide (c ≤ 90)
def isDig (c : Int) : Bool := decide (48 ≤ c) && decide (c ≤ 57)
def isNmC (c : UInt8) : Bool := isLet c.toNat || isDig c.toNat || decide ((c.toNat : Int) = 95)
def isName (s : ByteArray) : Bool := decide (1 ≤ s.size) && decide (s.size ≤ 8) && (match s.data.toList with | [] => false | c :: _ => isLet c.toNat) && s.data.toList.all isNmC

set_option maxHeartbeats 400000 in
theorem l01Letter_any (c : Int) (w : World) :
    Calls Try.prog 81 #[.int .u8 c] w fun e w' => e = .returned (.bool (isLet c)) ∧ w = w' := by
  go_enter Try.func81, Try.ntmps81
  go_wp2
  all_goals go_ret
  · have h : 65 ≤ c := by assumption
    exact ⟨by simp [isLet, h], rfl⟩
  · have h : c < 65 := by assumption
    exact ⟨by simp [isLet, show ¬ 65 ≤ c by omega], rfl⟩

set_option maxHeartbeats 400000 in
theorem l01Digit_any (c : Int) (w : World) :
    Calls Try.prog 82 #[.int .u8 c] w fun e w' => e = .returned (.bool (isDig c)) ∧ w = w' := by
  go_enter Try.func82, Try.ntmps82
  go_wp2
  all_goals go_ret
  · have h : 48 ≤ c := by assumption
    exact ⟨by simp [isDig, h], rfl⟩
  · have h : c < 48 := by assumption
    exact ⟨by simp [isDig, show ¬ 48 ≤ c by omega], rfl⟩
end Go.Proofs.Ytepipnigcgpncaa
