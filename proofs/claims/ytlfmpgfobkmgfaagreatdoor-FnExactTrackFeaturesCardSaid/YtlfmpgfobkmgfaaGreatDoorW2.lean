/- Walks: names, sums and hashes of strings. -/
import Derived.Test.YtlfmpgfobkmgfaaGreatDoorW1
import Derived.Test.YtlfmpgfobkmgfaaGreatDoorLib
namespace Go.Proofs.YtlfmpgfobkmgfaaGreatDoor
open Go.RowKit
set_option linter.unusedVariables false

def sumL : List UInt8 → Int
  | [] => 0
  | b :: l => (b.toNat : Int) + sumL l
theorem sumL_bd : ∀ l : List UInt8, 0 ≤ sumL l ∧ sumL l ≤ 255 * l.length
  | [] => by simp [sumL]
  | b :: l => by
    have := sumL_bd l
    have hb := b.toNat_lt
    simp only [sumL, List.length_cons]
    omega
theorem drop_cons (s : ByteArray) (k : Nat) (h : k < s.size) : s.data.toList.drop k = s[k] :: s.data.toList.drop (k + 1) :=
  List.drop_eq_getElem_cons (by simpa using h)
theorem drop_end (s : ByteArray) (k : Nat) (h : ¬ k < s.size) : s.data.toList.drop k = [] :=
  List.drop_eq_nil_of_le (by simpa using Nat.le_of_not_lt h)
def sum16 (s : ByteArray) : Int := sumL s.data.toList % 65536
theorem ret_int {k : IntKind} {a b : Int} (h : a = b) : Ending.returned (.int k a) = .returned (.int k b) := by rw [h]
theorem ret_bool {a b : Bool} (h : a = b) : Ending.returned (.bool a) = .returned (.bool b) := by rw [h]

/-- Letters and the characters of names. -/
def isLet (c : Int) : Bool := decide (65 ≤ c) && decide (c ≤ 90)
def isDig (c : Int) : Bool := decide (48 ≤ c) && decide (c ≤ 57)
def isNmC (c : UInt8) : Bool := isLet c.toNat || isDig c.toNat || decide ((c.toNat : Int) = 95)
def isName (s : ByteArray) : Bool := decide (1 ≤ s.size) && decide (s.size ≤ 8) && (match s.data.toList with | [] => false | c :: _ => isLet c.toNat) && s.data.toList.all isNmC

end Go.Proofs.YtlfmpgfobkmgfaaGreatDoor
