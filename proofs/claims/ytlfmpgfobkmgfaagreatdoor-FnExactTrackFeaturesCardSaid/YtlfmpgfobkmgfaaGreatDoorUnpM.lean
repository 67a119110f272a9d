/- Plain functions: unpacking with references. -/
import Derived.Test.YtlfmpgfobkmgfaaGreatDoorMem3
namespace Go.Proofs.YtlfmpgfobkmgfaaGreatDoor
open Go.RowKit

/-- The byte at a place, as a number. -/
def bt (s : ByteArray) (k : Nat) : Nat := (s.data.toList.getD k 0).toNat
theorem bt_lt (s : ByteArray) (k : Nat) : bt s k < 256 := (s.data.toList.getD k 0).toNat_lt
theorem bt_eq (s : ByteArray) (k : Nat) (h : k < s.size) : s[k].toNat = bt s k := by
  unfold bt
  rw [List.getD_eq_getElem?_getD, List.getElem?_eq_getElem (by simpa using h)]
  rfl
def seg (s : ByteArray) (a b : Nat) : List UInt8 := (s.extract a b).data.toList
theorem seg_length (s : ByteArray) (a b : Nat) (h : b ≤ s.size) : (seg s a b).length = b - a := by
  unfold seg
  rw [Array.length_toList]
  show (s.extract a b).size = b - a
  rw [ByteArray.size_extract]
  omega

def cpyBack (d : Nat) : Nat → List UInt8 → List UInt8
  | 0, out => out
  | n + 1, out => cpyBack d n (out ++ [out.getD (out.length - d) 0])
theorem cpyBack_length (d : Nat) : ∀ n out, (cpyBack d n out).length = out.length + n
  | 0, out => rfl
  | n + 1, out => by rw [cpyBack, cpyBack_length d n]; simp; omega

/-- One step: none where the text is malformed or too long. -/
def unpStep (s : ByteArray) (at_ : Nat) (out : List UInt8) : Option (Nat × List UInt8) :=
  if bt s at_ < 128 then
    if at_ + bt s at_ + 2 ≤ s.size then some (at_ + bt s at_ + 2, out ++ seg s (at_ + 1) (at_ + bt s at_ + 2)) else none
  else if at_ + 1 < s.size ∧ 0 < bt s (at_ + 1) ∧ bt s (at_ + 1) ≤ out.length then some (at_ + 2, cpyBack (bt s (at_ + 1)) (bt s at_ - 125) out) else none
def unpG (s : ByteArray) : Nat → Nat → List UInt8 → Option (List UInt8)
  | 0, _, out => some out
  | f + 1, at_, out =>
    if at_ < s.size then
      match unpStep s at_ out with
      | none => none
      | some (at', out') => if 4096 < out'.length then none else unpG s f at' out'
    else some out
def unp (s : ByteArray) : Option (List UInt8) := if 8192 < s.size then none else unpG s (s.size + 1) 0 []
theorem unp_big (s : ByteArray) (h : 8192 < s.size) : unp s = none := if_pos h
theorem unp_start (s : ByteArray) (h : s.size ≤ 8192) : unpG s (s.size + 1) 0 [] = unp s := (if_neg (by omega)).symm
theorem unpG_end (s : ByteArray) (f at_ : Nat) (out : List UInt8) (h : ¬ at_ < s.size) {R : Option (List UInt8)} (hr : unpG s f at_ out = R) : R = some out := by
  subst hr
  cases f with
  | zero => rfl
  | succ f => simp [unpG, h]
theorem unpG_none (s : ByteArray) (f at_ : Nat) (out : List UInt8) (h : at_ < s.size) {R : Option (List UInt8)} (hr : unpG s (f + 1) at_ out = R) (hs : unpStep s at_ out = none) : R = none := by
  subst hr
  simp [unpG, h, hs]
theorem unpG_long (s : ByteArray) (f at_ at' : Nat) (out out' : List UInt8) (h : at_ < s.size) {R : Option (List UInt8)} (hr : unpG s (f + 1) at_ out = R) (hs : unpStep s at_ out = some (at', out')) (hl : 4096 < out'.length) : R = none := by
  subst hr
  simp [unpG, h, hs, hl]
theorem unpG_go (s : ByteArray) (f at_ at' : Nat) (out out' : List UInt8) (h : at_ < s.size) {R : Option (List UInt8)} (hr : unpG s (f + 1) at_ out = R) (hs : unpStep s at_ out = some (at', out')) (hl : ¬ 4096 < out'.length) : unpG s f at' out' = R := by
  subst hr
  simp [unpG, h, hs, hl]
theorem unpStep_lit (s : ByteArray) (at_ : Nat) (out : List UInt8) (h : bt s at_ < 128) (h2 : at_ + bt s at_ + 2 ≤ s.size) : unpStep s at_ out = some (at_ + bt s at_ + 2, out ++ seg s (at_ + 1) (at_ + bt s at_ + 2)) := by
  simp [unpStep, h, h2]
theorem unpStep_lit_no (s : ByteArray) (at_ : Nat) (out : List UInt8) (h : bt s at_ < 128) (h2 : ¬ at_ + bt s at_ + 2 ≤ s.size) : unpStep s at_ out = none := by
  simp [unpStep, h, h2]
theorem unpStep_ref (s : ByteArray) (at_ : Nat) (out : List UInt8) (h : ¬ bt s at_ < 128) (h2 : at_ + 1 < s.size) (h3 : 0 < bt s (at_ + 1)) (h4 : bt s (at_ + 1) ≤ out.length) :
    unpStep s at_ out = some (at_ + 2, cpyBack (bt s (at_ + 1)) (bt s at_ - 125) out) := by
  simp [unpStep, h, h2, h3, h4]
theorem unpStep_ref_no (s : ByteArray) (at_ : Nat) (out : List UInt8) (h : ¬ bt s at_ < 128) (h2 : ¬ (at_ + 1 < s.size ∧ 0 < bt s (at_ + 1) ∧ bt s (at_ + 1) ≤ out.length)) : unpStep s at_ out = none := by
  unfold unpStep
  rw [if_neg h, if_neg h2]
def resB (r : Option (List UInt8)) : Value :=
  match r with
  | none => .tuple #[.string ByteArray.empty, .bool false]
  | some l => .tuple #[.string ⟨l.toArray⟩, .bool true]
end Go.Proofs.YtlfmpgfobkmgfaaGreatDoor
