/- Plain functions: unpacking by runs. -/
import Derived.Test.YtgilmdohlacknaaUnpM
namespace Go.Proofs.Ytgilmdohlacknaa
open Go.RowKit
set_option linter.unusedVariables false

/-- One step: none where the text is malformed. -/
def urStep (s : ByteArray) (at_ : Nat) (out : List UInt8) : Option (Nat × List UInt8) :=
  if bt s at_ < 64 then
    if at_ + bt s at_ + 2 ≤ s.size then some (at_ + bt s at_ + 2, out ++ seg s (at_ + 1) (at_ + bt s at_ + 2)) else none
  else if bt s at_ ≤ 125 ∧ at_ + 1 < s.size then some (at_ + 2, out ++ List.replicate (bt s at_ - 61) (s.data.toList.getD (at_ + 1) 0)) else none
def urG (s : ByteArray) : Nat → Nat → List UInt8 → Option (List UInt8)
  | 0, _, out => if 4096 < out.length then none else some out
  | f + 1, at_, out =>
    if at_ < s.size then
      match urStep s at_ out with
      | none => none
      | some (at', out') => urG s f at' out'
    else if 4096 < out.length then none else some out
def ur (s : ByteArray) : Option (List UInt8) := if 8192 < s.size then none else urG s (s.size + 1) 0 []
theorem ur_big (s : ByteArray) (h : 8192 < s.size) : ur s = none := if_pos h
theorem ur_start (s : ByteArray) (h : s.size ≤ 8192) : urG s (s.size + 1) 0 [] = ur s := (if_neg (by omega)).symm
theorem urG_end (s : ByteArray) (f at_ : Nat) (out : List UInt8) (h : ¬ at_ < s.size) {R : Option (List UInt8)} (hr : urG s f at_ out = R) (hl : ¬ 4096 < out.length) : R = some out := by
  subst hr
  cases f with
  | zero => simp [urG, hl]
  | succ f => simp [urG, h, hl]
theorem urG_end_no (s : ByteArray) (f at_ : Nat) (out : List UInt8) (h : ¬ at_ < s.size) {R : Option (List UInt8)} (hr : urG s f at_ out = R) (hl : 4096 < out.length) : R = none := by
  subst hr
  cases f with
  | zero => simp [urG, hl]
  | succ f => simp [urG, h, hl]
theorem urG_none (s : ByteArray) (f at_ : Nat) (out : List UInt8) (h : at_ < s.size) {R : Option (List UInt8)} (hr : urG s (f + 1) at_ out = R) (hs : urStep s at_ out = none) : R = none := by
  subst hr
  simp [urG, h, hs]
theorem urG_go (s : ByteArray) (f at_ at' : Nat) (out out' : List UInt8) (h : at_ < s.size) {R : Option (List UInt8)} (hr : urG s (f + 1) at_ out = R) (hs : urStep s at_ out = some (at', out')) : urG s f at' out' = R := by
  subst hr
  simp [urG, h, hs]
theorem urStep_more (s : ByteArray) (at_ at' : Nat) (out out' : List UInt8) (hs : urStep s at_ out = some (at', out')) : out.length ≤ out'.length := by
  unfold urStep at hs
  split at hs
  · split at hs
    · injection hs with hs; injection hs with _ hs; subst hs; simp
    · cases hs
  · split at hs
    · injection hs with hs; injection hs with _ hs; subst hs; simp
    · cases hs
theorem urG_long (s : ByteArray) : ∀ (f at_ : Nat) (out : List UInt8), 4096 < out.length → urG s f at_ out = none
  | 0, at_, out, h => by simp [urG, h]
  | f + 1, at_, out, h => by
    unfold urG
    split
    · split
      · rfl
      · rename_i at' out' hs
        have := urStep_more s at_ at' out out' hs
        exact urG_long s f at' out' (by omega)
    · first | rfl | rw [if_pos h]
theorem urG_over (s : ByteArray) (f at_ : Nat) (out : List UInt8) {R : Option (List UInt8)} (hr : urG s f at_ out = R) (h : 4096 < out.length) : R = none := by
  rw [← hr]
  exact urG_long s f at_ out h
theorem urStep_lit (s : ByteArray) (at_ : Nat) (out : List UInt8) (h : bt s at_ < 64) (h2 : at_ + bt s at_ + 2 ≤ s.size) : urStep s at_ out = some (at_ + bt s at_ + 2, out ++ seg s (at_ + 1) (at_ + bt s at_ + 2)) := by
  simp [urStep, h, h2]
theorem urStep_lit_no (s : ByteArray) (at_ : Nat) (out : List UInt8) (h : bt s at_ < 64) (h2 : ¬ at_ + bt s at_ + 2 ≤ s.size) : urStep s at_ out = none := by
  simp [urStep, h, h2]
theorem urStep_run (s : ByteArray) (at_ : Nat) (out : List UInt8) (h : ¬ bt s at_ < 64) (h2 : at_ + 1 < s.size) (h3 : bt s at_ ≤ 125) :
    urStep s at_ out = some (at_ + 2, out ++ List.replicate (bt s at_ - 61) (s.data.toList.getD (at_ + 1) 0)) := by
  simp [urStep, h, h2, h3]
theorem urStep_run_no (s : ByteArray) (at_ : Nat) (out : List UInt8) (h : ¬ bt s at_ < 64) (h2 : ¬ (bt s at_ ≤ 125 ∧ at_ + 1 < s.size)) : urStep s at_ out = none := by
  unfold urStep
  rw [if_neg h, if_neg h2]
theorem bt_getD (s : ByteArray) (k : Nat) : (s.data.toList.getD k 0).toNat = bt s k := rfl
theorem repl_snoc {α : Type} (l : List α) (n : Nat) (x : α) : l ++ List.replicate (n + 1) x = (l ++ [x]) ++ List.replicate n x := by
  rw [List.replicate_succ]
  simp
end Go.Proofs.Ytgilmdohlacknaa
