/- Plain functions: the runs of bytes in which two strings differ. -/
import Derived.Test.YtepipnigcgpncaaDelM
namespace Go.Proofs.Ytepipnigcgpncaa
open Go.RowKit
set_option linter.unusedVariables false

/-- How many bytes from p on differ. -/
def dif (a b : ByteArray) (p : Nat) : Nat := if h : p < a.size ∧ ¬ bt a p = bt b p then dif a b (p + 1) + 1 else 0
termination_by a.size - p
theorem dif_yes (a b : ByteArray) (p : Nat) (h1 : p < a.size) (h2 : ¬ bt a p = bt b p) : dif a b p = dif a b (p + 1) + 1 := by rw [dif, dif_pos ⟨h1, h2⟩]
theorem dif_eq (a b : ByteArray) (p : Nat) (h2 : bt a p = bt b p) : dif a b p = 0 := by rw [dif, dif_neg (fun h => h.2 h2)]
theorem dif_end (a b : ByteArray) (p : Nat) (h1 : ¬ p < a.size) : dif a b p = 0 := by rw [dif, dif_neg (fun h => h1 h.1)]
theorem dif_le (a b : ByteArray) : ∀ n p, a.size - p = n → p ≤ a.size → p + dif a b p ≤ a.size
  | 0, p, h, hp => by rw [dif_end a b p (by omega)]; exact hp
  | n + 1, p, h, hp => by
    by_cases h2 : bt a p = bt b p
    · rw [dif_eq a b p h2]; exact hp
    · have := dif_le a b n (p + 1) (by omega) (by omega)
      rw [dif_yes a b p (by omega) h2]
      omega
def difItem (a b : ByteArray) (p : Nat) : List DDelta := if 0 < dif a b p then [⟨(p : Int), b.extract p (p + dif a b p)⟩] else []
def dls (a b : ByteArray) (p : Nat) : List DDelta := if h : p < a.size then difItem a b p ++ dls a b (p + dif a b p + 1) else []
termination_by a.size - p
theorem dls_end (a b : ByteArray) (p : Nat) (out R : List DDelta) (h : ¬ p < a.size) (hr : out ++ dls a b p = R) : out = R := by rw [dls, dif_neg h] at hr; simpa using hr
theorem dls_none (a b : ByteArray) (p : Nat) (out R : List DDelta) (h : p < a.size) (h0 : dif a b p = 0) (hr : out ++ dls a b p = R) : out ++ dls a b (p + 1) = R := by
  rw [dls, dif_pos h, difItem, if_neg (by omega), h0] at hr
  simpa using hr
theorem dls_some (a b : ByteArray) (p n : Nat) (out R : List DDelta) (h : p < a.size) (h0 : 0 < n) (hn : n = dif a b p) (hr : out ++ dls a b p = R) : (out ++ [⟨(p : Int), b.extract p (p + n)⟩]) ++ dls a b (p + n + 1) = R := by
  subst hn
  rw [dls, dif_pos h, difItem, if_pos h0] at hr
  rw [List.append_assoc]
  exact hr
def deltas (a b : ByteArray) : Option (List DDelta) := if ¬ a.size = b.size ∨ 4096 < a.size then none else some (dls a b 0)
theorem deltas_no (a b : ByteArray) (h : ¬ a.size = b.size ∨ 4096 < a.size) : deltas a b = none := if_pos h
theorem deltas_yes (a b : ByteArray) (h : a.size = b.size) (h2 : ¬ 4096 < a.size) : deltas a b = some (dls a b 0) := if_neg (by omega)
end Go.Proofs.Ytepipnigcgpncaa
