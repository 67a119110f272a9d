/- Walks: a disk of chains: its blocks and its header. -/
import Derived.Test.YtjahgknehamlpaaW91
import Derived.Test.YtjahgknehamlpaaW89
import Derived.Test.YtjahgknehamlpaaQB
import Derived.Test.YtjahgknehamlpaaSString
namespace Go.Proofs.Ytjahgknehamlpaa
open Go.RowKit
set_option linter.unusedVariables false

theorem Rd.of_bx {w : World} {g : Nat} {t : TypeId} {xs : List Value} (h : BX w g t xs) : Rd w w.heap.size 1 (some ⟨g, 0, none⟩) xs.length xs :=
  ⟨by simp, fun _ => ⟨g, 0, rfl, h.lt, fun j hj => by simpa using h.cell j hj⟩⟩
theorem has_one (s : Nat) : hasB [8, 16, 32] (s : Int) = oneOf s := by
  have h8 : decide (s = 8) = decide ((s : Int) = 8) := by rw [Bool.eq_iff_iff]; simp; omega
  have h16 : decide (s = 16) = decide ((s : Int) = 16) := by rw [Bool.eq_iff_iff]; simp; omega
  have h32 : decide (s = 32) = decide ((s : Int) = 32) := by rw [Bool.eq_iff_iff]; simp; omega
  rw [hasB, oneOf, h8, h16, h32]
  simp [Bool.or_assoc]
end Go.Proofs.Ytjahgknehamlpaa
