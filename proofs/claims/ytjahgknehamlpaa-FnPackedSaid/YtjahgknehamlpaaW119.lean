/- Walks: the data of a track enter a disc (impl). -/
import Derived.Test.YtjahgknehamlpaaEntM
import Derived.Test.YtjahgknehamlpaaW10
import Derived.Test.YtjahgknehamlpaaW60
import Derived.Test.YtjahgknehamlpaaTrS
import Derived.Test.YtjahgknehamlpaaQB
import Derived.Test.YtjahgknehamlpaaPut
namespace Go.Proofs.Ytjahgknehamlpaa
open Go.RowKit
set_option linter.unusedVariables false

theorem oneSector (x : DSector) : ∀ u ∈ fSector x, u.oneCell' = true := by
  intro u hu
  simp only [fSector, List.mem_cons, List.not_mem_nil, or_false] at hu
  rcases hu with rfl | rfl <;> rfl
theorem str_empty {d : ByteArray} (h : d.size = 0) : d = ⟨#[]⟩ := by
  apply ByteArray.ext
  exact Array.eq_empty_of_size_eq_zero h
theorem str_some {d : ByteArray} (h : ¬ d.size = 0) : (d.toList == []) = false := by
  rw [beq_eq_false_iff_ne]
  intro e
  apply h
  rw [ByteArray.toList_eq] at e
  have := congrArg List.length e
  simpa using this
theorem FillC.at_ {w : World} {g N m : Nat} {e : TypeId} {xs : List Value} (h : FillC w g e N xs m) {j : Nat} {v : Value} (hj : j < m) (hx : xs[j]? = some v) : w.cell? ⟨g, j, none⟩ = some v := by
  obtain ⟨cs, hg, hs, hc⟩ := h
  rw [cell_of_row w g j cs e (0, 0) hg, hc j hj, hx]

end Go.Proofs.Ytjahgknehamlpaa
