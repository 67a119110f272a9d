/- One sector of a row is replaced. -/
import Derived.Test.YtjahgknehamlpaaSSector
import Derived.Test.YtjahgknehamlpaaMark
namespace Go.Proofs.Ytjahgknehamlpaa
open Go.RowKit
set_option linter.unusedVariables false

theorem setS (l : List DSector) (k : Nat) (hk : k < l.length) (y : DSector) : putV (flat fSector l) (k * 2) (fSector y) = flat fSector (l.set k y) := by
  have := flat_put fSector 2 fSector_len (l.take k) (l.drop (k + 1)) l[k] y
  rw [List.length_take, Nat.min_eq_left (by omega), ← List.drop_eq_getElem_cons hk, List.take_append_drop] at this
  rw [this]
  congr 1
  exact (List.set_eq_take_append_cons_drop.trans (if_pos hk)).symm
end Go.Proofs.Ytjahgknehamlpaa
