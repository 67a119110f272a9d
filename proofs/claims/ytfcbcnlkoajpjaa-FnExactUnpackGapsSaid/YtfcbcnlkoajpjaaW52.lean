/- How many gaps are unpacked at most. -/
import Derived.Test.YtfcbcnlkoajpjaaW51
import Derived.Test.YtfcbcnlkoajpjaaSInt64
namespace Go.Proofs.Ytfcbcnlkoajpjaa
open Go.RowKit
set_option linter.unusedVariables false

theorem ugG_len (s : ByteArray) : ∀ (f i n j : Nat) (last : Int) (out o : List Int), ugG s f i n j last out = some o → o.length ≤ 4000
  | 0, _, _, _, _, _, _, h => by cases h
  | f + 1, i, n, j, last, out, o, h => by
    unfold ugG at h
    split at h
    · split at h
      · split at h
        · cases h
        · exact ugG_len s f _ _ _ _ _ _ h
      · exact ugG_len s f _ _ _ _ _ _ h
    · unfold ugFin at h
      split at h
      · rename_i hp
        injection h with h
        subst h
        cases hok : okGaps out
        · rw [packGaps_no out hok] at hp; cases hp
        · exact (okGaps_in out hok).1
      · cases h
theorem ugL_len (s : ByteArray) : (ugL s).length ≤ 4000 := by
  unfold ugL
  cases h : ug s with
  | none => simp
  | some o => exact ugG_len s _ _ _ _ _ _ _ h
end Go.Proofs.Ytfcbcnlkoajpjaa
