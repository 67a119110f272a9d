/- Plain: a feature's text is read back as the feature; a protected track is a valid track and bears the feature. -/
import Derived.Test.YthelfgagddldfaaGreatDoorR1
import Derived.Test.YthelfgagddldfaaGreatDoorPrM
namespace Go.Proofs.YthelfgagddldfaaGreatDoor
open Go.RowKit Go.Lib
set_option linter.unusedVariables false
set_option linter.unusedSimpArgs false

theorem kw_ne {k : Nat} (h : 1 ≤ k ∧ k ≤ 8) : kw k ≠ [] := by
  obtain ⟨h1, h2⟩ := h
  rcases (show k = 1 ∨ k = 2 ∨ k = 3 ∨ k = 4 ∨ k = 5 ∨ k = 6 ∨ k = 7 ∨ k = 8 by omega) with rfl | rfl | rfl | rfl | rfl | rfl | rfl | rfl <;> decide
theorem rf_nil : rfOk [] = false := by simp [rfOk]
theorem rf_round {k s v : Int} : rfOk (ftx (k, s, v)) = feB k s v := by
  cases h : feB k s v
  · rw [ftx_no h]
    exact rf_nil
  · have h1 : ftx (k, s, v) ≠ [] := by
      obtain ⟨a, b, c, rfl, rfl, rfl, hb, hc, hh⟩ := feB_cases h
      rw [ftx_yes h]
      simp only [Int.toNat_natCast]
      rcases hh with h | ⟨h, _⟩ | ⟨rfl, _⟩
      · rw [txL_13 h]
        exact List.append_ne_nil_of_left_ne_nil (kw_ne (by omega)) _
      · rw [txL_2 h]
        exact List.append_ne_nil_of_left_ne_nil (kw_ne (by omega)) _
      · rw [txL_8]
        exact List.append_ne_nil_of_left_ne_nil (kw_ne (by omega)) _
    have h2 : rfZ (ftx (k, s, v)) = (k, s, v) := rfZ_tx h
    rw [rfOk, h2]
    simp [h1]
theorem rfF_round {k s v : Int} (h : feB k s v = true) : rfF (ftx (k, s, v)) = (k, s, v) := by
  rw [rfF_y (rf_round.trans h)]
  exact rfZ_tx h
theorem inv_size (s : ByteArray) : (invB s).size = s.size := by
  show (invB s).data.size = s.data.size
  simp [invB]
theorem ss_prA {y : DSectorSpec} (h : ssB y = true) : ssB (prA y) = true := by
  unfold ssB at h ⊢
  unfold prA
  simp only [inv_size]
  exact h
theorem inB_flip {a : Int} (h : inB a 0 255 = true) : inB (255 - a) 0 255 = true := by
  obtain ⟨h1, h2⟩ := inB_yes h
  unfold inB
  simp
  omega
theorem ss_prS {k : Int} {y : DSectorSpec} (h : ssB y = true) : ssB (prS k y) = true := by
  unfold prS
  repeat' split
  · unfold ssB at h ⊢
    simp only [Bool.and_eq_true] at h ⊢
    obtain ⟨⟨⟨⟨h1, h2⟩, h3⟩, h4⟩, h5⟩ := h
    exact ⟨⟨⟨⟨inB_flip h1, h2⟩, h3⟩, h4⟩, h5⟩
  · exact h
  · exact h
  · exact h
theorem pr_ok {v : Bool} {g : Int} {n : Nat} {k s x : Int} (h : prC v g n k s x = 0) : v = true ∧ k ≠ 5 ∧ k ≠ 7 ∧ (k = 8 → g + x ≤ 20) ∧ (k = 1 → s = (n : Int) ∧ n < 8) ∧ (k ≠ 8 → k ≠ 1 → s < (n : Int)) := by
  unfold prC at h
  repeat' split at h
  all_goals (first | omega | skip)
  all_goals simp_all
  all_goals omega
end Go.Proofs.YthelfgagddldfaaGreatDoor
