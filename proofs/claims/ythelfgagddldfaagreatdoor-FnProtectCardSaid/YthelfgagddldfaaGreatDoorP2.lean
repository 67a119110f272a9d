/- Plain: a protected track is a valid track. -/
import Derived.Test.YthelfgagddldfaaGreatDoorP1
namespace Go.Proofs.YthelfgagddldfaaGreatDoor
open Go.RowKit Go.Lib
set_option linter.unusedVariables false
set_option linter.unusedSimpArgs false

theorem all_getD {xs : List DSectorSpec} (h : xs.all ssB = true) {i : Nat} (hi : i < xs.length) : ssB (xs.getD i noSS) = true := by
  rw [List.getD_eq_getElem?_getD, List.getElem?_eq_getElem hi]
  exact List.all_eq_true.1 h _ (List.getElem_mem hi)
theorem all_set {xs : List DSectorSpec} (h : xs.all ssB = true) {i : Nat} {y : DSectorSpec} (hy : ssB y = true) : (xs.set i y).all ssB = true := by
  rw [List.all_eq_true] at h ⊢
  intro z hz
  rcases List.mem_or_eq_of_mem_set hz with hz | rfl
  · exact h z hz
  · exact hy
theorem feB_1 {s x : Int} (h : feB 1 s x = true) : 0 ≤ x ∧ x ≤ s - 1 := by
  unfold feB at h
  rw [Bool.and_eq_true, if_pos rfl] at h
  exact inB_yes h.2
theorem feB_8 {s x : Int} (h : feB 8 s x = true) : 1 ≤ x := by
  unfold feB at h
  rw [Bool.and_eq_true] at h
  have h2 := h.2
  simp only [show ¬ (8 : Int) = 1 by decide, show ¬ (8 : Int) = 7 by decide, if_false, if_true, Bool.and_eq_true] at h2
  exact (inB_yes h2.2).1
theorem feB_0 {k s x : Int} (h : feB k s x = true) : 0 ≤ s := by
  unfold feB at h
  rw [Bool.and_eq_true] at h
  exact (inB_yes h.1).1
theorem ts_keep {f g k s x : Int} {xs : List DSectorSpec} (h : tsB f g xs = true) (hf : feB k s x = true) (hc : prC true g xs.length k s x = 0) : tsB f (prG 0 g k x) (prL 0 xs k s x) = true := by
  obtain ⟨_, k5, k7, h8, h1, h0⟩ := pr_ok hc
  unfold tsB at h ⊢
  simp only [Bool.and_eq_true, decide_eq_true_eq] at h ⊢
  obtain ⟨⟨⟨a1, a2⟩, a3⟩, a4⟩ := h
  unfold prG prL
  rw [if_pos rfl, if_pos rfl]
  by_cases e8 : k = 8
  · subst e8
    rw [if_pos rfl, if_pos rfl]
    have b1 := inB_yes a2
    have b2 := feB_8 hf
    have b3 := h8 rfl
    refine ⟨⟨⟨a1, ?_⟩, a3⟩, a4⟩
    unfold inB
    simp
    omega
  · rw [if_neg e8, if_neg e8]
    by_cases e1 : k = 1
    · subst e1
      rw [if_pos rfl]
      have b1 := feB_1 hf
      obtain ⟨b2, b3⟩ := h1 rfl
      refine ⟨⟨⟨a1, a2⟩, by simp; omega⟩, ?_⟩
      rw [List.all_append, a4]
      have : ssB (xs.getD x.toNat noSS) = true := all_getD a4 (by omega)
      rw [Bool.true_and]
      show (ssB (prA (xs.getD x.toNat noSS)) && true) = true
      rw [ss_prA this]
      rfl
    · rw [if_neg e1]
      have b1 := h0 e8 e1
      have b2 := feB_0 hf
      refine ⟨⟨⟨a1, a2⟩, by simp; omega⟩, ?_⟩
      exact all_set a4 (ss_prS (all_getD a4 (by omega)))
theorem pr_at1 {s x : Int} {xs : List DSectorSpec} (h : s = (xs.length : Int)) : (prL 0 xs 1 s x)[s.toNat]? = some (prA (xs.getD x.toNat noSS)) := by
  subst h
  unfold prL
  rw [if_pos rfl, if_neg (by decide), if_pos rfl]
  simp
theorem pr_at1o {s x : Int} {xs : List DSectorSpec} {j : Nat} (h : j < xs.length) : (prL 0 xs 1 s x)[j]? = xs[j]? := by
  unfold prL
  rw [if_pos rfl, if_neg (by decide), if_pos rfl]
  exact List.getElem?_append_left h
theorem pr_at {k s x : Int} {xs : List DSectorSpec} (h8 : k ≠ 8) (h1 : k ≠ 1) (h0 : 0 ≤ s) (h : s < (xs.length : Int)) : (prL 0 xs k s x)[s.toNat]? = some (prS k (xs.getD s.toNat noSS)) := by
  unfold prL
  rw [if_pos rfl, if_neg h8, if_neg h1]
  exact List.getElem?_set_self (by omega)
end Go.Proofs.YthelfgagddldfaaGreatDoor
