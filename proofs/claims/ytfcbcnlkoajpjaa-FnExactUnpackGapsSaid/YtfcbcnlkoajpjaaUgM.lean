/- Plain functions: gaps unpacked. -/
import Derived.Test.YtfcbcnlkoajpjaaGapM
namespace Go.Proofs.Ytfcbcnlkoajpjaa
open Go.RowKit
set_option linter.unusedVariables false

def zag (n : Nat) : Int := if n % 2 = 1 then -((n / 2 : Nat) : Int) - 1 else ((n / 2 : Nat) : Int)
theorem zag_odd {n : Nat} (h : n % 2 = 1) : zag n = -((n / 2 : Nat) : Int) - 1 := if_pos h
theorem zag_even {n : Nat} (h : ¬ n % 2 = 1) : zag n = ((n / 2 : Nat) : Int) := if_neg h
def ugFin (s : ByteArray) (out : List Int) : Option (List Int) := if packGaps out = some s.data.toList then some out else none
def ugG (s : ByteArray) : Nat → Nat → Nat → Nat → Int → List Int → Option (List Int)
  | 0, _, _, _, _, _ => none
  | f + 1, i, n, j, last, out =>
    if i < s.size then
      if 128 ≤ bt s i then (if j = 4 then none else ugG s f (i + 1) (n + bt s i % 128 * 128 ^ j) (j + 1) last out)
      else ugG s f (i + 1) 0 0 (last + zag (n + bt s i % 128 * 128 ^ j)) (out ++ [last + zag (n + bt s i % 128 * 128 ^ j)])
    else ugFin s out
def ug (s : ByteArray) : Option (List Int) := ugG s (s.size + 1) 0 0 0 0 []
theorem ug_more {s : ByteArray} {f i n j : Nat} {last : Int} {out : List Int} {R : Option (List Int)} (h : ugG s (f + 1) i n j last out = R) (h1 : i < s.size) (h2 : 128 ≤ bt s i) (h3 : ¬ j = 4) : ugG s f (i + 1) (n + bt s i % 128 * 128 ^ j) (j + 1) last out = R := by
  rw [ugG, if_pos h1, if_pos h2, if_neg h3] at h
  exact h
theorem ug_stop {s : ByteArray} {f i n : Nat} {last : Int} {out : List Int} {R : Option (List Int)} (h : ugG s (f + 1) i n 4 last out = R) (h1 : i < s.size) (h2 : 128 ≤ bt s i) : R = none := by
  rw [ugG, if_pos h1, if_pos h2, if_pos rfl] at h
  exact h.symm
theorem ug_put {s : ByteArray} {f i n j : Nat} {last : Int} {out : List Int} {R : Option (List Int)} (h : ugG s (f + 1) i n j last out = R) (h1 : i < s.size) (h2 : ¬ 128 ≤ bt s i) (m : Nat) (hm : n + bt s i % 128 * 128 ^ j = m) : ugG s f (i + 1) 0 0 (last + zag m) (out ++ [last + zag m]) = R := by
  rw [ugG, if_pos h1, if_neg h2, hm] at h
  exact h
theorem ug_end {s : ByteArray} {f i n j : Nat} {last : Int} {out : List Int} {R : Option (List Int)} (h : ugG s (f + 1) i n j last out = R) (h1 : ¬ i < s.size) : ugFin s out = R := by
  rw [ugG, if_neg h1] at h
  exact h
theorem ugFin_over (s : ByteArray) (out : List Int) (h : 4000 < out.length) : ugFin s out = none := by
  unfold ugFin
  rw [packGaps_no out (okGaps_long out h), if_neg (by simp)]
theorem ug_over (s : ByteArray) : ∀ (f i n j : Nat) (last : Int) (out : List Int), 4000 < out.length → ugG s f i n j last out = none
  | 0, _, _, _, _, _, _ => rfl
  | f + 1, i, n, j, last, out, h => by
    unfold ugG
    split
    · split
      · split
        · rfl
        · exact ug_over s f _ _ _ _ _ h
      · exact ug_over s f _ _ _ _ _ (by simp; omega)
    · exact ugFin_over s out h
theorem vb_ne (n : Nat) : vb n ≠ [] := by
  by_cases h : n < 128
  · rw [vb_small n h]; simp
  · rw [vb_big n h]; simp
theorem vb_last : ∀ (k n : Nat), n ≤ k → ∃ b, (vb n).getLast? = some b ∧ b.toNat < 128
  | 0, n, h => by
    have : n = 0 := by omega
    subst this
    exact ⟨0, by rw [vb_small 0 (by omega)]; rfl, by decide⟩
  | k + 1, n, h => by
    by_cases hn : n < 128
    · refine ⟨UInt8.ofNat n, by rw [vb_small n hn]; rfl, ?_⟩
      rw [UInt8.toNat_ofNat']
      omega
    · obtain ⟨b, h1, h2⟩ := vb_last k (n / 128) (by omega)
      refine ⟨b, ?_, h2⟩
      rw [vb_big n hn, List.getLast?_cons, h1]
      rfl
theorem pgl_last : ∀ (l : List Int) (last : Int), l ≠ [] → ∃ b, (pgl last l).getLast? = some b ∧ b.toNat < 128
  | [], _, h => absurd rfl h
  | [g], last, _ => by
    obtain ⟨b, h1, h2⟩ := vb_last _ (zig (g - last)) (Nat.le_refl _)
    exact ⟨b, by simpa [pgl] using h1, h2⟩
  | g :: g2 :: r, last, _ => by
    obtain ⟨b, h1, h2⟩ := pgl_last (g2 :: r) g (by simp)
    refine ⟨b, ?_, h2⟩
    rw [pgl, List.getLast?_append, h1]
    rfl
/-- A text that ends within a number is no packed one. -/
theorem ugFin_half (s : ByteArray) (out : List Int) (i : Nat) (hi : i = s.size) (h0 : 0 < i) (h1 : 128 ≤ bt s (i - 1)) : ugFin s out = none := by
  unfold ugFin
  refine if_neg fun h => ?_
  cases hok : okGaps out
  · rw [packGaps_no out hok] at h; cases h
  · rw [packGaps_yes out hok] at h
    injection h with h
    have hne : out ≠ [] := by
      intro e
      subst e
      have := congrArg List.length h
      rw [Array.length_toList] at this
      have h2 : s.data.size = s.size := rfl
      simp [pgl] at this
      omega
    obtain ⟨b, hb, hb2⟩ := pgl_last out 0 hne
    rw [h, List.getLast?_eq_getElem?, Array.length_toList] at hb
    have h2 : s.data.size = s.size := rfl
    have h3 : bt s (i - 1) = b.toNat := by
      unfold bt
      rw [List.getD_eq_getElem?_getD, hi, ← h2, hb]
      rfl
    omega
theorem ugFin_yes {s : ByteArray} {out : List Int} (h : okGaps out = true) (h2 : (pgl 0 out == s.data.toList) = true) : ugFin s out = some out := by
  unfold ugFin
  rw [packGaps_yes out h, if_pos (by rw [beq_iff_eq] at h2; rw [h2])]
theorem ugFin_bad {s : ByteArray} {out : List Int} (h : okGaps out = false) : ugFin s out = none := by
  unfold ugFin
  rw [packGaps_no out h, if_neg (by simp)]
theorem ugFin_no {s : ByteArray} {out : List Int} (h : okGaps out = true) (h2 : (pgl 0 out == s.data.toList) = false) : ugFin s out = none := by
  unfold ugFin
  rw [packGaps_yes out h, if_neg (by intro e; injection e with e; rw [e] at h2; simp at h2)]
def ugL (s : ByteArray) : List Int := (ug s).getD []
end Go.Proofs.Ytfcbcnlkoajpjaa
