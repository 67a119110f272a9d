/- Walks: numbers in decimal, a text cut at its blanks (spec). -/
import Derived.Test.YthelfgagddldfaaGreatDoorR2
import Derived.Test.YthelfgagddldfaaGreatDoorMem5
namespace Go.Proofs.YthelfgagddldfaaGreatDoor
open Go.RowKit Go.Lib

theorem isDig_B (b : UInt8) : isDig (b.toNat : Int) = digB b := by
  unfold isDig digB
  congr 1 <;> rw [Bool.eq_iff_iff] <;> simp <;> omega
theorem numS_bad {t : List UInt8} (h : t = [] ∨ 7 < t.length ∨ (t.head? = some 48 ∧ 1 < t.length)) : numS t = -1 := by rw [numS, if_pos h]
theorem numS_ok {t : List UInt8} (h : ¬ (t = [] ∨ 7 < t.length ∨ (t.head? = some 48 ∧ 1 < t.length))) (g : t.all digB = true) : numS t = (numD t 0 : Int) := by rw [numS, if_neg h, if_pos g]
theorem numS_no {t : List UInt8} (h : ¬ (t = [] ∨ 7 < t.length ∨ (t.head? = some 48 ∧ 1 < t.length))) (g : ¬ t.all digB = true) : numS t = -1 := by rw [numS, if_neg h, if_neg g]
theorem numD_take {l : List UInt8} {k : Nat} (h : k < l.length) : numD (l.take (k + 1)) 0 = 10 * numD (l.take k) 0 + (l[k].toNat - 48) := by
  rw [List.take_succ_eq_append_getElem h, numD, List.foldl_append]
  rfl
theorem numD_lt : ∀ (k : Nat) (l : List UInt8), l.length ≤ k → (∀ b ∈ l, b.toNat ≤ 57) → numD l 0 < 10 ^ k
  | 0, l, h, _ => by
    have : l = [] := List.eq_nil_of_length_eq_zero (by omega)
    subst this
    decide
  | k + 1, l, h, g => by
    rcases List.eq_nil_or_concat l with rfl | ⟨m, x, rfl⟩
    · exact Nat.pow_pos (by decide)
    · rw [List.concat_eq_append] at h g ⊢
      have h1 := numD_lt k m (by simp at h; omega) fun b hb => g b (by simp [hb])
      have h2 := g x (by simp)
      have e : numD (m ++ [x]) 0 = 10 * numD m 0 + (x.toNat - 48) := by
        rw [numD, List.foldl_append]
        rfl
      rw [e, Nat.pow_succ]
      omega
end Go.Proofs.YthelfgagddldfaaGreatDoor
