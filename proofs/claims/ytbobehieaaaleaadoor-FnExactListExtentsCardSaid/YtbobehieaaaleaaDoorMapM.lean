/- Laws without the program: the map of a device is in order; sets of bool cells. -/
import Derived.Test.YtbobehieaaaleaaDoorW61
import Derived.Test.YtbobehieaaaleaaDoorW33
namespace Go.Proofs.YtbobehieaaaleaaDoor
open Go.RowKit
set_option linter.unusedVariables false

/-- The rest of a map is in order behind what was seen. -/
def mapB (n : Int) : List Int → List Int → Bool
  | _, [] => true
  | pre, x :: xs => inB x 0 (n - 1) && !(pre.contains x) && mapB n (pre ++ [x]) xs
theorem mapB_at {n : Int} {m : List Int} (i : Nat) (h : i < m.length) : mapB n (m.take i) (m.drop i) = (inB m[i] 0 (n - 1) && !((m.take i).contains m[i]) && mapB n (m.take (i + 1)) (m.drop (i + 1))) := by
  rw [List.take_succ_eq_append_getElem h]
  conv => lhs; rw [List.drop_eq_getElem_cons h]
  rfl
theorem mapB_end {n : Int} {m : List Int} (i : Nat) (h : m.length ≤ i) : mapB n (m.take i) (m.drop i) = true := by
  rw [List.drop_eq_nil_of_le h]
  rfl
theorem mapB_1 {n : Int} {m : List Int} (i : Nat) (h : i < m.length) (g : inB m[i] 0 (n - 1) = false) : mapB n (m.take i) (m.drop i) = false := by
  rw [mapB_at i h, g, Bool.false_and, Bool.false_and]
theorem mapB_2 {n : Int} {m : List Int} (i : Nat) (h : i < m.length) (g : (m.take i).contains m[i] = true) : mapB n (m.take i) (m.drop i) = false := by
  rw [mapB_at i h, g, Bool.not_true, Bool.and_false, Bool.false_and]
theorem mapB_3 {n : Int} {m : List Int} (i : Nat) (h : i < m.length) (g : inB m[i] 0 (n - 1) = true) (g2 : (m.take i).contains m[i] = false) : mapB n (m.take i) (m.drop i) = mapB n (m.take (i + 1)) (m.drop (i + 1)) := by
  rw [mapB_at i h, g, g2, Bool.not_false, Bool.true_and, Bool.true_and]
theorem mapB_mem {n : Int} : ∀ (m pre : List Int), mapB n pre m = true → ∀ x ∈ m, 0 ≤ x ∧ x < n
  | [], _, _, x, hx => absurd hx (by simp)
  | y :: m, pre, h, x, hx => by
    simp only [mapB, Bool.and_eq_true] at h
    rcases List.mem_cons.1 hx with rfl | hx
    · have := inB_yes h.1.1
      omega
    · exact mapB_mem m _ h.2 x hx

/-- A device is in order: d says that its disc is, N is the number of its sectors. -/
def okV (d : Bool) (N : Nat) (k r : Int) (m : List Int) : Bool := d && inB k 0 7 && inB r 0 ((N : Int) - 1) && decide ((m.length : Int) = (N : Int) - r) && mapB N [] m
section
variable {d : Bool} {N : Nat} {k r : Int} {m : List Int}
theorem okV_1 : okV false N k r m = false := by simp only [okV, Bool.false_and]
theorem okV_2 (h : inB k 0 7 = false) : okV d N k r m = false := by simp only [okV, h, Bool.false_and, Bool.and_false]
theorem okV_3 (h : inB r 0 ((N : Int) - 1) = false) : okV d N k r m = false := by simp only [okV, h, Bool.false_and, Bool.and_false]
theorem okV_4 (h : ¬ (m.length : Int) = (N : Int) - r) : okV d N k r m = false := by simp only [okV, h, decide_false, Bool.false_and, Bool.and_false]
theorem okV_5 (h1 : inB k 0 7 = true) (h2 : inB r 0 ((N : Int) - 1) = true) (h3 : (m.length : Int) = (N : Int) - r) : okV true N k r m = mapB N (m.take 0) (m.drop 0) := by
  simp only [okV, h1, h2, h3, decide_true, Bool.true_and, List.take_zero, List.drop_zero]
theorem okV_yes (h : okV d N k r m = true) : d = true ∧ inB k 0 7 = true ∧ inB r 0 ((N : Int) - 1) = true ∧ (m.length : Int) = (N : Int) - r ∧ ∀ x ∈ m, 0 ≤ x ∧ x < (N : Int) := by
  simp only [okV, Bool.and_eq_true, decide_eq_true_eq] at h
  exact ⟨h.1.1.1.1, h.1.1.1.2, h.1.1.2, h.1.2, mapB_mem m [] h.2⟩
end

/-- The cells of a set of numbers below N. -/
def seenL (N : Nat) (pre : List Int) : List Value := (List.range N).map fun (j : Nat) => Value.bool (pre.contains (j : Int))
theorem seenL_len (N : Nat) (pre : List Int) : (seenL N pre).length = N := by simp [seenL]
theorem seenL_get (N : Nat) (pre : List Int) (j : Nat) (h : j < (seenL N pre).length) : (seenL N pre)[j] = .bool (pre.contains (j : Int)) := by simp [seenL]
theorem seenL_set (N : Nat) (pre : List Int) (j : Nat) : (seenL N pre).set j (.bool true) = seenL N (pre ++ [(j : Int)]) := by
  apply List.ext_getElem
  · simp [seenL]
  · intro i h1 h2
    rw [seenL_get]
    rw [List.getElem_set]
    split
    · rename_i e
      subst e
      simp
    · rename_i e
      rw [seenL_get]
      congr 1
      rw [Bool.eq_iff_iff]
      simp only [List.contains_eq_mem, List.mem_append, List.mem_singleton, decide_eq_true_eq]
      constructor
      · intro h; exact .inl h
      · rintro (h | h)
        · exact h
        · omega
theorem madeCells_false : ∀ (N : Nat), (madeCells #[Value.bool false] N).toList = seenL N [] := by
  intro N
  apply List.ext_getElem
  · rw [Array.length_toList, size_madeCells, seenL_len]
  · intro i h1 h2
    rw [seenL_get]
    have : i % 1 = 0 := by omega
    simp [madeCells, this]
end Go.Proofs.YtbobehieaaaleaaDoor
