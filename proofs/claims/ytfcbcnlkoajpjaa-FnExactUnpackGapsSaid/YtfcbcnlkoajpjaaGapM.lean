/- Plain functions: gaps packed by differences. -/
import Derived.Test.YtfcbcnlkoajpjaaUnpM
import Derived.Test.YtfcbcnlkoajpjaaW1
namespace Go.Proofs.Ytfcbcnlkoajpjaa
open Go.RowKit
set_option linter.unusedVariables false

def zig (d : Int) : Nat := if 2 * d < 0 then (-(2 * d) - 1).toNat else (2 * d).toNat
theorem zig_neg (d : Int) (h : 2 * d < 0) : ((zig d : Nat) : Int) = -(2 * d) - 1 := by unfold zig; rw [if_pos h]; omega
theorem zig_pos (d : Int) (h : ¬ 2 * d < 0) : ((zig d : Nat) : Int) = 2 * d := by unfold zig; rw [if_neg h]; omega
theorem zig_lt (d : Int) (h1 : -2000000 ≤ d) (h2 : d ≤ 2000000) : zig d < 4000001 := by unfold zig; split <;> omega

def vb (n : Nat) : List UInt8 := if n < 128 then [UInt8.ofNat n] else UInt8.ofNat (n % 128 + 128) :: vb (n / 128)
termination_by n
theorem vb_small (n : Nat) (h : n < 128) : vb n = [UInt8.ofNat n] := by rw [vb, if_pos h]
theorem vb_big (n : Nat) (h : ¬ n < 128) : vb n = UInt8.ofNat (n % 128 + 128) :: vb (n / 128) := by rw [vb, if_neg h]
theorem vb_len (n : Nat) (h : n < 4000001) : (vb n).length ≤ 4 := by
  have h1 : ∀ n, n < 128 → (vb n).length ≤ 1 := fun n h => by rw [vb_small n h]; simp
  have step : ∀ (b k : Nat), (∀ n, n < b → (vb n).length ≤ k) → ∀ n, n < b * 128 → (vb n).length ≤ k + 1 := by
    intro b k hb n hn
    by_cases h : n < 128
    · rw [vb_small n h]; simp
    · rw [vb_big n h]
      have := hb (n / 128) (by omega)
      simp only [List.length_cons]
      omega
  exact step _ 3 (step _ 2 (step _ 1 h1)) n (by omega)
theorem vb_lt (n : Nat) : n / 128 ≤ n := Nat.div_le_self _ _

def pgl : Int → List Int → List UInt8
  | _, [] => []
  | last, g :: r => vb (zig (g - last)) ++ pgl g r
def okGap (g : Int) : Bool := inB g 1 2000000
def okGaps (l : List Int) : Bool := decide (l.length ≤ 4000) && l.all okGap
def packGaps (l : List Int) : Option (List UInt8) := if okGaps l = true then some (pgl 0 l) else none

theorem pgl_end (l : List Int) (k : Nat) (last : Int) (out R : List UInt8) (hk : ¬ k < l.length) (h : out ++ pgl last (l.drop k) = R) : out = R := by
  rw [List.drop_eq_nil_of_le (by omega)] at h
  simpa [pgl] using h
theorem pgl_start (l : List Int) (k : Nat) (last : Int) (out R : List UInt8) (hk : k < l.length) (h : out ++ pgl last (l.drop k) = R) : (out ++ vb (zig (l[k] - last))) ++ pgl l[k] (l.drop (k + 1)) = R := by
  rw [List.drop_eq_getElem_cons hk, pgl] at h
  rw [List.append_assoc]
  exact h
theorem vb_step (m : Nat) (out R : List UInt8) (hm : ¬ m < 128) (h : out ++ vb m = R) : (out ++ [UInt8.ofNat (m % 128 + 128)]) ++ vb (m / 128) = R := by
  rw [vb_big m hm] at h
  simpa using h
theorem vb_done (m : Nat) (out R : List UInt8) (hm : m < 128) (h : out ++ vb m = R) : out ++ [UInt8.ofNat m] = R := by
  rw [vb_small m hm] at h
  exact h
theorem okGaps_long (l : List Int) (h : 4000 < l.length) : okGaps l = false := by
  unfold okGaps
  have : ¬ l.length ≤ 4000 := by omega
  simp [this]
theorem okGaps_bad (l : List Int) (k : Nat) (hk : k < l.length) (h : okGap l[k] = false) : okGaps l = false := by
  unfold okGaps
  have : l.all okGap = false := by
    rw [List.all_eq_false]
    exact ⟨l[k], List.getElem_mem hk, by simp [h]⟩
  rw [this, Bool.and_false]
theorem okGaps_all (l : List Int) (hl : l.length ≤ 4000) (h : ∀ k, (hk : k < l.length) → okGap l[k] = true) : okGaps l = true := by
  unfold okGaps
  simp only [hl, decide_true, Bool.true_and, List.all_eq_true]
  intro x hx
  obtain ⟨k, hk, rfl⟩ := List.getElem_of_mem hx
  exact h k hk
theorem okGap_in (g : Int) (h : okGap g = true) : 1 ≤ g ∧ g ≤ 2000000 := by unfold okGap inB at h; simpa using h
theorem okGaps_in (l : List Int) (h : okGaps l = true) : l.length ≤ 4000 ∧ ∀ k, (hk : k < l.length) → okGap l[k] = true := by
  unfold okGaps at h
  simp only [Bool.and_eq_true, decide_eq_true_eq, List.all_eq_true] at h
  exact ⟨h.1, fun k hk => h.2 _ (List.getElem_mem hk)⟩
theorem and127 (m : Nat) : m &&& 127 = m % 128 := Nat.and_two_pow_sub_one_eq_mod m 7
theorem shr7 (m : Nat) : m >>> 7 = m / 128 := Nat.shiftRight_eq_div_pow m 7
theorem packGaps_no (l : List Int) (h : okGaps l = false) : packGaps l = none := by unfold packGaps; rw [h]; rfl
theorem packGaps_yes (l : List Int) (h : okGaps l = true) : packGaps l = some (pgl 0 l) := by unfold packGaps; rw [h]; rfl
end Go.Proofs.Ytfcbcnlkoajpjaa
