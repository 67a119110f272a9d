/- Walks: ValidImage. -/
import Derived.Test.YtcfeelecfmepaaaW32
import Derived.Test.YtcfeelecfmepaaaW2
import Derived.Test.YtcfeelecfmepaaaStep
import Derived.Test.YtcfeelecfmepaaaSString
import Derived.Test.YtcfeelecfmepaaaShelf2
namespace Go.Proofs.Ytcfeelecfmepaaa
open Go.RowKit
set_option linter.unusedVariables false

def chrB (c : UInt8) : Bool := decide (32 ≤ c.toNat) && decide (c.toNat ≤ 126)
def noteB (s : ByteArray) : Bool := s.data.toList.all chrB && decide (1 ≤ s.size) && decide (s.size ≤ 40)
theorem chr_step (s : ByteArray) (k : Nat) (h : k < s.size) : (s.data.toList.drop k).all chrB = (chrB s[k] && (s.data.toList.drop (k + 1)).all chrB) := by
  rw [drop_cons s k h]; rfl
theorem chr_yes {s : ByteArray} {k : Nat} {h : k < s.size} {b : Bool} (he : (s.data.toList.drop k).all chrB = b) (h1 : 32 ≤ s[k].toNat) (h2 : s[k].toNat ≤ 126) : (s.data.toList.drop (k + 1)).all chrB = b := by
  rw [chr_step s k h] at he
  simpa [chrB, h1, h2] using he
theorem chr_no {s : ByteArray} {k : Nat} {h : k < s.size} (he : (s.data.toList.drop k).all chrB = s.data.toList.all chrB) (hc : chrB s[k] = false) : noteB s = false := by
  rw [chr_step s k h, hc, Bool.false_and] at he
  simp only [noteB, ← he, Bool.false_and]
theorem chr_end {s : ByteArray} {k : Nat} (hk : ¬ k < s.size) (he : (s.data.toList.drop k).all chrB = s.data.toList.all chrB) : noteB s = (decide (1 ≤ s.size) && decide (s.size ≤ 40)) := by
  rw [drop_end s k hk] at he
  simp only [noteB, ← he, List.all_nil, Bool.true_and]
theorem note_in {s : ByteArray} : (decide (1 ≤ s.size) && decide (s.size ≤ 40)) = inB (s.size : Int) 1 40 := by
  unfold inB
  rw [Bool.eq_iff_iff]
  simp only [Bool.and_eq_true, decide_eq_true_eq]
  omega
theorem empty_of (s : ByteArray) (h : s.size = 0) : s.toList.isEmpty = true := by
  rw [ByteArray.toList_eq]
  have : s.data.toList = [] := List.eq_nil_of_length_eq_zero (by simpa using h)
  rw [this]; rfl
theorem nonempty_of (s : ByteArray) (h : 0 < s.size) : s.toList.isEmpty = false := by
  rw [ByteArray.toList_eq]
  have := drop_cons s 0 h
  rw [List.drop_zero] at this
  rw [this]
  rfl

def imB (d : Bool) (n : List ByteArray) : Bool := d && decide (n.length ≤ 8) && n.all noteB
theorem imB_1 {n : List ByteArray} : imB false n = false := by simp only [imB, Bool.false_and]
theorem imB_2 {d : Bool} {n : List ByteArray} (h : 8 < n.length) : imB d n = false := by
  have : decide (n.length ≤ 8) = false := by simp; omega
  simp only [imB, this, Bool.and_false, Bool.false_and]
theorem imB_3 {n : List ByteArray} (h : n.length ≤ 8) : imB true n = n.all noteB := by
  simp only [imB, decide_eq_true h, Bool.true_and]
theorem imB_4 {d : Bool} {n : List ByteArray} (h : n.all noteB = false) : imB d n = false := by
  simp only [imB, h, Bool.and_false]
theorem imB_5 {n : List ByteArray} (h : n.length ≤ 8) (g : n.all noteB = true) : imB true n = true := by
  rw [imB_3 h, g]
theorem notes_bad {n : List ByteArray} (k : Nat) (hk : k < n.length) (g : noteB n[k] = false) : n.all noteB = false := by
  rw [List.all_eq_false]
  exact ⟨n[k], List.getElem_mem hk, by simp [g]⟩
theorem notes_all {n : List ByteArray} (g : ∀ k, (hk : k < n.length) → noteB n[k] = true) : n.all noteB = true := by
  simp only [List.all_eq_true]
  intro x hx
  obtain ⟨k, hk, rfl⟩ := List.getElem_of_mem hx
  exact g k hk
theorem CP.disc6 {w : World} {g : Nat} {c h p s : Int} {v : Value} {r : List Value} (d : CP w g (.int .i64 c :: .int .i64 h :: .int .i64 p :: .int .i64 s :: v :: r)) : DP w g c h p s v :=
  ⟨d 0 (by simp), d 1 (by simp), d 2 (by simp), d 3 (by simp), d 4 (by simp)⟩

/-- A string that has a length. -/
structure StrN where
  val : ByteArray
  le : val.size ≤ maxLen
instance : Inhabited StrN := ⟨⟨⟨#[]⟩, by decide⟩⟩
def strN (n : List ByteArray) (h : ∀ x ∈ n, x.size ≤ maxLen) : List StrN := n.attach.map fun x => ⟨x.1, h x.1 x.2⟩
theorem strN_len {n : List ByteArray} (h : ∀ x ∈ n, x.size ≤ maxLen) : (strN n h).length = n.length := by simp [strN]
theorem strN_any {n : List ByteArray} (h : ∀ x ∈ n, x.size ≤ maxLen) : (strN n h).any (fun x => !noteB x.val) = !n.all noteB := by
  rw [Bool.eq_iff_iff]
  simp only [strN, List.any_map, List.any_eq_true, Bool.not_eq_true', List.all_eq_false, Function.comp]
  constructor
  · rintro ⟨x, _, hx⟩
    exact ⟨x.1, x.2, by simp [hx]⟩
  · rintro ⟨x, hx, hg⟩
    exact ⟨⟨x, hx⟩, List.mem_attach _ _, by simpa using hg⟩
theorem strN_get {n : List ByteArray} (h : ∀ x ∈ n, x.size ≤ maxLen) (j : Nat) (hj : j < (strN n h).length) (hj' : j < n.length) : ((strN n h)[j]!).val = n[j] := by
  rw [getElem!_pos _ j hj]
  simp [strN]

end Go.Proofs.Ytcfeelecfmepaaa
