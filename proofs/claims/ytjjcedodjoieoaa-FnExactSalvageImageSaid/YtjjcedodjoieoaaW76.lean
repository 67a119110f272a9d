/- Walks: ValidImage. -/
import Derived.Test.YtjjcedodjoieoaaW32
import Derived.Test.YtjjcedodjoieoaaW2
import Derived.Test.YtjjcedodjoieoaaStep
import Derived.Test.YtjjcedodjoieoaaSString
import Derived.Test.YtjjcedodjoieoaaShelf2
namespace Go.Proofs.Ytjjcedodjoieoaa
open Go.RowKit
set_option linter.unusedVariables false

def chrB (c : UInt8) : Bool := decide (32 ≤ c.toNat) && decide (c.toNat ≤ 126)
def noteB (s : ByteArray) : Bool := s.data.toList.all chrB && decide (1 ≤ s.size) && decide (s.size ≤ 40)
theorem chr_step (s : ByteArray) (k : Nat) (h : k < s.size) : (s.data.toList.drop k).all chrB = (chrB s[k] && (s.data.toList.drop (k + 1)).all chrB) := by
  rw [drop_cons s k h]; rfl
theorem chr_yes {s : ByteArray} {k : Nat} {h : k < s.size} {b : Bool} (he : (s.data.toList.drop k).all chrB = b) (h1 : 32 ≤ s[k].toNat) (h2 : s[k].toNat ≤ 126) : (s.data.toList.drop (k + 1)).all chrB = b := by
  rw [chr_step s k h] at he
  simpa [chrB, h1, h2] using he
theorem chr_no {s : ByteArray} {k : Nat} {h : k < s.size} (he : (s.data.toList.drop k).all chrB = s.data.toList.all chrB) (hc : chrB s[k] = false) : noteB s = false := by
  rw [chr_step s k h, hc, Bool.false_and] at he
  simp only [noteB, ← he, Bool.false_and]
theorem chr_end {s : ByteArray} {k : Nat} (hk : ¬ k < s.size) (he : (s.data.toList.drop k).all chrB = s.data.toList.all chrB) : noteB s = (decide (1 ≤ s.size) && decide (s.size ≤ 40)) := by
  rw [drop_end s k hk] at he
  simp only [noteB, ← he, List.all_nil, Bool.true_and]
theorem note_in {s : ByteArray} : (decide (1 ≤ s.size) && decide (s.size ≤ 40)) = inB (s.size : Int) 1 40 := by
  unfold inB
  rw [Bool.eq_iff_iff]
  simp only [Bool.and_eq_true, decide_eq_true_eq]
  omega
theorem empty_of (s : ByteArray) (h : s.size = 0) : s.toList.isEmpty = true := by
  rw [ByteArray.toList_eq]
  have : s.data.toList = [] := List.eq_nil_of_length_eq_zero (by simpa using h)
  rw [this]; rfl
theorem nonempty_of (s : ByteArray) (h : 0 < s.size) : s.toList.isEmpty = false := by
  rw [ByteArray.toList_eq]
  have := drop_cons s 0 h
  rw [List.drop_zero] at this
  rw [this]
  rfl

set_option maxRecDepth 100000 in
set_option maxHeartbeats 400000 in
theorem l13Note_any (s : ByteArray) (w : World) (hs : s.size ≤ maxLen) :
    Calls Try.prog 58 #[.string s] w fun e w' => e = .returned (.bool (noteB s)) ∧ w = w' := by
  unfold maxLen at hs
  have hin := fun W => l00In_any (s.size : Int) 1 40 W
  go_enter Try.func58, Try.ntmps58
  go_wp2
  go_loop [3] (fun i => ∃ k : Nat, k ≤ s.size ∧ i = .int .i64 k ∧ Hid ((s.data.toList.drop k).all chrB = s.data.toList.all chrB)) (fun i => s.size - (intOf i).toNat)
  case atStart => exact ⟨0, Nat.zero_le _, rfl, Lib.hid rfl⟩
  case round =>
    obtain ⟨k, hk, rfl, HS⟩ := hrel
    by_cases hlt : k < s.size
    · have hb := s[k].toNat_lt
      by_cases h1 : (s[k].toNat : Int) < 32
      · have HN := Lib.hid (chr_no (h := hlt) HS.out (by simp only [chrB, Bool.and_eq_false_iff, decide_eq_false_iff_not]; omega))
        go_wp2
        go_ret
        exact ⟨ret_bool HN.out.symm, rfl⟩
      by_cases h2 : 126 < (s[k].toNat : Int)
      · have HN := Lib.hid (chr_no (h := hlt) HS.out (by simp only [chrB, Bool.and_eq_false_iff, decide_eq_false_iff_not]; omega))
        go_wp2
        go_ret
        exact ⟨ret_bool HN.out.symm, rfl⟩
      have HN := Lib.hid (chr_yes (h := hlt) HS.out (by omega) (by omega))
      go_wp2
      go_round
      case rel => exact ⟨k + 1, by omega, by go_num, HN⟩
      case measure => simp [intOf]; omega
    · have HE := Lib.hid ((chr_end hlt HS.out).trans note_in)
      go_wp2_with (go_at_call 41; refine (hin _).mono ?_; rintro e w' ⟨rfl, rfl⟩)
      go_ret
      exact ⟨ret_bool HE.out.symm, rfl⟩

set_option maxRecDepth 100000 in
set_option maxHeartbeats 400000 in
theorem validNote_any (s : ByteArray) (w : World) (hs : s.size ≤ maxLen) :
    Calls Try.prog 27 #[.string s] w fun e w' => e = .returned (.bool (noteB s)) ∧ w = w' := by
  unfold maxLen at hs
  go_enter Try.func27, Try.ntmps27
  go_wp2
  go_loop [3, 6] (fun _ i => ∃ k : Nat, k ≤ s.size ∧ i = .int .i64 k ∧ Hid ((s.data.toList.drop k).all chrB = s.data.toList.all chrB)) (fun _ i => s.size - (intOf i).toNat)
  case atStart => exact ⟨0, Nat.zero_le _, rfl, Lib.hid rfl⟩
  case round =>
    obtain ⟨k, hk, rfl, HS⟩ := hrel
    by_cases hlt : k < s.size
    · have hb := s[k].toNat_lt
      by_cases h1 : (s[k].toNat : Int) < 32
      · have HN := Lib.hid (chr_no (h := hlt) HS.out (by simp only [chrB, Bool.and_eq_false_iff, decide_eq_false_iff_not]; omega))
        go_wp2
        go_ret
        exact ⟨ret_bool HN.out.symm, rfl⟩
      by_cases h2 : 126 < (s[k].toNat : Int)
      · have HN := Lib.hid (chr_no (h := hlt) HS.out (by simp only [chrB, Bool.and_eq_false_iff, decide_eq_false_iff_not]; omega))
        go_wp2
        go_ret
        exact ⟨ret_bool HN.out.symm, rfl⟩
      have HN := Lib.hid (chr_yes (h := hlt) HS.out (by omega) (by omega))
      go_wp2
      go_round
      case rel => exact ⟨k + 1, by omega, by go_num, HN⟩
      case measure => simp [intOf]; omega
    · have HE := Lib.hid (chr_end hlt HS.out)
      by_cases h0 : s.size = 0
      · have e1 := empty_of s h0
        have HE2 := Lib.hid (HE.out.trans (show (decide (1 ≤ s.size) && decide (s.size ≤ 40)) = false from by simp [h0]))
        clear h0
        go_wp2
        go_ret
        exact ⟨ret_bool HE2.out.symm, rfl⟩
      · have e1 := nonempty_of s (by omega)
        by_cases h40 : s.size ≤ 40
        · have HE2 := Lib.hid (HE.out.trans (show (decide (1 ≤ s.size) && decide (s.size ≤ 40)) = true from by simp only [Bool.and_eq_true, decide_eq_true_eq]; omega))
          have g : decide ((s.size : Int) ≤ 40) = true := by simp; omega
          go_wp2
          go_ret
          exact ⟨ret_bool HE2.out.symm, rfl⟩
        · have HE2 := Lib.hid (HE.out.trans (show (decide (1 ≤ s.size) && decide (s.size ≤ 40)) = false from by simp only [Bool.and_eq_false_iff, decide_eq_false_iff_not]; omega))
          have g : decide ((s.size : Int) ≤ 40) = false := by simp; omega
          go_wp2
          go_ret
          exact ⟨ret_bool HE2.out.symm, rfl⟩

def imB (d : Bool) (n : List ByteArray) : Bool := d && decide (n.length ≤ 8) && n.all noteB
theorem imB_1 {n : List ByteArray} : imB false n = false := by simp only [imB, Bool.false_and]
theorem imB_2 {d : Bool} {n : List ByteArray} (h : 8 < n.length) : imB d n = false := by
  have : decide (n.length ≤ 8) = false := by simp; omega
  simp only [imB, this, Bool.and_false, Bool.false_and]
theorem imB_3 {n : List ByteArray} (h : n.length ≤ 8) : imB true n = n.all noteB := by
  simp only [imB, decide_eq_true h, Bool.true_and]
theorem imB_4 {d : Bool} {n : List ByteArray} (h : n.all noteB = false) : imB d n = false := by
  simp only [imB, h, Bool.and_false]
theorem imB_5 {n : List ByteArray} (h : n.length ≤ 8) (g : n.all noteB = true) : imB true n = true := by
  rw [imB_3 h, g]
theorem notes_bad {n : List ByteArray} (k : Nat) (hk : k < n.length) (g : noteB n[k] = false) : n.all noteB = false := by
  rw [List.all_eq_false]
  exact ⟨n[k], List.getElem_mem hk, by simp [g]⟩
theorem notes_all {n : List ByteArray} (g : ∀ k, (hk : k < n.length) → noteB n[k] = true) : n.all noteB = true := by
  simp only [List.all_eq_true]
  intro x hx
  obtain ⟨k, hk, rfl⟩ := List.getElem_of_mem hx
  exact g k hk
theorem CP.disc6 {w : World} {g : Nat} {c h p s : Int} {v : Value} {r : List Value} (d : CP w g (.int .i64 c :: .int .i64 h :: .int .i64 p :: .int .i64 s :: v :: r)) : DP w g c h p s v :=
  ⟨d 0 (by simp), d 1 (by simp), d 2 (by simp), d 3 (by simp), d 4 (by simp)⟩

/-- A string that has a length. -/
structure StrN where
  val : ByteArray
  le : val.size ≤ maxLen
instance : Inhabited StrN := ⟨⟨⟨#[]⟩, by decide⟩⟩
def strN (n : List ByteArray) (h : ∀ x ∈ n, x.size ≤ maxLen) : List StrN := n.attach.map fun x => ⟨x.1, h x.1 x.2⟩
theorem strN_len {n : List ByteArray} (h : ∀ x ∈ n, x.size ≤ maxLen) : (strN n h).length = n.length := by simp [strN]
theorem strN_any {n : List ByteArray} (h : ∀ x ∈ n, x.size ≤ maxLen) : (strN n h).any (fun x => !noteB x.val) = !n.all noteB := by
  rw [Bool.eq_iff_iff]
  simp only [strN, List.any_map, List.any_eq_true, Bool.not_eq_true', List.all_eq_false, Function.comp]
  constructor
  · rintro ⟨x, _, hx⟩
    exact ⟨x.1, x.2, by simp [hx]⟩
  · rintro ⟨x, hx, hg⟩
    exact ⟨⟨x, hx⟩, List.mem_attach _ _, by simpa using hg⟩
theorem strN_get {n : List ByteArray} (h : ∀ x ∈ n, x.size ≤ maxLen) (j : Nat) (hj : j < (strN n h).length) (hj' : j < n.length) : ((strN n h)[j]!).val = n[j] := by
  rw [getElem!_pos _ j hj]
  simp [strN]

end Go.Proofs.Ytjjcedodjoieoaa
