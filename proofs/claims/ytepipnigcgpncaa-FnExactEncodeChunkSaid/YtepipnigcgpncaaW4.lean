/- Walks: chunks: what is a valid chunk; check values; words. -/
import Derived.Test.YtepipnigcgpncaaW2
import Derived.Test.YtepipnigcgpncaaMem
namespace Go.Proofs.Ytepipnigcgpncaa
open Go.RowKit

/-- What is left of an allowance. -/
def subN (l : Int) (n : Nat) : Int := if l - n < 0 then -1 else l - n
def okChunk (k : Int) (s : ByteArray) : Bool := inB k 1 4 && decide (s.size ≤ 8192)

set_option maxHeartbeats 400000 in
theorem szChunk_any (k left : Int) (s : ByteArray) (w : World) (hs : s.size ≤ maxLen) (h0 : 0 ≤ left) (h1 : left ≤ 1048576) :
    Calls Try.prog 17 #[.agg #[.int .i64 k, .string s], .int .i64 left] w fun e w' => e = .returned (.int .i64 (subN left s.size)) ∧ Below w.heap.size w w' := by
  unfold maxLen at hs
  by_cases h : left - (s.size : Int) < 0
  · have hr := Lib.hid (show subN left s.size = -1 by simp [subN, h])
    go_enter Try.func17, Try.ntmps17
    go_wp2
    go_ret
    exact ⟨ret_int hr.out.symm, (Below.refl _ _).alloc (Nat.le_refl _) _⟩
  · have hr := Lib.hid (show subN left s.size = left - s.size by simp [subN, h])
    go_enter Try.func17, Try.ntmps17
    go_wp2
    go_ret
    exact ⟨ret_int hr.out.symm, (Below.refl _ _).alloc (Nat.le_refl _) _⟩

set_option maxHeartbeats 400000 in
theorem toChunk_any (k : Int) (s : ByteArray) (w : World) :
    Calls Try.prog 19 #[.agg #[.int .i64 k, .string s]] w fun e w' => e = .returned (.agg #[.int .i64 k, .string s]) ∧ Below w.heap.size w w' := by
  go_enter Try.func19, Try.ntmps19
  go_wp2
  exact bodyPost_ret (v := .agg #[.int .i64 k, .string s]) (by simp [results, Try.results19, go_sem]) rfl ⟨rfl, (by repeat (first | exact Below.refl _ _ | refine below_step ?_ (by assumption) | assumption | refine Below.drew ?_ | refine below_drewN ?_ _ | refine below_alloc ?_ _ | refine Below.setCell ?_ (by simp; try omega) _))⟩

set_option maxHeartbeats 400000 in
theorem impl_ValidChunk_any (k : Int) (s : ByteArray) (w : World) (hs : s.size ≤ maxLen) :
    Calls Try.prog 20 #[.agg #[.int .i64 k, .string s]] w fun e w' => e = .returned (.bool (okChunk k s)) ∧ Below w.heap.size w w' := by
  unfold maxLen at hs
  cases h : inB k 1 4
  all_goals
    have H := Lib.hid h
    clear h
    go_enter Try.func20, Try.ntmps20
    go_wp2_with (go_at_call 53; refine (within_any _ _ _ _).mono ?_; rintro e w' ⟨rfl, rfl⟩; rw [H.out])
    go_ret
  · exact ⟨ret_bool (by simp [okChunk, H.out]), (Below.refl _ _).alloc (Nat.le_refl _) _⟩
  · exact ⟨ret_bool (by simp [okChunk, H.out]; omega), (Below.refl _ _).alloc (Nat.le_refl _) _⟩

set_option maxHeartbeats 400000 in
theorem l13Chunk_any (k : Int) (s : ByteArray) (w : World) (hs : s.size ≤ maxLen) :
    Calls Try.prog 55 #[.agg #[.int .i64 k, .string s]] w fun e w' => e = .returned (.bool (okChunk k s)) ∧ Below w.heap.size w w' := by
  unfold maxLen at hs
  cases h : inB k 1 4
  all_goals
    have H := Lib.hid h
    clear h
    go_enter Try.func55, Try.ntmps55
    go_wp2_with (go_at_call 51; refine (l00In_any _ _ _ _).mono ?_; rintro e w' ⟨rfl, rfl⟩; rw [H.out])
    go_ret
  · exact ⟨ret_bool (by simp [okChunk, H.out]), (Below.refl _ _).alloc (Nat.le_refl _) _⟩
  · exact ⟨ret_bool (by simp [okChunk, H.out]; omega), (Below.refl _ _).alloc (Nat.le_refl _) _⟩

set_option maxHeartbeats 400000 in
theorem spec_ValidChunk_any (k : Int) (s : ByteArray) (w : World) (hs : s.size ≤ maxLen) :
    Calls Try.prog 18 #[.agg #[.int .i64 k, .string s]] w fun e w' => e = .returned (.bool (okChunk k s)) ∧ Below w.heap.size w w' := by
  go_enter Try.func18, Try.ntmps18
  go_wp2_with (go_at_call 55; refine (l13Chunk_any _ _ _ hs).mono ?_; rintro e w1 ⟨rfl, hb1⟩)
  go_ret
  exact ⟨rfl, (by repeat (first | exact Below.refl _ _ | refine below_step ?_ (by assumption) | assumption | refine Below.drew ?_ | refine below_drewN ?_ _ | refine below_alloc ?_ _ | refine Below.setCell ?_ (by simp; try omega) _))⟩
end Go.Proofs.Ytepipnigcgpncaa
