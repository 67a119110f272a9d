/- Walks: chunks: what is a valid chunk; check values; words. -/
import Derived.Test.YtemppogailpoiaaW2
import Derived.Test.YtemppogailpoiaaMem
namespace Go.Proofs.Ytemppogailpoiaa
open Go.RowKit
set_option linter.unusedVariables false

/-- What is left of an allowance. -/
def subN (l : Int) (n : Nat) : Int := if l - n < 0 then -1 else l - n
def okChunk (k : Int) (s : ByteArray) : Bool := inB k 1 4 && decide (s.size ≤ 8192)

set_option maxHeartbeats 400000 in
theorem impl_ValidChunk_any (k : Int) (s : ByteArray) (w : World) (hs : s.size ≤ maxLen) :
    Calls Try.prog 26 #[.agg #[.int .i64 k, .string s]] w fun e w' => e = .returned (.bool (okChunk k s)) ∧ Below w.heap.size w w' := by
  unfold maxLen at hs
  cases h : inB k 1 4
  all_goals
    have H := Lib.hid h
    clear h
    go_enter Try.func26, Try.ntmps26
    go_wp2_with (go_at_call 54; refine (within_any _ _ _ _).mono ?_; rintro e w' ⟨rfl, rfl⟩; rw [H.out])
    go_ret
  · exact ⟨ret_bool (by simp [okChunk, H.out]), (Below.refl _ _).alloc (Nat.le_refl _) _⟩
  · exact ⟨ret_bool (by simp [okChunk, H.out]; omega), (Below.refl _ _).alloc (Nat.le_refl _) _⟩

set_option maxHeartbeats 400000 in
theorem l13Chunk_any (k : Int) (s : ByteArray) (w : World) (hs : s.size ≤ maxLen) :
    Calls Try.prog 33 #[.agg #[.int .i64 k, .string s]] w fun e w' => e = .returned (.bool (okChunk k s)) ∧ Below w.heap.size w w' := by
  unfold maxLen at hs
  cases h : inB k 1 4
  all_goals
    have H := Lib.hid h
    clear h
    go_enter Try.func33, Try.ntmps33
    go_wp2_with (go_at_call 68; refine (l00In_any _ _ _ _).mono ?_; rintro e w' ⟨rfl, rfl⟩; rw [H.out])
    go_ret
  · exact ⟨ret_bool (by simp [okChunk, H.out]), (Below.refl _ _).alloc (Nat.le_refl _) _⟩
  · exact ⟨ret_bool (by simp [okChunk, H.out]; omega), (Below.refl _ _).alloc (Nat.le_refl _) _⟩

end Go.Proofs.Ytemppogailpoiaa
