/- Walks: EncodeChunk, both. -/
import Derived.Test.YtemppogailpoiaaW7
namespace Go.Proofs.Ytemppogailpoiaa
open Go.RowKit
set_option linter.unusedVariables false

def encC (k : Int) (s : ByteArray) : ByteArray := if okChunk k s then encB k.toNat s else ByteArray.empty
theorem encC_no (k : Int) (s : ByteArray) (h : okChunk k s = false) : encC k s = ByteArray.empty := by simp [encC, h]
theorem encC_yes (k : Int) (s : ByteArray) (h : okChunk k s = true) : encC k s = encB k.toNat s := by simp [encC, h]
theorem okChunk_bd (k : Int) (s : ByteArray) (h : okChunk k s = true) : 1 ≤ k ∧ k ≤ 4 ∧ s.size ≤ 8192 := by
  simp [okChunk, inB] at h
  omega

set_option maxHeartbeats 400000 in
theorem impl_EncodeChunk_any (k : Int) (s : ByteArray) (w : World) (hs : s.size ≤ maxLen) :
    Calls Try.prog 12 #[.agg #[.int .i64 k, .string s]] w fun e w' => e = .returned (.string (encC k s)) ∧ Below w.heap.size w w' := by
  cases h : okChunk k s
  · have H := Lib.hid h
    clear h
    go_enter Try.func12, Try.ntmps12
    go_wp2_with (go_at_call 26; refine (impl_ValidChunk_any _ _ _ hs).mono ?_; rintro e w1 ⟨rfl, hb⟩; rw [H.out])
    go_ret
    exact ⟨congrArg (fun b => Ending.returned (.string b)) (encC_no k s H.out).symm, (by repeat (first | exact Below.refl _ _ | refine below_step ?_ (by assumption) | assumption | refine Below.drew ?_ | refine below_drewN ?_ _ | refine below_alloc ?_ _ | refine Below.setCell ?_ (by simp; try omega) _))⟩
  · obtain ⟨k1, k4, hs2⟩ := okChunk_bd k s h
    have H := Lib.hid h
    clear h
    obtain ⟨n, rfl⟩ := Int.eq_ofNat_of_zero_le (show 0 ≤ k by omega)
    go_enter Try.func12, Try.ntmps12
    go_wp2_with (first
      | (go_at_call 26; refine (impl_ValidChunk_any _ _ _ hs).mono ?_; rintro e w1 ⟨rfl, hb⟩; rw [H.out]; obtain ⟨hc, hf⟩ := bcell hb)
      | (go_at_call 27; refine (encodeChunk_any _ _ _ (by omega) hs2).mono ?_; rintro e w2 ⟨rfl, hx⟩))
    go_ret
    exact ⟨congrArg (fun b => Ending.returned (.string b)) (encC_yes n s H.out).symm, (by repeat (first | exact Below.refl _ _ | refine below_step ?_ (by assumption) | assumption | refine Below.drew ?_ | refine below_drewN ?_ _ | refine below_alloc ?_ _ | refine Below.setCell ?_ (by simp; try omega) _))⟩
set_option maxHeartbeats 400000 in
theorem spec_EncodeChunk_any (k : Int) (s : ByteArray) (w : World) (hs : s.size ≤ maxLen) :
    Calls Try.prog 17 #[.agg #[.int .i64 k, .string s]] w fun e w' => e = .returned (.string (encC k s)) ∧ Below w.heap.size w w' := by
  cases h : okChunk k s
  · have H := Lib.hid h
    clear h
    go_enter Try.func17, Try.ntmps17
    go_wp2_with (go_at_call 33; refine (l13Chunk_any _ _ _ hs).mono ?_; rintro e w1 ⟨rfl, hb⟩; rw [H.out])
    go_ret
    exact ⟨congrArg (fun b => Ending.returned (.string b)) (encC_no k s H.out).symm, (by repeat (first | exact Below.refl _ _ | refine below_step ?_ (by assumption) | assumption | refine Below.drew ?_ | refine below_drewN ?_ _ | refine below_alloc ?_ _ | refine Below.setCell ?_ (by simp; try omega) _))⟩
  · obtain ⟨k1, k4, hs2⟩ := okChunk_bd k s h
    have H := Lib.hid h
    clear h
    obtain ⟨n, rfl⟩ := Int.eq_ofNat_of_zero_le (show 0 ≤ k by omega)
    go_enter Try.func17, Try.ntmps17
    go_wp2_with (first
      | (go_at_call 33; refine (l13Chunk_any _ _ _ hs).mono ?_; rintro e w1 ⟨rfl, hb⟩; rw [H.out]; obtain ⟨hc, hf⟩ := bcell hb)
      | (go_at_call 34; refine (l13Encode_any _ _ _ (by omega) hs2).mono ?_; rintro e w2 ⟨rfl, hx⟩))
    go_ret
    exact ⟨congrArg (fun b => Ending.returned (.string b)) (encC_yes n s H.out).symm, (by repeat (first | exact Below.refl _ _ | refine below_step ?_ (by assumption) | assumption | refine Below.drew ?_ | refine below_drewN ?_ _ | refine below_alloc ?_ _ | refine Below.setCell ?_ (by simp; try omega) _))⟩
end Go.Proofs.Ytemppogailpoiaa
