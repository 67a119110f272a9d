/- Walks: PackBytes of spec, whole. -/
import Derived.Test.YtjjcedodjoieoaaW25
namespace Go.Proofs.Ytjjcedodjoieoaa
open Go.RowKit
set_option linter.unusedVariables false

set_option maxRecDepth 100000 in
set_option maxHeartbeats 1000000 in
theorem l14Pack_any (s : ByteArray) (w : World) (hs : s.size ≤ 4096) :
    Calls Try.prog 84 #[.string s] w fun e w' => e = .returned (.string ⟨(pbG s 0 0 []).toArray⟩) ∧ Below w.heap.size w w' := by
  go_enter Try.func84, Try.ntmps84
  go_wp2
  go_loopw [3, 4, 5, 6, 7] (fun ov fv av _ _ wr => ∃ (at_ from_ : Nat) (out : List UInt8), from_ ≤ at_ ∧ at_ ≤ s.size ∧ out.length ≤ 2 * from_ ∧ av = .int .i64 at_ ∧ fv = .int .i64 from_ ∧ OwnB wr w.heap.size 5 ov out ∧ Below w.heap.size w wr ∧ Hid (pbG s at_ from_ out = pbG s 0 0 []))
    (fun _ _ av _ _ _ => s.size - (intOf av).toNat)
  case atStart => exact ⟨0, 0, [], by omega, by omega, by simp, rfl, rfl, OwnB.lit w [] #[] rfl (Nat.le_refl _) (by simp), below_alloc (Below.refl _ _) _, Lib.hid rfl⟩
  case round =>
    obtain ⟨at_, from_, out, hfa, has, hol, rfl, rfl, hown, hb, HI⟩ := hrel
    have hbz := hb.size
    have hpl := plL_len (at_ - from_) (seg s from_ at_) (by rw [seg_length s _ _ has]; exact Nat.le_refl _)
    rw [seg_length s _ _ has] at hpl
    by_cases hlt : at_ < s.size
    · have hrb := refer_bd s at_
      have hM : mostAt s at_ = min 130 (s.size - at_) := rfl
      have hF : farAt at_ = min 255 at_ := rfl
      have hcall := fun W => l14Match_any s at_ W (by omega) hlt
      have hes := extsz s from_ at_ has
      obtain ⟨n, d, hr⟩ : ∃ n d, refer s at_ = (n, d) := ⟨_, _, rfl⟩
      have HRF := Lib.hid hr
      rw [hr] at hrb hcall
      simp only at hrb hcall
      clear hr
      by_cases h3 : n < 3
      · have HN := Lib.hid (pbG_skip s at_ from_ out _ hlt n d HRF.out h3 HI.out)
        have g1 : (n : Int) < 3 := by omega
        go_wp2_with (first | (go_at_call 98; refine (hcall _).mono ?_; rintro e w1 ⟨rfl, q1, rfl⟩))
        go_roundw
        case rel => exact ⟨at_ + 1, from_, out, by omega, by omega, hol, by go_num, rfl, hown.drewN _, below_drewN hb _, HN⟩
        case measure => (simp [intOf] <;> omega)
      · have HN := Lib.hid (pbG_ref s at_ from_ out _ hlt n d HRF.out h3 HI.out)
        have hsg := Lib.hid (show seg s from_ at_ = (s.extract from_ at_).data.toList from rfl)
        go_wp2_with (first
          | (go_at_call 98; refine (hcall _).mono ?_; rintro e w1 ⟨rfl, q1, rfl⟩)
          | (go_at_call 99; refine (l14Plain_any _ out (s.extract from_ at_) _ w.heap.size (by exact hbz) (hown.drewN _) (by omega) (by omega)).mono ?_; rintro e w2 ⟨v2, rfl, ho2, hb2⟩; rw [← hsg.out] at ho2)
          | (at_builtin; go_must (refine wpList_appL rfl _ _ _ rfl eltB _ (out ++ plL (seg s from_ at_)) rfl ho2 _ _ [UInt8.ofNat (n + 125), UInt8.ofNat d] 2 2 rfl (impl_cells2 (n + 125) d _ _ (by omega) (by omega) (by omega) (by omega)) rfl (by rw [List.length_append]; simp; omega) (Nat.le_trans hbz hb2.size) ?_); intro v3 w3 hown3 hg3 hat3 hbl3))
        go_roundw
        case rel => exact ⟨at_ + n, at_ + n, _, by omega, by omega, by simp only [List.length_append, List.length_cons, List.length_nil]; omega, by go_num, by go_num, hown3, ((below_drewN hb _).trans hb2).trans hbl3, HN⟩
        case measure => (simp [intOf] <;> omega)
    · have hat : at_ = s.size := by omega
      have HR := Lib.hid (pbG_end s at_ from_ out _ hlt HI.out)
      have hsg := Lib.hid (show seg s from_ s.size = (s.extract from_ s.size).data.toList from rfl)
      have hes := extsz s from_ s.size (Nat.le_refl _)
      have hf2 : from_ ≤ s.size := by omega
      go_wp2_with (first
        | (go_at_call 99; go_must (refine (l14Plain_any _ out (s.extract from_ s.size) _ w.heap.size hbz hown (by omega) (by omega)).mono ?_); rintro e w2 ⟨v2, rfl, ho2, hb2⟩; rw [← hsg.out] at ho2; have hcv := run_b2s (P := Try.prog) (dst := 9) Try.underlying102 Try.underlying5 Try.underlying9 ho2))
      go_ret
      exact ⟨congrArg (fun o : List UInt8 => Ending.returned (.string ⟨o.toArray⟩)) HR.out.symm, hb.trans hb2⟩

end Go.Proofs.Ytjjcedodjoieoaa
