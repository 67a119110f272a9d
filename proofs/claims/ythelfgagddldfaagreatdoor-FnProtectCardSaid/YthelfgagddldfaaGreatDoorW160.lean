/- Walks: valid features and descriptions of tracks. -/
import Derived.Test.YthelfgagddldfaaGreatDoorPrM
namespace Go.Proofs.YthelfgagddldfaaGreatDoor
open Go.RowKit
set_option linter.unusedVariables false

set_option maxHeartbeats 400000 in
theorem isByte_any (x : Int) (w : World) : Calls Tryz.prog 41 #[.int .i64 x] w fun e w' => e = .returned (.bool (inB x 0 255)) ∧ w = w' := by
  go_enter Tryz.func41, Tryz.ntmps41
  go_wp2_with (go_at_call 19; refine (within_any _ _ _ _).mono ?_; rintro e w1 ⟨rfl, rfl⟩)
  go_ret
  exact ⟨rfl, rfl⟩
set_option maxHeartbeats 400000 in
theorem isFormat_any (x : Int) (w : World) : Calls Tryz.prog 38 #[.int .i64 x] w fun e w' => e = .returned (.bool (inB x 1 3)) ∧ w = w' := by
  go_enter Tryz.func38, Tryz.ntmps38
  go_wp2_with (go_at_call 19; refine (within_any _ _ _ _).mono ?_; rintro e w1 ⟨rfl, rfl⟩)
  go_ret
  exact ⟨rfl, rfl⟩
set_option maxHeartbeats 400000 in
theorem l07Format_any (x : Int) (w : World) : Calls Tryz.prog 75 #[.int .i64 x] w fun e w' => e = .returned (.bool (inB x 1 3)) ∧ w = w' := by
  go_enter Tryz.func75, Tryz.ntmps75
  go_wp2_with (go_at_call 62; refine (l00In_any _ _ _ _).mono ?_; rintro e w1 ⟨rfl, rfl⟩)
  go_ret
  exact ⟨rfl, rfl⟩

set_option maxRecDepth 100000 in
set_option maxHeartbeats 8000000 in
set_option linter.unusedSimpArgs false in
theorem l11Ok_any (k s v : Int) (w : World) :
    Calls Tryz.prog 49 #[.agg #[.int .i64 k, .int .i64 s, .int .i64 v]] w fun e w' => e = .returned (.bool (feB k s v)) ∧ Below w.heap.size w w' := by
  have h0 := fun W => l00In_any s 0 63 W
  have h1 := fun W => l00In_any v 0 (s - 1) W
  have h7 := fun W => l00In_any v 1 512 W
  have h8 := fun W => l00In_any v 1 8000 W
  have hk := fun W => l00In_any k 1 8 W
  cases g : inB s 0 63
  · rw [g] at h0
    have HR := Lib.hid (show feB k s v = false by simp only [feB, g, Bool.false_and])
    go_enter Tryz.func49, Tryz.ntmps49
    go_wp2_with (first | (go_at_call 62; (with_reducible refine (h0 _).mono ?_); rintro e w1 ⟨rfl, rfl⟩))
    go_ret
    first
      | exact ⟨by rw [HR.out] <;> rfl, (by repeat (first | exact Below.refl _ _ | refine below_step ?_ (by assumption) | assumption | refine Below.drew ?_ | refine below_drewN ?_ _ | refine below_alloc ?_ _ | refine Below.setCell ?_ (by simp; try omega) _))⟩
      | exact ⟨by rw [HR.out]; simp [*], (by repeat (first | exact Below.refl _ _ | refine below_step ?_ (by assumption) | assumption | refine Below.drew ?_ | refine below_drewN ?_ _ | refine below_alloc ?_ _ | refine Below.setCell ?_ (by simp; try omega) _))⟩
  rw [g] at h0
  have HF := Lib.hid (show feB k s v = (if k = 1 then inB v 0 (s - 1) else if k = 7 then inB v 1 512 else if k = 8 then decide (s = 0) && inB v 1 8000 else inB k 1 8 && decide (v = 0)) by simp only [feB, g, Bool.true_and])
  have hw : IntKind.i64.wrap (s - 1) = s - 1 := IntWalk.i64_in _ (by have := inB_yes g; omega)
  clear g
  by_cases k1 : k = 1
  · subst k1
    have HR := Lib.hid (show feB 1 s v = inB v 0 (s - 1) by rw [HF.out]; rfl)
    go_enter Tryz.func49, Tryz.ntmps49
    go_wp2_with (first | (go_at_call 62; (with_reducible refine (h0 _).mono ?_); rintro e w1 ⟨rfl, rfl⟩) | (go_at_call 62; (with_reducible refine (h1 _).mono ?_); rintro e w2 ⟨rfl, rfl⟩))
    go_ret
    first
      | exact ⟨by rw [HR.out] <;> rfl, (by repeat (first | exact Below.refl _ _ | refine below_step ?_ (by assumption) | assumption | refine Below.drew ?_ | refine below_drewN ?_ _ | refine below_alloc ?_ _ | refine Below.setCell ?_ (by simp; try omega) _))⟩
      | exact ⟨by rw [HR.out]; simp [*], (by repeat (first | exact Below.refl _ _ | refine below_step ?_ (by assumption) | assumption | refine Below.drew ?_ | refine below_drewN ?_ _ | refine below_alloc ?_ _ | refine Below.setCell ?_ (by simp; try omega) _))⟩
  have n1 : (k == 1) = false := by simp [k1]
  by_cases k7 : k = 7
  · subst k7
    have HR := Lib.hid (show feB 7 s v = inB v 1 512 by rw [HF.out]; rfl)
    go_enter Tryz.func49, Tryz.ntmps49
    go_wp2_with (first | (go_at_call 62; (with_reducible refine (h0 _).mono ?_); rintro e w1 ⟨rfl, rfl⟩) | (go_at_call 62; (with_reducible refine (h7 _).mono ?_); rintro e w2 ⟨rfl, rfl⟩))
    go_ret
    first
      | exact ⟨by rw [HR.out] <;> rfl, (by repeat (first | exact Below.refl _ _ | refine below_step ?_ (by assumption) | assumption | refine Below.drew ?_ | refine below_drewN ?_ _ | refine below_alloc ?_ _ | refine Below.setCell ?_ (by simp; try omega) _))⟩
      | exact ⟨by rw [HR.out]; simp [*], (by repeat (first | exact Below.refl _ _ | refine below_step ?_ (by assumption) | assumption | refine Below.drew ?_ | refine below_drewN ?_ _ | refine below_alloc ?_ _ | refine Below.setCell ?_ (by simp; try omega) _))⟩
  have n7 : (k == 7) = false := by simp [k7]
  by_cases k8 : k = 8
  · subst k8
    by_cases hz : s = 0
    · subst hz
      have HR := Lib.hid (show feB 8 0 v = inB v 1 8000 by rw [HF.out]; rfl)
      go_enter Tryz.func49, Tryz.ntmps49
      go_wp2_with (first | (go_at_call 62; (with_reducible refine (h0 _).mono ?_); rintro e w1 ⟨rfl, rfl⟩) | (go_at_call 62; (with_reducible refine (h8 _).mono ?_); rintro e w2 ⟨rfl, rfl⟩))
      go_ret
      first
        | exact ⟨by rw [HR.out] <;> rfl, (by repeat (first | exact Below.refl _ _ | refine below_step ?_ (by assumption) | assumption | refine Below.drew ?_ | refine below_drewN ?_ _ | refine below_alloc ?_ _ | refine Below.setCell ?_ (by simp; try omega) _))⟩
        | exact ⟨by rw [HR.out]; simp [*], (by repeat (first | exact Below.refl _ _ | refine below_step ?_ (by assumption) | assumption | refine Below.drew ?_ | refine below_drewN ?_ _ | refine below_alloc ?_ _ | refine Below.setCell ?_ (by simp; try omega) _))⟩
    · have HR := Lib.hid (show feB 8 s v = false by rw [HF.out]; show (decide (s = 0) && inB v 1 8000) = false; rw [decide_eq_false hz]; rfl)
      have nz : (s == 0) = false := by simp [hz]
      go_enter Tryz.func49, Tryz.ntmps49
      go_wp2_with (first | (go_at_call 62; (with_reducible refine (h0 _).mono ?_); rintro e w1 ⟨rfl, rfl⟩))
      go_ret
      first
        | exact ⟨by rw [HR.out] <;> rfl, (by repeat (first | exact Below.refl _ _ | refine below_step ?_ (by assumption) | assumption | refine Below.drew ?_ | refine below_drewN ?_ _ | refine below_alloc ?_ _ | refine Below.setCell ?_ (by simp; try omega) _))⟩
        | exact ⟨by rw [HR.out]; simp [*], (by repeat (first | exact Below.refl _ _ | refine below_step ?_ (by assumption) | assumption | refine Below.drew ?_ | refine below_drewN ?_ _ | refine below_alloc ?_ _ | refine Below.setCell ?_ (by simp; try omega) _))⟩
  have n8 : (k == 8) = false := by simp [k8]
  have HE := Lib.hid (show feB k s v = (inB k 1 8 && decide (v = 0)) by rw [HF.out, if_neg k1, if_neg k7, if_neg k8])
  cases gk : inB k 1 8
  · rw [gk] at hk
    have HR := Lib.hid (show feB k s v = false by rw [HE.out, gk]; rfl)
    clear k1 k7 k8
    go_enter Tryz.func49, Tryz.ntmps49
    go_wp2_with (first | (go_at_call 62; (with_reducible refine (h0 _).mono ?_); rintro e w1 ⟨rfl, rfl⟩) | (go_at_call 62; (with_reducible refine (hk _).mono ?_); rintro e w2 ⟨rfl, rfl⟩))
    go_ret
    first
      | exact ⟨by rw [HR.out] <;> rfl, (by repeat (first | exact Below.refl _ _ | refine below_step ?_ (by assumption) | assumption | refine Below.drew ?_ | refine below_drewN ?_ _ | refine below_alloc ?_ _ | refine Below.setCell ?_ (by simp; try omega) _))⟩
      | exact ⟨by rw [HR.out]; simp [*], (by repeat (first | exact Below.refl _ _ | refine below_step ?_ (by assumption) | assumption | refine Below.drew ?_ | refine below_drewN ?_ _ | refine below_alloc ?_ _ | refine Below.setCell ?_ (by simp; try omega) _))⟩
  rw [gk] at hk
  clear k1 k7 k8
  by_cases hv : v = 0
  · subst hv
    have HR := Lib.hid (show feB k s 0 = true by rw [HE.out, gk]; rfl)
    go_enter Tryz.func49, Tryz.ntmps49
    go_wp2_with (first | (go_at_call 62; (with_reducible refine (h0 _).mono ?_); rintro e w1 ⟨rfl, rfl⟩) | (go_at_call 62; (with_reducible refine (hk _).mono ?_); rintro e w2 ⟨rfl, rfl⟩))
    go_ret
    first
      | exact ⟨by rw [HR.out] <;> rfl, (by repeat (first | exact Below.refl _ _ | refine below_step ?_ (by assumption) | assumption | refine Below.drew ?_ | refine below_drewN ?_ _ | refine below_alloc ?_ _ | refine Below.setCell ?_ (by simp; try omega) _))⟩
      | exact ⟨by rw [HR.out]; simp [*], (by repeat (first | exact Below.refl _ _ | refine below_step ?_ (by assumption) | assumption | refine Below.drew ?_ | refine below_drewN ?_ _ | refine below_alloc ?_ _ | refine Below.setCell ?_ (by simp; try omega) _))⟩
  · have HR := Lib.hid (show feB k s v = false by rw [HE.out, gk, decide_eq_false hv]; rfl)
    have nv : (v == 0) = false := by simp [hv]
    go_enter Tryz.func49, Tryz.ntmps49
    go_wp2_with (first | (go_at_call 62; (with_reducible refine (h0 _).mono ?_); rintro e w1 ⟨rfl, rfl⟩) | (go_at_call 62; (with_reducible refine (hk _).mono ?_); rintro e w2 ⟨rfl, rfl⟩))
    go_ret
    first
      | exact ⟨by rw [HR.out] <;> rfl, (by repeat (first | exact Below.refl _ _ | refine below_step ?_ (by assumption) | assumption | refine Below.drew ?_ | refine below_drewN ?_ _ | refine below_alloc ?_ _ | refine Below.setCell ?_ (by simp; try omega) _))⟩
      | exact ⟨by rw [HR.out]; simp [*], (by repeat (first | exact Below.refl _ _ | refine below_step ?_ (by assumption) | assumption | refine Below.drew ?_ | refine below_drewN ?_ _ | refine below_alloc ?_ _ | refine Below.setCell ?_ (by simp; try omega) _))⟩

set_option maxRecDepth 100000 in
set_option maxHeartbeats 8000000 in
set_option linter.unusedSimpArgs false in
theorem impl_ValidFeature_any (k s v : Int) (w : World) :
    Calls Tryz.prog 9 #[.agg #[.int .i64 k, .int .i64 s, .int .i64 v]] w fun e w' => e = .returned (.bool (feB k s v)) ∧ Below w.heap.size w w' := by
  have h0 := fun W => within_any s 0 63 W
  have h1 := fun W => within_any v 0 (s - 1) W
  have h7 := fun W => within_any v 1 512 W
  have h8 := fun W => within_any v 1 8000 W
  have hk := fun W => within_any k 1 8 W
  cases g : inB s 0 63
  · rw [g] at h0
    have HR := Lib.hid (show feB k s v = false by simp only [feB, g, Bool.false_and])
    go_enter Tryz.func9, Tryz.ntmps9
    go_wp2_with (first | (go_at_call 19; (with_reducible refine (h0 _).mono ?_); rintro e w1 ⟨rfl, rfl⟩))
    go_ret
    first
      | exact ⟨by rw [HR.out] <;> rfl, (by repeat (first | exact Below.refl _ _ | refine below_step ?_ (by assumption) | assumption | refine Below.drew ?_ | refine below_drewN ?_ _ | refine below_alloc ?_ _ | refine Below.setCell ?_ (by simp; try omega) _))⟩
      | exact ⟨by rw [HR.out]; simp [*], (by repeat (first | exact Below.refl _ _ | refine below_step ?_ (by assumption) | assumption | refine Below.drew ?_ | refine below_drewN ?_ _ | refine below_alloc ?_ _ | refine Below.setCell ?_ (by simp; try omega) _))⟩
  rw [g] at h0
  have HF := Lib.hid (show feB k s v = (if k = 1 then inB v 0 (s - 1) else if k = 7 then inB v 1 512 else if k = 8 then decide (s = 0) && inB v 1 8000 else inB k 1 8 && decide (v = 0)) by simp only [feB, g, Bool.true_and])
  have hw : IntKind.i64.wrap (s - 1) = s - 1 := IntWalk.i64_in _ (by have := inB_yes g; omega)
  clear g
  by_cases k1 : k = 1
  · subst k1
    have HR := Lib.hid (show feB 1 s v = inB v 0 (s - 1) by rw [HF.out]; rfl)
    go_enter Tryz.func9, Tryz.ntmps9
    go_wp2_with (first | (go_at_call 19; (with_reducible refine (h0 _).mono ?_); rintro e w1 ⟨rfl, rfl⟩) | (go_at_call 19; (with_reducible refine (h1 _).mono ?_); rintro e w2 ⟨rfl, rfl⟩))
    go_ret
    first
      | exact ⟨by rw [HR.out] <;> rfl, (by repeat (first | exact Below.refl _ _ | refine below_step ?_ (by assumption) | assumption | refine Below.drew ?_ | refine below_drewN ?_ _ | refine below_alloc ?_ _ | refine Below.setCell ?_ (by simp; try omega) _))⟩
      | exact ⟨by rw [HR.out]; simp [*], (by repeat (first | exact Below.refl _ _ | refine below_step ?_ (by assumption) | assumption | refine Below.drew ?_ | refine below_drewN ?_ _ | refine below_alloc ?_ _ | refine Below.setCell ?_ (by simp; try omega) _))⟩
  have n1 : (k == 1) = false := by simp [k1]
  by_cases k7 : k = 7
  · subst k7
    have HR := Lib.hid (show feB 7 s v = inB v 1 512 by rw [HF.out]; rfl)
    go_enter Tryz.func9, Tryz.ntmps9
    go_wp2_with (first | (go_at_call 19; (with_reducible refine (h0 _).mono ?_); rintro e w1 ⟨rfl, rfl⟩) | (go_at_call 19; (with_reducible refine (h7 _).mono ?_); rintro e w2 ⟨rfl, rfl⟩))
    go_ret
    first
      | exact ⟨by rw [HR.out] <;> rfl, (by repeat (first | exact Below.refl _ _ | refine below_step ?_ (by assumption) | assumption | refine Below.drew ?_ | refine below_drewN ?_ _ | refine below_alloc ?_ _ | refine Below.setCell ?_ (by simp; try omega) _))⟩
      | exact ⟨by rw [HR.out]; simp [*], (by repeat (first | exact Below.refl _ _ | refine below_step ?_ (by assumption) | assumption | refine Below.drew ?_ | refine below_drewN ?_ _ | refine below_alloc ?_ _ | refine Below.setCell ?_ (by simp; try omega) _))⟩
  have n7 : (k == 7) = false := by simp [k7]
  by_cases k8 : k = 8
  · subst k8
    by_cases hz : s = 0
    · subst hz
      have HR := Lib.hid (show feB 8 0 v = inB v 1 8000 by rw [HF.out]; rfl)
      go_enter Tryz.func9, Tryz.ntmps9
      go_wp2_with (first | (go_at_call 19; (with_reducible refine (h0 _).mono ?_); rintro e w1 ⟨rfl, rfl⟩) | (go_at_call 19; (with_reducible refine (h8 _).mono ?_); rintro e w2 ⟨rfl, rfl⟩))
      go_ret
      first
        | exact ⟨by rw [HR.out] <;> rfl, (by repeat (first | exact Below.refl _ _ | refine below_step ?_ (by assumption) | assumption | refine Below.drew ?_ | refine below_drewN ?_ _ | refine below_alloc ?_ _ | refine Below.setCell ?_ (by simp; try omega) _))⟩
        | exact ⟨by rw [HR.out]; simp [*], (by repeat (first | exact Below.refl _ _ | refine below_step ?_ (by assumption) | assumption | refine Below.drew ?_ | refine below_drewN ?_ _ | refine below_alloc ?_ _ | refine Below.setCell ?_ (by simp; try omega) _))⟩
    · have HR := Lib.hid (show feB 8 s v = false by rw [HF.out]; show (decide (s = 0) && inB v 1 8000) = false; rw [decide_eq_false hz]; rfl)
      have nz : (s == 0) = false := by simp [hz]
      go_enter Tryz.func9, Tryz.ntmps9
      go_wp2_with (first | (go_at_call 19; (with_reducible refine (h0 _).mono ?_); rintro e w1 ⟨rfl, rfl⟩))
      go_ret
      first
        | exact ⟨by rw [HR.out] <;> rfl, (by repeat (first | exact Below.refl _ _ | refine below_step ?_ (by assumption) | assumption | refine Below.drew ?_ | refine below_drewN ?_ _ | refine below_alloc ?_ _ | refine Below.setCell ?_ (by simp; try omega) _))⟩
        | exact ⟨by rw [HR.out]; simp [*], (by repeat (first | exact Below.refl _ _ | refine below_step ?_ (by assumption) | assumption | refine Below.drew ?_ | refine below_drewN ?_ _ | refine below_alloc ?_ _ | refine Below.setCell ?_ (by simp; try omega) _))⟩
  have n8 : (k == 8) = false := by simp [k8]
  have HE := Lib.hid (show feB k s v = (inB k 1 8 && decide (v = 0)) by rw [HF.out, if_neg k1, if_neg k7, if_neg k8])
  by_cases hr : k = 2 ∨ k = 3 ∨ k = 4 ∨ k = 5 ∨ k = 6
  case neg =>
    have n2 : (k == 2) = false := by simp; omega
    have n3 : (k == 3) = false := by simp; omega
    have n4 : (k == 4) = false := by simp; omega
    have n5 : (k == 5) = false := by simp; omega
    have n6 : (k == 6) = false := by simp; omega
    have HR := Lib.hid (show feB k s v = false by
      rw [HE.out]
      cases gk : inB k 1 8
      · rfl
      · have := (by simpa only [inB, Bool.and_eq_true, decide_eq_true_eq] using gk : 1 ≤ k ∧ k ≤ 8)
        omega)
    clear k1 k7 k8 hr
    go_enter Tryz.func9, Tryz.ntmps9
    go_wp2_with (first | (go_at_call 19; (with_reducible refine (h0 _).mono ?_); rintro e w1 ⟨rfl, rfl⟩))
    go_ret
    first
      | exact ⟨by rw [HR.out] <;> rfl, (by repeat (first | exact Below.refl _ _ | refine below_step ?_ (by assumption) | assumption | refine Below.drew ?_ | refine below_drewN ?_ _ | refine below_alloc ?_ _ | refine Below.setCell ?_ (by simp; try omega) _))⟩
      | exact ⟨by rw [HR.out]; simp [*], (by repeat (first | exact Below.refl _ _ | refine below_step ?_ (by assumption) | assumption | refine Below.drew ?_ | refine below_drewN ?_ _ | refine below_alloc ?_ _ | refine Below.setCell ?_ (by simp; try omega) _))⟩
  clear k1 k7 k8 n1 n7 n8
  by_cases hv : v = 0
  · subst hv
    rcases hr with rfl | rfl | rfl | rfl | rfl
    · have HR := Lib.hid (show feB 2 s 0 = true by rw [HE.out]; rfl)
      go_enter Tryz.func9, Tryz.ntmps9
      go_wp2_with (first | (go_at_call 19; (with_reducible refine (h0 _).mono ?_); rintro e w1 ⟨rfl, rfl⟩))
      go_ret
      first
        | exact ⟨by rw [HR.out] <;> rfl, (by repeat (first | exact Below.refl _ _ | refine below_step ?_ (by assumption) | assumption | refine Below.drew ?_ | refine below_drewN ?_ _ | refine below_alloc ?_ _ | refine Below.setCell ?_ (by simp; try omega) _))⟩
        | exact ⟨by rw [HR.out]; simp [*], (by repeat (first | exact Below.refl _ _ | refine below_step ?_ (by assumption) | assumption | refine Below.drew ?_ | refine below_drewN ?_ _ | refine below_alloc ?_ _ | refine Below.setCell ?_ (by simp; try omega) _))⟩
    · have HR := Lib.hid (show feB 3 s 0 = true by rw [HE.out]; rfl)
      go_enter Tryz.func9, Tryz.ntmps9
      go_wp2_with (first | (go_at_call 19; (with_reducible refine (h0 _).mono ?_); rintro e w1 ⟨rfl, rfl⟩))
      go_ret
      first
        | exact ⟨by rw [HR.out] <;> rfl, (by repeat (first | exact Below.refl _ _ | refine below_step ?_ (by assumption) | assumption | refine Below.drew ?_ | refine below_drewN ?_ _ | refine below_alloc ?_ _ | refine Below.setCell ?_ (by simp; try omega) _))⟩
        | exact ⟨by rw [HR.out]; simp [*], (by repeat (first | exact Below.refl _ _ | refine below_step ?_ (by assumption) | assumption | refine Below.drew ?_ | refine below_drewN ?_ _ | refine below_alloc ?_ _ | refine Below.setCell ?_ (by simp; try omega) _))⟩
    · have HR := Lib.hid (show feB 4 s 0 = true by rw [HE.out]; rfl)
      go_enter Tryz.func9, Tryz.ntmps9
      go_wp2_with (first | (go_at_call 19; (with_reducible refine (h0 _).mono ?_); rintro e w1 ⟨rfl, rfl⟩))
      go_ret
      first
        | exact ⟨by rw [HR.out] <;> rfl, (by repeat (first | exact Below.refl _ _ | refine below_step ?_ (by assumption) | assumption | refine Below.drew ?_ | refine below_drewN ?_ _ | refine below_alloc ?_ _ | refine Below.setCell ?_ (by simp; try omega) _))⟩
        | exact ⟨by rw [HR.out]; simp [*], (by repeat (first | exact Below.refl _ _ | refine below_step ?_ (by assumption) | assumption | refine Below.drew ?_ | refine below_drewN ?_ _ | refine below_alloc ?_ _ | refine Below.setCell ?_ (by simp; try omega) _))⟩
    · have HR := Lib.hid (show feB 5 s 0 = true by rw [HE.out]; rfl)
      go_enter Tryz.func9, Tryz.ntmps9
      go_wp2_with (first | (go_at_call 19; (with_reducible refine (h0 _).mono ?_); rintro e w1 ⟨rfl, rfl⟩))
      go_ret
      first
        | exact ⟨by rw [HR.out] <;> rfl, (by repeat (first | exact Below.refl _ _ | refine below_step ?_ (by assumption) | assumption | refine Below.drew ?_ | refine below_drewN ?_ _ | refine below_alloc ?_ _ | refine Below.setCell ?_ (by simp; try omega) _))⟩
        | exact ⟨by rw [HR.out]; simp [*], (by repeat (first | exact Below.refl _ _ | refine below_step ?_ (by assumption) | assumption | refine Below.drew ?_ | refine below_drewN ?_ _ | refine below_alloc ?_ _ | refine Below.setCell ?_ (by simp; try omega) _))⟩
    · have HR := Lib.hid (show feB 6 s 0 = true by rw [HE.out]; rfl)
      go_enter Tryz.func9, Tryz.ntmps9
      go_wp2_with (first | (go_at_call 19; (with_reducible refine (h0 _).mono ?_); rintro e w1 ⟨rfl, rfl⟩))
      go_ret
      first
        | exact ⟨by rw [HR.out] <;> rfl, (by repeat (first | exact Below.refl _ _ | refine below_step ?_ (by assumption) | assumption | refine Below.drew ?_ | refine below_drewN ?_ _ | refine below_alloc ?_ _ | refine Below.setCell ?_ (by simp; try omega) _))⟩
        | exact ⟨by rw [HR.out]; simp [*], (by repeat (first | exact Below.refl _ _ | refine below_step ?_ (by assumption) | assumption | refine Below.drew ?_ | refine below_drewN ?_ _ | refine below_alloc ?_ _ | refine Below.setCell ?_ (by simp; try omega) _))⟩
  have nv : (v == 0) = false := by simp [hv]
  rcases hr with rfl | rfl | rfl | rfl | rfl
  · have HR := Lib.hid (show feB 2 s v = false by rw [HE.out, decide_eq_false hv, Bool.and_false])
    go_enter Tryz.func9, Tryz.ntmps9
    go_wp2_with (first | (go_at_call 19; (with_reducible refine (h0 _).mono ?_); rintro e w1 ⟨rfl, rfl⟩))
    go_ret
    first
      | exact ⟨by rw [HR.out] <;> rfl, (by repeat (first | exact Below.refl _ _ | refine below_step ?_ (by assumption) | assumption | refine Below.drew ?_ | refine below_drewN ?_ _ | refine below_alloc ?_ _ | refine Below.setCell ?_ (by simp; try omega) _))⟩
      | exact ⟨by rw [HR.out]; simp [*], (by repeat (first | exact Below.refl _ _ | refine below_step ?_ (by assumption) | assumption | refine Below.drew ?_ | refine below_drewN ?_ _ | refine below_alloc ?_ _ | refine Below.setCell ?_ (by simp; try omega) _))⟩
  · have HR := Lib.hid (show feB 3 s v = false by rw [HE.out, decide_eq_false hv, Bool.and_false])
    go_enter Tryz.func9, Tryz.ntmps9
    go_wp2_with (first | (go_at_call 19; (with_reducible refine (h0 _).mono ?_); rintro e w1 ⟨rfl, rfl⟩))
    go_ret
    first
      | exact ⟨by rw [HR.out] <;> rfl, (by repeat (first | exact Below.refl _ _ | refine below_step ?_ (by assumption) | assumption | refine Below.drew ?_ | refine below_drewN ?_ _ | refine below_alloc ?_ _ | refine Below.setCell ?_ (by simp; try omega) _))⟩
      | exact ⟨by rw [HR.out]; simp [*], (by repeat (first | exact Below.refl _ _ | refine below_step ?_ (by assumption) | assumption | refine Below.drew ?_ | refine below_drewN ?_ _ | refine below_alloc ?_ _ | refine Below.setCell ?_ (by simp; try omega) _))⟩
  · have HR := Lib.hid (show feB 4 s v = false by rw [HE.out, decide_eq_false hv, Bool.and_false])
    go_enter Tryz.func9, Tryz.ntmps9
    go_wp2_with (first | (go_at_call 19; (with_reducible refine (h0 _).mono ?_); rintro e w1 ⟨rfl, rfl⟩))
    go_ret
    first
      | exact ⟨by rw [HR.out] <;> rfl, (by repeat (first | exact Below.refl _ _ | refine below_step ?_ (by assumption) | assumption | refine Below.drew ?_ | refine below_drewN ?_ _ | refine below_alloc ?_ _ | refine Below.setCell ?_ (by simp; try omega) _))⟩
      | exact ⟨by rw [HR.out]; simp [*], (by repeat (first | exact Below.refl _ _ | refine below_step ?_ (by assumption) | assumption | refine Below.drew ?_ | refine below_drewN ?_ _ | refine below_alloc ?_ _ | refine Below.setCell ?_ (by simp; try omega) _))⟩
  · have HR := Lib.hid (show feB 5 s v = false by rw [HE.out, decide_eq_false hv, Bool.and_false])
    go_enter Tryz.func9, Tryz.ntmps9
    go_wp2_with (first | (go_at_call 19; (with_reducible refine (h0 _).mono ?_); rintro e w1 ⟨rfl, rfl⟩))
    go_ret
    first
      | exact ⟨by rw [HR.out] <;> rfl, (by repeat (first | exact Below.refl _ _ | refine below_step ?_ (by assumption) | assumption | refine Below.drew ?_ | refine below_drewN ?_ _ | refine below_alloc ?_ _ | refine Below.setCell ?_ (by simp; try omega) _))⟩
      | exact ⟨by rw [HR.out]; simp [*], (by repeat (first | exact Below.refl _ _ | refine below_step ?_ (by assumption) | assumption | refine Below.drew ?_ | refine below_drewN ?_ _ | refine below_alloc ?_ _ | refine Below.setCell ?_ (by simp; try omega) _))⟩
  · have HR := Lib.hid (show feB 6 s v = false by rw [HE.out, decide_eq_false hv, Bool.and_false])
    go_enter Tryz.func9, Tryz.ntmps9
    go_wp2_with (first | (go_at_call 19; (with_reducible refine (h0 _).mono ?_); rintro e w1 ⟨rfl, rfl⟩))
    go_ret
    first
      | exact ⟨by rw [HR.out] <;> rfl, (by repeat (first | exact Below.refl _ _ | refine below_step ?_ (by assumption) | assumption | refine Below.drew ?_ | refine below_drewN ?_ _ | refine below_alloc ?_ _ | refine Below.setCell ?_ (by simp; try omega) _))⟩
      | exact ⟨by rw [HR.out]; simp [*], (by repeat (first | exact Below.refl _ _ | refine below_step ?_ (by assumption) | assumption | refine Below.drew ?_ | refine below_drewN ?_ _ | refine below_alloc ?_ _ | refine Below.setCell ?_ (by simp; try omega) _))⟩

set_option maxRecDepth 100000 in
set_option maxHeartbeats 8000000 in
set_option linter.unusedSimpArgs false in
theorem l08Sector_any (a0 a1 a2 a3 : Int) (a4 : ByteArray) (a5 a6 a7 : Bool) (b o : Nat) (w : World) (d0 : w.cell? ⟨b, o, none⟩ = some (.int .i64 a0)) (d1 : w.cell? ⟨b, o + 1, none⟩ = some (.int .i64 a1)) (d2 : w.cell? ⟨b, o + 2, none⟩ = some (.int .i64 a2)) (d3 : w.cell? ⟨b, o + 3, none⟩ = some (.int .i64 a3)) (d4 : w.cell? ⟨b, o + 4, none⟩ = some (.string a4)) (d5 : w.cell? ⟨b, o + 5, none⟩ = some (.bool a5)) (d6 : w.cell? ⟨b, o + 6, none⟩ = some (.bool a6)) (d7 : w.cell? ⟨b, o + 7, none⟩ = some (.bool a7)) :
    Calls Tryz.prog 76 #[.pointer (some ⟨b, o, none⟩)] w fun e w' => e = .returned (.bool (ssB ⟨a0, a1, a2, a3, a4, a5, a6, a7⟩)) ∧ Below w.heap.size w w' := by
  have h0 := fun W => l00In_any a0 0 255 W
  have h1 := fun W => l00In_any a1 0 255 W
  have h2 := fun W => l00In_any a2 0 255 W
  have h3 := fun W => l00In_any a3 0 2 W
  cases g0 : inB a0 0 255
  · rw [g0] at h0
    have HR := Lib.hid (show ssB ⟨a0, a1, a2, a3, a4, a5, a6, a7⟩ = false by simp only [ssB, g0, Bool.false_and, Bool.and_false])
    go_enter Tryz.func76, Tryz.ntmps76
    go_wp2_with fail
    go_quiet ((first | (go_at_call 62; with_reducible exact quiet_left (h0 _))))
    go_wp2
    go_ret
    first
      | exact ⟨by rw [HR.out] <;> rfl, (by repeat (first | exact Below.refl _ _ | refine below_step ?_ (by assumption) | assumption | refine Below.drew ?_ | refine below_drewN ?_ _ | refine below_alloc ?_ _ | refine Below.setCell ?_ (by simp; try omega) _))⟩
      | exact ⟨by rw [HR.out]; simp [*], (by repeat (first | exact Below.refl _ _ | refine below_step ?_ (by assumption) | assumption | refine Below.drew ?_ | refine below_drewN ?_ _ | refine below_alloc ?_ _ | refine Below.setCell ?_ (by simp; try omega) _))⟩
  rw [g0] at h0
  cases g1 : inB a1 0 255
  · rw [g1] at h1
    have HR := Lib.hid (show ssB ⟨a0, a1, a2, a3, a4, a5, a6, a7⟩ = false by simp only [ssB, g0, g1, Bool.false_and, Bool.and_false])
    go_enter Tryz.func76, Tryz.ntmps76
    go_wp2_with fail
    go_quiet ((first | (go_at_call 62; with_reducible exact quiet_left (h0 _)) | (go_at_call 62; with_reducible exact quiet_left (h1 _))))
    go_wp2
    go_ret
    first
      | exact ⟨by rw [HR.out] <;> rfl, (by repeat (first | exact Below.refl _ _ | refine below_step ?_ (by assumption) | assumption | refine Below.drew ?_ | refine below_drewN ?_ _ | refine below_alloc ?_ _ | refine Below.setCell ?_ (by simp; try omega) _))⟩
      | exact ⟨by rw [HR.out]; simp [*], (by repeat (first | exact Below.refl _ _ | refine below_step ?_ (by assumption) | assumption | refine Below.drew ?_ | refine below_drewN ?_ _ | refine below_alloc ?_ _ | refine Below.setCell ?_ (by simp; try omega) _))⟩
  rw [g1] at h1
  cases g2 : inB a2 0 255
  · rw [g2] at h2
    have HR := Lib.hid (show ssB ⟨a0, a1, a2, a3, a4, a5, a6, a7⟩ = false by simp only [ssB, g0, g1, g2, Bool.false_and, Bool.and_false])
    go_enter Tryz.func76, Tryz.ntmps76
    go_wp2_with fail
    go_quiet ((first | (go_at_call 62; with_reducible exact quiet_left (h0 _)) | (go_at_call 62; with_reducible exact quiet_left (h1 _)) | (go_at_call 62; with_reducible exact quiet_left (h2 _))))
    go_wp2
    go_ret
    first
      | exact ⟨by rw [HR.out] <;> rfl, (by repeat (first | exact Below.refl _ _ | refine below_step ?_ (by assumption) | assumption | refine Below.drew ?_ | refine below_drewN ?_ _ | refine below_alloc ?_ _ | refine Below.setCell ?_ (by simp; try omega) _))⟩
      | exact ⟨by rw [HR.out]; simp [*], (by repeat (first | exact Below.refl _ _ | refine below_step ?_ (by assumption) | assumption | refine Below.drew ?_ | refine below_drewN ?_ _ | refine below_alloc ?_ _ | refine Below.setCell ?_ (by simp; try omega) _))⟩
  rw [g2] at h2
  cases g3 : inB a3 0 2
  · rw [g3] at h3
    have HR := Lib.hid (show ssB ⟨a0, a1, a2, a3, a4, a5, a6, a7⟩ = false by simp only [ssB, g0, g1, g2, g3, Bool.false_and, Bool.and_false])
    go_enter Tryz.func76, Tryz.ntmps76
    go_wp2_with fail
    go_quiet ((first | (go_at_call 62; with_reducible exact quiet_left (h0 _)) | (go_at_call 62; with_reducible exact quiet_left (h1 _)) | (go_at_call 62; with_reducible exact quiet_left (h2 _)) | (go_at_call 62; with_reducible exact quiet_left (h3 _))))
    go_wp2
    go_ret
    first
      | exact ⟨by rw [HR.out] <;> rfl, (by repeat (first | exact Below.refl _ _ | refine below_step ?_ (by assumption) | assumption | refine Below.drew ?_ | refine below_drewN ?_ _ | refine below_alloc ?_ _ | refine Below.setCell ?_ (by simp; try omega) _))⟩
      | exact ⟨by rw [HR.out]; simp [*], (by repeat (first | exact Below.refl _ _ | refine below_step ?_ (by assumption) | assumption | refine Below.drew ?_ | refine below_drewN ?_ _ | refine below_alloc ?_ _ | refine Below.setCell ?_ (by simp; try omega) _))⟩
  rw [g3] at h3
  have HF := Lib.hid (show ssB ⟨a0, a1, a2, a3, a4, a5, a6, a7⟩ = decide ((a4.size : Int) = szB a3) by simp only [ssB, g0, g1, g2, g3, Bool.true_and])
  have h3b := (by simpa only [inB, Bool.and_eq_true, decide_eq_true_eq] using g3 : 0 ≤ a3 ∧ a3 ≤ 2)
  have h012 : a3 = 0 ∨ a3 = 1 ∨ a3 = 2 := by omega
  clear g0 g1 g2 g3 h3b
  rcases h012 with rfl | rfl | rfl
  · skip
    by_cases hsz : a4.size = 8
    · have hszi : (a4.size : Int) = 8 := by omega
      have hszb : ((a4.size : Int) == 8) = true := by simp [hszi]
      have hszd : decide ((a4.size : Int) = 8) = true := by simp [hszi]
      have HR := Lib.hid (show ssB ⟨a0, a1, a2, 0, a4, a5, a6, a7⟩ = true by rw [HF.out, show szB 0 = 8 from rfl, hszd])
      clear hszi hsz hszd
      go_enter Tryz.func76, Tryz.ntmps76
      go_wp2_with fail
      go_quiet ((first | (go_at_call 62; with_reducible exact quiet_left (h0 _)) | (go_at_call 62; with_reducible exact quiet_left (h1 _)) | (go_at_call 62; with_reducible exact quiet_left (h2 _)) | (go_at_call 62; with_reducible exact quiet_left (h3 _))))
      go_wp2
      go_ret
      first
        | exact ⟨by rw [HR.out] <;> rfl, (by repeat (first | exact Below.refl _ _ | refine below_step ?_ (by assumption) | assumption | refine Below.drew ?_ | refine below_drewN ?_ _ | refine below_alloc ?_ _ | refine Below.setCell ?_ (by simp; try omega) _))⟩
        | exact ⟨by rw [HR.out]; simp [*], (by repeat (first | exact Below.refl _ _ | refine below_step ?_ (by assumption) | assumption | refine Below.drew ?_ | refine below_drewN ?_ _ | refine below_alloc ?_ _ | refine Below.setCell ?_ (by simp; try omega) _))⟩
    · have hszi : ¬ (a4.size : Int) = 8 := by omega
      have hszb : ((a4.size : Int) == 8) = false := by simp [hszi]
      have hszd : decide ((a4.size : Int) = 8) = false := by simp [hszi]
      have HR := Lib.hid (show ssB ⟨a0, a1, a2, 0, a4, a5, a6, a7⟩ = false by rw [HF.out, show szB 0 = 8 from rfl, hszd])
      clear hszi hsz hszd
      go_enter Tryz.func76, Tryz.ntmps76
      go_wp2_with fail
      go_quiet ((first | (go_at_call 62; with_reducible exact quiet_left (h0 _)) | (go_at_call 62; with_reducible exact quiet_left (h1 _)) | (go_at_call 62; with_reducible exact quiet_left (h2 _)) | (go_at_call 62; with_reducible exact quiet_left (h3 _))))
      go_wp2
      go_ret
      first
        | exact ⟨by rw [HR.out] <;> rfl, (by repeat (first | exact Below.refl _ _ | refine below_step ?_ (by assumption) | assumption | refine Below.drew ?_ | refine below_drewN ?_ _ | refine below_alloc ?_ _ | refine Below.setCell ?_ (by simp; try omega) _))⟩
        | exact ⟨by rw [HR.out]; simp [*], (by repeat (first | exact Below.refl _ _ | refine below_step ?_ (by assumption) | assumption | refine Below.drew ?_ | refine below_drewN ?_ _ | refine below_alloc ?_ _ | refine Below.setCell ?_ (by simp; try omega) _))⟩
  · skip
    by_cases hsz : a4.size = 16
    · have hszi : (a4.size : Int) = 16 := by omega
      have hszb : ((a4.size : Int) == 16) = true := by simp [hszi]
      have hszd : decide ((a4.size : Int) = 16) = true := by simp [hszi]
      have HR := Lib.hid (show ssB ⟨a0, a1, a2, 1, a4, a5, a6, a7⟩ = true by rw [HF.out, show szB 1 = 16 from rfl, hszd])
      clear hszi hsz hszd
      go_enter Tryz.func76, Tryz.ntmps76
      go_wp2_with fail
      go_quiet ((first | (go_at_call 62; with_reducible exact quiet_left (h0 _)) | (go_at_call 62; with_reducible exact quiet_left (h1 _)) | (go_at_call 62; with_reducible exact quiet_left (h2 _)) | (go_at_call 62; with_reducible exact quiet_left (h3 _))))
      go_wp2
      go_ret
      first
        | exact ⟨by rw [HR.out] <;> rfl, (by repeat (first | exact Below.refl _ _ | refine below_step ?_ (by assumption) | assumption | refine Below.drew ?_ | refine below_drewN ?_ _ | refine below_alloc ?_ _ | refine Below.setCell ?_ (by simp; try omega) _))⟩
        | exact ⟨by rw [HR.out]; simp [*], (by repeat (first | exact Below.refl _ _ | refine below_step ?_ (by assumption) | assumption | refine Below.drew ?_ | refine below_drewN ?_ _ | refine below_alloc ?_ _ | refine Below.setCell ?_ (by simp; try omega) _))⟩
    · have hszi : ¬ (a4.size : Int) = 16 := by omega
      have hszb : ((a4.size : Int) == 16) = false := by simp [hszi]
      have hszd : decide ((a4.size : Int) = 16) = false := by simp [hszi]
      have HR := Lib.hid (show ssB ⟨a0, a1, a2, 1, a4, a5, a6, a7⟩ = false by rw [HF.out, show szB 1 = 16 from rfl, hszd])
      clear hszi hsz hszd
      go_enter Tryz.func76, Tryz.ntmps76
      go_wp2_with fail
      go_quiet ((first | (go_at_call 62; with_reducible exact quiet_left (h0 _)) | (go_at_call 62; with_reducible exact quiet_left (h1 _)) | (go_at_call 62; with_reducible exact quiet_left (h2 _)) | (go_at_call 62; with_reducible exact quiet_left (h3 _))))
      go_wp2
      go_ret
      first
        | exact ⟨by rw [HR.out] <;> rfl, (by repeat (first | exact Below.refl _ _ | refine below_step ?_ (by assumption) | assumption | refine Below.drew ?_ | refine below_drewN ?_ _ | refine below_alloc ?_ _ | refine Below.setCell ?_ (by simp; try omega) _))⟩
        | exact ⟨by rw [HR.out]; simp [*], (by repeat (first | exact Below.refl _ _ | refine below_step ?_ (by assumption) | assumption | refine Below.drew ?_ | refine below_drewN ?_ _ | refine below_alloc ?_ _ | refine Below.setCell ?_ (by simp; try omega) _))⟩
  · skip
    by_cases hsz : a4.size = 32
    · have hszi : (a4.size : Int) = 32 := by omega
      have hszb : ((a4.size : Int) == 32) = true := by simp [hszi]
      have hszd : decide ((a4.size : Int) = 32) = true := by simp [hszi]
      have HR := Lib.hid (show ssB ⟨a0, a1, a2, 2, a4, a5, a6, a7⟩ = true by rw [HF.out, show szB 2 = 32 from rfl, hszd])
      clear hszi hsz hszd
      go_enter Tryz.func76, Tryz.ntmps76
      go_wp2_with fail
      go_quiet ((first | (go_at_call 62; with_reducible exact quiet_left (h0 _)) | (go_at_call 62; with_reducible exact quiet_left (h1 _)) | (go_at_call 62; with_reducible exact quiet_left (h2 _)) | (go_at_call 62; with_reducible exact quiet_left (h3 _))))
      go_wp2
      go_ret
      first
        | exact ⟨by rw [HR.out] <;> rfl, (by repeat (first | exact Below.refl _ _ | refine below_step ?_ (by assumption) | assumption | refine Below.drew ?_ | refine below_drewN ?_ _ | refine below_alloc ?_ _ | refine Below.setCell ?_ (by simp; try omega) _))⟩
        | exact ⟨by rw [HR.out]; simp [*], (by repeat (first | exact Below.refl _ _ | refine below_step ?_ (by assumption) | assumption | refine Below.drew ?_ | refine below_drewN ?_ _ | refine below_alloc ?_ _ | refine Below.setCell ?_ (by simp; try omega) _))⟩
    · have hszi : ¬ (a4.size : Int) = 32 := by omega
      have hszb : ((a4.size : Int) == 32) = false := by simp [hszi]
      have hszd : decide ((a4.size : Int) = 32) = false := by simp [hszi]
      have HR := Lib.hid (show ssB ⟨a0, a1, a2, 2, a4, a5, a6, a7⟩ = false by rw [HF.out, show szB 2 = 32 from rfl, hszd])
      clear hszi hsz hszd
      go_enter Tryz.func76, Tryz.ntmps76
      go_wp2_with fail
      go_quiet ((first | (go_at_call 62; with_reducible exact quiet_left (h0 _)) | (go_at_call 62; with_reducible exact quiet_left (h1 _)) | (go_at_call 62; with_reducible exact quiet_left (h2 _)) | (go_at_call 62; with_reducible exact quiet_left (h3 _))))
      go_wp2
      go_ret
      first
        | exact ⟨by rw [HR.out] <;> rfl, (by repeat (first | exact Below.refl _ _ | refine below_step ?_ (by assumption) | assumption | refine Below.drew ?_ | refine below_drewN ?_ _ | refine below_alloc ?_ _ | refine Below.setCell ?_ (by simp; try omega) _))⟩
        | exact ⟨by rw [HR.out]; simp [*], (by repeat (first | exact Below.refl _ _ | refine below_step ?_ (by assumption) | assumption | refine Below.drew ?_ | refine below_drewN ?_ _ | refine below_alloc ?_ _ | refine Below.setCell ?_ (by simp; try omega) _))⟩

set_option maxRecDepth 100000 in
set_option maxHeartbeats 8000000 in
set_option linter.unusedSimpArgs false in
theorem impl_ValidSectorSpec_any (a0 a1 a2 a3 : Int) (a4 : ByteArray) (a5 a6 a7 : Bool) (w : World) :
    Calls Tryz.prog 39 #[.agg #[.int .i64 a0, .int .i64 a1, .int .i64 a2, .int .i64 a3, .string a4, .bool a5, .bool a6, .bool a7]] w fun e w' => e = .returned (.bool (ssB ⟨a0, a1, a2, a3, a4, a5, a6, a7⟩)) ∧ Below w.heap.size w w' := by
  have hd := BX.made w 41 [.int .i64 a0, .int .i64 a1, .int .i64 a2, .int .i64 a3, .string a4, .bool a5, .bool a6, .bool a7]
  have d0 : (_ : Option Value) = some (.int .i64 a0) := hd.cell 0 (by simp)
  have d1 : (_ : Option Value) = some (.int .i64 a1) := hd.cell 1 (by simp)
  have d2 : (_ : Option Value) = some (.int .i64 a2) := hd.cell 2 (by simp)
  have d3 : (_ : Option Value) = some (.int .i64 a3) := hd.cell 3 (by simp)
  have d4 : (_ : Option Value) = some (.string a4) := hd.cell 4 (by simp)
  have d5 : (_ : Option Value) = some (.bool a5) := hd.cell 5 (by simp)
  have d6 : (_ : Option Value) = some (.bool a6) := hd.cell 6 (by simp)
  have d7 : (_ : Option Value) = some (.bool a7) := hd.cell 7 (by simp)
  have h0 := fun W => isByte_any a0 W
  have h1 := fun W => isByte_any a1 W
  have h2 := fun W => isByte_any a2 W
  have h3 := fun W => within_any a3 0 2 W
  cases g0 : inB a0 0 255
  · rw [g0] at h0
    have HR := Lib.hid (show ssB ⟨a0, a1, a2, a3, a4, a5, a6, a7⟩ = false by simp only [ssB, g0, Bool.false_and, Bool.and_false])
    go_enter Tryz.func39, Tryz.ntmps39
    go_wp2_with fail
    go_quiet ((first | (go_at_call 41; with_reducible exact quiet_left (h0 _))))
    go_wp2
    go_ret
    first
      | exact ⟨by rw [HR.out] <;> rfl, (by repeat (first | exact Below.refl _ _ | refine below_step ?_ (by assumption) | assumption | refine Below.drew ?_ | refine below_drewN ?_ _ | refine below_alloc ?_ _ | refine Below.setCell ?_ (by simp; try omega) _))⟩
      | exact ⟨by rw [HR.out]; simp [*], (by repeat (first | exact Below.refl _ _ | refine below_step ?_ (by assumption) | assumption | refine Below.drew ?_ | refine below_drewN ?_ _ | refine below_alloc ?_ _ | refine Below.setCell ?_ (by simp; try omega) _))⟩
  rw [g0] at h0
  cases g1 : inB a1 0 255
  · rw [g1] at h1
    have HR := Lib.hid (show ssB ⟨a0, a1, a2, a3, a4, a5, a6, a7⟩ = false by simp only [ssB, g0, g1, Bool.false_and, Bool.and_false])
    go_enter Tryz.func39, Tryz.ntmps39
    go_wp2_with fail
    go_quiet ((first | (go_at_call 41; with_reducible exact quiet_left (h0 _)) | (go_at_call 41; with_reducible exact quiet_left (h1 _))))
    go_wp2
    go_ret
    first
      | exact ⟨by rw [HR.out] <;> rfl, (by repeat (first | exact Below.refl _ _ | refine below_step ?_ (by assumption) | assumption | refine Below.drew ?_ | refine below_drewN ?_ _ | refine below_alloc ?_ _ | refine Below.setCell ?_ (by simp; try omega) _))⟩
      | exact ⟨by rw [HR.out]; simp [*], (by repeat (first | exact Below.refl _ _ | refine below_step ?_ (by assumption) | assumption | refine Below.drew ?_ | refine below_drewN ?_ _ | refine below_alloc ?_ _ | refine Below.setCell ?_ (by simp; try omega) _))⟩
  rw [g1] at h1
  cases g2 : inB a2 0 255
  · rw [g2] at h2
    have HR := Lib.hid (show ssB ⟨a0, a1, a2, a3, a4, a5, a6, a7⟩ = false by simp only [ssB, g0, g1, g2, Bool.false_and, Bool.and_false])
    go_enter Tryz.func39, Tryz.ntmps39
    go_wp2_with fail
    go_quiet ((first | (go_at_call 41; with_reducible exact quiet_left (h0 _)) | (go_at_call 41; with_reducible exact quiet_left (h1 _)) | (go_at_call 41; with_reducible exact quiet_left (h2 _))))
    go_wp2
    go_ret
    first
      | exact ⟨by rw [HR.out] <;> rfl, (by repeat (first | exact Below.refl _ _ | refine below_step ?_ (by assumption) | assumption | refine Below.drew ?_ | refine below_drewN ?_ _ | refine below_alloc ?_ _ | refine Below.setCell ?_ (by simp; try omega) _))⟩
      | exact ⟨by rw [HR.out]; simp [*], (by repeat (first | exact Below.refl _ _ | refine below_step ?_ (by assumption) | assumption | refine Below.drew ?_ | refine below_drewN ?_ _ | refine below_alloc ?_ _ | refine Below.setCell ?_ (by simp; try omega) _))⟩
  rw [g2] at h2
  cases g3 : inB a3 0 2
  · rw [g3] at h3
    have HR := Lib.hid (show ssB ⟨a0, a1, a2, a3, a4, a5, a6, a7⟩ = false by simp only [ssB, g0, g1, g2, g3, Bool.false_and, Bool.and_false])
    go_enter Tryz.func39, Tryz.ntmps39
    go_wp2_with fail
    go_quiet ((first | (go_at_call 41; with_reducible exact quiet_left (h0 _)) | (go_at_call 41; with_reducible exact quiet_left (h1 _)) | (go_at_call 41; with_reducible exact quiet_left (h2 _)) | (go_at_call 19; with_reducible exact quiet_left (h3 _))))
    go_wp2
    go_ret
    first
      | exact ⟨by rw [HR.out] <;> rfl, (by repeat (first | exact Below.refl _ _ | refine below_step ?_ (by assumption) | assumption | refine Below.drew ?_ | refine below_drewN ?_ _ | refine below_alloc ?_ _ | refine Below.setCell ?_ (by simp; try omega) _))⟩
      | exact ⟨by rw [HR.out]; simp [*], (by repeat (first | exact Below.refl _ _ | refine below_step ?_ (by assumption) | assumption | refine Below.drew ?_ | refine below_drewN ?_ _ | refine below_alloc ?_ _ | refine Below.setCell ?_ (by simp; try omega) _))⟩
  rw [g3] at h3
  have HF := Lib.hid (show ssB ⟨a0, a1, a2, a3, a4, a5, a6, a7⟩ = decide ((a4.size : Int) = szB a3) by simp only [ssB, g0, g1, g2, g3, Bool.true_and])
  have h3b := (by simpa only [inB, Bool.and_eq_true, decide_eq_true_eq] using g3 : 0 ≤ a3 ∧ a3 ≤ 2)
  have h012 : a3 = 0 ∨ a3 = 1 ∨ a3 = 2 := by omega
  clear g0 g1 g2 g3 h3b
  rcases h012 with rfl | rfl | rfl
  · skip
    have hby := fun W => sizeBytes_any 0 (by decide) (by decide) W
    rw [show szB 0 = 8 from rfl] at hby
    by_cases hsz : a4.size = 8
    · have hszi : (a4.size : Int) = 8 := by omega
      have hszb : ((a4.size : Int) == 8) = true := by simp [hszi]
      have hszd : decide ((a4.size : Int) = 8) = true := by simp [hszi]
      have HR := Lib.hid (show ssB ⟨a0, a1, a2, 0, a4, a5, a6, a7⟩ = true by rw [HF.out, show szB 0 = 8 from rfl, hszd])
      clear hszi hsz hszd
      go_enter Tryz.func39, Tryz.ntmps39
      go_wp2_with fail
      go_quiet ((first | (go_at_call 41; with_reducible exact quiet_left (h0 _)) | (go_at_call 41; with_reducible exact quiet_left (h1 _)) | (go_at_call 41; with_reducible exact quiet_left (h2 _)) | (go_at_call 19; with_reducible exact quiet_left (h3 _)) | (go_at_call 60; with_reducible exact quiet_left (hby _))))
      go_wp2
      go_ret
      first
        | exact ⟨by rw [HR.out] <;> rfl, (by repeat (first | exact Below.refl _ _ | refine below_step ?_ (by assumption) | assumption | refine Below.drew ?_ | refine below_drewN ?_ _ | refine below_alloc ?_ _ | refine Below.setCell ?_ (by simp; try omega) _))⟩
        | exact ⟨by rw [HR.out]; simp [*], (by repeat (first | exact Below.refl _ _ | refine below_step ?_ (by assumption) | assumption | refine Below.drew ?_ | refine below_drewN ?_ _ | refine below_alloc ?_ _ | refine Below.setCell ?_ (by simp; try omega) _))⟩
    · have hszi : ¬ (a4.size : Int) = 8 := by omega
      have hszb : ((a4.size : Int) == 8) = false := by simp [hszi]
      have hszd : decide ((a4.size : Int) = 8) = false := by simp [hszi]
      have HR := Lib.hid (show ssB ⟨a0, a1, a2, 0, a4, a5, a6, a7⟩ = false by rw [HF.out, show szB 0 = 8 from rfl, hszd])
      clear hszi hsz hszd
      go_enter Tryz.func39, Tryz.ntmps39
      go_wp2_with fail
      go_quiet ((first | (go_at_call 41; with_reducible exact quiet_left (h0 _)) | (go_at_call 41; with_reducible exact quiet_left (h1 _)) | (go_at_call 41; with_reducible exact quiet_left (h2 _)) | (go_at_call 19; with_reducible exact quiet_left (h3 _)) | (go_at_call 60; with_reducible exact quiet_left (hby _))))
      go_wp2
      go_ret
      first
        | exact ⟨by rw [HR.out] <;> rfl, (by repeat (first | exact Below.refl _ _ | refine below_step ?_ (by assumption) | assumption | refine Below.drew ?_ | refine below_drewN ?_ _ | refine below_alloc ?_ _ | refine Below.setCell ?_ (by simp; try omega) _))⟩
        | exact ⟨by rw [HR.out]; simp [*], (by repeat (first | exact Below.refl _ _ | refine below_step ?_ (by assumption) | assumption | refine Below.drew ?_ | refine below_drewN ?_ _ | refine below_alloc ?_ _ | refine Below.setCell ?_ (by simp; try omega) _))⟩
  · skip
    have hby := fun W => sizeBytes_any 1 (by decide) (by decide) W
    rw [show szB 1 = 16 from rfl] at hby
    by_cases hsz : a4.size = 16
    · have hszi : (a4.size : Int) = 16 := by omega
      have hszb : ((a4.size : Int) == 16) = true := by simp [hszi]
      have hszd : decide ((a4.size : Int) = 16) = true := by simp [hszi]
      have HR := Lib.hid (show ssB ⟨a0, a1, a2, 1, a4, a5, a6, a7⟩ = true by rw [HF.out, show szB 1 = 16 from rfl, hszd])
      clear hszi hsz hszd
      go_enter Tryz.func39, Tryz.ntmps39
      go_wp2_with fail
      go_quiet ((first | (go_at_call 41; with_reducible exact quiet_left (h0 _)) | (go_at_call 41; with_reducible exact quiet_left (h1 _)) | (go_at_call 41; with_reducible exact quiet_left (h2 _)) | (go_at_call 19; with_reducible exact quiet_left (h3 _)) | (go_at_call 60; with_reducible exact quiet_left (hby _))))
      go_wp2
      go_ret
      first
        | exact ⟨by rw [HR.out] <;> rfl, (by repeat (first | exact Below.refl _ _ | refine below_step ?_ (by assumption) | assumption | refine Below.drew ?_ | refine below_drewN ?_ _ | refine below_alloc ?_ _ | refine Below.setCell ?_ (by simp; try omega) _))⟩
        | exact ⟨by rw [HR.out]; simp [*], (by repeat (first | exact Below.refl _ _ | refine below_step ?_ (by assumption) | assumption | refine Below.drew ?_ | refine below_drewN ?_ _ | refine below_alloc ?_ _ | refine Below.setCell ?_ (by simp; try omega) _))⟩
    · have hszi : ¬ (a4.size : Int) = 16 := by omega
      have hszb : ((a4.size : Int) == 16) = false := by simp [hszi]
      have hszd : decide ((a4.size : Int) = 16) = false := by simp [hszi]
      have HR := Lib.hid (show ssB ⟨a0, a1, a2, 1, a4, a5, a6, a7⟩ = false by rw [HF.out, show szB 1 = 16 from rfl, hszd])
      clear hszi hsz hszd
      go_enter Tryz.func39, Tryz.ntmps39
      go_wp2_with fail
      go_quiet ((first | (go_at_call 41; with_reducible exact quiet_left (h0 _)) | (go_at_call 41; with_reducible exact quiet_left (h1 _)) | (go_at_call 41; with_reducible exact quiet_left (h2 _)) | (go_at_call 19; with_reducible exact quiet_left (h3 _)) | (go_at_call 60; with_reducible exact quiet_left (hby _))))
      go_wp2
      go_ret
      first
        | exact ⟨by rw [HR.out] <;> rfl, (by repeat (first | exact Below.refl _ _ | refine below_step ?_ (by assumption) | assumption | refine Below.drew ?_ | refine below_drewN ?_ _ | refine below_alloc ?_ _ | refine Below.setCell ?_ (by simp; try omega) _))⟩
        | exact ⟨by rw [HR.out]; simp [*], (by repeat (first | exact Below.refl _ _ | refine below_step ?_ (by assumption) | assumption | refine Below.drew ?_ | refine below_drewN ?_ _ | refine below_alloc ?_ _ | refine Below.setCell ?_ (by simp; try omega) _))⟩
  · skip
    have hby := fun W => sizeBytes_any 2 (by decide) (by decide) W
    rw [show szB 2 = 32 from rfl] at hby
    by_cases hsz : a4.size = 32
    · have hszi : (a4.size : Int) = 32 := by omega
      have hszb : ((a4.size : Int) == 32) = true := by simp [hszi]
      have hszd : decide ((a4.size : Int) = 32) = true := by simp [hszi]
      have HR := Lib.hid (show ssB ⟨a0, a1, a2, 2, a4, a5, a6, a7⟩ = true by rw [HF.out, show szB 2 = 32 from rfl, hszd])
      clear hszi hsz hszd
      go_enter Tryz.func39, Tryz.ntmps39
      go_wp2_with fail
      go_quiet ((first | (go_at_call 41; with_reducible exact quiet_left (h0 _)) | (go_at_call 41; with_reducible exact quiet_left (h1 _)) | (go_at_call 41; with_reducible exact quiet_left (h2 _)) | (go_at_call 19; with_reducible exact quiet_left (h3 _)) | (go_at_call 60; with_reducible exact quiet_left (hby _))))
      go_wp2
      go_ret
      first
        | exact ⟨by rw [HR.out] <;> rfl, (by repeat (first | exact Below.refl _ _ | refine below_step ?_ (by assumption) | assumption | refine Below.drew ?_ | refine below_drewN ?_ _ | refine below_alloc ?_ _ | refine Below.setCell ?_ (by simp; try omega) _))⟩
        | exact ⟨by rw [HR.out]; simp [*], (by repeat (first | exact Below.refl _ _ | refine below_step ?_ (by assumption) | assumption | refine Below.drew ?_ | refine below_drewN ?_ _ | refine below_alloc ?_ _ | refine Below.setCell ?_ (by simp; try omega) _))⟩
    · have hszi : ¬ (a4.size : Int) = 32 := by omega
      have hszb : ((a4.size : Int) == 32) = false := by simp [hszi]
      have hszd : decide ((a4.size : Int) = 32) = false := by simp [hszi]
      have HR := Lib.hid (show ssB ⟨a0, a1, a2, 2, a4, a5, a6, a7⟩ = false by rw [HF.out, show szB 2 = 32 from rfl, hszd])
      clear hszi hsz hszd
      go_enter Tryz.func39, Tryz.ntmps39
      go_wp2_with fail
      go_quiet ((first | (go_at_call 41; with_reducible exact quiet_left (h0 _)) | (go_at_call 41; with_reducible exact quiet_left (h1 _)) | (go_at_call 41; with_reducible exact quiet_left (h2 _)) | (go_at_call 19; with_reducible exact quiet_left (h3 _)) | (go_at_call 60; with_reducible exact quiet_left (hby _))))
      go_wp2
      go_ret
      first
        | exact ⟨by rw [HR.out] <;> rfl, (by repeat (first | exact Below.refl _ _ | refine below_step ?_ (by assumption) | assumption | refine Below.drew ?_ | refine below_drewN ?_ _ | refine below_alloc ?_ _ | refine Below.setCell ?_ (by simp; try omega) _))⟩
        | exact ⟨by rw [HR.out]; simp [*], (by repeat (first | exact Below.refl _ _ | refine below_step ?_ (by assumption) | assumption | refine Below.drew ?_ | refine below_drewN ?_ _ | refine below_alloc ?_ _ | refine Below.setCell ?_ (by simp; try omega) _))⟩
end Go.Proofs.YthelfgagddldfaaGreatDoor
