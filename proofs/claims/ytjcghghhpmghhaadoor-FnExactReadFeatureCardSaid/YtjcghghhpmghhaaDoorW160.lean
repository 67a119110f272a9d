/- Walks: valid features and descriptions of tracks. -/
import Derived.Test.YtjcghghhpmghhaaDoorPrM
namespace Go.Proofs.YtjcghghhpmghhaaDoor
open Go.RowKit
set_option linter.unusedVariables false

set_option maxRecDepth 100000 in
set_option maxHeartbeats 8000000 in
set_option linter.unusedSimpArgs false in
theorem l11Ok_any (k s v : Int) (w : World) :
    Calls Tryd.prog 16 #[.agg #[.int .i64 k, .int .i64 s, .int .i64 v]] w fun e w' => e = .returned (.bool (feB k s v)) ∧ Below w.heap.size w w' := by
  have h0 := fun W => l00In_any s 0 63 W
  have h1 := fun W => l00In_any v 0 (s - 1) W
  have h7 := fun W => l00In_any v 1 512 W
  have h8 := fun W => l00In_any v 1 8000 W
  have hk := fun W => l00In_any k 1 8 W
  cases g : inB s 0 63
  · rw [g] at h0
    have HR := Lib.hid (show feB k s v = false by simp only [feB, g, Bool.false_and])
    go_enter Tryd.func16, Tryd.ntmps16
    go_wp2_with (first | (go_at_call 25; (with_reducible refine (h0 _).mono ?_); rintro e w1 ⟨rfl, rfl⟩))
    go_ret
    first
      | exact ⟨by rw [HR.out] <;> rfl, (by repeat (first | exact Below.refl _ _ | refine below_step ?_ (by assumption) | assumption | refine Below.drew ?_ | refine below_drewN ?_ _ | refine below_alloc ?_ _ | refine Below.setCell ?_ (by simp; try omega) _))⟩
      | exact ⟨by rw [HR.out]; simp [*], (by repeat (first | exact Below.refl _ _ | refine below_step ?_ (by assumption) | assumption | refine Below.drew ?_ | refine below_drewN ?_ _ | refine below_alloc ?_ _ | refine Below.setCell ?_ (by simp; try omega) _))⟩
  rw [g] at h0
  have HF := Lib.hid (show feB k s v = (if k = 1 then inB v 0 (s - 1) else if k = 7 then inB v 1 512 else if k = 8 then decide (s = 0) && inB v 1 8000 else inB k 1 8 && decide (v = 0)) by simp only [feB, g, Bool.true_and])
  have hw : IntKind.i64.wrap (s - 1) = s - 1 := IntWalk.i64_in _ (by have := inB_yes g; omega)
  clear g
  by_cases k1 : k = 1
  · subst k1
    have HR := Lib.hid (show feB 1 s v = inB v 0 (s - 1) by rw [HF.out]; rfl)
    go_enter Tryd.func16, Tryd.ntmps16
    go_wp2_with (first | (go_at_call 25; (with_reducible refine (h0 _).mono ?_); rintro e w1 ⟨rfl, rfl⟩) | (go_at_call 25; (with_reducible refine (h1 _).mono ?_); rintro e w2 ⟨rfl, rfl⟩))
    go_ret
    first
      | exact ⟨by rw [HR.out] <;> rfl, (by repeat (first | exact Below.refl _ _ | refine below_step ?_ (by assumption) | assumption | refine Below.drew ?_ | refine below_drewN ?_ _ | refine below_alloc ?_ _ | refine Below.setCell ?_ (by simp; try omega) _))⟩
      | exact ⟨by rw [HR.out]; simp [*], (by repeat (first | exact Below.refl _ _ | refine below_step ?_ (by assumption) | assumption | refine Below.drew ?_ | refine below_drewN ?_ _ | refine below_alloc ?_ _ | refine Below.setCell ?_ (by simp; try omega) _))⟩
  have n1 : (k == 1) = false := by simp [k1]
  by_cases k7 : k = 7
  · subst k7
    have HR := Lib.hid (show feB 7 s v = inB v 1 512 by rw [HF.out]; rfl)
    go_enter Tryd.func16, Tryd.ntmps16
    go_wp2_with (first | (go_at_call 25; (with_reducible refine (h0 _).mono ?_); rintro e w1 ⟨rfl, rfl⟩) | (go_at_call 25; (with_reducible refine (h7 _).mono ?_); rintro e w2 ⟨rfl, rfl⟩))
    go_ret
    first
      | exact ⟨by rw [HR.out] <;> rfl, (by repeat (first | exact Below.refl _ _ | refine below_step ?_ (by assumption) | assumption | refine Below.drew ?_ | refine below_drewN ?_ _ | refine below_alloc ?_ _ | refine Below.setCell ?_ (by simp; try omega) _))⟩
      | exact ⟨by rw [HR.out]; simp [*], (by repeat (first | exact Below.refl _ _ | refine below_step ?_ (by assumption) | assumption | refine Below.drew ?_ | refine below_drewN ?_ _ | refine below_alloc ?_ _ | refine Below.setCell ?_ (by simp; try omega) _))⟩
  have n7 : (k == 7) = false := by simp [k7]
  by_cases k8 : k = 8
  · subst k8
    by_cases hz : s = 0
    · subst hz
      have HR := Lib.hid (show feB 8 0 v = inB v 1 8000 by rw [HF.out]; rfl)
      go_enter Tryd.func16, Tryd.ntmps16
      go_wp2_with (first | (go_at_call 25; (with_reducible refine (h0 _).mono ?_); rintro e w1 ⟨rfl, rfl⟩) | (go_at_call 25; (with_reducible refine (h8 _).mono ?_); rintro e w2 ⟨rfl, rfl⟩))
      go_ret
      first
        | exact ⟨by rw [HR.out] <;> rfl, (by repeat (first | exact Below.refl _ _ | refine below_step ?_ (by assumption) | assumption | refine Below.drew ?_ | refine below_drewN ?_ _ | refine below_alloc ?_ _ | refine Below.setCell ?_ (by simp; try omega) _))⟩
        | exact ⟨by rw [HR.out]; simp [*], (by repeat (first | exact Below.refl _ _ | refine below_step ?_ (by assumption) | assumption | refine Below.drew ?_ | refine below_drewN ?_ _ | refine below_alloc ?_ _ | refine Below.setCell ?_ (by simp; try omega) _))⟩
    · have HR := Lib.hid (show feB 8 s v = false by rw [HF.out]; show (decide (s = 0) && inB v 1 8000) = false; rw [decide_eq_false hz]; rfl)
      have nz : (s == 0) = false := by simp [hz]
      go_enter Tryd.func16, Tryd.ntmps16
      go_wp2_with (first | (go_at_call 25; (with_reducible refine (h0 _).mono ?_); rintro e w1 ⟨rfl, rfl⟩))
      go_ret
      first
        | exact ⟨by rw [HR.out] <;> rfl, (by repeat (first | exact Below.refl _ _ | refine below_step ?_ (by assumption) | assumption | refine Below.drew ?_ | refine below_drewN ?_ _ | refine below_alloc ?_ _ | refine Below.setCell ?_ (by simp; try omega) _))⟩
        | exact ⟨by rw [HR.out]; simp [*], (by repeat (first | exact Below.refl _ _ | refine below_step ?_ (by assumption) | assumption | refine Below.drew ?_ | refine below_drewN ?_ _ | refine below_alloc ?_ _ | refine Below.setCell ?_ (by simp; try omega) _))⟩
  have n8 : (k == 8) = false := by simp [k8]
  have HE := Lib.hid (show feB k s v = (inB k 1 8 && decide (v = 0)) by rw [HF.out, if_neg k1, if_neg k7, if_neg k8])
  cases gk : inB k 1 8
  · rw [gk] at hk
    have HR := Lib.hid (show feB k s v = false by rw [HE.out, gk]; rfl)
    clear k1 k7 k8
    go_enter Tryd.func16, Tryd.ntmps16
    go_wp2_with (first | (go_at_call 25; (with_reducible refine (h0 _).mono ?_); rintro e w1 ⟨rfl, rfl⟩) | (go_at_call 25; (with_reducible refine (hk _).mono ?_); rintro e w2 ⟨rfl, rfl⟩))
    go_ret
    first
      | exact ⟨by rw [HR.out] <;> rfl, (by repeat (first | exact Below.refl _ _ | refine below_step ?_ (by assumption) | assumption | refine Below.drew ?_ | refine below_drewN ?_ _ | refine below_alloc ?_ _ | refine Below.setCell ?_ (by simp; try omega) _))⟩
      | exact ⟨by rw [HR.out]; simp [*], (by repeat (first | exact Below.refl _ _ | refine below_step ?_ (by assumption) | assumption | refine Below.drew ?_ | refine below_drewN ?_ _ | refine below_alloc ?_ _ | refine Below.setCell ?_ (by simp; try omega) _))⟩
  rw [gk] at hk
  clear k1 k7 k8
  by_cases hv : v = 0
  · subst hv
    have HR := Lib.hid (show feB k s 0 = true by rw [HE.out, gk]; rfl)
    go_enter Tryd.func16, Tryd.ntmps16
    go_wp2_with (first | (go_at_call 25; (with_reducible refine (h0 _).mono ?_); rintro e w1 ⟨rfl, rfl⟩) | (go_at_call 25; (with_reducible refine (hk _).mono ?_); rintro e w2 ⟨rfl, rfl⟩))
    go_ret
    first
      | exact ⟨by rw [HR.out] <;> rfl, (by repeat (first | exact Below.refl _ _ | refine below_step ?_ (by assumption) | assumption | refine Below.drew ?_ | refine below_drewN ?_ _ | refine below_alloc ?_ _ | refine Below.setCell ?_ (by simp; try omega) _))⟩
      | exact ⟨by rw [HR.out]; simp [*], (by repeat (first | exact Below.refl _ _ | refine below_step ?_ (by assumption) | assumption | refine Below.drew ?_ | refine below_drewN ?_ _ | refine below_alloc ?_ _ | refine Below.setCell ?_ (by simp; try omega) _))⟩
  · have HR := Lib.hid (show feB k s v = false by rw [HE.out, gk, decide_eq_false hv]; rfl)
    have nv : (v == 0) = false := by simp [hv]
    go_enter Tryd.func16, Tryd.ntmps16
    go_wp2_with (first | (go_at_call 25; (with_reducible refine (h0 _).mono ?_); rintro e w1 ⟨rfl, rfl⟩) | (go_at_call 25; (with_reducible refine (hk _).mono ?_); rintro e w2 ⟨rfl, rfl⟩))
    go_ret
    first
      | exact ⟨by rw [HR.out] <;> rfl, (by repeat (first | exact Below.refl _ _ | refine below_step ?_ (by assumption) | assumption | refine Below.drew ?_ | refine below_drewN ?_ _ | refine below_alloc ?_ _ | refine Below.setCell ?_ (by simp; try omega) _))⟩
      | exact ⟨by rw [HR.out]; simp [*], (by repeat (first | exact Below.refl _ _ | refine below_step ?_ (by assumption) | assumption | refine Below.drew ?_ | refine below_drewN ?_ _ | refine below_alloc ?_ _ | refine Below.setCell ?_ (by simp; try omega) _))⟩

set_option maxRecDepth 100000 in
set_option maxHeartbeats 8000000 in
set_option linter.unusedSimpArgs false in
theorem impl_ValidFeature_any (k s v : Int) (w : World) :
    Calls Tryd.prog 23 #[.agg #[.int .i64 k, .int .i64 s, .int .i64 v]] w fun e w' => e = .returned (.bool (feB k s v)) ∧ Below w.heap.size w w' := by
  have h0 := fun W => within_any s 0 63 W
  have h1 := fun W => within_any v 0 (s - 1) W
  have h7 := fun W => within_any v 1 512 W
  have h8 := fun W => within_any v 1 8000 W
  have hk := fun W => within_any k 1 8 W
  cases g : inB s 0 63
  · rw [g] at h0
    have HR := Lib.hid (show feB k s v = false by simp only [feB, g, Bool.false_and])
    go_enter Tryd.func23, Tryd.ntmps23
    go_wp2_with (first | (go_at_call 33; (with_reducible refine (h0 _).mono ?_); rintro e w1 ⟨rfl, rfl⟩))
    go_ret
    first
      | exact ⟨by rw [HR.out] <;> rfl, (by repeat (first | exact Below.refl _ _ | refine below_step ?_ (by assumption) | assumption | refine Below.drew ?_ | refine below_drewN ?_ _ | refine below_alloc ?_ _ | refine Below.setCell ?_ (by simp; try omega) _))⟩
      | exact ⟨by rw [HR.out]; simp [*], (by repeat (first | exact Below.refl _ _ | refine below_step ?_ (by assumption) | assumption | refine Below.drew ?_ | refine below_drewN ?_ _ | refine below_alloc ?_ _ | refine Below.setCell ?_ (by simp; try omega) _))⟩
  rw [g] at h0
  have HF := Lib.hid (show feB k s v = (if k = 1 then inB v 0 (s - 1) else if k = 7 then inB v 1 512 else if k = 8 then decide (s = 0) && inB v 1 8000 else inB k 1 8 && decide (v = 0)) by simp only [feB, g, Bool.true_and])
  have hw : IntKind.i64.wrap (s - 1) = s - 1 := IntWalk.i64_in _ (by have := inB_yes g; omega)
  clear g
  by_cases k1 : k = 1
  · subst k1
    have HR := Lib.hid (show feB 1 s v = inB v 0 (s - 1) by rw [HF.out]; rfl)
    go_enter Tryd.func23, Tryd.ntmps23
    go_wp2_with (first | (go_at_call 33; (with_reducible refine (h0 _).mono ?_); rintro e w1 ⟨rfl, rfl⟩) | (go_at_call 33; (with_reducible refine (h1 _).mono ?_); rintro e w2 ⟨rfl, rfl⟩))
    go_ret
    first
      | exact ⟨by rw [HR.out] <;> rfl, (by repeat (first | exact Below.refl _ _ | refine below_step ?_ (by assumption) | assumption | refine Below.drew ?_ | refine below_drewN ?_ _ | refine below_alloc ?_ _ | refine Below.setCell ?_ (by simp; try omega) _))⟩
      | exact ⟨by rw [HR.out]; simp [*], (by repeat (first | exact Below.refl _ _ | refine below_step ?_ (by assumption) | assumption | refine Below.drew ?_ | refine below_drewN ?_ _ | refine below_alloc ?_ _ | refine Below.setCell ?_ (by simp; try omega) _))⟩
  have n1 : (k == 1) = false := by simp [k1]
  by_cases k7 : k = 7
  · subst k7
    have HR := Lib.hid (show feB 7 s v = inB v 1 512 by rw [HF.out]; rfl)
    go_enter Tryd.func23, Tryd.ntmps23
    go_wp2_with (first | (go_at_call 33; (with_reducible refine (h0 _).mono ?_); rintro e w1 ⟨rfl, rfl⟩) | (go_at_call 33; (with_reducible refine (h7 _).mono ?_); rintro e w2 ⟨rfl, rfl⟩))
    go_ret
    first
      | exact ⟨by rw [HR.out] <;> rfl, (by repeat (first | exact Below.refl _ _ | refine below_step ?_ (by assumption) | assumption | refine Below.drew ?_ | refine below_drewN ?_ _ | refine below_alloc ?_ _ | refine Below.setCell ?_ (by simp; try omega) _))⟩
      | exact ⟨by rw [HR.out]; simp [*], (by repeat (first | exact Below.refl _ _ | refine below_step ?_ (by assumption) | assumption | refine Below.drew ?_ | refine below_drewN ?_ _ | refine below_alloc ?_ _ | refine Below.setCell ?_ (by simp; try omega) _))⟩
  have n7 : (k == 7) = false := by simp [k7]
  by_cases k8 : k = 8
  · subst k8
    by_cases hz : s = 0
    · subst hz
      have HR := Lib.hid (show feB 8 0 v = inB v 1 8000 by rw [HF.out]; rfl)
      go_enter Tryd.func23, Tryd.ntmps23
      go_wp2_with (first | (go_at_call 33; (with_reducible refine (h0 _).mono ?_); rintro e w1 ⟨rfl, rfl⟩) | (go_at_call 33; (with_reducible refine (h8 _).mono ?_); rintro e w2 ⟨rfl, rfl⟩))
      go_ret
      first
        | exact ⟨by rw [HR.out] <;> rfl, (by repeat (first | exact Below.refl _ _ | refine below_step ?_ (by assumption) | assumption | refine Below.drew ?_ | refine below_drewN ?_ _ | refine below_alloc ?_ _ | refine Below.setCell ?_ (by simp; try omega) _))⟩
        | exact ⟨by rw [HR.out]; simp [*], (by repeat (first | exact Below.refl _ _ | refine below_step ?_ (by assumption) | assumption | refine Below.drew ?_ | refine below_drewN ?_ _ | refine below_alloc ?_ _ | refine Below.setCell ?_ (by simp; try omega) _))⟩
    · have HR := Lib.hid (show feB 8 s v = false by rw [HF.out]; show (decide (s = 0) && inB v 1 8000) = false; rw [decide_eq_false hz]; rfl)
      have nz : (s == 0) = false := by simp [hz]
      go_enter Tryd.func23, Tryd.ntmps23
      go_wp2_with (first | (go_at_call 33; (with_reducible refine (h0 _).mono ?_); rintro e w1 ⟨rfl, rfl⟩))
      go_ret
      first
        | exact ⟨by rw [HR.out] <;> rfl, (by repeat (first | exact Below.refl _ _ | refine below_step ?_ (by assumption) | assumption | refine Below.drew ?_ | refine below_drewN ?_ _ | refine below_alloc ?_ _ | refine Below.setCell ?_ (by simp; try omega) _))⟩
        | exact ⟨by rw [HR.out]; simp [*], (by repeat (first | exact Below.refl _ _ | refine below_step ?_ (by assumption) | assumption | refine Below.drew ?_ | refine below_drewN ?_ _ | refine below_alloc ?_ _ | refine Below.setCell ?_ (by simp; try omega) _))⟩
  have n8 : (k == 8) = false := by simp [k8]
  have HE := Lib.hid (show feB k s v = (inB k 1 8 && decide (v = 0)) by rw [HF.out, if_neg k1, if_neg k7, if_neg k8])
  by_cases hr : k = 2 ∨ k = 3 ∨ k = 4 ∨ k = 5 ∨ k = 6
  case neg =>
    have n2 : (k == 2) = false := by simp; omega
    have n3 : (k == 3) = false := by simp; omega
    have n4 : (k == 4) = false := by simp; omega
    have n5 : (k == 5) = false := by simp; omega
    have n6 : (k == 6) = false := by simp; omega
    have HR := Lib.hid (show feB k s v = false by
      rw [HE.out]
      cases gk : inB k 1 8
      · rfl
      · have := (by simpa only [inB, Bool.and_eq_true, decide_eq_true_eq] using gk : 1 ≤ k ∧ k ≤ 8)
        omega)
    clear k1 k7 k8 hr
    go_enter Tryd.func23, Tryd.ntmps23
    go_wp2_with (first | (go_at_call 33; (with_reducible refine (h0 _).mono ?_); rintro e w1 ⟨rfl, rfl⟩))
    go_ret
    first
      | exact ⟨by rw [HR.out] <;> rfl, (by repeat (first | exact Below.refl _ _ | refine below_step ?_ (by assumption) | assumption | refine Below.drew ?_ | refine below_drewN ?_ _ | refine below_alloc ?_ _ | refine Below.setCell ?_ (by simp; try omega) _))⟩
      | exact ⟨by rw [HR.out]; simp [*], (by repeat (first | exact Below.refl _ _ | refine below_step ?_ (by assumption) | assumption | refine Below.drew ?_ | refine below_drewN ?_ _ | refine below_alloc ?_ _ | refine Below.setCell ?_ (by simp; try omega) _))⟩
  clear k1 k7 k8 n1 n7 n8
  by_cases hv : v = 0
  · subst hv
    rcases hr with rfl | rfl | rfl | rfl | rfl
    · have HR := Lib.hid (show feB 2 s 0 = true by rw [HE.out]; rfl)
      go_enter Tryd.func23, Tryd.ntmps23
      go_wp2_with (first | (go_at_call 33; (with_reducible refine (h0 _).mono ?_); rintro e w1 ⟨rfl, rfl⟩))
      go_ret
      first
        | exact ⟨by rw [HR.out] <;> rfl, (by repeat (first | exact Below.refl _ _ | refine below_step ?_ (by assumption) | assumption | refine Below.drew ?_ | refine below_drewN ?_ _ | refine below_alloc ?_ _ | refine Below.setCell ?_ (by simp; try omega) _))⟩
        | exact ⟨by rw [HR.out]; simp [*], (by repeat (first | exact Below.refl _ _ | refine below_step ?_ (by assumption) | assumption | refine Below.drew ?_ | refine below_drewN ?_ _ | refine below_alloc ?_ _ | refine Below.setCell ?_ (by simp; try omega) _))⟩
    · have HR := Lib.hid (show feB 3 s 0 = true by rw [HE.out]; rfl)
      go_enter Tryd.func23, Tryd.ntmps23
      go_wp2_with (first | (go_at_call 33; (with_reducible refine (h0 _).mono ?_); rintro e w1 ⟨rfl, rfl⟩))
      go_ret
      first
        | exact ⟨by rw [HR.out] <;> rfl, (by repeat (first | exact Below.refl _ _ | refine below_step ?_ (by assumption) | assumption | refine Below.drew ?_ | refine below_drewN ?_ _ | refine below_alloc ?_ _ | refine Below.setCell ?_ (by simp; try omega) _))⟩
        | exact ⟨by rw [HR.out]; simp [*], (by repeat (first | exact Below.refl _ _ | refine below_step ?_ (by assumption) | assumption | refine Below.drew ?_ | refine below_drewN ?_ _ | refine below_alloc ?_ _ | refine Below.setCell ?_ (by simp; try omega) _))⟩
    · have HR := Lib.hid (show feB 4 s 0 = true by rw [HE.out]; rfl)
      go_enter Tryd.func23, Tryd.ntmps23
      go_wp2_with (first | (go_at_call 33; (with_reducible refine (h0 _).mono ?_); rintro e w1 ⟨rfl, rfl⟩))
      go_ret
      first
        | exact ⟨by rw [HR.out] <;> rfl, (by repeat (first | exact Below.refl _ _ | refine below_step ?_ (by assumption) | assumption | refine Below.drew ?_ | refine below_drewN ?_ _ | refine below_alloc ?_ _ | refine Below.setCell ?_ (by simp; try omega) _))⟩
        | exact ⟨by rw [HR.out]; simp [*], (by repeat (first | exact Below.refl _ _ | refine below_step ?_ (by assumption) | assumption | refine Below.drew ?_ | refine below_drewN ?_ _ | refine below_alloc ?_ _ | refine Below.setCell ?_ (by simp; try omega) _))⟩
    · have HR := Lib.hid (show feB 5 s 0 = true by rw [HE.out]; rfl)
      go_enter Tryd.func23, Tryd.ntmps23
      go_wp2_with (first | (go_at_call 33; (with_reducible refine (h0 _).mono ?_); rintro e w1 ⟨rfl, rfl⟩))
      go_ret
      first
        | exact ⟨by rw [HR.out] <;> rfl, (by repeat (first | exact Below.refl _ _ | refine below_step ?_ (by assumption) | assumption | refine Below.drew ?_ | refine below_drewN ?_ _ | refine below_alloc ?_ _ | refine Below.setCell ?_ (by simp; try omega) _))⟩
        | exact ⟨by rw [HR.out]; simp [*], (by repeat (first | exact Below.refl _ _ | refine below_step ?_ (by assumption) | assumption | refine Below.drew ?_ | refine below_drewN ?_ _ | refine below_alloc ?_ _ | refine Below.setCell ?_ (by simp; try omega) _))⟩
    · have HR := Lib.hid (show feB 6 s 0 = true by rw [HE.out]; rfl)
      go_enter Tryd.func23, Tryd.ntmps23
      go_wp2_with (first | (go_at_call 33; (with_reducible refine (h0 _).mono ?_); rintro e w1 ⟨rfl, rfl⟩))
      go_ret
      first
        | exact ⟨by rw [HR.out] <;> rfl, (by repeat (first | exact Below.refl _ _ | refine below_step ?_ (by assumption) | assumption | refine Below.drew ?_ | refine below_drewN ?_ _ | refine below_alloc ?_ _ | refine Below.setCell ?_ (by simp; try omega) _))⟩
        | exact ⟨by rw [HR.out]; simp [*], (by repeat (first | exact Below.refl _ _ | refine below_step ?_ (by assumption) | assumption | refine Below.drew ?_ | refine below_drewN ?_ _ | refine below_alloc ?_ _ | refine Below.setCell ?_ (by simp; try omega) _))⟩
  have nv : (v == 0) = false := by simp [hv]
  rcases hr with rfl | rfl | rfl | rfl | rfl
  · have HR := Lib.hid (show feB 2 s v = false by rw [HE.out, decide_eq_false hv, Bool.and_false])
    go_enter Tryd.func23, Tryd.ntmps23
    go_wp2_with (first | (go_at_call 33; (with_reducible refine (h0 _).mono ?_); rintro e w1 ⟨rfl, rfl⟩))
    go_ret
    first
      | exact ⟨by rw [HR.out] <;> rfl, (by repeat (first | exact Below.refl _ _ | refine below_step ?_ (by assumption) | assumption | refine Below.drew ?_ | refine below_drewN ?_ _ | refine below_alloc ?_ _ | refine Below.setCell ?_ (by simp; try omega) _))⟩
      | exact ⟨by rw [HR.out]; simp [*], (by repeat (first | exact Below.refl _ _ | refine below_step ?_ (by assumption) | assumption | refine Below.drew ?_ | refine below_drewN ?_ _ | refine below_alloc ?_ _ | refine Below.setCell ?_ (by simp; try omega) _))⟩
  · have HR := Lib.hid (show feB 3 s v = false by rw [HE.out, decide_eq_false hv, Bool.and_false])
    go_enter Tryd.func23, Tryd.ntmps23
    go_wp2_with (first | (go_at_call 33; (with_reducible refine (h0 _).mono ?_); rintro e w1 ⟨rfl, rfl⟩))
    go_ret
    first
      | exact ⟨by rw [HR.out] <;> rfl, (by repeat (first | exact Below.refl _ _ | refine below_step ?_ (by assumption) | assumption | refine Below.drew ?_ | refine below_drewN ?_ _ | refine below_alloc ?_ _ | refine Below.setCell ?_ (by simp; try omega) _))⟩
      | exact ⟨by rw [HR.out]; simp [*], (by repeat (first | exact Below.refl _ _ | refine below_step ?_ (by assumption) | assumption | refine Below.drew ?_ | refine below_drewN ?_ _ | refine below_alloc ?_ _ | refine Below.setCell ?_ (by simp; try omega) _))⟩
  · have HR := Lib.hid (show feB 4 s v = false by rw [HE.out, decide_eq_false hv, Bool.and_false])
    go_enter Tryd.func23, Tryd.ntmps23
    go_wp2_with (first | (go_at_call 33; (with_reducible refine (h0 _).mono ?_); rintro e w1 ⟨rfl, rfl⟩))
    go_ret
    first
      | exact ⟨by rw [HR.out] <;> rfl, (by repeat (first | exact Below.refl _ _ | refine below_step ?_ (by assumption) | assumption | refine Below.drew ?_ | refine below_drewN ?_ _ | refine below_alloc ?_ _ | refine Below.setCell ?_ (by simp; try omega) _))⟩
      | exact ⟨by rw [HR.out]; simp [*], (by repeat (first | exact Below.refl _ _ | refine below_step ?_ (by assumption) | assumption | refine Below.drew ?_ | refine below_drewN ?_ _ | refine below_alloc ?_ _ | refine Below.setCell ?_ (by simp; try omega) _))⟩
  · have HR := Lib.hid (show feB 5 s v = false by rw [HE.out, decide_eq_false hv, Bool.and_false])
    go_enter Tryd.func23, Tryd.ntmps23
    go_wp2_with (first | (go_at_call 33; (with_reducible refine (h0 _).mono ?_); rintro e w1 ⟨rfl, rfl⟩))
    go_ret
    first
      | exact ⟨by rw [HR.out] <;> rfl, (by repeat (first | exact Below.refl _ _ | refine below_step ?_ (by assumption) | assumption | refine Below.drew ?_ | refine below_drewN ?_ _ | refine below_alloc ?_ _ | refine Below.setCell ?_ (by simp; try omega) _))⟩
      | exact ⟨by rw [HR.out]; simp [*], (by repeat (first | exact Below.refl _ _ | refine below_step ?_ (by assumption) | assumption | refine Below.drew ?_ | refine below_drewN ?_ _ | refine below_alloc ?_ _ | refine Below.setCell ?_ (by simp; try omega) _))⟩
  · have HR := Lib.hid (show feB 6 s v = false by rw [HE.out, decide_eq_false hv, Bool.and_false])
    go_enter Tryd.func23, Tryd.ntmps23
    go_wp2_with (first | (go_at_call 33; (with_reducible refine (h0 _).mono ?_); rintro e w1 ⟨rfl, rfl⟩))
    go_ret
    first
      | exact ⟨by rw [HR.out] <;> rfl, (by repeat (first | exact Below.refl _ _ | refine below_step ?_ (by assumption) | assumption | refine Below.drew ?_ | refine below_drewN ?_ _ | refine below_alloc ?_ _ | refine Below.setCell ?_ (by simp; try omega) _))⟩
      | exact ⟨by rw [HR.out]; simp [*], (by repeat (first | exact Below.refl _ _ | refine below_step ?_ (by assumption) | assumption | refine Below.drew ?_ | refine below_drewN ?_ _ | refine below_alloc ?_ _ | refine Below.setCell ?_ (by simp; try omega) _))⟩

end Go.Proofs.YtjcghghhpmghhaaDoor
