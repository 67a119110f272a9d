/- Walks: valid found sectors (impl). -/
import Derived.Test.YticnmljahnnhcaaW150
namespace Go.Proofs.Yticnmljahnnhcaa
open Go.RowKit
set_option linter.unusedVariables false

set_option maxRecDepth 100000 in
set_option maxHeartbeats 8000000 in
set_option linter.unusedSimpArgs false in
theorem impl_ValidFound_any (a0 a1 a2 a3 : Int) (a4 : ByteArray) (a5 : Int) (a6 : Bool) (a7 : Int) (w : World) :
    Calls Try.prog 109 #[.agg #[.int .i64 a0, .int .i64 a1, .int .i64 a2, .int .i64 a3, .string a4, .int .i64 a5, .bool a6, .int .i64 a7]] w fun e w' => e = .returned (.bool (foB ⟨a0, a1, a2, a3, a4, a5, a6, a7⟩)) ∧ Below w.heap.size w w' := by
  have hd := BX.made w 159 [.int .i64 a0, .int .i64 a1, .int .i64 a2, .int .i64 a3, .string a4, .int .i64 a5, .bool a6, .int .i64 a7]
  have d0 : (_ : Option Value) = some (.int .i64 a0) := hd.cell 0 (by simp)
  have d1 : (_ : Option Value) = some (.int .i64 a1) := hd.cell 1 (by simp)
  have d2 : (_ : Option Value) = some (.int .i64 a2) := hd.cell 2 (by simp)
  have d3 : (_ : Option Value) = some (.int .i64 a3) := hd.cell 3 (by simp)
  have d4 : (_ : Option Value) = some (.string a4) := hd.cell 4 (by simp)
  have d5 : (_ : Option Value) = some (.int .i64 a5) := hd.cell 5 (by simp)
  have d6 : (_ : Option Value) = some (.bool a6) := hd.cell 6 (by simp)
  have d7 : (_ : Option Value) = some (.int .i64 a7) := hd.cell 7 (by simp)
  have h0 := fun W => isByte_any a0 W
  have h1 := fun W => isByte_any a1 W
  have h2 := fun W => isByte_any a2 W
  have h3 := fun W => isByte_any a3 W
  have h4 := fun W => within_any a7 0 7999 W
  cases g0 : inB a0 0 255
  · rw [g0] at h0
    have HR := Lib.hid (show foB ⟨a0, a1, a2, a3, a4, a5, a6, a7⟩ = false by simp only [foB, g0, Bool.false_and, Bool.and_false])
    go_enter Try.func109, Try.ntmps109
    go_wp2_with (first | (go_at_call 140; (with_reducible refine (h0 _).mono ?_); rintro e w1 ⟨rfl, rfl⟩))
    go_ret
    first
      | exact ⟨by rw [HR.out]; rfl, (by repeat (first | exact Below.refl _ _ | refine below_step ?_ (by assumption) | assumption | refine Below.drew ?_ | refine below_drewN ?_ _ | refine below_alloc ?_ _ | refine Below.setCell ?_ (by simp; try omega) _))⟩
      | exact ⟨by rw [HR.out]; simp [*], (by repeat (first | exact Below.refl _ _ | refine below_step ?_ (by assumption) | assumption | refine Below.drew ?_ | refine below_drewN ?_ _ | refine below_alloc ?_ _ | refine Below.setCell ?_ (by simp; try omega) _))⟩
  rw [g0] at h0
  cases g1 : inB a1 0 255
  · rw [g1] at h1
    have HR := Lib.hid (show foB ⟨a0, a1, a2, a3, a4, a5, a6, a7⟩ = false by simp only [foB, g0, g1, Bool.false_and, Bool.and_false])
    go_enter Try.func109, Try.ntmps109
    go_wp2_with (first | (go_at_call 140; (with_reducible refine (h0 _).mono ?_); rintro e w1 ⟨rfl, rfl⟩) | (go_at_call 140; (with_reducible refine (h1 _).mono ?_); rintro e w2 ⟨rfl, rfl⟩))
    go_ret
    first
      | exact ⟨by rw [HR.out]; rfl, (by repeat (first | exact Below.refl _ _ | refine below_step ?_ (by assumption) | assumption | refine Below.drew ?_ | refine below_drewN ?_ _ | refine below_alloc ?_ _ | refine Below.setCell ?_ (by simp; try omega) _))⟩
      | exact ⟨by rw [HR.out]; simp [*], (by repeat (first | exact Below.refl _ _ | refine below_step ?_ (by assumption) | assumption | refine Below.drew ?_ | refine below_drewN ?_ _ | refine below_alloc ?_ _ | refine Below.setCell ?_ (by simp; try omega) _))⟩
  rw [g1] at h1
  cases g2 : inB a2 0 255
  · rw [g2] at h2
    have HR := Lib.hid (show foB ⟨a0, a1, a2, a3, a4, a5, a6, a7⟩ = false by simp only [foB, g0, g1, g2, Bool.false_and, Bool.and_false])
    go_enter Try.func109, Try.ntmps109
    go_wp2_with (first | (go_at_call 140; (with_reducible refine (h0 _).mono ?_); rintro e w1 ⟨rfl, rfl⟩) | (go_at_call 140; (with_reducible refine (h1 _).mono ?_); rintro e w2 ⟨rfl, rfl⟩) | (go_at_call 140; (with_reducible refine (h2 _).mono ?_); rintro e w3 ⟨rfl, rfl⟩))
    go_ret
    first
      | exact ⟨by rw [HR.out]; rfl, (by repeat (first | exact Below.refl _ _ | refine below_step ?_ (by assumption) | assumption | refine Below.drew ?_ | refine below_drewN ?_ _ | refine below_alloc ?_ _ | refine Below.setCell ?_ (by simp; try omega) _))⟩
      | exact ⟨by rw [HR.out]; simp [*], (by repeat (first | exact Below.refl _ _ | refine below_step ?_ (by assumption) | assumption | refine Below.drew ?_ | refine below_drewN ?_ _ | refine below_alloc ?_ _ | refine Below.setCell ?_ (by simp; try omega) _))⟩
  rw [g2] at h2
  cases g3 : inB a3 0 255
  · rw [g3] at h3
    have HR := Lib.hid (show foB ⟨a0, a1, a2, a3, a4, a5, a6, a7⟩ = false by simp only [foB, g0, g1, g2, g3, Bool.false_and, Bool.and_false])
    go_enter Try.func109, Try.ntmps109
    go_wp2_with (first | (go_at_call 140; (with_reducible refine (h0 _).mono ?_); rintro e w1 ⟨rfl, rfl⟩) | (go_at_call 140; (with_reducible refine (h1 _).mono ?_); rintro e w2 ⟨rfl, rfl⟩) | (go_at_call 140; (with_reducible refine (h2 _).mono ?_); rintro e w3 ⟨rfl, rfl⟩) | (go_at_call 140; (with_reducible refine (h3 _).mono ?_); rintro e w4 ⟨rfl, rfl⟩))
    go_ret
    first
      | exact ⟨by rw [HR.out]; rfl, (by repeat (first | exact Below.refl _ _ | refine below_step ?_ (by assumption) | assumption | refine Below.drew ?_ | refine below_drewN ?_ _ | refine below_alloc ?_ _ | refine Below.setCell ?_ (by simp; try omega) _))⟩
      | exact ⟨by rw [HR.out]; simp [*], (by repeat (first | exact Below.refl _ _ | refine below_step ?_ (by assumption) | assumption | refine Below.drew ?_ | refine below_drewN ?_ _ | refine below_alloc ?_ _ | refine Below.setCell ?_ (by simp; try omega) _))⟩
  rw [g3] at h3
  cases g4 : inB a7 0 7999
  · rw [g4] at h4
    have HR := Lib.hid (show foB ⟨a0, a1, a2, a3, a4, a5, a6, a7⟩ = false by simp only [foB, g0, g1, g2, g3, g4, Bool.false_and, Bool.and_false])
    go_enter Try.func109, Try.ntmps109
    go_wp2_with (first | (go_at_call 140; (with_reducible refine (h0 _).mono ?_); rintro e w1 ⟨rfl, rfl⟩) | (go_at_call 140; (with_reducible refine (h1 _).mono ?_); rintro e w2 ⟨rfl, rfl⟩) | (go_at_call 140; (with_reducible refine (h2 _).mono ?_); rintro e w3 ⟨rfl, rfl⟩) | (go_at_call 140; (with_reducible refine (h3 _).mono ?_); rintro e w4 ⟨rfl, rfl⟩) | (go_at_call 64; (with_reducible refine (h4 _).mono ?_); rintro e w5 ⟨rfl, rfl⟩))
    go_ret
    first
      | exact ⟨by rw [HR.out]; rfl, (by repeat (first | exact Below.refl _ _ | refine below_step ?_ (by assumption) | assumption | refine Below.drew ?_ | refine below_drewN ?_ _ | refine below_alloc ?_ _ | refine Below.setCell ?_ (by simp; try omega) _))⟩
      | exact ⟨by rw [HR.out]; simp [*], (by repeat (first | exact Below.refl _ _ | refine below_step ?_ (by assumption) | assumption | refine Below.drew ?_ | refine below_drewN ?_ _ | refine below_alloc ?_ _ | refine Below.setCell ?_ (by simp; try omega) _))⟩
  rw [g4] at h4
  have HF := Lib.hid (show foB ⟨a0, a1, a2, a3, a4, a5, a6, a7⟩ = foS ⟨a0, a1, a2, a3, a4, a5, a6, a7⟩ by simp only [foB, g0, g1, g2, g3, g4, Bool.true_and])
  by_cases hst : a5 = 1 ∨ a5 = 2 ∨ a5 = 3 ∨ a5 = 4
  case neg =>
    have n1 : ¬ a5 = 1 := by omega
    have n2 : ¬ a5 = 2 := by omega
    have n3 : ¬ a5 = 3 := by omega
    have n4 : ¬ a5 = 4 := by omega
    have m1 : (a5 == 1) = false := by simp [n1]
    have m2 : (a5 == 2) = false := by simp [n2]
    have m3 : (a5 == 3) = false := by simp [n3]
    have m4 : (a5 == 4) = false := by simp [n4]
    have HR := Lib.hid (show foB ⟨a0, a1, a2, a3, a4, a5, a6, a7⟩ = false by rw [HF.out]; unfold foS; rw [if_neg (by simp [n1, n3]), if_neg n4, if_neg n2])
    clear n1 n2 n3 n4
    go_enter Try.func109, Try.ntmps109
    go_wp2_with (first | (go_at_call 140; (with_reducible refine (h0 _).mono ?_); rintro e w1 ⟨rfl, rfl⟩) | (go_at_call 140; (with_reducible refine (h1 _).mono ?_); rintro e w2 ⟨rfl, rfl⟩) | (go_at_call 140; (with_reducible refine (h2 _).mono ?_); rintro e w3 ⟨rfl, rfl⟩) | (go_at_call 140; (with_reducible refine (h3 _).mono ?_); rintro e w4 ⟨rfl, rfl⟩) | (go_at_call 64; (with_reducible refine (h4 _).mono ?_); rintro e w5 ⟨rfl, rfl⟩))
    go_ret
    first
      | exact ⟨by rw [HR.out]; rfl, (by repeat (first | exact Below.refl _ _ | refine below_step ?_ (by assumption) | assumption | refine Below.drew ?_ | refine below_drewN ?_ _ | refine below_alloc ?_ _ | refine Below.setCell ?_ (by simp; try omega) _))⟩
      | exact ⟨by rw [HR.out]; simp [*], (by repeat (first | exact Below.refl _ _ | refine below_step ?_ (by assumption) | assumption | refine Below.drew ?_ | refine below_drewN ?_ _ | refine below_alloc ?_ _ | refine Below.setCell ?_ (by simp; try omega) _))⟩
  obtain ⟨z0, z1⟩ := inB_yes g3
  clear g0 g1 g2 g3 g4
  rcases hst with rfl | rfl | rfl | rfl
  · skip
    by_cases hz : a3 ≤ 2
    case neg =>
      have hz2 : decide (a3 ≤ 2) = false := decide_eq_false hz
      have HR := Lib.hid (show foB ⟨a0, a1, a2, a3, a4, 1, a6, a7⟩ = false by rw [HF.out]; unfold foS; rw [if_pos (by simp)]; show (decide (a3 ≤ 2) && _) = false; rw [hz2]; rfl)
      go_enter Try.func109, Try.ntmps109
      go_wp2_with (first | (go_at_call 140; (with_reducible refine (h0 _).mono ?_); rintro e w1 ⟨rfl, rfl⟩) | (go_at_call 140; (with_reducible refine (h1 _).mono ?_); rintro e w2 ⟨rfl, rfl⟩) | (go_at_call 140; (with_reducible refine (h2 _).mono ?_); rintro e w3 ⟨rfl, rfl⟩) | (go_at_call 140; (with_reducible refine (h3 _).mono ?_); rintro e w4 ⟨rfl, rfl⟩) | (go_at_call 64; (with_reducible refine (h4 _).mono ?_); rintro e w5 ⟨rfl, rfl⟩))
      go_quiet (fail)
      go_wp2
      go_ret
      first
        | exact ⟨by rw [HR.out]; rfl, (by repeat (first | exact Below.refl _ _ | refine below_step ?_ (by assumption) | assumption | refine Below.drew ?_ | refine below_drewN ?_ _ | refine below_alloc ?_ _ | refine Below.setCell ?_ (by simp; try omega) _))⟩
        | exact ⟨by rw [HR.out]; simp [*], (by repeat (first | exact Below.refl _ _ | refine below_step ?_ (by assumption) | assumption | refine Below.drew ?_ | refine below_drewN ?_ _ | refine below_alloc ?_ _ | refine Below.setCell ?_ (by simp; try omega) _))⟩
    have h012 : a3 = 0 ∨ a3 = 1 ∨ a3 = 2 := by omega
    clear hz z0 z1
    rcases h012 with rfl | rfl | rfl
    · skip
      have hby := fun W => sizeBytes_any 0 (by decide) (by decide) W
      rw [show szB 0 = 8 from rfl] at hby
      by_cases hsz : a4.size = 8
      · skip
        have hszi : (a4.size : Int) = 8 := by omega
        have hszb : ((a4.size : Int) == 8) = true := by simp [hszi]
        have hszd : decide ((a4.size : Int) = 8) = true := by simp [hszi]
        have HR := Lib.hid (show foB ⟨a0, a1, a2, 0, a4, 1, a6, a7⟩ = true by rw [HF.out]; unfold foS; rw [if_pos (by simp)]; show (decide ((0 : Int) ≤ 2) && decide ((a4.size : Int) = szB 0)) = _; rw [show szB 0 = 8 from rfl, hszd]; rfl)
        clear hszi hsz hszd
        go_enter Try.func109, Try.ntmps109
        go_wp2_with (first | (go_at_call 140; (with_reducible refine (h0 _).mono ?_); rintro e w1 ⟨rfl, rfl⟩) | (go_at_call 140; (with_reducible refine (h1 _).mono ?_); rintro e w2 ⟨rfl, rfl⟩) | (go_at_call 140; (with_reducible refine (h2 _).mono ?_); rintro e w3 ⟨rfl, rfl⟩) | (go_at_call 140; (with_reducible refine (h3 _).mono ?_); rintro e w4 ⟨rfl, rfl⟩) | (go_at_call 64; (with_reducible refine (h4 _).mono ?_); rintro e w5 ⟨rfl, rfl⟩))
        go_quiet ((go_at_call 80; exact quiet_left (hby _)))
        go_wp2
        go_ret
        first
          | exact ⟨by rw [HR.out]; rfl, (by repeat (first | exact Below.refl _ _ | refine below_step ?_ (by assumption) | assumption | refine Below.drew ?_ | refine below_drewN ?_ _ | refine below_alloc ?_ _ | refine Below.setCell ?_ (by simp; try omega) _))⟩
          | exact ⟨by rw [HR.out]; simp [*], (by repeat (first | exact Below.refl _ _ | refine below_step ?_ (by assumption) | assumption | refine Below.drew ?_ | refine below_drewN ?_ _ | refine below_alloc ?_ _ | refine Below.setCell ?_ (by simp; try omega) _))⟩
      · skip
        have hszi : ¬ (a4.size : Int) = 8 := by omega
        have hszb : ((a4.size : Int) == 8) = false := by simp [hszi]
        have hszd : decide ((a4.size : Int) = 8) = false := by simp [hszi]
        have HR := Lib.hid (show foB ⟨a0, a1, a2, 0, a4, 1, a6, a7⟩ = false by rw [HF.out]; unfold foS; rw [if_pos (by simp)]; show (decide ((0 : Int) ≤ 2) && decide ((a4.size : Int) = szB 0)) = _; rw [show szB 0 = 8 from rfl, hszd]; rfl)
        clear hszi hsz hszd
        go_enter Try.func109, Try.ntmps109
        go_wp2_with (first | (go_at_call 140; (with_reducible refine (h0 _).mono ?_); rintro e w1 ⟨rfl, rfl⟩) | (go_at_call 140; (with_reducible refine (h1 _).mono ?_); rintro e w2 ⟨rfl, rfl⟩) | (go_at_call 140; (with_reducible refine (h2 _).mono ?_); rintro e w3 ⟨rfl, rfl⟩) | (go_at_call 140; (with_reducible refine (h3 _).mono ?_); rintro e w4 ⟨rfl, rfl⟩) | (go_at_call 64; (with_reducible refine (h4 _).mono ?_); rintro e w5 ⟨rfl, rfl⟩))
        go_quiet ((go_at_call 80; exact quiet_left (hby _)))
        go_wp2
        go_ret
        first
          | exact ⟨by rw [HR.out]; rfl, (by repeat (first | exact Below.refl _ _ | refine below_step ?_ (by assumption) | assumption | refine Below.drew ?_ | refine below_drewN ?_ _ | refine below_alloc ?_ _ | refine Below.setCell ?_ (by simp; try omega) _))⟩
          | exact ⟨by rw [HR.out]; simp [*], (by repeat (first | exact Below.refl _ _ | refine below_step ?_ (by assumption) | assumption | refine Below.drew ?_ | refine below_drewN ?_ _ | refine below_alloc ?_ _ | refine Below.setCell ?_ (by simp; try omega) _))⟩
    · skip
      have hby := fun W => sizeBytes_any 1 (by decide) (by decide) W
      rw [show szB 1 = 16 from rfl] at hby
      by_cases hsz : a4.size = 16
      · skip
        have hszi : (a4.size : Int) = 16 := by omega
        have hszb : ((a4.size : Int) == 16) = true := by simp [hszi]
        have hszd : decide ((a4.size : Int) = 16) = true := by simp [hszi]
        have HR := Lib.hid (show foB ⟨a0, a1, a2, 1, a4, 1, a6, a7⟩ = true by rw [HF.out]; unfold foS; rw [if_pos (by simp)]; show (decide ((1 : Int) ≤ 2) && decide ((a4.size : Int) = szB 1)) = _; rw [show szB 1 = 16 from rfl, hszd]; rfl)
        clear hszi hsz hszd
        go_enter Try.func109, Try.ntmps109
        go_wp2_with (first | (go_at_call 140; (with_reducible refine (h0 _).mono ?_); rintro e w1 ⟨rfl, rfl⟩) | (go_at_call 140; (with_reducible refine (h1 _).mono ?_); rintro e w2 ⟨rfl, rfl⟩) | (go_at_call 140; (with_reducible refine (h2 _).mono ?_); rintro e w3 ⟨rfl, rfl⟩) | (go_at_call 140; (with_reducible refine (h3 _).mono ?_); rintro e w4 ⟨rfl, rfl⟩) | (go_at_call 64; (with_reducible refine (h4 _).mono ?_); rintro e w5 ⟨rfl, rfl⟩))
        go_quiet ((go_at_call 80; exact quiet_left (hby _)))
        go_wp2
        go_ret
        first
          | exact ⟨by rw [HR.out]; rfl, (by repeat (first | exact Below.refl _ _ | refine below_step ?_ (by assumption) | assumption | refine Below.drew ?_ | refine below_drewN ?_ _ | refine below_alloc ?_ _ | refine Below.setCell ?_ (by simp; try omega) _))⟩
          | exact ⟨by rw [HR.out]; simp [*], (by repeat (first | exact Below.refl _ _ | refine below_step ?_ (by assumption) | assumption | refine Below.drew ?_ | refine below_drewN ?_ _ | refine below_alloc ?_ _ | refine Below.setCell ?_ (by simp; try omega) _))⟩
      · skip
        have hszi : ¬ (a4.size : Int) = 16 := by omega
        have hszb : ((a4.size : Int) == 16) = false := by simp [hszi]
        have hszd : decide ((a4.size : Int) = 16) = false := by simp [hszi]
        have HR := Lib.hid (show foB ⟨a0, a1, a2, 1, a4, 1, a6, a7⟩ = false by rw [HF.out]; unfold foS; rw [if_pos (by simp)]; show (decide ((1 : Int) ≤ 2) && decide ((a4.size : Int) = szB 1)) = _; rw [show szB 1 = 16 from rfl, hszd]; rfl)
        clear hszi hsz hszd
        go_enter Try.func109, Try.ntmps109
        go_wp2_with (first | (go_at_call 140; (with_reducible refine (h0 _).mono ?_); rintro e w1 ⟨rfl, rfl⟩) | (go_at_call 140; (with_reducible refine (h1 _).mono ?_); rintro e w2 ⟨rfl, rfl⟩) | (go_at_call 140; (with_reducible refine (h2 _).mono ?_); rintro e w3 ⟨rfl, rfl⟩) | (go_at_call 140; (with_reducible refine (h3 _).mono ?_); rintro e w4 ⟨rfl, rfl⟩) | (go_at_call 64; (with_reducible refine (h4 _).mono ?_); rintro e w5 ⟨rfl, rfl⟩))
        go_quiet ((go_at_call 80; exact quiet_left (hby _)))
        go_wp2
        go_ret
        first
          | exact ⟨by rw [HR.out]; rfl, (by repeat (first | exact Below.refl _ _ | refine below_step ?_ (by assumption) | assumption | refine Below.drew ?_ | refine below_drewN ?_ _ | refine below_alloc ?_ _ | refine Below.setCell ?_ (by simp; try omega) _))⟩
          | exact ⟨by rw [HR.out]; simp [*], (by repeat (first | exact Below.refl _ _ | refine below_step ?_ (by assumption) | assumption | refine Below.drew ?_ | refine below_drewN ?_ _ | refine below_alloc ?_ _ | refine Below.setCell ?_ (by simp; try omega) _))⟩
    · skip
      have hby := fun W => sizeBytes_any 2 (by decide) (by decide) W
      rw [show szB 2 = 32 from rfl] at hby
      by_cases hsz : a4.size = 32
      · skip
        have hszi : (a4.size : Int) = 32 := by omega
        have hszb : ((a4.size : Int) == 32) = true := by simp [hszi]
        have hszd : decide ((a4.size : Int) = 32) = true := by simp [hszi]
        have HR := Lib.hid (show foB ⟨a0, a1, a2, 2, a4, 1, a6, a7⟩ = true by rw [HF.out]; unfold foS; rw [if_pos (by simp)]; show (decide ((2 : Int) ≤ 2) && decide ((a4.size : Int) = szB 2)) = _; rw [show szB 2 = 32 from rfl, hszd]; rfl)
        clear hszi hsz hszd
        go_enter Try.func109, Try.ntmps109
        go_wp2_with (first | (go_at_call 140; (with_reducible refine (h0 _).mono ?_); rintro e w1 ⟨rfl, rfl⟩) | (go_at_call 140; (with_reducible refine (h1 _).mono ?_); rintro e w2 ⟨rfl, rfl⟩) | (go_at_call 140; (with_reducible refine (h2 _).mono ?_); rintro e w3 ⟨rfl, rfl⟩) | (go_at_call 140; (with_reducible refine (h3 _).mono ?_); rintro e w4 ⟨rfl, rfl⟩) | (go_at_call 64; (with_reducible refine (h4 _).mono ?_); rintro e w5 ⟨rfl, rfl⟩))
        go_quiet ((go_at_call 80; exact quiet_left (hby _)))
        go_wp2
        go_ret
        first
          | exact ⟨by rw [HR.out]; rfl, (by repeat (first | exact Below.refl _ _ | refine below_step ?_ (by assumption) | assumption | refine Below.drew ?_ | refine below_drewN ?_ _ | refine below_alloc ?_ _ | refine Below.setCell ?_ (by simp; try omega) _))⟩
          | exact ⟨by rw [HR.out]; simp [*], (by repeat (first | exact Below.refl _ _ | refine below_step ?_ (by assumption) | assumption | refine Below.drew ?_ | refine below_drewN ?_ _ | refine below_alloc ?_ _ | refine Below.setCell ?_ (by simp; try omega) _))⟩
      · skip
        have hszi : ¬ (a4.size : Int) = 32 := by omega
        have hszb : ((a4.size : Int) == 32) = false := by simp [hszi]
        have hszd : decide ((a4.size : Int) = 32) = false := by simp [hszi]
        have HR := Lib.hid (show foB ⟨a0, a1, a2, 2, a4, 1, a6, a7⟩ = false by rw [HF.out]; unfold foS; rw [if_pos (by simp)]; show (decide ((2 : Int) ≤ 2) && decide ((a4.size : Int) = szB 2)) = _; rw [show szB 2 = 32 from rfl, hszd]; rfl)
        clear hszi hsz hszd
        go_enter Try.func109, Try.ntmps109
        go_wp2_with (first | (go_at_call 140; (with_reducible refine (h0 _).mono ?_); rintro e w1 ⟨rfl, rfl⟩) | (go_at_call 140; (with_reducible refine (h1 _).mono ?_); rintro e w2 ⟨rfl, rfl⟩) | (go_at_call 140; (with_reducible refine (h2 _).mono ?_); rintro e w3 ⟨rfl, rfl⟩) | (go_at_call 140; (with_reducible refine (h3 _).mono ?_); rintro e w4 ⟨rfl, rfl⟩) | (go_at_call 64; (with_reducible refine (h4 _).mono ?_); rintro e w5 ⟨rfl, rfl⟩))
        go_quiet ((go_at_call 80; exact quiet_left (hby _)))
        go_wp2
        go_ret
        first
          | exact ⟨by rw [HR.out]; rfl, (by repeat (first | exact Below.refl _ _ | refine below_step ?_ (by assumption) | assumption | refine Below.drew ?_ | refine below_drewN ?_ _ | refine below_alloc ?_ _ | refine Below.setCell ?_ (by simp; try omega) _))⟩
          | exact ⟨by rw [HR.out]; simp [*], (by repeat (first | exact Below.refl _ _ | refine below_step ?_ (by assumption) | assumption | refine Below.drew ?_ | refine below_drewN ?_ _ | refine below_alloc ?_ _ | refine Below.setCell ?_ (by simp; try omega) _))⟩
  · skip
    cases em : (a4.toList == [])
    · have HR := Lib.hid (show foB ⟨a0, a1, a2, a3, a4, 2, a6, a7⟩ = false by rw [HF.out]; unfold foS; rw [if_neg (by simp), if_neg (by simp), if_pos rfl]; show ((a4.toList == []) && !a6) = _; rw [em, Bool.false_and])
      go_enter Try.func109, Try.ntmps109
      go_wp2_with (first | (go_at_call 140; (with_reducible refine (h0 _).mono ?_); rintro e w1 ⟨rfl, rfl⟩) | (go_at_call 140; (with_reducible refine (h1 _).mono ?_); rintro e w2 ⟨rfl, rfl⟩) | (go_at_call 140; (with_reducible refine (h2 _).mono ?_); rintro e w3 ⟨rfl, rfl⟩) | (go_at_call 140; (with_reducible refine (h3 _).mono ?_); rintro e w4 ⟨rfl, rfl⟩) | (go_at_call 64; (with_reducible refine (h4 _).mono ?_); rintro e w5 ⟨rfl, rfl⟩))
      go_ret
      first
        | exact ⟨by rw [HR.out]; rfl, (by repeat (first | exact Below.refl _ _ | refine below_step ?_ (by assumption) | assumption | refine Below.drew ?_ | refine below_drewN ?_ _ | refine below_alloc ?_ _ | refine Below.setCell ?_ (by simp; try omega) _))⟩
        | exact ⟨by rw [HR.out]; simp [*], (by repeat (first | exact Below.refl _ _ | refine below_step ?_ (by assumption) | assumption | refine Below.drew ?_ | refine below_drewN ?_ _ | refine below_alloc ?_ _ | refine Below.setCell ?_ (by simp; try omega) _))⟩
    cases a6
    · have HR := Lib.hid (show foB ⟨a0, a1, a2, a3, a4, 2, false, a7⟩ = true by rw [HF.out]; unfold foS; rw [if_neg (by simp), if_neg (by simp), if_pos rfl]; show ((a4.toList == []) && !false) = _; rw [em]; rfl)
      go_enter Try.func109, Try.ntmps109
      go_wp2_with (first | (go_at_call 140; (with_reducible refine (h0 _).mono ?_); rintro e w1 ⟨rfl, rfl⟩) | (go_at_call 140; (with_reducible refine (h1 _).mono ?_); rintro e w2 ⟨rfl, rfl⟩) | (go_at_call 140; (with_reducible refine (h2 _).mono ?_); rintro e w3 ⟨rfl, rfl⟩) | (go_at_call 140; (with_reducible refine (h3 _).mono ?_); rintro e w4 ⟨rfl, rfl⟩) | (go_at_call 64; (with_reducible refine (h4 _).mono ?_); rintro e w5 ⟨rfl, rfl⟩))
      go_ret
      first
        | exact ⟨by rw [HR.out]; rfl, (by repeat (first | exact Below.refl _ _ | refine below_step ?_ (by assumption) | assumption | refine Below.drew ?_ | refine below_drewN ?_ _ | refine below_alloc ?_ _ | refine Below.setCell ?_ (by simp; try omega) _))⟩
        | exact ⟨by rw [HR.out]; simp [*], (by repeat (first | exact Below.refl _ _ | refine below_step ?_ (by assumption) | assumption | refine Below.drew ?_ | refine below_drewN ?_ _ | refine below_alloc ?_ _ | refine Below.setCell ?_ (by simp; try omega) _))⟩
    · have HR := Lib.hid (show foB ⟨a0, a1, a2, a3, a4, 2, true, a7⟩ = false by rw [HF.out]; unfold foS; rw [if_neg (by simp), if_neg (by simp), if_pos rfl]; show ((a4.toList == []) && !true) = _; rw [em]; rfl)
      go_enter Try.func109, Try.ntmps109
      go_wp2_with (first | (go_at_call 140; (with_reducible refine (h0 _).mono ?_); rintro e w1 ⟨rfl, rfl⟩) | (go_at_call 140; (with_reducible refine (h1 _).mono ?_); rintro e w2 ⟨rfl, rfl⟩) | (go_at_call 140; (with_reducible refine (h2 _).mono ?_); rintro e w3 ⟨rfl, rfl⟩) | (go_at_call 140; (with_reducible refine (h3 _).mono ?_); rintro e w4 ⟨rfl, rfl⟩) | (go_at_call 64; (with_reducible refine (h4 _).mono ?_); rintro e w5 ⟨rfl, rfl⟩))
      go_ret
      first
        | exact ⟨by rw [HR.out]; rfl, (by repeat (first | exact Below.refl _ _ | refine below_step ?_ (by assumption) | assumption | refine Below.drew ?_ | refine below_drewN ?_ _ | refine below_alloc ?_ _ | refine Below.setCell ?_ (by simp; try omega) _))⟩
        | exact ⟨by rw [HR.out]; simp [*], (by repeat (first | exact Below.refl _ _ | refine below_step ?_ (by assumption) | assumption | refine Below.drew ?_ | refine below_drewN ?_ _ | refine below_alloc ?_ _ | refine Below.setCell ?_ (by simp; try omega) _))⟩
  · skip
    by_cases hz : a3 ≤ 2
    case neg =>
      have hz2 : decide (a3 ≤ 2) = false := decide_eq_false hz
      have HR := Lib.hid (show foB ⟨a0, a1, a2, a3, a4, 3, a6, a7⟩ = false by rw [HF.out]; unfold foS; rw [if_pos (by simp)]; show (decide (a3 ≤ 2) && _) = false; rw [hz2]; rfl)
      go_enter Try.func109, Try.ntmps109
      go_wp2_with (first | (go_at_call 140; (with_reducible refine (h0 _).mono ?_); rintro e w1 ⟨rfl, rfl⟩) | (go_at_call 140; (with_reducible refine (h1 _).mono ?_); rintro e w2 ⟨rfl, rfl⟩) | (go_at_call 140; (with_reducible refine (h2 _).mono ?_); rintro e w3 ⟨rfl, rfl⟩) | (go_at_call 140; (with_reducible refine (h3 _).mono ?_); rintro e w4 ⟨rfl, rfl⟩) | (go_at_call 64; (with_reducible refine (h4 _).mono ?_); rintro e w5 ⟨rfl, rfl⟩))
      go_quiet (fail)
      go_wp2
      go_ret
      first
        | exact ⟨by rw [HR.out]; rfl, (by repeat (first | exact Below.refl _ _ | refine below_step ?_ (by assumption) | assumption | refine Below.drew ?_ | refine below_drewN ?_ _ | refine below_alloc ?_ _ | refine Below.setCell ?_ (by simp; try omega) _))⟩
        | exact ⟨by rw [HR.out]; simp [*], (by repeat (first | exact Below.refl _ _ | refine below_step ?_ (by assumption) | assumption | refine Below.drew ?_ | refine below_drewN ?_ _ | refine below_alloc ?_ _ | refine Below.setCell ?_ (by simp; try omega) _))⟩
    have h012 : a3 = 0 ∨ a3 = 1 ∨ a3 = 2 := by omega
    clear hz z0 z1
    rcases h012 with rfl | rfl | rfl
    · skip
      have hby := fun W => sizeBytes_any 0 (by decide) (by decide) W
      rw [show szB 0 = 8 from rfl] at hby
      by_cases hsz : a4.size = 8
      · skip
        have hszi : (a4.size : Int) = 8 := by omega
        have hszb : ((a4.size : Int) == 8) = true := by simp [hszi]
        have hszd : decide ((a4.size : Int) = 8) = true := by simp [hszi]
        have HR := Lib.hid (show foB ⟨a0, a1, a2, 0, a4, 3, a6, a7⟩ = true by rw [HF.out]; unfold foS; rw [if_pos (by simp)]; show (decide ((0 : Int) ≤ 2) && decide ((a4.size : Int) = szB 0)) = _; rw [show szB 0 = 8 from rfl, hszd]; rfl)
        clear hszi hsz hszd
        go_enter Try.func109, Try.ntmps109
        go_wp2_with (first | (go_at_call 140; (with_reducible refine (h0 _).mono ?_); rintro e w1 ⟨rfl, rfl⟩) | (go_at_call 140; (with_reducible refine (h1 _).mono ?_); rintro e w2 ⟨rfl, rfl⟩) | (go_at_call 140; (with_reducible refine (h2 _).mono ?_); rintro e w3 ⟨rfl, rfl⟩) | (go_at_call 140; (with_reducible refine (h3 _).mono ?_); rintro e w4 ⟨rfl, rfl⟩) | (go_at_call 64; (with_reducible refine (h4 _).mono ?_); rintro e w5 ⟨rfl, rfl⟩))
        go_quiet ((go_at_call 80; exact quiet_left (hby _)))
        go_wp2
        go_ret
        first
          | exact ⟨by rw [HR.out]; rfl, (by repeat (first | exact Below.refl _ _ | refine below_step ?_ (by assumption) | assumption | refine Below.drew ?_ | refine below_drewN ?_ _ | refine below_alloc ?_ _ | refine Below.setCell ?_ (by simp; try omega) _))⟩
          | exact ⟨by rw [HR.out]; simp [*], (by repeat (first | exact Below.refl _ _ | refine below_step ?_ (by assumption) | assumption | refine Below.drew ?_ | refine below_drewN ?_ _ | refine below_alloc ?_ _ | refine Below.setCell ?_ (by simp; try omega) _))⟩
      · skip
        have hszi : ¬ (a4.size : Int) = 8 := by omega
        have hszb : ((a4.size : Int) == 8) = false := by simp [hszi]
        have hszd : decide ((a4.size : Int) = 8) = false := by simp [hszi]
        have HR := Lib.hid (show foB ⟨a0, a1, a2, 0, a4, 3, a6, a7⟩ = false by rw [HF.out]; unfold foS; rw [if_pos (by simp)]; show (decide ((0 : Int) ≤ 2) && decide ((a4.size : Int) = szB 0)) = _; rw [show szB 0 = 8 from rfl, hszd]; rfl)
        clear hszi hsz hszd
        go_enter Try.func109, Try.ntmps109
        go_wp2_with (first | (go_at_call 140; (with_reducible refine (h0 _).mono ?_); rintro e w1 ⟨rfl, rfl⟩) | (go_at_call 140; (with_reducible refine (h1 _).mono ?_); rintro e w2 ⟨rfl, rfl⟩) | (go_at_call 140; (with_reducible refine (h2 _).mono ?_); rintro e w3 ⟨rfl, rfl⟩) | (go_at_call 140; (with_reducible refine (h3 _).mono ?_); rintro e w4 ⟨rfl, rfl⟩) | (go_at_call 64; (with_reducible refine (h4 _).mono ?_); rintro e w5 ⟨rfl, rfl⟩))
        go_quiet ((go_at_call 80; exact quiet_left (hby _)))
        go_wp2
        go_ret
        first
          | exact ⟨by rw [HR.out]; rfl, (by repeat (first | exact Below.refl _ _ | refine below_step ?_ (by assumption) | assumption | refine Below.drew ?_ | refine below_drewN ?_ _ | refine below_alloc ?_ _ | refine Below.setCell ?_ (by simp; try omega) _))⟩
          | exact ⟨by rw [HR.out]; simp [*], (by repeat (first | exact Below.refl _ _ | refine below_step ?_ (by assumption) | assumption | refine Below.drew ?_ | refine below_drewN ?_ _ | refine below_alloc ?_ _ | refine Below.setCell ?_ (by simp; try omega) _))⟩
    · skip
      have hby := fun W => sizeBytes_any 1 (by decide) (by decide) W
      rw [show szB 1 = 16 from rfl] at hby
      by_cases hsz : a4.size = 16
      · skip
        have hszi : (a4.size : Int) = 16 := by omega
        have hszb : ((a4.size : Int) == 16) = true := by simp [hszi]
        have hszd : decide ((a4.size : Int) = 16) = true := by simp [hszi]
        have HR := Lib.hid (show foB ⟨a0, a1, a2, 1, a4, 3, a6, a7⟩ = true by rw [HF.out]; unfold foS; rw [if_pos (by simp)]; show (decide ((1 : Int) ≤ 2) && decide ((a4.size : Int) = szB 1)) = _; rw [show szB 1 = 16 from rfl, hszd]; rfl)
        clear hszi hsz hszd
        go_enter Try.func109, Try.ntmps109
        go_wp2_with (first | (go_at_call 140; (with_reducible refine (h0 _).mono ?_); rintro e w1 ⟨rfl, rfl⟩) | (go_at_call 140; (with_reducible refine (h1 _).mono ?_); rintro e w2 ⟨rfl, rfl⟩) | (go_at_call 140; (with_reducible refine (h2 _).mono ?_); rintro e w3 ⟨rfl, rfl⟩) | (go_at_call 140; (with_reducible refine (h3 _).mono ?_); rintro e w4 ⟨rfl, rfl⟩) | (go_at_call 64; (with_reducible refine (h4 _).mono ?_); rintro e w5 ⟨rfl, rfl⟩))
        go_quiet ((go_at_call 80; exact quiet_left (hby _)))
        go_wp2
        go_ret
        first
          | exact ⟨by rw [HR.out]; rfl, (by repeat (first | exact Below.refl _ _ | refine below_step ?_ (by assumption) | assumption | refine Below.drew ?_ | refine below_drewN ?_ _ | refine below_alloc ?_ _ | refine Below.setCell ?_ (by simp; try omega) _))⟩
          | exact ⟨by rw [HR.out]; simp [*], (by repeat (first | exact Below.refl _ _ | refine below_step ?_ (by assumption) | assumption | refine Below.drew ?_ | refine below_drewN ?_ _ | refine below_alloc ?_ _ | refine Below.setCell ?_ (by simp; try omega) _))⟩
      · skip
        have hszi : ¬ (a4.size : Int) = 16 := by omega
        have hszb : ((a4.size : Int) == 16) = false := by simp [hszi]
        have hszd : decide ((a4.size : Int) = 16) = false := by simp [hszi]
        have HR := Lib.hid (show foB ⟨a0, a1, a2, 1, a4, 3, a6, a7⟩ = false by rw [HF.out]; unfold foS; rw [if_pos (by simp)]; show (decide ((1 : Int) ≤ 2) && decide ((a4.size : Int) = szB 1)) = _; rw [show szB 1 = 16 from rfl, hszd]; rfl)
        clear hszi hsz hszd
        go_enter Try.func109, Try.ntmps109
        go_wp2_with (first | (go_at_call 140; (with_reducible refine (h0 _).mono ?_); rintro e w1 ⟨rfl, rfl⟩) | (go_at_call 140; (with_reducible refine (h1 _).mono ?_); rintro e w2 ⟨rfl, rfl⟩) | (go_at_call 140; (with_reducible refine (h2 _).mono ?_); rintro e w3 ⟨rfl, rfl⟩) | (go_at_call 140; (with_reducible refine (h3 _).mono ?_); rintro e w4 ⟨rfl, rfl⟩) | (go_at_call 64; (with_reducible refine (h4 _).mono ?_); rintro e w5 ⟨rfl, rfl⟩))
        go_quiet ((go_at_call 80; exact quiet_left (hby _)))
        go_wp2
        go_ret
        first
          | exact ⟨by rw [HR.out]; rfl, (by repeat (first | exact Below.refl _ _ | refine below_step ?_ (by assumption) | assumption | refine Below.drew ?_ | refine below_drewN ?_ _ | refine below_alloc ?_ _ | refine Below.setCell ?_ (by simp; try omega) _))⟩
          | exact ⟨by rw [HR.out]; simp [*], (by repeat (first | exact Below.refl _ _ | refine below_step ?_ (by assumption) | assumption | refine Below.drew ?_ | refine below_drewN ?_ _ | refine below_alloc ?_ _ | refine Below.setCell ?_ (by simp; try omega) _))⟩
    · skip
      have hby := fun W => sizeBytes_any 2 (by decide) (by decide) W
      rw [show szB 2 = 32 from rfl] at hby
      by_cases hsz : a4.size = 32
      · skip
        have hszi : (a4.size : Int) = 32 := by omega
        have hszb : ((a4.size : Int) == 32) = true := by simp [hszi]
        have hszd : decide ((a4.size : Int) = 32) = true := by simp [hszi]
        have HR := Lib.hid (show foB ⟨a0, a1, a2, 2, a4, 3, a6, a7⟩ = true by rw [HF.out]; unfold foS; rw [if_pos (by simp)]; show (decide ((2 : Int) ≤ 2) && decide ((a4.size : Int) = szB 2)) = _; rw [show szB 2 = 32 from rfl, hszd]; rfl)
        clear hszi hsz hszd
        go_enter Try.func109, Try.ntmps109
        go_wp2_with (first | (go_at_call 140; (with_reducible refine (h0 _).mono ?_); rintro e w1 ⟨rfl, rfl⟩) | (go_at_call 140; (with_reducible refine (h1 _).mono ?_); rintro e w2 ⟨rfl, rfl⟩) | (go_at_call 140; (with_reducible refine (h2 _).mono ?_); rintro e w3 ⟨rfl, rfl⟩) | (go_at_call 140; (with_reducible refine (h3 _).mono ?_); rintro e w4 ⟨rfl, rfl⟩) | (go_at_call 64; (with_reducible refine (h4 _).mono ?_); rintro e w5 ⟨rfl, rfl⟩))
        go_quiet ((go_at_call 80; exact quiet_left (hby _)))
        go_wp2
        go_ret
        first
          | exact ⟨by rw [HR.out]; rfl, (by repeat (first | exact Below.refl _ _ | refine below_step ?_ (by assumption) | assumption | refine Below.drew ?_ | refine below_drewN ?_ _ | refine below_alloc ?_ _ | refine Below.setCell ?_ (by simp; try omega) _))⟩
          | exact ⟨by rw [HR.out]; simp [*], (by repeat (first | exact Below.refl _ _ | refine below_step ?_ (by assumption) | assumption | refine Below.drew ?_ | refine below_drewN ?_ _ | refine below_alloc ?_ _ | refine Below.setCell ?_ (by simp; try omega) _))⟩
      · skip
        have hszi : ¬ (a4.size : Int) = 32 := by omega
        have hszb : ((a4.size : Int) == 32) = false := by simp [hszi]
        have hszd : decide ((a4.size : Int) = 32) = false := by simp [hszi]
        have HR := Lib.hid (show foB ⟨a0, a1, a2, 2, a4, 3, a6, a7⟩ = false by rw [HF.out]; unfold foS; rw [if_pos (by simp)]; show (decide ((2 : Int) ≤ 2) && decide ((a4.size : Int) = szB 2)) = _; rw [show szB 2 = 32 from rfl, hszd]; rfl)
        clear hszi hsz hszd
        go_enter Try.func109, Try.ntmps109
        go_wp2_with (first | (go_at_call 140; (with_reducible refine (h0 _).mono ?_); rintro e w1 ⟨rfl, rfl⟩) | (go_at_call 140; (with_reducible refine (h1 _).mono ?_); rintro e w2 ⟨rfl, rfl⟩) | (go_at_call 140; (with_reducible refine (h2 _).mono ?_); rintro e w3 ⟨rfl, rfl⟩) | (go_at_call 140; (with_reducible refine (h3 _).mono ?_); rintro e w4 ⟨rfl, rfl⟩) | (go_at_call 64; (with_reducible refine (h4 _).mono ?_); rintro e w5 ⟨rfl, rfl⟩))
        go_quiet ((go_at_call 80; exact quiet_left (hby _)))
        go_wp2
        go_ret
        first
          | exact ⟨by rw [HR.out]; rfl, (by repeat (first | exact Below.refl _ _ | refine below_step ?_ (by assumption) | assumption | refine Below.drew ?_ | refine below_drewN ?_ _ | refine below_alloc ?_ _ | refine Below.setCell ?_ (by simp; try omega) _))⟩
          | exact ⟨by rw [HR.out]; simp [*], (by repeat (first | exact Below.refl _ _ | refine below_step ?_ (by assumption) | assumption | refine Below.drew ?_ | refine below_drewN ?_ _ | refine below_alloc ?_ _ | refine Below.setCell ?_ (by simp; try omega) _))⟩
  · skip
    cases em : (a4.toList == [])
    · have HR := Lib.hid (show foB ⟨a0, a1, a2, a3, a4, 4, a6, a7⟩ = false by rw [HF.out]; unfold foS; rw [if_neg (by simp), if_pos rfl]; show (decide (a3 ≤ 2) && (a4.toList == []) && !a6) = _; rw [em, Bool.and_false, Bool.false_and])
      by_cases hz : a3 ≤ 2
      · skip
        go_enter Try.func109, Try.ntmps109
        go_wp2_with (first | (go_at_call 140; (with_reducible refine (h0 _).mono ?_); rintro e w1 ⟨rfl, rfl⟩) | (go_at_call 140; (with_reducible refine (h1 _).mono ?_); rintro e w2 ⟨rfl, rfl⟩) | (go_at_call 140; (with_reducible refine (h2 _).mono ?_); rintro e w3 ⟨rfl, rfl⟩) | (go_at_call 140; (with_reducible refine (h3 _).mono ?_); rintro e w4 ⟨rfl, rfl⟩) | (go_at_call 64; (with_reducible refine (h4 _).mono ?_); rintro e w5 ⟨rfl, rfl⟩))
        go_ret
        first
          | exact ⟨by rw [HR.out]; rfl, (by repeat (first | exact Below.refl _ _ | refine below_step ?_ (by assumption) | assumption | refine Below.drew ?_ | refine below_drewN ?_ _ | refine below_alloc ?_ _ | refine Below.setCell ?_ (by simp; try omega) _))⟩
          | exact ⟨by rw [HR.out]; simp [*], (by repeat (first | exact Below.refl _ _ | refine below_step ?_ (by assumption) | assumption | refine Below.drew ?_ | refine below_drewN ?_ _ | refine below_alloc ?_ _ | refine Below.setCell ?_ (by simp; try omega) _))⟩
      · skip
        go_enter Try.func109, Try.ntmps109
        go_wp2_with (first | (go_at_call 140; (with_reducible refine (h0 _).mono ?_); rintro e w1 ⟨rfl, rfl⟩) | (go_at_call 140; (with_reducible refine (h1 _).mono ?_); rintro e w2 ⟨rfl, rfl⟩) | (go_at_call 140; (with_reducible refine (h2 _).mono ?_); rintro e w3 ⟨rfl, rfl⟩) | (go_at_call 140; (with_reducible refine (h3 _).mono ?_); rintro e w4 ⟨rfl, rfl⟩) | (go_at_call 64; (with_reducible refine (h4 _).mono ?_); rintro e w5 ⟨rfl, rfl⟩))
        go_ret
        first
          | exact ⟨by rw [HR.out]; rfl, (by repeat (first | exact Below.refl _ _ | refine below_step ?_ (by assumption) | assumption | refine Below.drew ?_ | refine below_drewN ?_ _ | refine below_alloc ?_ _ | refine Below.setCell ?_ (by simp; try omega) _))⟩
          | exact ⟨by rw [HR.out]; simp [*], (by repeat (first | exact Below.refl _ _ | refine below_step ?_ (by assumption) | assumption | refine Below.drew ?_ | refine below_drewN ?_ _ | refine below_alloc ?_ _ | refine Below.setCell ?_ (by simp; try omega) _))⟩
    cases a6
    · by_cases hz : a3 ≤ 2
      · have HR := Lib.hid (show foB ⟨a0, a1, a2, a3, a4, 4, false, a7⟩ = true by rw [HF.out]; unfold foS; rw [if_neg (by simp), if_pos rfl]; show (decide (a3 ≤ 2) && (a4.toList == []) && !false) = _; rw [em, decide_eq_true hz]; rfl)
        go_enter Try.func109, Try.ntmps109
        go_wp2_with (first | (go_at_call 140; (with_reducible refine (h0 _).mono ?_); rintro e w1 ⟨rfl, rfl⟩) | (go_at_call 140; (with_reducible refine (h1 _).mono ?_); rintro e w2 ⟨rfl, rfl⟩) | (go_at_call 140; (with_reducible refine (h2 _).mono ?_); rintro e w3 ⟨rfl, rfl⟩) | (go_at_call 140; (with_reducible refine (h3 _).mono ?_); rintro e w4 ⟨rfl, rfl⟩) | (go_at_call 64; (with_reducible refine (h4 _).mono ?_); rintro e w5 ⟨rfl, rfl⟩))
        go_ret
        first
          | exact ⟨by rw [HR.out]; rfl, (by repeat (first | exact Below.refl _ _ | refine below_step ?_ (by assumption) | assumption | refine Below.drew ?_ | refine below_drewN ?_ _ | refine below_alloc ?_ _ | refine Below.setCell ?_ (by simp; try omega) _))⟩
          | exact ⟨by rw [HR.out]; simp [*], (by repeat (first | exact Below.refl _ _ | refine below_step ?_ (by assumption) | assumption | refine Below.drew ?_ | refine below_drewN ?_ _ | refine below_alloc ?_ _ | refine Below.setCell ?_ (by simp; try omega) _))⟩
      · have HR := Lib.hid (show foB ⟨a0, a1, a2, a3, a4, 4, false, a7⟩ = false by rw [HF.out]; unfold foS; rw [if_neg (by simp), if_pos rfl]; show (decide (a3 ≤ 2) && (a4.toList == []) && !false) = _; rw [em, decide_eq_false hz]; rfl)
        go_enter Try.func109, Try.ntmps109
        go_wp2_with (first | (go_at_call 140; (with_reducible refine (h0 _).mono ?_); rintro e w1 ⟨rfl, rfl⟩) | (go_at_call 140; (with_reducible refine (h1 _).mono ?_); rintro e w2 ⟨rfl, rfl⟩) | (go_at_call 140; (with_reducible refine (h2 _).mono ?_); rintro e w3 ⟨rfl, rfl⟩) | (go_at_call 140; (with_reducible refine (h3 _).mono ?_); rintro e w4 ⟨rfl, rfl⟩) | (go_at_call 64; (with_reducible refine (h4 _).mono ?_); rintro e w5 ⟨rfl, rfl⟩))
        go_ret
        first
          | exact ⟨by rw [HR.out]; rfl, (by repeat (first | exact Below.refl _ _ | refine below_step ?_ (by assumption) | assumption | refine Below.drew ?_ | refine below_drewN ?_ _ | refine below_alloc ?_ _ | refine Below.setCell ?_ (by simp; try omega) _))⟩
          | exact ⟨by rw [HR.out]; simp [*], (by repeat (first | exact Below.refl _ _ | refine below_step ?_ (by assumption) | assumption | refine Below.drew ?_ | refine below_drewN ?_ _ | refine below_alloc ?_ _ | refine Below.setCell ?_ (by simp; try omega) _))⟩
    · have HR := Lib.hid (show foB ⟨a0, a1, a2, a3, a4, 4, true, a7⟩ = false by rw [HF.out]; unfold foS; rw [if_neg (by simp), if_pos rfl]; show (decide (a3 ≤ 2) && (a4.toList == []) && !true) = _; rw [Bool.not_true, Bool.and_false])
      by_cases hz : a3 ≤ 2
      · skip
        go_enter Try.func109, Try.ntmps109
        go_wp2_with (first | (go_at_call 140; (with_reducible refine (h0 _).mono ?_); rintro e w1 ⟨rfl, rfl⟩) | (go_at_call 140; (with_reducible refine (h1 _).mono ?_); rintro e w2 ⟨rfl, rfl⟩) | (go_at_call 140; (with_reducible refine (h2 _).mono ?_); rintro e w3 ⟨rfl, rfl⟩) | (go_at_call 140; (with_reducible refine (h3 _).mono ?_); rintro e w4 ⟨rfl, rfl⟩) | (go_at_call 64; (with_reducible refine (h4 _).mono ?_); rintro e w5 ⟨rfl, rfl⟩))
        go_ret
        first
          | exact ⟨by rw [HR.out]; rfl, (by repeat (first | exact Below.refl _ _ | refine below_step ?_ (by assumption) | assumption | refine Below.drew ?_ | refine below_drewN ?_ _ | refine below_alloc ?_ _ | refine Below.setCell ?_ (by simp; try omega) _))⟩
          | exact ⟨by rw [HR.out]; simp [*], (by repeat (first | exact Below.refl _ _ | refine below_step ?_ (by assumption) | assumption | refine Below.drew ?_ | refine below_drewN ?_ _ | refine below_alloc ?_ _ | refine Below.setCell ?_ (by simp; try omega) _))⟩
      · skip
        go_enter Try.func109, Try.ntmps109
        go_wp2_with (first | (go_at_call 140; (with_reducible refine (h0 _).mono ?_); rintro e w1 ⟨rfl, rfl⟩) | (go_at_call 140; (with_reducible refine (h1 _).mono ?_); rintro e w2 ⟨rfl, rfl⟩) | (go_at_call 140; (with_reducible refine (h2 _).mono ?_); rintro e w3 ⟨rfl, rfl⟩) | (go_at_call 140; (with_reducible refine (h3 _).mono ?_); rintro e w4 ⟨rfl, rfl⟩) | (go_at_call 64; (with_reducible refine (h4 _).mono ?_); rintro e w5 ⟨rfl, rfl⟩))
        go_ret
        first
          | exact ⟨by rw [HR.out]; rfl, (by repeat (first | exact Below.refl _ _ | refine below_step ?_ (by assumption) | assumption | refine Below.drew ?_ | refine below_drewN ?_ _ | refine below_alloc ?_ _ | refine Below.setCell ?_ (by simp; try omega) _))⟩
          | exact ⟨by rw [HR.out]; simp [*], (by repeat (first | exact Below.refl _ _ | refine below_step ?_ (by assumption) | assumption | refine Below.drew ?_ | refine below_drewN ?_ _ | refine below_alloc ?_ _ | refine Below.setCell ?_ (by simp; try omega) _))⟩
end Go.Proofs.Yticnmljahnnhcaa
