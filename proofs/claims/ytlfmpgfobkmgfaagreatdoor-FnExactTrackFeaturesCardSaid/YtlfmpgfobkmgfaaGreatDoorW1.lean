/- Walks of small functions of numbers. -/
import Derived.Test.YtlfmpgfobkmgfaaGreatDoorRows
import Derived.WalkKit
import Derived.WalkSpells
import Derived.WalkLawsBesides
namespace Go.Proofs.YtlfmpgfobkmgfaaGreatDoor
open Go.RowKit
set_option linter.unusedVariables false

def inB (x lo hi : Int) : Bool := decide (lo ≤ x) && decide (x ≤ hi)
def szB (n : Int) : Int := 8 * 2 ^ n.toNat

set_option maxHeartbeats 400000 in
theorem within_any (x lo hi : Int) (w : World) :
    Calls Tryz.prog 16 #[.int .i64 x, .int .i64 lo, .int .i64 hi] w fun e w' => e = .returned (.bool (inB x lo hi)) ∧ w = w' := by
  go_enter Tryz.func16, Tryz.ntmps16
  go_wp2
  all_goals go_ret
  · have h : lo ≤ x := by assumption
    exact ⟨by simp [inB, h], rfl⟩
  · have h : x < lo := by assumption
    exact ⟨by simp [inB, show ¬ lo ≤ x by omega], rfl⟩

set_option maxHeartbeats 400000 in
theorem l00In_any (x lo hi : Int) (w : World) :
    Calls Tryz.prog 11 #[.int .i64 x, .int .i64 lo, .int .i64 hi] w fun e w' => e = .returned (.bool (inB x lo hi)) ∧ w = w' := by
  go_enter Tryz.func11, Tryz.ntmps11
  go_wp2
  all_goals go_ret
  · have h : lo ≤ x := by assumption
    exact ⟨by simp [inB, h], rfl⟩
  · have h : x < lo := by assumption
    exact ⟨by simp [inB, show ¬ lo ≤ x by omega], rfl⟩

set_option maxHeartbeats 400000 in
theorem sizeBytes_any (n : Int) (h0 : 0 ≤ n) (h2 : n ≤ 2) (w : World) :
    Calls Tryz.prog 39 #[.int .i64 n] w fun e w' => e = .returned (.int .i64 (szB n)) ∧ w = w' := by
  have h : n = 0 ∨ n = 1 ∨ n = 2 := by omega
  rcases h with rfl | rfl | rfl
  all_goals
    go_enter Tryz.func39, Tryz.ntmps39
    go_wp2
    go_ret
    exact ⟨rfl, rfl⟩

end Go.Proofs.YtlfmpgfobkmgfaaGreatDoor
