/- Walks of small functions of numbers. -/
import Derived.Test.YtemppogailpoiaaRows
import Derived.WalkKit
import Derived.WalkSpells
import Derived.WalkLawsBesides
namespace Go.Proofs.Ytemppogailpoiaa
open Go.RowKit
set_option linter.unusedVariables false

def inB (x lo hi : Int) : Bool := decide (lo ≤ x) && decide (x ≤ hi)
def szB (n : Int) : Int := 8 * 2 ^ n.toNat

set_option maxHeartbeats 400000 in
theorem within_any (x lo hi : Int) (w : World) :
    Calls Try.prog 54 #[.int .i64 x, .int .i64 lo, .int .i64 hi] w fun e w' => e = .returned (.bool (inB x lo hi)) ∧ w = w' := by
  go_enter Try.func54, Try.ntmps54
  go_wp2
  all_goals go_ret
  · have h : lo ≤ x := by assumption
    exact ⟨by simp [inB, h], rfl⟩
  · have h : x < lo := by assumption
    exact ⟨by simp [inB, show ¬ lo ≤ x by omega], rfl⟩

set_option maxHeartbeats 400000 in
theorem l00In_any (x lo hi : Int) (w : World) :
    Calls Try.prog 68 #[.int .i64 x, .int .i64 lo, .int .i64 hi] w fun e w' => e = .returned (.bool (inB x lo hi)) ∧ w = w' := by
  go_enter Try.func68, Try.ntmps68
  go_wp2
  all_goals go_ret
  · have h : lo ≤ x := by assumption
    exact ⟨by simp [inB, h], rfl⟩
  · have h : x < lo := by assumption
    exact ⟨by simp [inB, show ¬ lo ≤ x by omega], rfl⟩

set_option maxHeartbeats 400000 in
theorem sizeBytes_any (n : Int) (h0 : 0 ≤ n) (h2 : n ≤ 2) (w : World) :
    Calls Try.prog 61 #[.int .i64 n] w fun e w' => e = .returned (.int .i64 (szB n)) ∧ w = w' := by
  have h : n = 0 ∨ n = 1 ∨ n = 2 := by omega
  rcases h with rfl | rfl | rfl
  all_goals
    go_enter Try.func61, Try.ntmps61
    go_wp2
    go_ret
    exact ⟨rfl, rfl⟩

set_option maxHeartbeats 400000 in
theorem l12Bytes_any (n : Int) (h0 : 0 ≤ n) (h2 : n ≤ 2) (w : World) :
    Calls Try.prog 73 #[.int .i64 n] w fun e w' => e = .returned (.int .i64 (szB n)) ∧ w = w' := by
  have h : n = 0 ∨ n = 1 ∨ n = 2 := by omega
  rcases h with rfl | rfl | rfl
  all_goals
    go_enter Try.func73, Try.ntmps73
    go_wp2
    go_ret
    exact ⟨rfl, rfl⟩

end Go.Proofs.Ytemppogailpoiaa
