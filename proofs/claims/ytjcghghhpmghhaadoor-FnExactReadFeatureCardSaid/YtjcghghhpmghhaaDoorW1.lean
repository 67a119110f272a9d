/- Walks of small functions of numbers. -/
import Derived.Test.YtjcghghhpmghhaaDoorRows
import Derived.WalkKit
import Derived.WalkSpells
import Derived.WalkLawsBesides
namespace Go.Proofs.YtjcghghhpmghhaaDoor
open Go.RowKit
set_option linter.unusedVariables false

def inB (x lo hi : Int) : Bool := decide (lo ≤ x) && decide (x ≤ hi)
def szB (n : Int) : Int := 8 * 2 ^ n.toNat

set_option maxHeartbeats 400000 in
theorem within_any (x lo hi : Int) (w : World) :
    Calls Tryd.prog 33 #[.int .i64 x, .int .i64 lo, .int .i64 hi] w fun e w' => e = .returned (.bool (inB x lo hi)) ∧ w = w' := by
  go_enter Tryd.func33, Tryd.ntmps33
  go_wp2
  all_goals go_ret
  · have h : lo ≤ x := by assumption
    exact ⟨by simp [inB, h], rfl⟩
  · have h : x < lo := by assumption
    exact ⟨by simp [inB, show ¬ lo ≤ x by omega], rfl⟩

set_option maxHeartbeats 400000 in
theorem l00In_any (x lo hi : Int) (w : World) :
    Calls Tryd.prog 25 #[.int .i64 x, .int .i64 lo, .int .i64 hi] w fun e w' => e = .returned (.bool (inB x lo hi)) ∧ w = w' := by
  go_enter Tryd.func25, Tryd.ntmps25
  go_wp2
  all_goals go_ret
  · have h : lo ≤ x := by assumption
    exact ⟨by simp [inB, h], rfl⟩
  · have h : x < lo := by assumption
    exact ⟨by simp [inB, show ¬ lo ≤ x by omega], rfl⟩

end Go.Proofs.YtjcghghhpmghhaaDoor
