/- Walks: the sectors of a track (impl). -/
import Derived.Test.YticnmljahnnhcaaW31
import Derived.Test.YticnmljahnnhcaaStep
namespace Go.Proofs.Yticnmljahnnhcaa
open Go.RowKit
set_option linter.unusedVariables false

set_option maxRecDepth 100000 in
set_option maxHeartbeats 1000000 in
theorem trackSectors_any (c h s : Int) (P t b off cp : Nat) (l : List DSector) (w : World) (ht : t * P + P ≤ l.length) (hn : l.length ≤ 128) (hP : P ≤ 8) (hP0 : 0 < P) (hcp : l.length ≤ cp) :
    Calls Try.prog 98 #[.agg #[.int .i64 c, .int .i64 h, .int .i64 (P : Int), .int .i64 s, .slice (some ⟨b, off, none⟩) l.length cp], .int .i64 (t : Int)] w fun e w' => e = .returned (.slice (some ⟨b, off + t * P * 2, none⟩) P (cp - t * P)) ∧ Below w.heap.size w w' := by
  obtain ⟨q, hq⟩ : ∃ q, t * P = q := ⟨_, rfl⟩
  have hq2 : (t + 1) * P = q + P := by rw [Nat.succ_mul, hq]
  have ht2 : t ≤ 128 := by
    have := Nat.le_mul_of_pos_right t hP0
    omega
  have hw1 : IntKind.i64.wrap ((t : Int) * (P : Int)) = (q : Int) := by rw [← hq, ← Int.natCast_mul]; exact IntWalk.i64_in _ (by omega)
  have hw2 : IntKind.i64.wrap ((t : Int) + 1) = ((t + 1 : Nat) : Int) := IntWalk.i64_in _ (by omega)
  have hw3 : IntKind.i64.wrap (((t + 1 : Nat) : Int) * (P : Int)) = ((q + P : Nat) : Int) := by rw [← hq2, Int.natCast_mul]; exact IntWalk.i64_in _ (by rw [← Int.natCast_mul, hq2]; omega)
  rw [hq] at ht ⊢
  clear hq hq2
  generalize t + 1 = t1 at *
  obtain ⟨r, hr⟩ : ∃ r, q + P = r := ⟨_, rfl⟩
  rw [hr] at ht hw3
  have hqr : q ≤ r := by omega
  have hqri : (q : Int) ≤ (r : Int) := by omega
  have hrn : (r : Int) ≤ (cp : Int) := by omega
  have hrn2 : r ≤ cp := by omega
  have hrl : (r : Int) ≤ (l.length : Int) := by omega
  have hsub : r - q = P := by omega
  have hqc : ¬ cp = q := by omega
  have hqc2 : ¬ q = cp := by omega
  have HS := Lib.hid hsub
  clear hr hsub
  go_enter Try.func98, Try.ntmps98
  go_wp2
  go_ret
  exact ⟨by rw [← HS.out]; rfl, (by with_reducible repeat (first | exact Below.refl _ _ | assumption | refine below_step ?_ (by assumption) | refine Below.drew ?_ | refine below_drewN ?_ _ | refine below_alloc ?_ _ | refine Below.setCell ?_ (by simp; try omega) _))⟩
end Go.Proofs.Yticnmljahnnhcaa
