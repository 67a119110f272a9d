/- Walks: a track of a valid disc. -/
import Derived.Test.YticnmljahnnhcaaW1
import Derived.Test.YticnmljahnnhcaaW33
import Derived.Test.YticnmljahnnhcaaW31
namespace Go.Proofs.Yticnmljahnnhcaa
open Go.RowKit
set_option linter.unusedVariables false

set_option maxHeartbeats 400000 in
theorem hasTrackI_any (c h p s t : Int) (T : Nat) (A : Option Addr) (n cp : Nat) (w : World) (hT : c * h = (T : Int)) (hT16 : T ≤ 128) :
    Calls Try.prog 97 #[.agg #[.int .i64 c, .int .i64 h, .int .i64 p, .int .i64 s, .slice A n cp], .int .i64 t] w fun e w' => e = .returned (.bool (inB t 0 ((T : Int) - 1))) ∧ Below w.heap.size w w' := by
  have hw : IntKind.i64.wrap (c * h) = (T : Int) := by rw [hT]; exact IntWalk.i64_in _ (by omega)
  have hw2 : IntKind.i64.wrap ((T : Int) - 1) = (T : Int) - 1 := IntWalk.i64_in _ (by omega)
  clear hT
  go_enter Try.func97, Try.ntmps97
  go_wp2_with (go_at_call 64; refine (within_any _ _ _ _).mono ?_; rintro e w1 ⟨rfl, rfl⟩)
  go_ret
  exact ⟨rfl, (by with_reducible repeat (first | exact Below.refl _ _ | assumption | refine below_step ?_ (by assumption) | refine Below.drew ?_ | refine below_drewN ?_ _ | refine below_alloc ?_ _ | refine Below.setCell ?_ (by simp; try omega) _))⟩
theorem tk_geo {c h p s : Int} {l : List DSector} (hd : okD c h p s l = true) : ∃ T P : Nat, c * h = (T : Int) ∧ p = (P : Int) ∧ T ≤ 16 ∧ 1 ≤ P ∧ P ≤ 8 ∧ l.length = T * P ∧ l.length ≤ 128 ∧ 1 ≤ h ∧ h ≤ 2 ∧ 0 ≤ s ∧ s ≤ 2 := by
  obtain ⟨hgeo, hlen, _⟩ := okD_geo hd
  obtain ⟨c1, c2, h1, h2, p1, p2, s1, s2⟩ := geoB_yes hgeo
  obtain ⟨m1, m2⟩ := prod2 c1 c2 h1 h2
  obtain ⟨q1, q2⟩ := prod3 m1 m2 p1 p2
  refine ⟨(c * h).toNat, p.toNat, by omega, by omega, by omega, by omega, by omega, ?_, by omega, h1, h2, s1, s2⟩
  have e1 : ((c * h).toNat : Int) = c * h := by omega
  have e2 : (p.toNat : Int) = p := by omega
  have : ((l.length : Nat) : Int) = (((c * h).toNat * p.toNat : Nat) : Int) := by rw [Int.natCast_mul, e1, e2]; exact hlen
  omega
theorem tk_in {T P t : Nat} {l : List DSector} (h : l.length = T * P) (ht : t < T) : t * P + P ≤ l.length := by
  rw [h, ← Nat.succ_mul]
  exact Nat.mul_le_mul_right P ht

end Go.Proofs.Yticnmljahnnhcaa
