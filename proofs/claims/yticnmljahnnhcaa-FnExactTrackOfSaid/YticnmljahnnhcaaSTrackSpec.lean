/- Walks of the helpers in laws: TrackSpec. Printed by mk_deep.py. -/
import Derived.Test.YticnmljahnnhcaaSSectorSpec
import Derived.Test.YticnmljahnnhcaaOpen
import Derived.Test.YticnmljahnnhcaaStep
namespace Go.Proofs.Yticnmljahnnhcaa
open Go.RowKit Go.ChangeShapes Go.WideShapes Go.Deep

set_option maxRecDepth 100000 in
set_option maxHeartbeats 600000 in
theorem eqTrackSpec_any (a0 : Int) (a1 : Int) (A2 B2 : Option Addr) (c2 d2 : Nat) (l2 : List DSectorSpec) (w : World) (h2 : Rd w w.heap.size 8 A2 l2.length (flat fSectorSpec l2)) (g2 : Rd w w.heap.size 8 B2 l2.length (flat fSectorSpec l2)) (hn2 : l2.length ≤ 1048576) :
    Calls Try.prog 46 #[.agg #[.int .i64 a0, .int .i64 a1, .slice A2 l2.length c2], .agg #[.int .i64 a0, .int .i64 a1, .slice B2 l2.length d2]] w fun e w' => e = .returned (.bool true) ∧ Below w.heap.size w w' := by
  go_enter Try.func46, Try.ntmps46
  go_wp2_with (first
    | (go_at_call 99; refine (eqSectorSpecS_any A2 B2 c2 d2 l2 _ ((h2.below (by with_reducible repeat (first | exact Below.refl _ _ | assumption | refine below_step ?_ (by assumption) | refine Below.drew ?_ | refine below_drewN ?_ _ | refine below_alloc ?_ _ | refine Below.setCell ?_ (by simp; try omega) _))).more (by first | omega | (simp; done) | (simp; omega))) ((g2.below (by with_reducible repeat (first | exact Below.refl _ _ | assumption | refine below_step ?_ (by assumption) | refine Below.drew ?_ | refine below_drewN ?_ _ | refine below_alloc ?_ _ | refine Below.setCell ?_ (by simp; try omega) _))).more (by first | omega | (simp; done) | (simp; omega))) hn2).mono ?_; rintro e w1 ⟨rfl, hx1⟩; obtain ⟨hc1, hf1⟩ := bcell hx1; have hs1 : w.heap.size + 2 ≤ w1.heap.size := (by have := hx1.size; first | omega | (simp at this; omega)); have mk1 := True.intro))
  go_ret
  exact ⟨rfl, (by with_reducible repeat (first | exact Below.refl _ _ | assumption | refine below_step ?_ (by assumption) | refine Below.drew ?_ | refine below_drewN ?_ _ | refine below_alloc ?_ _ | refine Below.setCell ?_ (by simp; try omega) _))⟩

set_option maxRecDepth 100000 in
set_option maxHeartbeats 600000 in
theorem markTrackSpec_any (a0 : Int) (a1 : Int) (A2 : Option Addr) (c2 : Nat) (l2 : List DSectorSpec) (k : Nat) (w : World) (base : Nat) (h : w.ownsRow base 150 8 (.slice A2 l2.length c2) l2.length (flat fSectorSpec l2)) (hk1 : 1 ≤ k) (hk2 : k ≤ 10000000000) (hl : l2.length ≤ 10000000000) :
    Calls Try.prog 49 #[.agg #[.int .i64 a0, .int .i64 a1, .slice A2 l2.length c2], .int .i64 (k : Int)] w fun e w' => e = .returned (.int .i64 ((k + 8 * l2.length : Nat) : Int)) ∧ w'.ownsRow base 150 8 (.slice A2 l2.length c2) l2.length (flat fSectorSpec (mksSectorSpec k l2.length)) ∧ w.grownBy w' (Value.slice A2 l2.length c2).ownBlock := by
  go_enter Try.func49, Try.ntmps49
  go_wp2_with (go_at_call 102; refine (markSectorSpecS_any A2 c2 k l2 _ base (World.ownsRow.alloc h _) hk1 hk2 hl).mono ?_; rintro e w1 ⟨rfl, ho, hg⟩)
  go_ret
  exact ⟨rfl, ho, (World.grownBy_alloc w _ _).trans hg⟩

set_option maxRecDepth 100000 in
set_option maxHeartbeats 600000 in
theorem heldTrackSpec_any (a0 : Int) (a1 : Int) (A : Option Addr) (c k n : Nat) (w : World) (h : Rd w w.heap.size 8 A n (flat fSectorSpec (mksSectorSpec k n))) (hk1 : 1 ≤ k) (hk2 : k ≤ 10000000000) (hl : n ≤ 10000000000) :
    Calls Try.prog 50 #[.agg #[.int .i64 a0, .int .i64 a1, .slice A n c], .int .i64 (k : Int)] w fun e w' => e = .returned (.int .i64 ((k + 8 * n : Nat) : Int)) ∧ Below w.heap.size w w' := by
  go_enter Try.func50, Try.ntmps50
  go_wp2_with (go_at_call 103; refine (heldSectorSpecS_any A c k n _ ((h.below (by with_reducible repeat (first | exact Below.refl _ _ | assumption | refine below_step ?_ (by assumption) | refine Below.drew ?_ | refine below_drewN ?_ _ | refine below_alloc ?_ _ | refine Below.setCell ?_ (by simp; try omega) _))).more (by first | omega | (simp; done) | (simp; omega))) hk1 hk2 hl).mono ?_; rintro e w1 ⟨rfl, hx⟩)
  go_ret
  exact ⟨rfl, (by with_reducible repeat (first | exact Below.refl _ _ | assumption | refine below_step ?_ (by assumption) | refine Below.drew ?_ | refine below_drewN ?_ _ | refine below_alloc ?_ _ | refine Below.setCell ?_ (by simp; try omega) _))⟩
end Go.Proofs.Yticnmljahnnhcaa
