/- Walks of the helpers in laws: Image. Printed by mk_deep.py. -/
import Derived.Test.YtjjcedodjoieoaaSDisc
import Derived.Test.YtjjcedodjoieoaaSString
import Derived.Test.YtjjcedodjoieoaaOpen
import Derived.Test.YtjjcedodjoieoaaStep
namespace Go.Proofs.Ytjjcedodjoieoaa
open Go.RowKit Go.ChangeShapes Go.WideShapes Go.Deep

def tzImage (l4 : List DSector) (l5 : List ByteArray) : List Nat := tzDisc l4 ++ tzString l5
set_option maxRecDepth 100000 in
set_option maxHeartbeats 600000 in
theorem eqImage_any (a0 : Int) (a1 : Int) (a2 : Int) (a3 : Int) (A4 B4 : Option Addr) (c4 d4 : Nat) (l4 : List DSector) (A5 B5 : Option Addr) (c5 d5 : Nat) (l5 : List ByteArray) (w : World) (h4 : Rd w w.heap.size 2 A4 l4.length (flat fSector l4)) (g4 : Rd w w.heap.size 2 B4 l4.length (flat fSector l4)) (h5 : Rd w w.heap.size 1 A5 l5.length (flat fS l5)) (g5 : Rd w w.heap.size 1 B5 l5.length (flat fS l5)) (hn4 : l4.length ≤ 1048576) (hn5 : l5.length ≤ 1048576) :
    Calls Try.prog 9 #[.agg #[.int .i64 a0, .int .i64 a1, .int .i64 a2, .int .i64 a3, .slice A4 l4.length c4, .slice A5 l5.length c5], .agg #[.int .i64 a0, .int .i64 a1, .int .i64 a2, .int .i64 a3, .slice B4 l4.length d4, .slice B5 l5.length d5]] w fun e w' => e = .returned (.bool true) ∧ Below w.heap.size w w' := by
  go_enter Try.func9, Try.ntmps9
  go_wp2_with (first
    | (go_at_call 28; have := mk1; refine (eqStringS_any A5 B5 c5 d5 l5 _ ((h5.below (by with_reducible repeat (first | exact Below.refl _ _ | assumption | refine below_step ?_ (by assumption) | refine Below.drew ?_ | refine below_drewN ?_ _ | refine below_alloc ?_ _ | refine Below.setCell ?_ (by simp; try omega) _))).more (by first | omega | (simp; done) | (simp; omega))) ((g5.below (by with_reducible repeat (first | exact Below.refl _ _ | assumption | refine below_step ?_ (by assumption) | refine Below.drew ?_ | refine below_drewN ?_ _ | refine below_alloc ?_ _ | refine Below.setCell ?_ (by simp; try omega) _))).more (by first | omega | (simp; done) | (simp; omega))) hn5).mono ?_; rintro e w2 ⟨rfl, hx2⟩; obtain ⟨hc2, hf2⟩ := bcell hx2; have hs2 : w.heap.size + 2 ≤ w2.heap.size := (by have := hx2.size; first | omega | (simp at this; omega)); have mk2 := True.intro)
    | (go_at_call 20; refine (eqDisc_any a0 a1 a2 a3 A4 B4 c4 d4 l4 _ ((h4.below (by with_reducible repeat (first | exact Below.refl _ _ | assumption | refine below_step ?_ (by assumption) | refine Below.drew ?_ | refine below_drewN ?_ _ | refine below_alloc ?_ _ | refine Below.setCell ?_ (by simp; try omega) _))).more (by first | omega | (simp; done) | (simp; omega))) ((g4.below (by with_reducible repeat (first | exact Below.refl _ _ | assumption | refine below_step ?_ (by assumption) | refine Below.drew ?_ | refine below_drewN ?_ _ | refine below_alloc ?_ _ | refine Below.setCell ?_ (by simp; try omega) _))).more (by first | omega | (simp; done) | (simp; omega))) hn4).mono ?_; rintro e w1 ⟨rfl, hx1⟩; obtain ⟨hc1, hf1⟩ := bcell hx1; have hs1 : w.heap.size + 2 ≤ w1.heap.size := (by have := hx1.size; first | omega | (simp at this; omega)); have mk1 := True.intro))
  go_ret
  exact ⟨rfl, (by with_reducible repeat (first | exact Below.refl _ _ | assumption | refine below_step ?_ (by assumption) | refine Below.drew ?_ | refine below_drewN ?_ _ | refine below_alloc ?_ _ | refine Below.setCell ?_ (by simp; try omega) _))⟩

end Go.Proofs.Ytjjcedodjoieoaa
