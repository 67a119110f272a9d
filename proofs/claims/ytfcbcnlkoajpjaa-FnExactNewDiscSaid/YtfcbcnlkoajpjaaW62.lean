/- Walks: NewDisc. -/
import Derived.Test.YtfcbcnlkoajpjaaW61
namespace Go.Proofs.Ytfcbcnlkoajpjaa
open Go.RowKit
set_option linter.unusedVariables false

/-- A part of a new disc; 0 where there is none. -/
def nd (c h p s x : Int) : Int := if geoB c h p s = true then x else 0
def ndC (c h p s : Int) : Int := if geoB c h p s = true then 0 else 2
def ndL (c h p s : Int) : List DSector := if geoB c h p s = true then newS c h p s else []
theorem ndL_len (c h p s : Int) : (ndL c h p s).length ≤ 128 := by
  unfold ndL
  split
  · rename_i hg
    obtain ⟨c1, c2, h1, h2, p1, p2, s1, s2⟩ := geoB_yes hg
    obtain ⟨m1, m2⟩ := prod2 c1 c2 h1 h2
    obtain ⟨q1, q2⟩ := prod3 m1 m2 p1 p2
    rw [newS_len]
    unfold secN
    omega
  · simp

set_option maxRecDepth 100000 in
set_option maxHeartbeats 1000000 in
theorem spec_NewDisc_any (c h p s : Int) (w : World) :
    Calls Try.prog 42 #[.int .i64 c, .int .i64 h, .int .i64 p, .int .i64 s] w fun e w' => ∃ v, e = .returned (.tuple #[.agg #[.int .i64 (nd c h p s c), .int .i64 (nd c h p s h), .int .i64 (nd c h p s p), .int .i64 (nd c h p s s), v], .int .i64 (ndC c h p s)]) ∧ w'.ownsRow w.heap.size 71 2 v (ndL c h p s).length (flat fSector (ndL c h p s)) ∧ Below w.heap.size w w' := by
  unfold nd ndC ndL
  cases hg : geoB c h p s
  · rw [if_neg (by simp), if_neg (by simp), if_neg (by simp), if_neg (by simp), if_neg (by simp), if_neg (by simp)]
    go_enter Try.func42, Try.ntmps42
    go_wp2_with (go_at_call 79; refine (l12Geometry_any _ _ _ _ _).mono ?_; rintro e w1 ⟨rfl, rfl⟩; rw [hg])
    refine bodyPost_ret (v := .tuple #[.agg #[.int .i64 0, .int .i64 0, .int .i64 0, .int .i64 0, .slice none 0 0], .int .i64 2]) (by simp [results, Try.results42, go_sem]) rfl ⟨_, rfl, World.ownsRow_nil _ _ _ _, ?_⟩
    exact (by with_reducible repeat (first | exact Below.refl _ _ | assumption | refine below_step ?_ (by assumption) | refine Below.drew ?_ | refine below_drewN ?_ _ | refine below_alloc ?_ _ | refine Below.setCell ?_ (by simp; try omega) _))
  · rw [if_pos rfl, if_pos rfl, if_pos rfl, if_pos rfl, if_pos rfl, if_pos rfl]
    have hnew := fun W => l12New_any c h p s W hg
    generalize newS c h p s = l at hnew
    go_enter Try.func42, Try.ntmps42
    have B0 := BX.made w 29 [.int .i64 0, .int .i64 0, .int .i64 0, .int .i64 0, .slice none 0 0]
    go_wp2_with (first
      | (go_at_call 79; refine (l12Geometry_any _ _ _ _ _).mono ?_; rintro e w1 ⟨rfl, rfl⟩; rw [hg])
      | (go_at_call 80; refine (hnew _).mono ?_; rintro e w1 ⟨v, rfl, hown, hx⟩; obtain ⟨A, cp, rfl⟩ := own_form hown; replace B0 := B0.below hx B0.lt; have hB : Below w.heap.size w w1 := (by with_reducible repeat (first | exact Below.refl _ _ | assumption | refine below_step ?_ (by assumption) | refine Below.drew ?_ | refine below_drewN ?_ _ | refine below_alloc ?_ _ | refine Below.setCell ?_ (by simp; try omega) _)); replace hown := own_base (base' := w.heap.size + 1) hown (by simp); have y0 : (_ : Option Value) = some (.int .i64 0) := B0.cell 0 (by simp); have y1 : (_ : Option Value) = some (.int .i64 0) := B0.cell 1 (by simp); have y2 : (_ : Option Value) = some (.int .i64 0) := B0.cell 2 (by simp); have y3 : (_ : Option Value) = some (.int .i64 0) := B0.cell 3 (by simp); have y4 : (_ : Option Value) = some (.slice none 0 0) := B0.cell 4 (by simp); have hfz := fun j => B0.free j))
    refine bodyPost_ret (v := .tuple #[.agg #[.int .i64 c, .int .i64 h, .int .i64 p, .int .i64 s, .slice A l.length cp], .int .i64 0]) (by simp [results, Try.results42, go_sem, World.cell?_setCell_other, y0, y1, y2, y3, y4]) rfl ⟨_, rfl, ?_, ?_⟩
    · refine own_base (base := w.heap.size + 1) ?_ (by omega)
      exact ownsRow_setCell_below (ownsRow_setCell_below (ownsRow_setCell_below (ownsRow_setCell_below (ownsRow_setCell_below hown (by simp) _) (by simp) _) (by simp) _) (by simp) _) (by simp) _
    · exact (by with_reducible repeat (first | exact Below.refl _ _ | assumption | refine below_step ?_ (by assumption) | refine Below.drew ?_ | refine below_drewN ?_ _ | refine below_alloc ?_ _ | refine Below.setCell ?_ (by simp; try omega) _))

set_option maxRecDepth 100000 in
set_option maxHeartbeats 1000000 in
theorem impl_NewDisc_any (c h p s : Int) (w : World) :
    Calls Try.prog 43 #[.int .i64 c, .int .i64 h, .int .i64 p, .int .i64 s] w fun e w' => ∃ v, e = .returned (.tuple #[.agg #[.int .i64 (nd c h p s c), .int .i64 (nd c h p s h), .int .i64 (nd c h p s p), .int .i64 (nd c h p s s), v], .int .i64 (ndC c h p s)]) ∧ w'.ownsRow w.heap.size 71 2 v (ndL c h p s).length (flat fSector (ndL c h p s)) ∧ Below w.heap.size w w' := by
  unfold nd ndC ndL
  cases hg : geoB c h p s
  · rw [if_neg (by simp), if_neg (by simp), if_neg (by simp), if_neg (by simp), if_neg (by simp), if_neg (by simp)]
    go_enter Try.func43, Try.ntmps43
    go_wp2_with (go_at_call 81; refine (isGeometry_any _ _ _ _ _).mono ?_; rintro e w1 ⟨rfl, rfl⟩; rw [hg])
    refine bodyPost_ret (v := .tuple #[.agg #[.int .i64 0, .int .i64 0, .int .i64 0, .int .i64 0, .slice none 0 0], .int .i64 2]) (by simp [results, Try.results43, go_sem]) rfl ⟨_, rfl, World.ownsRow_nil _ _ _ _, ?_⟩
    exact (by with_reducible repeat (first | exact Below.refl _ _ | assumption | refine below_step ?_ (by assumption) | refine Below.drew ?_ | refine below_drewN ?_ _ | refine below_alloc ?_ _ | refine Below.setCell ?_ (by simp; try omega) _))
  · rw [if_pos rfl, if_pos rfl, if_pos rfl, if_pos rfl, if_pos rfl, if_pos rfl]
    have hnew := fun W => newDisc_any c h p s W hg
    generalize newS c h p s = l at hnew
    go_enter Try.func43, Try.ntmps43
    have B0 := BX.made w 29 [.int .i64 0, .int .i64 0, .int .i64 0, .int .i64 0, .slice none 0 0]
    go_wp2_with (first
      | (go_at_call 81; refine (isGeometry_any _ _ _ _ _).mono ?_; rintro e w1 ⟨rfl, rfl⟩; rw [hg])
      | (go_at_call 82; refine (hnew _).mono ?_; rintro e w1 ⟨v, rfl, hown, hx⟩; obtain ⟨A, cp, rfl⟩ := own_form hown; replace B0 := B0.below hx B0.lt; have hB : Below w.heap.size w w1 := (by with_reducible repeat (first | exact Below.refl _ _ | assumption | refine below_step ?_ (by assumption) | refine Below.drew ?_ | refine below_drewN ?_ _ | refine below_alloc ?_ _ | refine Below.setCell ?_ (by simp; try omega) _)); replace hown := own_base (base' := w.heap.size + 1) hown (by simp); have y0 : (_ : Option Value) = some (.int .i64 0) := B0.cell 0 (by simp); have y1 : (_ : Option Value) = some (.int .i64 0) := B0.cell 1 (by simp); have y2 : (_ : Option Value) = some (.int .i64 0) := B0.cell 2 (by simp); have y3 : (_ : Option Value) = some (.int .i64 0) := B0.cell 3 (by simp); have y4 : (_ : Option Value) = some (.slice none 0 0) := B0.cell 4 (by simp); have hfz := fun j => B0.free j))
    refine bodyPost_ret (v := .tuple #[.agg #[.int .i64 c, .int .i64 h, .int .i64 p, .int .i64 s, .slice A l.length cp], .int .i64 0]) (by simp [results, Try.results43, go_sem, World.cell?_setCell_other, y0, y1, y2, y3, y4]) rfl ⟨_, rfl, ?_, ?_⟩
    · refine own_base (base := w.heap.size + 1) ?_ (by omega)
      exact ownsRow_setCell_below (ownsRow_setCell_below (ownsRow_setCell_below (ownsRow_setCell_below (ownsRow_setCell_below hown (by simp) _) (by simp) _) (by simp) _) (by simp) _) (by simp) _
    · exact (by with_reducible repeat (first | exact Below.refl _ _ | assumption | refine below_step ?_ (by assumption) | refine Below.drew ?_ | refine below_drewN ?_ _ | refine below_alloc ?_ _ | refine Below.setCell ?_ (by simp; try omega) _))
end Go.Proofs.Ytfcbcnlkoajpjaa
