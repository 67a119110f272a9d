/- Walks: equality of discs. -/
import Derived.Test.YtcoidpooghmppaaW40
import Derived.Test.YtcoidpooghmppaaW31
namespace Go.Proofs.Ytcoidpooghmppaa
open Go.RowKit
set_option linter.unusedVariables false

def alikeB (c h p s c' h' p' s' : Int) : Bool := (c == c') && (h == h') && (p == p') && (s == s')
theorem alike_1 {c h p s c' h' p' s' : Int} (g : (c == c') = false) : alikeB c h p s c' h' p' s' = false := by simp only [alikeB, g, Bool.false_and]
theorem alike_2 {c h p s c' h' p' s' : Int} (g : (h == h') = false) : alikeB c h p s c' h' p' s' = false := by simp only [alikeB, g, Bool.false_and, Bool.and_false]
theorem alike_3 {c h p s c' h' p' s' : Int} (g : (p == p') = false) : alikeB c h p s c' h' p' s' = false := by simp only [alikeB, g, Bool.false_and, Bool.and_false]
theorem alike_4 {c h p s c' h' p' s' : Int} (g1 : (c == c') = true) (g2 : (h == h') = true) (g3 : (p == p') = true) : alikeB c h p s c' h' p' s' = (s == s') := by simp only [alikeB, g1, g2, g3, Bool.true_and]

set_option maxRecDepth 100000 in
set_option maxHeartbeats 1000000 in
theorem l12Alike_any (g g' : Nat) (c h p s c' h' p' s' : Int) (v v' : Value) (w : World) (hd : DP w g c h p s v) (hd' : DP w g' c' h' p' s' v') :
    Calls Try.prog 89 #[.pointer (some ⟨g, 0, none⟩), .pointer (some ⟨g', 0, none⟩)] w fun e w' => e = .returned (.bool (alikeB c h p s c' h' p' s')) ∧ ∃ n, w' = w.drewN n := by
  obtain ⟨d0, d1, d2, d3, d4⟩ := hd
  obtain ⟨e0, e1, e2, e3, e4⟩ := hd'
  cases g1 : (c == c')
  · have HR := Lib.hid (alike_1 (h := h) (p := p) (s := s) (h' := h') (p' := p') (s' := s') g1)
    go_enter Try.func89, Try.ntmps89
    go_wp2_with fail
    go_quiet (fail)
    go_wp2
    go_ret
    exact ⟨ret_bool HR.out.symm, _, rfl⟩
  cases g2 : (h == h')
  · have HR := Lib.hid (alike_2 (c := c) (p := p) (s := s) (c' := c') (p' := p') (s' := s') g2)
    go_enter Try.func89, Try.ntmps89
    go_wp2_with fail
    go_quiet (fail)
    go_wp2
    go_ret
    exact ⟨ret_bool HR.out.symm, _, rfl⟩
  cases g3 : (p == p')
  · have HR := Lib.hid (alike_3 (c := c) (h := h) (s := s) (c' := c') (h' := h') (s' := s') g3)
    go_enter Try.func89, Try.ntmps89
    go_wp2_with fail
    go_quiet (fail)
    go_wp2
    go_ret
    exact ⟨ret_bool HR.out.symm, _, rfl⟩
  have HR := Lib.hid (alike_4 (s := s) (s' := s') g1 g2 g3)
  cases g4 : (s == s')
  all_goals
    have HR2 := Lib.hid (HR.out.trans g4)
    go_enter Try.func89, Try.ntmps89
    go_wp2_with fail
    go_quiet (fail)
    go_wp2
    go_ret
    exact ⟨ret_bool HR2.out.symm, _, rfl⟩

set_option maxRecDepth 100000 in
set_option maxHeartbeats 1000000 in
theorem sameGeometry_any (c h p s c' h' p' s' : Int) (v v' : Value) (w : World) (hv : v.oneCell' = true) (hv' : v'.oneCell' = true) :
    Calls Try.prog 90 #[.agg #[.int .i64 c, .int .i64 h, .int .i64 p, .int .i64 s, v], .agg #[.int .i64 c', .int .i64 h', .int .i64 p', .int .i64 s', v']] w fun e w' => e = .returned (.bool (alikeB c h p s c' h' p' s')) ∧ Below w.heap.size w w' := by
  cases g1 : (c == c')
  · have HR := Lib.hid (alike_1 (h := h) (p := p) (s := s) (h' := h') (p' := p') (s' := s') g1)
    go_enter Try.func90, Try.ntmps90
    go_wp2
    go_ret
    exact ⟨ret_bool HR.out.symm, (by with_reducible repeat (first | exact Below.refl _ _ | assumption | refine below_step ?_ (by assumption) | refine Below.drew ?_ | refine below_drewN ?_ _ | refine below_alloc ?_ _ | refine Below.setCell ?_ (by simp; try omega) _))⟩
  cases g2 : (h == h')
  · have HR := Lib.hid (alike_2 (c := c) (p := p) (s := s) (c' := c') (p' := p') (s' := s') g2)
    go_enter Try.func90, Try.ntmps90
    go_wp2
    go_ret
    exact ⟨ret_bool HR.out.symm, (by with_reducible repeat (first | exact Below.refl _ _ | assumption | refine below_step ?_ (by assumption) | refine Below.drew ?_ | refine below_drewN ?_ _ | refine below_alloc ?_ _ | refine Below.setCell ?_ (by simp; try omega) _))⟩
  cases g3 : (p == p')
  · have HR := Lib.hid (alike_3 (c := c) (h := h) (s := s) (c' := c') (h' := h') (s' := s') g3)
    go_enter Try.func90, Try.ntmps90
    go_wp2
    go_ret
    exact ⟨ret_bool HR.out.symm, (by with_reducible repeat (first | exact Below.refl _ _ | assumption | refine below_step ?_ (by assumption) | refine Below.drew ?_ | refine below_drewN ?_ _ | refine below_alloc ?_ _ | refine Below.setCell ?_ (by simp; try omega) _))⟩
  have HR := Lib.hid (alike_4 (s := s) (s' := s') g1 g2 g3)
  cases g4 : (s == s')
  all_goals
    have HR2 := Lib.hid (HR.out.trans g4)
    go_enter Try.func90, Try.ntmps90
    go_wp2
    go_ret
    exact ⟨ret_bool HR2.out.symm, (by with_reducible repeat (first | exact Below.refl _ _ | assumption | refine below_step ?_ (by assumption) | refine Below.drew ?_ | refine below_drewN ?_ _ | refine below_alloc ?_ _ | refine Below.setCell ?_ (by simp; try omega) _))⟩
end Go.Proofs.Ytcoidpooghmppaa
