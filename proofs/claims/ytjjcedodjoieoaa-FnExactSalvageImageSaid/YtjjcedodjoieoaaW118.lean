/- Walks: the disc of a header (spec). -/
import Derived.Test.YtjjcedodjoieoaaW117
namespace Go.Proofs.Ytjjcedodjoieoaa
open Go.RowKit
set_option linter.unusedVariables false

theorem mag_no {s : ByteArray} (h : ¬ s = ⟨#[80, 73, 1]⟩) : (s.toList == [80, 73, 1]) = false := by
  rw [ByteArray.toList_eq, beq_eq_false_iff_ne]
  intro e
  apply h
  apply ByteArray.ext
  apply Array.toList_inj.1
  exact e
set_option maxRecDepth 100000 in
set_option maxHeartbeats 2000000 in
theorem l13Disc_no (k : Int) (t : ByteArray) (w : World) (ht : t.size ≤ maxLen) (hh : ¬ (k = 1 ∧ hdB t = true)) :
    Calls Try.prog 22 #[.agg #[.int .i64 k, .string t]] w fun e w' => e = .returned (.tuple #[.agg #[.int .i64 0, .int .i64 0, .int .i64 0, .int .i64 0, .slice none 0 0], .bool false]) ∧ Below w.heap.size w w' := by
  unfold maxLen at ht
  replace hh := Lib.hid hh
  have C0 : CP ((w.alloc (.cells #[.int .i64 k, .string t] 47)).alloc (.cells #[.int .i64 0, .int .i64 0, .int .i64 0, .int .i64 0, .slice none 0 0] 24)) w.heap.size [.int .i64 k, .string t] := CP.al (CP.made w [.int .i64 k, .string t] 47) (.cells #[.int .i64 0, .int .i64 0, .int .i64 0, .int .i64 0, .slice none 0 0] 24)
  have B0 := BX.made1 w (.cells #[.int .i64 k, .string t] 47) 24 [.int .i64 0, .int .i64 0, .int .i64 0, .int .i64 0, .slice none 0 0]
  have hB : BB w ((w.alloc (.cells #[.int .i64 k, .string t] 47)).alloc (.cells #[.int .i64 0, .int .i64 0, .int .i64 0, .int .i64 0, .slice none 0 0] 24)) := (show Below w.heap.size w ((w.alloc (.cells #[.int .i64 k, .string t] 47)).alloc (.cells #[.int .i64 0, .int .i64 0, .int .i64 0, .int .i64 0, .slice none 0 0] 24)) from (by with_reducible repeat (first | exact Below.refl _ _ | assumption | refine below_step ?_ (by assumption) | refine Below.drew ?_ | refine below_drewN ?_ _ | refine below_alloc ?_ _ | refine Below.setCell ?_ (by simp; try omega) _)))
  have c0 : (_ : Option Value) = some (.int .i64 k) := C0 0 (by simp)
  have c1 : (_ : Option Value) = some (.string t) := C0 1 (by simp)
  by_cases hk : k = 1
  · by_cases h7 : t.size = 7
    · have h3s : (3 : Int) ≤ (t.size : Int) := by omega
      by_cases h3 : t.extract 0 3 = ⟨#[80, 73, 1]⟩
      · have hg : geoB (bt t 3 : Int) (bt t 4 : Int) (bt t 5 : Int) (bt t 6 : Int) = false := by
          cases hg : geoB (bt t 3 : Int) (bt t 4 : Int) (bt t 5 : Int) (bt t 6 : Int)
          · rfl
          · exact absurd ⟨hk, by rw [hdB, hg, decide_eq_true h7, decide_eq_true h3]; rfl⟩ hh.out
        clear hh
        have e0 := bt_eq t 3 (by rw [h7]; decide)
        have l0 := bt_lt t 3
        have e1 := bt_eq t 4 (by rw [h7]; decide)
        have l1 := bt_lt t 4
        have e2 := bt_eq t 5 (by rw [h7]; decide)
        have l2 := bt_lt t 5
        have e3 := bt_eq t 6 (by rw [h7]; decide)
        have l3 := bt_lt t 6
        generalize bt t 3 = x0 at *
        generalize bt t 4 = x1 at *
        generalize bt t 5 = x2 at *
        generalize bt t 6 = x3 at *
        have hw0 : IntKind.i64.wrap (x0 : Int) = (x0 : Int) := IntWalk.i64_in _ (by omega)
        have hw1 : IntKind.i64.wrap (x1 : Int) = (x1 : Int) := IntWalk.i64_in _ (by omega)
        have hw2 : IntKind.i64.wrap (x2 : Int) = (x2 : Int) := IntWalk.i64_in _ (by omega)
        have hw3 : IntKind.i64.wrap (x3 : Int) = (x3 : Int) := IntWalk.i64_in _ (by omega)
        have hgeo := fun W => l12Geometry_any (x0 : Int) (x1 : Int) (x2 : Int) (x3 : Int) W
        rw [hg] at hgeo
        subst hk
        go_enter Try.func22, Try.ntmps22
        go_wp2
        generalize (w.alloc (.cells #[.int .i64 1, .string t] 47)).alloc (.cells #[.int .i64 0, .int .i64 0, .int .i64 0, .int .i64 0, .slice none 0 0] 24) = w2 at *
        go_quiet ((go_at_call 56; exact quiet_left (hgeo _)))
        replace B0 : BX (w2.drewN nq) _ _ _ := B0
        replace hB : Below w.heap.size w (w2.drewN nq) := BB.dn hB nq
        generalize w2.drewN nq = w3 at *
        have y0 : (_ : Option Value) = some (.int .i64 0) := B0.cell 0 (by simp)
        have y1 : (_ : Option Value) = some (.int .i64 0) := B0.cell 1 (by simp)
        have y2 : (_ : Option Value) = some (.int .i64 0) := B0.cell 2 (by simp)
        have y3 : (_ : Option Value) = some (.int .i64 0) := B0.cell 3 (by simp)
        have y4 : (_ : Option Value) = some (.slice none 0 0) := B0.cell 4 (by simp)
        have hfz := fun j => B0.free j
        go_wp2
        refine bodyPost_ret (v := .tuple #[.agg #[.int .i64 0, .int .i64 0, .int .i64 0, .int .i64 0, .slice none 0 0], .bool false]) (by simp [results, Try.results22, go_sem, World.cell?_setCell_other, y0, y1, y2, y3, y4]) rfl ⟨rfl, (by with_reducible repeat (first | exact Below.refl _ _ | assumption | refine below_step ?_ (by assumption) | refine Below.drew ?_ | refine below_drewN ?_ _ | refine below_alloc ?_ _ | refine Below.setCell ?_ (by simp; try omega) _))⟩
      · have hb := mag_no h3
        clear hh h3
        subst hk
        go_enter Try.func22, Try.ntmps22
        go_wp2
        generalize (w.alloc (.cells #[.int .i64 1, .string t] 47)).alloc (.cells #[.int .i64 0, .int .i64 0, .int .i64 0, .int .i64 0, .slice none 0 0] 24) = w2 at *
        go_quiet (fail)
        replace B0 : BX (w2.drewN nq) _ _ _ := B0
        replace hB : Below w.heap.size w (w2.drewN nq) := BB.dn hB nq
        generalize w2.drewN nq = w3 at *
        have y0 : (_ : Option Value) = some (.int .i64 0) := B0.cell 0 (by simp)
        have y1 : (_ : Option Value) = some (.int .i64 0) := B0.cell 1 (by simp)
        have y2 : (_ : Option Value) = some (.int .i64 0) := B0.cell 2 (by simp)
        have y3 : (_ : Option Value) = some (.int .i64 0) := B0.cell 3 (by simp)
        have y4 : (_ : Option Value) = some (.slice none 0 0) := B0.cell 4 (by simp)
        have hfz := fun j => B0.free j
        go_wp2
        refine bodyPost_ret (v := .tuple #[.agg #[.int .i64 0, .int .i64 0, .int .i64 0, .int .i64 0, .slice none 0 0], .bool false]) (by simp [results, Try.results22, go_sem, World.cell?_setCell_other, y0, y1, y2, y3, y4]) rfl ⟨rfl, (by with_reducible repeat (first | exact Below.refl _ _ | assumption | refine below_step ?_ (by assumption) | refine Below.drew ?_ | refine below_drewN ?_ _ | refine below_alloc ?_ _ | refine Below.setCell ?_ (by simp; try omega) _))⟩
    · have h7i : ¬ (t.size : Int) = 7 := by omega
      have hb7 : ((t.size : Int) != 7) = true := by simpa using h7i
      clear hh h7 ht h7i
      subst hk
      go_enter Try.func22, Try.ntmps22
      go_wp2
      generalize (w.alloc (.cells #[.int .i64 1, .string t] 47)).alloc (.cells #[.int .i64 0, .int .i64 0, .int .i64 0, .int .i64 0, .slice none 0 0] 24) = w2 at *
      go_quiet (fail)
      replace B0 : BX (w2.drewN nq) _ _ _ := B0
      replace hB : Below w.heap.size w (w2.drewN nq) := BB.dn hB nq
      generalize w2.drewN nq = w3 at *
      have y0 : (_ : Option Value) = some (.int .i64 0) := B0.cell 0 (by simp)
      have y1 : (_ : Option Value) = some (.int .i64 0) := B0.cell 1 (by simp)
      have y2 : (_ : Option Value) = some (.int .i64 0) := B0.cell 2 (by simp)
      have y3 : (_ : Option Value) = some (.int .i64 0) := B0.cell 3 (by simp)
      have y4 : (_ : Option Value) = some (.slice none 0 0) := B0.cell 4 (by simp)
      have hfz := fun j => B0.free j
      go_wp2
      refine bodyPost_ret (v := .tuple #[.agg #[.int .i64 0, .int .i64 0, .int .i64 0, .int .i64 0, .slice none 0 0], .bool false]) (by simp [results, Try.results22, go_sem, World.cell?_setCell_other, y0, y1, y2, y3, y4]) rfl ⟨rfl, (by with_reducible repeat (first | exact Below.refl _ _ | assumption | refine below_step ?_ (by assumption) | refine Below.drew ?_ | refine below_drewN ?_ _ | refine below_alloc ?_ _ | refine Below.setCell ?_ (by simp; try omega) _))⟩
  · have hbk : (k != 1) = true := by simpa using hk
    clear hh hk
    go_enter Try.func22, Try.ntmps22
    go_wp2
    generalize (w.alloc (.cells #[.int .i64 k, .string t] 47)).alloc (.cells #[.int .i64 0, .int .i64 0, .int .i64 0, .int .i64 0, .slice none 0 0] 24) = w2 at *
    go_quiet (fail)
    replace B0 : BX (w2.drewN nq) _ _ _ := B0
    replace hB : Below w.heap.size w (w2.drewN nq) := BB.dn hB nq
    generalize w2.drewN nq = w3 at *
    have y0 : (_ : Option Value) = some (.int .i64 0) := B0.cell 0 (by simp)
    have y1 : (_ : Option Value) = some (.int .i64 0) := B0.cell 1 (by simp)
    have y2 : (_ : Option Value) = some (.int .i64 0) := B0.cell 2 (by simp)
    have y3 : (_ : Option Value) = some (.int .i64 0) := B0.cell 3 (by simp)
    have y4 : (_ : Option Value) = some (.slice none 0 0) := B0.cell 4 (by simp)
    have hfz := fun j => B0.free j
    go_wp2
    refine bodyPost_ret (v := .tuple #[.agg #[.int .i64 0, .int .i64 0, .int .i64 0, .int .i64 0, .slice none 0 0], .bool false]) (by simp [results, Try.results22, go_sem, World.cell?_setCell_other, y0, y1, y2, y3, y4]) rfl ⟨rfl, (by with_reducible repeat (first | exact Below.refl _ _ | assumption | refine below_step ?_ (by assumption) | refine Below.drew ?_ | refine below_drewN ?_ _ | refine below_alloc ?_ _ | refine Below.setCell ?_ (by simp; try omega) _))⟩

set_option maxRecDepth 100000 in
set_option maxHeartbeats 2000000 in
theorem l13Disc_yes (t : ByteArray) (w : World) (hh : hdB t = true) :
    Calls Try.prog 22 #[.agg #[.int .i64 1, .string t]] w fun e w' => ∃ v, e = .returned (.tuple #[.agg #[.int .i64 (bt t 3 : Int), .int .i64 (bt t 4 : Int), .int .i64 (bt t 5 : Int), .int .i64 (bt t 6 : Int), v], .bool true]) ∧ w'.ownsRow w.heap.size 90 2 v (newS (bt t 3 : Int) (bt t 4 : Int) (bt t 5 : Int) (bt t 6 : Int)).length (flat fSector (newS (bt t 3 : Int) (bt t 4 : Int) (bt t 5 : Int) (bt t 6 : Int))) ∧ Below w.heap.size w w' := by
  obtain ⟨h7, h3, hg⟩ := hd_yes hh
  obtain ⟨k, hk⟩ : ∃ k : Int, k = 1 := ⟨_, rfl⟩
  rw [← hk]
  have C0 : CP ((w.alloc (.cells #[.int .i64 k, .string t] 47)).alloc (.cells #[.int .i64 0, .int .i64 0, .int .i64 0, .int .i64 0, .slice none 0 0] 24)) w.heap.size [.int .i64 k, .string t] := CP.al (CP.made w [.int .i64 k, .string t] 47) (.cells #[.int .i64 0, .int .i64 0, .int .i64 0, .int .i64 0, .slice none 0 0] 24)
  have B0 := BX.made1 w (.cells #[.int .i64 k, .string t] 47) 24 [.int .i64 0, .int .i64 0, .int .i64 0, .int .i64 0, .slice none 0 0]
  have hB : BB w ((w.alloc (.cells #[.int .i64 k, .string t] 47)).alloc (.cells #[.int .i64 0, .int .i64 0, .int .i64 0, .int .i64 0, .slice none 0 0] 24)) := (show Below w.heap.size w ((w.alloc (.cells #[.int .i64 k, .string t] 47)).alloc (.cells #[.int .i64 0, .int .i64 0, .int .i64 0, .int .i64 0, .slice none 0 0] 24)) from (by with_reducible repeat (first | exact Below.refl _ _ | assumption | refine below_step ?_ (by assumption) | refine Below.drew ?_ | refine below_drewN ?_ _ | refine below_alloc ?_ _ | refine Below.setCell ?_ (by simp; try omega) _)))
  have c0 : (_ : Option Value) = some (.int .i64 k) := C0 0 (by simp)
  have c1 : (_ : Option Value) = some (.string t) := C0 1 (by simp)
  subst hk
  have h3s : (3 : Int) ≤ (t.size : Int) := by omega
  have e0 := bt_eq t 3 (by rw [h7]; decide)
  have l0 := bt_lt t 3
  have e1 := bt_eq t 4 (by rw [h7]; decide)
  have l1 := bt_lt t 4
  have e2 := bt_eq t 5 (by rw [h7]; decide)
  have l2 := bt_lt t 5
  have e3 := bt_eq t 6 (by rw [h7]; decide)
  have l3 := bt_lt t 6
  generalize bt t 3 = x0 at *
  generalize bt t 4 = x1 at *
  generalize bt t 5 = x2 at *
  generalize bt t 6 = x3 at *
  have hw0 : IntKind.i64.wrap (x0 : Int) = (x0 : Int) := IntWalk.i64_in _ (by omega)
  have hw1 : IntKind.i64.wrap (x1 : Int) = (x1 : Int) := IntWalk.i64_in _ (by omega)
  have hw2 : IntKind.i64.wrap (x2 : Int) = (x2 : Int) := IntWalk.i64_in _ (by omega)
  have hw3 : IntKind.i64.wrap (x3 : Int) = (x3 : Int) := IntWalk.i64_in _ (by omega)
  clear hh
  have hgeo := fun W => l12Geometry_any (x0 : Int) (x1 : Int) (x2 : Int) (x3 : Int) W
  rw [hg] at hgeo
  have hnew := fun W => l12New_any (x0 : Int) (x1 : Int) (x2 : Int) (x3 : Int) W hg
  generalize newS (x0 : Int) (x1 : Int) (x2 : Int) (x3 : Int) = l at hnew ⊢
  go_enter Try.func22, Try.ntmps22
  go_wp2
  generalize (w.alloc (.cells #[.int .i64 1, .string t] 47)).alloc (.cells #[.int .i64 0, .int .i64 0, .int .i64 0, .int .i64 0, .slice none 0 0] 24) = w2 at *
  go_quiet ((go_at_call 56; exact quiet_left (hgeo _)))
  replace B0 : BX (w2.drewN nq) _ _ _ := B0
  replace hB : BB w (w2.drewN nq) := BB.dn hB nq
  clear c0 c1 C0
  generalize w2.drewN nq = w3 at *
  go_wp2
  refine wp_region_still_tail 12 (by kernel_rfl) (by kernel_rfl) ?_
  simp only [List.take_succ_cons, List.take_zero, List.drop_succ_cons, List.drop_zero]
  repeat still_step
  refine wpStill_nil ?_
  change wpList _ _ _ _ _ w3.drew
  replace B0 : BX w3.drew _ _ _ := B0
  replace hB : BB w _ := BB.dr hB
  generalize w3.drew = w4 at *
  go_wp2_with (go_at_call 57; refine (hnew _).mono ?_; rintro e w1 ⟨v, rfl, hown, hx⟩; obtain ⟨A, cp, rfl⟩ := own_form hown; replace hown := own_base (base' := w.heap.size + 2) hown B0.lt; replace B0 := B0.below hx B0.lt; replace hB : Below w.heap.size w w1 := BB.next hB hx; have y0 : (_ : Option Value) = some (.int .i64 0) := B0.cell 0 (by simp); have y1 : (_ : Option Value) = some (.int .i64 0) := B0.cell 1 (by simp); have y2 : (_ : Option Value) = some (.int .i64 0) := B0.cell 2 (by simp); have y3 : (_ : Option Value) = some (.int .i64 0) := B0.cell 3 (by simp); have y4 : (_ : Option Value) = some (.slice none 0 0) := B0.cell 4 (by simp); have hfz := fun j => B0.free j)
  refine bodyPost_ret (v := .tuple #[.agg #[.int .i64 (x0 : Int), .int .i64 (x1 : Int), .int .i64 (x2 : Int), .int .i64 (x3 : Int), .slice A l.length cp], .bool true]) (by simp [results, Try.results22, go_sem, World.cell?_setCell_other, y0, y1, y2, y3, y4]) rfl ⟨_, rfl, ?_, ?_⟩
  · refine own_base (base := w.heap.size + 2) ?_ (by omega)
    exact ownsRow_setCell_below (ownsRow_setCell_below (ownsRow_setCell_below (ownsRow_setCell_below (ownsRow_setCell_below hown (by simp) _) (by simp) _) (by simp) _) (by simp) _) (by simp) _
  · exact (by with_reducible repeat (first | exact Below.refl _ _ | assumption | refine below_step ?_ (by assumption) | refine Below.drew ?_ | refine below_drewN ?_ _ | refine below_alloc ?_ _ | refine Below.setCell ?_ (by simp; try omega) _))
end Go.Proofs.Ytjjcedodjoieoaa
