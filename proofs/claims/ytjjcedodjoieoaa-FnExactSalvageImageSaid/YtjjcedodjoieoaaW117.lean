/- Walks: the header of a container. -/
import Derived.Test.YtjjcedodjoieoaaW62
import Derived.Test.YtjjcedodjoieoaaDcM
import Derived.Test.YtjjcedodjoieoaaShelf
import Derived.Test.YtjjcedodjoieoaaStep
namespace Go.Proofs.Ytjjcedodjoieoaa
open Go.RowKit
set_option linter.unusedVariables false

/-- The data of a header. -/
def hdB (t : ByteArray) : Bool := decide (t.size = 7) && decide (t.extract 0 3 = ⟨#[80, 73, 1]⟩) && geoB (bt t 3 : Int) (bt t 4 : Int) (bt t 5 : Int) (bt t 6 : Int)
theorem hd_1 {t : ByteArray} (h : t.size ≠ 7) : hdB t = false := by simp [hdB, h]
theorem hd_2 {t : ByteArray} (h : t.extract 0 3 ≠ ⟨#[80, 73, 1]⟩) : hdB t = false := by simp [hdB, h]
theorem hd_3 {t : ByteArray} (h : geoB (bt t 3 : Int) (bt t 4 : Int) (bt t 5 : Int) (bt t 6 : Int) = false) : hdB t = false := by simp [hdB, h]
theorem hd_yes {t : ByteArray} (h : hdB t = true) : t.size = 7 ∧ t.extract 0 3 = ⟨#[80, 73, 1]⟩ ∧ geoB (bt t 3 : Int) (bt t 4 : Int) (bt t 5 : Int) (bt t 6 : Int) = true := by
  unfold hdB at h
  simp only [Bool.and_eq_true, decide_eq_true_eq] at h
  exact ⟨h.1.1, h.1.2, h.2⟩
theorem pre_mag (t : ByteArray) : Lib.hasPrefix t.data.toList [80, 73, 1] = decide (t.extract 0 3 = ⟨#[80, 73, 1]⟩) := by
  have h1 : (t.extract 0 3).data.toList = t.data.toList.take 3 := by simp [ByteArray.data_extract]
  rw [Lib.hasPrefix, Bool.eq_iff_iff, List.isPrefixOf_iff_prefix, decide_eq_true_iff, List.prefix_iff_eq_take]
  constructor
  · intro h
    apply ByteArray.ext
    apply Array.toList_inj.1
    rw [h1]
    exact h.symm
  · intro h
    rw [h] at h1
    exact h1
theorem cut_yes {t : ByteArray} (h : t.extract 0 3 = ⟨#[80, 73, 1]⟩) (h7 : 3 ≤ t.size) : (⟨(Lib.trimPrefix t.data.toList [80, 73, 1]).toArray⟩ : ByteArray) = t.extract 3 t.size := by
  have h1 := pre_mag t
  rw [decide_eq_true h] at h1
  rw [Lib.trimPrefix, if_pos h1]
  apply ByteArray.ext
  apply Array.toList_inj.1
  have h2 : t.data.size = t.size := rfl
  simp only [ByteArray.data_extract, Array.toList_extract, List.extract_eq_drop_take']
  rw [List.take_of_length_le (by rw [Array.length_toList]; omega)]
  rfl
theorem CutPrefix_yes (t : ByteArray) (h : t.extract 0 3 = ⟨#[80, 73, 1]⟩) (h3 : 3 ≤ t.size) (W : World) :
    Calls Try.prog 65 #[.string t, .string ⟨#[80, 73, 1]⟩] W fun e w' => e = .returned (.tuple #[.string (t.extract 3 t.size), .bool true]) ∧ w' = W := by
  have h1 := Try.strings_CutPrefix t ⟨#[80, 73, 1]⟩ W
  have h2 := pre_mag t
  rw [decide_eq_true h] at h2
  have h4 := cut_yes h h3
  simp only at h1
  rw [h4, h2] at h1
  exact h1
theorem CutPrefix_no (t : ByteArray) (h : ¬ t.extract 0 3 = ⟨#[80, 73, 1]⟩) (W : World) :
    Calls Try.prog 65 #[.string t, .string ⟨#[80, 73, 1]⟩] W fun e w' => e = .returned (.tuple #[.string t, .bool false]) ∧ w' = W := by
  have h1 := Try.strings_CutPrefix t ⟨#[80, 73, 1]⟩ W
  have h2 := pre_mag t
  rw [decide_eq_false h] at h2
  have h4 : (⟨(Lib.trimPrefix t.data.toList [80, 73, 1]).toArray⟩ : ByteArray) = t := by
    rw [Lib.trimPrefix, if_neg (by rw [h2]; decide)]
  simp only at h1
  rw [h4, h2] at h1
  exact h1

set_option maxRecDepth 100000 in
set_option maxHeartbeats 1000000 in
theorem readHeader_no (t : ByteArray) (w : World) (ht : t.size ≤ maxLen) (hh : hdB t = false) :
    Calls Try.prog 25 #[.string t] w fun e w' => e = .returned (.tuple #[.agg #[.int .i64 0, .int .i64 0, .int .i64 0, .int .i64 0, .slice none 0 0], .bool false]) ∧ Below w.heap.size w w' := by
  unfold maxLen at ht
  by_cases h3 : t.extract 0 3 = ⟨#[80, 73, 1]⟩
  · have h33 : 3 ≤ t.size := by
      have : (t.extract 0 3).size = 3 := by rw [h3]; rfl
      rw [ByteArray.size_extract] at this
      omega
    have hcp := CutPrefix_yes t h3 h33
    have hsz := ext_size t 3
    have hbt := fun k hk => ext_bt t 3 k hk
    by_cases h7 : t.size = 7
    · have hg : geoB (bt t 3 : Int) (bt t 4 : Int) (bt t 5 : Int) (bt t 6 : Int) = false := by
        cases hg : geoB (bt t 3 : Int) (bt t 4 : Int) (bt t 5 : Int) (bt t 6 : Int)
        · rfl
        · rw [hdB, hg, decide_eq_true h7, decide_eq_true h3] at hh
          cases hh
      generalize t.extract 3 t.size = R at hcp hsz hbt
      have hR : R.size = 4 := by omega
      have b0 := hbt 0 (by omega)
      have b1 := hbt 1 (by omega)
      have b2 := hbt 2 (by omega)
      have b3 := hbt 3 (by omega)
      rw [show 3 + 0 = 3 from rfl] at b0
      rw [show 3 + 1 = 4 from rfl] at b1
      rw [show 3 + 2 = 5 from rfl] at b2
      rw [show 3 + 3 = 6 from rfl] at b3
      have e0 := (bt_eq R 0 (by rw [hR]; decide)).trans b0
      have e1 := (bt_eq R 1 (by rw [hR]; decide)).trans b1
      have e2 := (bt_eq R 2 (by rw [hR]; decide)).trans b2
      have e3 := (bt_eq R 3 (by rw [hR]; decide)).trans b3
      have l0 := bt_lt t 3
      have l1 := bt_lt t 4
      have l2 := bt_lt t 5
      have l3 := bt_lt t 6
      generalize bt t 3 = x0 at *
      generalize bt t 4 = x1 at *
      generalize bt t 5 = x2 at *
      generalize bt t 6 = x3 at *
      clear hbt hsz h3 h33 hh b0 b1 b2 b3
      have hw0 : IntKind.i64.wrap (x0 : Int) = (x0 : Int) := IntWalk.i64_in _ (by omega)
      have hw1 : IntKind.i64.wrap (x1 : Int) = (x1 : Int) := IntWalk.i64_in _ (by omega)
      have hw2 : IntKind.i64.wrap (x2 : Int) = (x2 : Int) := IntWalk.i64_in _ (by omega)
      have hw3 : IntKind.i64.wrap (x3 : Int) = (x3 : Int) := IntWalk.i64_in _ (by omega)
      have hgeo := fun W => isGeometry_any (x0 : Int) (x1 : Int) (x2 : Int) (x3 : Int) W
      rw [hg] at hgeo
      go_enter Try.func25, Try.ntmps25
      go_wp2_with (go_at_call 65; refine (hcp _).mono ?_; rintro e w1 ⟨rfl, rfl⟩)
      go_quiet ((go_at_call 66; exact quiet_left (hgeo _)))
      go_wp2
      refine bodyPost_ret (v := .tuple #[.agg #[.int .i64 0, .int .i64 0, .int .i64 0, .int .i64 0, .slice none 0 0], .bool false]) (by simp [results, Try.results25, go_sem]) rfl ⟨rfl, (by with_reducible repeat (first | exact Below.refl _ _ | assumption | refine below_step ?_ (by assumption) | refine Below.drew ?_ | refine below_drewN ?_ _ | refine below_alloc ?_ _ | refine Below.setCell ?_ (by simp; try omega) _))⟩
    · have hR : ¬ (t.extract 3 t.size).size = 4 := by omega
      generalize t.extract 3 t.size = R at *
      have hR2 : ¬ (R.size : Int) = 4 := by omega
      clear hbt hsz h3 hh
      go_enter Try.func25, Try.ntmps25
      go_wp2_with (go_at_call 65; refine (hcp _).mono ?_; rintro e w1 ⟨rfl, rfl⟩)
      go_quiet (fail)
      go_wp2
      refine bodyPost_ret (v := .tuple #[.agg #[.int .i64 0, .int .i64 0, .int .i64 0, .int .i64 0, .slice none 0 0], .bool false]) (by simp [results, Try.results25, go_sem]) rfl ⟨rfl, (by with_reducible repeat (first | exact Below.refl _ _ | assumption | refine below_step ?_ (by assumption) | refine Below.drew ?_ | refine below_drewN ?_ _ | refine below_alloc ?_ _ | refine Below.setCell ?_ (by simp; try omega) _))⟩
  · have hcp := CutPrefix_no t h3
    clear h3 hh
    go_enter Try.func25, Try.ntmps25
    go_wp2_with (go_at_call 65; refine (hcp _).mono ?_; rintro e w1 ⟨rfl, rfl⟩)
    go_quiet (fail)
    go_wp2
    refine bodyPost_ret (v := .tuple #[.agg #[.int .i64 0, .int .i64 0, .int .i64 0, .int .i64 0, .slice none 0 0], .bool false]) (by simp [results, Try.results25, go_sem]) rfl ⟨rfl, (by with_reducible repeat (first | exact Below.refl _ _ | assumption | refine below_step ?_ (by assumption) | refine Below.drew ?_ | refine below_drewN ?_ _ | refine below_alloc ?_ _ | refine Below.setCell ?_ (by simp; try omega) _))⟩

set_option maxRecDepth 100000 in
set_option maxHeartbeats 1000000 in
theorem readHeader_yes (t : ByteArray) (w : World) (hh : hdB t = true) :
    Calls Try.prog 25 #[.string t] w fun e w' => ∃ v, e = .returned (.tuple #[.agg #[.int .i64 (bt t 3 : Int), .int .i64 (bt t 4 : Int), .int .i64 (bt t 5 : Int), .int .i64 (bt t 6 : Int), v], .bool true]) ∧ w'.ownsRow w.heap.size 90 2 v (newS (bt t 3 : Int) (bt t 4 : Int) (bt t 5 : Int) (bt t 6 : Int)).length (flat fSector (newS (bt t 3 : Int) (bt t 4 : Int) (bt t 5 : Int) (bt t 6 : Int))) ∧ Below w.heap.size w w' := by
  obtain ⟨h7, h3, hg⟩ := hd_yes hh
  have hcp := CutPrefix_yes t h3 (by omega)
  have hsz := ext_size t 3
  have hbt := fun k hk => ext_bt t 3 k hk
  generalize t.extract 3 t.size = R at hcp hsz hbt
  have hR : R.size = 4 := by omega
  have b0 := hbt 0 (by omega)
  have b1 := hbt 1 (by omega)
  have b2 := hbt 2 (by omega)
  have b3 := hbt 3 (by omega)
  rw [show 3 + 0 = 3 from rfl] at b0
  rw [show 3 + 1 = 4 from rfl] at b1
  rw [show 3 + 2 = 5 from rfl] at b2
  rw [show 3 + 3 = 6 from rfl] at b3
  have e0 := (bt_eq R 0 (by rw [hR]; decide)).trans b0
  have l0 := bt_lt t 3
  have e1 := (bt_eq R 1 (by rw [hR]; decide)).trans b1
  have l1 := bt_lt t 4
  have e2 := (bt_eq R 2 (by rw [hR]; decide)).trans b2
  have l2 := bt_lt t 5
  have e3 := (bt_eq R 3 (by rw [hR]; decide)).trans b3
  have l3 := bt_lt t 6
  generalize bt t 3 = x0 at *
  generalize bt t 4 = x1 at *
  generalize bt t 5 = x2 at *
  generalize bt t 6 = x3 at *
  have hw0 : IntKind.i64.wrap (x0 : Int) = (x0 : Int) := IntWalk.i64_in _ (by omega)
  have hw1 : IntKind.i64.wrap (x1 : Int) = (x1 : Int) := IntWalk.i64_in _ (by omega)
  have hw2 : IntKind.i64.wrap (x2 : Int) = (x2 : Int) := IntWalk.i64_in _ (by omega)
  have hw3 : IntKind.i64.wrap (x3 : Int) = (x3 : Int) := IntWalk.i64_in _ (by omega)
  clear hbt hsz h3 hh b0 b1 b2 b3
  have hgeo := fun W => isGeometry_any (x0 : Int) (x1 : Int) (x2 : Int) (x3 : Int) W
  rw [hg] at hgeo
  have hnew := fun W => newDisc_any (x0 : Int) (x1 : Int) (x2 : Int) (x3 : Int) W hg
  generalize newS (x0 : Int) (x1 : Int) (x2 : Int) (x3 : Int) = l at hnew ⊢
  have B0 := BX.made w 24 [.int .i64 0, .int .i64 0, .int .i64 0, .int .i64 0, .slice none 0 0]
  have hB : BB w (w.alloc (.cells #[.int .i64 0, .int .i64 0, .int .i64 0, .int .i64 0, .slice none 0 0] 24)) := (show Below w.heap.size w (w.alloc (.cells #[.int .i64 0, .int .i64 0, .int .i64 0, .int .i64 0, .slice none 0 0] 24)) from (by with_reducible repeat (first | exact Below.refl _ _ | assumption | refine below_step ?_ (by assumption) | refine Below.drew ?_ | refine below_drewN ?_ _ | refine below_alloc ?_ _ | refine Below.setCell ?_ (by simp; try omega) _)))
  go_enter Try.func25, Try.ntmps25
  go_wp2_with (go_at_call 65; refine (hcp _).mono ?_; rintro e w1 ⟨rfl, rfl⟩)
  generalize w.alloc (.cells #[.int .i64 0, .int .i64 0, .int .i64 0, .int .i64 0, .slice none 0 0] 24) = w2 at *
  go_quiet ((go_at_call 66; exact quiet_left (hgeo _)))
  replace B0 : BX (w2.drewN nq) _ _ _ := B0
  replace hB : BB w (w2.drewN nq) := BB.dn hB nq
  generalize w2.drewN nq = w3 at *
  go_wp2
  refine wp_region_still_tail 12 (by kernel_rfl) (by kernel_rfl) ?_
  simp only [List.take_succ_cons, List.take_zero, List.drop_succ_cons, List.drop_zero]
  repeat still_step
  refine wpStill_nil ?_
  change wpList _ _ _ _ _ w3.drew
  replace B0 : BX w3.drew _ _ _ := B0
  replace hB : BB w _ := BB.dr hB
  generalize w3.drew = w4 at *
  go_wp2_with (go_at_call 67; refine (hnew _).mono ?_; rintro e w1 ⟨v, rfl, hown, hx⟩; obtain ⟨A, cp, rfl⟩ := own_form hown; replace hown := own_base (base' := w.heap.size + 1) hown B0.lt; replace B0 := B0.below hx B0.lt; replace hB : Below w.heap.size w w1 := BB.next hB hx; have y0 : (_ : Option Value) = some (.int .i64 0) := B0.cell 0 (by simp); have y1 : (_ : Option Value) = some (.int .i64 0) := B0.cell 1 (by simp); have y2 : (_ : Option Value) = some (.int .i64 0) := B0.cell 2 (by simp); have y3 : (_ : Option Value) = some (.int .i64 0) := B0.cell 3 (by simp); have y4 : (_ : Option Value) = some (.slice none 0 0) := B0.cell 4 (by simp); have hfz := fun j => B0.free j)
  refine bodyPost_ret (v := .tuple #[.agg #[.int .i64 (x0 : Int), .int .i64 (x1 : Int), .int .i64 (x2 : Int), .int .i64 (x3 : Int), .slice A l.length cp], .bool true]) (by simp [results, Try.results25, go_sem, World.cell?_setCell_other, y0, y1, y2, y3, y4]) rfl ⟨_, rfl, ?_, ?_⟩
  · refine own_base (base := w.heap.size + 1) ?_ (by omega)
    exact ownsRow_setCell_below (ownsRow_setCell_below (ownsRow_setCell_below (ownsRow_setCell_below (ownsRow_setCell_below hown (by simp) _) (by simp) _) (by simp) _) (by simp) _) (by simp) _
  · exact (by with_reducible repeat (first | exact Below.refl _ _ | assumption | refine below_step ?_ (by assumption) | refine Below.drew ?_ | refine below_drewN ?_ _ | refine below_alloc ?_ _ | refine Below.setCell ?_ (by simp; try omega) _))
end Go.Proofs.Ytjjcedodjoieoaa
