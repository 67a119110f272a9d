/- Walks of the helpers in laws: Disc. Printed by mk_deep.py. -/
import Derived.Test.YticnmljahnnhcaaSSector
import Derived.Test.YticnmljahnnhcaaOpen
import Derived.Test.YticnmljahnnhcaaMem5
namespace Go.Proofs.Yticnmljahnnhcaa
open Go.RowKit Go.ChangeShapes Go.WideShapes Go.Deep

set_option maxRecDepth 100000 in
set_option maxHeartbeats 600000 in
theorem toDisc_any (a0 : Int) (a1 : Int) (a2 : Int) (a3 : Int) (A4 : Option Addr) (c4 : Nat) (l4 : List DSector) (w : World) (h4 : Rd w w.heap.size 2 A4 l4.length (flat fSector l4)) (hn4 : l4.length ≤ 1048576) :
    Calls Try.prog 44 #[.agg #[.int .i64 a0, .int .i64 a1, .int .i64 a2, .int .i64 a3, .slice A4 l4.length c4]] w fun e w' => ∃ v4, e = .returned (.agg #[.int .i64 a0, .int .i64 a1, .int .i64 a2, .int .i64 a3, v4]) ∧ w'.ownsRow w.heap.size 39 2 v4 l4.length (flat fSector l4) ∧ Below w.heap.size w w' := by
  go_enter Try.func44, Try.ntmps44
  go_wp2_with (first
    | (go_at_call 96; refine (toSectorS_any A4 c4 l4 _ ((h4.below (by with_reducible repeat (first | exact Below.refl _ _ | assumption | refine below_step ?_ (by assumption) | refine Below.drew ?_ | refine below_drewN ?_ _ | refine below_alloc ?_ _ | refine Below.setCell ?_ (by simp; try omega) _))).more (by simp; try omega)) hn4).mono ?_; rintro e w1 ⟨v4, rfl, ho4, hx1⟩; obtain ⟨E4, q4, rfl⟩ := own_form ho4; replace ho4 := own_base (base' := w.heap.size + 3) ho4 (by simp; try omega); have mk1 := True.intro; obtain ⟨hc1, hf1⟩ := bcell hx1; have hs1 : w.heap.size + 3 ≤ w1.heap.size := (by have := hx1.size; simp at this; omega); have z1_0 : w1.cell? ⟨w.heap.size + 1, 0, none⟩ = some (.int .i64 0) := (by rw [hc1 _ _ (by simp; try omega)]; simp [go_sem]); have z1_1 : w1.cell? ⟨w.heap.size + 1, 1, none⟩ = some (.int .i64 0) := (by rw [hc1 _ _ (by simp; try omega)]; simp [go_sem]); have z1_2 : w1.cell? ⟨w.heap.size + 1, 2, none⟩ = some (.int .i64 0) := (by rw [hc1 _ _ (by simp; try omega)]; simp [go_sem]); have z1_3 : w1.cell? ⟨w.heap.size + 1, 3, none⟩ = some (.int .i64 0) := (by rw [hc1 _ _ (by simp; try omega)]; simp [go_sem]); have z1_4 : w1.cell? ⟨w.heap.size + 1, 4, none⟩ = some (.slice none 0 0) := (by rw [hc1 _ _ (by simp; try omega)]; simp [go_sem])))
  clear hc1 hf1
  refine bodyPost_ret (v := .agg #[.int .i64 a0, .int .i64 a1, .int .i64 a2, .int .i64 a3, .slice E4 l4.length q4]) (by simp [results, Try.results44, go_sem, World.cell?_setCell_other, z1_0, z1_1, z1_2, z1_3, z1_4]) rfl ⟨_, rfl, ?_, ?_⟩
  · refine own_base (base := w.heap.size + 3) ?_ (by omega)
    exact ownsRow_setCell_below (ownsRow_setCell_below (ownsRow_setCell_below (ownsRow_setCell_below (ownsRow_setCell_below (ownsRow_setCell_below (ho4) (by simp; try omega) _) (by simp; try omega) _) (by simp; try omega) _) (by simp; try omega) _) (by simp; try omega) _) (by simp; try omega) _
  · exact (by with_reducible repeat (first | exact Below.refl _ _ | assumption | refine below_step ?_ (by assumption) | refine Below.drew ?_ | refine below_drewN ?_ _ | refine below_alloc ?_ _ | refine Below.setCell ?_ (by simp; try omega) _))

def tzDisc (l4 : List DSector) : List Nat := tzSector l4
set_option maxRecDepth 100000 in
set_option maxHeartbeats 600000 in
theorem szDisc_any (a0 : Int) (a1 : Int) (a2 : Int) (a3 : Int) (A4 : Option Addr) (c4 : Nat) (l4 : List DSector) (left : Int) (w : World) (H4 : Rd w w.heap.size 2 A4 l4.length (flat fSector l4)) (Hn4 : l4.length ≤ maxLen) (h0 : 0 ≤ left) (h1 : left ≤ 1048576) (hok4 : ∀ x ∈ l4, okSector x) :
    Calls Try.prog 42 #[.agg #[.int .i64 a0, .int .i64 a1, .int .i64 a2, .int .i64 a3, .slice A4 l4.length c4], .int .i64 left] w fun e w' => e = .returned (.int .i64 (subs left (tzDisc l4))) ∧ Below w.heap.size w w' := by
  rcases subs_cases (tzSector l4) left h0 with hq0 | ⟨hq0, hp0⟩
  · have HQ0 := Lib.hid hq0
    have HR := Lib.hid (show (-1 : Int) = subs left (tzDisc l4) from (by unfold tzDisc; exact hq0.symm))
    clear hq0
    go_enter Try.func42, Try.ntmps42
    go_wp2_with (first
      | (go_at_call 94; refine (szSectorS_any A4 c4 l4 left _ ((H4.below (by with_reducible repeat (first | exact Below.refl _ _ | assumption | refine below_step ?_ (by assumption) | refine Below.drew ?_ | refine below_drewN ?_ _ | refine below_alloc ?_ _ | refine Below.setCell ?_ (by simp; try omega) _))).more (by simp; try omega)) Hn4 h0 h1 hok4).mono ?_; rintro e w1 ⟨rfl, hx1⟩; rw [HQ0.out]; obtain ⟨hc1, hf1⟩ := bcell hx1; have mk1 := True.intro))
    go_ret
    exact ⟨ret_int HR.out, (by with_reducible repeat (first | exact Below.refl _ _ | assumption | refine below_step ?_ (by assumption) | refine Below.drew ?_ | refine below_drewN ?_ _ | refine below_alloc ?_ _ | refine Below.setCell ?_ (by simp; try omega) _))⟩
  · obtain ⟨y1, hy1⟩ : ∃ y : Int, y = left - ((tzSector l4).sum : Nat) := ⟨_, rfl⟩
    rw [← hy1] at hq0 hp0
    have p1 : 0 ≤ y1 := hp0
    have r1 : y1 ≤ 1048576 := by omega
    have HQ0 := Lib.hid hq0
    have HR := Lib.hid (show y1 = subs left (tzDisc l4) from (by unfold tzDisc; exact hq0.symm))
    clear hq0 hy1
    go_enter Try.func42, Try.ntmps42
    go_wp2_with (first
      | (go_at_call 94; refine (szSectorS_any A4 c4 l4 left _ ((H4.below (by with_reducible repeat (first | exact Below.refl _ _ | assumption | refine below_step ?_ (by assumption) | refine Below.drew ?_ | refine below_drewN ?_ _ | refine below_alloc ?_ _ | refine Below.setCell ?_ (by simp; try omega) _))).more (by simp; try omega)) Hn4 h0 h1 hok4).mono ?_; rintro e w1 ⟨rfl, hx1⟩; rw [HQ0.out]; obtain ⟨hc1, hf1⟩ := bcell hx1; have mk1 := True.intro))
    go_ret
    exact ⟨ret_int HR.out, (by with_reducible repeat (first | exact Below.refl _ _ | assumption | refine below_step ?_ (by assumption) | refine Below.drew ?_ | refine below_drewN ?_ _ | refine below_alloc ?_ _ | refine Below.setCell ?_ (by simp; try omega) _))⟩

set_option maxRecDepth 100000 in
set_option maxHeartbeats 600000 in
theorem eqDisc_any (a0 : Int) (a1 : Int) (a2 : Int) (a3 : Int) (A4 B4 : Option Addr) (c4 d4 : Nat) (l4 : List DSector) (w : World) (h4 : Rd w w.heap.size 2 A4 l4.length (flat fSector l4)) (g4 : Rd w w.heap.size 2 B4 l4.length (flat fSector l4)) (hn4 : l4.length ≤ 1048576) :
    Calls Try.prog 47 #[.agg #[.int .i64 a0, .int .i64 a1, .int .i64 a2, .int .i64 a3, .slice A4 l4.length c4], .agg #[.int .i64 a0, .int .i64 a1, .int .i64 a2, .int .i64 a3, .slice B4 l4.length d4]] w fun e w' => e = .returned (.bool true) ∧ Below w.heap.size w w' := by
  go_enter Try.func47, Try.ntmps47
  go_wp2_with (first
    | (go_at_call 100; refine (eqSectorS_any A4 B4 c4 d4 l4 _ ((h4.below (by with_reducible repeat (first | exact Below.refl _ _ | assumption | refine below_step ?_ (by assumption) | refine Below.drew ?_ | refine below_drewN ?_ _ | refine below_alloc ?_ _ | refine Below.setCell ?_ (by simp; try omega) _))).more (by simp; try omega)) ((g4.below (by with_reducible repeat (first | exact Below.refl _ _ | assumption | refine below_step ?_ (by assumption) | refine Below.drew ?_ | refine below_drewN ?_ _ | refine below_alloc ?_ _ | refine Below.setCell ?_ (by simp; try omega) _))).more (by simp; try omega)) hn4).mono ?_; rintro e w1 ⟨rfl, hx1⟩; obtain ⟨hc1, hf1⟩ := bcell hx1; have mk1 := True.intro))
  go_ret
  exact ⟨rfl, (by with_reducible repeat (first | exact Below.refl _ _ | assumption | refine below_step ?_ (by assumption) | refine Below.drew ?_ | refine below_drewN ?_ _ | refine below_alloc ?_ _ | refine Below.setCell ?_ (by simp; try omega) _))⟩

set_option maxRecDepth 100000 in
theorem openDisc {H : Type} {enc : TypeId × Value → H} {w : World} {fuel : Nat} {cs : List Value} {x : DataW H × List MemPlace} (h : DataW.trod enc Try.prog w 0 (fun _ => true) true fuel 80 cs = some x) :
    ∃ (a0 : Int) (a1 : Int) (a2 : Int) (a3 : Int) (A4 : Option Addr) (c4 : Nat) (l4 : List DSector), cs = [.int .i64 a0, .int .i64 a1, .int .i64 a2, .int .i64 a3, .slice A4 l4.length c4] ∧ Rd w w.heap.size 2 A4 l4.length (flat fSector l4) ∧ l4.length ≤ maxLen ∧ (∀ x ∈ l4, okSector x) ∧ (-9223372036854775808 ≤ a0 ∧ a0 ≤ 9223372036854775807) ∧ (-9223372036854775808 ≤ a1 ∧ a1 ≤ 9223372036854775807) ∧ (-9223372036854775808 ≤ a2 ∧ a2 ≤ 9223372036854775807) ∧ (-9223372036854775808 ≤ a3 ∧ a3 ≤ 9223372036854775807) := by
  obtain ⟨xs, m, rfl, rfl, hl, hxl, hf⟩ := DataW.trod_struct Try.underlying80 h
  rw [show Try.prog.cellsOf 80 = 5 from by kernel_rfl] at hl
  replace hxl : xs.length = 5 := hxl
  obtain ⟨x0, x1, x2, x3, x4, rfl⟩ : ∃ x0 x1 x2 x3 x4, cs = [x0, x1, x2, x3, x4] := by
    match cs, hl with | [x0, x1, x2, x3, x4], _ => exact ⟨x0, x1, x2, x3, x4, rfl⟩
  have g0 : DataW.trod enc Try.prog w 0 (fun _ => true) true m 2 [x0] = xs[0]? := by
    have := hf 0 _ rfl
    rw [show Try.prog.cellsOf _ = 1 from by kernel_rfl] at this
    exact this
  rw [List.getElem?_eq_getElem (by omega)] at g0
  obtain ⟨a0, e0, _, u0⟩ := DataW.trod_int Try.underlying2 g0
  simp only [List.cons.injEq, and_true] at e0
  subst e0
  have r0 : -9223372036854775808 ≤ a0 ∧ a0 ≤ 9223372036854775807 := by
    simp only [Lit.wf, Bool.and_eq_true, decide_eq_true_eq] at u0
    exact u0
  have g1 : DataW.trod enc Try.prog w 0 (fun _ => true) true m 2 [x1] = xs[1]? := by
    have := hf 1 _ rfl
    rw [show Try.prog.cellsOf _ = 1 from by kernel_rfl] at this
    exact this
  rw [List.getElem?_eq_getElem (by omega)] at g1
  obtain ⟨a1, e1, _, u1⟩ := DataW.trod_int Try.underlying2 g1
  simp only [List.cons.injEq, and_true] at e1
  subst e1
  have r1 : -9223372036854775808 ≤ a1 ∧ a1 ≤ 9223372036854775807 := by
    simp only [Lit.wf, Bool.and_eq_true, decide_eq_true_eq] at u1
    exact u1
  have g2 : DataW.trod enc Try.prog w 0 (fun _ => true) true m 2 [x2] = xs[2]? := by
    have := hf 2 _ rfl
    rw [show Try.prog.cellsOf _ = 1 from by kernel_rfl] at this
    exact this
  rw [List.getElem?_eq_getElem (by omega)] at g2
  obtain ⟨a2, e2, _, u2⟩ := DataW.trod_int Try.underlying2 g2
  simp only [List.cons.injEq, and_true] at e2
  subst e2
  have r2 : -9223372036854775808 ≤ a2 ∧ a2 ≤ 9223372036854775807 := by
    simp only [Lit.wf, Bool.and_eq_true, decide_eq_true_eq] at u2
    exact u2
  have g3 : DataW.trod enc Try.prog w 0 (fun _ => true) true m 2 [x3] = xs[3]? := by
    have := hf 3 _ rfl
    rw [show Try.prog.cellsOf _ = 1 from by kernel_rfl] at this
    exact this
  rw [List.getElem?_eq_getElem (by omega)] at g3
  obtain ⟨a3, e3, _, u3⟩ := DataW.trod_int Try.underlying2 g3
  simp only [List.cons.injEq, and_true] at e3
  subst e3
  have r3 : -9223372036854775808 ≤ a3 ∧ a3 ≤ 9223372036854775807 := by
    simp only [Lit.wf, Bool.and_eq_true, decide_eq_true_eq] at u3
    exact u3
  have g4 : DataW.trod enc Try.prog w 0 (fun _ => true) true m 78 [x4] = xs[4]? := by
    have := hf 4 _ rfl
    rw [show Try.prog.cellsOf _ = 1 from by kernel_rfl] at this
    exact this
  rw [List.getElem?_eq_getElem (by omega)] at g4
  obtain ⟨A4, c4, l4, e4, hR4, hm4, hk4⟩ := open_flat (f := fSector) (ok := okSector) (size := 2) Try.underlying78 (by kernel_rfl) (by omega) fSector_len (fun fuel cs x h => openSector h) g4
  simp only [List.cons.injEq, and_true] at e4
  subst e4
  exact ⟨a0, a1, a2, a3, A4, c4, l4, rfl, hR4, hm4, hk4, r0, r1, r2, r3⟩
set_option maxRecDepth 100000 in
theorem argDisc {H : Type} {enc : TypeId × Value → H} {w : World} {r : Reach} {b0 : Nat} {v : Value} {d : DataW H} {p : List MemPlace} (hv : Value.okWide Try.prog w r b0 80 v) (h : DataW.Trod enc Try.prog w 0 (fun _ => true) true 80 v d p) :
    ∃ (a0 : Int) (a1 : Int) (a2 : Int) (a3 : Int) (A4 : Option Addr) (c4 : Nat) (l4 : List DSector), v = .agg #[.int .i64 a0, .int .i64 a1, .int .i64 a2, .int .i64 a3, .slice A4 l4.length c4] ∧ Rd w w.heap.size 2 A4 l4.length (flat fSector l4) ∧ l4.length ≤ maxLen ∧ (∀ x ∈ l4, okSector x) ∧ (-9223372036854775808 ≤ a0 ∧ a0 ≤ 9223372036854775807) ∧ (-9223372036854775808 ≤ a1 ∧ a1 ≤ 9223372036854775807) ∧ (-9223372036854775808 ≤ a2 ∧ a2 ≤ 9223372036854775807) ∧ (-9223372036854775808 ≤ a3 ∧ a3 ≤ 9223372036854775807) := by
  obtain ⟨cs, rfl, hsz⟩ := okWide_struct Try.underlying80 hv
  obtain ⟨fuel, hf⟩ := h
  obtain ⟨a0, a1, a2, a3, A4, c4, l4, e, hrest⟩ := openDisc hf
  refine ⟨a0, a1, a2, a3, A4, c4, l4, ?_, hrest⟩
  congr 1
  apply Array.ext'
  simpa [Value.cells] using e

set_option maxRecDepth 100000 in
set_option maxHeartbeats 600000 in
theorem markDisc_any (a0 : Int) (a1 : Int) (a2 : Int) (a3 : Int) (A4 : Option Addr) (c4 : Nat) (l4 : List DSector) (k : Nat) (w : World) (base : Nat) (h : w.ownsRow base 39 2 (.slice A4 l4.length c4) l4.length (flat fSector l4)) (hk1 : 1 ≤ k) (hk2 : k ≤ 10000000000) (hl : l4.length ≤ 10000000000) :
    Calls Try.prog 48 #[.agg #[.int .i64 a0, .int .i64 a1, .int .i64 a2, .int .i64 a3, .slice A4 l4.length c4], .int .i64 (k : Int)] w fun e w' => e = .returned (.int .i64 ((k + 2 * l4.length : Nat) : Int)) ∧ w'.ownsRow base 39 2 (.slice A4 l4.length c4) l4.length (flat fSector (mksSector k l4.length)) ∧ w.grownBy w' (Value.slice A4 l4.length c4).ownBlock := by
  go_enter Try.func48, Try.ntmps48
  go_wp2_with (go_at_call 101; refine (markSectorS_any A4 c4 k l4 _ base (World.ownsRow.alloc h _) hk1 hk2 hl).mono ?_; rintro e w1 ⟨rfl, ho, hg⟩)
  go_ret
  exact ⟨rfl, ho, (World.grownBy_alloc w _ _).trans hg⟩

set_option maxRecDepth 100000 in
set_option maxHeartbeats 600000 in
theorem heldDisc_any (a0 : Int) (a1 : Int) (a2 : Int) (a3 : Int) (A : Option Addr) (c k n : Nat) (w : World) (h : Rd w w.heap.size 2 A n (flat fSector (mksSector k n))) (hk1 : 1 ≤ k) (hk2 : k ≤ 10000000000) (hl : n ≤ 10000000000) :
    Calls Try.prog 57 #[.agg #[.int .i64 a0, .int .i64 a1, .int .i64 a2, .int .i64 a3, .slice A n c], .int .i64 (k : Int)] w fun e w' => e = .returned (.int .i64 ((k + 2 * n : Nat) : Int)) ∧ Below w.heap.size w w' := by
  go_enter Try.func57, Try.ntmps57
  go_wp2_with (go_at_call 113; refine (heldSectorS_any A c k n _ ((h.below (by with_reducible repeat (first | exact Below.refl _ _ | assumption | refine below_step ?_ (by assumption) | refine Below.drew ?_ | refine below_drewN ?_ _ | refine below_alloc ?_ _ | refine Below.setCell ?_ (by simp; try omega) _))).more (by simp; try omega)) hk1 hk2 hl).mono ?_; rintro e w1 ⟨rfl, hx⟩)
  go_ret
  exact ⟨rfl, (by with_reducible repeat (first | exact Below.refl _ _ | assumption | refine below_step ?_ (by assumption) | refine Below.drew ?_ | refine below_drewN ?_ _ | refine below_alloc ?_ _ | refine Below.setCell ?_ (by simp; try omega) _))⟩
end Go.Proofs.Yticnmljahnnhcaa
