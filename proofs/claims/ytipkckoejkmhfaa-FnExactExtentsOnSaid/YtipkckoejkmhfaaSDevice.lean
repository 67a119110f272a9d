/- Walks of the helpers in laws: Device. Printed by mk_deep.py. -/
import Derived.Test.YtipkckoejkmhfaaSDisc
import Derived.Test.YtipkckoejkmhfaaSInt64
import Derived.Test.YtipkckoejkmhfaaOpen
import Derived.Test.YtipkckoejkmhfaaStep
namespace Go.Proofs.Ytipkckoejkmhfaa
open Go.RowKit Go.ChangeShapes Go.WideShapes Go.Deep

set_option maxRecDepth 100000 in
set_option maxHeartbeats 600000 in
theorem toDevice_any (a0 : Int) (a1 : Int) (a2 : Int) (a3 : Int) (A4 : Option Addr) (c4 : Nat) (l4 : List DSector) (a5 : Int) (a6 : Int) (A7 : Option Addr) (c7 : Nat) (l7 : List Int) (w : World) (h4 : Rd w w.heap.size 2 A4 l4.length (flat fSector l4)) (h7 : Rd w w.heap.size 1 A7 l7.length (flat fI l7)) (hn4 : l4.length ≤ 1048576) (hn7 : l7.length ≤ 1048576) :
    Calls Try.prog 27 #[.agg #[.int .i64 a0, .int .i64 a1, .int .i64 a2, .int .i64 a3, .slice A4 l4.length c4, .int .i64 a5, .int .i64 a6, .slice A7 l7.length c7]] w fun e w' => ∃ v4 v7, e = .returned (.agg #[.int .i64 a0, .int .i64 a1, .int .i64 a2, .int .i64 a3, v4, .int .i64 a5, .int .i64 a6, v7]) ∧ w'.ownsRow w.heap.size 90 2 v4 l4.length (flat fSector l4) ∧ w'.ownsRow w.heap.size 2 1 v7 l7.length (flat fI l7) ∧ (v4.ownBlock = none ∨ v4.ownBlock ≠ v7.ownBlock) ∧ Below w.heap.size w w' := by
  go_enter Try.func27, Try.ntmps27
  go_wp2_with (first
    | (go_at_call 50; have := mk1; refine (toInt64S_any A7 c7 l7 _ ((h7.below (by with_reducible repeat (first | exact Below.refl _ _ | assumption | refine below_step ?_ (by assumption) | refine Below.drew ?_ | refine below_drewN ?_ _ | refine below_alloc ?_ _ | refine Below.setCell ?_ (by simp; try omega) _))).more (by first | omega | (simp; done) | (simp; omega))) hn7).mono ?_; rintro e w2 ⟨v7, rfl, ho7, hx2⟩; have he4_7 : (Value.slice E4 l4.length q4).ownBlock = none ∨ (Value.slice E4 l4.length q4).ownBlock ≠ v7.ownBlock := (by refine own_ne (base := w.heap.size + 3) (size := 2) (e := 90) (n := l4.length) (xs := flat fSector l4) ?_ ho7 (Nat.le_refl _); with_reducible repeat (first | exact ho4 | refine ownsRow_setCell_below ?_ (by simp; try omega) _)); replace ho4 : World.ownsRow w2 (w.heap.size + 3) 90 2 (.slice E4 l4.length q4) l4.length (flat fSector l4) := (by refine own_later ?_ hx2 (Nat.le_refl _); with_reducible repeat (first | exact ho4 | refine ownsRow_setCell_below ?_ (by simp; try omega) _)); obtain ⟨E7, q7, rfl⟩ := own_form ho7; replace ho7 := own_base (base' := w.heap.size + 3) ho7 (by simp; try omega); have mk2 := True.intro; obtain ⟨hc2, hf2⟩ := bcell hx2; have hs2 : w.heap.size + 3 ≤ w2.heap.size := (by have := hx2.size; simp at this; omega); have z2_0 : w2.cell? ⟨w.heap.size + 1, 0, none⟩ = some (.int .i64 0) := (by rw [hc2 _ _ (by simp; try omega)]; simp [World.cell?_setCell_other, z1_0]); have z2_1 : w2.cell? ⟨w.heap.size + 1, 1, none⟩ = some (.int .i64 0) := (by rw [hc2 _ _ (by simp; try omega)]; simp [World.cell?_setCell_other, z1_1]); have z2_2 : w2.cell? ⟨w.heap.size + 1, 2, none⟩ = some (.int .i64 0) := (by rw [hc2 _ _ (by simp; try omega)]; simp [World.cell?_setCell_other, z1_2]); have z2_3 : w2.cell? ⟨w.heap.size + 1, 3, none⟩ = some (.int .i64 0) := (by rw [hc2 _ _ (by simp; try omega)]; simp [World.cell?_setCell_other, z1_3]); have z2_4 : w2.cell? ⟨w.heap.size + 1, 4, none⟩ = some (.slice none 0 0) := (by rw [hc2 _ _ (by simp; try omega)]; simp [World.cell?_setCell_other, z1_4]); have z2_5 : w2.cell? ⟨w.heap.size + 1, 5, none⟩ = some (.int .i64 0) := (by rw [hc2 _ _ (by simp; try omega)]; simp [World.cell?_setCell_other, z1_5]); have z2_6 : w2.cell? ⟨w.heap.size + 1, 6, none⟩ = some (.int .i64 0) := (by rw [hc2 _ _ (by simp; try omega)]; simp [World.cell?_setCell_other, z1_6]); have z2_7 : w2.cell? ⟨w.heap.size + 1, 7, none⟩ = some (.slice none 0 0) := (by rw [hc2 _ _ (by simp; try omega)]; simp [World.cell?_setCell_other, z1_7]); have y2_0 : w2.cell? ⟨w.heap.size + 1 + 1, 0, none⟩ = some (.int .i64 a0) := (by rw [hc2 _ _ (by simp; try omega)]; simp [World.cell?_setCell_other, World.cell?_setCell_same', y1_0]); have y2_1 : w2.cell? ⟨w.heap.size + 1 + 1, 1, none⟩ = some (.int .i64 a1) := (by rw [hc2 _ _ (by simp; try omega)]; simp [World.cell?_setCell_other, World.cell?_setCell_same', y1_1]); have y2_2 : w2.cell? ⟨w.heap.size + 1 + 1, 2, none⟩ = some (.int .i64 a2) := (by rw [hc2 _ _ (by simp; try omega)]; simp [World.cell?_setCell_other, World.cell?_setCell_same', y1_2]); have y2_3 : w2.cell? ⟨w.heap.size + 1 + 1, 3, none⟩ = some (.int .i64 a3) := (by rw [hc2 _ _ (by simp; try omega)]; simp [World.cell?_setCell_other, World.cell?_setCell_same', y1_3]); have y2_4 : w2.cell? ⟨w.heap.size + 1 + 1, 4, none⟩ = some (.slice E4 l4.length q4) := (by rw [hc2 _ _ (by simp; try omega)]; simp [World.cell?_setCell_other, World.cell?_setCell_same', y1_4]); have y2_5 : w2.cell? ⟨w.heap.size + 1 + 1, 5, none⟩ = some (.int .i64 a5) := (by rw [hc2 _ _ (by simp; try omega)]; simp [World.cell?_setCell_other, World.cell?_setCell_same', y1_5]); have y2_6 : w2.cell? ⟨w.heap.size + 1 + 1, 6, none⟩ = some (.int .i64 a6) := (by rw [hc2 _ _ (by simp; try omega)]; simp [World.cell?_setCell_other, World.cell?_setCell_same', y1_6]); have y2_7 : w2.cell? ⟨w.heap.size + 1 + 1, 7, none⟩ = some (.slice none 0 0) := (by rw [hc2 _ _ (by simp; try omega)]; simp [World.cell?_setCell_other, y1_7]); have x2 : ∀ j, w2.frozen? ⟨w.heap.size + 1 + 1, j, none⟩ = false := (by intro j; rw [hf2 _ _ (by simp; try omega)]; simp [x1]); have u2 : ∀ j, w2.frozen? ⟨w.heap.size + 1, j, none⟩ = false := (by intro j; rw [hf2 _ _ (by simp; try omega)]; simp [u1]))
    | (go_at_call 49; refine (toDisc_any a0 a1 a2 a3 A4 c4 l4 _ ((h4.below (by with_reducible repeat (first | exact Below.refl _ _ | assumption | refine below_step ?_ (by assumption) | refine Below.drew ?_ | refine below_drewN ?_ _ | refine below_alloc ?_ _ | refine Below.setCell ?_ (by simp; try omega) _))).more (by first | omega | (simp; done) | (simp; omega))) hn4).mono ?_; rintro e w1 ⟨v4, rfl, ho4, hx1⟩; obtain ⟨E4, q4, rfl⟩ := own_form ho4; replace ho4 := own_base (base' := w.heap.size + 3) ho4 (by simp; try omega); have mk1 := True.intro; obtain ⟨hc1, hf1⟩ := bcell hx1; have hs1 : w.heap.size + 3 ≤ w1.heap.size := (by have := hx1.size; simp at this; omega); have z1_0 : w1.cell? ⟨w.heap.size + 1, 0, none⟩ = some (.int .i64 0) := (by rw [hc1 _ _ (by simp; try omega)]; simp [go_sem]); have z1_1 : w1.cell? ⟨w.heap.size + 1, 1, none⟩ = some (.int .i64 0) := (by rw [hc1 _ _ (by simp; try omega)]; simp [go_sem]); have z1_2 : w1.cell? ⟨w.heap.size + 1, 2, none⟩ = some (.int .i64 0) := (by rw [hc1 _ _ (by simp; try omega)]; simp [go_sem]); have z1_3 : w1.cell? ⟨w.heap.size + 1, 3, none⟩ = some (.int .i64 0) := (by rw [hc1 _ _ (by simp; try omega)]; simp [go_sem]); have z1_4 : w1.cell? ⟨w.heap.size + 1, 4, none⟩ = some (.slice none 0 0) := (by rw [hc1 _ _ (by simp; try omega)]; simp [go_sem]); have z1_5 : w1.cell? ⟨w.heap.size + 1, 5, none⟩ = some (.int .i64 0) := (by rw [hc1 _ _ (by simp; try omega)]; simp [go_sem]); have z1_6 : w1.cell? ⟨w.heap.size + 1, 6, none⟩ = some (.int .i64 0) := (by rw [hc1 _ _ (by simp; try omega)]; simp [go_sem]); have z1_7 : w1.cell? ⟨w.heap.size + 1, 7, none⟩ = some (.slice none 0 0) := (by rw [hc1 _ _ (by simp; try omega)]; simp [go_sem]); have y1_0 : w1.cell? ⟨w.heap.size + 1 + 1, 0, none⟩ = some (.int .i64 0) := (by rw [hc1 _ _ (by simp; try omega)]; simp [go_sem]); have y1_1 : w1.cell? ⟨w.heap.size + 1 + 1, 1, none⟩ = some (.int .i64 0) := (by rw [hc1 _ _ (by simp; try omega)]; simp [go_sem]); have y1_2 : w1.cell? ⟨w.heap.size + 1 + 1, 2, none⟩ = some (.int .i64 0) := (by rw [hc1 _ _ (by simp; try omega)]; simp [go_sem]); have y1_3 : w1.cell? ⟨w.heap.size + 1 + 1, 3, none⟩ = some (.int .i64 0) := (by rw [hc1 _ _ (by simp; try omega)]; simp [go_sem]); have y1_4 : w1.cell? ⟨w.heap.size + 1 + 1, 4, none⟩ = some (.slice none 0 0) := (by rw [hc1 _ _ (by simp; try omega)]; simp [go_sem]); have y1_5 : w1.cell? ⟨w.heap.size + 1 + 1, 5, none⟩ = some (.int .i64 0) := (by rw [hc1 _ _ (by simp; try omega)]; simp [go_sem]); have y1_6 : w1.cell? ⟨w.heap.size + 1 + 1, 6, none⟩ = some (.int .i64 0) := (by rw [hc1 _ _ (by simp; try omega)]; simp [go_sem]); have y1_7 : w1.cell? ⟨w.heap.size + 1 + 1, 7, none⟩ = some (.slice none 0 0) := (by rw [hc1 _ _ (by simp; try omega)]; simp [go_sem]); have x1 : ∀ j, w1.frozen? ⟨w.heap.size + 1 + 1, j, none⟩ = false := (by intro j; rw [hf1 _ _ (by simp; try omega)]; simp [go_sem]); have u1 : ∀ j, w1.frozen? ⟨w.heap.size + 1, j, none⟩ = false := (by intro j; rw [hf1 _ _ (by simp; try omega)]; simp [go_sem])))
  clear hc1 hf1 hc2 hf2
  refine bodyPost_ret (v := .agg #[.int .i64 a0, .int .i64 a1, .int .i64 a2, .int .i64 a3, .slice E4 l4.length q4, .int .i64 a5, .int .i64 a6, .slice E7 l7.length q7]) (by simp [results, Try.results27, go_sem, World.cell?_setCell_other, z2_0, z2_1, z2_2, z2_3, z2_4, z2_5, z2_6, z2_7]) rfl ⟨_, _, rfl, ?_, ?_, ?_, ?_⟩
  · refine own_base (base := w.heap.size + 3) ?_ (by omega)
    exact ownsRow_setCell_below (ownsRow_setCell_below (ownsRow_setCell_below (ownsRow_setCell_below (ownsRow_setCell_below (ownsRow_setCell_below (ownsRow_setCell_below (ownsRow_setCell_below (ownsRow_setCell_below (ho4) (by simp; try omega) _) (by simp; try omega) _) (by simp; try omega) _) (by simp; try omega) _) (by simp; try omega) _) (by simp; try omega) _) (by simp; try omega) _) (by simp; try omega) _) (by simp; try omega) _
  · refine own_base (base := w.heap.size + 3) ?_ (by omega)
    exact ownsRow_setCell_below (ownsRow_setCell_below (ownsRow_setCell_below (ownsRow_setCell_below (ownsRow_setCell_below (ownsRow_setCell_below (ownsRow_setCell_below (ownsRow_setCell_below (ownsRow_setCell_below (ho7) (by simp; try omega) _) (by simp; try omega) _) (by simp; try omega) _) (by simp; try omega) _) (by simp; try omega) _) (by simp; try omega) _) (by simp; try omega) _) (by simp; try omega) _) (by simp; try omega) _
  · exact he4_7
  · exact (by with_reducible repeat (first | exact Below.refl _ _ | assumption | refine below_step ?_ (by assumption) | refine Below.drew ?_ | refine below_drewN ?_ _ | refine below_alloc ?_ _ | refine Below.setCell ?_ (by simp; try omega) _))

def tzDevice (l4 : List DSector) (l7 : List Int) : List Nat := tzDisc l4 ++ tzInt64 l7
set_option maxRecDepth 100000 in
set_option maxHeartbeats 600000 in
theorem szDevice_any (a0 : Int) (a1 : Int) (a2 : Int) (a3 : Int) (A4 : Option Addr) (c4 : Nat) (l4 : List DSector) (a5 : Int) (a6 : Int) (A7 : Option Addr) (c7 : Nat) (l7 : List Int) (left : Int) (w : World) (H4 : Rd w w.heap.size 2 A4 l4.length (flat fSector l4)) (H7 : Rd w w.heap.size 1 A7 l7.length (flat fI l7)) (Hn4 : l4.length ≤ maxLen) (Hn7 : l7.length ≤ maxLen) (h0 : 0 ≤ left) (h1 : left ≤ 1048576) (hok4 : ∀ x ∈ l4, okSector x) (hok7 : ∀ x ∈ l7, okInt64 x) :
    Calls Try.prog 25 #[.agg #[.int .i64 a0, .int .i64 a1, .int .i64 a2, .int .i64 a3, .slice A4 l4.length c4, .int .i64 a5, .int .i64 a6, .slice A7 l7.length c7], .int .i64 left] w fun e w' => e = .returned (.int .i64 (subs left (tzDevice l4 l7))) ∧ Below w.heap.size w w' := by
  rcases subs_cases (tzDisc l4) left h0 with hq0 | ⟨hq0, hp0⟩
  · have HQ0 := Lib.hid hq0
    have HR := Lib.hid (show (-1 : Int) = subs left (tzDevice l4 l7) from (by unfold tzDevice; exact (subs_neg _ _ _ h0 hq0).symm))
    clear hq0
    go_enter Try.func25, Try.ntmps25
    go_wp2_with (first
      | (go_at_call 43; refine (szDisc_any a0 a1 a2 a3 A4 c4 l4 left _ ((H4.below (by with_reducible repeat (first | exact Below.refl _ _ | assumption | refine below_step ?_ (by assumption) | refine Below.drew ?_ | refine below_drewN ?_ _ | refine below_alloc ?_ _ | refine Below.setCell ?_ (by simp; try omega) _))).more (by first | omega | (simp; done) | (simp; omega))) Hn4 h0 h1 hok4).mono ?_; rintro e w1 ⟨rfl, hx1⟩; rw [HQ0.out]; obtain ⟨hc1, hf1⟩ := bcell hx1; have hs1 : w.heap.size + 1 ≤ w1.heap.size := (by have := hx1.size; first | omega | (simp at this; omega)); have mk1 := True.intro))
    go_ret
    exact ⟨ret_int HR.out, (by with_reducible repeat (first | exact Below.refl _ _ | assumption | refine below_step ?_ (by assumption) | refine Below.drew ?_ | refine below_drewN ?_ _ | refine below_alloc ?_ _ | refine Below.setCell ?_ (by simp; try omega) _))⟩
  · obtain ⟨y1, hy1⟩ : ∃ y : Int, y = left - ((tzDisc l4).sum : Nat) := ⟨_, rfl⟩
    rw [← hy1] at hq0 hp0
    have p1 : 0 ≤ y1 := hp0
    have r1 : y1 ≤ 1048576 := by omega
    have hE0 := And.intro hq0 hp0
    have HQ0 := Lib.hid hq0
    clear hq0 hy1
    rcases subs_cases (tzInt64 l7) y1 p1 with hq1 | ⟨hq1, hp1⟩
    · have HQ1 := Lib.hid hq1
      have HR := Lib.hid (show (-1 : Int) = subs left (tzDevice l4 l7) from (by unfold tzDevice; rw [subs_pos _ _ _ _ h0 hE0]; exact hq1.symm))
      clear hq1
      go_enter Try.func25, Try.ntmps25
      go_wp2_with (first
        | (go_at_call 44; have := mk1; refine (szInt64S_any A7 c7 l7 y1 _ ((H7.below (by with_reducible repeat (first | exact Below.refl _ _ | assumption | refine below_step ?_ (by assumption) | refine Below.drew ?_ | refine below_drewN ?_ _ | refine below_alloc ?_ _ | refine Below.setCell ?_ (by simp; try omega) _))).more (by first | omega | (simp; done) | (simp; omega))) Hn7 p1 r1 hok7).mono ?_; rintro e w2 ⟨rfl, hx2⟩; rw [HQ1.out]; obtain ⟨hc2, hf2⟩ := bcell hx2; have hs2 : w.heap.size + 1 ≤ w2.heap.size := (by have := hx2.size; first | omega | (simp at this; omega)); have mk2 := True.intro)
        | (go_at_call 43; refine (szDisc_any a0 a1 a2 a3 A4 c4 l4 left _ ((H4.below (by with_reducible repeat (first | exact Below.refl _ _ | assumption | refine below_step ?_ (by assumption) | refine Below.drew ?_ | refine below_drewN ?_ _ | refine below_alloc ?_ _ | refine Below.setCell ?_ (by simp; try omega) _))).more (by first | omega | (simp; done) | (simp; omega))) Hn4 h0 h1 hok4).mono ?_; rintro e w1 ⟨rfl, hx1⟩; rw [HQ0.out]; obtain ⟨hc1, hf1⟩ := bcell hx1; have hs1 : w.heap.size + 1 ≤ w1.heap.size := (by have := hx1.size; first | omega | (simp at this; omega)); have mk1 := True.intro))
      go_ret
      exact ⟨ret_int HR.out, (by with_reducible repeat (first | exact Below.refl _ _ | assumption | refine below_step ?_ (by assumption) | refine Below.drew ?_ | refine below_drewN ?_ _ | refine below_alloc ?_ _ | refine Below.setCell ?_ (by simp; try omega) _))⟩
    · obtain ⟨y2, hy2⟩ : ∃ y : Int, y = y1 - ((tzInt64 l7).sum : Nat) := ⟨_, rfl⟩
      rw [← hy2] at hq1 hp1
      have p2 : 0 ≤ y2 := hp1
      have r2 : y2 ≤ 1048576 := by omega
      have hE1 := And.intro hq1 hp1
      have HQ1 := Lib.hid hq1
      have HR := Lib.hid (show y2 = subs left (tzDevice l4 l7) from (by unfold tzDevice; rw [subs_pos _ _ _ _ h0 hE0]; exact hq1.symm))
      clear hq1 hy2 hE0 hE1
      go_enter Try.func25, Try.ntmps25
      go_wp2_with (first
        | (go_at_call 44; have := mk1; refine (szInt64S_any A7 c7 l7 y1 _ ((H7.below (by with_reducible repeat (first | exact Below.refl _ _ | assumption | refine below_step ?_ (by assumption) | refine Below.drew ?_ | refine below_drewN ?_ _ | refine below_alloc ?_ _ | refine Below.setCell ?_ (by simp; try omega) _))).more (by first | omega | (simp; done) | (simp; omega))) Hn7 p1 r1 hok7).mono ?_; rintro e w2 ⟨rfl, hx2⟩; rw [HQ1.out]; obtain ⟨hc2, hf2⟩ := bcell hx2; have hs2 : w.heap.size + 1 ≤ w2.heap.size := (by have := hx2.size; first | omega | (simp at this; omega)); have mk2 := True.intro)
        | (go_at_call 43; refine (szDisc_any a0 a1 a2 a3 A4 c4 l4 left _ ((H4.below (by with_reducible repeat (first | exact Below.refl _ _ | assumption | refine below_step ?_ (by assumption) | refine Below.drew ?_ | refine below_drewN ?_ _ | refine below_alloc ?_ _ | refine Below.setCell ?_ (by simp; try omega) _))).more (by first | omega | (simp; done) | (simp; omega))) Hn4 h0 h1 hok4).mono ?_; rintro e w1 ⟨rfl, hx1⟩; rw [HQ0.out]; obtain ⟨hc1, hf1⟩ := bcell hx1; have hs1 : w.heap.size + 1 ≤ w1.heap.size := (by have := hx1.size; first | omega | (simp at this; omega)); have mk1 := True.intro))
      go_ret
      exact ⟨ret_int HR.out, (by with_reducible repeat (first | exact Below.refl _ _ | assumption | refine below_step ?_ (by assumption) | refine Below.drew ?_ | refine below_drewN ?_ _ | refine below_alloc ?_ _ | refine Below.setCell ?_ (by simp; try omega) _))⟩

set_option maxRecDepth 100000 in
set_option maxHeartbeats 600000 in
theorem eqDevice_any (a0 : Int) (a1 : Int) (a2 : Int) (a3 : Int) (A4 B4 : Option Addr) (c4 d4 : Nat) (l4 : List DSector) (a5 : Int) (a6 : Int) (A7 B7 : Option Addr) (c7 d7 : Nat) (l7 : List Int) (w : World) (h4 : Rd w w.heap.size 2 A4 l4.length (flat fSector l4)) (g4 : Rd w w.heap.size 2 B4 l4.length (flat fSector l4)) (h7 : Rd w w.heap.size 1 A7 l7.length (flat fI l7)) (g7 : Rd w w.heap.size 1 B7 l7.length (flat fI l7)) (hn4 : l4.length ≤ 1048576) (hn7 : l7.length ≤ 1048576) :
    Calls Try.prog 29 #[.agg #[.int .i64 a0, .int .i64 a1, .int .i64 a2, .int .i64 a3, .slice A4 l4.length c4, .int .i64 a5, .int .i64 a6, .slice A7 l7.length c7], .agg #[.int .i64 a0, .int .i64 a1, .int .i64 a2, .int .i64 a3, .slice B4 l4.length d4, .int .i64 a5, .int .i64 a6, .slice B7 l7.length d7]] w fun e w' => e = .returned (.bool true) ∧ Below w.heap.size w w' := by
  go_enter Try.func29, Try.ntmps29
  go_wp2_with (first
    | (go_at_call 21; have := mk1; refine (eqInt64S_b A7 B7 c7 d7 l7 _ ((h7.below (by with_reducible repeat (first | exact Below.refl _ _ | assumption | refine below_step ?_ (by assumption) | refine Below.drew ?_ | refine below_drewN ?_ _ | refine below_alloc ?_ _ | refine Below.setCell ?_ (by simp; try omega) _))).more (by first | omega | (simp; done) | (simp; omega))) ((g7.below (by with_reducible repeat (first | exact Below.refl _ _ | assumption | refine below_step ?_ (by assumption) | refine Below.drew ?_ | refine below_drewN ?_ _ | refine below_alloc ?_ _ | refine Below.setCell ?_ (by simp; try omega) _))).more (by first | omega | (simp; done) | (simp; omega))) hn7).mono ?_; rintro e w2 ⟨rfl, hx2⟩; obtain ⟨hc2, hf2⟩ := bcell hx2; have hs2 : w.heap.size + 2 ≤ w2.heap.size := (by have := hx2.size; first | omega | (simp at this; omega)); have mk2 := True.intro)
    | (go_at_call 55; refine (eqDisc_any a0 a1 a2 a3 A4 B4 c4 d4 l4 _ ((h4.below (by with_reducible repeat (first | exact Below.refl _ _ | assumption | refine below_step ?_ (by assumption) | refine Below.drew ?_ | refine below_drewN ?_ _ | refine below_alloc ?_ _ | refine Below.setCell ?_ (by simp; try omega) _))).more (by first | omega | (simp; done) | (simp; omega))) ((g4.below (by with_reducible repeat (first | exact Below.refl _ _ | assumption | refine below_step ?_ (by assumption) | refine Below.drew ?_ | refine below_drewN ?_ _ | refine below_alloc ?_ _ | refine Below.setCell ?_ (by simp; try omega) _))).more (by first | omega | (simp; done) | (simp; omega))) hn4).mono ?_; rintro e w1 ⟨rfl, hx1⟩; obtain ⟨hc1, hf1⟩ := bcell hx1; have hs1 : w.heap.size + 2 ≤ w1.heap.size := (by have := hx1.size; first | omega | (simp at this; omega)); have mk1 := True.intro))
  go_ret
  exact ⟨rfl, (by with_reducible repeat (first | exact Below.refl _ _ | assumption | refine below_step ?_ (by assumption) | refine Below.drew ?_ | refine below_drewN ?_ _ | refine below_alloc ?_ _ | refine Below.setCell ?_ (by simp; try omega) _))⟩

set_option maxRecDepth 100000 in
theorem openDevice {H : Type} {enc : TypeId × Value → H} {w : World} {fuel : Nat} {cs : List Value} {x : DataW H × List MemPlace} (h : DataW.trod enc Try.prog w 0 (fun _ => true) true fuel 49 cs = some x) :
    ∃ (a0 : Int) (a1 : Int) (a2 : Int) (a3 : Int) (A4 : Option Addr) (c4 : Nat) (l4 : List DSector) (a5 : Int) (a6 : Int) (A7 : Option Addr) (c7 : Nat) (l7 : List Int), cs = [.int .i64 a0, .int .i64 a1, .int .i64 a2, .int .i64 a3, .slice A4 l4.length c4, .int .i64 a5, .int .i64 a6, .slice A7 l7.length c7] ∧ Rd w w.heap.size 2 A4 l4.length (flat fSector l4) ∧ l4.length ≤ maxLen ∧ (∀ x ∈ l4, okSector x) ∧ Rd w w.heap.size 1 A7 l7.length (flat fI l7) ∧ l7.length ≤ maxLen ∧ (∀ x ∈ l7, okInt64 x) ∧ (-9223372036854775808 ≤ a0 ∧ a0 ≤ 9223372036854775807) ∧ (-9223372036854775808 ≤ a1 ∧ a1 ≤ 9223372036854775807) ∧ (-9223372036854775808 ≤ a2 ∧ a2 ≤ 9223372036854775807) ∧ (-9223372036854775808 ≤ a3 ∧ a3 ≤ 9223372036854775807) ∧ (-9223372036854775808 ≤ a5 ∧ a5 ≤ 9223372036854775807) ∧ (-9223372036854775808 ≤ a6 ∧ a6 ≤ 9223372036854775807) := by
  obtain ⟨xs, m, rfl, rfl, hl, hxl, hf⟩ := DataW.trod_struct Try.underlying49 h
  rw [show Try.prog.cellsOf 49 = 8 from by kernel_rfl] at hl
  replace hxl : xs.length = 4 := hxl
  obtain ⟨x0, x1, x2, x3, x4, x5, x6, x7, rfl⟩ : ∃ x0 x1 x2 x3 x4 x5 x6 x7, cs = [x0, x1, x2, x3, x4, x5, x6, x7] := by
    match cs, hl with | [x0, x1, x2, x3, x4, x5, x6, x7], _ => exact ⟨x0, x1, x2, x3, x4, x5, x6, x7, rfl⟩
  have g0 : DataW.trod enc Try.prog w 0 (fun _ => true) true m 47 [x0, x1, x2, x3, x4] = xs[0]? := by
    have := hf 0 _ rfl
    rw [show Try.prog.cellsOf _ = 5 from by kernel_rfl] at this
    exact this
  rw [List.getElem?_eq_getElem (by omega)] at g0
  obtain ⟨a0, a1, a2, a3, A4, c4, l4, e0, hR4, hm4, hk4, r0, r1, r2, r3⟩ := openDisc g0
  simp only [List.cons.injEq, and_true] at e0
  obtain ⟨rfl, rfl, rfl, rfl, rfl⟩ := e0
  have g1 : DataW.trod enc Try.prog w 0 (fun _ => true) true m 2 [x5] = xs[1]? := by
    have := hf 1 _ rfl
    rw [show Try.prog.cellsOf _ = 1 from by kernel_rfl] at this
    exact this
  rw [List.getElem?_eq_getElem (by omega)] at g1
  obtain ⟨a5, e1, _, u5⟩ := DataW.trod_int Try.underlying2 g1
  simp only [List.cons.injEq, and_true] at e1
  subst e1
  have r5 : -9223372036854775808 ≤ a5 ∧ a5 ≤ 9223372036854775807 := by
    simp only [Lit.wf, Bool.and_eq_true, decide_eq_true_eq] at u5
    exact u5
  have g2 : DataW.trod enc Try.prog w 0 (fun _ => true) true m 2 [x6] = xs[2]? := by
    have := hf 2 _ rfl
    rw [show Try.prog.cellsOf _ = 1 from by kernel_rfl] at this
    exact this
  rw [List.getElem?_eq_getElem (by omega)] at g2
  obtain ⟨a6, e2, _, u6⟩ := DataW.trod_int Try.underlying2 g2
  simp only [List.cons.injEq, and_true] at e2
  subst e2
  have r6 : -9223372036854775808 ≤ a6 ∧ a6 ≤ 9223372036854775807 := by
    simp only [Lit.wf, Bool.and_eq_true, decide_eq_true_eq] at u6
    exact u6
  have g3 : DataW.trod enc Try.prog w 0 (fun _ => true) true m 40 [x7] = xs[3]? := by
    have := hf 3 _ rfl
    rw [show Try.prog.cellsOf _ = 1 from by kernel_rfl] at this
    exact this
  rw [List.getElem?_eq_getElem (by omega)] at g3
  obtain ⟨A7, c7, l7, e3, hR7, hm7, hk7⟩ := open_flat (f := fI) (ok := okInt64) (size := 1) Try.underlying40 (by kernel_rfl) (by omega) fI_len (fun fuel cs x h => by
    obtain ⟨k, rfl, _, hw⟩ := DataW.trod_int Try.underlying2 h
    simp only [Lit.wf, Bool.and_eq_true, decide_eq_true_eq] at hw
    exact ⟨k, rfl, hw⟩) g3
  simp only [List.cons.injEq, and_true] at e3
  subst e3
  exact ⟨a0, a1, a2, a3, A4, c4, l4, a5, a6, A7, c7, l7, rfl, hR4, hm4, hk4, hR7, hm7, hk7, r0, r1, r2, r3, r5, r6⟩
set_option maxRecDepth 100000 in
theorem argDevice {H : Type} {enc : TypeId × Value → H} {w : World} {r : Reach} {b0 : Nat} {v : Value} {d : DataW H} {p : List MemPlace} (hv : Value.okWide Try.prog w r b0 49 v) (h : DataW.Trod enc Try.prog w 0 (fun _ => true) true 49 v d p) :
    ∃ (a0 : Int) (a1 : Int) (a2 : Int) (a3 : Int) (A4 : Option Addr) (c4 : Nat) (l4 : List DSector) (a5 : Int) (a6 : Int) (A7 : Option Addr) (c7 : Nat) (l7 : List Int), v = .agg #[.int .i64 a0, .int .i64 a1, .int .i64 a2, .int .i64 a3, .slice A4 l4.length c4, .int .i64 a5, .int .i64 a6, .slice A7 l7.length c7] ∧ Rd w w.heap.size 2 A4 l4.length (flat fSector l4) ∧ l4.length ≤ maxLen ∧ (∀ x ∈ l4, okSector x) ∧ Rd w w.heap.size 1 A7 l7.length (flat fI l7) ∧ l7.length ≤ maxLen ∧ (∀ x ∈ l7, okInt64 x) ∧ (-9223372036854775808 ≤ a0 ∧ a0 ≤ 9223372036854775807) ∧ (-9223372036854775808 ≤ a1 ∧ a1 ≤ 9223372036854775807) ∧ (-9223372036854775808 ≤ a2 ∧ a2 ≤ 9223372036854775807) ∧ (-9223372036854775808 ≤ a3 ∧ a3 ≤ 9223372036854775807) ∧ (-9223372036854775808 ≤ a5 ∧ a5 ≤ 9223372036854775807) ∧ (-9223372036854775808 ≤ a6 ∧ a6 ≤ 9223372036854775807) := by
  obtain ⟨cs, rfl, hsz⟩ := okWide_struct Try.underlying49 hv
  obtain ⟨fuel, hf⟩ := h
  obtain ⟨a0, a1, a2, a3, A4, c4, l4, a5, a6, A7, c7, l7, e, hrest⟩ := openDevice hf
  refine ⟨a0, a1, a2, a3, A4, c4, l4, a5, a6, A7, c7, l7, ?_, hrest⟩
  congr 1
  apply Array.ext'
  simpa [Value.cells] using e
end Go.Proofs.Ytipkckoejkmhfaa
