/- Walks of the helpers in laws: Image. Printed by mk_deep.py. -/
import Derived.Test.YtbdeehknifgdcaaSDisc
import Derived.Test.YtbdeehknifgdcaaSString
import Derived.Test.YtbdeehknifgdcaaOpen
import Derived.Test.YtbdeehknifgdcaaStep
namespace Go.Proofs.Ytbdeehknifgdcaa
open Go.RowKit Go.ChangeShapes Go.WideShapes Go.Deep

set_option maxRecDepth 100000 in
set_option maxHeartbeats 600000 in
theorem toImage_any (a0 : Int) (a1 : Int) (a2 : Int) (a3 : Int) (A4 : Option Addr) (c4 : Nat) (l4 : List DSector) (A5 : Option Addr) (c5 : Nat) (l5 : List ByteArray) (w : World) (h4 : Rd w w.heap.size 2 A4 l4.length (flat fSector l4)) (h5 : Rd w w.heap.size 1 A5 l5.length (flat fS l5)) (hn4 : l4.length ≤ 1048576) (hn5 : l5.length ≤ 1048576) :
    Calls Try.prog 12 #[.agg #[.int .i64 a0, .int .i64 a1, .int .i64 a2, .int .i64 a3, .slice A4 l4.length c4, .slice A5 l5.length c5]] w fun e w' => ∃ v4 v5, e = .returned (.agg #[.int .i64 a0, .int .i64 a1, .int .i64 a2, .int .i64 a3, v4, v5]) ∧ w'.ownsRow w.heap.size 109 2 v4 l4.length (flat fSector l4) ∧ w'.ownsRow w.heap.size 9 1 v5 l5.length (flat fS l5) ∧ (v4.ownBlock = none ∨ v4.ownBlock ≠ v5.ownBlock) ∧ Below w.heap.size w w' := by
  go_enter Try.func12, Try.ntmps12
  go_wp2_with (first
    | (go_at_call 44; have := mk1; refine (toStringS_any A5 c5 l5 _ ((h5.below (by with_reducible repeat (first | exact Below.refl _ _ | assumption | refine below_step ?_ (by assumption) | refine Below.drew ?_ | refine below_drewN ?_ _ | refine below_alloc ?_ _ | refine Below.setCell ?_ (by simp; try omega) _))).more (by first | omega | (simp; done) | (simp; omega))) hn5).mono ?_; rintro e w2 ⟨v5, rfl, ho5, hx2⟩; have he4_5 : (Value.slice E4 l4.length q4).ownBlock = none ∨ (Value.slice E4 l4.length q4).ownBlock ≠ v5.ownBlock := (by refine own_ne (base := w.heap.size + 3) (size := 2) (e := 109) (n := l4.length) (xs := flat fSector l4) ?_ ho5 (Nat.le_refl _); with_reducible repeat (first | exact ho4 | refine ownsRow_setCell_below ?_ (by simp; try omega) _)); replace ho4 : World.ownsRow w2 (w.heap.size + 3) 109 2 (.slice E4 l4.length q4) l4.length (flat fSector l4) := (by refine own_later ?_ hx2 (Nat.le_refl _); with_reducible repeat (first | exact ho4 | refine ownsRow_setCell_below ?_ (by simp; try omega) _)); obtain ⟨E5, q5, rfl⟩ := own_form ho5; replace ho5 := own_base (base' := w.heap.size + 3) ho5 (by simp; try omega); have mk2 := True.intro; obtain ⟨hc2, hf2⟩ := bcell hx2; have hs2 : w.heap.size + 3 ≤ w2.heap.size := (by have := hx2.size; simp at this; omega); have z2_0 : w2.cell? ⟨w.heap.size + 1, 0, none⟩ = some (.int .i64 0) := (by rw [hc2 _ _ (by simp; try omega)]; simp [World.cell?_setCell_other, z1_0]); have z2_1 : w2.cell? ⟨w.heap.size + 1, 1, none⟩ = some (.int .i64 0) := (by rw [hc2 _ _ (by simp; try omega)]; simp [World.cell?_setCell_other, z1_1]); have z2_2 : w2.cell? ⟨w.heap.size + 1, 2, none⟩ = some (.int .i64 0) := (by rw [hc2 _ _ (by simp; try omega)]; simp [World.cell?_setCell_other, z1_2]); have z2_3 : w2.cell? ⟨w.heap.size + 1, 3, none⟩ = some (.int .i64 0) := (by rw [hc2 _ _ (by simp; try omega)]; simp [World.cell?_setCell_other, z1_3]); have z2_4 : w2.cell? ⟨w.heap.size + 1, 4, none⟩ = some (.slice none 0 0) := (by rw [hc2 _ _ (by simp; try omega)]; simp [World.cell?_setCell_other, z1_4]); have z2_5 : w2.cell? ⟨w.heap.size + 1, 5, none⟩ = some (.slice none 0 0) := (by rw [hc2 _ _ (by simp; try omega)]; simp [World.cell?_setCell_other, z1_5]); have y2_0 : w2.cell? ⟨w.heap.size + 1 + 1, 0, none⟩ = some (.int .i64 a0) := (by rw [hc2 _ _ (by simp; try omega)]; simp [World.cell?_setCell_other, World.cell?_setCell_same', y1_0]); have y2_1 : w2.cell? ⟨w.heap.size + 1 + 1, 1, none⟩ = some (.int .i64 a1) := (by rw [hc2 _ _ (by simp; try omega)]; simp [World.cell?_setCell_other, World.cell?_setCell_same', y1_1]); have y2_2 : w2.cell? ⟨w.heap.size + 1 + 1, 2, none⟩ = some (.int .i64 a2) := (by rw [hc2 _ _ (by simp; try omega)]; simp [World.cell?_setCell_other, World.cell?_setCell_same', y1_2]); have y2_3 : w2.cell? ⟨w.heap.size + 1 + 1, 3, none⟩ = some (.int .i64 a3) := (by rw [hc2 _ _ (by simp; try omega)]; simp [World.cell?_setCell_other, World.cell?_setCell_same', y1_3]); have y2_4 : w2.cell? ⟨w.heap.size + 1 + 1, 4, none⟩ = some (.slice E4 l4.length q4) := (by rw [hc2 _ _ (by simp; try omega)]; simp [World.cell?_setCell_other, World.cell?_setCell_same', y1_4]); have y2_5 : w2.cell? ⟨w.heap.size + 1 + 1, 5, none⟩ = some (.slice none 0 0) := (by rw [hc2 _ _ (by simp; try omega)]; simp [World.cell?_setCell_other, y1_5]); have x2 : ∀ j, w2.frozen? ⟨w.heap.size + 1 + 1, j, none⟩ = false := (by intro j; rw [hf2 _ _ (by simp; try omega)]; simp [x1]); have u2 : ∀ j, w2.frozen? ⟨w.heap.size + 1, j, none⟩ = false := (by intro j; rw [hf2 _ _ (by simp; try omega)]; simp [u1]))
    | (go_at_call 25; refine (toDisc_any a0 a1 a2 a3 A4 c4 l4 _ ((h4.below (by with_reducible repeat (first | exact Below.refl _ _ | assumption | refine below_step ?_ (by assumption) | refine Below.drew ?_ | refine below_drewN ?_ _ | refine below_alloc ?_ _ | refine Below.setCell ?_ (by simp; try omega) _))).more (by first | omega | (simp; done) | (simp; omega))) hn4).mono ?_; rintro e w1 ⟨v4, rfl, ho4, hx1⟩; obtain ⟨E4, q4, rfl⟩ := own_form ho4; replace ho4 := own_base (base' := w.heap.size + 3) ho4 (by simp; try omega); have mk1 := True.intro; obtain ⟨hc1, hf1⟩ := bcell hx1; have hs1 : w.heap.size + 3 ≤ w1.heap.size := (by have := hx1.size; simp at this; omega); have z1_0 : w1.cell? ⟨w.heap.size + 1, 0, none⟩ = some (.int .i64 0) := (by rw [hc1 _ _ (by simp; try omega)]; simp [go_sem]); have z1_1 : w1.cell? ⟨w.heap.size + 1, 1, none⟩ = some (.int .i64 0) := (by rw [hc1 _ _ (by simp; try omega)]; simp [go_sem]); have z1_2 : w1.cell? ⟨w.heap.size + 1, 2, none⟩ = some (.int .i64 0) := (by rw [hc1 _ _ (by simp; try omega)]; simp [go_sem]); have z1_3 : w1.cell? ⟨w.heap.size + 1, 3, none⟩ = some (.int .i64 0) := (by rw [hc1 _ _ (by simp; try omega)]; simp [go_sem]); have z1_4 : w1.cell? ⟨w.heap.size + 1, 4, none⟩ = some (.slice none 0 0) := (by rw [hc1 _ _ (by simp; try omega)]; simp [go_sem]); have z1_5 : w1.cell? ⟨w.heap.size + 1, 5, none⟩ = some (.slice none 0 0) := (by rw [hc1 _ _ (by simp; try omega)]; simp [go_sem]); have y1_0 : w1.cell? ⟨w.heap.size + 1 + 1, 0, none⟩ = some (.int .i64 0) := (by rw [hc1 _ _ (by simp; try omega)]; simp [go_sem]); have y1_1 : w1.cell? ⟨w.heap.size + 1 + 1, 1, none⟩ = some (.int .i64 0) := (by rw [hc1 _ _ (by simp; try omega)]; simp [go_sem]); have y1_2 : w1.cell? ⟨w.heap.size + 1 + 1, 2, none⟩ = some (.int .i64 0) := (by rw [hc1 _ _ (by simp; try omega)]; simp [go_sem]); have y1_3 : w1.cell? ⟨w.heap.size + 1 + 1, 3, none⟩ = some (.int .i64 0) := (by rw [hc1 _ _ (by simp; try omega)]; simp [go_sem]); have y1_4 : w1.cell? ⟨w.heap.size + 1 + 1, 4, none⟩ = some (.slice none 0 0) := (by rw [hc1 _ _ (by simp; try omega)]; simp [go_sem]); have y1_5 : w1.cell? ⟨w.heap.size + 1 + 1, 5, none⟩ = some (.slice none 0 0) := (by rw [hc1 _ _ (by simp; try omega)]; simp [go_sem]); have x1 : ∀ j, w1.frozen? ⟨w.heap.size + 1 + 1, j, none⟩ = false := (by intro j; rw [hf1 _ _ (by simp; try omega)]; simp [go_sem]); have u1 : ∀ j, w1.frozen? ⟨w.heap.size + 1, j, none⟩ = false := (by intro j; rw [hf1 _ _ (by simp; try omega)]; simp [go_sem])))
  clear hc1 hf1 hc2 hf2
  refine bodyPost_ret (v := .agg #[.int .i64 a0, .int .i64 a1, .int .i64 a2, .int .i64 a3, .slice E4 l4.length q4, .slice E5 l5.length q5]) (by simp [results, Try.results12, go_sem, World.cell?_setCell_other, z2_0, z2_1, z2_2, z2_3, z2_4, z2_5]) rfl ⟨_, _, rfl, ?_, ?_, ?_, ?_⟩
  · refine own_base (base := w.heap.size + 3) ?_ (by omega)
    exact ownsRow_setCell_below (ownsRow_setCell_below (ownsRow_setCell_below (ownsRow_setCell_below (ownsRow_setCell_below (ownsRow_setCell_below (ownsRow_setCell_below (ho4) (by simp; try omega) _) (by simp; try omega) _) (by simp; try omega) _) (by simp; try omega) _) (by simp; try omega) _) (by simp; try omega) _) (by simp; try omega) _
  · refine own_base (base := w.heap.size + 3) ?_ (by omega)
    exact ownsRow_setCell_below (ownsRow_setCell_below (ownsRow_setCell_below (ownsRow_setCell_below (ownsRow_setCell_below (ownsRow_setCell_below (ownsRow_setCell_below (ho5) (by simp; try omega) _) (by simp; try omega) _) (by simp; try omega) _) (by simp; try omega) _) (by simp; try omega) _) (by simp; try omega) _) (by simp; try omega) _
  · exact he4_5
  · exact (by with_reducible repeat (first | exact Below.refl _ _ | assumption | refine below_step ?_ (by assumption) | refine Below.drew ?_ | refine below_drewN ?_ _ | refine below_alloc ?_ _ | refine Below.setCell ?_ (by simp; try omega) _))

def tzImage (l4 : List DSector) (l5 : List ByteArray) : List Nat := tzDisc l4 ++ tzString l5
set_option maxRecDepth 100000 in
set_option maxHeartbeats 600000 in
theorem szImage_any (a0 : Int) (a1 : Int) (a2 : Int) (a3 : Int) (A4 : Option Addr) (c4 : Nat) (l4 : List DSector) (A5 : Option Addr) (c5 : Nat) (l5 : List ByteArray) (left : Int) (w : World) (H4 : Rd w w.heap.size 2 A4 l4.length (flat fSector l4)) (H5 : Rd w w.heap.size 1 A5 l5.length (flat fS l5)) (Hn4 : l4.length ≤ maxLen) (Hn5 : l5.length ≤ maxLen) (h0 : 0 ≤ left) (h1 : left ≤ 1048576) (hok4 : ∀ x ∈ l4, okSector x) (hok5 : ∀ x ∈ l5, okString x) :
    Calls Try.prog 10 #[.agg #[.int .i64 a0, .int .i64 a1, .int .i64 a2, .int .i64 a3, .slice A4 l4.length c4, .slice A5 l5.length c5], .int .i64 left] w fun e w' => e = .returned (.int .i64 (subs left (tzImage l4 l5))) ∧ Below w.heap.size w w' := by
  rcases subs_cases (tzDisc l4) left h0 with hq0 | ⟨hq0, hp0⟩
  · have HQ0 := Lib.hid hq0
    have HR := Lib.hid (show (-1 : Int) = subs left (tzImage l4 l5) from (by unfold tzImage; exact (subs_neg _ _ _ h0 hq0).symm))
    clear hq0
    go_enter Try.func10, Try.ntmps10
    go_wp2_with (first
      | (go_at_call 23; refine (szDisc_any a0 a1 a2 a3 A4 c4 l4 left _ ((H4.below (by with_reducible repeat (first | exact Below.refl _ _ | assumption | refine below_step ?_ (by assumption) | refine Below.drew ?_ | refine below_drewN ?_ _ | refine below_alloc ?_ _ | refine Below.setCell ?_ (by simp; try omega) _))).more (by first | omega | (simp; done) | (simp; omega))) Hn4 h0 h1 hok4).mono ?_; rintro e w1 ⟨rfl, hx1⟩; rw [HQ0.out]; obtain ⟨hc1, hf1⟩ := bcell hx1; have hs1 : w.heap.size + 1 ≤ w1.heap.size := (by have := hx1.size; first | omega | (simp at this; omega)); have mk1 := True.intro))
    go_ret
    exact ⟨ret_int HR.out, (by with_reducible repeat (first | exact Below.refl _ _ | assumption | refine below_step ?_ (by assumption) | refine Below.drew ?_ | refine below_drewN ?_ _ | refine below_alloc ?_ _ | refine Below.setCell ?_ (by simp; try omega) _))⟩
  · obtain ⟨y1, hy1⟩ : ∃ y : Int, y = left - ((tzDisc l4).sum : Nat) := ⟨_, rfl⟩
    rw [← hy1] at hq0 hp0
    have p1 : 0 ≤ y1 := hp0
    have r1 : y1 ≤ 1048576 := by omega
    have hE0 := And.intro hq0 hp0
    have HQ0 := Lib.hid hq0
    clear hq0 hy1
    rcases subs_cases (tzString l5) y1 p1 with hq1 | ⟨hq1, hp1⟩
    · have HQ1 := Lib.hid hq1
      have HR := Lib.hid (show (-1 : Int) = subs left (tzImage l4 l5) from (by unfold tzImage; rw [subs_pos _ _ _ _ h0 hE0]; exact hq1.symm))
      clear hq1
      go_enter Try.func10, Try.ntmps10
      go_wp2_with (first
        | (go_at_call 41; have := mk1; refine (szStringS_any A5 c5 l5 y1 _ ((H5.below (by with_reducible repeat (first | exact Below.refl _ _ | assumption | refine below_step ?_ (by assumption) | refine Below.drew ?_ | refine below_drewN ?_ _ | refine below_alloc ?_ _ | refine Below.setCell ?_ (by simp; try omega) _))).more (by first | omega | (simp; done) | (simp; omega))) Hn5 p1 r1 hok5).mono ?_; rintro e w2 ⟨rfl, hx2⟩; rw [HQ1.out]; obtain ⟨hc2, hf2⟩ := bcell hx2; have hs2 : w.heap.size + 1 ≤ w2.heap.size := (by have := hx2.size; first | omega | (simp at this; omega)); have mk2 := True.intro)
        | (go_at_call 23; refine (szDisc_any a0 a1 a2 a3 A4 c4 l4 left _ ((H4.below (by with_reducible repeat (first | exact Below.refl _ _ | assumption | refine below_step ?_ (by assumption) | refine Below.drew ?_ | refine below_drewN ?_ _ | refine below_alloc ?_ _ | refine Below.setCell ?_ (by simp; try omega) _))).more (by first | omega | (simp; done) | (simp; omega))) Hn4 h0 h1 hok4).mono ?_; rintro e w1 ⟨rfl, hx1⟩; rw [HQ0.out]; obtain ⟨hc1, hf1⟩ := bcell hx1; have hs1 : w.heap.size + 1 ≤ w1.heap.size := (by have := hx1.size; first | omega | (simp at this; omega)); have mk1 := True.intro))
      go_ret
      exact ⟨ret_int HR.out, (by with_reducible repeat (first | exact Below.refl _ _ | assumption | refine below_step ?_ (by assumption) | refine Below.drew ?_ | refine below_drewN ?_ _ | refine below_alloc ?_ _ | refine Below.setCell ?_ (by simp; try omega) _))⟩
    · obtain ⟨y2, hy2⟩ : ∃ y : Int, y = y1 - ((tzString l5).sum : Nat) := ⟨_, rfl⟩
      rw [← hy2] at hq1 hp1
      have p2 : 0 ≤ y2 := hp1
      have r2 : y2 ≤ 1048576 := by omega
      have hE1 := And.intro hq1 hp1
      have HQ1 := Lib.hid hq1
      have HR := Lib.hid (show y2 = subs left (tzImage l4 l5) from (by unfold tzImage; rw [subs_pos _ _ _ _ h0 hE0]; exact hq1.symm))
      clear hq1 hy2 hE0 hE1
      go_enter Try.func10, Try.ntmps10
      go_wp2_with (first
        | (go_at_call 41; have := mk1; refine (szStringS_any A5 c5 l5 y1 _ ((H5.below (by with_reducible repeat (first | exact Below.refl _ _ | assumption | refine below_step ?_ (by assumption) | refine Below.drew ?_ | refine below_drewN ?_ _ | refine below_alloc ?_ _ | refine Below.setCell ?_ (by simp; try omega) _))).more (by first | omega | (simp; done) | (simp; omega))) Hn5 p1 r1 hok5).mono ?_; rintro e w2 ⟨rfl, hx2⟩; rw [HQ1.out]; obtain ⟨hc2, hf2⟩ := bcell hx2; have hs2 : w.heap.size + 1 ≤ w2.heap.size := (by have := hx2.size; first | omega | (simp at this; omega)); have mk2 := True.intro)
        | (go_at_call 23; refine (szDisc_any a0 a1 a2 a3 A4 c4 l4 left _ ((H4.below (by with_reducible repeat (first | exact Below.refl _ _ | assumption | refine below_step ?_ (by assumption) | refine Below.drew ?_ | refine below_drewN ?_ _ | refine below_alloc ?_ _ | refine Below.setCell ?_ (by simp; try omega) _))).more (by first | omega | (simp; done) | (simp; omega))) Hn4 h0 h1 hok4).mono ?_; rintro e w1 ⟨rfl, hx1⟩; rw [HQ0.out]; obtain ⟨hc1, hf1⟩ := bcell hx1; have hs1 : w.heap.size + 1 ≤ w1.heap.size := (by have := hx1.size; first | omega | (simp at this; omega)); have mk1 := True.intro))
      go_ret
      exact ⟨ret_int HR.out, (by with_reducible repeat (first | exact Below.refl _ _ | assumption | refine below_step ?_ (by assumption) | refine Below.drew ?_ | refine below_drewN ?_ _ | refine below_alloc ?_ _ | refine Below.setCell ?_ (by simp; try omega) _))⟩

set_option maxRecDepth 100000 in
set_option maxHeartbeats 600000 in
theorem eqImage_any (a0 : Int) (a1 : Int) (a2 : Int) (a3 : Int) (A4 B4 : Option Addr) (c4 d4 : Nat) (l4 : List DSector) (A5 B5 : Option Addr) (c5 d5 : Nat) (l5 : List ByteArray) (w : World) (h4 : Rd w w.heap.size 2 A4 l4.length (flat fSector l4)) (g4 : Rd w w.heap.size 2 B4 l4.length (flat fSector l4)) (h5 : Rd w w.heap.size 1 A5 l5.length (flat fS l5)) (g5 : Rd w w.heap.size 1 B5 l5.length (flat fS l5)) (hn4 : l4.length ≤ 1048576) (hn5 : l5.length ≤ 1048576) :
    Calls Try.prog 14 #[.agg #[.int .i64 a0, .int .i64 a1, .int .i64 a2, .int .i64 a3, .slice A4 l4.length c4, .slice A5 l5.length c5], .agg #[.int .i64 a0, .int .i64 a1, .int .i64 a2, .int .i64 a3, .slice B4 l4.length d4, .slice B5 l5.length d5]] w fun e w' => e = .returned (.bool true) ∧ Below w.heap.size w w' := by
  go_enter Try.func14, Try.ntmps14
  go_wp2_with (first
    | (go_at_call 47; have := mk1; refine (eqStringS_any A5 B5 c5 d5 l5 _ ((h5.below (by with_reducible repeat (first | exact Below.refl _ _ | assumption | refine below_step ?_ (by assumption) | refine Below.drew ?_ | refine below_drewN ?_ _ | refine below_alloc ?_ _ | refine Below.setCell ?_ (by simp; try omega) _))).more (by first | omega | (simp; done) | (simp; omega))) ((g5.below (by with_reducible repeat (first | exact Below.refl _ _ | assumption | refine below_step ?_ (by assumption) | refine Below.drew ?_ | refine below_drewN ?_ _ | refine below_alloc ?_ _ | refine Below.setCell ?_ (by simp; try omega) _))).more (by first | omega | (simp; done) | (simp; omega))) hn5).mono ?_; rintro e w2 ⟨rfl, hx2⟩; obtain ⟨hc2, hf2⟩ := bcell hx2; have hs2 : w.heap.size + 2 ≤ w2.heap.size := (by have := hx2.size; first | omega | (simp at this; omega)); have mk2 := True.intro)
    | (go_at_call 27; refine (eqDisc_any a0 a1 a2 a3 A4 B4 c4 d4 l4 _ ((h4.below (by with_reducible repeat (first | exact Below.refl _ _ | assumption | refine below_step ?_ (by assumption) | refine Below.drew ?_ | refine below_drewN ?_ _ | refine below_alloc ?_ _ | refine Below.setCell ?_ (by simp; try omega) _))).more (by first | omega | (simp; done) | (simp; omega))) ((g4.below (by with_reducible repeat (first | exact Below.refl _ _ | assumption | refine below_step ?_ (by assumption) | refine Below.drew ?_ | refine below_drewN ?_ _ | refine below_alloc ?_ _ | refine Below.setCell ?_ (by simp; try omega) _))).more (by first | omega | (simp; done) | (simp; omega))) hn4).mono ?_; rintro e w1 ⟨rfl, hx1⟩; obtain ⟨hc1, hf1⟩ := bcell hx1; have hs1 : w.heap.size + 2 ≤ w1.heap.size := (by have := hx1.size; first | omega | (simp at this; omega)); have mk1 := True.intro))
  go_ret
  exact ⟨rfl, (by with_reducible repeat (first | exact Below.refl _ _ | assumption | refine below_step ?_ (by assumption) | refine Below.drew ?_ | refine below_drewN ?_ _ | refine below_alloc ?_ _ | refine Below.setCell ?_ (by simp; try omega) _))⟩

set_option maxRecDepth 100000 in
theorem openImage {H : Type} {enc : TypeId × Value → H} {w : World} {fuel : Nat} {cs : List Value} {x : DataW H × List MemPlace} (h : DataW.trod enc Try.prog w 0 (fun _ => true) true fuel 27 cs = some x) :
    ∃ (a0 : Int) (a1 : Int) (a2 : Int) (a3 : Int) (A4 : Option Addr) (c4 : Nat) (l4 : List DSector) (A5 : Option Addr) (c5 : Nat) (l5 : List ByteArray), cs = [.int .i64 a0, .int .i64 a1, .int .i64 a2, .int .i64 a3, .slice A4 l4.length c4, .slice A5 l5.length c5] ∧ Rd w w.heap.size 2 A4 l4.length (flat fSector l4) ∧ l4.length ≤ maxLen ∧ (∀ x ∈ l4, okSector x) ∧ Rd w w.heap.size 1 A5 l5.length (flat fS l5) ∧ l5.length ≤ maxLen ∧ (∀ x ∈ l5, okString x) ∧ (-9223372036854775808 ≤ a0 ∧ a0 ≤ 9223372036854775807) ∧ (-9223372036854775808 ≤ a1 ∧ a1 ≤ 9223372036854775807) ∧ (-9223372036854775808 ≤ a2 ∧ a2 ≤ 9223372036854775807) ∧ (-9223372036854775808 ≤ a3 ∧ a3 ≤ 9223372036854775807) := by
  obtain ⟨xs, m, rfl, rfl, hl, hxl, hf⟩ := DataW.trod_struct Try.underlying27 h
  rw [show Try.prog.cellsOf 27 = 6 from by kernel_rfl] at hl
  replace hxl : xs.length = 2 := hxl
  obtain ⟨x0, x1, x2, x3, x4, x5, rfl⟩ : ∃ x0 x1 x2 x3 x4 x5, cs = [x0, x1, x2, x3, x4, x5] := by
    match cs, hl with | [x0, x1, x2, x3, x4, x5], _ => exact ⟨x0, x1, x2, x3, x4, x5, rfl⟩
  have g0 : DataW.trod enc Try.prog w 0 (fun _ => true) true m 24 [x0, x1, x2, x3, x4] = xs[0]? := by
    have := hf 0 _ rfl
    rw [show Try.prog.cellsOf _ = 5 from by kernel_rfl] at this
    exact this
  rw [List.getElem?_eq_getElem (by omega)] at g0
  obtain ⟨a0, a1, a2, a3, A4, c4, l4, e0, hR4, hm4, hk4, r0, r1, r2, r3⟩ := openDisc g0
  simp only [List.cons.injEq, and_true] at e0
  obtain ⟨rfl, rfl, rfl, rfl, rfl⟩ := e0
  have g1 : DataW.trod enc Try.prog w 0 (fun _ => true) true m 25 [x5] = xs[1]? := by
    have := hf 1 _ rfl
    rw [show Try.prog.cellsOf _ = 1 from by kernel_rfl] at this
    exact this
  rw [List.getElem?_eq_getElem (by omega)] at g1
  obtain ⟨A5, c5, l5, e1, hR5, hm5, hk5⟩ := open_flat (f := fS) (ok := okString) (size := 1) Try.underlying25 (by kernel_rfl) (by omega) fS_len (fun fuel cs x h => by
    obtain ⟨k, rfl, _, hw⟩ := DataW.trod_string Try.underlying9 h
    exact ⟨k, rfl, hw⟩) g1
  simp only [List.cons.injEq, and_true] at e1
  subst e1
  exact ⟨a0, a1, a2, a3, A4, c4, l4, A5, c5, l5, rfl, hR4, hm4, hk4, hR5, hm5, hk5, r0, r1, r2, r3⟩
set_option maxRecDepth 100000 in
theorem argImage {H : Type} {enc : TypeId × Value → H} {w : World} {r : Reach} {b0 : Nat} {v : Value} {d : DataW H} {p : List MemPlace} (hv : Value.okWide Try.prog w r b0 27 v) (h : DataW.Trod enc Try.prog w 0 (fun _ => true) true 27 v d p) :
    ∃ (a0 : Int) (a1 : Int) (a2 : Int) (a3 : Int) (A4 : Option Addr) (c4 : Nat) (l4 : List DSector) (A5 : Option Addr) (c5 : Nat) (l5 : List ByteArray), v = .agg #[.int .i64 a0, .int .i64 a1, .int .i64 a2, .int .i64 a3, .slice A4 l4.length c4, .slice A5 l5.length c5] ∧ Rd w w.heap.size 2 A4 l4.length (flat fSector l4) ∧ l4.length ≤ maxLen ∧ (∀ x ∈ l4, okSector x) ∧ Rd w w.heap.size 1 A5 l5.length (flat fS l5) ∧ l5.length ≤ maxLen ∧ (∀ x ∈ l5, okString x) ∧ (-9223372036854775808 ≤ a0 ∧ a0 ≤ 9223372036854775807) ∧ (-9223372036854775808 ≤ a1 ∧ a1 ≤ 9223372036854775807) ∧ (-9223372036854775808 ≤ a2 ∧ a2 ≤ 9223372036854775807) ∧ (-9223372036854775808 ≤ a3 ∧ a3 ≤ 9223372036854775807) := by
  obtain ⟨cs, rfl, hsz⟩ := okWide_struct Try.underlying27 hv
  obtain ⟨fuel, hf⟩ := h
  obtain ⟨a0, a1, a2, a3, A4, c4, l4, A5, c5, l5, e, hrest⟩ := openImage hf
  refine ⟨a0, a1, a2, a3, A4, c4, l4, A5, c5, l5, ?_, hrest⟩
  congr 1
  apply Array.ext'
  simpa [Value.cells] using e
end Go.Proofs.Ytbdeehknifgdcaa
