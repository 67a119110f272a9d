/- Walks of the helpers in laws: TrackSpec. Printed by mk_deep.py. -/
import Derived.Test.YtkhmchifejfinaaSSectorSpec
import Derived.Test.YtkhmchifejfinaaOpen
import Derived.Test.YtkhmchifejfinaaStep
namespace Go.Proofs.Ytkhmchifejfinaa
open Go.RowKit Go.ChangeShapes Go.WideShapes Go.Deep

set_option maxRecDepth 100000 in
set_option maxHeartbeats 600000 in
theorem toTrackSpec_any (a0 : Int) (a1 : Int) (A2 : Option Addr) (c2 : Nat) (l2 : List DSectorSpec) (w : World) (h2 : Rd w w.heap.size 8 A2 l2.length (flat fSectorSpec l2)) (hn2 : l2.length ≤ 1048576) :
    Calls Try.prog 6 #[.agg #[.int .i64 a0, .int .i64 a1, .slice A2 l2.length c2]] w fun e w' => ∃ v2, e = .returned (.agg #[.int .i64 a0, .int .i64 a1, v2]) ∧ w'.ownsRow w.heap.size 45 8 v2 l2.length (flat fSectorSpec l2) ∧ Below w.heap.size w w' := by
  go_enter Try.func6, Try.ntmps6
  go_wp2_with (first
    | (go_at_call 18; refine (toSectorSpecS_any A2 c2 l2 _ ((h2.below (by with_reducible repeat (first | exact Below.refl _ _ | assumption | refine below_step ?_ (by assumption) | refine Below.drew ?_ | refine below_drewN ?_ _ | refine below_alloc ?_ _ | refine Below.setCell ?_ (by simp; try omega) _))).more (by first | omega | (simp; done) | (simp; omega))) hn2).mono ?_; rintro e w1 ⟨v2, rfl, ho2, hx1⟩; obtain ⟨E2, q2, rfl⟩ := own_form ho2; replace ho2 := own_base (base' := w.heap.size + 3) ho2 (by simp; try omega); have mk1 := True.intro; obtain ⟨hc1, hf1⟩ := bcell hx1; have hs1 : w.heap.size + 3 ≤ w1.heap.size := (by have := hx1.size; simp at this; omega); have z1_0 : w1.cell? ⟨w.heap.size + 1, 0, none⟩ = some (.int .i64 0) := (by rw [hc1 _ _ (by simp; try omega)]; simp [go_sem]); have z1_1 : w1.cell? ⟨w.heap.size + 1, 1, none⟩ = some (.int .i64 0) := (by rw [hc1 _ _ (by simp; try omega)]; simp [go_sem]); have z1_2 : w1.cell? ⟨w.heap.size + 1, 2, none⟩ = some (.slice none 0 0) := (by rw [hc1 _ _ (by simp; try omega)]; simp [go_sem]); have y1_0 : w1.cell? ⟨w.heap.size + 1 + 1, 0, none⟩ = some (.int .i64 a0) := (by rw [hc1 _ _ (by simp; try omega)]; simp [go_sem]); have y1_1 : w1.cell? ⟨w.heap.size + 1 + 1, 1, none⟩ = some (.int .i64 a1) := (by rw [hc1 _ _ (by simp; try omega)]; simp [go_sem]); have y1_2 : w1.cell? ⟨w.heap.size + 1 + 1, 2, none⟩ = some (.slice none 0 0) := (by rw [hc1 _ _ (by simp; try omega)]; simp [go_sem])))
  clear hc1 hf1
  refine bodyPost_ret (v := .agg #[.int .i64 a0, .int .i64 a1, .slice E2 l2.length q2]) (by simp [results, Try.results6, go_sem, World.cell?_setCell_other, z1_0, z1_1, z1_2]) rfl ⟨_, rfl, ?_, ?_⟩
  · refine own_base (base := w.heap.size + 3) ?_ (by omega)
    exact ownsRow_setCell_below (ownsRow_setCell_below (ownsRow_setCell_below (ownsRow_setCell_below (ho2) (by simp; try omega) _) (by simp; try omega) _) (by simp; try omega) _) (by simp; try omega) _
  · exact (by with_reducible repeat (first | exact Below.refl _ _ | assumption | refine below_step ?_ (by assumption) | refine Below.drew ?_ | refine below_drewN ?_ _ | refine below_alloc ?_ _ | refine Below.setCell ?_ (by simp; try omega) _))

def tzTrackSpec (l2 : List DSectorSpec) : List Nat := tzSectorSpec l2
set_option maxRecDepth 100000 in
set_option maxHeartbeats 600000 in
theorem szTrackSpec_any (a0 : Int) (a1 : Int) (A2 : Option Addr) (c2 : Nat) (l2 : List DSectorSpec) (left : Int) (w : World) (H2 : Rd w w.heap.size 8 A2 l2.length (flat fSectorSpec l2)) (Hn2 : l2.length ≤ maxLen) (h0 : 0 ≤ left) (h1 : left ≤ 1048576) (hok2 : ∀ x ∈ l2, okSectorSpec x) :
    Calls Try.prog 4 #[.agg #[.int .i64 a0, .int .i64 a1, .slice A2 l2.length c2], .int .i64 left] w fun e w' => e = .returned (.int .i64 (subs left (tzTrackSpec l2))) ∧ Below w.heap.size w w' := by
  rcases subs_cases (tzSectorSpec l2) left h0 with hq0 | ⟨hq0, hp0⟩
  · have HQ0 := Lib.hid hq0
    have HR := Lib.hid (show (-1 : Int) = subs left (tzTrackSpec l2) from (by unfold tzTrackSpec; exact hq0.symm))
    clear hq0
    go_enter Try.func4, Try.ntmps4
    go_wp2_with (first
      | (go_at_call 12; refine (szSectorSpecS_any A2 c2 l2 left _ ((H2.below (by with_reducible repeat (first | exact Below.refl _ _ | assumption | refine below_step ?_ (by assumption) | refine Below.drew ?_ | refine below_drewN ?_ _ | refine below_alloc ?_ _ | refine Below.setCell ?_ (by simp; try omega) _))).more (by first | omega | (simp; done) | (simp; omega))) Hn2 h0 h1 hok2).mono ?_; rintro e w1 ⟨rfl, hx1⟩; rw [HQ0.out]; obtain ⟨hc1, hf1⟩ := bcell hx1; have hs1 : w.heap.size + 1 ≤ w1.heap.size := (by have := hx1.size; first | omega | (simp at this; omega)); have mk1 := True.intro))
    go_ret
    exact ⟨ret_int HR.out, (by with_reducible repeat (first | exact Below.refl _ _ | assumption | refine below_step ?_ (by assumption) | refine Below.drew ?_ | refine below_drewN ?_ _ | refine below_alloc ?_ _ | refine Below.setCell ?_ (by simp; try omega) _))⟩
  · obtain ⟨y1, hy1⟩ : ∃ y : Int, y = left - ((tzSectorSpec l2).sum : Nat) := ⟨_, rfl⟩
    rw [← hy1] at hq0 hp0
    have p1 : 0 ≤ y1 := hp0
    have r1 : y1 ≤ 1048576 := by omega
    have HQ0 := Lib.hid hq0
    have HR := Lib.hid (show y1 = subs left (tzTrackSpec l2) from (by unfold tzTrackSpec; exact hq0.symm))
    clear hq0 hy1
    go_enter Try.func4, Try.ntmps4
    go_wp2_with (first
      | (go_at_call 12; refine (szSectorSpecS_any A2 c2 l2 left _ ((H2.below (by with_reducible repeat (first | exact Below.refl _ _ | assumption | refine below_step ?_ (by assumption) | refine Below.drew ?_ | refine below_drewN ?_ _ | refine below_alloc ?_ _ | refine Below.setCell ?_ (by simp; try omega) _))).more (by first | omega | (simp; done) | (simp; omega))) Hn2 h0 h1 hok2).mono ?_; rintro e w1 ⟨rfl, hx1⟩; rw [HQ0.out]; obtain ⟨hc1, hf1⟩ := bcell hx1; have hs1 : w.heap.size + 1 ≤ w1.heap.size := (by have := hx1.size; first | omega | (simp at this; omega)); have mk1 := True.intro))
    go_ret
    exact ⟨ret_int HR.out, (by with_reducible repeat (first | exact Below.refl _ _ | assumption | refine below_step ?_ (by assumption) | refine Below.drew ?_ | refine below_drewN ?_ _ | refine below_alloc ?_ _ | refine Below.setCell ?_ (by simp; try omega) _))⟩

set_option maxRecDepth 100000 in
set_option maxHeartbeats 600000 in
theorem eqTrackSpec_any (a0 : Int) (a1 : Int) (A2 B2 : Option Addr) (c2 d2 : Nat) (l2 : List DSectorSpec) (w : World) (h2 : Rd w w.heap.size 8 A2 l2.length (flat fSectorSpec l2)) (g2 : Rd w w.heap.size 8 B2 l2.length (flat fSectorSpec l2)) (hn2 : l2.length ≤ 1048576) :
    Calls Try.prog 9 #[.agg #[.int .i64 a0, .int .i64 a1, .slice A2 l2.length c2], .agg #[.int .i64 a0, .int .i64 a1, .slice B2 l2.length d2]] w fun e w' => e = .returned (.bool true) ∧ Below w.heap.size w w' := by
  go_enter Try.func9, Try.ntmps9
  go_wp2_with (first
    | (go_at_call 24; refine (eqSectorSpecS_any A2 B2 c2 d2 l2 _ ((h2.below (by with_reducible repeat (first | exact Below.refl _ _ | assumption | refine below_step ?_ (by assumption) | refine Below.drew ?_ | refine below_drewN ?_ _ | refine below_alloc ?_ _ | refine Below.setCell ?_ (by simp; try omega) _))).more (by first | omega | (simp; done) | (simp; omega))) ((g2.below (by with_reducible repeat (first | exact Below.refl _ _ | assumption | refine below_step ?_ (by assumption) | refine Below.drew ?_ | refine below_drewN ?_ _ | refine below_alloc ?_ _ | refine Below.setCell ?_ (by simp; try omega) _))).more (by first | omega | (simp; done) | (simp; omega))) hn2).mono ?_; rintro e w1 ⟨rfl, hx1⟩; obtain ⟨hc1, hf1⟩ := bcell hx1; have hs1 : w.heap.size + 2 ≤ w1.heap.size := (by have := hx1.size; first | omega | (simp at this; omega)); have mk1 := True.intro))
  go_ret
  exact ⟨rfl, (by with_reducible repeat (first | exact Below.refl _ _ | assumption | refine below_step ?_ (by assumption) | refine Below.drew ?_ | refine below_drewN ?_ _ | refine below_alloc ?_ _ | refine Below.setCell ?_ (by simp; try omega) _))⟩

set_option maxRecDepth 100000 in
theorem openTrackSpec {H : Type} {enc : TypeId × Value → H} {w : World} {fuel : Nat} {cs : List Value} {x : DataW H × List MemPlace} (h : DataW.trod enc Try.prog w 0 (fun _ => true) true fuel 24 cs = some x) :
    ∃ (a0 : Int) (a1 : Int) (A2 : Option Addr) (c2 : Nat) (l2 : List DSectorSpec), cs = [.int .i64 a0, .int .i64 a1, .slice A2 l2.length c2] ∧ Rd w w.heap.size 8 A2 l2.length (flat fSectorSpec l2) ∧ l2.length ≤ maxLen ∧ (∀ x ∈ l2, okSectorSpec x) ∧ (-9223372036854775808 ≤ a0 ∧ a0 ≤ 9223372036854775807) ∧ (-9223372036854775808 ≤ a1 ∧ a1 ≤ 9223372036854775807) := by
  obtain ⟨xs, m, rfl, rfl, hl, hxl, hf⟩ := DataW.trod_struct Try.underlying24 h
  rw [show Try.prog.cellsOf 24 = 3 from by kernel_rfl] at hl
  replace hxl : xs.length = 3 := hxl
  obtain ⟨x0, x1, x2, rfl⟩ : ∃ x0 x1 x2, cs = [x0, x1, x2] := by
    match cs, hl with | [x0, x1, x2], _ => exact ⟨x0, x1, x2, rfl⟩
  have g0 : DataW.trod enc Try.prog w 0 (fun _ => true) true m 2 [x0] = xs[0]? := by
    have := hf 0 _ rfl
    rw [show Try.prog.cellsOf _ = 1 from by kernel_rfl] at this
    exact this
  rw [List.getElem?_eq_getElem (by omega)] at g0
  obtain ⟨a0, e0, _, u0⟩ := DataW.trod_int Try.underlying2 g0
  simp only [List.cons.injEq, and_true] at e0
  subst e0
  have r0 : -9223372036854775808 ≤ a0 ∧ a0 ≤ 9223372036854775807 := by
    simp only [Lit.wf, Bool.and_eq_true, decide_eq_true_eq] at u0
    exact u0
  have g1 : DataW.trod enc Try.prog w 0 (fun _ => true) true m 2 [x1] = xs[1]? := by
    have := hf 1 _ rfl
    rw [show Try.prog.cellsOf _ = 1 from by kernel_rfl] at this
    exact this
  rw [List.getElem?_eq_getElem (by omega)] at g1
  obtain ⟨a1, e1, _, u1⟩ := DataW.trod_int Try.underlying2 g1
  simp only [List.cons.injEq, and_true] at e1
  subst e1
  have r1 : -9223372036854775808 ≤ a1 ∧ a1 ≤ 9223372036854775807 := by
    simp only [Lit.wf, Bool.and_eq_true, decide_eq_true_eq] at u1
    exact u1
  have g2 : DataW.trod enc Try.prog w 0 (fun _ => true) true m 22 [x2] = xs[2]? := by
    have := hf 2 _ rfl
    rw [show Try.prog.cellsOf _ = 1 from by kernel_rfl] at this
    exact this
  rw [List.getElem?_eq_getElem (by omega)] at g2
  obtain ⟨A2, c2, l2, e2, hR2, hm2, hk2⟩ := open_flat (f := fSectorSpec) (ok := okSectorSpec) (size := 8) Try.underlying22 (by kernel_rfl) (by omega) fSectorSpec_len (fun fuel cs x h => openSectorSpec h) g2
  simp only [List.cons.injEq, and_true] at e2
  subst e2
  exact ⟨a0, a1, A2, c2, l2, rfl, hR2, hm2, hk2, r0, r1⟩
set_option maxRecDepth 100000 in
theorem argTrackSpec {H : Type} {enc : TypeId × Value → H} {w : World} {r : Reach} {b0 : Nat} {v : Value} {d : DataW H} {p : List MemPlace} (hv : Value.okWide Try.prog w r b0 24 v) (h : DataW.Trod enc Try.prog w 0 (fun _ => true) true 24 v d p) :
    ∃ (a0 : Int) (a1 : Int) (A2 : Option Addr) (c2 : Nat) (l2 : List DSectorSpec), v = .agg #[.int .i64 a0, .int .i64 a1, .slice A2 l2.length c2] ∧ Rd w w.heap.size 8 A2 l2.length (flat fSectorSpec l2) ∧ l2.length ≤ maxLen ∧ (∀ x ∈ l2, okSectorSpec x) ∧ (-9223372036854775808 ≤ a0 ∧ a0 ≤ 9223372036854775807) ∧ (-9223372036854775808 ≤ a1 ∧ a1 ≤ 9223372036854775807) := by
  obtain ⟨cs, rfl, hsz⟩ := okWide_struct Try.underlying24 hv
  obtain ⟨fuel, hf⟩ := h
  obtain ⟨a0, a1, A2, c2, l2, e, hrest⟩ := openTrackSpec hf
  refine ⟨a0, a1, A2, c2, l2, ?_, hrest⟩
  congr 1
  apply Array.ext'
  simpa [Value.cells] using e

set_option maxRecDepth 100000 in
set_option maxHeartbeats 600000 in
theorem markTrackSpec_any (a0 : Int) (a1 : Int) (A2 : Option Addr) (c2 : Nat) (l2 : List DSectorSpec) (k : Nat) (w : World) (base : Nat) (h : w.ownsRow base 45 8 (.slice A2 l2.length c2) l2.length (flat fSectorSpec l2)) (hk1 : 1 ≤ k) (hk2 : k ≤ 10000000000) (hl : l2.length ≤ 10000000000) :
    Calls Try.prog 10 #[.agg #[.int .i64 a0, .int .i64 a1, .slice A2 l2.length c2], .int .i64 (k : Int)] w fun e w' => e = .returned (.int .i64 ((k + 8 * l2.length : Nat) : Int)) ∧ w'.ownsRow base 45 8 (.slice A2 l2.length c2) l2.length (flat fSectorSpec (mksSectorSpec k l2.length)) ∧ w.grownBy w' (Value.slice A2 l2.length c2).ownBlock := by
  go_enter Try.func10, Try.ntmps10
  go_wp2_with (go_at_call 25; refine (markSectorSpecS_any A2 c2 k l2 _ base (World.ownsRow.alloc h _) hk1 hk2 hl).mono ?_; rintro e w1 ⟨rfl, ho, hg⟩)
  go_ret
  exact ⟨rfl, ho, (World.grownBy_alloc w _ _).trans hg⟩

set_option maxRecDepth 100000 in
set_option maxHeartbeats 600000 in
theorem heldTrackSpec_any (a0 : Int) (a1 : Int) (A : Option Addr) (c k n : Nat) (w : World) (h : Rd w w.heap.size 8 A n (flat fSectorSpec (mksSectorSpec k n))) (hk1 : 1 ≤ k) (hk2 : k ≤ 10000000000) (hl : n ≤ 10000000000) :
    Calls Try.prog 11 #[.agg #[.int .i64 a0, .int .i64 a1, .slice A n c], .int .i64 (k : Int)] w fun e w' => e = .returned (.int .i64 ((k + 8 * n : Nat) : Int)) ∧ Below w.heap.size w w' := by
  go_enter Try.func11, Try.ntmps11
  go_wp2_with (go_at_call 26; refine (heldSectorSpecS_any A c k n _ ((h.below (by with_reducible repeat (first | exact Below.refl _ _ | assumption | refine below_step ?_ (by assumption) | refine Below.drew ?_ | refine below_drewN ?_ _ | refine below_alloc ?_ _ | refine Below.setCell ?_ (by simp; try omega) _))).more (by first | omega | (simp; done) | (simp; omega))) hk1 hk2 hl).mono ?_; rintro e w1 ⟨rfl, hx⟩)
  go_ret
  exact ⟨rfl, (by with_reducible repeat (first | exact Below.refl _ _ | assumption | refine below_step ?_ (by assumption) | refine Below.drew ?_ | refine below_drewN ?_ _ | refine below_alloc ?_ _ | refine Below.setCell ?_ (by simp; try omega) _))⟩
end Go.Proofs.Ytkhmchifejfinaa
