/- Walks: SectorAt of impl. -/
import Derived.Test.YtfcbcnlkoajpjaaW33
namespace Go.Proofs.Ytfcbcnlkoajpjaa
open Go.RowKit
set_option linter.unusedVariables false

set_option maxRecDepth 100000 in
set_option maxHeartbeats 1000000 in
theorem impl_SectorAt_any (c h p s cy hd nu : Int) (A : Option Addr) (cp : Nat) (l : List DSector) (w : World) (hr : Rd w w.heap.size 2 A l.length (flat fSector l)) (hn : l.length ≤ 1048576) (hok : ∀ x ∈ l, okSector x) :
    Calls Try.prog 51 #[.agg #[.int .i64 c, .int .i64 h, .int .i64 p, .int .i64 s, .slice A l.length cp], .int .i64 cy, .int .i64 hd, .int .i64 nu] w fun e w' => e = rAt (sAt c h p s l cy hd nu) ∧ Below w.heap.size w w' := by
  have him := fun W hr => impl_ValidDisc_any c h p s A cp l W hr hn hok
  cases hk : okD c h p s l
  · have HR := Lib.hid (sAt_1 cy hd nu hk)
    have HK := Lib.hid hk
    clear hk
    go_enter Try.func51, Try.ntmps51
    go_wp2_with (go_at_call 47; refine (him _ ((hr.below (by with_reducible repeat (first | exact Below.refl _ _ | assumption | refine below_step ?_ (by assumption) | refine Below.drew ?_ | refine below_drewN ?_ _ | refine below_alloc ?_ _ | refine Below.setCell ?_ (by simp; try omega) _))).more (by simp; try omega))).mono ?_; rintro e w1 ⟨rfl, hx⟩; rw [HK.out]; obtain ⟨hc, hf⟩ := bcell hx; have hs1 : w.heap.size + 2 ≤ w1.heap.size := (by have := hx.size; simp at this; omega); have z0 : w1.cell? ⟨w.heap.size + 1, 0, none⟩ = some (.string ⟨#[]⟩) := (by rw [hc _ _ (by simp; try omega)]; simp [go_sem]); have z1 : w1.cell? ⟨w.heap.size + 1, 1, none⟩ = some (.int .i64 0) := (by rw [hc _ _ (by simp; try omega)]; simp [go_sem]); have D0 := ((DP.made w c h p s (.slice A l.length cp) 29).alloc _).next hx; obtain ⟨p0, p1', p2', p3, p4⟩ := id D0)
    exact bodyPost_ret (v := .tuple #[.agg #[.string ⟨#[]⟩, .int .i64 0], .int .i64 1]) (by simp [results, Try.results51, go_sem, World.cell?_setCell_other, z0, z1]) rfl ⟨by rw [HR.out]; rfl, (by with_reducible repeat (first | exact Below.refl _ _ | assumption | refine below_step ?_ (by assumption) | refine Below.drew ?_ | refine below_drewN ?_ _ | refine below_alloc ?_ _ | refine Below.setCell ?_ (by simp; try omega) _))⟩
  · obtain ⟨hg, hl, -⟩ := okD_geo hk
    obtain ⟨c1, c2, h1, h2, p1, p2, s1, s2⟩ := geoB_yes hg
    have HK := Lib.hid hk
    have HL := Lib.hid hl
    clear hl hg
    have h00 := fun (x a b : Int) (W : World) => within_any x a b W
    cases g1 : inB cy 0 (c - 1)
    · have HR := Lib.hid (sAt_2 (cy := cy) (hd := hd) (nu := nu) hk (inD_1 g1))
      clear hk
      go_enter Try.func51, Try.ntmps51
      go_wp2_with (first | (go_at_call 47; refine (him _ ((hr.below (by with_reducible repeat (first | exact Below.refl _ _ | assumption | refine below_step ?_ (by assumption) | refine Below.drew ?_ | refine below_drewN ?_ _ | refine below_alloc ?_ _ | refine Below.setCell ?_ (by simp; try omega) _))).more (by simp; try omega))).mono ?_; rintro e w1 ⟨rfl, hx⟩; rw [HK.out]; obtain ⟨hc, hf⟩ := bcell hx; have hs1 : w.heap.size + 2 ≤ w1.heap.size := (by have := hx.size; simp at this; omega); have z0 : w1.cell? ⟨w.heap.size + 1, 0, none⟩ = some (.string ⟨#[]⟩) := (by rw [hc _ _ (by simp; try omega)]; simp [go_sem]); have z1 : w1.cell? ⟨w.heap.size + 1, 1, none⟩ = some (.int .i64 0) := (by rw [hc _ _ (by simp; try omega)]; simp [go_sem]); have D0 := ((DP.made w c h p s (.slice A l.length cp) 29).alloc _).next hx; obtain ⟨p0, p1', p2', p3, p4⟩ := id D0) | (go_at_call 91; refine (h00 _ _ _ _).mono ?_; rintro e w2 ⟨rfl, rfl⟩; rw [g1]))
      exact bodyPost_ret (v := .tuple #[.agg #[.string ⟨#[]⟩, .int .i64 0], .int .i64 2]) (by simp [results, Try.results51, go_sem, World.cell?_setCell_other, z0, z1]) rfl ⟨by rw [HR.out]; rfl, (by with_reducible repeat (first | exact Below.refl _ _ | assumption | refine below_step ?_ (by assumption) | refine Below.drew ?_ | refine below_drewN ?_ _ | refine below_alloc ?_ _ | refine Below.setCell ?_ (by simp; try omega) _))⟩
    cases g2 : inB hd 0 (h - 1)
    · have HR := Lib.hid (sAt_2 (cy := cy) (hd := hd) (nu := nu) hk (inD_2 g2))
      clear hk
      go_enter Try.func51, Try.ntmps51
      go_wp2_with (first | (go_at_call 47; refine (him _ ((hr.below (by with_reducible repeat (first | exact Below.refl _ _ | assumption | refine below_step ?_ (by assumption) | refine Below.drew ?_ | refine below_drewN ?_ _ | refine below_alloc ?_ _ | refine Below.setCell ?_ (by simp; try omega) _))).more (by simp; try omega))).mono ?_; rintro e w1 ⟨rfl, hx⟩; rw [HK.out]; obtain ⟨hc, hf⟩ := bcell hx; have hs1 : w.heap.size + 2 ≤ w1.heap.size := (by have := hx.size; simp at this; omega); have z0 : w1.cell? ⟨w.heap.size + 1, 0, none⟩ = some (.string ⟨#[]⟩) := (by rw [hc _ _ (by simp; try omega)]; simp [go_sem]); have z1 : w1.cell? ⟨w.heap.size + 1, 1, none⟩ = some (.int .i64 0) := (by rw [hc _ _ (by simp; try omega)]; simp [go_sem]); have D0 := ((DP.made w c h p s (.slice A l.length cp) 29).alloc _).next hx; obtain ⟨p0, p1', p2', p3, p4⟩ := id D0) | (go_at_call 91; refine (h00 _ _ _ _).mono ?_; rintro e w2 ⟨rfl, rfl⟩; first | rw [g1] | rw [g2]))
      exact bodyPost_ret (v := .tuple #[.agg #[.string ⟨#[]⟩, .int .i64 0], .int .i64 2]) (by simp [results, Try.results51, go_sem, World.cell?_setCell_other, z0, z1]) rfl ⟨by rw [HR.out]; rfl, (by with_reducible repeat (first | exact Below.refl _ _ | assumption | refine below_step ?_ (by assumption) | refine Below.drew ?_ | refine below_drewN ?_ _ | refine below_alloc ?_ _ | refine Below.setCell ?_ (by simp; try omega) _))⟩
    cases g3 : inB nu 0 (p - 1)
    · have HR := Lib.hid (sAt_2 (cy := cy) (hd := hd) (nu := nu) hk (inD_3 g3))
      clear hk
      go_enter Try.func51, Try.ntmps51
      go_wp2_with (first | (go_at_call 47; refine (him _ ((hr.below (by with_reducible repeat (first | exact Below.refl _ _ | assumption | refine below_step ?_ (by assumption) | refine Below.drew ?_ | refine below_drewN ?_ _ | refine below_alloc ?_ _ | refine Below.setCell ?_ (by simp; try omega) _))).more (by simp; try omega))).mono ?_; rintro e w1 ⟨rfl, hx⟩; rw [HK.out]; obtain ⟨hc, hf⟩ := bcell hx; have hs1 : w.heap.size + 2 ≤ w1.heap.size := (by have := hx.size; simp at this; omega); have z0 : w1.cell? ⟨w.heap.size + 1, 0, none⟩ = some (.string ⟨#[]⟩) := (by rw [hc _ _ (by simp; try omega)]; simp [go_sem]); have z1 : w1.cell? ⟨w.heap.size + 1, 1, none⟩ = some (.int .i64 0) := (by rw [hc _ _ (by simp; try omega)]; simp [go_sem]); have D0 := ((DP.made w c h p s (.slice A l.length cp) 29).alloc _).next hx; obtain ⟨p0, p1', p2', p3, p4⟩ := id D0) | (go_at_call 91; refine (h00 _ _ _ _).mono ?_; rintro e w2 ⟨rfl, rfl⟩; first | rw [g1] | rw [g2] | rw [g3]))
      exact bodyPost_ret (v := .tuple #[.agg #[.string ⟨#[]⟩, .int .i64 0], .int .i64 2]) (by simp [results, Try.results51, go_sem, World.cell?_setCell_other, z0, z1]) rfl ⟨by rw [HR.out]; rfl, (by with_reducible repeat (first | exact Below.refl _ _ | assumption | refine below_step ?_ (by assumption) | refine Below.drew ?_ | refine below_drewN ?_ _ | refine below_alloc ?_ _ | refine Below.setCell ?_ (by simp; try omega) _))⟩
    obtain ⟨y0, y1⟩ := inB_yes g1
    obtain ⟨d0, d1⟩ := inB_yes g2
    obtain ⟨u0, u1⟩ := inB_yes g3
    obtain ⟨m1, m2, q1, q2, k1, k2⟩ := ix_bounds c1 c2 h1 h2 p1 p2 HL.out y0 y1 d0 d1 u0 u1
    have HR := Lib.hid (sAt_3 hk (inD_4 g1 g2 g3) _ k1 rfl)
    generalize secIx cy hd nu h p = k at *
    clear hk
    have e1 : wrap64 (cy * h) = cy * h := IntWalk.wrap64_in _ ⟨by omega, by omega⟩
    have e2 : wrap64 (cy * h + hd) = cy * h + hd := IntWalk.wrap64_in _ ⟨by omega, by omega⟩
    have e3 : wrap64 ((cy * h + hd) * p) = (cy * h + hd) * p := IntWalk.wrap64_in _ ⟨by omega, by omega⟩
    have e4 : wrap64 ((cy * h + hd) * p + nu) = (k : Int) := by rw [k2]; exact IntWalk.wrap64_in _ ⟨by omega, by omega⟩
    have e5 : ((cy * h + hd) * p + nu).toNat = k := by omega
    have e6 : 0 ≤ (cy * h + hd) * p + nu ∧ (cy * h + hd) * p + nu < (l.length : Int) := by omega
    clear k2
    obtain ⟨b, off, rfl, hbb, hcc⟩ := hr.at_ fSector_len rfl k k1
    have hc0 := hcc 0 _ (by omega) rfl
    have hc1 := hcc 1 _ (by omega) rfl
    clear hcc
    simp only [← Nat.add_assoc, Nat.add_zero] at hc0 hc1
    go_enter Try.func51, Try.ntmps51
    go_wp2_with (first | (go_at_call 47; refine (him _ ((hr.below (by with_reducible repeat (first | exact Below.refl _ _ | assumption | refine below_step ?_ (by assumption) | refine Below.drew ?_ | refine below_drewN ?_ _ | refine below_alloc ?_ _ | refine Below.setCell ?_ (by simp; try omega) _))).more (by simp; try omega))).mono ?_; rintro e w1 ⟨rfl, hx⟩; rw [HK.out]; obtain ⟨hc, hf⟩ := bcell hx; have hs1 : w.heap.size + 2 ≤ w1.heap.size := (by have := hx.size; simp at this; omega); have z0 : w1.cell? ⟨w.heap.size + 1, 0, none⟩ = some (.string ⟨#[]⟩) := (by rw [hc _ _ (by simp; try omega)]; simp [go_sem]); have z1 : w1.cell? ⟨w.heap.size + 1, 1, none⟩ = some (.int .i64 0) := (by rw [hc _ _ (by simp; try omega)]; simp [go_sem]); have D0 := ((DP.made w c h p s (.slice (some ⟨b, off, none⟩) l.length cp) 29).alloc _).next hx; obtain ⟨p0, p1', p2', p3, p4⟩ := id D0; have hB1 : Below w.heap.size w w1 := (by with_reducible repeat (first | exact Below.refl _ _ | assumption | refine below_step ?_ (by assumption) | refine Below.drew ?_ | refine below_drewN ?_ _ | refine below_alloc ?_ _ | refine Below.setCell ?_ (by simp; try omega) _)); have r0 := (hB1.cell (p := ⟨b, off + k * 2, none⟩) hbb).trans hc0; have r1 := (hB1.cell (p := ⟨b, off + k * 2 + 1, none⟩) hbb).trans hc1) | (go_at_call 91; refine (h00 _ _ _ _).mono ?_; rintro e w2 ⟨rfl, rfl⟩; first | rw [g1] | rw [g2] | rw [g3]))
    exact bodyPost_ret (v := .tuple #[.agg #[.string l[k].f0, .int .i64 l[k].f1], .int .i64 0]) (by simp [results, Try.results51, go_sem, World.cell?_setCell_other, z0, z1]) rfl ⟨by rw [HR.out]; rfl, (by with_reducible repeat (first | exact Below.refl _ _ | assumption | refine below_step ?_ (by assumption) | refine Below.drew ?_ | refine below_drewN ?_ _ | refine below_alloc ?_ _ | refine Below.setCell ?_ (by simp; try omega) _))⟩
end Go.Proofs.Ytfcbcnlkoajpjaa
