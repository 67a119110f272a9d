/- Walks: SectorAt. -/
import Derived.Test.YtfcbcnlkoajpjaaW32
namespace Go.Proofs.Ytfcbcnlkoajpjaa
open Go.RowKit
set_option linter.unusedVariables false

def inD (cy hd nu c h p : Int) : Bool := inB cy 0 (c - 1) && inB hd 0 (h - 1) && inB nu 0 (p - 1)
theorem inD_1 {cy hd nu c h p : Int} (g : inB cy 0 (c - 1) = false) : inD cy hd nu c h p = false := by simp [inD, g]
theorem inD_2 {cy hd nu c h p : Int} (g : inB hd 0 (h - 1) = false) : inD cy hd nu c h p = false := by simp [inD, g]
theorem inD_3 {cy hd nu c h p : Int} (g : inB nu 0 (p - 1) = false) : inD cy hd nu c h p = false := by simp [inD, g]
theorem inD_4 {cy hd nu c h p : Int} (g1 : inB cy 0 (c - 1) = true) (g2 : inB hd 0 (h - 1) = true) (g3 : inB nu 0 (p - 1) = true) : inD cy hd nu c h p = true := by simp [inD, g1, g2, g3]
theorem inB_yes {x a b : Int} (g : inB x a b = true) : a ≤ x ∧ x ≤ b := by
  unfold inB at g
  simp only [Bool.and_eq_true, decide_eq_true_eq] at g
  exact g
def noSec : DSector := ⟨⟨#[]⟩, 0⟩
def secIx (cy hd nu h p : Int) : Nat := ((cy * h + hd) * p + nu).toNat
def sAt (c h p s : Int) (l : List DSector) (cy hd nu : Int) : DSector × Int :=
  if okD c h p s l = false then (noSec, 1) else if inD cy hd nu c h p = false then (noSec, 2) else (l.getD (secIx cy hd nu h p) noSec, 0)
theorem sAt_1 {c h p s : Int} {l : List DSector} (cy hd nu : Int) (g : okD c h p s l = false) : sAt c h p s l cy hd nu = (noSec, 1) := if_pos g
theorem sAt_2 {c h p s : Int} {l : List DSector} {cy hd nu : Int} (g : okD c h p s l = true) (g2 : inD cy hd nu c h p = false) : sAt c h p s l cy hd nu = (noSec, 2) := by
  rw [sAt, if_neg (by simp [g]), if_pos g2]
theorem sAt_3 {c h p s : Int} {l : List DSector} {cy hd nu : Int} (g : okD c h p s l = true) (g2 : inD cy hd nu c h p = true) (k : Nat) (hk : k < l.length) (he : secIx cy hd nu h p = k) : sAt c h p s l cy hd nu = (l[k], 0) := by
  rw [sAt, if_neg (by simp [g]), if_neg (by simp [g2]), he, List.getD_eq_getElem?_getD, List.getElem?_eq_getElem hk]
  rfl
/-- The index that belongs to a place. -/
theorem ix_bounds {c h p cy hd nu : Int} {n : Nat} (c1 : 1 ≤ c) (c2 : c ≤ 8) (h1 : 1 ≤ h) (h2 : h ≤ 2) (p1 : 1 ≤ p) (p2 : p ≤ 8) (hn : (n : Int) = c * h * p) (y0 : 0 ≤ cy) (y1 : cy ≤ c - 1) (d0 : 0 ≤ hd) (d1 : hd ≤ h - 1) (u0 : 0 ≤ nu) (u1 : nu ≤ p - 1) :
    0 ≤ cy * h ∧ cy * h ≤ 14 ∧ 0 ≤ (cy * h + hd) * p ∧ (cy * h + hd) * p ≤ 120 ∧ secIx cy hd nu h p < n ∧ (cy * h + hd) * p + nu = (secIx cy hd nu h p : Int) := by
  unfold secIx
  have hh : h = 1 ∨ h = 2 := by omega
  have hp : p = 1 ∨ p = 2 ∨ p = 3 ∨ p = 4 ∨ p = 5 ∨ p = 6 ∨ p = 7 ∨ p = 8 := by omega
  rcases hh with rfl | rfl <;> rcases hp with rfl | rfl | rfl | rfl | rfl | rfl | rfl | rfl <;> (refine ⟨?_, ?_, ?_, ?_, ?_, ?_⟩ <;> omega)
def rAt (r : DSector × Int) : Ending := .returned (.tuple #[.agg #[.string r.1.f0, .int .i64 r.1.f1], .int .i64 r.2])

set_option maxRecDepth 100000 in
set_option maxHeartbeats 1000000 in
theorem spec_SectorAt_any (c h p s cy hd nu : Int) (A : Option Addr) (cp : Nat) (l : List DSector) (w : World) (hr : Rd w w.heap.size 2 A l.length (flat fSector l)) (hn : l.length ≤ 1048576) (hok : ∀ x ∈ l, okSector x) :
    Calls Try.prog 50 #[.agg #[.int .i64 c, .int .i64 h, .int .i64 p, .int .i64 s, .slice A l.length cp], .int .i64 cy, .int .i64 hd, .int .i64 nu] w fun e w' => e = rAt (sAt c h p s l cy hd nu) ∧ Below w.heap.size w w' := by
  have him := fun W hr hd => l12Ok_any w.heap.size c h p s A cp l W hd hr hn hok
  cases hk : okD c h p s l
  · have HR := Lib.hid (sAt_1 cy hd nu hk)
    have HK := Lib.hid hk
    clear hk
    go_enter Try.func50, Try.ntmps50
    go_wp2_with (go_at_call 85; refine (him _ ((hr.below (by with_reducible repeat (first | exact Below.refl _ _ | assumption | refine below_step ?_ (by assumption) | refine Below.drew ?_ | refine below_drewN ?_ _ | refine below_alloc ?_ _ | refine Below.setCell ?_ (by simp; try omega) _))).more (by simp; try omega)) ((DP.made w c h p s _ _).alloc _)).mono ?_; rintro e w1 ⟨rfl, hx⟩; rw [HK.out]; obtain ⟨hc, hf⟩ := bcell hx; have hs1 : w.heap.size + 2 ≤ w1.heap.size := (by have := hx.size; simp at this; omega); have z0 : w1.cell? ⟨w.heap.size + 1, 0, none⟩ = some (.string ⟨#[]⟩) := (by rw [hc _ _ (by simp; try omega)]; simp [go_sem]); have z1 : w1.cell? ⟨w.heap.size + 1, 1, none⟩ = some (.int .i64 0) := (by rw [hc _ _ (by simp; try omega)]; simp [go_sem]); have D0 := ((DP.made w c h p s (.slice A l.length cp) 29).alloc _).next hx; obtain ⟨p0, p1', p2', p3, p4⟩ := id D0)
    exact bodyPost_ret (v := .tuple #[.agg #[.string ⟨#[]⟩, .int .i64 0], .int .i64 1]) (by simp [results, Try.results50, go_sem, World.cell?_setCell_other, z0, z1]) rfl ⟨by rw [HR.out]; rfl, (by with_reducible repeat (first | exact Below.refl _ _ | assumption | refine below_step ?_ (by assumption) | refine Below.drew ?_ | refine below_drewN ?_ _ | refine below_alloc ?_ _ | refine Below.setCell ?_ (by simp; try omega) _))⟩
  · obtain ⟨hg, hl, -⟩ := okD_geo hk
    obtain ⟨c1, c2, h1, h2, p1, p2, s1, s2⟩ := geoB_yes hg
    have HK := Lib.hid hk
    have HL := Lib.hid hl
    clear hl hg
    have h00 := fun (x a b : Int) (W : World) => l00In_any x a b W
    cases g1 : inB cy 0 (c - 1)
    · have HR := Lib.hid (sAt_2 (cy := cy) (hd := hd) (nu := nu) hk (inD_1 g1))
      clear hk
      go_enter Try.func50, Try.ntmps50
      go_wp2_with (first | (go_at_call 85; refine (him _ ((hr.below (by with_reducible repeat (first | exact Below.refl _ _ | assumption | refine below_step ?_ (by assumption) | refine Below.drew ?_ | refine below_drewN ?_ _ | refine below_alloc ?_ _ | refine Below.setCell ?_ (by simp; try omega) _))).more (by simp; try omega)) ((DP.made w c h p s _ _).alloc _)).mono ?_; rintro e w1 ⟨rfl, hx⟩; rw [HK.out]; obtain ⟨hc, hf⟩ := bcell hx; have hs1 : w.heap.size + 2 ≤ w1.heap.size := (by have := hx.size; simp at this; omega); have z0 : w1.cell? ⟨w.heap.size + 1, 0, none⟩ = some (.string ⟨#[]⟩) := (by rw [hc _ _ (by simp; try omega)]; simp [go_sem]); have z1 : w1.cell? ⟨w.heap.size + 1, 1, none⟩ = some (.int .i64 0) := (by rw [hc _ _ (by simp; try omega)]; simp [go_sem]); have D0 := ((DP.made w c h p s (.slice A l.length cp) 29).alloc _).next hx; obtain ⟨p0, p1', p2', p3, p4⟩ := id D0) | (go_at_call 90; refine (h00 _ _ _ _).mono ?_; rintro e w2 ⟨rfl, rfl⟩; rw [g1]))
      exact bodyPost_ret (v := .tuple #[.agg #[.string ⟨#[]⟩, .int .i64 0], .int .i64 2]) (by simp [results, Try.results50, go_sem, World.cell?_setCell_other, z0, z1]) rfl ⟨by rw [HR.out]; rfl, (by with_reducible repeat (first | exact Below.refl _ _ | assumption | refine below_step ?_ (by assumption) | refine Below.drew ?_ | refine below_drewN ?_ _ | refine below_alloc ?_ _ | refine Below.setCell ?_ (by simp; try omega) _))⟩
    cases g2 : inB hd 0 (h - 1)
    · have HR := Lib.hid (sAt_2 (cy := cy) (hd := hd) (nu := nu) hk (inD_2 g2))
      clear hk
      go_enter Try.func50, Try.ntmps50
      go_wp2_with (first | (go_at_call 85; refine (him _ ((hr.below (by with_reducible repeat (first | exact Below.refl _ _ | assumption | refine below_step ?_ (by assumption) | refine Below.drew ?_ | refine below_drewN ?_ _ | refine below_alloc ?_ _ | refine Below.setCell ?_ (by simp; try omega) _))).more (by simp; try omega)) ((DP.made w c h p s _ _).alloc _)).mono ?_; rintro e w1 ⟨rfl, hx⟩; rw [HK.out]; obtain ⟨hc, hf⟩ := bcell hx; have hs1 : w.heap.size + 2 ≤ w1.heap.size := (by have := hx.size; simp at this; omega); have z0 : w1.cell? ⟨w.heap.size + 1, 0, none⟩ = some (.string ⟨#[]⟩) := (by rw [hc _ _ (by simp; try omega)]; simp [go_sem]); have z1 : w1.cell? ⟨w.heap.size + 1, 1, none⟩ = some (.int .i64 0) := (by rw [hc _ _ (by simp; try omega)]; simp [go_sem]); have D0 := ((DP.made w c h p s (.slice A l.length cp) 29).alloc _).next hx; obtain ⟨p0, p1', p2', p3, p4⟩ := id D0) | (go_at_call 90; refine (h00 _ _ _ _).mono ?_; rintro e w2 ⟨rfl, rfl⟩; first | rw [g1] | rw [g2]))
      exact bodyPost_ret (v := .tuple #[.agg #[.string ⟨#[]⟩, .int .i64 0], .int .i64 2]) (by simp [results, Try.results50, go_sem, World.cell?_setCell_other, z0, z1]) rfl ⟨by rw [HR.out]; rfl, (by with_reducible repeat (first | exact Below.refl _ _ | assumption | refine below_step ?_ (by assumption) | refine Below.drew ?_ | refine below_drewN ?_ _ | refine below_alloc ?_ _ | refine Below.setCell ?_ (by simp; try omega) _))⟩
    cases g3 : inB nu 0 (p - 1)
    · have HR := Lib.hid (sAt_2 (cy := cy) (hd := hd) (nu := nu) hk (inD_3 g3))
      clear hk
      go_enter Try.func50, Try.ntmps50
      go_wp2_with (first | (go_at_call 85; refine (him _ ((hr.below (by with_reducible repeat (first | exact Below.refl _ _ | assumption | refine below_step ?_ (by assumption) | refine Below.drew ?_ | refine below_drewN ?_ _ | refine below_alloc ?_ _ | refine Below.setCell ?_ (by simp; try omega) _))).more (by simp; try omega)) ((DP.made w c h p s _ _).alloc _)).mono ?_; rintro e w1 ⟨rfl, hx⟩; rw [HK.out]; obtain ⟨hc, hf⟩ := bcell hx; have hs1 : w.heap.size + 2 ≤ w1.heap.size := (by have := hx.size; simp at this; omega); have z0 : w1.cell? ⟨w.heap.size + 1, 0, none⟩ = some (.string ⟨#[]⟩) := (by rw [hc _ _ (by simp; try omega)]; simp [go_sem]); have z1 : w1.cell? ⟨w.heap.size + 1, 1, none⟩ = some (.int .i64 0) := (by rw [hc _ _ (by simp; try omega)]; simp [go_sem]); have D0 := ((DP.made w c h p s (.slice A l.length cp) 29).alloc _).next hx; obtain ⟨p0, p1', p2', p3, p4⟩ := id D0) | (go_at_call 90; refine (h00 _ _ _ _).mono ?_; rintro e w2 ⟨rfl, rfl⟩; first | rw [g1] | rw [g2] | rw [g3]))
      exact bodyPost_ret (v := .tuple #[.agg #[.string ⟨#[]⟩, .int .i64 0], .int .i64 2]) (by simp [results, Try.results50, go_sem, World.cell?_setCell_other, z0, z1]) rfl ⟨by rw [HR.out]; rfl, (by with_reducible repeat (first | exact Below.refl _ _ | assumption | refine below_step ?_ (by assumption) | refine Below.drew ?_ | refine below_drewN ?_ _ | refine below_alloc ?_ _ | refine Below.setCell ?_ (by simp; try omega) _))⟩
    obtain ⟨y0, y1⟩ := inB_yes g1
    obtain ⟨d0, d1⟩ := inB_yes g2
    obtain ⟨u0, u1⟩ := inB_yes g3
    obtain ⟨m1, m2, q1, q2, k1, k2⟩ := ix_bounds c1 c2 h1 h2 p1 p2 HL.out y0 y1 d0 d1 u0 u1
    have HR := Lib.hid (sAt_3 hk (inD_4 g1 g2 g3) _ k1 rfl)
    generalize secIx cy hd nu h p = k at *
    clear hk
    have e1 : wrap64 (cy * h) = cy * h := IntWalk.wrap64_in _ ⟨by omega, by omega⟩
    have e2 : wrap64 (cy * h + hd) = cy * h + hd := IntWalk.wrap64_in _ ⟨by omega, by omega⟩
    have e3 : wrap64 ((cy * h + hd) * p) = (cy * h + hd) * p := IntWalk.wrap64_in _ ⟨by omega, by omega⟩
    have e4 : wrap64 ((cy * h + hd) * p + nu) = (k : Int) := by rw [k2]; exact IntWalk.wrap64_in _ ⟨by omega, by omega⟩
    have e5 : ((cy * h + hd) * p + nu).toNat = k := by omega
    have e6 : 0 ≤ (cy * h + hd) * p + nu ∧ (cy * h + hd) * p + nu < (l.length : Int) := by omega
    clear k2
    obtain ⟨b, off, rfl, hbb, hcc⟩ := hr.at_ fSector_len rfl k k1
    have hc0 := hcc 0 _ (by omega) rfl
    have hc1 := hcc 1 _ (by omega) rfl
    clear hcc
    simp only [← Nat.add_assoc, Nat.add_zero] at hc0 hc1
    go_enter Try.func50, Try.ntmps50
    go_wp2_with (first | (go_at_call 85; refine (him _ ((hr.below (by with_reducible repeat (first | exact Below.refl _ _ | assumption | refine below_step ?_ (by assumption) | refine Below.drew ?_ | refine below_drewN ?_ _ | refine below_alloc ?_ _ | refine Below.setCell ?_ (by simp; try omega) _))).more (by simp; try omega)) ((DP.made w c h p s _ _).alloc _)).mono ?_; rintro e w1 ⟨rfl, hx⟩; rw [HK.out]; obtain ⟨hc, hf⟩ := bcell hx; have hs1 : w.heap.size + 2 ≤ w1.heap.size := (by have := hx.size; simp at this; omega); have z0 : w1.cell? ⟨w.heap.size + 1, 0, none⟩ = some (.string ⟨#[]⟩) := (by rw [hc _ _ (by simp; try omega)]; simp [go_sem]); have z1 : w1.cell? ⟨w.heap.size + 1, 1, none⟩ = some (.int .i64 0) := (by rw [hc _ _ (by simp; try omega)]; simp [go_sem]); have D0 := ((DP.made w c h p s (.slice (some ⟨b, off, none⟩) l.length cp) 29).alloc _).next hx; obtain ⟨p0, p1', p2', p3, p4⟩ := id D0; have hB1 : Below w.heap.size w w1 := (by with_reducible repeat (first | exact Below.refl _ _ | assumption | refine below_step ?_ (by assumption) | refine Below.drew ?_ | refine below_drewN ?_ _ | refine below_alloc ?_ _ | refine Below.setCell ?_ (by simp; try omega) _)); have r0 := (hB1.cell (p := ⟨b, off + k * 2, none⟩) hbb).trans hc0; have r1 := (hB1.cell (p := ⟨b, off + k * 2 + 1, none⟩) hbb).trans hc1) | (go_at_call 90; refine (h00 _ _ _ _).mono ?_; rintro e w2 ⟨rfl, rfl⟩; first | rw [g1] | rw [g2] | rw [g3]))
    exact bodyPost_ret (v := .tuple #[.agg #[.string l[k].f0, .int .i64 l[k].f1], .int .i64 0]) (by simp [results, Try.results50, go_sem, World.cell?_setCell_other, z0, z1]) rfl ⟨by rw [HR.out]; rfl, (by with_reducible repeat (first | exact Below.refl _ _ | assumption | refine below_step ?_ (by assumption) | refine Below.drew ?_ | refine below_drewN ?_ _ | refine below_alloc ?_ _ | refine Below.setCell ?_ (by simp; try omega) _))⟩
end Go.Proofs.Ytfcbcnlkoajpjaa
