/- Walks: SectorAt. -/
import Derived.Test.YtbobehieaaaleaaDoorW32
namespace Go.Proofs.YtbobehieaaaleaaDoor
open Go.RowKit
set_option linter.unusedVariables false

def inD (cy hd nu c h p : Int) : Bool := inB cy 0 (c - 1) && inB hd 0 (h - 1) && inB nu 0 (p - 1)
theorem inD_1 {cy hd nu c h p : Int} (g : inB cy 0 (c - 1) = false) : inD cy hd nu c h p = false := by simp [inD, g]
theorem inD_2 {cy hd nu c h p : Int} (g : inB hd 0 (h - 1) = false) : inD cy hd nu c h p = false := by simp [inD, g]
theorem inD_3 {cy hd nu c h p : Int} (g : inB nu 0 (p - 1) = false) : inD cy hd nu c h p = false := by simp [inD, g]
theorem inD_4 {cy hd nu c h p : Int} (g1 : inB cy 0 (c - 1) = true) (g2 : inB hd 0 (h - 1) = true) (g3 : inB nu 0 (p - 1) = true) : inD cy hd nu c h p = true := by simp [inD, g1, g2, g3]
theorem inB_yes {x a b : Int} (g : inB x a b = true) : a ≤ x ∧ x ≤ b := by
  unfold inB at g
  simp only [Bool.and_eq_true, decide_eq_true_eq] at g
  exact g
def noSec : DSector := ⟨⟨#[]⟩, 0⟩
def secIx (cy hd nu h p : Int) : Nat := ((cy * h + hd) * p + nu).toNat
def sAt (c h p s : Int) (l : List DSector) (cy hd nu : Int) : DSector × Int :=
  if okD c h p s l = false then (noSec, 1) else if inD cy hd nu c h p = false then (noSec, 2) else (l.getD (secIx cy hd nu h p) noSec, 0)
theorem sAt_1 {c h p s : Int} {l : List DSector} (cy hd nu : Int) (g : okD c h p s l = false) : sAt c h p s l cy hd nu = (noSec, 1) := if_pos g
theorem sAt_2 {c h p s : Int} {l : List DSector} {cy hd nu : Int} (g : okD c h p s l = true) (g2 : inD cy hd nu c h p = false) : sAt c h p s l cy hd nu = (noSec, 2) := by
  rw [sAt, if_neg (by simp [g]), if_pos g2]
theorem sAt_3 {c h p s : Int} {l : List DSector} {cy hd nu : Int} (g : okD c h p s l = true) (g2 : inD cy hd nu c h p = true) (k : Nat) (hk : k < l.length) (he : secIx cy hd nu h p = k) : sAt c h p s l cy hd nu = (l[k], 0) := by
  rw [sAt, if_neg (by simp [g]), if_neg (by simp [g2]), he, List.getD_eq_getElem?_getD, List.getElem?_eq_getElem hk]
  rfl
/-- The index that belongs to a place. -/
theorem ix_bounds {c h p cy hd nu : Int} {n : Nat} (c1 : 1 ≤ c) (c2 : c ≤ 8) (h1 : 1 ≤ h) (h2 : h ≤ 2) (p1 : 1 ≤ p) (p2 : p ≤ 8) (hn : (n : Int) = c * h * p) (y0 : 0 ≤ cy) (y1 : cy ≤ c - 1) (d0 : 0 ≤ hd) (d1 : hd ≤ h - 1) (u0 : 0 ≤ nu) (u1 : nu ≤ p - 1) :
    0 ≤ cy * h ∧ cy * h ≤ 14 ∧ 0 ≤ (cy * h + hd) * p ∧ (cy * h + hd) * p ≤ 120 ∧ secIx cy hd nu h p < n ∧ (cy * h + hd) * p + nu = (secIx cy hd nu h p : Int) := by
  unfold secIx
  have hh : h = 1 ∨ h = 2 := by omega
  have hp : p = 1 ∨ p = 2 ∨ p = 3 ∨ p = 4 ∨ p = 5 ∨ p = 6 ∨ p = 7 ∨ p = 8 := by omega
  rcases hh with rfl | rfl <;> rcases hp with rfl | rfl | rfl | rfl | rfl | rfl | rfl | rfl <;> (refine ⟨?_, ?_, ?_, ?_, ?_, ?_⟩ <;> omega)
def rAt (r : DSector × Int) : Ending := .returned (.tuple #[.agg #[.string r.1.f0, .int .i64 r.1.f1], .int .i64 r.2])

end Go.Proofs.YtbobehieaaaleaaDoor
