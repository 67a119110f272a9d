/- Plain functions: a track with a further feature. -/
import Derived.Test.YthelfgagddldfaaGreatDoorBxM
import Derived.Test.YthelfgagddldfaaGreatDoorSSectorSpec
import Derived.Test.YthelfgagddldfaaGreatDoorSFeature
namespace Go.Proofs.YthelfgagddldfaaGreatDoor
open Go.RowKit
set_option linter.unusedVariables false

/-- A feature is valid. -/
def feB (k s v : Int) : Bool :=
  inB s 0 63 && (if k = 1 then inB v 0 (s - 1) else if k = 7 then inB v 1 512 else if k = 8 then decide (s = 0) && inB v 1 8000 else inB k 1 8 && decide (v = 0))
/-- A description of a sector is valid. -/
def ssB (x : DSectorSpec) : Bool := inB x.f0 0 255 && inB x.f1 0 255 && inB x.f2 0 255 && inB x.f3 0 2 && decide ((x.f4.size : Int) = szB x.f3)
def tsB (f g : Int) (xs : List DSectorSpec) : Bool := inB f 1 3 && inB g 1 20 && decide (xs.length ≤ 8) && xs.all ssB
section
variable {xs : List DSectorSpec} {k : Nat} {R : Bool} {f g : Int}
theorem ts_1 (h : inB f 1 3 = false) : tsB f g xs = false := by simp [tsB, h]
theorem ts_2 (h : inB g 1 20 = false) : tsB f g xs = false := by simp [tsB, h]
theorem ts_3 (h : ¬ xs.length ≤ 8) : tsB f g xs = false := by simp [tsB, h]
theorem ts_4 (h1 : inB f 1 3 = true) (h2 : inB g 1 20 = true) (h3 : xs.length ≤ 8) : tsB f g xs = (xs.drop 0).all ssB := by simp [tsB, h1, h2, h3]
theorem sa_no (h : k < xs.length) (g : ssB xs[k] = false) (e : (xs.drop k).all ssB = R) : R = false := by
  rw [← e, List.drop_eq_getElem_cons h, List.all_cons, g, Bool.false_and]
theorem sa_yes (h : k < xs.length) (g : ssB xs[k] = true) (e : (xs.drop k).all ssB = R) : (xs.drop (k + 1)).all ssB = R := by
  rw [← e, List.drop_eq_getElem_cons h, List.all_cons, g, Bool.true_and]
theorem sa_end (h : xs.length ≤ k) (e : (xs.drop k).all ssB = R) : R = true := by
  rw [← e, List.drop_eq_nil_of_le h]
  rfl
end
/-- The opposite bytes. -/
def invB (s : ByteArray) : ByteArray := ⟨(s.data.toList.map (fun b => 255 - b)).toArray⟩
def noSS : DSectorSpec := ⟨0, 0, 0, 0, ⟨#[]⟩, false, false, false⟩
/-- What ProtectTrack answers: the code, the gap, the sectors (v says that both arguments are valid). -/
def prC (v : Bool) (g : Int) (n : Nat) (k s x : Int) : Int :=
  if v = false then 1 else if k = 5 ∨ k = 7 then 6 else if k = 8 then (if g + x > 20 then 5 else 0)
  else if k = 1 then (if s ≠ (n : Int) then 2 else if (n : Int) ≥ 8 then 5 else 0) else if s ≥ (n : Int) then 2 else 0
def prN (c : Int) (a : Int) : Int := if c = 0 then a else 0
def prG (c g k x : Int) : Int := if c = 0 then (if k = 8 then g + x else g) else 0
def prS (k : Int) (y : DSectorSpec) : DSectorSpec :=
  if k = 2 then { y with f0 := 255 - y.f0 } else if k = 3 then { y with f6 := true } else if k = 4 then { y with f7 := true } else { y with f5 := true }
def prA (y : DSectorSpec) : DSectorSpec := ⟨y.f0, y.f1, y.f2, y.f3, invB y.f4, false, false, false⟩
def prL (c : Int) (xs : List DSectorSpec) (k s x : Int) : List DSectorSpec :=
  if c = 0 then (if k = 8 then xs else if k = 1 then xs ++ [prA (xs.getD x.toNat noSS)] else xs.set s.toNat (prS k (xs.getD s.toNat noSS))) else []
theorem prL_len (c : Int) (xs : List DSectorSpec) (k s x : Int) : (prL c xs k s x).length ≤ xs.length + 1 := by
  unfold prL
  repeat' split
  all_goals simp
end Go.Proofs.YthelfgagddldfaaGreatDoor
