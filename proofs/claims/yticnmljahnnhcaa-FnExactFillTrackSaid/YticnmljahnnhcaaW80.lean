/- Walks: PutSector. -/
import Derived.Test.YticnmljahnnhcaaW80s
import Derived.Test.YticnmljahnnhcaaW77
import Derived.Test.YticnmljahnnhcaaW32
import Derived.Test.YticnmljahnnhcaaQB
import Derived.Test.YticnmljahnnhcaaMark
import Derived.Test.YticnmljahnnhcaaW33
namespace Go.Proofs.Yticnmljahnnhcaa
open Go.RowKit
set_option linter.unusedVariables false

/-- What PutSector answers: d says that the disc is valid, x that the sector is, n is the number of sectors. -/
def ptOk (d x : Bool) (n : Nat) (i : Int) : Bool := d && x && inB i 0 ((n : Int) - 1)
def ptC (d x : Bool) (n : Nat) (i : Int) : Int := if d && x then (if inB i 0 ((n : Int) - 1) then 0 else 2) else 1
def ptN (b : Bool) (v : Int) : Int := if b then v else 0
def ptL (b : Bool) (l : List DSector) (i : Int) (y : DSector) : List DSector := if b then l.set i.toNat y else []
theorem ptL_len (b : Bool) (l : List DSector) (i : Int) (y : DSector) : (ptL b l i y).length ≤ l.length := by
  unfold ptL
  split <;> simp
theorem pt_1 {x : Bool} {n : Nat} {i : Int} : ptOk false x n i = false ∧ ptC false x n i = 1 := by simp [ptOk, ptC]
theorem pt_2 {n : Nat} {i : Int} : ptOk true false n i = false ∧ ptC true false n i = 1 := by simp [ptOk, ptC]
theorem pt_3 {n : Nat} {i : Int} (g : inB i 0 ((n : Int) - 1) = false) : ptOk true true n i = false ∧ ptC true true n i = 2 := by simp [ptOk, ptC, g]
theorem pt_4 {n : Nat} {i : Int} (g : inB i 0 ((n : Int) - 1) = true) : ptOk true true n i = true ∧ ptC true true n i = 0 := by simp [ptOk, ptC, g]
end Go.Proofs.Yticnmljahnnhcaa
