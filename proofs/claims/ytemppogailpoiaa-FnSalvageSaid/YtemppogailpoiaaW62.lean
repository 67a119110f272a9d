/- Walks: NewDisc. -/
import Derived.Test.YtemppogailpoiaaW61
namespace Go.Proofs.Ytemppogailpoiaa
open Go.RowKit
set_option linter.unusedVariables false

/-- A part of a new disc; 0 where there is none. -/
def nd (c h p s x : Int) : Int := if geoB c h p s = true then x else 0
def ndC (c h p s : Int) : Int := if geoB c h p s = true then 0 else 2
def ndL (c h p s : Int) : List DSector := if geoB c h p s = true then newS c h p s else []
theorem ndL_len (c h p s : Int) : (ndL c h p s).length ≤ 128 := by
  unfold ndL
  split
  · rename_i hg
    obtain ⟨c1, c2, h1, h2, p1, p2, s1, s2⟩ := geoB_yes hg
    obtain ⟨m1, m2⟩ := prod2 c1 c2 h1 h2
    obtain ⟨q1, q2⟩ := prod3 m1 m2 p1 p2
    rw [newS_len]
    unfold secN
    omega
  · simp

end Go.Proofs.Ytemppogailpoiaa
