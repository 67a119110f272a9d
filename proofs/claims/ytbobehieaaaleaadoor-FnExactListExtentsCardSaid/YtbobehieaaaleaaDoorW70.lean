/- Walks: valid devices (spec). -/
import Derived.Test.YtbobehieaaaleaaDoorMapM
import Derived.Test.YtbobehieaaaleaaDoorQB
import Derived.Test.YtbobehieaaaleaaDoorSDevice
namespace Go.Proofs.YtbobehieaaaleaaDoor
open Go.RowKit
set_option linter.unusedVariables false

theorem CP.disc8 {w : World} {g : Nat} {c h p s : Int} {v : Value} {r : List Value} (d : CP w g (.int .i64 c :: .int .i64 h :: .int .i64 p :: .int .i64 s :: v :: r)) : DP w g c h p s v :=
  ⟨d 0 (by simp), d 1 (by simp), d 2 (by simp), d 3 (by simp), d 4 (by simp)⟩
theorem madeSeen (n : Nat) : madeCells (Value.bool false).cells (n * 1) = (seenL n []).toArray := by
  apply Array.ext'
  rw [Nat.mul_one]
  exact madeCells_false n
theorem BX.dn {w : World} {g : Nat} {t : TypeId} {vs : List Value} (h : BX w g t vs) (k : Nat) : BX (w.drewN k) g t vs := h
theorem BX.dr {w : World} {g : Nat} {t : TypeId} {vs : List Value} (h : BX w g t vs) : BX w.drew g t vs := h

end Go.Proofs.YtbobehieaaaleaaDoor
