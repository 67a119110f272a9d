/- Walks: the question for a block of a device; DeviceBlocks; SectorOf. -/
import Derived.Test.YtbobehieaaaleaaDoorW71
namespace Go.Proofs.YtbobehieaaaleaaDoor
open Go.RowKit
set_option linter.unusedVariables false

theorem own_cap {w : World} {base : Nat} {e : TypeId} {size n c : Nat} {A : Option Addr} {xs : List Value} (h : w.ownsRow base e size (.slice A n c) n xs) : n ≤ c := by
  rcases h.2 with ⟨hv, h0⟩ | ⟨g, cap, cur, hv, _, _, hnc, _⟩
  · omega
  · injection hv with _ _ h3
    omega
def askC (ok : Bool) (n : Nat) (b : Int) : Int := if ok then (if inB b 0 ((n : Int) - 1) then 0 else 2) else 1
theorem askC_1 {n : Nat} {b : Int} : askC false n b = 1 := rfl
theorem askC_2 {n : Nat} {b : Int} (h : inB b 0 ((n : Int) - 1) = false) : askC true n b = 2 := by simp [askC, h]
theorem askC_3 {n : Nat} {b : Int} (h : inB b 0 ((n : Int) - 1) = true) : askC true n b = 0 := by simp [askC, h]
def dvN (ok : Bool) (n : Nat) : Int := if ok then (n : Int) else -1
theorem dvN_1 {n : Nat} : dvN false n = -1 := rfl
theorem dvN_2 {n : Nat} : dvN true n = (n : Int) := rfl
def soA (ok : Bool) (m : List Int) (b : Int) : Int := if ok && inB b 0 ((m.length : Int) - 1) then m.getD b.toNat 0 else 0
theorem soA_1 {m : List Int} {b : Int} : soA false m b = 0 := by simp [soA]
theorem soA_2 {m : List Int} {b : Int} (h : inB b 0 ((m.length : Int) - 1) = false) : soA true m b = 0 := by simp [soA, h]
theorem soA_3 {m : List Int} {b : Nat} (h : inB b 0 ((m.length : Int) - 1) = true) (hb : b < m.length) : soA true m b = m[b] := by simp [soA, h, hb]

end Go.Proofs.YtbobehieaaaleaaDoor
