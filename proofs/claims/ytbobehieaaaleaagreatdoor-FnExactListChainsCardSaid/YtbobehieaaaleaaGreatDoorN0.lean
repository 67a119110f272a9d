/- Walks: the texts W99 W105 W107 W108 as one text. -/
import Derived.Test.YtbobehieaaaleaaGreatDoorW98
import Derived.Test.YtbobehieaaaleaaGreatDoorMem3
import Derived.Deep.RegionLaw
import Derived.Test.YtbobehieaaaleaaGreatDoorW97
import Derived.Test.YtbobehieaaaleaaGreatDoorShelf
import Derived.Deep.RegionHeld3
import Derived.Deep.DeepCutAuto
import Derived.Test.YtbobehieaaaleaaGreatDoorMem2
import Derived.Test.YtbobehieaaaleaaGreatDoorQB
namespace Go.Proofs.YtbobehieaaaleaaGreatDoor
set_option linter.unusedVariables false
open Go.RowKit

def loN (ok : Bool) (v : Nat) : Int := if ok then (v : Int) else 0
def okC (l : List ByteArray) : Bool := decide (chC l = 0)
end Go.Proofs.YtbobehieaaaleaaGreatDoor
namespace Go.Proofs.YtbobehieaaaleaaGreatDoor
set_option linter.unusedVariables false
open Go.RowKit

def ex5 (b s : Nat) : ByteArray := ⟨#[69, 88]⟩ ++ ⟨[UInt8.ofNat b, UInt8.ofNat s, UInt8.ofNat (b / 4)].toArray⟩
def exS (b s : Nat) : ByteArray := ex5 b s ++ zerosB (s - 5)
def exD (b s : Nat) : Nat := 1 + (b / 4 * 16 + s - 1) / s
def exB (l : List ByteArray) : Bool := blkB l && decide (l.headD ⟨#[]⟩ = exS l.length (s0 l))
theorem ex5_size (b s : Nat) : (ex5 b s).size = 5 := rfl
theorem bcells_set (l : List UInt8) (j : Nat) (x : UInt8) : (bcells l).set j (.int .u8 (x.toNat : Int)) = bcells (l.set j x) := by simp [bcells, List.map_set]
theorem exS_row (b s : Nat) (h : 8 ≤ s) : (⟨((((((List.replicate s (0 : UInt8)).set 0 69).set 1 88).set 2 (UInt8.ofNat b)).set 3 (UInt8.ofNat s)).set 4 (UInt8.ofNat (b / 4))).toArray⟩ : ByteArray) = exS b s := by
  obtain ⟨z, hz⟩ : ∃ z, s = z + 5 := ⟨s - 5, by omega⟩
  have h1 : s - 5 = z := by omega
  have h2 : List.replicate s (0 : UInt8) = 0 :: 0 :: 0 :: 0 :: 0 :: List.replicate z 0 := by rw [hz]; rfl
  have h3 : ((((((List.replicate s (0 : UInt8)).set 0 69).set 1 88).set 2 (UInt8.ofNat b)).set 3 (UInt8.ofNat s)).set 4 (UInt8.ofNat (b / 4))) = 69 :: 88 :: UInt8.ofNat b :: UInt8.ofNat s :: UInt8.ofNat (b / 4) :: List.replicate z 0 := by rw [h2]; rfl
  rw [h3, exS, h1]
  rfl
theorem run_three (b s e : Nat) (hb : b < 256) (hs : s < 256) (he : e < 256) (w : World) :
    (convert 34 9 (.slice (some ⟨w.heap.size, 0, none⟩) 3 3)).run Tryz.prog (w.alloc (.cells #[.int .u8 (b : Int), .int .u8 (s : Int), .int .u8 (e : Int)] 5)) =
      .ok (.string ⟨[UInt8.ofNat b, UInt8.ofNat s, UInt8.ofNat e].toArray⟩) (w.alloc (.cells #[.int .u8 (b : Int), .int .u8 (s : Int), .int .u8 (e : Int)] 5)) :=
  run_b2s_lit Tryz.underlying34 Tryz.underlying5 Tryz.underlying9 w [UInt8.ofNat b, UInt8.ofNat s, UInt8.ofNat e] _ 3 (by
    have h1 : (UInt8.ofNat b).toNat = b := by rw [UInt8.toNat_ofNat']; omega
    have h2 : (UInt8.ofNat s).toNat = s := by rw [UInt8.toNat_ofNat']; omega
    have h3 : (UInt8.ofNat e).toNat = e := by rw [UInt8.toNat_ofNat']; omega
    simp only [bcells, List.map_cons, List.map_nil, h1, h2, h3]) rfl (by simp [maxLen])
end Go.Proofs.YtbobehieaaaleaaGreatDoor
namespace Go.Proofs.YtbobehieaaaleaaGreatDoor
set_option linter.unusedVariables false
open Go.RowKit

theorem ex_1 {l : List ByteArray} (h : blkB l = false) : exB l = false := by simp [exB, h]
theorem ex_2 {l : List ByteArray} {b0 H : ByteArray} {s : Nat} (hh : l.headD ⟨#[]⟩ = b0) (hs : s0 l = s) (hH : exS l.length s = H) (hb : blkB l = true) : exB l = decide (b0 = H) := by rw [exB, hb, hh, hs, hH, Bool.true_and]
end Go.Proofs.YtbobehieaaaleaaGreatDoor
namespace Go.Proofs.YtbobehieaaaleaaGreatDoor
set_option linter.unusedVariables false
open Go.RowKit

theorem ex_3 {l : List ByteArray} {s : Nat} (hs : s0 l = s) (h : oneOf s = false) : exB l = false := ex_1 (blk_2 (by rw [hs]; exact h))
end Go.Proofs.YtbobehieaaaleaaGreatDoor
