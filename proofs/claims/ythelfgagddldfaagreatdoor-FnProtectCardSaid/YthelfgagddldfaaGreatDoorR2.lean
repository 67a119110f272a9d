/- Walks: decimals and texts cut at blanks (spec). -/
import Derived.Test.YthelfgagddldfaaGreatDoorR1
import Derived.Deep.RegionLaw
import Derived.Deep.DeepCutAuto
namespace Go.Proofs.YthelfgagddldfaaGreatDoor
open Go.RowKit Go.Lib

theorem bl_len (t : ByteArray) : t.data.toList.length = t.size := by rw [Array.length_toList]; rfl
theorem bl_get (t : ByteArray) (k : Nat) (h : k < t.size) : t.data.toList[k]'(by rw [bl_len]; exact h) = t[k] := rfl
theorem str_nilR (t : ByteArray) : (t.toList == []) = decide (t.size = 0) := by
  rw [ByteArray.toList_eq]
  cases h : decide (t.size = 0)
  · rw [decide_eq_false_iff_not] at h
    rw [beq_eq_false_iff_ne]
    intro e
    have h9 := bl_len t
    rw [e] at h9
    exact h h9.symm
  · rw [decide_eq_true_eq] at h
    have h9 := bl_len t
    rw [h] at h9
    rw [List.eq_nil_of_length_eq_zero h9]
    rfl
theorem cells_dig (d : Nat) (hd : d < 256) : (#[Value.int .u8 (d : Int)] : Array Value).toList = bcells [UInt8.ofNat d] := by
  simp [bcells, u8_of hd]
theorem run_one (d : Nat) (hd : d < 256) (w : World) :
    (convert 22 9 (.slice (some ⟨w.heap.size, 0, none⟩) 1 1)).run Tryz.prog (w.alloc (.cells #[.int .u8 (d : Int)] 5)) =
      .ok (.string ⟨[UInt8.ofNat d].toArray⟩) (w.alloc (.cells #[.int .u8 (d : Int)] 5)) :=
  run_b2s_lit Tryz.underlying22 Tryz.underlying5 Tryz.underlying9 w [UInt8.ofNat d] _ 1 (cells_dig d hd) rfl (by simp [maxLen])
theorem cv_cell {W : World} {b d : Nat} (hd : d < 256) (h : W.cell? ⟨b, 0, none⟩ = some (.int .u8 (d : Int))) : (convert 22 9 (.slice (some ⟨b, 0, none⟩) 1 1)).run Tryz.prog W = .ok (.string ⟨[UInt8.ofNat d].toArray⟩) W :=
  run_convert_bytes_back W 22 9 5 ⟨b, 0, none⟩ 1 [UInt8.ofNat d] Tryz.underlying22 Tryz.underlying5 Tryz.underlying9 (by
    intro j hj
    have hj0 : j = 0 := by simp at hj; omega
    subst hj0
    show W.cell? ((⟨b, 0, none⟩ : Addr).add 0) = _
    rw [show (⟨b, 0, none⟩ : Addr).add 0 = ⟨b, 0, none⟩ from rfl, h]
    simp [u8_of hd])
theorem run_oneS {d : Nat} {S : ByteArray} (hd : d < 256) (hS : (⟨[UInt8.ofNat d].toArray⟩ : ByteArray) = S) (w : World) :
    (convert 22 9 (.slice (some ⟨w.heap.size, 0, none⟩) 1 1)).run Tryz.prog (w.alloc (.cells #[.int .u8 (d : Int)] 5)) = .ok (.string S) (w.alloc (.cells #[.int .u8 (d : Int)] 5)) := by
  rw [← hS]
  exact run_one d hd w
theorem run_oneD {d : Nat} {S : ByteArray} (hd : d < 256) (hS : (⟨[UInt8.ofNat d].toArray⟩ : ByteArray) = S) (w : World) :
    (convert 22 9 (.slice (some ⟨w.heap.size, 0, none⟩) 1 1)).run Tryz.prog (World.drew (w.alloc (.cells #[.int .u8 (d : Int)] 5))) = .ok (.string S) (World.drew (w.alloc (.cells #[.int .u8 (d : Int)] 5))) := by
  rw [← hS]
  exact cv_cell hd (by simp)
theorem one_after {d : Nat} {S : ByteArray} {w W : World} (hd : d < 256) (hS : (⟨[UInt8.ofNat d].toArray⟩ : ByteArray) = S) (hx : Below (World.drew (w.alloc (.cells #[.int .u8 (d : Int)] 5))).heap.size (World.drew (w.alloc (.cells #[.int .u8 (d : Int)] 5))) W) :
    (convert 22 9 (.slice (some ⟨w.heap.size, 0, none⟩) 1 1)).run Tryz.prog W = .ok (.string S) W := by
  rw [← hS]
  refine cv_cell hd ((Below.cell hx (p := ⟨w.heap.size, 0, none⟩) ?_).trans ?_)
  · show w.heap.size < (w.alloc (.cells #[.int .u8 (d : Int)] 5)).heap.size
    rw [World.size_alloc]
    omega
  · show (w.alloc (.cells #[.int .u8 (d : Int)] 5)).cell? ⟨w.heap.size, 0, none⟩ = _
    simp
theorem app_arr (a b : List UInt8) : (⟨a.toArray⟩ : ByteArray) ++ ⟨b.toArray⟩ = ⟨(a ++ b).toArray⟩ := by
  apply ByteArray.ext
  simp
end Go.Proofs.YthelfgagddldfaaGreatDoor
