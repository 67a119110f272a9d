/- Walks: the opposite bytes. -/
import Derived.Test.YthelfgagddldfaaGreatDoorW161
import Derived.Test.YthelfgagddldfaaGreatDoorMem2
import Derived.StillTailTactics
import Derived.Deep.DeepMust
namespace Go.Proofs.YthelfgagddldfaaGreatDoor
open Go.RowKit
set_option linter.unusedVariables false

def ivL (l : List UInt8) (k : Nat) : List UInt8 := (l.take k).map (fun b => 255 - b) ++ l.drop k
theorem ivL_zero (l : List UInt8) : ivL l 0 = l := by simp [ivL]
theorem ivL_length (l : List UInt8) (k : Nat) : (ivL l k).length = l.length := by simp [ivL]; omega
theorem ivL_at (l : List UInt8) (k : Nat) (h : k < l.length) : (ivL l k)[k]'(by rw [ivL_length]; exact h) = l[k] := by
  simp only [ivL]
  rw [List.getElem_append_right (by simp; omega)]
  simp [Nat.min_eq_left (Nat.le_of_lt h)]
theorem ivL_step (l : List UInt8) (k : Nat) (h : k < l.length) : (ivL l k).set k (255 - l[k]) = ivL l (k + 1) := by
  simp only [ivL]
  rw [List.set_append_right _ _ (by simp; omega), List.take_succ_eq_append_getElem h, List.map_append]
  simp only [List.length_map, List.length_take, Nat.min_eq_left (Nat.le_of_lt h), Nat.sub_self, List.map_cons, List.map_nil, List.append_assoc, List.singleton_append]
  rw [List.drop_eq_getElem_cons h, List.set_cons_zero]
theorem ivL_end (s : ByteArray) : (⟨(ivL s.data.toList s.data.toList.length).toArray⟩ : ByteArray) = invB s := by
  unfold ivL invB
  rw [List.take_length, List.drop_length, List.append_nil]
theorem iv_all : ∀ n : Fin 256, IntKind.u8.wrap (255 - (n.val : Int)) = ((255 - n.val : Nat) : Int) ∧ bits .xor .u8 255 (n.val : Int) = ((255 - n.val : Nat) : Int) := by decide +kernel
theorem iv_toNat (b : UInt8) : (255 - b : UInt8).toNat = 255 - b.toNat := by
  have := b.toNat_lt
  rw [UInt8.toNat_sub_of_le]
  · rfl
  · rw [UInt8.le_iff_toNat_le]
    show b.toNat ≤ 255
    omega
theorem iv_sub (b : UInt8) : IntKind.u8.wrap (255 - (b.toNat : Int)) = ((255 - b : UInt8).toNat : Int) := by
  rw [iv_toNat]; exact (iv_all ⟨b.toNat, b.toNat_lt⟩).1
theorem iv_xor (b : UInt8) : bits .xor .u8 255 (b.toNat : Int) = ((255 - b : UInt8).toNat : Int) := by
  rw [iv_toNat]; exact (iv_all ⟨b.toNat, b.toNat_lt⟩).2

set_option maxRecDepth 100000 in
set_option maxHeartbeats 1000000 in
theorem l11Opposite_any (s : ByteArray) (w : World) (hs : s.size ≤ 1048576) :
    Calls Tryz.prog 51 #[.string s] w fun e w' => e = .returned (.string (invB s)) ∧ Below w.heap.size w w' := by
  have hsl : s.data.toList.length = s.size := by rw [Array.length_toList]; rfl
  have hcv := fun (W : World) => run_bytes_of_string (P := Tryz.prog) W 9 22 5 s Tryz.underlying9 Tryz.underlying22 Tryz.underlying5
  have hcap := grownCap_ge w s.size 0 5
  have hmk := MarkB.made (e := 5) w.drew s (grownCap w s.size 0 5)
  go_enter Tryz.func51, Tryz.ntmps51
  go_wp2
  generalize grownCap w s.size 0 5 = cap at hcap hmk ⊢
  go_loopw [4] (fun i wr => ∃ k : Nat, k ≤ s.size ∧ i = .int .i64 k ∧ MarkB wr w.heap.size 5 (ivL s.data.toList k) ∧ Below w.heap.size w wr) (fun i _ => s.size - (intOf i).toNat)
  case atStart => exact ⟨0, Nat.zero_le _, rfl, by rw [ivL_zero]; exact hmk, below_alloc (Below.refl _ w).drew _⟩
  case round =>
    obtain ⟨k, hk, rfl, hm, hb⟩ := hrel
    by_cases hlt : k < s.size
    · have hlti : (k : Int) < (s.size : Int) := by omega
      have hkl : k < s.data.toList.length := by omega
      have hkv : k < (ivL s.data.toList k).length := by rw [ivL_length]; omega
      have c0 := hm.cell k hkv
      rw [ivL_at _ _ hkl] at c0
      have c1 := hm.free k hkv
      have hm2 := hm.set_ k (255 - s.data.toList[k]) _ (iv_sub s.data.toList[k])
      rw [ivL_step _ _ hkl] at hm2
      go_wp2
      go_roundw
      case rel => exact ⟨k + 1, by omega, by go_num, hm2, (by repeat (first | exact Below.refl _ _ | refine below_step ?_ (by assumption) | assumption | refine Below.drew ?_ | refine below_drewN ?_ _ | refine below_alloc ?_ _ | refine Below.setCell ?_ (by simp; try omega) _))⟩
      case measure => (simp [intOf] <;> omega)
    obtain rfl : k = s.size := by omega
    have hE := Lib.hid (ivL_end s)
    rw [hsl] at hE
    have hcv2 := MarkB.b2s (P := Tryz.prog) (dst := 9) Tryz.underlying22 Tryz.underlying5 Tryz.underlying9 hm cap s.size (by rw [ivL_length]; omega)
    rw [hE.out] at hcv2
    go_wp2
    go_ret
    exact ⟨rfl, hb⟩

set_option maxRecDepth 100000 in
set_option maxHeartbeats 1000000 in
theorem inverted_any (s : ByteArray) (w : World) (hs : s.size ≤ 1048576) :
    Calls Tryz.prog 23 #[.string s] w fun e w' => e = .returned (.string (invB s)) ∧ Below w.heap.size w w' := by
  have hsl : s.data.toList.length = s.size := by rw [Array.length_toList]; rfl
  have hcv := fun (W : World) => run_bytes_of_string (P := Tryz.prog) W 9 22 5 s Tryz.underlying9 Tryz.underlying22 Tryz.underlying5
  have hcap := grownCap_ge w s.size 0 5
  have hmk := MarkB.made (e := 5) w.drew s (grownCap w s.size 0 5)
  go_enter Tryz.func23, Tryz.ntmps23
  go_wp2
  generalize grownCap w s.size 0 5 = cap at hcap hmk ⊢
  go_loopw [9] (fun i wr => ∃ k : Nat, k ≤ s.size ∧ i = .int .i64 k ∧ MarkB wr w.heap.size 5 (ivL s.data.toList k) ∧ Below w.heap.size w wr) (fun i _ => s.size - (intOf i).toNat)
  case atStart => exact ⟨0, Nat.zero_le _, rfl, by rw [ivL_zero]; exact hmk, below_alloc (Below.refl _ w).drew _⟩
  case round =>
    obtain ⟨k, hk, rfl, hm, hb⟩ := hrel
    by_cases hlt : k < s.size
    · have hlti : (k : Int) < (s.size : Int) := by omega
      have hkl : k < s.data.toList.length := by omega
      have hkv : k < (ivL s.data.toList k).length := by rw [ivL_length]; omega
      have c0 := hm.cell k hkv
      rw [ivL_at _ _ hkl] at c0
      have c1 := hm.free k hkv
      have hm2 := hm.set_ k (255 - s.data.toList[k]) _ (iv_xor s.data.toList[k])
      rw [ivL_step _ _ hkl] at hm2
      go_wp2
      go_roundw
      case rel => exact ⟨k + 1, by omega, by go_num, hm2, (by repeat (first | exact Below.refl _ _ | refine below_step ?_ (by assumption) | assumption | refine Below.drew ?_ | refine below_drewN ?_ _ | refine below_alloc ?_ _ | refine Below.setCell ?_ (by simp; try omega) _))⟩
      case measure => (simp [intOf] <;> omega)
    obtain rfl : k = s.size := by omega
    have hE := Lib.hid (ivL_end s)
    rw [hsl] at hE
    have hcv2 := MarkB.b2s (P := Tryz.prog) (dst := 9) Tryz.underlying22 Tryz.underlying5 Tryz.underlying9 hm cap s.size (by rw [ivL_length]; omega)
    rw [hE.out] at hcv2
    go_wp2
    go_ret
    exact ⟨rfl, hb⟩

end Go.Proofs.YthelfgagddldfaaGreatDoor
