/- Walks: the layout and the header of a disk of chains. -/
import Derived.Test.YtbobehieaaaleaaDoorChM
import Derived.Test.YtbobehieaaaleaaDoorW89
import Derived.Test.YtbobehieaaaleaaDoorQB
import Derived.Test.YtbobehieaaaleaaDoorW33
import Derived.Test.YtbobehieaaaleaaDoorSString
namespace Go.Proofs.YtbobehieaaaleaaDoor
open Go.RowKit
set_option linter.unusedVariables false

theorem two_cells (b e : Nat) (hb : b < 256) (he : e < 256) : (#[Value.int .u8 (b : Int), Value.int .u8 (e : Int)] : Array Value).toList = bcells [UInt8.ofNat b, UInt8.ofNat e] := by
  have h1 : (UInt8.ofNat b).toNat = b := by rw [UInt8.toNat_ofNat']; omega
  have h2 : (UInt8.ofNat e).toNat = e := by rw [UInt8.toNat_ofNat']; omega
  simp only [bcells, List.map_cons, List.map_nil, h1, h2]
theorem run_two (b e : Nat) (hb : b < 256) (he : e < 256) (w : World) :
    (convert 41 9 (.slice (some ⟨w.heap.size, 0, none⟩) 2 2)).run Tryd.prog (w.alloc (.cells #[.int .u8 (b : Int), .int .u8 (e : Int)] 5)) =
      .ok (.string ⟨[UInt8.ofNat b, UInt8.ofNat e].toArray⟩) (w.alloc (.cells #[.int .u8 (b : Int), .int .u8 (e : Int)] 5)) :=
  run_b2s_lit Tryd.underlying41 Tryd.underlying5 Tryd.underlying9 w [UInt8.ofNat b, UInt8.ofNat e] _ 2 (two_cells b e hb he) rfl (by simp [maxLen])
theorem chE_le (b : Nat) : chE b ≤ 16 := by unfold chE; omega

set_option maxHeartbeats 400000 in
theorem spec_PutWord_any (n : Nat) (w : World) (hn : n < 65536) :
    Calls Tryd.prog 59 #[.int .i64 (n : Int)] w fun e w' => e = .returned (.string (wordB n)) ∧ Below w.heap.size w w' := by
  have H := Lib.hid (show inB (n : Int) 0 65535 = true by simp [inB]; omega)
  go_enter Tryd.func59, Tryd.ntmps59
  go_wp2_with (first | (go_at_call 16; refine (l00In_any _ _ _ _).mono ?_; rintro e w' ⟨rfl, rfl⟩; rw [H.out]) | (go_at_call 89; refine (l01Word_any n _ hn).mono ?_; rintro e w' ⟨rfl, hx⟩))
  go_ret
  exact ⟨rfl, hx⟩
set_option maxHeartbeats 400000 in
theorem spec_Crc16_any (s : ByteArray) (w : World) (hs : s.size ≤ 1048576) :
    Calls Tryd.prog 60 #[.string s, .int .i64 65535] w fun e w' => e = .returned (.int .i64 ((crcOf s 65535 : Nat) : Int)) ∧ w = w' := by
  have H := Lib.hid (show inB (65535 : Int) 0 65535 = true by simp [inB])
  go_enter Tryd.func60, Tryd.ntmps60
  go_wp2_with (first | (go_at_call 16; refine (l00In_any _ _ _ _).mono ?_; rintro e w' ⟨rfl, rfl⟩; rw [H.out]) | (go_at_call 90; refine (l01Crc_any s 65535 _ hs (by omega)).mono ?_; rintro e w' ⟨rfl, rfl⟩))
  go_ret
  exact ⟨rfl, rfl⟩
set_option maxHeartbeats 400000 in
theorem l00Min_any (a b : Int) (w : World) : Calls Tryd.prog 58 #[.int .i64 a, .int .i64 b] w fun e w' => e = .returned (.int .i64 (min a b)) ∧ w = w' := by
  by_cases h : a < b
  · rw [show min a b = a by omega]
    go_enter Tryd.func58, Tryd.ntmps58
    go_wp2
    go_ret
    exact ⟨rfl, rfl⟩
  · rw [show min a b = b by omega]
    go_enter Tryd.func58, Tryd.ntmps58
    go_wp2
    go_ret
    exact ⟨rfl, rfl⟩
theorem qdiv (x y : Nat) : (x : Int).tdiv (y : Int) = ((x / y : Nat) : Int) := rfl
set_option maxHeartbeats 400000 in
theorem ceiling_any (x y : Nat) (w : World) (hx : x ≤ 100000) (hy : y ≤ 100000) (h0 : 0 < y) : Calls Tryd.prog 62 #[.int .i64 (x : Int), .int .i64 (y : Int)] w fun e w' => e = .returned (.int .i64 (((x + y - 1) / y : Nat) : Int)) ∧ w = w' := by
  have k1 : (x : Int) + (y : Int) = ((x + y : Nat) : Int) := by omega
  have k2 : ((x + y : Nat) : Int) - 1 = ((x + y - 1 : Nat) : Int) := by omega
  have k3 : (x + y - 1) / y ≤ 200000 := Nat.le_trans (Nat.div_le_self _ _) (by omega)
  have k4 : x + y ≤ 200000 := by omega
  have h1 : IntKind.i64.wrap ((x : Int) + (y : Int)) = ((x + y : Nat) : Int) := by rw [k1]; exact IntWalk.i64_in _ (by clear k1 k2; omega)
  have h2 : IntKind.i64.wrap (((x + y : Nat) : Int) - 1) = ((x + y - 1 : Nat) : Int) := by rw [k2]; exact IntWalk.i64_in _ (by clear h1 k1 k2; omega)
  have h3 := qdiv (x + y - 1) y
  clear k1 k2 k4
  have e0 : ¬ (y : Int) = 0 := by omega
  have e1 : ¬ y = 0 := by omega
  have e2 : ((y : Int) == 0) = false := by simp; omega
  generalize (x + y - 1) / y = R at h3 k3 ⊢
  generalize x + y - 1 = B at h2 h3
  have h4 : IntKind.i64.wrap ((R : Nat) : Int) = (R : Int) := IntWalk.i64_in _ (by clear h1 h2 h3; omega)
  generalize x + y = C at h1 h2
  go_enter Tryd.func62, Tryd.ntmps62
  go_wp2
  go_ret
  exact ⟨rfl, rfl⟩
end Go.Proofs.YtbobehieaaaleaaDoor
