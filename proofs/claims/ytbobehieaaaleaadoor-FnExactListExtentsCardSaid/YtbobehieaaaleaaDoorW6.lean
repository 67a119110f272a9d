/- Walks: words and chunks as bytes. -/
import Derived.Test.YtbobehieaaaleaaDoorW5
import Derived.Test.YtbobehieaaaleaaDoorW4
import Derived.Deep.RegionHeld3
import Derived.Deep.RegionWith
import Derived.StillTailTactics
namespace Go.Proofs.YtbobehieaaaleaaDoor
open Go.RowKit
set_option linter.unusedVariables false

def wordL (n : Nat) : List UInt8 := [UInt8.ofNat (n / 256), UInt8.ofNat (n % 256)]
def wordB (n : Nat) : ByteArray := ⟨(wordL n).toArray⟩
theorem word_cells (n : Nat) (hn : n < 65536) : (#[Value.int .u8 ((n : Int) / 256), Value.int .u8 ((n : Int) % 256)] : Array Value).toList = bcells (wordL n) := by
  have h1 : (UInt8.ofNat (n / 256)).toNat = n / 256 := by rw [UInt8.toNat_ofNat']; omega
  have h2 : (UInt8.ofNat (n % 256)).toNat = n % 256 := by rw [UInt8.toNat_ofNat']; omega
  simp only [bcells, wordL, List.map_cons, List.map_nil, h1, h2]
  rfl
theorem run_word (n : Nat) (hn : n < 65536) (w : World) :
    (convert 41 9 (.slice (some ⟨w.heap.size, 0, none⟩) 2 2)).run Tryd.prog (w.alloc (.cells #[.int .u8 ((n : Int) / 256), .int .u8 ((n : Int) % 256)] 5)) =
      .ok (.string (wordB n)) (w.alloc (.cells #[.int .u8 ((n : Int) / 256), .int .u8 ((n : Int) % 256)] 5)) :=
  run_b2s_lit Tryd.underlying41 Tryd.underlying5 Tryd.underlying9 w (wordL n) _ 2 (word_cells n hn) rfl (by simp [wordL, maxLen])

set_option maxHeartbeats 400000 in
theorem PutWord_any (n : Nat) (w : World) (hn : n < 65536) :
    Calls Tryd.prog 63 #[.int .i64 (n : Int)] w fun e w' => e = .returned (.string (wordB n)) ∧ Below w.heap.size w w' := by
  have H := Lib.hid (show inB (n : Int) 0 65535 = true by simp [inB]; omega)
  have hcv := run_word n hn
  go_enter Tryd.func63, Tryd.ntmps63
  go_wp2_with (go_at_call 19; refine (within_any _ _ _ _).mono ?_; rintro e w' ⟨rfl, rfl⟩; rw [H.out])
  go_ret
  exact ⟨rfl, (by repeat (first | exact Below.refl _ _ | refine below_step ?_ (by assumption) | assumption | refine Below.drew ?_ | refine below_drewN ?_ _ | refine below_alloc ?_ _ | refine Below.setCell ?_ (by simp; try omega) _))⟩
set_option maxHeartbeats 400000 in
theorem l01Word_any (n : Nat) (w : World) (hn : n < 65536) :
    Calls Tryd.prog 89 #[.int .i64 (n : Int)] w fun e w' => e = .returned (.string (wordB n)) ∧ Below w.heap.size w w' := by
  have hcv := run_word n hn
  go_enter Tryd.func89, Tryd.ntmps89
  go_wp2
  go_ret
  exact ⟨rfl, (by repeat (first | exact Below.refl _ _ | refine below_step ?_ (by assumption) | assumption | refine Below.drew ?_ | refine below_drewN ?_ _ | refine below_alloc ?_ _ | refine Below.setCell ?_ (by simp; try omega) _))⟩

def headB (k : Nat) (s : ByteArray) : ByteArray := (⟨[UInt8.ofNat k].toArray⟩ ++ wordB s.size) ++ s
def encB (k : Nat) (s : ByteArray) : ByteArray := headB k s ++ wordB (crcOf (headB k s) 65535)
theorem headB_size (k : Nat) (s : ByteArray) : (headB k s).size = 3 + s.size := by
  simp only [headB, ByteArray.size_append]
  rfl
theorem run_byte1 (k : Nat) (hk : k < 256) (w : World) :
    (convert 41 9 (.slice (some ⟨w.heap.size, 0, none⟩) 1 1)).run Tryd.prog (w.alloc (.cells #[.int .u8 (k : Int)] 5)) =
      .ok (.string ⟨[UInt8.ofNat k].toArray⟩) (w.alloc (.cells #[.int .u8 (k : Int)] 5)) :=
  run_b2s_lit Tryd.underlying41 Tryd.underlying5 Tryd.underlying9 w [UInt8.ofNat k] _ 1 (by
    have h1 : (UInt8.ofNat k).toNat = k := by rw [UInt8.toNat_ofNat']; omega
    simp only [bcells, List.map_cons, List.map_nil, h1]) rfl (by simp [maxLen])

theorem run_byte1_drew (k : Nat) (hk : k < 256) (w : World) :
    (convert 41 9 (.slice (some ⟨w.heap.size, 0, none⟩) 1 1)).run Tryd.prog (w.alloc (.cells #[.int .u8 (k : Int)] 5)).drew =
      .ok (.string ⟨[UInt8.ofNat k].toArray⟩) (w.alloc (.cells #[.int .u8 (k : Int)] 5)).drew := run_byte1 k hk w.drew
theorem run_byte1_call (k : Nat) (hk : k < 256) (w w1 : World) (hb : Below (w.alloc (.cells #[.int .u8 (k : Int)] 5)).drew.heap.size (w.alloc (.cells #[.int .u8 (k : Int)] 5)).drew w1) :
    (convert 41 9 (.slice (some ⟨w.heap.size, 0, none⟩) 1 1)).run Tryd.prog w1 = .ok (.string ⟨[UInt8.ofNat k].toArray⟩) w1 := by
  have h1 : (UInt8.ofNat k).toNat = k := by rw [UInt8.toNat_ofNat']; omega
  have h0 : OwnB (w.alloc (.cells #[.int .u8 (k : Int)] 5)) 0 5 (.slice (some ⟨w.heap.size, 0, none⟩) 1 1) [UInt8.ofNat k] :=
    OwnB.lit w [UInt8.ofNat k] _ (by simp only [bcells, List.map_cons, List.map_nil, h1]) (Nat.zero_le _) (by simp [maxLen])
  have h2 : OwnB w1 0 5 (.slice (some ⟨w.heap.size, 0, none⟩) 1 1) [UInt8.ofNat k] := by
    rcases h0.2 with ⟨h, _⟩ | ⟨g, cap, cur, hv, hr⟩
    · cases h
    · obtain ⟨rfl, rfl⟩ : w.heap.size = g ∧ 1 = cap := by injection hv with a _ c; injection a with a; injection a with a; exact ⟨a, c⟩
      refine ⟨h0.1, .inr ⟨_, 1, cur, rfl, hr.1, ?_, hr.2.2⟩⟩
      rw [hb.block _ (by simp)]
      exact hr.2.1
  exact run_b2s Tryd.underlying41 Tryd.underlying5 Tryd.underlying9 h2
theorem size_alloc (w : World) (o : Obj) : (w.alloc o).heap.size = w.heap.size + 1 := by simp
theorem wrap_byte (k : Nat) (hk : k < 256) : IntKind.u8.wrap (k : Int) = k := by
  simp [IntKind.wrap, IntKind.bits, IntKind.signed]; omega

end Go.Proofs.YtbobehieaaaleaaDoor
