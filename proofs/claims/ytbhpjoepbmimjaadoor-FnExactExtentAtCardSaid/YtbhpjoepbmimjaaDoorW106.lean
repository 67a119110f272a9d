/- Walks: the header of a disk of extents (impl). -/
import Derived.Test.YtbhpjoepbmimjaaDoorW105
import Derived.Deep.RegionLaw
namespace Go.Proofs.YtbhpjoepbmimjaaDoor
open Go.RowKit
set_option linter.unusedVariables false

set_option maxRecDepth 100000 in
set_option maxHeartbeats 8000000 in
theorem extentHeader_any (b s : Nat) (x : Int) (w : World) (hb : b ≤ 128) (h8 : 8 ≤ s) (hs : s ≤ 32) :
    Calls Tryd.prog 63 #[.agg #[.int .i64 (b : Int), .int .i64 (s : Int), .int .i64 (b / 4 : Nat), .int .i64 x]] w fun e w' => e = .returned (.string (exS b s)) ∧ Below w.heap.size w w' := by
  obtain ⟨E, hE⟩ : ∃ E, b / 4 = E := ⟨_, rfl⟩
  have H6 := Lib.hid (show (⟨#[69, 88]⟩ ++ ⟨[UInt8.ofNat b, UInt8.ofNat s, UInt8.ofNat (b / 4)].toArray⟩ : ByteArray) ++ zerosB (s - 5) = exS b s from rfl)
  have hE32 : E ≤ 32 := by omega
  rw [hE] at H6 ⊢
  clear hE
  have b1 : IntKind.u8.wrap (b : Int) = (b : Int) := IntWalk.u8_in _ (by omega)
  have b2 : IntKind.u8.wrap (s : Int) = (s : Int) := IntWalk.u8_in _ (by omega)
  have b3 : IntKind.u8.wrap (E : Int) = (E : Int) := IntWalk.u8_in _ (by omega)
  have hws : IntKind.i64.wrap ((s : Int) - 5) = ((s - 5 : Nat) : Int) := by rw [show (s : Int) - 5 = ((s - 5 : Nat) : Int) by omega]; exact i_nat _ (by omega)
  have hz2 := zerosB_size (s - 5)
  have hz6 : s - 5 ≤ 1000000 := by omega
  generalize s - 5 = z at *
  have hlc : (#[Value.int .u8 (b : Int), .int .u8 (s : Int), .int .u8 (E : Int)] : Array Value).toList = bcells [UInt8.ofNat b, UInt8.ofNat s, UInt8.ofNat E] := by
    have n1 : ((UInt8.ofNat b).toNat : Int) = (b : Int) := by rw [UInt8.toNat_ofNat']; omega
    have n2 : ((UInt8.ofNat s).toNat : Int) = (s : Int) := by rw [UInt8.toNat_ofNat']; omega
    have n3 : ((UInt8.ofNat E).toNat : Int) = (E : Int) := by rw [UInt8.toNat_ofNat']; omega
    simp only [bcells, List.map_cons, List.map_nil, n1, n2, n3]
  have HLC := Lib.hid hlc
  clear hlc
  have D0 := CP.made w [.int .i64 (b : Int), .int .i64 (s : Int), .int .i64 (E : Int), .int .i64 x] 59
  have hB : BB w (w.alloc (.cells #[.int .i64 (b : Int), .int .i64 (s : Int), .int .i64 (E : Int), .int .i64 x] 59)) := (show Below w.heap.size w (w.alloc (.cells #[.int .i64 (b : Int), .int .i64 (s : Int), .int .i64 (E : Int), .int .i64 x] 59)) from (by with_reducible repeat (first | exact Below.refl _ _ | assumption | refine below_step ?_ (by assumption) | refine Below.drew ?_ | refine below_drewN ?_ _ | refine below_alloc ?_ _ | refine Below.setCell ?_ (by simp; try omega) _)))
  have hbig : ¬ 9223372036854775807 < 5 + z := by omega
  have k2 : (⟨#[69, 88]⟩ : ByteArray).size = 2 := rfl
  have k3 : (⟨#[UInt8.ofNat b, UInt8.ofNat s, UInt8.ofNat E]⟩ : ByteArray).size = 3 := rfl
  have k5 : (⟨#[69, 88]⟩ ++ ⟨#[UInt8.ofNat b, UInt8.ofNat s, UInt8.ofNat E]⟩ : ByteArray).size = 5 := rfl
  go_enter Tryd.func63, Tryd.ntmps63
  go_upto_region 1 with fail
  generalize w.alloc (.cells #[.int .i64 (b : Int), .int .i64 (s : Int), .int .i64 (E : Int), .int .i64 x] 59) = w0 at *
  have hL := fun (W : World) => OwnB.lit (e := 5) (base := 0) W [UInt8.ofNat b, UInt8.ofNat s, UInt8.ofNat E] _ HLC.out (Nat.zero_le _) (by simp [maxLen])
  have hcv0 := run_b2s (P := Tryd.prog) (dst := 9) Tryd.underlying48 Tryd.underlying5 Tryd.underlying9 (OwnB.drewN (hL w0) 1)
  replace hcv0 : (convert 48 9 (.slice (some ⟨w0.heap.size, 0, none⟩) 3 3)).run Tryd.prog (w0.alloc (.cells #[.int .u8 (b : Int), .int .u8 (s : Int), .int .u8 (E : Int)] 5)).drew = .ok (.string ⟨[UInt8.ofNat b, UInt8.ofNat s, UInt8.ofNat E].toArray⟩) (w0.alloc (.cells #[.int .u8 (b : Int), .int .u8 (s : Int), .int .u8 (E : Int)] 5)).drew := hcv0
  have f0 := (show (_ : Option Value) = some (.int .i64 (b : Int)) from D0.dr 0 (by simp))
  have f1 := (show (_ : Option Value) = some (.int .i64 (s : Int)) from D0.dr 1 (by simp))
  have f2 := (show (_ : Option Value) = some (.int .i64 (E : Int)) from D0.dr 2 (by simp))
  have t0 := fun (o : Obj) => (show (_ : Option Value) = some (.int .i64 (b : Int)) from (CP.al D0 o).dr 0 (by simp))
  have t1 := fun (o : Obj) => (show (_ : Option Value) = some (.int .i64 (s : Int)) from (CP.al D0 o).dr 1 (by simp))
  have t2 := fun (o : Obj) => (show (_ : Option Value) = some (.int .i64 (E : Int)) from (CP.al D0 o).dr 2 (by simp))
  go_region_law (go_simp; first | (go_at_call 77; refine (zeros_any z w0.drew hz6).mono ?_; rintro e w9 ⟨rfl, hx9⟩; clear f0 t0 f1 t1 f2 t2; replace D0 := D0.dr.next hx9; replace hB : BB w _ := BB.next (BB.dr hB) hx9; have hcv1 := run_b2s (P := Tryd.prog) (dst := 9) Tryd.underlying48 Tryd.underlying5 Tryd.underlying9 (OwnB.drewN (hL w9) 1); replace hcv1 : (convert 48 9 (.slice (some ⟨w9.heap.size, 0, none⟩) 3 3)).run Tryd.prog (w9.alloc (.cells #[.int .u8 (b : Int), .int .u8 (s : Int), .int .u8 (E : Int)] 5)).drew = .ok (.string ⟨[UInt8.ofNat b, UInt8.ofNat s, UInt8.ofNat E].toArray⟩) (w9.alloc (.cells #[.int .u8 (b : Int), .int .u8 (s : Int), .int .u8 (E : Int)] 5)).drew := hcv1; have hcv2 : (convert 48 9 (.slice (some ⟨w9.heap.size, 0, none⟩) 3 3)).run Tryd.prog (w9.alloc (.cells #[.int .u8 (b : Int), .int .u8 (s : Int), .int .u8 (E : Int)] 5)) = .ok (.string ⟨[UInt8.ofNat b, UInt8.ofNat s, UInt8.ofNat E].toArray⟩) (w9.alloc (.cells #[.int .u8 (b : Int), .int .u8 (s : Int), .int .u8 (E : Int)] 5)) := run_b2s (P := Tryd.prog) (dst := 9) Tryd.underlying48 Tryd.underlying5 Tryd.underlying9 (hL w9); have v0 := (show (_ : Option Value) = some (.int .i64 (b : Int)) from D0 0 (by simp)); have v1 := (show (_ : Option Value) = some (.int .i64 (s : Int)) from D0 1 (by simp)); have v2 := (show (_ : Option Value) = some (.int .i64 (E : Int)) from D0 2 (by simp)); have y0 := fun (o : Obj) => (show (_ : Option Value) = some (.int .i64 (b : Int)) from (CP.al D0 o) 0 (by simp)); have y1 := fun (o : Obj) => (show (_ : Option Value) = some (.int .i64 (s : Int)) from (CP.al D0 o) 1 (by simp)); have y2 := fun (o : Obj) => (show (_ : Option Value) = some (.int .i64 (E : Int)) from (CP.al D0 o) 2 (by simp)); have k0 := fun (o : Obj) => (show (_ : Option Value) = some (.int .i64 (b : Int)) from (CP.al D0 o).dr 0 (by simp)); have k1 := fun (o : Obj) => (show (_ : Option Value) = some (.int .i64 (s : Int)) from (CP.al D0 o).dr 1 (by simp)); have k2 := fun (o : Obj) => (show (_ : Option Value) = some (.int .i64 (E : Int)) from (CP.al D0 o).dr 2 (by simp))) | (go_at_call 77; refine (zeros_any z (w0.alloc (.cells #[.int .u8 (b : Int), .int .u8 (s : Int), .int .u8 (E : Int)] 5)).drew hz6).mono ?_; rintro e w9 ⟨rfl, hx9⟩; clear f0 t0 f1 t1 f2 t2; have hcv1 := run_b2s (P := Tryd.prog) (dst := 9) Tryd.underlying48 Tryd.underlying5 Tryd.underlying9 (OwnB.later (OwnB.drewN (hL w0) 1) hx9 (Nat.le_refl _)); replace hcv1 : (convert 48 9 (.slice (some ⟨w0.heap.size, 0, none⟩) 3 3)).run Tryd.prog w9 = .ok (.string ⟨[UInt8.ofNat b, UInt8.ofNat s, UInt8.ofNat E].toArray⟩) w9 := hcv1; replace D0 := (CP.al D0 _).dr.next hx9; replace hB : BB w _ := BB.next (BB.al hB _).dr hx9; have v0 := (show (_ : Option Value) = some (.int .i64 (b : Int)) from D0 0 (by simp)); have v1 := (show (_ : Option Value) = some (.int .i64 (s : Int)) from D0 1 (by simp)); have v2 := (show (_ : Option Value) = some (.int .i64 (E : Int)) from D0 2 (by simp))))
  all_goals
    go_wp2
    go_ret
    have hBw : Below w.heap.size w w9 := hB
    exact ⟨by rw [← H6.out]; rfl, (by with_reducible repeat (first | exact Below.refl _ _ | assumption | refine below_step ?_ (by assumption) | refine Below.drew ?_ | refine below_drewN ?_ _ | refine below_alloc ?_ _ | refine Below.setCell ?_ (by simp; try omega) _))⟩
end Go.Proofs.YtbhpjoepbmimjaaDoor
