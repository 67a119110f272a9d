/- (for FormatExtents) Walks: the layout and the header of a disk of extents. -/
import Derived.Test.YtjahgknehamlpaaW96
import Derived.Test.YtjahgknehamlpaaMem3
import Derived.Deep.RegionLaw
namespace Go.Proofs.Ytjahgknehamlpaa
open Go.RowKit
set_option linter.unusedVariables false

def ex5 (b s : Nat) : ByteArray := ⟨#[69, 88]⟩ ++ ⟨[UInt8.ofNat b, UInt8.ofNat s, UInt8.ofNat (b / 4)].toArray⟩
def exS (b s : Nat) : ByteArray := ex5 b s ++ zerosB (s - 5)
def exD (b s : Nat) : Nat := 1 + (b / 4 * 16 + s - 1) / s
theorem ex5_size (b s : Nat) : (ex5 b s).size = 5 := rfl
theorem bcells_set (l : List UInt8) (j : Nat) (x : UInt8) : (bcells l).set j (.int .u8 (x.toNat : Int)) = bcells (l.set j x) := by simp [bcells, List.map_set]
theorem exS_row (b s : Nat) (h : 8 ≤ s) : (⟨((((((List.replicate s (0 : UInt8)).set 0 69).set 1 88).set 2 (UInt8.ofNat b)).set 3 (UInt8.ofNat s)).set 4 (UInt8.ofNat (b / 4))).toArray⟩ : ByteArray) = exS b s := by
  obtain ⟨z, hz⟩ : ∃ z, s = z + 5 := ⟨s - 5, by omega⟩
  have h1 : s - 5 = z := by omega
  have h2 : List.replicate s (0 : UInt8) = 0 :: 0 :: 0 :: 0 :: 0 :: List.replicate z 0 := by rw [hz]; rfl
  have h3 : ((((((List.replicate s (0 : UInt8)).set 0 69).set 1 88).set 2 (UInt8.ofNat b)).set 3 (UInt8.ofNat s)).set 4 (UInt8.ofNat (b / 4))) = 69 :: 88 :: UInt8.ofNat b :: UInt8.ofNat s :: UInt8.ofNat (b / 4) :: List.replicate z 0 := by rw [h2]; rfl
  rw [h3, exS, h1]
  rfl
theorem run_three (b s e : Nat) (hb : b < 256) (hs : s < 256) (he : e < 256) (w : World) :
    (convert 22 9 (.slice (some ⟨w.heap.size, 0, none⟩) 3 3)).run Try.prog (w.alloc (.cells #[.int .u8 (b : Int), .int .u8 (s : Int), .int .u8 (e : Int)] 5)) =
      .ok (.string ⟨[UInt8.ofNat b, UInt8.ofNat s, UInt8.ofNat e].toArray⟩) (w.alloc (.cells #[.int .u8 (b : Int), .int .u8 (s : Int), .int .u8 (e : Int)] 5)) :=
  run_b2s_lit Try.underlying22 Try.underlying5 Try.underlying9 w [UInt8.ofNat b, UInt8.ofNat s, UInt8.ofNat e] _ 3 (by
    have h1 : (UInt8.ofNat b).toNat = b := by rw [UInt8.toNat_ofNat']; omega
    have h2 : (UInt8.ofNat s).toNat = s := by rw [UInt8.toNat_ofNat']; omega
    have h3 : (UInt8.ofNat e).toNat = e := by rw [UInt8.toNat_ofNat']; omega
    simp only [bcells, List.map_cons, List.map_nil, h1, h2, h3]) rfl (by simp [maxLen])
set_option maxHeartbeats 400000 in
theorem l17Size_any (s : Nat) (w : World) : Calls Try.prog 56 #[.int .i64 (s : Int)] w fun e w' => e = .returned (.bool (oneOf s)) ∧ w = w' := by
  by_cases q8 : s = 8
  · have HR := Lib.hid (show oneOf s = true by rw [q8]; rfl)
    have r8 : ((s : Int) == 8) = true := by rw [q8]; rfl
    clear q8
    go_enter Try.func56, Try.ntmps56
    go_wp2
    go_ret
    exact ⟨ret_bool HR.out.symm, rfl⟩
  have r8 : ((s : Int) == 8) = false := beq_false_of_ne (by omega)
  by_cases q16 : s = 16
  · have HR := Lib.hid (show oneOf s = true by rw [q16]; rfl)
    have r16 : ((s : Int) == 16) = true := by rw [q16]; rfl
    clear q8 q16
    go_enter Try.func56, Try.ntmps56
    go_wp2
    go_ret
    exact ⟨ret_bool HR.out.symm, rfl⟩
  have r16 : ((s : Int) == 16) = false := beq_false_of_ne (by omega)
  by_cases q32 : s = 32
  · have HR := Lib.hid (show oneOf s = true by rw [q32]; rfl)
    have r32 : ((s : Int) == 32) = true := by rw [q32]; rfl
    clear q8 q16 q32
    go_enter Try.func56, Try.ntmps56
    go_wp2
    go_ret
    exact ⟨ret_bool HR.out.symm, rfl⟩
  have r32 : ((s : Int) == 32) = false := beq_false_of_ne (by omega)
  have HR := Lib.hid (show oneOf s = false by simp [oneOf, q8, q16, q32])
  clear q8 q16 q32
  go_enter Try.func56, Try.ntmps56
  go_wp2
  go_ret
  exact ⟨ret_bool HR.out.symm, rfl⟩
set_option maxRecDepth 100000 in
set_option maxHeartbeats 1000000 in
theorem extentLayout_any (b s : Nat) (w : World) (hb : b ≤ 128) (h0 : 0 < s) (hs : s ≤ 32) :
    Calls Try.prog 58 #[.int .i64 (b : Int), .int .i64 (s : Int)] w fun e w' => e = .returned (.agg #[.int .i64 (b : Int), .int .i64 (s : Int), .int .i64 (b / 4 : Nat), .int .i64 (exD b s : Int)]) ∧ Below w.heap.size w w' := by
  obtain ⟨E, hE⟩ : ∃ E, b / 4 = E := ⟨_, rfl⟩
  have hE32 : E ≤ 32 := by omega
  have hdv : (b : Int) / 4 = (E : Int) := by omega
  have hdt : (b : Int).tdiv 4 = (E : Int) := by rw [← hE]; rfl
  have w1 : IntKind.i64.wrap ((E : Int) * 16) = ((E * 16 : Nat) : Int) := by rw [show (E : Int) * 16 = ((E * 16 : Nat) : Int) by omega]; exact i_nat _ (by omega)
  obtain ⟨c2, hc2⟩ : ∃ c, (E * 16 + s - 1) / s = c := ⟨_, rfl⟩
  have hc2b : c2 ≤ 600 := by rw [← hc2]; exact Nat.le_trans (Nat.div_le_self _ _) (by omega)
  have w3 : IntKind.i64.wrap (1 + (c2 : Int)) = ((1 + c2 : Nat) : Int) := by rw [show 1 + (c2 : Int) = ((1 + c2 : Nat) : Int) by omega]; exact i_nat _ (by omega)
  have hED : exD b s = 1 + c2 := by rw [exD, hE, hc2]
  rw [hED]
  rw [hE]
  have hcA := fun W => ceiling_any (E * 16) s W (by omega) (by omega) h0
  rw [hc2] at hcA
  have aE : IntKind.i64.wrap (E : Int) = (E : Int) := i_nat _ (by clear w1 w3; omega)
  have F := BX.made w 93 [.int .i64 0, .int .i64 0, .int .i64 0, .int .i64 0]
  have hB : BB w (w.alloc (.cells #[.int .i64 0, .int .i64 0, .int .i64 0, .int .i64 0] 93)) := (show Below w.heap.size w (w.alloc (.cells #[.int .i64 0, .int .i64 0, .int .i64 0, .int .i64 0] 93)) from (by with_reducible repeat (first | exact Below.refl _ _ | assumption | refine below_step ?_ (by assumption) | refine Below.drew ?_ | refine below_drewN ?_ _ | refine below_alloc ?_ _ | refine Below.setCell ?_ (by simp; try omega) _)))
  generalize 1 + c2 = X at w3 ⊢
  generalize E * 16 = E12 at w1 hcA
  have P := ((((F.put 0 (.int .i64 (b : Int))).put 1 (.int .i64 (s : Int))).put 2 (.int .i64 (E : Int))).put 3 (.int .i64 (X : Int)))
  have hBq := (BB.put (a := ⟨w.heap.size, 3, none⟩) (BB.put (a := ⟨w.heap.size, 2, none⟩) (BB.put (a := ⟨w.heap.size, 1, none⟩) (BB.put (a := ⟨w.heap.size, 0, none⟩) hB (Nat.le_refl _) (.int .i64 (b : Int))) (Nat.le_refl _) (.int .i64 (s : Int))) (Nat.le_refl _) (.int .i64 (E : Int))) (Nat.le_refl _) (.int .i64 (X : Int)))
  have r0 : (_ : Option Value) = some (.int .i64 (b : Int)) := P.cell 0 (by simp)
  have r1 : (_ : Option Value) = some (.int .i64 (s : Int)) := P.cell 1 (by simp)
  have r2 : (_ : Option Value) = some (.int .i64 (E : Int)) := P.cell 2 (by simp)
  have r3 : (_ : Option Value) = some (.int .i64 (X : Int)) := P.cell 3 (by simp)
  clear hE hc2 hED hc2b hE32
  go_enter Try.func58, Try.ntmps58
  go_wp2_with (go_at_call 85; refine (hcA _).mono ?_; rintro e w9 ⟨rfl, rfl⟩)
  first
    | exact bodyPost_ret (v := .agg #[.int .i64 (b : Int), .int .i64 (s : Int), .int .i64 (E : Int), .int .i64 (X : Int)]) (by simp [results, Try.results58, go_sem, r0, r1, r2, r3]) rfl ⟨rfl, hBq⟩
    | exact bodyPost_ret (v := .agg #[.int .i64 (b : Int), .int .i64 (s : Int), .int .i64 (E : Int), .int .i64 (X : Int)]) (by simp [results, Try.results58, go_sem]) rfl ⟨rfl, (by with_reducible repeat (first | exact Below.refl _ _ | assumption | refine below_step ?_ (by assumption) | refine Below.drew ?_ | refine below_drewN ?_ _ | refine below_alloc ?_ _ | refine Below.setCell ?_ (by simp; try omega) _))⟩
set_option maxRecDepth 100000 in
set_option maxHeartbeats 1000000 in
theorem l17Head_any (b s : Nat) (w : World) (hb : b ≤ 128) (h8 : 8 ≤ s) (hs : s ≤ 32) :
    Calls Try.prog 84 #[.int .i64 (b : Int), .int .i64 (s : Int)] w fun e w' => e = .returned (.string (exS b s)) ∧ Below w.heap.size w w' := by
  have HX := Lib.hid (exS_row b s h8)
  obtain ⟨E, hE⟩ : ∃ E, b / 4 = E := ⟨_, rfl⟩
  have hE32 : E ≤ 32 := by omega
  have hdv : (b : Int) / 4 = (E : Int) := by omega
  have hdt : (b : Int).tdiv 4 = (E : Int) := by rw [← hE]; rfl
  rw [hE] at HX
  have hmk := fun W => eltB.make s (by omega) (by omega) W
  simp only [Nat.mul_one, show (Value.int .u8 0).cells = #[Value.int .u8 0] from rfl] at hmk
  have b1 : IntKind.u8.wrap (b : Int) = (b : Int) := IntWalk.u8_in _ (by omega)
  have b2 : IntKind.u8.wrap (s : Int) = (s : Int) := IntWalk.u8_in _ (by omega)
  have b3 : IntKind.u8.wrap (E : Int) = (E : Int) := IntWalk.u8_in _ (by omega)
  have aE : IntKind.i64.wrap (E : Int) = (E : Int) := i_nat _ (by omega)
  have n1 : ((UInt8.ofNat b).toNat : Int) = (b : Int) := by rw [UInt8.toNat_ofNat']; omega
  have n2 : ((UInt8.ofNat s).toNat : Int) = (s : Int) := by rw [UInt8.toNat_ofNat']; omega
  have n3 : ((UInt8.ofNat E).toNat : Int) = (E : Int) := by rw [UInt8.toNat_ofNat']; omega
  have j0 : (0 : Int) < (s : Int) := by omega
  have j1 : (1 : Int) < (s : Int) := by omega
  have j2 : (2 : Int) < (s : Int) := by omega
  have j3 : (3 : Int) < (s : Int) := by omega
  have j4 : (4 : Int) < (s : Int) := by omega
  have ho := OwnB.lit (e := 5) (base := w.heap.size) w (List.replicate s (0 : UInt8)) (madeCells #[Value.int .u8 0] s) (made_bytes s) (Nat.le_refl _) (by simp [maxLen]; omega)
  rw [List.length_replicate] at ho
  have hB : BB w (w.alloc (.cells (madeCells #[Value.int .u8 0] s) 5)) := (show Below w.heap.size w (w.alloc (.cells (madeCells #[Value.int .u8 0] s) 5)) from (by with_reducible repeat (first | exact Below.refl _ _ | assumption | refine below_step ?_ (by assumption) | refine Below.drew ?_ | refine below_drewN ?_ _ | refine below_alloc ?_ _ | refine Below.setCell ?_ (by simp; try omega) _)))
  go_enter Try.func84, Try.ntmps84
  go_upto_region 2 with fail
  clear hmk
  generalize w.alloc (.cells (madeCells #[Value.int .u8 0] s) 5) = w1 at *
  generalize hG : w.heap.size = G at ho ⊢
  have hle : w.heap.size ≤ G := Nat.le_of_eq hG
  have HG := Lib.hid hG
  clear hG
  have h1 : OO w1 G 5 1 (.slice (some ⟨G, 0, none⟩) s s) s (bcells (List.replicate s (0 : UInt8))) := by
    have := ho
    unfold OwnB at this
    rwa [List.length_replicate] at this
  clear ho
  obtain ⟨u0, hu0⟩ := own_some (OOf h1) 0 (by omega)
  have hz0 := World.ownsRow.frozenAt (OOf h1) 0
  have h2 : OO _ _ _ _ _ _ _ := (World.ownsRow.stored (OOf h1) 0 (.int .u8 69)).1
  obtain ⟨u1, hu1⟩ := own_some (OOf h2) 1 (by omega)
  have hz1 := World.ownsRow.frozenAt (OOf h2) 1
  have h3 : OO _ _ _ _ _ _ _ := (World.ownsRow.stored (OOf h2) 1 (.int .u8 88)).1
  obtain ⟨u2, hu2⟩ := own_some (OOf h3) 2 (by omega)
  have hz2 := World.ownsRow.frozenAt (OOf h3) 2
  have h4 : OO _ _ _ _ _ _ _ := (World.ownsRow.stored (OOf h3) 2 (.int .u8 (b : Int))).1
  obtain ⟨u3, hu3⟩ := own_some (OOf h4) 3 (by omega)
  have hz3 := World.ownsRow.frozenAt (OOf h4) 3
  have h5 : OO _ _ _ _ _ _ _ := (World.ownsRow.stored (OOf h4) 3 (.int .u8 (s : Int))).1
  obtain ⟨u4, hu4⟩ := own_some (OOf h5) 4 (by omega)
  have hz4 := World.ownsRow.frozenAt (OOf h5) 4
  have h6 : OO _ _ _ _ _ _ _ := (World.ownsRow.stored (OOf h5) 4 (.int .u8 (E : Int))).1
  have e5 : (((((bcells (List.replicate s (0 : UInt8))).set 0 (.int .u8 69)).set 1 (.int .u8 88)).set 2 (.int .u8 (b : Int))).set 3 (.int .u8 (s : Int))).set 4 (.int .u8 (E : Int)) = bcells ((((((List.replicate s (0 : UInt8)).set 0 69).set 1 88).set 2 (UInt8.ofNat b)).set 3 (UInt8.ofNat s)).set 4 (UInt8.ofNat E)) := by
    rw [← n1, ← n2, ← n3, show (Value.int .u8 69) = .int .u8 ((69 : UInt8).toNat : Int) from rfl, show (Value.int .u8 88) = .int .u8 ((88 : UInt8).toNat : Int) from rfl, bcells_set, bcells_set, bcells_set, bcells_set, bcells_set]
  have h6' : OwnB (((((w1.setCell ⟨G, 0, none⟩ (.int .u8 69)).setCell ⟨G, 1, none⟩ (.int .u8 88)).setCell ⟨G, 2, none⟩ (.int .u8 (b : Int))).setCell ⟨G, 3, none⟩ (.int .u8 (s : Int))).setCell ⟨G, 4, none⟩ (.int .u8 (E : Int))) G 5 (.slice (some ⟨G, 0, none⟩) s s) ((((((List.replicate s (0 : UInt8)).set 0 69).set 1 88).set 2 (UInt8.ofNat b)).set 3 (UInt8.ofNat s)).set 4 (UInt8.ofNat E)) := by
    unfold OwnB
    rw [← e5, show (((((((List.replicate s (0 : UInt8)).set 0 69).set 1 88).set 2 (UInt8.ofNat b)).set 3 (UInt8.ofNat s)).set 4 (UInt8.ofNat E))).length = s by simp]
    exact h6
  have hcv := run_b2s (P := Try.prog) (dst := 9) Try.underlying22 Try.underlying5 Try.underlying9 h6'
  rw [HX.out] at hcv
  have hBq := (BB.put (a := ⟨G, 4, none⟩) (BB.put (a := ⟨G, 3, none⟩) (BB.put (a := ⟨G, 2, none⟩) (BB.put (a := ⟨G, 1, none⟩) (BB.put (a := ⟨G, 0, none⟩) hB hle (.int .u8 69)) hle (.int .u8 88)) hle (.int .u8 (b : Int))) hle (.int .u8 (s : Int))) hle (.int .u8 (E : Int)))
  clear n1 n2 n3 e5 h6 h6' hB hE hE32
  go_wp2
  go_ret
  exact ⟨rfl, by have h9 := hBq; unfold BB at h9; rwa [HG.out] at h9⟩

set_option maxRecDepth 100000 in
set_option maxHeartbeats 8000000 in
theorem extentHeader_any (b s : Nat) (x : Int) (w : World) (hb : b ≤ 128) (h8 : 8 ≤ s) (hs : s ≤ 32) :
    Calls Try.prog 59 #[.agg #[.int .i64 (b : Int), .int .i64 (s : Int), .int .i64 (b / 4 : Nat), .int .i64 x]] w fun e w' => e = .returned (.string (exS b s)) ∧ Below w.heap.size w w' := by
  obtain ⟨E, hE⟩ : ∃ E, b / 4 = E := ⟨_, rfl⟩
  have H6 := Lib.hid (show (⟨#[69, 88]⟩ ++ ⟨[UInt8.ofNat b, UInt8.ofNat s, UInt8.ofNat (b / 4)].toArray⟩ : ByteArray) ++ zerosB (s - 5) = exS b s from rfl)
  have hE32 : E ≤ 32 := by omega
  rw [hE] at H6 ⊢
  clear hE
  have b1 : IntKind.u8.wrap (b : Int) = (b : Int) := IntWalk.u8_in _ (by omega)
  have b2 : IntKind.u8.wrap (s : Int) = (s : Int) := IntWalk.u8_in _ (by omega)
  have b3 : IntKind.u8.wrap (E : Int) = (E : Int) := IntWalk.u8_in _ (by omega)
  have hws : IntKind.i64.wrap ((s : Int) - 5) = ((s - 5 : Nat) : Int) := by rw [show (s : Int) - 5 = ((s - 5 : Nat) : Int) by omega]; exact i_nat _ (by omega)
  have hz2 := zerosB_size (s - 5)
  have hz6 : s - 5 ≤ 1000000 := by omega
  generalize s - 5 = z at *
  have hlc : (#[Value.int .u8 (b : Int), .int .u8 (s : Int), .int .u8 (E : Int)] : Array Value).toList = bcells [UInt8.ofNat b, UInt8.ofNat s, UInt8.ofNat E] := by
    have n1 : ((UInt8.ofNat b).toNat : Int) = (b : Int) := by rw [UInt8.toNat_ofNat']; omega
    have n2 : ((UInt8.ofNat s).toNat : Int) = (s : Int) := by rw [UInt8.toNat_ofNat']; omega
    have n3 : ((UInt8.ofNat E).toNat : Int) = (E : Int) := by rw [UInt8.toNat_ofNat']; omega
    simp only [bcells, List.map_cons, List.map_nil, n1, n2, n3]
  have HLC := Lib.hid hlc
  clear hlc
  have D0 := CP.made w [.int .i64 (b : Int), .int .i64 (s : Int), .int .i64 (E : Int), .int .i64 x] 93
  have hB : BB w (w.alloc (.cells #[.int .i64 (b : Int), .int .i64 (s : Int), .int .i64 (E : Int), .int .i64 x] 93)) := (show Below w.heap.size w (w.alloc (.cells #[.int .i64 (b : Int), .int .i64 (s : Int), .int .i64 (E : Int), .int .i64 x] 93)) from (by with_reducible repeat (first | exact Below.refl _ _ | assumption | refine below_step ?_ (by assumption) | refine Below.drew ?_ | refine below_drewN ?_ _ | refine below_alloc ?_ _ | refine Below.setCell ?_ (by simp; try omega) _)))
  have hbig : ¬ 9223372036854775807 < 5 + z := by omega
  have k2 : (⟨#[69, 88]⟩ : ByteArray).size = 2 := rfl
  have k3 : (⟨#[UInt8.ofNat b, UInt8.ofNat s, UInt8.ofNat E]⟩ : ByteArray).size = 3 := rfl
  have k5 : (⟨#[69, 88]⟩ ++ ⟨#[UInt8.ofNat b, UInt8.ofNat s, UInt8.ofNat E]⟩ : ByteArray).size = 5 := rfl
  go_enter Try.func59, Try.ntmps59
  go_upto_region 1 with fail
  generalize w.alloc (.cells #[.int .i64 (b : Int), .int .i64 (s : Int), .int .i64 (E : Int), .int .i64 x] 93) = w0 at *
  have hL := fun (W : World) => OwnB.lit (e := 5) (base := 0) W [UInt8.ofNat b, UInt8.ofNat s, UInt8.ofNat E] _ HLC.out (Nat.zero_le _) (by simp [maxLen])
  have hcv0 := run_b2s (P := Try.prog) (dst := 9) Try.underlying22 Try.underlying5 Try.underlying9 (OwnB.drewN (hL w0) 1)
  replace hcv0 : (convert 22 9 (.slice (some ⟨w0.heap.size, 0, none⟩) 3 3)).run Try.prog (w0.alloc (.cells #[.int .u8 (b : Int), .int .u8 (s : Int), .int .u8 (E : Int)] 5)).drew = .ok (.string ⟨[UInt8.ofNat b, UInt8.ofNat s, UInt8.ofNat E].toArray⟩) (w0.alloc (.cells #[.int .u8 (b : Int), .int .u8 (s : Int), .int .u8 (E : Int)] 5)).drew := hcv0
  have f0 := (show (_ : Option Value) = some (.int .i64 (b : Int)) from D0.dr 0 (by simp))
  have f1 := (show (_ : Option Value) = some (.int .i64 (s : Int)) from D0.dr 1 (by simp))
  have f2 := (show (_ : Option Value) = some (.int .i64 (E : Int)) from D0.dr 2 (by simp))
  have t0 := fun (o : Obj) => (show (_ : Option Value) = some (.int .i64 (b : Int)) from (CP.al D0 o).dr 0 (by simp))
  have t1 := fun (o : Obj) => (show (_ : Option Value) = some (.int .i64 (s : Int)) from (CP.al D0 o).dr 1 (by simp))
  have t2 := fun (o : Obj) => (show (_ : Option Value) = some (.int .i64 (E : Int)) from (CP.al D0 o).dr 2 (by simp))
  go_region_law (go_simp; first | (go_at_call 44; refine (zeros_any z w0.drew hz6).mono ?_; rintro e w9 ⟨rfl, hx9⟩; clear f0 t0 f1 t1 f2 t2; replace D0 := D0.dr.next hx9; replace hB : BB w _ := BB.next (BB.dr hB) hx9; have hcv1 := run_b2s (P := Try.prog) (dst := 9) Try.underlying22 Try.underlying5 Try.underlying9 (OwnB.drewN (hL w9) 1); replace hcv1 : (convert 22 9 (.slice (some ⟨w9.heap.size, 0, none⟩) 3 3)).run Try.prog (w9.alloc (.cells #[.int .u8 (b : Int), .int .u8 (s : Int), .int .u8 (E : Int)] 5)).drew = .ok (.string ⟨[UInt8.ofNat b, UInt8.ofNat s, UInt8.ofNat E].toArray⟩) (w9.alloc (.cells #[.int .u8 (b : Int), .int .u8 (s : Int), .int .u8 (E : Int)] 5)).drew := hcv1; have hcv2 : (convert 22 9 (.slice (some ⟨w9.heap.size, 0, none⟩) 3 3)).run Try.prog (w9.alloc (.cells #[.int .u8 (b : Int), .int .u8 (s : Int), .int .u8 (E : Int)] 5)) = .ok (.string ⟨[UInt8.ofNat b, UInt8.ofNat s, UInt8.ofNat E].toArray⟩) (w9.alloc (.cells #[.int .u8 (b : Int), .int .u8 (s : Int), .int .u8 (E : Int)] 5)) := run_b2s (P := Try.prog) (dst := 9) Try.underlying22 Try.underlying5 Try.underlying9 (hL w9); have v0 := (show (_ : Option Value) = some (.int .i64 (b : Int)) from D0 0 (by simp)); have v1 := (show (_ : Option Value) = some (.int .i64 (s : Int)) from D0 1 (by simp)); have v2 := (show (_ : Option Value) = some (.int .i64 (E : Int)) from D0 2 (by simp)); have y0 := fun (o : Obj) => (show (_ : Option Value) = some (.int .i64 (b : Int)) from (CP.al D0 o) 0 (by simp)); have y1 := fun (o : Obj) => (show (_ : Option Value) = some (.int .i64 (s : Int)) from (CP.al D0 o) 1 (by simp)); have y2 := fun (o : Obj) => (show (_ : Option Value) = some (.int .i64 (E : Int)) from (CP.al D0 o) 2 (by simp)); have k0 := fun (o : Obj) => (show (_ : Option Value) = some (.int .i64 (b : Int)) from (CP.al D0 o).dr 0 (by simp)); have k1 := fun (o : Obj) => (show (_ : Option Value) = some (.int .i64 (s : Int)) from (CP.al D0 o).dr 1 (by simp)); have k2 := fun (o : Obj) => (show (_ : Option Value) = some (.int .i64 (E : Int)) from (CP.al D0 o).dr 2 (by simp))) | (go_at_call 44; refine (zeros_any z (w0.alloc (.cells #[.int .u8 (b : Int), .int .u8 (s : Int), .int .u8 (E : Int)] 5)).drew hz6).mono ?_; rintro e w9 ⟨rfl, hx9⟩; clear f0 t0 f1 t1 f2 t2; have hcv1 := run_b2s (P := Try.prog) (dst := 9) Try.underlying22 Try.underlying5 Try.underlying9 (OwnB.later (OwnB.drewN (hL w0) 1) hx9 (Nat.le_refl _)); replace hcv1 : (convert 22 9 (.slice (some ⟨w0.heap.size, 0, none⟩) 3 3)).run Try.prog w9 = .ok (.string ⟨[UInt8.ofNat b, UInt8.ofNat s, UInt8.ofNat E].toArray⟩) w9 := hcv1; replace D0 := (CP.al D0 _).dr.next hx9; replace hB : BB w _ := BB.next (BB.al hB _).dr hx9; have v0 := (show (_ : Option Value) = some (.int .i64 (b : Int)) from D0 0 (by simp)); have v1 := (show (_ : Option Value) = some (.int .i64 (s : Int)) from D0 1 (by simp)); have v2 := (show (_ : Option Value) = some (.int .i64 (E : Int)) from D0 2 (by simp))))
  all_goals
    go_wp2
    go_ret
    have hBw : Below w.heap.size w w9 := hB
    exact ⟨by rw [← H6.out]; rfl, (by with_reducible repeat (first | exact Below.refl _ _ | assumption | refine below_step ?_ (by assumption) | refine Below.drew ?_ | refine below_drewN ?_ _ | refine below_alloc ?_ _ | refine Below.setCell ?_ (by simp; try omega) _))⟩
end Go.Proofs.Ytjahgknehamlpaa
