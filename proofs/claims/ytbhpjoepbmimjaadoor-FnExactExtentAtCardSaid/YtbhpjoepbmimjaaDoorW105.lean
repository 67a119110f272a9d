/- Walks: the layout and the header of a disk of extents. -/
import Derived.Test.YtbhpjoepbmimjaaDoorW99
import Derived.Test.YtbhpjoepbmimjaaDoorMem3
import Derived.Deep.RegionLaw
namespace Go.Proofs.YtbhpjoepbmimjaaDoor
open Go.RowKit
set_option linter.unusedVariables false

def ex5 (b s : Nat) : ByteArray := ⟨#[69, 88]⟩ ++ ⟨[UInt8.ofNat b, UInt8.ofNat s, UInt8.ofNat (b / 4)].toArray⟩
def exS (b s : Nat) : ByteArray := ex5 b s ++ zerosB (s - 5)
def exD (b s : Nat) : Nat := 1 + (b / 4 * 16 + s - 1) / s
def exB (l : List ByteArray) : Bool := blkB l && decide (l.headD ⟨#[]⟩ = exS l.length (s0 l))
theorem ex5_size (b s : Nat) : (ex5 b s).size = 5 := rfl
theorem bcells_set (l : List UInt8) (j : Nat) (x : UInt8) : (bcells l).set j (.int .u8 (x.toNat : Int)) = bcells (l.set j x) := by simp [bcells, List.map_set]
theorem exS_row (b s : Nat) (h : 8 ≤ s) : (⟨((((((List.replicate s (0 : UInt8)).set 0 69).set 1 88).set 2 (UInt8.ofNat b)).set 3 (UInt8.ofNat s)).set 4 (UInt8.ofNat (b / 4))).toArray⟩ : ByteArray) = exS b s := by
  obtain ⟨z, hz⟩ : ∃ z, s = z + 5 := ⟨s - 5, by omega⟩
  have h1 : s - 5 = z := by omega
  have h2 : List.replicate s (0 : UInt8) = 0 :: 0 :: 0 :: 0 :: 0 :: List.replicate z 0 := by rw [hz]; rfl
  have h3 : ((((((List.replicate s (0 : UInt8)).set 0 69).set 1 88).set 2 (UInt8.ofNat b)).set 3 (UInt8.ofNat s)).set 4 (UInt8.ofNat (b / 4))) = 69 :: 88 :: UInt8.ofNat b :: UInt8.ofNat s :: UInt8.ofNat (b / 4) :: List.replicate z 0 := by rw [h2]; rfl
  rw [h3, exS, h1]
  rfl
theorem run_three (b s e : Nat) (hb : b < 256) (hs : s < 256) (he : e < 256) (w : World) :
    (convert 48 9 (.slice (some ⟨w.heap.size, 0, none⟩) 3 3)).run Tryd.prog (w.alloc (.cells #[.int .u8 (b : Int), .int .u8 (s : Int), .int .u8 (e : Int)] 5)) =
      .ok (.string ⟨[UInt8.ofNat b, UInt8.ofNat s, UInt8.ofNat e].toArray⟩) (w.alloc (.cells #[.int .u8 (b : Int), .int .u8 (s : Int), .int .u8 (e : Int)] 5)) :=
  run_b2s_lit Tryd.underlying48 Tryd.underlying5 Tryd.underlying9 w [UInt8.ofNat b, UInt8.ofNat s, UInt8.ofNat e] _ 3 (by
    have h1 : (UInt8.ofNat b).toNat = b := by rw [UInt8.toNat_ofNat']; omega
    have h2 : (UInt8.ofNat s).toNat = s := by rw [UInt8.toNat_ofNat']; omega
    have h3 : (UInt8.ofNat e).toNat = e := by rw [UInt8.toNat_ofNat']; omega
    simp only [bcells, List.map_cons, List.map_nil, h1, h2, h3]) rfl (by simp [maxLen])
set_option maxHeartbeats 400000 in
theorem l17Size_any (s : Nat) (w : World) : Calls Tryd.prog 55 #[.int .i64 (s : Int)] w fun e w' => e = .returned (.bool (oneOf s)) ∧ w = w' := by
  by_cases q8 : s = 8
  · have HR := Lib.hid (show oneOf s = true by rw [q8]; rfl)
    have r8 : ((s : Int) == 8) = true := by rw [q8]; rfl
    clear q8
    go_enter Tryd.func55, Tryd.ntmps55
    go_wp2
    go_ret
    exact ⟨ret_bool HR.out.symm, rfl⟩
  have r8 : ((s : Int) == 8) = false := beq_false_of_ne (by omega)
  by_cases q16 : s = 16
  · have HR := Lib.hid (show oneOf s = true by rw [q16]; rfl)
    have r16 : ((s : Int) == 16) = true := by rw [q16]; rfl
    clear q8 q16
    go_enter Tryd.func55, Tryd.ntmps55
    go_wp2
    go_ret
    exact ⟨ret_bool HR.out.symm, rfl⟩
  have r16 : ((s : Int) == 16) = false := beq_false_of_ne (by omega)
  by_cases q32 : s = 32
  · have HR := Lib.hid (show oneOf s = true by rw [q32]; rfl)
    have r32 : ((s : Int) == 32) = true := by rw [q32]; rfl
    clear q8 q16 q32
    go_enter Tryd.func55, Tryd.ntmps55
    go_wp2
    go_ret
    exact ⟨ret_bool HR.out.symm, rfl⟩
  have r32 : ((s : Int) == 32) = false := beq_false_of_ne (by omega)
  have HR := Lib.hid (show oneOf s = false by simp [oneOf, q8, q16, q32])
  clear q8 q16 q32
  go_enter Tryd.func55, Tryd.ntmps55
  go_wp2
  go_ret
  exact ⟨ret_bool HR.out.symm, rfl⟩
set_option maxRecDepth 100000 in
set_option maxHeartbeats 1000000 in
theorem l17Data_any (b s : Nat) (w : World) (hb : b ≤ 128) (h0 : 0 < s) (hs : s ≤ 32) :
    Calls Tryd.prog 57 #[.int .i64 (b : Int), .int .i64 (s : Int)] w fun e w' => e = .returned (.int .i64 (exD b s : Int)) ∧ w = w' := by
  obtain ⟨E, hE⟩ : ∃ E, b / 4 = E := ⟨_, rfl⟩
  have hE32 : E ≤ 32 := by omega
  have hdv : (b : Int) / 4 = (E : Int) := by omega
  have hdt : (b : Int).tdiv 4 = (E : Int) := by rw [← hE]; rfl
  have w1 : IntKind.i64.wrap ((E : Int) * 16) = ((E * 16 : Nat) : Int) := by rw [show (E : Int) * 16 = ((E * 16 : Nat) : Int) by omega]; exact i_nat _ (by omega)
  obtain ⟨c2, hc2⟩ : ∃ c, (E * 16 + s - 1) / s = c := ⟨_, rfl⟩
  have hc2b : c2 ≤ 600 := by rw [← hc2]; exact Nat.le_trans (Nat.div_le_self _ _) (by omega)
  have w3 : IntKind.i64.wrap (1 + (c2 : Int)) = ((1 + c2 : Nat) : Int) := by rw [show 1 + (c2 : Int) = ((1 + c2 : Nat) : Int) by omega]; exact i_nat _ (by omega)
  have hED : exD b s = 1 + c2 := by rw [exD, hE, hc2]
  rw [hED]
  have a3 : IntKind.i64.wrap (((E * 16 : Nat) : Int) + (s : Int)) = ((E * 16 + s : Nat) : Int) := by rw [show ((E * 16 : Nat) : Int) + (s : Int) = ((E * 16 + s : Nat) : Int) by clear w1 w3; omega]; exact i_nat _ (by clear w1 w3; omega)
  have a4 : IntKind.i64.wrap (((E * 16 + s : Nat) : Int) - 1) = ((E * 16 + s - 1 : Nat) : Int) := by rw [show ((E * 16 + s : Nat) : Int) - 1 = ((E * 16 + s - 1 : Nat) : Int) by clear w1 w3 a3; omega]; exact i_nat _ (by clear w1 w3 a3; omega)
  have a6 := qdiv (E * 16 + s - 1) s
  have a8 : IntKind.i64.wrap (c2 : Int) = (c2 : Int) := i_nat _ (by clear w1 w3 a3 a4 a6; omega)
  have aE : IntKind.i64.wrap (E : Int) = (E : Int) := i_nat _ (by clear w1 w3 a3 a4 a6; omega)
  rw [hc2] at a6
  have e0 : ¬ (s : Int) = 0 := by clear w1 w3 a3 a4 a6; omega
  have e1 : ¬ s = 0 := by clear w1 w3 a3 a4 a6; omega
  have e2 : ((s : Int) == 0) = false := beq_false_of_ne e0
  generalize 1 + c2 = X at w3 ⊢
  generalize E * 16 + s - 1 = T3 at a4 a6
  generalize E * 16 + s = T4 at a3 a4
  generalize E * 16 = E12 at w1 a3
  clear hE hc2 hED hc2b hE32
  go_enter Tryd.func57, Tryd.ntmps57
  go_wp2
  go_ret
  exact ⟨rfl, rfl⟩
set_option maxRecDepth 100000 in
set_option maxHeartbeats 1000000 in
theorem extentLayout_any (b s : Nat) (w : World) (hb : b ≤ 128) (h0 : 0 < s) (hs : s ≤ 32) :
    Calls Tryd.prog 62 #[.int .i64 (b : Int), .int .i64 (s : Int)] w fun e w' => e = .returned (.agg #[.int .i64 (b : Int), .int .i64 (s : Int), .int .i64 (b / 4 : Nat), .int .i64 (exD b s : Int)]) ∧ Below w.heap.size w w' := by
  obtain ⟨E, hE⟩ : ∃ E, b / 4 = E := ⟨_, rfl⟩
  have hE32 : E ≤ 32 := by omega
  have hdv : (b : Int) / 4 = (E : Int) := by omega
  have hdt : (b : Int).tdiv 4 = (E : Int) := by rw [← hE]; rfl
  have w1 : IntKind.i64.wrap ((E : Int) * 16) = ((E * 16 : Nat) : Int) := by rw [show (E : Int) * 16 = ((E * 16 : Nat) : Int) by omega]; exact i_nat _ (by omega)
  obtain ⟨c2, hc2⟩ : ∃ c, (E * 16 + s - 1) / s = c := ⟨_, rfl⟩
  have hc2b : c2 ≤ 600 := by rw [← hc2]; exact Nat.le_trans (Nat.div_le_self _ _) (by omega)
  have w3 : IntKind.i64.wrap (1 + (c2 : Int)) = ((1 + c2 : Nat) : Int) := by rw [show 1 + (c2 : Int) = ((1 + c2 : Nat) : Int) by omega]; exact i_nat _ (by omega)
  have hED : exD b s = 1 + c2 := by rw [exD, hE, hc2]
  rw [hED]
  rw [hE]
  have hcA := fun W => ceiling_any (E * 16) s W (by omega) (by omega) h0
  rw [hc2] at hcA
  have aE : IntKind.i64.wrap (E : Int) = (E : Int) := i_nat _ (by clear w1 w3; omega)
  have F := BX.made w 59 [.int .i64 0, .int .i64 0, .int .i64 0, .int .i64 0]
  have hB : BB w (w.alloc (.cells #[.int .i64 0, .int .i64 0, .int .i64 0, .int .i64 0] 59)) := (show Below w.heap.size w (w.alloc (.cells #[.int .i64 0, .int .i64 0, .int .i64 0, .int .i64 0] 59)) from (by with_reducible repeat (first | exact Below.refl _ _ | assumption | refine below_step ?_ (by assumption) | refine Below.drew ?_ | refine below_drewN ?_ _ | refine below_alloc ?_ _ | refine Below.setCell ?_ (by simp; try omega) _)))
  generalize 1 + c2 = X at w3 ⊢
  generalize E * 16 = E12 at w1 hcA
  have P := ((((F.put 0 (.int .i64 (b : Int))).put 1 (.int .i64 (s : Int))).put 2 (.int .i64 (E : Int))).put 3 (.int .i64 (X : Int)))
  have hBq := (BB.put (a := ⟨w.heap.size, 3, none⟩) (BB.put (a := ⟨w.heap.size, 2, none⟩) (BB.put (a := ⟨w.heap.size, 1, none⟩) (BB.put (a := ⟨w.heap.size, 0, none⟩) hB (Nat.le_refl _) (.int .i64 (b : Int))) (Nat.le_refl _) (.int .i64 (s : Int))) (Nat.le_refl _) (.int .i64 (E : Int))) (Nat.le_refl _) (.int .i64 (X : Int)))
  have r0 : (_ : Option Value) = some (.int .i64 (b : Int)) := P.cell 0 (by simp)
  have r1 : (_ : Option Value) = some (.int .i64 (s : Int)) := P.cell 1 (by simp)
  have r2 : (_ : Option Value) = some (.int .i64 (E : Int)) := P.cell 2 (by simp)
  have r3 : (_ : Option Value) = some (.int .i64 (X : Int)) := P.cell 3 (by simp)
  clear hE hc2 hED hc2b hE32
  go_enter Tryd.func62, Tryd.ntmps62
  go_wp2_with (go_at_call 74; refine (hcA _).mono ?_; rintro e w9 ⟨rfl, rfl⟩)
  first
    | exact bodyPost_ret (v := .agg #[.int .i64 (b : Int), .int .i64 (s : Int), .int .i64 (E : Int), .int .i64 (X : Int)]) (by simp [results, Tryd.results62, go_sem, r0, r1, r2, r3]) rfl ⟨rfl, hBq⟩
    | exact bodyPost_ret (v := .agg #[.int .i64 (b : Int), .int .i64 (s : Int), .int .i64 (E : Int), .int .i64 (X : Int)]) (by simp [results, Tryd.results62, go_sem]) rfl ⟨rfl, (by with_reducible repeat (first | exact Below.refl _ _ | assumption | refine below_step ?_ (by assumption) | refine Below.drew ?_ | refine below_drewN ?_ _ | refine below_alloc ?_ _ | refine Below.setCell ?_ (by simp; try omega) _))⟩
set_option maxRecDepth 100000 in
set_option maxHeartbeats 1000000 in
theorem l17Head_any (b s : Nat) (w : World) (hb : b ≤ 128) (h8 : 8 ≤ s) (hs : s ≤ 32) :
    Calls Tryd.prog 56 #[.int .i64 (b : Int), .int .i64 (s : Int)] w fun e w' => e = .returned (.string (exS b s)) ∧ Below w.heap.size w w' := by
  have HX := Lib.hid (exS_row b s h8)
  obtain ⟨E, hE⟩ : ∃ E, b / 4 = E := ⟨_, rfl⟩
  have hE32 : E ≤ 32 := by omega
  have hdv : (b : Int) / 4 = (E : Int) := by omega
  have hdt : (b : Int).tdiv 4 = (E : Int) := by rw [← hE]; rfl
  rw [hE] at HX
  have hmk := fun W => eltB.make s (by omega) (by omega) W
  simp only [Nat.mul_one, show (Value.int .u8 0).cells = #[Value.int .u8 0] from rfl] at hmk
  have b1 : IntKind.u8.wrap (b : Int) = (b : Int) := IntWalk.u8_in _ (by omega)
  have b2 : IntKind.u8.wrap (s : Int) = (s : Int) := IntWalk.u8_in _ (by omega)
  have b3 : IntKind.u8.wrap (E : Int) = (E : Int) := IntWalk.u8_in _ (by omega)
  have aE : IntKind.i64.wrap (E : Int) = (E : Int) := i_nat _ (by omega)
  have n1 : ((UInt8.ofNat b).toNat : Int) = (b : Int) := by rw [UInt8.toNat_ofNat']; omega
  have n2 : ((UInt8.ofNat s).toNat : Int) = (s : Int) := by rw [UInt8.toNat_ofNat']; omega
  have n3 : ((UInt8.ofNat E).toNat : Int) = (E : Int) := by rw [UInt8.toNat_ofNat']; omega
  have j0 : (0 : Int) < (s : Int) := by omega
  have j1 : (1 : Int) < (s : Int) := by omega
  have j2 : (2 : Int) < (s : Int) := by omega
  have j3 : (3 : Int) < (s : Int) := by omega
  have j4 : (4 : Int) < (s : Int) := by omega
  have ho := OwnB.lit (e := 5) (base := w.heap.size) w (List.replicate s (0 : UInt8)) (madeCells #[Value.int .u8 0] s) (made_bytes s) (Nat.le_refl _) (by simp [maxLen]; omega)
  rw [List.length_replicate] at ho
  have hB : BB w (w.alloc (.cells (madeCells #[Value.int .u8 0] s) 5)) := (show Below w.heap.size w (w.alloc (.cells (madeCells #[Value.int .u8 0] s) 5)) from (by with_reducible repeat (first | exact Below.refl _ _ | assumption | refine below_step ?_ (by assumption) | refine Below.drew ?_ | refine below_drewN ?_ _ | refine below_alloc ?_ _ | refine Below.setCell ?_ (by simp; try omega) _)))
  go_enter Tryd.func56, Tryd.ntmps56
  go_upto_region 2 with fail
  clear hmk
  generalize w.alloc (.cells (madeCells #[Value.int .u8 0] s) 5) = w1 at *
  generalize hG : w.heap.size = G at ho ⊢
  have hle : w.heap.size ≤ G := Nat.le_of_eq hG
  have HG := Lib.hid hG
  clear hG
  have h1 : OO w1 G 5 1 (.slice (some ⟨G, 0, none⟩) s s) s (bcells (List.replicate s (0 : UInt8))) := by
    have := ho
    unfold OwnB at this
    rwa [List.length_replicate] at this
  clear ho
  obtain ⟨u0, hu0⟩ := own_some (OOf h1) 0 (by omega)
  have hz0 := World.ownsRow.frozenAt (OOf h1) 0
  have h2 : OO _ _ _ _ _ _ _ := (World.ownsRow.stored (OOf h1) 0 (.int .u8 69)).1
  obtain ⟨u1, hu1⟩ := own_some (OOf h2) 1 (by omega)
  have hz1 := World.ownsRow.frozenAt (OOf h2) 1
  have h3 : OO _ _ _ _ _ _ _ := (World.ownsRow.stored (OOf h2) 1 (.int .u8 88)).1
  obtain ⟨u2, hu2⟩ := own_some (OOf h3) 2 (by omega)
  have hz2 := World.ownsRow.frozenAt (OOf h3) 2
  have h4 : OO _ _ _ _ _ _ _ := (World.ownsRow.stored (OOf h3) 2 (.int .u8 (b : Int))).1
  obtain ⟨u3, hu3⟩ := own_some (OOf h4) 3 (by omega)
  have hz3 := World.ownsRow.frozenAt (OOf h4) 3
  have h5 : OO _ _ _ _ _ _ _ := (World.ownsRow.stored (OOf h4) 3 (.int .u8 (s : Int))).1
  obtain ⟨u4, hu4⟩ := own_some (OOf h5) 4 (by omega)
  have hz4 := World.ownsRow.frozenAt (OOf h5) 4
  have h6 : OO _ _ _ _ _ _ _ := (World.ownsRow.stored (OOf h5) 4 (.int .u8 (E : Int))).1
  have e5 : (((((bcells (List.replicate s (0 : UInt8))).set 0 (.int .u8 69)).set 1 (.int .u8 88)).set 2 (.int .u8 (b : Int))).set 3 (.int .u8 (s : Int))).set 4 (.int .u8 (E : Int)) = bcells ((((((List.replicate s (0 : UInt8)).set 0 69).set 1 88).set 2 (UInt8.ofNat b)).set 3 (UInt8.ofNat s)).set 4 (UInt8.ofNat E)) := by
    rw [← n1, ← n2, ← n3, show (Value.int .u8 69) = .int .u8 ((69 : UInt8).toNat : Int) from rfl, show (Value.int .u8 88) = .int .u8 ((88 : UInt8).toNat : Int) from rfl, bcells_set, bcells_set, bcells_set, bcells_set, bcells_set]
  have h6' : OwnB (((((w1.setCell ⟨G, 0, none⟩ (.int .u8 69)).setCell ⟨G, 1, none⟩ (.int .u8 88)).setCell ⟨G, 2, none⟩ (.int .u8 (b : Int))).setCell ⟨G, 3, none⟩ (.int .u8 (s : Int))).setCell ⟨G, 4, none⟩ (.int .u8 (E : Int))) G 5 (.slice (some ⟨G, 0, none⟩) s s) ((((((List.replicate s (0 : UInt8)).set 0 69).set 1 88).set 2 (UInt8.ofNat b)).set 3 (UInt8.ofNat s)).set 4 (UInt8.ofNat E)) := by
    unfold OwnB
    rw [← e5, show (((((((List.replicate s (0 : UInt8)).set 0 69).set 1 88).set 2 (UInt8.ofNat b)).set 3 (UInt8.ofNat s)).set 4 (UInt8.ofNat E))).length = s by simp]
    exact h6
  have hcv := run_b2s (P := Tryd.prog) (dst := 9) Tryd.underlying48 Tryd.underlying5 Tryd.underlying9 h6'
  rw [HX.out] at hcv
  have hBq := (BB.put (a := ⟨G, 4, none⟩) (BB.put (a := ⟨G, 3, none⟩) (BB.put (a := ⟨G, 2, none⟩) (BB.put (a := ⟨G, 1, none⟩) (BB.put (a := ⟨G, 0, none⟩) hB hle (.int .u8 69)) hle (.int .u8 88)) hle (.int .u8 (b : Int))) hle (.int .u8 (s : Int))) hle (.int .u8 (E : Int)))
  clear n1 n2 n3 e5 h6 h6' hB hE hE32
  go_wp2
  go_ret
  exact ⟨rfl, by have h9 := hBq; unfold BB at h9; rwa [HG.out] at h9⟩
end Go.Proofs.YtbhpjoepbmimjaaDoor
