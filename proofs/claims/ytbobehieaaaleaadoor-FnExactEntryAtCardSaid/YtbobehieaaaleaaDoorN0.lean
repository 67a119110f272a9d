/- Walks: the texts W99 W105 W107 W108 as one text. -/
import Derived.Test.YtbobehieaaaleaaDoorW98
import Derived.Test.YtbobehieaaaleaaDoorMem3
import Derived.Deep.RegionLaw
import Derived.Test.YtbobehieaaaleaaDoorW97
import Derived.Test.YtbobehieaaaleaaDoorShelf
import Derived.Deep.RegionHeld3
import Derived.Deep.DeepCutAuto
import Derived.Test.YtbobehieaaaleaaDoorMem2
import Derived.Test.YtbobehieaaaleaaDoorQB
namespace Go.Proofs.YtbobehieaaaleaaDoor
set_option linter.unusedVariables false
open Go.RowKit

def loN (ok : Bool) (v : Nat) : Int := if ok then (v : Int) else 0
def okC (l : List ByteArray) : Bool := decide (chC l = 0)
end Go.Proofs.YtbobehieaaaleaaDoor
namespace Go.Proofs.YtbobehieaaaleaaDoor
set_option linter.unusedVariables false
open Go.RowKit

def ex5 (b s : Nat) : ByteArray := ⟨#[69, 88]⟩ ++ ⟨[UInt8.ofNat b, UInt8.ofNat s, UInt8.ofNat (b / 4)].toArray⟩
def exS (b s : Nat) : ByteArray := ex5 b s ++ zerosB (s - 5)
def exD (b s : Nat) : Nat := 1 + (b / 4 * 16 + s - 1) / s
def exB (l : List ByteArray) : Bool := blkB l && decide (l.headD ⟨#[]⟩ = exS l.length (s0 l))
theorem ex5_size (b s : Nat) : (ex5 b s).size = 5 := rfl
theorem bcells_set (l : List UInt8) (j : Nat) (x : UInt8) : (bcells l).set j (.int .u8 (x.toNat : Int)) = bcells (l.set j x) := by simp [bcells, List.map_set]
theorem exS_row (b s : Nat) (h : 8 ≤ s) : (⟨((((((List.replicate s (0 : UInt8)).set 0 69).set 1 88).set 2 (UInt8.ofNat b)).set 3 (UInt8.ofNat s)).set 4 (UInt8.ofNat (b / 4))).toArray⟩ : ByteArray) = exS b s := by
  obtain ⟨z, hz⟩ : ∃ z, s = z + 5 := ⟨s - 5, by omega⟩
  have h1 : s - 5 = z := by omega
  have h2 : List.replicate s (0 : UInt8) = 0 :: 0 :: 0 :: 0 :: 0 :: List.replicate z 0 := by rw [hz]; rfl
  have h3 : ((((((List.replicate s (0 : UInt8)).set 0 69).set 1 88).set 2 (UInt8.ofNat b)).set 3 (UInt8.ofNat s)).set 4 (UInt8.ofNat (b / 4))) = 69 :: 88 :: UInt8.ofNat b :: UInt8.ofNat s :: UInt8.ofNat (b / 4) :: List.replicate z 0 := by rw [h2]; rfl
  rw [h3, exS, h1]
  rfl
theorem run_three (b s e : Nat) (hb : b < 256) (hs : s < 256) (he : e < 256) (w : World) :
    (convert 41 9 (.slice (some ⟨w.heap.size, 0, none⟩) 3 3)).run Tryd.prog (w.alloc (.cells #[.int .u8 (b : Int), .int .u8 (s : Int), .int .u8 (e : Int)] 5)) =
      .ok (.string ⟨[UInt8.ofNat b, UInt8.ofNat s, UInt8.ofNat e].toArray⟩) (w.alloc (.cells #[.int .u8 (b : Int), .int .u8 (s : Int), .int .u8 (e : Int)] 5)) :=
  run_b2s_lit Tryd.underlying41 Tryd.underlying5 Tryd.underlying9 w [UInt8.ofNat b, UInt8.ofNat s, UInt8.ofNat e] _ 3 (by
    have h1 : (UInt8.ofNat b).toNat = b := by rw [UInt8.toNat_ofNat']; omega
    have h2 : (UInt8.ofNat s).toNat = s := by rw [UInt8.toNat_ofNat']; omega
    have h3 : (UInt8.ofNat e).toNat = e := by rw [UInt8.toNat_ofNat']; omega
    simp only [bcells, List.map_cons, List.map_nil, h1, h2, h3]) rfl (by simp [maxLen])
set_option maxHeartbeats 400000 in
theorem l17Size_any (s : Nat) (w : World) : Calls Tryd.prog 45 #[.int .i64 (s : Int)] w fun e w' => e = .returned (.bool (oneOf s)) ∧ w = w' := by
  by_cases q8 : s = 8
  · have HR := Lib.hid (show oneOf s = true by rw [q8]; rfl)
    have r8 : ((s : Int) == 8) = true := by rw [q8]; rfl
    clear q8
    go_enter Tryd.func45, Tryd.ntmps45
    go_wp2
    go_ret
    exact ⟨ret_bool HR.out.symm, rfl⟩
  have r8 : ((s : Int) == 8) = false := beq_false_of_ne (by omega)
  by_cases q16 : s = 16
  · have HR := Lib.hid (show oneOf s = true by rw [q16]; rfl)
    have r16 : ((s : Int) == 16) = true := by rw [q16]; rfl
    clear q8 q16
    go_enter Tryd.func45, Tryd.ntmps45
    go_wp2
    go_ret
    exact ⟨ret_bool HR.out.symm, rfl⟩
  have r16 : ((s : Int) == 16) = false := beq_false_of_ne (by omega)
  by_cases q32 : s = 32
  · have HR := Lib.hid (show oneOf s = true by rw [q32]; rfl)
    have r32 : ((s : Int) == 32) = true := by rw [q32]; rfl
    clear q8 q16 q32
    go_enter Tryd.func45, Tryd.ntmps45
    go_wp2
    go_ret
    exact ⟨ret_bool HR.out.symm, rfl⟩
  have r32 : ((s : Int) == 32) = false := beq_false_of_ne (by omega)
  have HR := Lib.hid (show oneOf s = false by simp [oneOf, q8, q16, q32])
  clear q8 q16 q32
  go_enter Tryd.func45, Tryd.ntmps45
  go_wp2
  go_ret
  exact ⟨ret_bool HR.out.symm, rfl⟩
set_option maxRecDepth 100000 in
set_option maxHeartbeats 1000000 in
theorem l17Data_any (b s : Nat) (w : World) (hb : b ≤ 128) (h0 : 0 < s) (hs : s ≤ 32) :
    Calls Tryd.prog 47 #[.int .i64 (b : Int), .int .i64 (s : Int)] w fun e w' => e = .returned (.int .i64 (exD b s : Int)) ∧ w = w' := by
  obtain ⟨E, hE⟩ : ∃ E, b / 4 = E := ⟨_, rfl⟩
  have hE32 : E ≤ 32 := by omega
  have hdv : (b : Int) / 4 = (E : Int) := by omega
  have hdt : (b : Int).tdiv 4 = (E : Int) := by rw [← hE]; rfl
  have w1 : IntKind.i64.wrap ((E : Int) * 16) = ((E * 16 : Nat) : Int) := by rw [show (E : Int) * 16 = ((E * 16 : Nat) : Int) by omega]; exact i_nat _ (by omega)
  obtain ⟨c2, hc2⟩ : ∃ c, (E * 16 + s - 1) / s = c := ⟨_, rfl⟩
  have hc2b : c2 ≤ 600 := by rw [← hc2]; exact Nat.le_trans (Nat.div_le_self _ _) (by omega)
  have w3 : IntKind.i64.wrap (1 + (c2 : Int)) = ((1 + c2 : Nat) : Int) := by rw [show 1 + (c2 : Int) = ((1 + c2 : Nat) : Int) by omega]; exact i_nat _ (by omega)
  have hED : exD b s = 1 + c2 := by rw [exD, hE, hc2]
  rw [hED]
  have a3 : IntKind.i64.wrap (((E * 16 : Nat) : Int) + (s : Int)) = ((E * 16 + s : Nat) : Int) := by rw [show ((E * 16 : Nat) : Int) + (s : Int) = ((E * 16 + s : Nat) : Int) by clear w1 w3; omega]; exact i_nat _ (by clear w1 w3; omega)
  have a4 : IntKind.i64.wrap (((E * 16 + s : Nat) : Int) - 1) = ((E * 16 + s - 1 : Nat) : Int) := by rw [show ((E * 16 + s : Nat) : Int) - 1 = ((E * 16 + s - 1 : Nat) : Int) by clear w1 w3 a3; omega]; exact i_nat _ (by clear w1 w3 a3; omega)
  have a6 := qdiv (E * 16 + s - 1) s
  have a8 : IntKind.i64.wrap (c2 : Int) = (c2 : Int) := i_nat _ (by clear w1 w3 a3 a4 a6; omega)
  have aE : IntKind.i64.wrap (E : Int) = (E : Int) := i_nat _ (by clear w1 w3 a3 a4 a6; omega)
  rw [hc2] at a6
  have e0 : ¬ (s : Int) = 0 := by clear w1 w3 a3 a4 a6; omega
  have e1 : ¬ s = 0 := by clear w1 w3 a3 a4 a6; omega
  have e2 : ((s : Int) == 0) = false := beq_false_of_ne e0
  generalize 1 + c2 = X at w3 ⊢
  generalize E * 16 + s - 1 = T3 at a4 a6
  generalize E * 16 + s = T4 at a3 a4
  generalize E * 16 = E12 at w1 a3
  clear hE hc2 hED hc2b hE32
  go_enter Tryd.func47, Tryd.ntmps47
  go_wp2
  go_ret
  exact ⟨rfl, rfl⟩
set_option maxRecDepth 100000 in
set_option maxHeartbeats 1000000 in
theorem extentLayout_any (b s : Nat) (w : World) (hb : b ≤ 128) (h0 : 0 < s) (hs : s ≤ 32) :
    Calls Tryd.prog 52 #[.int .i64 (b : Int), .int .i64 (s : Int)] w fun e w' => e = .returned (.agg #[.int .i64 (b : Int), .int .i64 (s : Int), .int .i64 (b / 4 : Nat), .int .i64 (exD b s : Int)]) ∧ Below w.heap.size w w' := by
  obtain ⟨E, hE⟩ : ∃ E, b / 4 = E := ⟨_, rfl⟩
  have hE32 : E ≤ 32 := by omega
  have hdv : (b : Int) / 4 = (E : Int) := by omega
  have hdt : (b : Int).tdiv 4 = (E : Int) := by rw [← hE]; rfl
  have w1 : IntKind.i64.wrap ((E : Int) * 16) = ((E * 16 : Nat) : Int) := by rw [show (E : Int) * 16 = ((E * 16 : Nat) : Int) by omega]; exact i_nat _ (by omega)
  obtain ⟨c2, hc2⟩ : ∃ c, (E * 16 + s - 1) / s = c := ⟨_, rfl⟩
  have hc2b : c2 ≤ 600 := by rw [← hc2]; exact Nat.le_trans (Nat.div_le_self _ _) (by omega)
  have w3 : IntKind.i64.wrap (1 + (c2 : Int)) = ((1 + c2 : Nat) : Int) := by rw [show 1 + (c2 : Int) = ((1 + c2 : Nat) : Int) by omega]; exact i_nat _ (by omega)
  have hED : exD b s = 1 + c2 := by rw [exD, hE, hc2]
  rw [hED]
  rw [hE]
  have hcA := fun W => ceiling_any (E * 16) s W (by omega) (by omega) h0
  rw [hc2] at hcA
  have aE : IntKind.i64.wrap (E : Int) = (E : Int) := i_nat _ (by clear w1 w3; omega)
  have F := BX.made w 52 [.int .i64 0, .int .i64 0, .int .i64 0, .int .i64 0]
  have hB : BB w (w.alloc (.cells #[.int .i64 0, .int .i64 0, .int .i64 0, .int .i64 0] 52)) := (show Below w.heap.size w (w.alloc (.cells #[.int .i64 0, .int .i64 0, .int .i64 0, .int .i64 0] 52)) from (by with_reducible repeat (first | exact Below.refl _ _ | assumption | refine below_step ?_ (by assumption) | refine Below.drew ?_ | refine below_drewN ?_ _ | refine below_alloc ?_ _ | refine Below.setCell ?_ (by simp; try omega) _)))
  generalize 1 + c2 = X at w3 ⊢
  generalize E * 16 = E12 at w1 hcA
  have P := ((((F.put 0 (.int .i64 (b : Int))).put 1 (.int .i64 (s : Int))).put 2 (.int .i64 (E : Int))).put 3 (.int .i64 (X : Int)))
  have hBq := (BB.put (a := ⟨w.heap.size, 3, none⟩) (BB.put (a := ⟨w.heap.size, 2, none⟩) (BB.put (a := ⟨w.heap.size, 1, none⟩) (BB.put (a := ⟨w.heap.size, 0, none⟩) hB (Nat.le_refl _) (.int .i64 (b : Int))) (Nat.le_refl _) (.int .i64 (s : Int))) (Nat.le_refl _) (.int .i64 (E : Int))) (Nat.le_refl _) (.int .i64 (X : Int)))
  have r0 : (_ : Option Value) = some (.int .i64 (b : Int)) := P.cell 0 (by simp)
  have r1 : (_ : Option Value) = some (.int .i64 (s : Int)) := P.cell 1 (by simp)
  have r2 : (_ : Option Value) = some (.int .i64 (E : Int)) := P.cell 2 (by simp)
  have r3 : (_ : Option Value) = some (.int .i64 (X : Int)) := P.cell 3 (by simp)
  clear hE hc2 hED hc2b hE32
  go_enter Tryd.func52, Tryd.ntmps52
  go_wp2_with (go_at_call 62; refine (hcA _).mono ?_; rintro e w9 ⟨rfl, rfl⟩)
  first
    | exact bodyPost_ret (v := .agg #[.int .i64 (b : Int), .int .i64 (s : Int), .int .i64 (E : Int), .int .i64 (X : Int)]) (by simp [results, Tryd.results52, go_sem, r0, r1, r2, r3]) rfl ⟨rfl, hBq⟩
    | exact bodyPost_ret (v := .agg #[.int .i64 (b : Int), .int .i64 (s : Int), .int .i64 (E : Int), .int .i64 (X : Int)]) (by simp [results, Tryd.results52, go_sem]) rfl ⟨rfl, (by with_reducible repeat (first | exact Below.refl _ _ | assumption | refine below_step ?_ (by assumption) | refine Below.drew ?_ | refine below_drewN ?_ _ | refine below_alloc ?_ _ | refine Below.setCell ?_ (by simp; try omega) _))⟩
set_option maxRecDepth 100000 in
set_option maxHeartbeats 1000000 in
theorem l17Head_any (b s : Nat) (w : World) (hb : b ≤ 128) (h8 : 8 ≤ s) (hs : s ≤ 32) :
    Calls Tryd.prog 46 #[.int .i64 (b : Int), .int .i64 (s : Int)] w fun e w' => e = .returned (.string (exS b s)) ∧ Below w.heap.size w w' := by
  have HX := Lib.hid (exS_row b s h8)
  obtain ⟨E, hE⟩ : ∃ E, b / 4 = E := ⟨_, rfl⟩
  have hE32 : E ≤ 32 := by omega
  have hdv : (b : Int) / 4 = (E : Int) := by omega
  have hdt : (b : Int).tdiv 4 = (E : Int) := by rw [← hE]; rfl
  rw [hE] at HX
  have hmk := fun W => eltB.make s (by omega) (by omega) W
  simp only [Nat.mul_one, show (Value.int .u8 0).cells = #[Value.int .u8 0] from rfl] at hmk
  have b1 : IntKind.u8.wrap (b : Int) = (b : Int) := IntWalk.u8_in _ (by omega)
  have b2 : IntKind.u8.wrap (s : Int) = (s : Int) := IntWalk.u8_in _ (by omega)
  have b3 : IntKind.u8.wrap (E : Int) = (E : Int) := IntWalk.u8_in _ (by omega)
  have aE : IntKind.i64.wrap (E : Int) = (E : Int) := i_nat _ (by omega)
  have n1 : ((UInt8.ofNat b).toNat : Int) = (b : Int) := by rw [UInt8.toNat_ofNat']; omega
  have n2 : ((UInt8.ofNat s).toNat : Int) = (s : Int) := by rw [UInt8.toNat_ofNat']; omega
  have n3 : ((UInt8.ofNat E).toNat : Int) = (E : Int) := by rw [UInt8.toNat_ofNat']; omega
  have j0 : (0 : Int) < (s : Int) := by omega
  have j1 : (1 : Int) < (s : Int) := by omega
  have j2 : (2 : Int) < (s : Int) := by omega
  have j3 : (3 : Int) < (s : Int) := by omega
  have j4 : (4 : Int) < (s : Int) := by omega
  have ho := OwnB.lit (e := 5) (base := w.heap.size) w (List.replicate s (0 : UInt8)) (madeCells #[Value.int .u8 0] s) (made_bytes s) (Nat.le_refl _) (by simp [maxLen]; omega)
  rw [List.length_replicate] at ho
  have hB : BB w (w.alloc (.cells (madeCells #[Value.int .u8 0] s) 5)) := (show Below w.heap.size w (w.alloc (.cells (madeCells #[Value.int .u8 0] s) 5)) from (by with_reducible repeat (first | exact Below.refl _ _ | assumption | refine below_step ?_ (by assumption) | refine Below.drew ?_ | refine below_drewN ?_ _ | refine below_alloc ?_ _ | refine Below.setCell ?_ (by simp; try omega) _)))
  go_enter Tryd.func46, Tryd.ntmps46
  go_upto_region 2 with fail
  clear hmk
  generalize w.alloc (.cells (madeCells #[Value.int .u8 0] s) 5) = w1 at *
  generalize hG : w.heap.size = G at ho ⊢
  have hle : w.heap.size ≤ G := Nat.le_of_eq hG
  have HG := Lib.hid hG
  clear hG
  have h1 : OO w1 G 5 1 (.slice (some ⟨G, 0, none⟩) s s) s (bcells (List.replicate s (0 : UInt8))) := by
    have := ho
    unfold OwnB at this
    rwa [List.length_replicate] at this
  clear ho
  obtain ⟨u0, hu0⟩ := own_some (OOf h1) 0 (by omega)
  have hz0 := World.ownsRow.frozenAt (OOf h1) 0
  have h2 : OO _ _ _ _ _ _ _ := (World.ownsRow.stored (OOf h1) 0 (.int .u8 69)).1
  obtain ⟨u1, hu1⟩ := own_some (OOf h2) 1 (by omega)
  have hz1 := World.ownsRow.frozenAt (OOf h2) 1
  have h3 : OO _ _ _ _ _ _ _ := (World.ownsRow.stored (OOf h2) 1 (.int .u8 88)).1
  obtain ⟨u2, hu2⟩ := own_some (OOf h3) 2 (by omega)
  have hz2 := World.ownsRow.frozenAt (OOf h3) 2
  have h4 : OO _ _ _ _ _ _ _ := (World.ownsRow.stored (OOf h3) 2 (.int .u8 (b : Int))).1
  obtain ⟨u3, hu3⟩ := own_some (OOf h4) 3 (by omega)
  have hz3 := World.ownsRow.frozenAt (OOf h4) 3
  have h5 : OO _ _ _ _ _ _ _ := (World.ownsRow.stored (OOf h4) 3 (.int .u8 (s : Int))).1
  obtain ⟨u4, hu4⟩ := own_some (OOf h5) 4 (by omega)
  have hz4 := World.ownsRow.frozenAt (OOf h5) 4
  have h6 : OO _ _ _ _ _ _ _ := (World.ownsRow.stored (OOf h5) 4 (.int .u8 (E : Int))).1
  have e5 : (((((bcells (List.replicate s (0 : UInt8))).set 0 (.int .u8 69)).set 1 (.int .u8 88)).set 2 (.int .u8 (b : Int))).set 3 (.int .u8 (s : Int))).set 4 (.int .u8 (E : Int)) = bcells ((((((List.replicate s (0 : UInt8)).set 0 69).set 1 88).set 2 (UInt8.ofNat b)).set 3 (UInt8.ofNat s)).set 4 (UInt8.ofNat E)) := by
    rw [← n1, ← n2, ← n3, show (Value.int .u8 69) = .int .u8 ((69 : UInt8).toNat : Int) from rfl, show (Value.int .u8 88) = .int .u8 ((88 : UInt8).toNat : Int) from rfl, bcells_set, bcells_set, bcells_set, bcells_set, bcells_set]
  have h6' : OwnB (((((w1.setCell ⟨G, 0, none⟩ (.int .u8 69)).setCell ⟨G, 1, none⟩ (.int .u8 88)).setCell ⟨G, 2, none⟩ (.int .u8 (b : Int))).setCell ⟨G, 3, none⟩ (.int .u8 (s : Int))).setCell ⟨G, 4, none⟩ (.int .u8 (E : Int))) G 5 (.slice (some ⟨G, 0, none⟩) s s) ((((((List.replicate s (0 : UInt8)).set 0 69).set 1 88).set 2 (UInt8.ofNat b)).set 3 (UInt8.ofNat s)).set 4 (UInt8.ofNat E)) := by
    unfold OwnB
    rw [← e5, show (((((((List.replicate s (0 : UInt8)).set 0 69).set 1 88).set 2 (UInt8.ofNat b)).set 3 (UInt8.ofNat s)).set 4 (UInt8.ofNat E))).length = s by simp]
    exact h6
  have hcv := run_b2s (P := Tryd.prog) (dst := 9) Tryd.underlying41 Tryd.underlying5 Tryd.underlying9 h6'
  rw [HX.out] at hcv
  have hBq := (BB.put (a := ⟨G, 4, none⟩) (BB.put (a := ⟨G, 3, none⟩) (BB.put (a := ⟨G, 2, none⟩) (BB.put (a := ⟨G, 1, none⟩) (BB.put (a := ⟨G, 0, none⟩) hB hle (.int .u8 69)) hle (.int .u8 88)) hle (.int .u8 (b : Int))) hle (.int .u8 (s : Int))) hle (.int .u8 (E : Int)))
  clear n1 n2 n3 e5 h6 h6' hB hE hE32
  go_wp2
  go_ret
  exact ⟨rfl, by have h9 := hBq; unfold BB at h9; rwa [HG.out] at h9⟩
end Go.Proofs.YtbobehieaaaleaaDoor
namespace Go.Proofs.YtbobehieaaaleaaDoor
set_option linter.unusedVariables false
open Go.RowKit

theorem ex_1 {l : List ByteArray} (h : blkB l = false) : exB l = false := by simp [exB, h]
theorem ex_2 {l : List ByteArray} {b0 H : ByteArray} {s : Nat} (hh : l.headD ⟨#[]⟩ = b0) (hs : s0 l = s) (hH : exS l.length s = H) (hb : blkB l = true) : exB l = decide (b0 = H) := by rw [exB, hb, hh, hs, hH, Bool.true_and]
set_option maxRecDepth 100000 in
set_option maxHeartbeats 2000000 in
theorem openExtents_any (A : Option Addr) (cp : Nat) (l : List ByteArray) (w : World) (h : Rd w w.heap.size 1 A l.length (flat fS l)) (hn : l.length ≤ 1048576) (hcp : l.length ≤ cp)
    (HDR : ∀ (b s : Nat) (x : Int) (w : World) (_ : b ≤ 128) (_ : 8 ≤ s) (_ : s ≤ 32), Calls Tryd.prog 53 #[.agg #[.int .i64 (b : Int), .int .i64 (s : Int), .int .i64 (b / 4 : Nat), .int .i64 x]] w fun e w' => e = .returned (.string (exS b s)) ∧ Below w.heap.size w w') :
    Calls Tryd.prog 25 #[.slice A l.length cp] w fun e w' => ∃ pv, e = .returned (.tuple #[pv, .bool (exB l)]) ∧ Below w.heap.size w w' ∧ (exB l = true → ∃ (g : Nat) (a : Option Addr) (c : Nat), pv = .pointer (some ⟨g, 0, none⟩) ∧ CP w' g [.int .i64 (l.length : Int), .int .i64 (s0 l : Int), .int .i64 (l.length / 4 : Nat), .int .i64 (exD l.length (s0 l) : Int), .slice a (jn l).length c] ∧ Rd w' w'.heap.size 1 a (jn l).length (bcells (jn l)) ∧ (jn l).length ≤ c) ∧ (exB l = false → pv = .pointer none) := by
  have hib := isBlocks_any A cp l w h hn
  cases hbk : blkB l
  · rw [hbk] at hib
    have HR := Lib.hid (ex_1 hbk)
    clear hbk
    go_enter Tryd.func25, Tryd.ntmps25
    go_wp2_with (go_at_call 35; refine hib.mono ?_; rintro e w9 ⟨rfl, rfl⟩)
    (try simp only [Exit.inBlock, Exit.then]); refine bodyPost_ret (results_tmp2 rfl _ _ _) rfl ?_
    exact ⟨.pointer none, by rw [HR.out]; rfl, Below.refl _ _, fun e => absurd (HR.out.symm.trans e) (by decide), fun _ => rfl⟩
  rw [hbk] at hib
  obtain ⟨n8, n128, s3, hall⟩ := blk_yes hbk
  have hpos : 0 < l.length := by omega
  have hposi : (0 : Int) < (l.length : Int) := by omega
  obtain ⟨b, off, rfl, hbb, hc⟩ := h.at_ fS_len rfl 0 hpos
  have hc0 := hc 0 _ (by omega) rfl
  clear hc
  simp only [Nat.zero_mul, Nat.add_zero] at hc0
  obtain ⟨b0, hb0⟩ : ∃ x, l[0] = x := ⟨_, rfl⟩
  have hs0 : s0 l = b0.size := by rw [s0_eq hpos, hb0]
  have hhd : l.headD ⟨#[]⟩ = b0 := by rw [head_eq hpos, hb0]
  rw [hb0] at hc0
  rw [hs0] at s3 hall ⊢
  clear hb0
  have h6 : 8 ≤ b0.size := by omega
  have h32 : b0.size ≤ 32 := by omega
  have hlay := fun W => extentLayout_any l.length b0.size W n128 (by omega) h32
  have hdr := fun (x : Int) W => HDR l.length b0.size x W n128 h6 h32
  have HJ := Lib.hid (show Lib.join (l.map (·.data.toList)) (⟨#[]⟩ : ByteArray).data.toList = jn l from join_nil l)
  have hjl : (jn l).length ≤ 4096 := by
    rw [jn_len l b0.size hall]
    have := Nat.mul_le_mul n128 h32
    omega
  obtain ⟨H, hH⟩ : ∃ H, exS l.length b0.size = H := ⟨_, rfl⟩
  have HDB := Lib.hid (ex_2 hhd hs0 hH hbk)
  rw [hH] at hdr
  clear hbk hhd hs0 hall s3 hH HDR
  generalize l.length / 4 = E at *
  generalize exD l.length b0.size = X at *
  have hsz := fun W => size_string_any (some ⟨b, off, none⟩) l.length cp W
  go_enter Tryd.func25, Tryd.ntmps25
  go_upto_region 3 with (go_at_call 35; refine hib.mono ?_; rintro e w9 ⟨rfl, rfl⟩)
  clear hib
  go_cut [4] (fun p wx => ∃ (g : Nat), p = .pointer (some ⟨g, 0, none⟩) ∧ BB w wx ∧ CP wx g [.int .i64 (l.length : Int), .int .i64 (b0.size : Int), .int .i64 (E : Int), .int .i64 (X : Int)])
  case first =>
    have hB := BB.start w
    have s_B := hB.dr
    have t_B := fun (o : Obj) => (BB.al hB o).dr
    have s_0 : (_ : Option Value) = some (.string b0) := (hB.dr).cell hbb |>.trans hc0
    have t_0 := fun (o : Obj) => (show (_ : Option Value) = some (.string b0) from ((BB.al hB o).dr).cell hbb |>.trans hc0)
    go_region_held3 (fun W => BB w W ∧ W.cell? ⟨b, off, none⟩ = some (.string b0)) (refine ⟨?_, ?_⟩ <;> first | with_reducible assumption | with_reducible exact t_B _ | with_reducible exact t_0 _) (first
      | (go_at_call 37; refine (hsz _).mono ?_; rintro e w9 ⟨rfl, rfl⟩)
      | (go_at_call 52; have con := hlay w.drew; (with_reducible refine con.mono ?_); clear con; rintro e w3 ⟨rfl, hx3⟩; clear s_B t_B s_0 t_0; replace hB : BB w _ := BB.next (hB.dr) hx3; have s_B := hB; have t_B := fun (o : Obj) => BB.al hB o; have s_0 : (_ : Option Value) = some (.string b0) := (hB).cell hbb |>.trans hc0; have t_0 := fun (o : Obj) => (show (_ : Option Value) = some (.string b0) from (BB.al hB o).cell hbb |>.trans hc0))
      | (go_at_call 52; have con := fun (o : Obj) => hlay (w.alloc o).drew; (with_reducible refine (con _).mono ?_); clear con; rintro e w3 ⟨rfl, hx3⟩; clear s_B t_B s_0 t_0; have F : BX ((w.alloc (.cells #[.int .i64 0, .int .i64 0, .int .i64 0, .int .i64 0] 52)).drew) w.heap.size 52 [.int .i64 0, .int .i64 0, .int .i64 0, .int .i64 0] := BX.made w 52 [.int .i64 0, .int .i64 0, .int .i64 0, .int .i64 0]; replace F := F.below hx3 (by simp); replace hB : BB w _ := BB.next ((BB.al hB _).dr) hx3; have s_B := hB; have t_B := fun (o : Obj) => BB.al hB o; have s_0 : (_ : Option Value) = some (.string b0) := (hB).cell hbb |>.trans hc0; have t_0 := fun (o : Obj) => (show (_ : Option Value) = some (.string b0) from (BB.al hB o).cell hbb |>.trans hc0); have z_0 : (_ : Option Value) = some (.int .i64 0) := F.cell 0 (by simp); have z_1 : (_ : Option Value) = some (.int .i64 0) := F.cell 1 (by simp); have z_2 : (_ : Option Value) = some (.int .i64 0) := F.cell 2 (by simp); have z_3 : (_ : Option Value) = some (.int .i64 0) := F.cell 3 (by simp); have hfz := fun j => F.free j; have P8 := ((((F.put 0 (.int .i64 (l.length : Int))).put 1 (.int .i64 (b0.size : Int))).put 2 (.int .i64 (E : Int))).put 3 (.int .i64 (X : Int))); have hBq := ((((hB.put (a := ⟨w.heap.size, 0, none⟩) (Nat.le_refl _) (.int .i64 (l.length : Int))).put (a := ⟨w.heap.size, 1, none⟩) (Nat.le_refl _) (.int .i64 (b0.size : Int))).put (a := ⟨w.heap.size, 2, none⟩) (Nat.le_refl _) (.int .i64 (E : Int))).put (a := ⟨w.heap.size, 3, none⟩) (Nat.le_refl _) (.int .i64 (X : Int))); have u_0 : (_ : Option Value) = some (.string b0) := (Below.cell hBq hbb).trans hc0; have mf := True.intro))
    all_goals
      go_wp2_with fail
      go_meet
      first
        | (have := mf; exact ⟨w.heap.size, rfl, hBq, BX.cp P8⟩)
        | exact ⟨w3.heap.size, rfl, hB.al _, CP.made w3 [.int .i64 (l.length : Int), .int .i64 (b0.size : Int), .int .i64 (E : Int), .int .i64 (X : Int)] 52⟩
  case rest =>
    obtain ⟨g, rfl, hB, D0⟩ := hcut
    have k0 := gw_cell (show wc.cell? ⟨b, off, none⟩ = some (.string b0) from (hB.cell hbb).trans hc0)
    have k1 := gw_cell (show wc.cell? ⟨g, 0, none⟩ = some (.int .i64 (l.length : Int)) from D0 0 (by simp))
    have k2 := gw_cell (show wc.cell? ⟨g, 1, none⟩ = some (.int .i64 (b0.size : Int)) from D0 1 (by simp))
    have k3 := gw_cell (show wc.cell? ⟨g, 2, none⟩ = some (.int .i64 (E : Int)) from D0 2 (by simp))
    have k4 := gw_cell (show wc.cell? ⟨g, 3, none⟩ = some (.int .i64 (X : Int)) from D0 3 (by simp))
    have hq := fun (p' : Regrown) => qb_below p' (hdr (X : Int) (Sort.grow (redrawn wc p'.d) p'.os))
    go_wp2_with fail
    refine wp_region_quiet_below (by kernel_rfl) (by kernel_rfl) ?_
    repeat (go_big_quiet_step ((first | with_reducible exact hq _)))
    refine wpQuiet_nil ?_
    intro _ hw'
    obtain ⟨pq, hw''⟩ := hw'
    subst hw''
    have hb6 := gw_below wc pq
    generalize Sort.grow (redrawn wc pq.d) pq.os = w6 at hb6 ⊢
    clear hq k0 k1 k2 k3 k4 hdr hlay hsz
    replace D0 := D0.next hb6
    replace hB : BB w _ := BB.next hB hb6
    cases hh : (b0.toList == H.toList)
    · have hhn : (b0.toList != H.toList) = true := by rw [bne, hh]; rfl
      have HR := Lib.hid (HDB.out.trans ((str_eq b0 H).symm.trans hh))
      clear hh
      go_wp2
      (try simp only [Exit.inBlock, Exit.then]); refine bodyPost_ret (results_tmp2 rfl _ _ _) rfl ?_
      exact ⟨.pointer none, by rw [HR.out]; rfl, hB, fun e => absurd (HR.out.symm.trans e) (by decide), fun _ => rfl⟩
    have hhn : (b0.toList != H.toList) = false := by rw [bne, hh]; rfl
    have HR := Lib.hid (HDB.out.trans ((str_eq b0 H).symm.trans hh))
    clear hh
    have hbk2 : b < w6.heap.size := Nat.lt_of_lt_of_le hbb (Below.size hB)
    have hcl : ∀ (j : Nat) (x : ByteArray), l[j]? = some x → w6.drew.cell? ⟨b, off + j, none⟩ = some (.string x) := by
      intro j x hx
      obtain ⟨hj, rfl⟩ := List.getElem?_eq_some_iff.1 hx
      obtain ⟨b', off', he, hb', hc⟩ := h.at_ fS_len rfl j hj
      cases he
      have h1 := hc 0 _ (by omega) rfl
      simp only [Nat.mul_one, Nat.add_zero] at h1
      exact (Below.cell (BB.dr hB) (p := ⟨b, off + j, none⟩) hbb).trans h1
    have con : Calls Tryd.prog 39 #[.slice (some ⟨b, off, none⟩) l.length cp, .string ⟨#[]⟩] w6.drew fun e w' => e = .returned (.string ⟨(jn l).toArray⟩) ∧ Below w6.drew.heap.size w6.drew w' := by
      rw [← HJ.out]
      exact Tryd.strings_Join b off cp l ⟨#[]⟩ w6.drew hcl hbk2 (by omega) hcp (by rw [HJ.out]; omega)
    have hJd : (⟨(jn l).toArray⟩ : ByteArray).data.toList = jn l := rfl
    generalize (⟨(jn l).toArray⟩ : ByteArray) = J at con hJd
    have hJs : J.size = (jn l).length := by rw [← hJd, Array.length_toList]; rfl
    have HJD := Lib.hid hJd
    have hJb : J.size ≤ 4096 := by omega
    have HJS := Lib.hid hJs
    clear hJd hJs hcl
    have hcv := fun (W : World) => run_bytes_of_string (P := Tryd.prog) W 9 41 5 J Tryd.underlying9 Tryd.underlying41 Tryd.underlying5
    go_wp2_with fail
    have s_0 : (_ : Option Value) = some (.int .i64 (l.length : Int)) := (D0.dr) 0 (by simp)
    have s_1 : (_ : Option Value) = some (.int .i64 (b0.size : Int)) := (D0.dr) 1 (by simp)
    have s_2 : (_ : Option Value) = some (.int .i64 (E : Int)) := (D0.dr) 2 (by simp)
    have s_3 : (_ : Option Value) = some (.int .i64 (X : Int)) := (D0.dr) 3 (by simp)
    have t_0 := fun (o : Obj) => (show (_ : Option Value) = some (.int .i64 (l.length : Int)) from ((CP.al D0 o).dr) 0 (by simp))
    have t_1 := fun (o : Obj) => (show (_ : Option Value) = some (.int .i64 (b0.size : Int)) from ((CP.al D0 o).dr) 1 (by simp))
    have t_2 := fun (o : Obj) => (show (_ : Option Value) = some (.int .i64 (E : Int)) from ((CP.al D0 o).dr) 2 (by simp))
    have t_3 := fun (o : Obj) => (show (_ : Option Value) = some (.int .i64 (X : Int)) from ((CP.al D0 o).dr) 3 (by simp))
    have u_0 := fun (o o2 : Obj) => (show (_ : Option Value) = some (.int .i64 (l.length : Int)) from ((CP.al (CP.al D0 o) o2).dr) 0 (by simp))
    have u_1 := fun (o o2 : Obj) => (show (_ : Option Value) = some (.int .i64 (b0.size : Int)) from ((CP.al (CP.al D0 o) o2).dr) 1 (by simp))
    have u_2 := fun (o o2 : Obj) => (show (_ : Option Value) = some (.int .i64 (E : Int)) from ((CP.al (CP.al D0 o) o2).dr) 2 (by simp))
    have u_3 := fun (o o2 : Obj) => (show (_ : Option Value) = some (.int .i64 (X : Int)) from ((CP.al (CP.al D0 o) o2).dr) 3 (by simp))
    go_region_law (go_simp; (go_at_call 39; refine con.mono ?_; rintro e w7 ⟨rfl, hx7⟩; clear s_0 t_0 u_0 s_1 t_1 u_1 s_2 t_2 u_2 s_3 t_3 u_3; replace D0 := D0.dr.next hx7; replace hB : BB w _ := BB.next (BB.dr hB) hx7; have s_0 : (_ : Option Value) = some (.int .i64 (l.length : Int)) := (D0.dr) 0 (by simp); have s_1 : (_ : Option Value) = some (.int .i64 (b0.size : Int)) := (D0.dr) 1 (by simp); have s_2 : (_ : Option Value) = some (.int .i64 (E : Int)) := (D0.dr) 2 (by simp); have s_3 : (_ : Option Value) = some (.int .i64 (X : Int)) := (D0.dr) 3 (by simp); have t_0 := fun (o : Obj) => (show (_ : Option Value) = some (.int .i64 (l.length : Int)) from ((CP.al D0 o).dr) 0 (by simp)); have t_1 := fun (o : Obj) => (show (_ : Option Value) = some (.int .i64 (b0.size : Int)) from ((CP.al D0 o).dr) 1 (by simp)); have t_2 := fun (o : Obj) => (show (_ : Option Value) = some (.int .i64 (E : Int)) from ((CP.al D0 o).dr) 2 (by simp)); have t_3 := fun (o : Obj) => (show (_ : Option Value) = some (.int .i64 (X : Int)) from ((CP.al D0 o).dr) 3 (by simp)); have u_0 := fun (o o2 : Obj) => (show (_ : Option Value) = some (.int .i64 (l.length : Int)) from ((CP.al (CP.al D0 o) o2).dr) 0 (by simp)); have u_1 := fun (o o2 : Obj) => (show (_ : Option Value) = some (.int .i64 (b0.size : Int)) from ((CP.al (CP.al D0 o) o2).dr) 1 (by simp)); have u_2 := fun (o o2 : Obj) => (show (_ : Option Value) = some (.int .i64 (E : Int)) from ((CP.al (CP.al D0 o) o2).dr) 2 (by simp)); have u_3 := fun (o o2 : Obj) => (show (_ : Option Value) = some (.int .i64 (X : Int)) from ((CP.al (CP.al D0 o) o2).dr) 3 (by simp)); have v_0 : (_ : Option Value) = some (.int .i64 (l.length : Int)) := D0 0 (by simp); have v_1 : (_ : Option Value) = some (.int .i64 (b0.size : Int)) := D0 1 (by simp); have v_2 : (_ : Option Value) = some (.int .i64 (E : Int)) := D0 2 (by simp); have v_3 : (_ : Option Value) = some (.int .i64 (X : Int)) := D0 3 (by simp)))
    all_goals
      go_wp2
      (try simp only [Exit.inBlock, Exit.then]); refine bodyPost_ret (results_tmp2 rfl _ _ _) rfl ?_
      have hBw : Below w.heap.size w w7 := hB
      have hmk := MarkB.made (e := 5) w7 J (grownCap w7 J.size 0 5)
      have hlt := hmk.lt
      refine ⟨.pointer (some ⟨w7.heap.size + 1, 0, none⟩), by rw [HR.out]; rfl, ?_, fun _ => ⟨w7.heap.size + 1, some ⟨w7.heap.size, 0, none⟩, grownCap w7 J.size 0 5, rfl, ?_, ?_, by rw [← HJS.out]; exact grownCap_ge w7 J.size 0 5⟩, fun e => absurd (HR.out.symm.trans e) (by decide)⟩
      · exact (by with_reducible repeat (first | exact Below.refl _ _ | assumption | refine below_step ?_ (by assumption) | refine Below.drew ?_ | refine below_drewN ?_ _ | refine below_alloc ?_ _ | refine Below.setCell ?_ (by simp; try omega) _))
      · rw [← HJS.out]
        have hcp := CP.made (w7.alloc (.cells (bytesRow J (grownCap w7 J.size 0 5)) 5 ((bytesRow J (grownCap w7 J.size 0 5)).size, (bytesRow J (grownCap w7 J.size 0 5)).size + 1))) [.int .i64 (l.length : Int), .int .i64 (b0.size : Int), .int .i64 (E : Int), .int .i64 (X : Int), .slice (some ⟨w7.heap.size, 0, none⟩) J.size (grownCap w7 J.size 0 5)] 95
        rw [World.size_alloc] at hcp
        exact hcp.dr
      · have hrd := Rd.of_mark ((hmk.below (below_alloc (Below.refl (w7.alloc (.cells (bytesRow J (grownCap w7 J.size 0 5)) 5 ((bytesRow J (grownCap w7 J.size 0 5)).size, (bytesRow J (grownCap w7 J.size 0 5)).size + 1))).heap.size _) (.cells #[.int .i64 (l.length : Int), .int .i64 (b0.size : Int), .int .i64 (E : Int), .int .i64 (X : Int), .slice (some ⟨w7.heap.size, 0, none⟩) J.size (grownCap w7 J.size 0 5)] 95)) hlt))
        rw [HJD.out] at hrd
        exact hrd
end Go.Proofs.YtbobehieaaaleaaDoor
namespace Go.Proofs.YtbobehieaaaleaaDoor
set_option linter.unusedVariables false
open Go.RowKit

theorem ex_3 {l : List ByteArray} {s : Nat} (hs : s0 l = s) (h : oneOf s = false) : exB l = false := ex_1 (blk_2 (by rw [hs]; exact h))
set_option maxRecDepth 100000 in
set_option maxHeartbeats 2000000 in
theorem l17On_any (A : Option Addr) (cp : Nat) (l : List ByteArray) (w : World) (h : Rd w w.heap.size 1 A l.length (flat fS l)) (hn : l.length ≤ 1048576) :
    Calls Tryd.prog 21 #[.slice A l.length cp] w fun e w' => e = .returned (.tuple #[.agg #[.int .i64 (loN (exB l) (l.length)), .int .i64 (loN (exB l) (s0 l)), .int .i64 (loN (exB l) (l.length / 4)), .int .i64 (loN (exB l) (exD l.length (s0 l)))], .bool (exB l)]) ∧ Below w.heap.size w w' := by
  have F := BX.made w 52 [.int .i64 0, .int .i64 0, .int .i64 0, .int .i64 0]
  have hB : BB w (w.alloc (.cells #[.int .i64 0, .int .i64 0, .int .i64 0, .int .i64 0] 52)) := (show Below w.heap.size w (w.alloc (.cells #[.int .i64 0, .int .i64 0, .int .i64 0, .int .i64 0] 52)) from (by with_reducible repeat (first | exact Below.refl _ _ | assumption | refine below_step ?_ (by assumption) | refine Below.drew ?_ | refine below_drewN ?_ _ | refine below_alloc ?_ _ | refine Below.setCell ?_ (by simp; try omega) _)))
  have hwi := fun W => l00In_any (l.length : Int) 8 128 W
  have z0 : (_ : Option Value) = some (.int .i64 0) := F.cell 0 (by simp)
  have z1 : (_ : Option Value) = some (.int .i64 0) := F.cell 1 (by simp)
  have z2 : (_ : Option Value) = some (.int .i64 0) := F.cell 2 (by simp)
  have z3 : (_ : Option Value) = some (.int .i64 0) := F.cell 3 (by simp)
  have hfz := fun j => F.free j
  cases hin : inB (l.length : Int) 8 128
  · have HR := Lib.hid (ex_1 (blk_1 hin))
    rw [hin] at hwi
    clear hin
    go_enter Tryd.func21, Tryd.ntmps21
    go_wp2_with (go_at_call 16; refine (hwi _).mono ?_; rintro e w9 ⟨rfl, rfl⟩)
    refine bodyPost_ret (v := .tuple #[.agg #[.int .i64 0, .int .i64 0, .int .i64 0, .int .i64 0], .bool false]) (by simp [results, Tryd.results21, go_sem, z0, z1, z2, z3]) rfl ⟨by rw [HR.out]; rfl, ?_⟩
    exact (by with_reducible repeat (first | exact Below.refl _ _ | assumption | refine below_step ?_ (by assumption) | refine Below.drew ?_ | refine below_drewN ?_ _ | refine below_alloc ?_ _ | refine Below.setCell ?_ (by simp; try omega) _))
  obtain ⟨n8, n128⟩ := inB_yes hin
  have hpos : 0 < l.length := by omega
  have hposi : (0 : Int) < (l.length : Int) := by omega
  have hn128 : l.length ≤ 128 := by omega
  rw [hin] at hwi
  obtain ⟨b, off, rfl, hbb, hc⟩ := h.at_ fS_len rfl 0 hpos
  have hc0 := hc 0 _ (by omega) rfl
  clear hc
  simp only [Nat.zero_mul, Nat.add_zero] at hc0
  obtain ⟨b0, hb0⟩ : ∃ x, l[0] = x := ⟨_, rfl⟩
  have hs0 : s0 l = b0.size := by rw [s0_eq hpos, hb0]
  have hhd : l.headD ⟨#[]⟩ = b0 := by rw [head_eq hpos, hb0]
  rw [hb0] at hc0
  rw [hs0]
  clear hb0 n8 n128
  have c0 := (hB.cell (p := ⟨b, off, none⟩) hbb).trans hc0
  have hsz := fun W => l17Size_any b0.size W
  cases hS : oneOf b0.size
  · have HR := Lib.hid (ex_3 hs0 hS)
    rw [hS] at hsz
    clear hin hS
    go_enter Tryd.func21, Tryd.ntmps21
    go_wp2_with (first | (go_at_call 45; refine (hsz _).mono ?_; rintro e w9 ⟨rfl, rfl⟩) | (go_at_call 16; refine (hwi _).mono ?_; rintro e w9 ⟨rfl, rfl⟩))
    refine bodyPost_ret (v := .tuple #[.agg #[.int .i64 0, .int .i64 0, .int .i64 0, .int .i64 0], .bool false]) (by simp [results, Tryd.results21, go_sem, z0, z1, z2, z3]) rfl ⟨by rw [HR.out]; rfl, ?_⟩
    exact (by with_reducible repeat (first | exact Below.refl _ _ | assumption | refine below_step ?_ (by assumption) | refine Below.drew ?_ | refine below_drewN ?_ _ | refine below_alloc ?_ _ | refine Below.setCell ?_ (by simp; try omega) _))
  rw [hS] at hsz
  have s3 := oneOf_yes hS
  have h8 : 8 ≤ b0.size := by omega
  have h32 : b0.size ≤ 32 := by omega
  have HS := Lib.hid (show (inB (l.length : Int) 8 128 && oneOf b0.size) = true by rw [hin, hS]; rfl)
  clear hin hS s3
  have hdr := fun W => l17Head_any l.length b0.size W hn128 h8 h32
  have hda := fun W => l17Data_any l.length b0.size W hn128 (by omega) h32
  obtain ⟨H, hH⟩ : ∃ H, exS l.length b0.size = H := ⟨_, rfl⟩
  rw [hH] at hdr
  have HDB := Lib.hid (fun hb => ex_2 hhd hs0 hH hb)
  have HS0 := Lib.hid hs0
  clear hH hs0 hhd
  obtain ⟨E, hE⟩ : ∃ E, l.length / 4 = E := ⟨_, rfl⟩
  have hdv : (l.length : Int) / 4 = (E : Int) := by omega
  have hdt : (l.length : Int).tdiv 4 = (E : Int) := by rw [← hE]; rfl
  have aE : IntKind.i64.wrap (E : Int) = (E : Int) := i_nat _ (by omega)
  rw [hE]
  clear hE
  generalize exD l.length b0.size = X at *
  go_enter Tryd.func21, Tryd.ntmps21
  go_wp2_with (first | (go_at_call 45; refine (hsz _).mono ?_; rintro e w9 ⟨rfl, rfl⟩) | (go_at_call 16; refine (hwi _).mono ?_; rintro e w9 ⟨rfl, rfl⟩))
  clear hsz hwi
  go_loop [6] (fun i => ∃ k : Nat, k ≤ l.length ∧ i = .int .i64 k ∧ Hid (∀ j, (hj : j < k) → (hj' : j < l.length) → l[j].size = b0.size)) (fun i => l.length - (intOf i).toNat)
  case atStart => exact ⟨0, Nat.zero_le _, rfl, Lib.hid (fun j hj => absurd hj (by omega))⟩
  case round =>
    obtain ⟨k, hk, rfl, HI⟩ := hrel
    by_cases hlt : k < l.length
    · have hlti : (k : Int) < (l.length : Int) := by omega
      obtain ⟨b', off', hbo, hbb', hc⟩ := h.at_ fS_len rfl k hlt
      cases hbo
      have hck := hc 0 _ (by omega) rfl
      clear hc
      simp only [Nat.mul_one, Nat.add_zero] at hck
      obtain ⟨bk, hbk⟩ : ∃ x, l[k] = x := ⟨_, rfl⟩
      rw [hbk] at hck
      have ck := (hB.cell (p := ⟨b, off + k, none⟩) hbb).trans hck
      by_cases hx : bk.size = b0.size
      · have HN := Lib.hid (show ∀ j, (hj : j < k + 1) → (hj' : j < l.length) → l[j].size = b0.size from fun j hj hj' => by
          by_cases he : j = k
          · subst he
            rw [hbk, hx]
          · exact HI.out j (by omega) hj')
        have hxb : ((bk.size : Int) != (b0.size : Int)) = false := by simp; omega
        clear hbk hx
        go_wp2
        go_round
        case rel => exact ⟨k + 1, by omega, by go_num, HN⟩
        case measure => simp [intOf]; omega
      · have HR := Lib.hid (ex_1 (blk_3 hlt (by rw [HS0.out, hbk]; exact hx)))
        have hxb : ((bk.size : Int) != (b0.size : Int)) = true := by simp; omega
        clear hbk hx
        go_wp2
        refine bodyPost_ret (v := .tuple #[.agg #[.int .i64 0, .int .i64 0, .int .i64 0, .int .i64 0], .bool false]) (by simp [results, Tryd.results21, go_sem, z0, z1, z2, z3]) rfl ⟨by rw [HR.out]; rfl, ?_⟩
        exact (by with_reducible repeat (first | exact Below.refl _ _ | assumption | refine below_step ?_ (by assumption) | refine Below.drew ?_ | refine below_drewN ?_ _ | refine below_alloc ?_ _ | refine Below.setCell ?_ (by simp; try omega) _))
    have hlti : ¬ (k : Int) < (l.length : Int) := by omega
    have hbk := blk_6 HS0.out HS.out (fun j hj => HI.out j (by omega) hj)
    have HDX := Lib.hid (HDB.out hbk)
    clear hbk
    go_wp2_with fail
    have F' := F
    have hB' := hB
    generalize w.alloc (.cells #[.int .i64 0, .int .i64 0, .int .i64 0, .int .i64 0] 52) = w1 at F' hB' c0 ⊢
    clear F hB z0 z1 z2 z3 hfz
    have k0 := gw_cell c0
    have hq := fun (p' : Regrown) => qb_below p' (hdr (Sort.grow (redrawn w1 p'.d) p'.os))
    refine wp_region_quiet_below (by kernel_rfl) (by kernel_rfl) ?_
    repeat (go_big_quiet_step ((first | with_reducible exact hq _)))
    refine wpQuiet_nil ?_
    intro _ hw'
    obtain ⟨pq, hw''⟩ := hw'
    subst hw''
    have hb6 := gw_below w1 pq
    generalize Sort.grow (redrawn w1 pq.d) pq.os = w6 at hb6 ⊢
    have F := F'.below hb6 F'.lt
    have hB : BB w w6 := BB.next hB' hb6
    clear hq k0 hdr F' hB' hb6
    have z0 : (_ : Option Value) = some (.int .i64 0) := F.cell 0 (by simp)
    have z1 : (_ : Option Value) = some (.int .i64 0) := F.cell 1 (by simp)
    have z2 : (_ : Option Value) = some (.int .i64 0) := F.cell 2 (by simp)
    have z3 : (_ : Option Value) = some (.int .i64 0) := F.cell 3 (by simp)
    have hfz := fun j => F.free j
    cases hh : (b0.toList == H.toList)
    · have hhn : (b0.toList != H.toList) = true := by rw [bne, hh]; rfl
      have HR := Lib.hid (HDX.out.trans ((str_eq b0 H).symm.trans hh))
      clear hh
      have hBw : Below w.heap.size w w6 := hB
      go_wp2
      refine bodyPost_ret (v := .tuple #[.agg #[.int .i64 0, .int .i64 0, .int .i64 0, .int .i64 0], .bool false]) (by simp [results, Tryd.results21, go_sem, z0, z1, z2, z3]) rfl ⟨by rw [HR.out]; rfl, ?_⟩
      exact (by with_reducible repeat (first | exact Below.refl _ _ | assumption | refine below_step ?_ (by assumption) | refine Below.drew ?_ | refine below_drewN ?_ _ | refine below_alloc ?_ _ | refine Below.setCell ?_ (by simp; try omega) _))
    have hhn : (b0.toList != H.toList) = false := by rw [bne, hh]; rfl
    have HR := Lib.hid (HDX.out.trans ((str_eq b0 H).symm.trans hh))
    clear hh
    have P := ((((F.put 0 (.int .i64 (l.length : Int))).put 1 (.int .i64 (b0.size : Int))).put 2 (.int .i64 (E : Int))).put 3 (.int .i64 (X : Int)))
    have hBq := (BB.put (a := ⟨w.heap.size, 3, none⟩) (BB.put (a := ⟨w.heap.size, 2, none⟩) (BB.put (a := ⟨w.heap.size, 1, none⟩) (BB.put (a := ⟨w.heap.size, 0, none⟩) hB (Nat.le_refl _) (.int .i64 (l.length : Int))) (Nat.le_refl _) (.int .i64 (b0.size : Int))) (Nat.le_refl _) (.int .i64 (E : Int))) (Nat.le_refl _) (.int .i64 (X : Int)))
    have r0 : (_ : Option Value) = some (.int .i64 (l.length : Int)) := P.cell 0 (by simp)
    have r1 : (_ : Option Value) = some (.int .i64 (b0.size : Int)) := P.cell 1 (by simp)
    have r2 : (_ : Option Value) = some (.int .i64 (E : Int)) := P.cell 2 (by simp)
    have r3 : (_ : Option Value) = some (.int .i64 (X : Int)) := P.cell 3 (by simp)
    go_wp2_with (go_at_call 47; refine (hda _).mono ?_; rintro e w9 ⟨rfl, rfl⟩)
    refine bodyPost_ret (v := .tuple #[.agg #[.int .i64 (l.length : Int), .int .i64 (b0.size : Int), .int .i64 (E : Int), .int .i64 (X : Int)], .bool true]) (by simp [results, Tryd.results21, go_sem, r0, r1, r2, r3]) rfl ⟨by rw [HR.out]; rfl, hBq⟩
end Go.Proofs.YtbobehieaaaleaaDoor
