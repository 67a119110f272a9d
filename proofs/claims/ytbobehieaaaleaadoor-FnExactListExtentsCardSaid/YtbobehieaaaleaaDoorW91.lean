/- Walks: the layout and the header of a disk of chains (2). -/
import Derived.Test.YtbobehieaaaleaaDoorW90
import Derived.Test.YtbobehieaaaleaaDoorPut
import Derived.Test.YtbobehieaaaleaaDoorW70
namespace Go.Proofs.YtbobehieaaaleaaDoor
open Go.RowKit
set_option linter.unusedVariables false

theorem i_nat (x : Nat) (h : x ≤ 1000000) : IntKind.i64.wrap (x : Int) = (x : Int) := IntWalk.i64_in _ (by omega)
set_option maxRecDepth 100000 in
set_option maxHeartbeats 1000000 in
theorem chainLayout_any (b s : Nat) (w : World) (hb : b ≤ 128) (h0 : 0 < s) (hs : s ≤ 32) :
    Calls Tryd.prog 36 #[.int .i64 (b : Int), .int .i64 (s : Int)] w fun e w' => e = .returned (.agg #[.int .i64 (b : Int), .int .i64 (s : Int), .int .i64 (chE b : Int), .int .i64 (chD b s : Int), .int .i64 (chX b s : Int)]) ∧ Below w.heap.size w w' := by
  obtain ⟨E, hE⟩ : ∃ E, chE b = E := ⟨_, rfl⟩
  obtain ⟨c1, hc1⟩ : ∃ c, (b + s - 1) / s = c := ⟨_, rfl⟩
  obtain ⟨c2, hc2⟩ : ∃ c, (E * 12 + s - 1) / s = c := ⟨_, rfl⟩
  have hE16 : E ≤ 16 := hE ▸ chE_le b
  have hc1b : c1 ≤ 200 := by rw [← hc1]; exact Nat.le_trans (Nat.div_le_self _ _) (by omega)
  have hc2b : c2 ≤ 300 := by rw [← hc2]; exact Nat.le_trans (Nat.div_le_self _ _) (by omega)
  have hD : chD b s = 1 + c1 := by rw [chD, hc1]
  have hX : chX b s = 1 + c1 + c2 := by rw [chX, hD, hE, hc2]
  rw [hD, hX, hE]
  have hm : min (16 : Int) ((b : Int) / 8) = (E : Int) := by rw [← hE, chE]; omega
  have w1 : IntKind.i64.wrap (1 + (c1 : Int)) = ((1 + c1 : Nat) : Int) := by rw [show 1 + (c1 : Int) = ((1 + c1 : Nat) : Int) by omega]; exact i_nat _ (by omega)
  have w2 : IntKind.i64.wrap ((E : Int) * 12) = ((E * 12 : Nat) : Int) := by rw [show (E : Int) * 12 = ((E * 12 : Nat) : Int) by omega]; exact i_nat _ (by omega)
  have w3 : IntKind.i64.wrap (((1 + c1 : Nat) : Int) + (c2 : Int)) = ((1 + c1 + c2 : Nat) : Int) := by rw [show ((1 + c1 : Nat) : Int) + (c2 : Int) = ((1 + c1 + c2 : Nat) : Int) by omega]; exact i_nat _ (by omega)
  have hcA := fun W => ceiling_any b s W (by omega) (by omega) h0
  have hcB := fun W => ceiling_any (E * 12) s W (by omega) (by omega) h0
  rw [hc1] at hcA
  rw [hc2] at hcB
  generalize 1 + c1 + c2 = X at w3 ⊢
  generalize 1 + c1 = D at w1 w3 ⊢
  generalize E * 12 = E12 at w2 hcB
  clear hE hc1 hc2 hD hX hc1b hc2b hE16
  go_enter Tryd.func36, Tryd.ntmps36
  go_upto_region 3 with (go_at_call 62; refine (hcA _).mono ?_; rintro e w9 ⟨rfl, rfl⟩)
  have F0 := (BX.made w 40 [.int .i64 0, .int .i64 0, .int .i64 0, .int .i64 0, .int .i64 0]).al (.cells #[.int .i64 (b : Int), .int .i64 (s : Int), .int .i64 (E : Int), .int .i64 (D : Int), .int .i64 0] 40)
  have F1 := BX.made1 w (.cells #[.int .i64 0, .int .i64 0, .int .i64 0, .int .i64 0, .int .i64 0] 40) 40 [.int .i64 (b : Int), .int .i64 (s : Int), .int .i64 (E : Int), .int .i64 (D : Int), .int .i64 0]
  have hB : BB w ((w.alloc (.cells #[.int .i64 0, .int .i64 0, .int .i64 0, .int .i64 0, .int .i64 0] 40)).alloc (.cells #[.int .i64 (b : Int), .int .i64 (s : Int), .int .i64 (E : Int), .int .i64 (D : Int), .int .i64 0] 40)) := (show Below w.heap.size w ((w.alloc (.cells #[.int .i64 0, .int .i64 0, .int .i64 0, .int .i64 0, .int .i64 0] 40)).alloc (.cells #[.int .i64 (b : Int), .int .i64 (s : Int), .int .i64 (E : Int), .int .i64 (D : Int), .int .i64 0] 40)) from (by with_reducible repeat (first | exact Below.refl _ _ | assumption | refine below_step ?_ (by assumption) | refine Below.drew ?_ | refine below_drewN ?_ _ | refine below_alloc ?_ _ | refine Below.setCell ?_ (by simp; try omega) _)))
  generalize (w.alloc (.cells #[.int .i64 0, .int .i64 0, .int .i64 0, .int .i64 0, .int .i64 0] 40)).alloc (.cells #[.int .i64 (b : Int), .int .i64 (s : Int), .int .i64 (E : Int), .int .i64 (D : Int), .int .i64 0] 40) = w2 at F0 F1 hB ⊢
  have f0 : (_ : Option Value) = some (.int .i64 (b : Int)) := F1.cell 0 (by simp)
  have f1 : (_ : Option Value) = some (.int .i64 (s : Int)) := F1.cell 1 (by simp)
  have f2 : (_ : Option Value) = some (.int .i64 (E : Int)) := F1.cell 2 (by simp)
  have f3 : (_ : Option Value) = some (.int .i64 (D : Int)) := F1.cell 3 (by simp)
  have f4 : (_ : Option Value) = some (.int .i64 0) := F1.cell 4 (by simp)
  refine wp_region_still_tail 8 (by kernel_rfl) (by kernel_rfl) ?_
  simp only [List.take_succ_cons, List.take_zero, List.drop_succ_cons, List.drop_zero]
  repeat (first | still_step | still_call (calls_flip (hcB _)))
  refine wpStill_nil ?_
  change wpList _ _ _ _ _ w2.drew
  replace F0 := BX.dr F0
  replace F1 := BX.dr F1
  replace hB : BB w _ := BB.dr hB
  clear f0 f1 f2 f3 f4
  generalize w2.drew = w3 at F0 F1 hB ⊢
  have z1 := fun j => F1.free j
  have z2 := fun j => F0.free j
  have f0 : (_ : Option Value) = some (.int .i64 (b : Int)) := F1.cell 0 (by simp)
  have f1 : (_ : Option Value) = some (.int .i64 (s : Int)) := F1.cell 1 (by simp)
  have f2 : (_ : Option Value) = some (.int .i64 (E : Int)) := F1.cell 2 (by simp)
  have f3 : (_ : Option Value) = some (.int .i64 (D : Int)) := F1.cell 3 (by simp)
  have f4 : (_ : Option Value) = some (.int .i64 0) := F1.cell 4 (by simp)
  have g0 : (_ : Option Value) = some (.int .i64 0) := F0.cell 0 (by simp)
  have g1 : (_ : Option Value) = some (.int .i64 0) := F0.cell 1 (by simp)
  have g2 : (_ : Option Value) = some (.int .i64 0) := F0.cell 2 (by simp)
  have g3 : (_ : Option Value) = some (.int .i64 0) := F0.cell 3 (by simp)
  have g4 : (_ : Option Value) = some (.int .i64 0) := F0.cell 4 (by simp)
  have P1 := F1.put 4 (.int .i64 (X : Int))
  have P0 := F0.far (a := ⟨w.heap.size + 1, 4, none⟩) (by simp) (.int .i64 (X : Int))
  have hBq := BB.put (a := ⟨w.heap.size + 1, 4, none⟩) hB (by simp) (.int .i64 (X : Int))
  have q0 : (_ : Option Value) = some (.int .i64 (b : Int)) := P1.cell 0 (by simp)
  have q1 : (_ : Option Value) = some (.int .i64 (s : Int)) := P1.cell 1 (by simp)
  have q2 : (_ : Option Value) = some (.int .i64 (E : Int)) := P1.cell 2 (by simp)
  have q3 : (_ : Option Value) = some (.int .i64 (D : Int)) := P1.cell 3 (by simp)
  have q4 : (_ : Option Value) = some (.int .i64 (X : Int)) := P1.cell 4 (by simp)
  have r0 : (_ : Option Value) = some (.int .i64 0) := P0.cell 0 (by simp)
  have r1 : (_ : Option Value) = some (.int .i64 0) := P0.cell 1 (by simp)
  have r2 : (_ : Option Value) = some (.int .i64 0) := P0.cell 2 (by simp)
  have r3 : (_ : Option Value) = some (.int .i64 0) := P0.cell 3 (by simp)
  have r4 : (_ : Option Value) = some (.int .i64 0) := P0.cell 4 (by simp)
  go_wp2
  refine bodyPost_ret (v := .agg #[.int .i64 (b : Int), .int .i64 (s : Int), .int .i64 (E : Int), .int .i64 (D : Int), .int .i64 (X : Int)]) (by simp [results, Tryd.results36, go_sem, World.cell?_setCell_other, r0, r1, r2, r3, r4]) rfl ⟨rfl, ?_⟩
  have hBw : Below w.heap.size w _ := hBq
  exact (by with_reducible repeat (first | exact Below.refl _ _ | assumption | refine below_step ?_ (by assumption) | refine Below.drew ?_ | refine below_drewN ?_ _ | refine below_alloc ?_ _ | refine Below.setCell ?_ (by simp; try omega) _))
set_option maxRecDepth 100000 in
set_option maxHeartbeats 1000000 in
theorem l16Sizes_any (b s : Nat) (w : World) (hb : b ≤ 128) (h0 : 0 < s) (hs : s ≤ 32) :
    Calls Tryd.prog 31 #[.int .i64 (b : Int), .int .i64 (s : Int)] w fun e w' => e = .returned (.agg #[.int .i64 (b : Int), .int .i64 (s : Int), .int .i64 (chE b : Int), .int .i64 (chD b s : Int), .int .i64 (chX b s : Int)]) ∧ Below w.heap.size w w' := by
  obtain ⟨E, hE⟩ : ∃ E, chE b = E := ⟨_, rfl⟩
  obtain ⟨c1, hc1⟩ : ∃ c, (b + s - 1) / s = c := ⟨_, rfl⟩
  obtain ⟨c2, hc2⟩ : ∃ c, (E * 12 + s - 1) / s = c := ⟨_, rfl⟩
  have hE16 : E ≤ 16 := hE ▸ chE_le b
  have hc1b : c1 ≤ 200 := by rw [← hc1]; exact Nat.le_trans (Nat.div_le_self _ _) (by omega)
  have hc2b : c2 ≤ 300 := by rw [← hc2]; exact Nat.le_trans (Nat.div_le_self _ _) (by omega)
  have hD : chD b s = 1 + c1 := by rw [chD, hc1]
  have hX : chX b s = 1 + c1 + c2 := by rw [chX, hD, hE, hc2]
  rw [hD, hX, hE]
  have hm : min (16 : Int) ((b : Int) / 8) = (E : Int) := by rw [← hE, chE]; omega
  have w1 : IntKind.i64.wrap (1 + (c1 : Int)) = ((1 + c1 : Nat) : Int) := by rw [show 1 + (c1 : Int) = ((1 + c1 : Nat) : Int) by omega]; exact i_nat _ (by omega)
  have w2 : IntKind.i64.wrap ((E : Int) * 12) = ((E * 12 : Nat) : Int) := by rw [show (E : Int) * 12 = ((E * 12 : Nat) : Int) by omega]; exact i_nat _ (by omega)
  have w3 : IntKind.i64.wrap (((1 + c1 : Nat) : Int) + (c2 : Int)) = ((1 + c1 + c2 : Nat) : Int) := by rw [show ((1 + c1 : Nat) : Int) + (c2 : Int) = ((1 + c1 + c2 : Nat) : Int) by omega]; exact i_nat _ (by omega)
  have hmi := fun W => l00Min_any 16 ((b : Int) / 8) W
  have a1 : IntKind.i64.wrap ((b : Int) + (s : Int)) = ((b + s : Nat) : Int) := by rw [show (b : Int) + (s : Int) = ((b + s : Nat) : Int) by omega]; exact i_nat _ (by omega)
  have a2 : IntKind.i64.wrap (((b + s : Nat) : Int) - 1) = ((b + s - 1 : Nat) : Int) := by rw [show ((b + s : Nat) : Int) - 1 = ((b + s - 1 : Nat) : Int) by clear a1; omega]; exact i_nat _ (by clear a1; omega)
  have a3 : IntKind.i64.wrap (((E * 12 : Nat) : Int) + (s : Int)) = ((E * 12 + s : Nat) : Int) := by rw [show ((E * 12 : Nat) : Int) + (s : Int) = ((E * 12 + s : Nat) : Int) by clear a1 a2; omega]; exact i_nat _ (by clear a1 a2; omega)
  have a4 : IntKind.i64.wrap (((E * 12 + s : Nat) : Int) - 1) = ((E * 12 + s - 1 : Nat) : Int) := by rw [show ((E * 12 + s : Nat) : Int) - 1 = ((E * 12 + s - 1 : Nat) : Int) by clear a1 a2 a3; omega]; exact i_nat _ (by clear a1 a2 a3; omega)
  have a5 := qdiv (b + s - 1) s
  have a6 := qdiv (E * 12 + s - 1) s
  have a7 : IntKind.i64.wrap (c1 : Int) = (c1 : Int) := i_nat _ (by clear a1 a2 a3 a4 a5 a6; omega)
  have a8 : IntKind.i64.wrap (c2 : Int) = (c2 : Int) := i_nat _ (by clear a1 a2 a3 a4 a5 a6; omega)
  rw [hc1] at a5
  rw [hc2] at a6
  have e0 : ¬ (s : Int) = 0 := by clear a1 a2 a3 a4 a5 a6; omega
  have e1 : ¬ s = 0 := by clear a1 a2 a3 a4 a5 a6; omega
  have e2 : ((s : Int) == 0) = false := by simp; clear a1 a2 a3 a4 a5 a6; omega
  generalize 1 + c1 + c2 = X at w3 ⊢
  generalize 1 + c1 = D at w1 w3 ⊢
  generalize b + s - 1 = T1 at a2 a5
  generalize b + s = T2 at a1 a2
  generalize E * 12 + s - 1 = T3 at a4 a6
  generalize E * 12 + s = T4 at a3 a4
  generalize E * 12 = E12 at w2 a3
  clear hE hc1 hc2 hD hX hc1b hc2b hE16
  go_enter Tryd.func31, Tryd.ntmps31
  go_upto_region 4 with (go_at_call 58; refine (hmi _).mono ?_; rintro e w9 ⟨rfl, rfl⟩)
  have F0 := (BX.made w 40 [.int .i64 0, .int .i64 0, .int .i64 0, .int .i64 0, .int .i64 0]).al (.cells #[.int .i64 (b : Int), .int .i64 (s : Int), .int .i64 (E : Int), .int .i64 (D : Int), .int .i64 0] 40)
  have F1 := BX.made1 w (.cells #[.int .i64 0, .int .i64 0, .int .i64 0, .int .i64 0, .int .i64 0] 40) 40 [.int .i64 (b : Int), .int .i64 (s : Int), .int .i64 (E : Int), .int .i64 (D : Int), .int .i64 0]
  have hB : BB w ((w.alloc (.cells #[.int .i64 0, .int .i64 0, .int .i64 0, .int .i64 0, .int .i64 0] 40)).alloc (.cells #[.int .i64 (b : Int), .int .i64 (s : Int), .int .i64 (E : Int), .int .i64 (D : Int), .int .i64 0] 40)) := (show Below w.heap.size w ((w.alloc (.cells #[.int .i64 0, .int .i64 0, .int .i64 0, .int .i64 0, .int .i64 0] 40)).alloc (.cells #[.int .i64 (b : Int), .int .i64 (s : Int), .int .i64 (E : Int), .int .i64 (D : Int), .int .i64 0] 40)) from (by with_reducible repeat (first | exact Below.refl _ _ | assumption | refine below_step ?_ (by assumption) | refine Below.drew ?_ | refine below_drewN ?_ _ | refine below_alloc ?_ _ | refine Below.setCell ?_ (by simp; try omega) _)))
  generalize (w.alloc (.cells #[.int .i64 0, .int .i64 0, .int .i64 0, .int .i64 0, .int .i64 0] 40)).alloc (.cells #[.int .i64 (b : Int), .int .i64 (s : Int), .int .i64 (E : Int), .int .i64 (D : Int), .int .i64 0] 40) = w2 at F0 F1 hB ⊢
  have f0 : (_ : Option Value) = some (.int .i64 (b : Int)) := F1.cell 0 (by simp)
  have f1 : (_ : Option Value) = some (.int .i64 (s : Int)) := F1.cell 1 (by simp)
  have f2 : (_ : Option Value) = some (.int .i64 (E : Int)) := F1.cell 2 (by simp)
  have f3 : (_ : Option Value) = some (.int .i64 (D : Int)) := F1.cell 3 (by simp)
  have f4 : (_ : Option Value) = some (.int .i64 0) := F1.cell 4 (by simp)
  refine wp_region_still_tail 11 (by kernel_rfl) (by kernel_rfl) ?_
  simp only [List.take_succ_cons, List.take_zero, List.drop_succ_cons, List.drop_zero]
  repeat (first | still_step)
  refine wpStill_nil ?_
  change wpList _ _ _ _ _ w2.drew
  replace F0 := BX.dr F0
  replace F1 := BX.dr F1
  replace hB : BB w _ := BB.dr hB
  clear f0 f1 f2 f3 f4
  generalize w2.drew = w3 at F0 F1 hB ⊢
  have z1 := fun j => F1.free j
  have z2 := fun j => F0.free j
  have f0 : (_ : Option Value) = some (.int .i64 (b : Int)) := F1.cell 0 (by simp)
  have f1 : (_ : Option Value) = some (.int .i64 (s : Int)) := F1.cell 1 (by simp)
  have f2 : (_ : Option Value) = some (.int .i64 (E : Int)) := F1.cell 2 (by simp)
  have f3 : (_ : Option Value) = some (.int .i64 (D : Int)) := F1.cell 3 (by simp)
  have f4 : (_ : Option Value) = some (.int .i64 0) := F1.cell 4 (by simp)
  have g0 : (_ : Option Value) = some (.int .i64 0) := F0.cell 0 (by simp)
  have g1 : (_ : Option Value) = some (.int .i64 0) := F0.cell 1 (by simp)
  have g2 : (_ : Option Value) = some (.int .i64 0) := F0.cell 2 (by simp)
  have g3 : (_ : Option Value) = some (.int .i64 0) := F0.cell 3 (by simp)
  have g4 : (_ : Option Value) = some (.int .i64 0) := F0.cell 4 (by simp)
  have P1 := F1.put 4 (.int .i64 (X : Int))
  have P0 := F0.far (a := ⟨w.heap.size + 1, 4, none⟩) (by simp) (.int .i64 (X : Int))
  have hBq := BB.put (a := ⟨w.heap.size + 1, 4, none⟩) hB (by simp) (.int .i64 (X : Int))
  have q0 : (_ : Option Value) = some (.int .i64 (b : Int)) := P1.cell 0 (by simp)
  have q1 : (_ : Option Value) = some (.int .i64 (s : Int)) := P1.cell 1 (by simp)
  have q2 : (_ : Option Value) = some (.int .i64 (E : Int)) := P1.cell 2 (by simp)
  have q3 : (_ : Option Value) = some (.int .i64 (D : Int)) := P1.cell 3 (by simp)
  have q4 : (_ : Option Value) = some (.int .i64 (X : Int)) := P1.cell 4 (by simp)
  have r0 : (_ : Option Value) = some (.int .i64 0) := P0.cell 0 (by simp)
  have r1 : (_ : Option Value) = some (.int .i64 0) := P0.cell 1 (by simp)
  have r2 : (_ : Option Value) = some (.int .i64 0) := P0.cell 2 (by simp)
  have r3 : (_ : Option Value) = some (.int .i64 0) := P0.cell 3 (by simp)
  have r4 : (_ : Option Value) = some (.int .i64 0) := P0.cell 4 (by simp)
  go_wp2
  refine bodyPost_ret (v := .agg #[.int .i64 (b : Int), .int .i64 (s : Int), .int .i64 (E : Int), .int .i64 (D : Int), .int .i64 (X : Int)]) (by simp [results, Tryd.results31, go_sem, World.cell?_setCell_other, r0, r1, r2, r3, r4]) rfl ⟨rfl, ?_⟩
  have hBw : Below w.heap.size w _ := hBq
  exact (by with_reducible repeat (first | exact Below.refl _ _ | assumption | refine below_step ?_ (by assumption) | refine Below.drew ?_ | refine below_drewN ?_ _ | refine below_alloc ?_ _ | refine Below.setCell ?_ (by simp; try omega) _))
set_option maxRecDepth 100000 in
set_option maxHeartbeats 1000000 in
theorem l16Head_any (b s : Nat) (d x : Int) (w : World) (hb : b ≤ 128) :
    Calls Tryd.prog 32 #[.agg #[.int .i64 (b : Int), .int .i64 (s : Int), .int .i64 (chE b : Int), .int .i64 d, .int .i64 x]] w fun e w' => e = .returned (.string (hd6 b)) ∧ Below w.heap.size w w' := by
  have hE := chE_le b
  have hcv := run_two b (chE b) (by omega) (by omega) (w.alloc (.cells #[.int .i64 (b : Int), .int .i64 (s : Int), .int .i64 (chE b : Int), .int .i64 d, .int .i64 x] 40))
  rw [World.size_alloc] at hcv
  have hw1 : IntKind.u8.wrap (b : Int) = (b : Int) := IntWalk.u8_in _ (by omega)
  have hw2 : IntKind.u8.wrap (chE b : Int) = (chE b : Int) := IntWalk.u8_in _ (by omega)
  have hlt : crcOf (hd4 b) 65535 < 65536 := crcOf_lt _ _ (by omega)
  have hcr := fun W => spec_Crc16_any (hd4 b) W (by rw [hd4_size]; omega)
  have hpw := fun W => spec_PutWord_any (crcOf (hd4 b) 65535) W hlt
  have H4 := Lib.hid (show (⟨#[67, 72]⟩ ++ ⟨[UInt8.ofNat b, UInt8.ofNat (chE b)].toArray⟩ : ByteArray) = hd4 b from rfl)
  have H6 := Lib.hid (show hd4 b ++ wordB (crcOf (hd4 b) 65535) = hd6 b from rfl)
  have h4 := hd4_size b
  generalize hd4 b = S4 at *
  generalize crcOf S4 65535 = cv at *
  have h2 : (wordB cv).size = 2 := rfl
  generalize chE b = E at *
  go_enter Tryd.func32, Tryd.ntmps32
  go_wp2_with (first
    | (go_at_call 60; rw [H4.out]; refine (hcr _).mono ?_; rintro e w9 ⟨rfl, rfl⟩)
    | (go_at_call 59; refine (hpw _).mono ?_; rintro e w9 ⟨rfl, hx⟩))
  go_ret
  exact ⟨by rw [← H6.out]; rfl, (by with_reducible repeat (first | exact Below.refl _ _ | assumption | refine below_step ?_ (by assumption) | refine Below.drew ?_ | refine below_drewN ?_ _ | refine below_alloc ?_ _ | refine Below.setCell ?_ (by simp; try omega) _))⟩
end Go.Proofs.YtbobehieaaaleaaDoor
