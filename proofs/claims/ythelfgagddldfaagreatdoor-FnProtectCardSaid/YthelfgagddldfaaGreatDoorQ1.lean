/- Walks: the address of a found sector; the closure that looks for it. -/
import Derived.Test.YthelfgagddldfaaGreatDoorP4
import Derived.Test.YthelfgagddldfaaGreatDoorW160
import Derived.Test.YthelfgagddldfaaGreatDoorQBx
namespace Go.Proofs.YthelfgagddldfaaGreatDoor
open Go.RowKit Go.Lib
set_option linter.unusedVariables false
set_option linter.unusedSimpArgs false

set_option maxRecDepth 100000 in
set_option maxHeartbeats 2000000 in
theorem addressOf_any (x : DFound) (w : World) : Calls Tryz.prog 45 #[vFound x] w fun e w' => e = .returned (.agg #[.int .i64 x.f0, .int .i64 x.f1, .int .i64 x.f2, .int .i64 x.f3]) ∧ Below w.heap.size w w' := by
  have F0 := (BX.made w 62 (fFound x)).al (.cells #[.int .i64 0, .int .i64 0, .int .i64 0, .int .i64 0] 90)
  have F1 := BX.made1 w (.cells (fFound x).toArray 62) 90 [.int .i64 0, .int .i64 0, .int .i64 0, .int .i64 0]
  have hB : BB w ((w.alloc (.cells (fFound x).toArray 62)).alloc (.cells #[.int .i64 0, .int .i64 0, .int .i64 0, .int .i64 0] 90)) := BB.al (BB.al (BB.start w) _) _
  have c0 : (_ : Option Value) = some (.int .i64 x.f0) := F0.cell 0 (by simp [fFound])
  have c1 : (_ : Option Value) = some (.int .i64 x.f1) := F0.cell 1 (by simp [fFound])
  have c2 : (_ : Option Value) = some (.int .i64 x.f2) := F0.cell 2 (by simp [fFound])
  have c3 : (_ : Option Value) = some (.int .i64 x.f3) := F0.cell 3 (by simp [fFound])
  have z0 : (_ : Option Value) = some (.int .i64 0) := F1.cell 0 (by simp)
  have z1 : (_ : Option Value) = some (.int .i64 0) := F1.cell 1 (by simp)
  have z2 : (_ : Option Value) = some (.int .i64 0) := F1.cell 2 (by simp)
  have z3 : (_ : Option Value) = some (.int .i64 0) := F1.cell 3 (by simp)
  have hfz := fun j => F1.free j
  unfold fFound at F0 F1 hB c0 c1 c2 c3 z0 z1 z2 z3 hfz
  unfold vFound
  go_enter Tryz.func45, Tryz.ntmps45
  go_wp2
  refine bodyPost_ret (v := .agg #[.int .i64 x.f0, .int .i64 x.f1, .int .i64 x.f2, .int .i64 x.f3]) (by simp [results, Tryz.results45, go_sem, World.cell?_setCell_other, z0, z1, z2, z3]) rfl ⟨rfl, ?_⟩
  exact (by with_reducible repeat (first | exact Below.refl _ _ | assumption | refine below_step ?_ (by assumption) | refine Below.drew ?_ | refine below_drewN ?_ _ | refine below_alloc ?_ _ | refine Below.setCell ?_ (by simp; try omega) _))

set_option maxRecDepth 100000 in
set_option maxHeartbeats 4000000 in
theorem same2_any (f g : DFound) (bf : Nat) (w : World) (F : BX w bf 62 (fFound f)) :
    Calls Tryz.prog 44 #[vFound g, .pointer (some ⟨bf, 0, none⟩)] w fun e w' => e = .returned (.bool (sameF f g)) ∧ Below w.heap.size w w' := by
  obtain ⟨f0, f1, f2, f3, f4, f5, f6, f7⟩ := f
  obtain ⟨g0, g1, g2, g3, g4, g5, g6, g7⟩ := g
  have G0 := BX.made w 62 (fFound ⟨g0, g1, g2, g3, g4, g5, g6, g7⟩)
  have F0 := F.al (.cells (fFound ⟨g0, g1, g2, g3, g4, g5, g6, g7⟩).toArray 62)
  have hB : BB w (w.alloc (.cells (fFound ⟨g0, g1, g2, g3, g4, g5, g6, g7⟩).toArray 62)) := BB.al (BB.start w) _
  unfold vFound sameF
  unfold fFound at G0 F0 hB
  dsimp only at G0 F0 hB ⊢
  obtain ⟨B, hB0⟩ : ∃ B, (decide (g5 ≠ 2) && (decide (g0 = f0) && (decide (g1 = f1) && (decide (g2 = f2) && decide (g3 = f3))))) = B := ⟨_, rfl⟩
  rw [hB0]
  have HB := Lib.hid hB0
  clear hB0
  go_enter Tryz.func44, Tryz.ntmps44
  go_upto_region 1 with fail
  generalize (w.alloc (.cells #[.int .i64 g0, .int .i64 g1, .int .i64 g2, .int .i64 g3, .string g4, .int .i64 g5, .bool g6, .int .i64 g7] 62)) = w1 at G0 F0 hB ⊢
  have kg0 := gw_cell (show (_ : Option Value) = some (.int .i64 g0) from G0.cell 0 (by simp))
  have kg1 := gw_cell (show (_ : Option Value) = some (.int .i64 g1) from G0.cell 1 (by simp))
  have kg2 := gw_cell (show (_ : Option Value) = some (.int .i64 g2) from G0.cell 2 (by simp))
  have kg3 := gw_cell (show (_ : Option Value) = some (.int .i64 g3) from G0.cell 3 (by simp))
  have kg4 := gw_cell (show (_ : Option Value) = some (.string g4) from G0.cell 4 (by simp))
  have kg5 := gw_cell (show (_ : Option Value) = some (.int .i64 g5) from G0.cell 5 (by simp))
  have kg6 := gw_cell (show (_ : Option Value) = some (.bool g6) from G0.cell 6 (by simp))
  have kg7 := gw_cell (show (_ : Option Value) = some (.int .i64 g7) from G0.cell 7 (by simp))
  have kf0 := gw_cell (show (_ : Option Value) = some (.int .i64 f0) from F0.cell 0 (by simp))
  have kf1 := gw_cell (show (_ : Option Value) = some (.int .i64 f1) from F0.cell 1 (by simp))
  have kf2 := gw_cell (show (_ : Option Value) = some (.int .i64 f2) from F0.cell 2 (by simp))
  have kf3 := gw_cell (show (_ : Option Value) = some (.int .i64 f3) from F0.cell 3 (by simp))
  have kf4 := gw_cell (show (_ : Option Value) = some (.string f4) from F0.cell 4 (by simp))
  have kf5 := gw_cell (show (_ : Option Value) = some (.int .i64 f5) from F0.cell 5 (by simp))
  have kf6 := gw_cell (show (_ : Option Value) = some (.bool f6) from F0.cell 6 (by simp))
  have kf7 := gw_cell (show (_ : Option Value) = some (.int .i64 f7) from F0.cell 7 (by simp))
  have pg := fun (p' : Regrown) => qb_below p' (addressOf_any ⟨g0, g1, g2, g3, g4, g5, g6, g7⟩ (Sort.grow (redrawn w1 p'.d) p'.os))
  have pf := fun (p' : Regrown) => qb_below p' (addressOf_any ⟨f0, f1, f2, f3, f4, f5, f6, f7⟩ (Sort.grow (redrawn w1 p'.d) p'.os))
  unfold vFound at pg pf
  dsimp only at pg pf
  by_cases h5 : g5 = 2
  · subst h5
    obtain rfl : B = false := by rw [← HB.out]; simp
    refine wp_region_quiet_below (by kernel_rfl) (by kernel_rfl) ?_
    repeat (go_big_quiet_step (first | with_reducible exact pg _ | with_reducible exact pf _))
    refine wpQuiet_nil ?_
    intro _ hw'
    obtain ⟨pq, hw''⟩ := hw'
    subst hw''
    have hB2 : BB w (Sort.grow (redrawn w1 pq.d) pq.os) := BB.next hB (gw_below w1 pq)
    generalize Sort.grow (redrawn w1 pq.d) pq.os = w5 at hB2 ⊢
    go_wp2
    go_ret
    exact ⟨rfl, hB2⟩
  have hd : (g5 == 2) = false := by simp [h5]
  have hd2 : (g5 != 2) = true := by simp [bne, h5]
  by_cases e0 : g0 = f0
  rotate_left
  · have d0 : (g0 == f0) = false := by simp [e0]
    obtain rfl : B = false := by rw [← HB.out]; simp [e0]
    refine wp_region_quiet_below (by kernel_rfl) (by kernel_rfl) ?_
    repeat (go_big_quiet_step (first | with_reducible exact pg _ | with_reducible exact pf _))
    refine wpQuiet_nil ?_
    intro _ hw'
    obtain ⟨pq, hw''⟩ := hw'
    subst hw''
    have hB2 : BB w (Sort.grow (redrawn w1 pq.d) pq.os) := BB.next hB (gw_below w1 pq)
    generalize Sort.grow (redrawn w1 pq.d) pq.os = w5 at hB2 ⊢
    go_wp2
    go_ret
    exact ⟨rfl, hB2⟩
  subst e0
  by_cases e1 : g1 = f1
  rotate_left
  · have d1 : (g1 == f1) = false := by simp [e1]
    obtain rfl : B = false := by rw [← HB.out]; simp [e1]
    refine wp_region_quiet_below (by kernel_rfl) (by kernel_rfl) ?_
    repeat (go_big_quiet_step (first | with_reducible exact pg _ | with_reducible exact pf _))
    refine wpQuiet_nil ?_
    intro _ hw'
    obtain ⟨pq, hw''⟩ := hw'
    subst hw''
    have hB2 : BB w (Sort.grow (redrawn w1 pq.d) pq.os) := BB.next hB (gw_below w1 pq)
    generalize Sort.grow (redrawn w1 pq.d) pq.os = w5 at hB2 ⊢
    go_wp2
    go_ret
    exact ⟨rfl, hB2⟩
  subst e1
  by_cases e2 : g2 = f2
  rotate_left
  · have d2 : (g2 == f2) = false := by simp [e2]
    obtain rfl : B = false := by rw [← HB.out]; simp [e2]
    refine wp_region_quiet_below (by kernel_rfl) (by kernel_rfl) ?_
    repeat (go_big_quiet_step (first | with_reducible exact pg _ | with_reducible exact pf _))
    refine wpQuiet_nil ?_
    intro _ hw'
    obtain ⟨pq, hw''⟩ := hw'
    subst hw''
    have hB2 : BB w (Sort.grow (redrawn w1 pq.d) pq.os) := BB.next hB (gw_below w1 pq)
    generalize Sort.grow (redrawn w1 pq.d) pq.os = w5 at hB2 ⊢
    go_wp2
    go_ret
    exact ⟨rfl, hB2⟩
  subst e2
  by_cases e3 : g3 = f3
  rotate_left
  · have d3 : (g3 == f3) = false := by simp [e3]
    obtain rfl : B = false := by rw [← HB.out]; simp [e3]
    refine wp_region_quiet_below (by kernel_rfl) (by kernel_rfl) ?_
    repeat (go_big_quiet_step (first | with_reducible exact pg _ | with_reducible exact pf _))
    refine wpQuiet_nil ?_
    intro _ hw'
    obtain ⟨pq, hw''⟩ := hw'
    subst hw''
    have hB2 : BB w (Sort.grow (redrawn w1 pq.d) pq.os) := BB.next hB (gw_below w1 pq)
    generalize Sort.grow (redrawn w1 pq.d) pq.os = w5 at hB2 ⊢
    go_wp2
    go_ret
    exact ⟨rfl, hB2⟩
  subst e3
  obtain rfl : B = true := by rw [← HB.out]; simp [h5]
  refine wp_region_quiet_below (by kernel_rfl) (by kernel_rfl) ?_
  repeat (go_big_quiet_step (first | with_reducible exact pg _ | with_reducible exact pf _))
  refine wpQuiet_nil ?_
  intro _ hw'
  obtain ⟨pq, hw''⟩ := hw'
  subst hw''
  have hB2 : BB w (Sort.grow (redrawn w1 pq.d) pq.os) := BB.next hB (gw_below w1 pq)
  generalize Sort.grow (redrawn w1 pq.d) pq.os = w5 at hB2 ⊢
  go_wp2
  go_ret
  exact ⟨rfl, hB2⟩
theorem Rd.take_ {α : Type} {f : α → List Value} {w : World} {B size : Nat} {A : Option Addr} {l : List α} (hf : ∀ x, (f x).length = size) (h : Rd w B size A l.length (flat f l)) {i : Nat} (hi : i ≤ l.length) : Rd w B size A (l.take i).length (flat f (l.take i)) := by
  have e : flat f (l.take i) ++ flat f (l.drop i) = flat f l := by rw [← flat_append, List.take_append_drop]
  refine ⟨flat_length f size hf _, fun h0 => ?_⟩
  obtain ⟨b, off, hA, hb, hc⟩ := h.2 (by rw [List.length_take] at h0; omega)
  refine ⟨b, off, hA, hb, fun j hj => ?_⟩
  have hj2 : j < (flat f l).length := by rw [← e, List.length_append]; omega
  rw [hc j hj2]
  have : (flat f l)[j] = (flat f (l.take i) ++ flat f (l.drop i))[j]'(by rw [e]; exact hj2) := by congr 1; exact e.symm
  rw [this, List.getElem_append_left hj]
set_option maxRecDepth 100000 in
set_option maxHeartbeats 4000000 in
theorem indexFd_any (A : Option Addr) (cp : Nat) (zs : List DFound) (f : DFound) (bf : Nat) (w : World) (hr : Rd w w.heap.size 8 A zs.length (flat fFound zs)) (F : BX w bf 62 (fFound f)) (hn : zs.length ≤ 1048576) :
    Calls Tryz.prog 43 #[.slice A zs.length cp, .func (.func 44) #[] #[.pointer (some ⟨bf, 0, none⟩)]] w fun e w' => e = .returned (.int .i64 (idxF (zs.findIdx? (sameF f)))) ∧ Below w.heap.size w w' := by
  have eg := fun args (W : World) => (show (callFunc 44 args).run Tryz.prog W = .ok (.enter 44 args) W from by kernel_rfl)
  obtain ⟨R, hR⟩ : ∃ R, zs.findIdx? (sameF f) = R := ⟨_, rfl⟩
  rw [hR]
  have HR := Lib.hid hR
  clear hR
  have hFl := F.lt
  go_enter Tryz.func43, Tryz.ntmps43
  go_wp2
  go_loopw [5, 8] (fun _ i wr => ∃ k : Nat, k ≤ zs.length ∧ i = .int .i64 k ∧ Below w.heap.size w wr ∧ Hid (∀ j (hj : j < zs.length), j < k → sameF f zs[j] = false)) (fun _ i _ => zs.length - (intOf i).toNat)
  case atStart => exact ⟨0, Nat.zero_le _, rfl, Below.refl _ _, Lib.hid (fun j hj h => absurd h (Nat.not_lt_zero _))⟩
  case round =>
    obtain ⟨k, hk, rfl, hb, HI⟩ := hrel
    by_cases hlt : k < zs.length
    · have hlti : (k : Int) < (zs.length : Int) := by omega
      obtain ⟨b, off, rfl, hbb, hc⟩ := (hr.below hb).at_ fFound_len rfl k hlt
      have hc0 := hc 0 _ (by omega) rfl
      have hc1 := hc 1 _ (by omega) rfl
      have hc2 := hc 2 _ (by omega) rfl
      have hc3 := hc 3 _ (by omega) rfl
      have hc4 := hc 4 _ (by omega) rfl
      have hc5 := hc 5 _ (by omega) rfl
      have hc6 := hc 6 _ (by omega) rfl
      have hc7 := hc 7 _ (by omega) rfl
      clear hc
      have hcall := same2_any f zs[k] bf wr (F.below hb hFl)
      obtain ⟨g, hg⟩ : ∃ g, zs[k] = g := ⟨_, rfl⟩
      obtain ⟨B, hB⟩ : ∃ B, sameF f g = B := ⟨_, rfl⟩
      rw [hg] at hcall hc0 hc1 hc2 hc3 hc4 hc5 hc6 hc7
      rw [hB] at hcall
      obtain ⟨g0, g1, g2, g3, g4, g5, g6, g7⟩ := g
      unfold vFound at hcall
      dsimp only at hcall hc0 hc1 hc2 hc3 hc4 hc5 hc6 hc7
      simp only [← Nat.add_assoc, Nat.add_zero] at hc0 hc1 hc2 hc3 hc4 hc5 hc6 hc7
      cases B
      · have HN := Lib.hid (show ∀ j (hj : j < zs.length), j < k + 1 → sameF f zs[j] = false from fun j hj hjk => by
          by_cases e : j = k
          · subst e; rw [hg]; exact hB
          · exact HI.out j hj (by omega))
        clear hg hB
        go_wp2_with (go_at_call 44; refine hcall.mono ?_; rintro e w1 ⟨rfl, hx1⟩; replace hb := below_step hb hx1)
        go_roundw
        case rel => exact ⟨k + 1, by omega, by go_num, hb, HN⟩
        case measure => (simp [intOf] <;> omega)
      · have HN := Lib.hid (show R = some k from HR.out.symm.trans (find_some hlt (by rw [hg]; exact hB) HI.out))
        clear hg hB
        go_wp2_with (go_at_call 44; refine hcall.mono ?_; rintro e w1 ⟨rfl, hx1⟩; replace hb := below_step hb hx1)
        go_ret
        exact ⟨by rw [HN.out]; rfl, hb⟩
    · have hlti : ¬ (k : Int) < (zs.length : Int) := by omega
      have HN := Lib.hid (show R = none from HR.out.symm.trans (find_none (n := k) (by omega) HI.out))
      go_wp2
      go_ret
      exact ⟨by rw [HN.out]; rfl, hb⟩
end Go.Proofs.YthelfgagddldfaaGreatDoor
