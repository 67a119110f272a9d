/- Walks: ProtectTrack (spec). -/
import Derived.Test.YthelfgagddldfaaGreatDoorPrT
namespace Go.Proofs.YthelfgagddldfaaGreatDoor
open Go.RowKit Go.Deep

set_option maxRecDepth 100000 in
set_option maxHeartbeats 8000000 in
set_option linter.unusedSimpArgs false in
theorem spec_ProtectTrack_any (f gp k s x : Int) (A : Option Addr) (cp : Nat) (xs : List DSectorSpec) (w : World) (hr : Rd w w.heap.size 8 A xs.length (flat fSectorSpec xs)) (hn : xs.length ≤ 1048576) :
    Calls Tryz.prog 29 #[.agg #[.int .i64 f, .int .i64 gp, .slice A xs.length cp], .agg #[.int .i64 k, .int .i64 s, .int .i64 x]] w fun e w' => ∃ v, e = .returned (.tuple #[.agg #[.int .i64 (prN (prC (tsB f gp xs && feB k s x) gp xs.length k s x) f), .int .i64 (prG (prC (tsB f gp xs && feB k s x) gp xs.length k s x) gp k x), v], .int .i64 (prC (tsB f gp xs && feB k s x) gp xs.length k s x)]) ∧ w'.ownsRow w.heap.size 41 8 v (prL (prC (tsB f gp xs && feB k s x) gp xs.length k s x) xs k s x).length (flat fSectorSpec (prL (prC (tsB f gp xs && feB k s x) gp xs.length k s x) xs k s x)) ∧ Below w.heap.size w w' := by
  have F2 := ((BX.made w 26 [.int .i64 f, .int .i64 gp, .slice A xs.length cp]).al (.cells #[.int .i64 k, .int .i64 s, .int .i64 x] 29)).al (.cells #[.int .i64 0, .int .i64 0, .slice none 0 0] 26)
  have F3 := (BX.made1 w (.cells #[.int .i64 f, .int .i64 gp, .slice A xs.length cp] 26) 29 [.int .i64 k, .int .i64 s, .int .i64 x]).al (.cells #[.int .i64 0, .int .i64 0, .slice none 0 0] 26)
  have F4 : BX (((w.alloc (.cells #[.int .i64 f, .int .i64 gp, .slice A xs.length cp] 26)).alloc (.cells #[.int .i64 k, .int .i64 s, .int .i64 x] 29)).alloc (.cells #[.int .i64 0, .int .i64 0, .slice none 0 0] 26)) (w.heap.size + 2) 26 [.int .i64 0, .int .i64 0, .slice none 0 0] := by
    have h := BX.made ((w.alloc (.cells #[.int .i64 f, .int .i64 gp, .slice A xs.length cp] 26)).alloc (.cells #[.int .i64 k, .int .i64 s, .int .i64 x] 29)) 26 [.int .i64 0, .int .i64 0, .slice none 0 0]
    rw [World.size_alloc, World.size_alloc] at h
    exact h
  obtain ⟨wb, hwb⟩ : ∃ wb, wb = ((w.alloc (.cells #[.int .i64 f, .int .i64 gp, .slice A xs.length cp] 26)).alloc (.cells #[.int .i64 k, .int .i64 s, .int .i64 x] 29)).alloc (.cells #[.int .i64 0, .int .i64 0, .slice none 0 0] 26) := ⟨_, rfl⟩
  rw [← hwb] at F2 F3 F4
  have hb0 : Below w.heap.size w wb := by rw [hwb]; exact (by with_reducible repeat (first | exact Below.refl _ _ | assumption | refine below_step ?_ (by assumption) | refine Below.drew ?_ | refine below_drewN ?_ _ | refine below_alloc ?_ _ | refine Below.setCell ?_ (by simp; try omega) _))
  have hrb := (hr.below hb0).more hb0.size
  have HW := Lib.hid hwb
  clear hwb
  have hq := spec_ValidTrackSpec_any f gp A cp xs wb hrb hn
  have hfe := fun W => l11Ok_any k s x W
  have hxg : ∀ W : World, Below w.heap.size w W → Rd W w.heap.size 8 A xs.length (flat fSectorSpec xs) := fun W hb => hr.below hb
  clear hrb
  cases hts : tsB f gp xs
  · rw [hts] at hq
    have HC := Lib.hid (pr_v (v := false && feB k s x) (g := gp) (n := xs.length) (k := k) (s := s) (x := x) (Bool.false_and _))
    go_enter Tryz.func29, Tryz.ntmps29
    go_wp2_with (go_at_call 48; rw [← HW.out]; (with_reducible refine hq.mono ?_); rintro e w2 ⟨rfl, hx2⟩; replace F2 := F2.below hx2 F2.lt; replace F3 := F3.below hx2 F3.lt; replace F4 := F4.below hx2 F4.lt; have hB : Below w.heap.size w w2 := hb0.trans (hx2.mono hb0.size); have e0 : (_ : Option Value) = some (.int .i64 f) := F2.cell 0 (by simp); have e1 : (_ : Option Value) = some (.int .i64 gp) := F2.cell 1 (by simp); have e2 : (_ : Option Value) = some (.slice A xs.length cp) := F2.cell 2 (by simp); have k0 : (_ : Option Value) = some (.int .i64 k) := F3.cell 0 (by simp); have k1 : (_ : Option Value) = some (.int .i64 s) := F3.cell 1 (by simp); have k2 : (_ : Option Value) = some (.int .i64 x) := F3.cell 2 (by simp); have z0 : (_ : Option Value) = some (.int .i64 0) := F4.cell 0 (by simp); have z1 : (_ : Option Value) = some (.int .i64 0) := F4.cell 1 (by simp); have z2 : (_ : Option Value) = some (.slice none 0 0) := F4.cell 2 (by simp); have hfz := fun j => F4.free j)
    refine bodyPost_ret (v := .tuple #[.agg #[.int .i64 0, .int .i64 0, .slice none 0 0], .int .i64 1]) (by simp [results, Tryz.results29, go_sem, World.cell?_setCell_other, z0, z1, z2]) rfl ⟨.slice none 0 0, by rw [HC.out]; rfl, ?_, ?_⟩
    · rw [HC.out]; exact World.ownsRow_nil _ _ _ _
    · exact (by with_reducible repeat (first | exact Below.refl _ _ | assumption | refine below_step ?_ (by assumption) | refine Below.drew ?_ | refine below_drewN ?_ _ | refine below_alloc ?_ _ | refine Below.setCell ?_ (by simp; try omega) _))
  rw [hts] at hq
  rw [Bool.true_and]
  cases hfs : feB k s x
  · have HC := Lib.hid (pr_v (v := false) (g := gp) (n := xs.length) (k := k) (s := s) (x := x) rfl)
    rw [hfs] at hfe
    go_enter Tryz.func29, Tryz.ntmps29
    go_wp2_with (first | (go_at_call 48; rw [← HW.out]; (with_reducible refine hq.mono ?_); rintro e w2 ⟨rfl, hx2⟩; replace F2 := F2.below hx2 F2.lt; replace F3 := F3.below hx2 F3.lt; replace F4 := F4.below hx2 F4.lt; have hB : Below w.heap.size w w2 := hb0.trans (hx2.mono hb0.size); have e0 : (_ : Option Value) = some (.int .i64 f) := F2.cell 0 (by simp); have e1 : (_ : Option Value) = some (.int .i64 gp) := F2.cell 1 (by simp); have e2 : (_ : Option Value) = some (.slice A xs.length cp) := F2.cell 2 (by simp); have k0 : (_ : Option Value) = some (.int .i64 k) := F3.cell 0 (by simp); have k1 : (_ : Option Value) = some (.int .i64 s) := F3.cell 1 (by simp); have k2 : (_ : Option Value) = some (.int .i64 x) := F3.cell 2 (by simp); have z0 : (_ : Option Value) = some (.int .i64 0) := F4.cell 0 (by simp); have z1 : (_ : Option Value) = some (.int .i64 0) := F4.cell 1 (by simp); have z2 : (_ : Option Value) = some (.slice none 0 0) := F4.cell 2 (by simp); have hfz := fun j => F4.free j) | (go_at_call 49; (with_reducible refine (hfe _).mono ?_); rintro e w3 ⟨rfl, hx3⟩; clear e0 e1 e2 k0 k1 k2 z0 z1 z2 hfz; replace F2 := F2.below hx3 F2.lt; replace F3 := F3.below hx3 F3.lt; replace F4 := F4.below hx3 F4.lt; replace hB := hB.trans (hx3.mono hB.size); have e0 : (_ : Option Value) = some (.int .i64 f) := F2.cell 0 (by simp); have e1 : (_ : Option Value) = some (.int .i64 gp) := F2.cell 1 (by simp); have e2 : (_ : Option Value) = some (.slice A xs.length cp) := F2.cell 2 (by simp); have k0 : (_ : Option Value) = some (.int .i64 k) := F3.cell 0 (by simp); have k1 : (_ : Option Value) = some (.int .i64 s) := F3.cell 1 (by simp); have k2 : (_ : Option Value) = some (.int .i64 x) := F3.cell 2 (by simp); have z0 : (_ : Option Value) = some (.int .i64 0) := F4.cell 0 (by simp); have z1 : (_ : Option Value) = some (.int .i64 0) := F4.cell 1 (by simp); have z2 : (_ : Option Value) = some (.slice none 0 0) := F4.cell 2 (by simp); have hfz := fun j => F4.free j))
    refine bodyPost_ret (v := .tuple #[.agg #[.int .i64 0, .int .i64 0, .slice none 0 0], .int .i64 1]) (by simp [results, Tryz.results29, go_sem, World.cell?_setCell_other, z0, z1, z2]) rfl ⟨.slice none 0 0, by rw [HC.out]; rfl, ?_, ?_⟩
    · rw [HC.out]; exact World.ownsRow_nil _ _ _ _
    · exact (by with_reducible repeat (first | exact Below.refl _ _ | assumption | refine below_step ?_ (by assumption) | refine Below.drew ?_ | refine below_drewN ?_ _ | refine below_alloc ?_ _ | refine Below.setCell ?_ (by simp; try omega) _))
  rw [hfs] at hfe
  have hn8 := ts_n hts
  have hgp := ts_g hts
  go_enter Tryz.func29, Tryz.ntmps29
  go_upto_region 8 with (first | (go_at_call 48; rw [← HW.out]; (with_reducible refine hq.mono ?_); rintro e w2 ⟨rfl, hx2⟩; replace F2 := F2.below hx2 F2.lt; replace F3 := F3.below hx2 F3.lt; replace F4 := F4.below hx2 F4.lt; have hB : Below w.heap.size w w2 := hb0.trans (hx2.mono hb0.size); have e0 : (_ : Option Value) = some (.int .i64 f) := F2.cell 0 (by simp); have e1 : (_ : Option Value) = some (.int .i64 gp) := F2.cell 1 (by simp); have e2 : (_ : Option Value) = some (.slice A xs.length cp) := F2.cell 2 (by simp); have k0 : (_ : Option Value) = some (.int .i64 k) := F3.cell 0 (by simp); have k1 : (_ : Option Value) = some (.int .i64 s) := F3.cell 1 (by simp); have k2 : (_ : Option Value) = some (.int .i64 x) := F3.cell 2 (by simp); have z0 : (_ : Option Value) = some (.int .i64 0) := F4.cell 0 (by simp); have z1 : (_ : Option Value) = some (.int .i64 0) := F4.cell 1 (by simp); have z2 : (_ : Option Value) = some (.slice none 0 0) := F4.cell 2 (by simp); have hfz := fun j => F4.free j) | (go_at_call 49; (with_reducible refine (hfe _).mono ?_); rintro e w3 ⟨rfl, hx3⟩; clear e0 e1 e2 k0 k1 k2 z0 z1 z2 hfz; replace F2 := F2.below hx3 F2.lt; replace F3 := F3.below hx3 F3.lt; replace F4 := F4.below hx3 F4.lt; replace hB := hB.trans (hx3.mono hB.size); have e0 : (_ : Option Value) = some (.int .i64 f) := F2.cell 0 (by simp); have e1 : (_ : Option Value) = some (.int .i64 gp) := F2.cell 1 (by simp); have e2 : (_ : Option Value) = some (.slice A xs.length cp) := F2.cell 2 (by simp); have k0 : (_ : Option Value) = some (.int .i64 k) := F3.cell 0 (by simp); have k1 : (_ : Option Value) = some (.int .i64 s) := F3.cell 1 (by simp); have k2 : (_ : Option Value) = some (.int .i64 x) := F3.cell 2 (by simp); have z0 : (_ : Option Value) = some (.int .i64 0) := F4.cell 0 (by simp); have z1 : (_ : Option Value) = some (.int .i64 0) := F4.cell 1 (by simp); have z2 : (_ : Option Value) = some (.slice none 0 0) := F4.cell 2 (by simp); have hfz := fun j => F4.free j) | (go_at_call 50; have h3s := F4.lt; refine (l11Own_any w.heap.size f gp A cp xs _ F2 ((hxg _ hB).more hB.size) hn).mono ?_; rintro e w4 ⟨v4, rfl, R4, hx4⟩; obtain ⟨A4, c4, rfl⟩ := own_form R4; clear e0 e1 e2 k0 k1 k2 z0 z1 z2 hfz; replace F2 := F2.below hx4 F2.lt; replace F3 := F3.below hx4 F3.lt; replace F4 := F4.below hx4 F4.lt; replace hB := hB.trans (hx4.mono hB.size)))
  have hT5 : w3.heap.size ≤ (w4.alloc (.cells #[.int .i64 f, .int .i64 gp, .slice A4 xs.length c4] 26)).heap.size := by rw [World.size_alloc]; exact Nat.le_succ_of_le hx4.size
  clear hq hfe hx2 hx3 hx4
  have hDn : (Value.slice A4 xs.length c4).ownBlock ≠ some w4.heap.size := OO.ne_box R4
  have hD4 : w.heap.size + 2 < w4.heap.size := F4.lt
  have FD := BX.made w4 26 [.int .i64 f, .int .i64 gp, .slice A4 xs.length c4]
  replace F2 := F2.al (.cells #[.int .i64 f, .int .i64 gp, .slice A4 xs.length c4] 26)
  replace F3 := F3.al (.cells #[.int .i64 f, .int .i64 gp, .slice A4 xs.length c4] 26)
  replace F4 := F4.al (.cells #[.int .i64 f, .int .i64 gp, .slice A4 xs.length c4] 26)
  replace R4 := OO.al R4 (.cells #[.int .i64 f, .int .i64 gp, .slice A4 xs.length c4] 26)
  replace hB : BB w _ := BB.al hB (.cells #[.int .i64 f, .int .i64 gp, .slice A4 xs.length c4] 26)
  generalize w4.alloc (.cells #[.int .i64 f, .int .i64 gp, .slice A4 xs.length c4] 26) = w5 at F2 F3 F4 FD R4 hB hT5 ⊢
  replace hB : Below w.heap.size w w5 := hB
  generalize w4.heap.size = D at hDn hD4 FD ⊢
  generalize w3.heap.size = T3 at R4 h3s hT5
  have e0 : (_ : Option Value) = some (.int .i64 f) := F2.cell 0 (by simp)
  have e1 : (_ : Option Value) = some (.int .i64 gp) := F2.cell 1 (by simp)
  have e2 : (_ : Option Value) = some (.slice A xs.length cp) := F2.cell 2 (by simp)
  have k0 : (_ : Option Value) = some (.int .i64 k) := F3.cell 0 (by simp)
  have k1 : (_ : Option Value) = some (.int .i64 s) := F3.cell 1 (by simp)
  have k2 : (_ : Option Value) = some (.int .i64 x) := F3.cell 2 (by simp)
  have z0 : (_ : Option Value) = some (.int .i64 0) := F4.cell 0 (by simp)
  have z1 : (_ : Option Value) = some (.int .i64 0) := F4.cell 1 (by simp)
  have z2 : (_ : Option Value) = some (.slice none 0 0) := F4.cell 2 (by simp)
  have hfz := fun j => F4.free j
  have d0 : (_ : Option Value) = some (.int .i64 f) := FD.cell 0 (by simp)
  have d1 : (_ : Option Value) = some (.int .i64 gp) := FD.cell 1 (by simp)
  have d2 : (_ : Option Value) = some (.slice A4 xs.length c4) := FD.cell 2 (by simp)
  have hfd := fun j => FD.free j
  by_cases h57 : k = 5 ∨ k = 7
  · have HC := Lib.hid (pr_57 (g := gp) (n := xs.length) (s := s) (x := x) h57)
    rcases h57 with rfl | rfl
    · go_wp2
      refine bodyPost_ret (v := .tuple #[.agg #[.int .i64 0, .int .i64 0, .slice none 0 0], .int .i64 6]) (by simp [results, Tryz.results29, go_sem, World.cell?_setCell_other, z0, z1, z2]) rfl ⟨.slice none 0 0, by rw [HC.out]; rfl, ?_, ?_⟩
      · rw [HC.out]; exact World.ownsRow_nil _ _ _ _
      · exact (by with_reducible repeat (first | exact Below.refl _ _ | assumption | refine below_step ?_ (by assumption) | refine Below.drew ?_ | refine below_drewN ?_ _ | refine below_alloc ?_ _ | refine Below.setCell ?_ (by simp; try omega) _))
    · go_wp2
      refine bodyPost_ret (v := .tuple #[.agg #[.int .i64 0, .int .i64 0, .slice none 0 0], .int .i64 6]) (by simp [results, Tryz.results29, go_sem, World.cell?_setCell_other, z0, z1, z2]) rfl ⟨.slice none 0 0, by rw [HC.out]; rfl, ?_, ?_⟩
      · rw [HC.out]; exact World.ownsRow_nil _ _ _ _
      · exact (by with_reducible repeat (first | exact Below.refl _ _ | assumption | refine below_step ?_ (by assumption) | refine Below.drew ?_ | refine below_drewN ?_ _ | refine below_alloc ?_ _ | refine Below.setCell ?_ (by simp; try omega) _))
  by_cases h8 : k = 8
  · subst h8
    have hx := fe_8 hfs
    have hwx : IntKind.i64.wrap (gp + x) = gp + x := IntWalk.i64_in _ (by omega)
    by_cases hgx : gp + x > 20
    · have HC := Lib.hid (pr_8b (n := xs.length) (s := s) hgx)
      have hgi : (20 : Int) < gp + x := hgx
      go_wp2
      refine bodyPost_ret (v := .tuple #[.agg #[.int .i64 0, .int .i64 0, .slice none 0 0], .int .i64 5]) (by simp [results, Tryz.results29, go_sem, World.cell?_setCell_other, z0, z1, z2]) rfl ⟨.slice none 0 0, by rw [HC.out]; rfl, ?_, ?_⟩
      · rw [HC.out]; exact World.ownsRow_nil _ _ _ _
      · exact (by with_reducible repeat (first | exact Below.refl _ _ | assumption | refine below_step ?_ (by assumption) | refine Below.drew ?_ | refine below_drewN ?_ _ | refine below_alloc ?_ _ | refine Below.setCell ?_ (by simp; try omega) _))
    have HC := Lib.hid (pr_8 (n := xs.length) (s := s) hgx)
    have HL := Lib.hid (show prL 0 xs 8 s x = xs from rfl)
    have hgi : ¬ (20 : Int) < gp + x := hgx
    have FP := FD.put 1 (.int .i64 (gp + x))
    have p0 : (_ : Option Value) = some (.int .i64 f) := FP.cell 0 (by simp)
    have p1 : (_ : Option Value) = some (.int .i64 (gp + x)) := FP.cell 1 (by simp)
    have p2 : (_ : Option Value) = some (.slice A4 xs.length c4) := FP.cell 2 (by simp)
    replace F4 := F4.far (a := ⟨D, 1, none⟩) (by simp; omega) (.int .i64 (gp + x))
    clear z0 z1 z2 hfz
    have z0 : (_ : Option Value) = some (.int .i64 0) := F4.cell 0 (by simp)
    have z1 : (_ : Option Value) = some (.int .i64 0) := F4.cell 1 (by simp)
    have z2 : (_ : Option Value) = some (.slice none 0 0) := F4.cell 2 (by simp)
    have hfz := fun j => F4.free j
    go_wp2
    refine bodyPost_ret (v := .tuple #[.agg #[.int .i64 f, .int .i64 (gp + x), .slice A4 xs.length c4], .int .i64 0]) (by simp [results, Tryz.results29, go_sem, World.cell?_setCell_other, z0, z1, z2]) rfl ⟨.slice A4 xs.length c4, by rw [HC.out] <;> rfl, ?_, ?_⟩
    · rw [HC.out, HL.out]
      exact own_base (OO.put (OO.put (OO.put (OO.putne R4 hDn _) h3s _) h3s _) h3s _) (Nat.le_trans (Nat.le_add_right _ 2) (Nat.le_of_lt h3s))
    · exact (by with_reducible repeat (first | exact Below.refl _ _ | assumption | refine below_step ?_ (by assumption) | refine Below.drew ?_ | refine below_drewN ?_ _ | refine below_alloc ?_ _ | refine Below.setCell ?_ (by simp; try omega) _))
  have n5 : (k == 5) = false := by simp; omega
  have n7 : (k == 7) = false := by simp; omega
  have n8 : (k == 8) = false := by simp; omega
  by_cases h1 : k = 1
  · subst h1
    have hx := fe_1 hfs
    by_cases hsn : s = (xs.length : Int)
    case neg =>
      have HC := Lib.hid (pr_1s (g := gp) (x := x) hsn)
      have hse : (s == (xs.length : Int)) = false := by simpa using hsn
      go_wp2
      refine bodyPost_ret (v := .tuple #[.agg #[.int .i64 0, .int .i64 0, .slice none 0 0], .int .i64 2]) (by simp [results, Tryz.results29, go_sem, World.cell?_setCell_other, z0, z1, z2]) rfl ⟨.slice none 0 0, by rw [HC.out]; rfl, ?_, ?_⟩
      · rw [HC.out]; exact World.ownsRow_nil _ _ _ _
      · exact (by with_reducible repeat (first | exact Below.refl _ _ | assumption | refine below_step ?_ (by assumption) | refine Below.drew ?_ | refine below_drewN ?_ _ | refine below_alloc ?_ _ | refine Below.setCell ?_ (by simp; try omega) _))
    subst hsn
    by_cases hn8' : 8 ≤ xs.length
    · have HC := Lib.hid (pr_1n (g := gp) (x := x) rfl hn8')
      have h8i : (8 : Int) ≤ (xs.length : Int) := by omega
      go_wp2
      refine bodyPost_ret (v := .tuple #[.agg #[.int .i64 0, .int .i64 0, .slice none 0 0], .int .i64 5]) (by simp [results, Tryz.results29, go_sem, World.cell?_setCell_other, z0, z1, z2]) rfl ⟨.slice none 0 0, by rw [HC.out]; rfl, ?_, ?_⟩
      · rw [HC.out]; exact World.ownsRow_nil _ _ _ _
      · exact (by with_reducible repeat (first | exact Below.refl _ _ | assumption | refine below_step ?_ (by assumption) | refine Below.drew ?_ | refine below_drewN ?_ _ | refine below_alloc ?_ _ | refine Below.setCell ?_ (by simp; try omega) _))
    have HC := Lib.hid (pr_1 (g := gp) (x := x) rfl hn8')
    have h8i : ¬ (8 : Int) ≤ (xs.length : Int) := by omega
    obtain ⟨X, rfl⟩ : ∃ X : Nat, x = (X : Int) := ⟨x.toNat, by omega⟩
    have hXl : X < xs.length := by omega
    have hXi : (X : Int) < (xs.length : Int) := by omega
    have HL := Lib.hid (prL_1 (xs := xs) (s := (xs.length : Int)) hXl)
    obtain ⟨-, -, hsz⟩ := ts_ss hts hXl
    obtain ⟨bx, ox, rfl, hbx, hc⟩ := (hxg w5 hB).at_ fSectorSpec_len rfl X hXl
    have x0 := hc 0 _ (by omega) rfl
    have x1 := hc 1 _ (by omega) rfl
    have x2 := hc 2 _ (by omega) rfl
    have x3 := hc 3 _ (by omega) rfl
    have x4 := hc 4 _ (by omega) rfl
    have x5 := hc 5 _ (by omega) rfl
    have x6 := hc 6 _ (by omega) rfl
    have x7 := hc 7 _ (by omega) rfl
    clear hc
    simp only [← Nat.add_assoc, Nat.add_zero] at x0 x1 x2 x3 x4 x5 x6 x7
    have hY : prA xs[X] = ⟨xs[X].f0, xs[X].f1, xs[X].f2, xs[X].f3, invB xs[X].f4, false, false, false⟩ := rfl
    have HY := hY
    clear hY
    obtain ⟨a0, ha0⟩ : ∃ x, xs[X].f0 = x := ⟨_, rfl⟩
    rw [ha0] at x0
    obtain ⟨a1, ha1⟩ : ∃ x, xs[X].f1 = x := ⟨_, rfl⟩
    rw [ha1] at x1
    obtain ⟨a2, ha2⟩ : ∃ x, xs[X].f2 = x := ⟨_, rfl⟩
    rw [ha2] at x2
    obtain ⟨a3, ha3⟩ : ∃ x, xs[X].f3 = x := ⟨_, rfl⟩
    rw [ha3] at x3
    obtain ⟨a4, ha4⟩ : ∃ x, xs[X].f4 = x := ⟨_, rfl⟩
    rw [ha4] at x4
    obtain ⟨a5, ha5⟩ : ∃ x, xs[X].f5 = x := ⟨_, rfl⟩
    rw [ha5] at x5
    obtain ⟨a6, ha6⟩ : ∃ x, xs[X].f6 = x := ⟨_, rfl⟩
    rw [ha6] at x6
    obtain ⟨a7, ha7⟩ : ∃ x, xs[X].f7 = x := ⟨_, rfl⟩
    rw [ha7] at x7
    rw [ha0, ha1, ha2, ha3, ha4] at HY
    rw [ha4] at hsz
    have HYh := Lib.hid HY
    clear HY ha0 ha1 ha2 ha3 ha4 ha5 ha6 ha7
    have FE := BX.made w5 41 [.int .i64 a0, .int .i64 a1, .int .i64 a2, .int .i64 a3, .string a4, .bool a5, .bool a6, .bool a7]
    have hDE : D < w5.heap.size := FD.lt
    have hTE : T3 ≤ w5.heap.size := hT5
    have hRE : (Value.slice A4 xs.length c4).ownBlock ≠ some w5.heap.size := OO.ne_box R4
    go_upto_region 20 with fail
    have FD6 := FD.al (.cells #[.int .i64 a0, .int .i64 a1, .int .i64 a2, .int .i64 a3, .string a4, .bool a5, .bool a6, .bool a7] 41)
    have F46 := F4.al (.cells #[.int .i64 a0, .int .i64 a1, .int .i64 a2, .int .i64 a3, .string a4, .bool a5, .bool a6, .bool a7] 41)
    have R6 := OO.al R4 (.cells #[.int .i64 a0, .int .i64 a1, .int .i64 a2, .int .i64 a3, .string a4, .bool a5, .bool a6, .bool a7] 41)
    have hB6 : BB w _ := BB.al hB (.cells #[.int .i64 a0, .int .i64 a1, .int .i64 a2, .int .i64 a3, .string a4, .bool a5, .bool a6, .bool a7] 41)
    have hT6 : T3 ≤ (w5.alloc (.cells #[.int .i64 a0, .int .i64 a1, .int .i64 a2, .int .i64 a3, .string a4, .bool a5, .bool a6, .bool a7] 41)).heap.size := by rw [World.size_alloc]; exact Nat.le_succ_of_le hTE
    clear z0 z1 z2 hfz d0 d1 d2 hfd e0 e1 e2 k0 k1 k2 x0 x1 x2 x3 x4 x5 x6 x7
    generalize w5.alloc (.cells #[.int .i64 a0, .int .i64 a1, .int .i64 a2, .int .i64 a3, .string a4, .bool a5, .bool a6, .bool a7] 41) = w6 at FE FD6 F46 R6 hB6 hT6 ⊢
    replace hB6 : Below w.heap.size w w6 := hB6
    generalize w5.heap.size = E at FE hDE hTE hRE ⊢
    clear F2 F3 F4 FD R4 hB hTE
    have hinv := l11Opposite_any a4 w6.drew hsz
    have D2 : (World.drew w6).cell? _ = some (.slice A4 xs.length c4) := FD6.cell 2 (by simp)
    have hE3 := fun j => FE.free j
    have hby : 56 ≤ 1000 := by decide
    have hbig : xs.length ≤ 100000000 := by omega
    have h2T : w.heap.size + 2 < T3 := h3s
    have hDE' : D ≠ E := by omega
    refine wp_region_held_drew (S := (fun W => W.cell? ⟨E, 0, none⟩ = some (.int .i64 a0) ∧ W.cell? ⟨E, 1, none⟩ = some (.int .i64 a1) ∧ W.cell? ⟨E, 2, none⟩ = some (.int .i64 a2) ∧ W.cell? ⟨E, 3, none⟩ = some (.int .i64 a3) ∧ W.cell? ⟨E, 4, none⟩ = some (.string a4))) (by kernel_rfl) ?hS1 (fun hHeld => ?rest2)
    case hS1 => (exact ⟨FE.cell 0 (by simp), FE.cell 1 (by simp), FE.cell 2 (by simp), FE.cell 3 (by simp), FE.cell 4 (by simp)⟩)
    refine wpAnyH_take (i := 0) (oi := _) (v := ?v3) rfl (by kernel_rfl) (by kernel_rfl) (by kernel_rfl) (fun _ _ _ h => h) (Or.inl ⟨by rfl, ?hy4⟩) hHeld ?rest5
    case hy4 => (intro w hSw; (try dsimp only at hSw); go_simp; (try with_reducible rfl))
    try simp only [Act.put, List.setIfInBounds_toArray, List.set_cons_zero, List.set_cons_succ]
    refine wpAnyH_take (i := 2) (oi := _) (v := ?v6) rfl (by kernel_rfl) (by kernel_rfl) (by kernel_rfl) (fun _ _ _ h => h) (Or.inl ⟨by rfl, ?hy7⟩) hHeld ?rest8
    case hy7 => (intro w hSw; (try dsimp only at hSw); go_simp; (try with_reducible rfl))
    try simp only [Act.put, List.setIfInBounds_toArray, List.set_cons_zero, List.set_cons_succ]
    refine wpAnyH_take (i := 3) (oi := _) (v := ?v9) rfl (by kernel_rfl) (by kernel_rfl) (by kernel_rfl) (fun _ _ _ h => h) (Or.inl ⟨by rfl, ?hy10⟩) hHeld ?rest11
    case hy10 => (intro w hSw; (try dsimp only at hSw); go_simp; (try with_reducible rfl))
    try simp only [Act.put, List.setIfInBounds_toArray, List.set_cons_zero, List.set_cons_succ]
    refine wpAnyH_take (i := 4) (oi := _) (v := ?v12) rfl (by kernel_rfl) (by kernel_rfl) (by kernel_rfl) (fun _ _ _ h => h) (Or.inl ⟨by rfl, ?hy13⟩) hHeld ?rest14
    case hy13 => (intro w hSw; (try dsimp only at hSw); go_simp; (try with_reducible rfl))
    try simp only [Act.put, List.setIfInBounds_toArray, List.set_cons_zero, List.set_cons_succ]
    refine wpAnyH_take (i := 5) (oi := _) (v := ?v15) rfl (by kernel_rfl) (by kernel_rfl) (by kernel_rfl) (fun _ _ _ h => h) (Or.inl ⟨by rfl, ?hy16⟩) hHeld ?rest17
    case hy16 => (intro w hSw; (try dsimp only at hSw); go_simp; (try with_reducible rfl))
    try simp only [Act.put, List.setIfInBounds_toArray, List.set_cons_zero, List.set_cons_succ]
    refine wpAnyH_take (i := 6) (oi := _) (v := ?v18) rfl (by kernel_rfl) (by kernel_rfl) (by kernel_rfl) (fun _ _ _ h => h) (Or.inl ⟨by rfl, ?hy19⟩) hHeld ?rest20
    case hy19 => (intro w hSw; (try dsimp only at hSw); go_simp; (try with_reducible rfl))
    try simp only [Act.put, List.setIfInBounds_toArray, List.set_cons_zero, List.set_cons_succ]
    refine wpAnyH_take (i := 7) (oi := _) (v := ?v21) rfl (by kernel_rfl) (by kernel_rfl) (by kernel_rfl) (fun _ _ _ h => h) (Or.inl ⟨by rfl, ?hy22⟩) hHeld ?rest23
    case hy22 => (intro w hSw; (try dsimp only at hSw); go_simp; (try with_reducible rfl))
    try simp only [Act.put, List.setIfInBounds_toArray, List.set_cons_zero, List.set_cons_succ]
    refine wpAnyH_take (i := 8) (oi := _) (v := ?v24) rfl (by kernel_rfl) (by kernel_rfl) (by kernel_rfl) (fun _ _ _ h => h) (Or.inl ⟨by rfl, ?hy25⟩) hHeld ?rest26
    case hy25 => (intro w hSw; (try dsimp only at hSw); go_simp; (try with_reducible rfl))
    try simp only [Act.put, List.setIfInBounds_toArray, List.set_cons_zero, List.set_cons_succ]
    refine wpAnyH_take (i := 9) (oi := _) (v := ?v27) rfl (by kernel_rfl) (by kernel_rfl) (by kernel_rfl) (fun _ _ _ h => h) (Or.inl ⟨by rfl, ?hy28⟩) hHeld ?rest29
    case hy28 => (intro w hSw; (try dsimp only at hSw); go_simp; (try with_reducible rfl))
    try simp only [Act.put, List.setIfInBounds_toArray, List.set_cons_zero, List.set_cons_succ]
    refine wpAnyH_take (i := 10) (oi := _) (v := ?v30) rfl (by kernel_rfl) (by kernel_rfl) (by kernel_rfl) (fun _ _ _ h => h) (Or.inl ⟨by rfl, ?hy31⟩) hHeld ?rest32
    case hy31 => (intro w hSw; (try dsimp only at hSw); go_simp; (try with_reducible rfl))
    try simp only [Act.put, List.setIfInBounds_toArray, List.set_cons_zero, List.set_cons_succ]
    refine wpAnyH_take (i := 11) (oi := _) (v := ?v33) rfl (by kernel_rfl) (by kernel_rfl) (by kernel_rfl) (fun _ _ _ h => h) (Or.inl ⟨by rfl, ?hy34⟩) hHeld ?rest35
    case hy34 => (intro w hSw; (try dsimp only at hSw); go_simp; (try with_reducible rfl))
    try simp only [Act.put, List.setIfInBounds_toArray, List.set_cons_zero, List.set_cons_succ]
    refine wpAnyH_ready (rs := [1, 12]) (by kernel_rfl) (by simp) ?_
    refine AllReadyH.cons (o := _) rfl (fun K hK => ?stp99) ?more100
    case stp99 =>
      go_simp
      refine hK.out _ _ ?hS101 (fun hHeld2 => ?rest102)
      case hS101 => (exact hHeld)
      clear hK K hHeld
      have hHeld := hHeld2
      clear hHeld2
      try simp only [Act.put, List.setIfInBounds_toArray, List.set_cons_zero, List.set_cons_succ]
      refine wpAnyH_ready (rs := [12]) (by kernel_rfl) (by simp) ?_
      refine AllReadyH.cons (o := _) rfl (fun K hK => ?stp95) ?more96
      case stp95 =>
        go_simp
        go_at_call 51
        (with_reducible refine hinv.mono ?_)
        rintro e w7 ⟨rfl, hx7⟩
        have FE7 := (BX.dr0 FE).below hx7 FE.lt
        have FD7 := (BX.dr0 FD6).below hx7 FD6.lt
        have F47 := (BX.dr0 F46).below hx7 F46.lt
        have R7 := OO.next (OO.dr R6) hx7
        have hB7 : Below w.heap.size w w7 := (Below.drew hB6).trans (hx7.mono hB6.size)
        have hT7 : T3 ≤ w7.heap.size := Nat.le_trans hT6 hx7.size
        have hD7 : D < w7.heap.size := FD7.lt
        have G2 : (_ : Option Value) = some (.slice A4 xs.length c4) := FD7.cell 2 (by simp)
        have G3 := fun (o : Obj) => (show (_ : Option Value) = some (.slice A4 xs.length c4) from (FD7.al o).cell 2 (by simp))
        refine hK.out _ _ ?hS97 (fun hHeld2 => ?rest98)
        case hS97 => (exact ⟨FE7.cell 0 (by simp), FE7.cell 1 (by simp), FE7.cell 2 (by simp), FE7.cell 3 (by simp), FE7.cell 4 (by simp)⟩)
        clear hK K hHeld
        have hHeld := hHeld2
        clear hHeld2
        try simp only [Act.put, List.setIfInBounds_toArray, List.set_cons_zero, List.set_cons_succ]
        refine wpAnyH_take (i := 13) (oi := _) (v := ?v77) rfl (by kernel_rfl) (by kernel_rfl) (by kernel_rfl) (fun _ _ _ h => h) (Or.inl ⟨by rfl, ?hy78⟩) hHeld ?rest79
        case hy78 => (intro w hSw; (try dsimp only at hSw); go_simp; (try with_reducible rfl))
        try simp only [Act.put, List.setIfInBounds_toArray, List.set_cons_zero, List.set_cons_succ]
        refine wpAnyH_ready (rs := [14]) (by kernel_rfl) (by simp) ?_
        refine AllReadyH.cons (o := _) rfl (fun K hK => ?stp91) ?more92
        case stp91 =>
          go_simp
          refine hK.out _ _ ?hS93 (fun hHeld2 => ?rest94)
          case hS93 => (exact ⟨(FE7.al _).cell 0 (by simp), (FE7.al _).cell 1 (by simp), (FE7.al _).cell 2 (by simp), (FE7.al _).cell 3 (by simp), (FE7.al _).cell 4 (by simp)⟩)
          clear hK K hHeld
          have hHeld := hHeld2
          clear hHeld2
          try simp only [Act.put, List.setIfInBounds_toArray, List.set_cons_zero, List.set_cons_succ]
          refine wpAnyH_ready (rs := [15]) (by kernel_rfl) (by simp) ?_
          refine AllReadyH.cons (o := _) rfl (fun K hK => ?stp87) ?more88
          case stp87 =>
            refine step_appG (w := w7) (f := fSectorSpec) rfl (.tmp 81) (.tmp 94) 24 rfl eltSectorSpec hby (.slice A4 xs.length c4) xs xs.length rfl rfl R7 #[.int .i64 a0, .int .i64 a1, .int .i64 a2, .int .i64 a3, .string (invB a4), .bool false, .bool false, .bool false] 41 (⟨a0, a1, a2, a3, invB a4, false, false, false⟩ : DSectorSpec) 1 rfl rfl rfl (oneSS _) hbig hT7 ?_
            intro v8 w8 R8 hg8 hat8 hbl8
            obtain ⟨A8, c8, rfl⟩ := own_form R8
            rw [List.length_append] at R8 hat8
            have FD8 := (FD7.al (.cells #[.int .i64 a0, .int .i64 a1, .int .i64 a2, .int .i64 a3, .string (invB a4), .bool false, .bool false, .bool false] 41)).grown hg8 hDn
            have FE8 := (FE7.al (.cells #[.int .i64 a0, .int .i64 a1, .int .i64 a2, .int .i64 a3, .string (invB a4), .bool false, .bool false, .bool false] 41)).grown hg8 hRE
            have F48 := F47.below hbl8 h2T
            have hB8 : Below w.heap.size w w8 := hB7.trans (hbl8.mono (Nat.le_of_lt (Nat.lt_trans (Nat.lt_add_of_pos_right (by decide)) h2T)))
            have hn8D : (Value.slice A8 (xs.length + 1) c8).ownBlock ≠ some D := by
              rcases hat8 with e | e
              · rw [show (Value.slice A8 (xs.length + 1) c8).ownBlock = _ from e]; exact hDn
              · rw [show (Value.slice A8 (xs.length + 1) c8).ownBlock = _ from e]; intro e2; have := Option.some.inj e2; omega
            have g2 : (_ : Option Value) = some (.slice A4 xs.length c4) := FD8.cell 2 (by simp)
            have hf8 := fun j => FD8.free j
            refine hK.out _ _ ?hS89 (fun hHeld2 => ?rest90)
            case hS89 => (exact ⟨FE8.cell 0 (by simp), FE8.cell 1 (by simp), FE8.cell 2 (by simp), FE8.cell 3 (by simp), FE8.cell 4 (by simp)⟩)
            clear hK K hHeld
            have hHeld := hHeld2
            clear hHeld2
            try simp only [Act.put, List.setIfInBounds_toArray, List.set_cons_zero, List.set_cons_succ]
            refine wpAnyH_take (i := 16) (oi := _) (v := ?v80) rfl (by kernel_rfl) (by kernel_rfl) (by kernel_rfl) (fun _ _ _ h => h) (Or.inl ⟨by rfl, ?hy81⟩) hHeld ?rest82
            case hy81 => (intro w hSw; (try dsimp only at hSw); go_simp; (try with_reducible rfl))
            try simp only [Act.put, List.setIfInBounds_toArray, List.set_cons_zero, List.set_cons_succ]
            refine wpAnyH_ready (rs := [17]) (by kernel_rfl) (by simp) ?_
            refine AllReadyH.cons (o := _) rfl (fun K hK => ?stp83) ?more84
            case stp83 =>
              go_simp
              refine hK.out _ _ ?hS85 (fun hHeld2 => ?rest86)
              case hS85 => (exact ⟨(World.cell?_setCell_far _ _ _ _ hDE').trans hHeld.1, (World.cell?_setCell_far _ _ _ _ hDE').trans hHeld.2.1, (World.cell?_setCell_far _ _ _ _ hDE').trans hHeld.2.2.1, (World.cell?_setCell_far _ _ _ _ hDE').trans hHeld.2.2.2.1, (World.cell?_setCell_far _ _ _ _ hDE').trans hHeld.2.2.2.2⟩)
              clear hK K hHeld
              have hHeld := hHeld2
              clear hHeld2
              try simp only [Act.put, List.setIfInBounds_toArray, List.set_cons_zero, List.set_cons_succ]
              refine wpAnyH_done (by kernel_rfl) ?_ _
              have FD9 := FD8.put 2 (.slice A8 (xs.length + 1) c8)
              have F49 := F48.far (a := ⟨D, 2, none⟩) (show w.heap.size + 2 ≠ D by omega) (.slice A8 (xs.length + 1) c8)
              have hB9 : Below w.heap.size w _ := Below.setCell hB8 (p := ⟨D, 2, none⟩) (show w.heap.size ≤ D by omega) (.slice A8 (xs.length + 1) c8)
              have d0 : (_ : Option Value) = some (.int .i64 f) := FD9.cell 0 (by simp)
              have d1 : (_ : Option Value) = some (.int .i64 gp) := FD9.cell 1 (by simp)
              have d2 : (_ : Option Value) = some (.slice A8 (xs.length + 1) c8) := FD9.cell 2 (by simp)
              have z0 : (_ : Option Value) = some (.int .i64 0) := F49.cell 0 (by simp)
              have z1 : (_ : Option Value) = some (.int .i64 0) := F49.cell 1 (by simp)
              have z2 : (_ : Option Value) = some (.slice none 0 0) := F49.cell 2 (by simp)
              have hfz := fun j => F49.free j
              go_wp2
              refine bodyPost_ret (v := .tuple #[.agg #[.int .i64 f, .int .i64 (gp), .slice A8 (xs.length + 1) c8], .int .i64 0]) (by simp [results, Tryz.results29, go_sem, World.cell?_setCell_other, z0, z1, z2]) rfl ⟨.slice A8 (xs.length + 1) c8, by rw [HC.out] <;> rfl, ?_, ?_⟩
              · rw [HC.out, HL.out, HYh.out, List.length_append]
                exact own_base (OO.put (OO.put (OO.put (OO.putne R8 hn8D _) h3s _) h3s _) h3s _) (Nat.le_trans (Nat.le_add_right _ 2) (Nat.le_of_lt h3s))
              · exact (by with_reducible repeat (first | exact Below.refl _ _ | assumption | refine below_step ?_ (by assumption) | refine Below.drew ?_ | refine below_drewN ?_ _ | refine below_alloc ?_ _ | refine Below.setCell ?_ (by simp; try omega) _))
            exact AllReadyH.nil
          exact AllReadyH.nil
        exact AllReadyH.nil
      exact AllReadyH.nil
    refine AllReadyH.cons (o := _) rfl (fun K hK => ?stp103) ?more104
    case stp103 =>
      go_simp
      go_at_call 51
      (with_reducible refine hinv.mono ?_)
      rintro e w7 ⟨rfl, hx7⟩
      have FE7 := (BX.dr0 FE).below hx7 FE.lt
      have FD7 := (BX.dr0 FD6).below hx7 FD6.lt
      have F47 := (BX.dr0 F46).below hx7 F46.lt
      have R7 := OO.next (OO.dr R6) hx7
      have hB7 : Below w.heap.size w w7 := (Below.drew hB6).trans (hx7.mono hB6.size)
      have hT7 : T3 ≤ w7.heap.size := Nat.le_trans hT6 hx7.size
      have hD7 : D < w7.heap.size := FD7.lt
      have G2 : (_ : Option Value) = some (.slice A4 xs.length c4) := FD7.cell 2 (by simp)
      have G3 := fun (o : Obj) => (show (_ : Option Value) = some (.slice A4 xs.length c4) from (FD7.al o).cell 2 (by simp))
      refine hK.out _ _ ?hS105 (fun hHeld2 => ?rest106)
      case hS105 => (exact ⟨FE7.cell 0 (by simp), FE7.cell 1 (by simp), FE7.cell 2 (by simp), FE7.cell 3 (by simp), FE7.cell 4 (by simp)⟩)
      clear hK K hHeld
      have hHeld := hHeld2
      clear hHeld2
      try simp only [Act.put, List.setIfInBounds_toArray, List.set_cons_zero, List.set_cons_succ]
      refine wpAnyH_take (i := 13) (oi := _) (v := ?v36) rfl (by kernel_rfl) (by kernel_rfl) (by kernel_rfl) (fun _ _ _ h => h) (Or.inl ⟨by rfl, ?hy37⟩) hHeld ?rest38
      case hy37 => (intro w hSw; (try dsimp only at hSw); go_simp; (try with_reducible rfl))
      try simp only [Act.put, List.setIfInBounds_toArray, List.set_cons_zero, List.set_cons_succ]
      refine wpAnyH_ready (rs := [1, 14]) (by kernel_rfl) (by simp) ?_
      refine AllReadyH.cons (o := _) rfl (fun K hK => ?stp69) ?more70
      case stp69 =>
        go_simp
        refine hK.out _ _ ?hS71 (fun hHeld2 => ?rest72)
        case hS71 => (exact hHeld)
        clear hK K hHeld
        have hHeld := hHeld2
        clear hHeld2
        try simp only [Act.put, List.setIfInBounds_toArray, List.set_cons_zero, List.set_cons_succ]
        refine wpAnyH_ready (rs := [14]) (by kernel_rfl) (by simp) ?_
        refine AllReadyH.cons (o := _) rfl (fun K hK => ?stp65) ?more66
        case stp65 =>
          go_simp
          refine hK.out _ _ ?hS67 (fun hHeld2 => ?rest68)
          case hS67 => (exact ⟨(FE7.al _).cell 0 (by simp), (FE7.al _).cell 1 (by simp), (FE7.al _).cell 2 (by simp), (FE7.al _).cell 3 (by simp), (FE7.al _).cell 4 (by simp)⟩)
          clear hK K hHeld
          have hHeld := hHeld2
          clear hHeld2
          try simp only [Act.put, List.setIfInBounds_toArray, List.set_cons_zero, List.set_cons_succ]
          refine wpAnyH_ready (rs := [15]) (by kernel_rfl) (by simp) ?_
          refine AllReadyH.cons (o := _) rfl (fun K hK => ?stp61) ?more62
          case stp61 =>
            refine step_appG (w := w7) (f := fSectorSpec) rfl (.tmp 81) (.tmp 94) 24 rfl eltSectorSpec hby (.slice A4 xs.length c4) xs xs.length rfl rfl R7 #[.int .i64 a0, .int .i64 a1, .int .i64 a2, .int .i64 a3, .string (invB a4), .bool false, .bool false, .bool false] 41 (⟨a0, a1, a2, a3, invB a4, false, false, false⟩ : DSectorSpec) 1 rfl rfl rfl (oneSS _) hbig hT7 ?_
            intro v8 w8 R8 hg8 hat8 hbl8
            obtain ⟨A8, c8, rfl⟩ := own_form R8
            rw [List.length_append] at R8 hat8
            have FD8 := (FD7.al (.cells #[.int .i64 a0, .int .i64 a1, .int .i64 a2, .int .i64 a3, .string (invB a4), .bool false, .bool false, .bool false] 41)).grown hg8 hDn
            have FE8 := (FE7.al (.cells #[.int .i64 a0, .int .i64 a1, .int .i64 a2, .int .i64 a3, .string (invB a4), .bool false, .bool false, .bool false] 41)).grown hg8 hRE
            have F48 := F47.below hbl8 h2T
            have hB8 : Below w.heap.size w w8 := hB7.trans (hbl8.mono (Nat.le_of_lt (Nat.lt_trans (Nat.lt_add_of_pos_right (by decide)) h2T)))
            have hn8D : (Value.slice A8 (xs.length + 1) c8).ownBlock ≠ some D := by
              rcases hat8 with e | e
              · rw [show (Value.slice A8 (xs.length + 1) c8).ownBlock = _ from e]; exact hDn
              · rw [show (Value.slice A8 (xs.length + 1) c8).ownBlock = _ from e]; intro e2; have := Option.some.inj e2; omega
            have g2 : (_ : Option Value) = some (.slice A4 xs.length c4) := FD8.cell 2 (by simp)
            have hf8 := fun j => FD8.free j
            refine hK.out _ _ ?hS63 (fun hHeld2 => ?rest64)
            case hS63 => (exact ⟨FE8.cell 0 (by simp), FE8.cell 1 (by simp), FE8.cell 2 (by simp), FE8.cell 3 (by simp), FE8.cell 4 (by simp)⟩)
            clear hK K hHeld
            have hHeld := hHeld2
            clear hHeld2
            try simp only [Act.put, List.setIfInBounds_toArray, List.set_cons_zero, List.set_cons_succ]
            refine wpAnyH_take (i := 16) (oi := _) (v := ?v54) rfl (by kernel_rfl) (by kernel_rfl) (by kernel_rfl) (fun _ _ _ h => h) (Or.inl ⟨by rfl, ?hy55⟩) hHeld ?rest56
            case hy55 => (intro w hSw; (try dsimp only at hSw); go_simp; (try with_reducible rfl))
            try simp only [Act.put, List.setIfInBounds_toArray, List.set_cons_zero, List.set_cons_succ]
            refine wpAnyH_ready (rs := [17]) (by kernel_rfl) (by simp) ?_
            refine AllReadyH.cons (o := _) rfl (fun K hK => ?stp57) ?more58
            case stp57 =>
              go_simp
              refine hK.out _ _ ?hS59 (fun hHeld2 => ?rest60)
              case hS59 => (exact ⟨(World.cell?_setCell_far _ _ _ _ hDE').trans hHeld.1, (World.cell?_setCell_far _ _ _ _ hDE').trans hHeld.2.1, (World.cell?_setCell_far _ _ _ _ hDE').trans hHeld.2.2.1, (World.cell?_setCell_far _ _ _ _ hDE').trans hHeld.2.2.2.1, (World.cell?_setCell_far _ _ _ _ hDE').trans hHeld.2.2.2.2⟩)
              clear hK K hHeld
              have hHeld := hHeld2
              clear hHeld2
              try simp only [Act.put, List.setIfInBounds_toArray, List.set_cons_zero, List.set_cons_succ]
              refine wpAnyH_done (by kernel_rfl) ?_ _
              have FD9 := FD8.put 2 (.slice A8 (xs.length + 1) c8)
              have F49 := F48.far (a := ⟨D, 2, none⟩) (show w.heap.size + 2 ≠ D by omega) (.slice A8 (xs.length + 1) c8)
              have hB9 : Below w.heap.size w _ := Below.setCell hB8 (p := ⟨D, 2, none⟩) (show w.heap.size ≤ D by omega) (.slice A8 (xs.length + 1) c8)
              have d0 : (_ : Option Value) = some (.int .i64 f) := FD9.cell 0 (by simp)
              have d1 : (_ : Option Value) = some (.int .i64 gp) := FD9.cell 1 (by simp)
              have d2 : (_ : Option Value) = some (.slice A8 (xs.length + 1) c8) := FD9.cell 2 (by simp)
              have z0 : (_ : Option Value) = some (.int .i64 0) := F49.cell 0 (by simp)
              have z1 : (_ : Option Value) = some (.int .i64 0) := F49.cell 1 (by simp)
              have z2 : (_ : Option Value) = some (.slice none 0 0) := F49.cell 2 (by simp)
              have hfz := fun j => F49.free j
              go_wp2
              refine bodyPost_ret (v := .tuple #[.agg #[.int .i64 f, .int .i64 (gp), .slice A8 (xs.length + 1) c8], .int .i64 0]) (by simp [results, Tryz.results29, go_sem, World.cell?_setCell_other, z0, z1, z2]) rfl ⟨.slice A8 (xs.length + 1) c8, by rw [HC.out] <;> rfl, ?_, ?_⟩
              · rw [HC.out, HL.out, HYh.out, List.length_append]
                exact own_base (OO.put (OO.put (OO.put (OO.putne R8 hn8D _) h3s _) h3s _) h3s _) (Nat.le_trans (Nat.le_add_right _ 2) (Nat.le_of_lt h3s))
              · exact (by with_reducible repeat (first | exact Below.refl _ _ | assumption | refine below_step ?_ (by assumption) | refine Below.drew ?_ | refine below_drewN ?_ _ | refine below_alloc ?_ _ | refine Below.setCell ?_ (by simp; try omega) _))
            exact AllReadyH.nil
          exact AllReadyH.nil
        exact AllReadyH.nil
      refine AllReadyH.cons (o := _) rfl (fun K hK => ?stp73) ?more74
      case stp73 =>
        go_simp
        refine hK.out _ _ ?hS75 (fun hHeld2 => ?rest76)
        case hS75 => (exact ⟨(FE7.al _).cell 0 (by simp), (FE7.al _).cell 1 (by simp), (FE7.al _).cell 2 (by simp), (FE7.al _).cell 3 (by simp), (FE7.al _).cell 4 (by simp)⟩)
        clear hK K hHeld
        have hHeld := hHeld2
        clear hHeld2
        try simp only [Act.put, List.setIfInBounds_toArray, List.set_cons_zero, List.set_cons_succ]
        refine wpAnyH_ready (rs := [1]) (by kernel_rfl) (by simp) ?_
        refine AllReadyH.cons (o := _) rfl (fun K hK => ?stp50) ?more51
        case stp50 =>
          go_simp
          refine hK.out _ _ ?hS52 (fun hHeld2 => ?rest53)
          case hS52 => (exact hHeld)
          clear hK K hHeld
          have hHeld := hHeld2
          clear hHeld2
          try simp only [Act.put, List.setIfInBounds_toArray, List.set_cons_zero, List.set_cons_succ]
          refine wpAnyH_ready (rs := [15]) (by kernel_rfl) (by simp) ?_
          refine AllReadyH.cons (o := _) rfl (fun K hK => ?stp46) ?more47
          case stp46 =>
            refine step_appG (w := w7) (f := fSectorSpec) rfl (.tmp 81) (.tmp 94) 24 rfl eltSectorSpec hby (.slice A4 xs.length c4) xs xs.length rfl rfl R7 #[.int .i64 a0, .int .i64 a1, .int .i64 a2, .int .i64 a3, .string (invB a4), .bool false, .bool false, .bool false] 41 (⟨a0, a1, a2, a3, invB a4, false, false, false⟩ : DSectorSpec) 1 rfl rfl rfl (oneSS _) hbig hT7 ?_
            intro v8 w8 R8 hg8 hat8 hbl8
            obtain ⟨A8, c8, rfl⟩ := own_form R8
            rw [List.length_append] at R8 hat8
            have FD8 := (FD7.al (.cells #[.int .i64 a0, .int .i64 a1, .int .i64 a2, .int .i64 a3, .string (invB a4), .bool false, .bool false, .bool false] 41)).grown hg8 hDn
            have FE8 := (FE7.al (.cells #[.int .i64 a0, .int .i64 a1, .int .i64 a2, .int .i64 a3, .string (invB a4), .bool false, .bool false, .bool false] 41)).grown hg8 hRE
            have F48 := F47.below hbl8 h2T
            have hB8 : Below w.heap.size w w8 := hB7.trans (hbl8.mono (Nat.le_of_lt (Nat.lt_trans (Nat.lt_add_of_pos_right (by decide)) h2T)))
            have hn8D : (Value.slice A8 (xs.length + 1) c8).ownBlock ≠ some D := by
              rcases hat8 with e | e
              · rw [show (Value.slice A8 (xs.length + 1) c8).ownBlock = _ from e]; exact hDn
              · rw [show (Value.slice A8 (xs.length + 1) c8).ownBlock = _ from e]; intro e2; have := Option.some.inj e2; omega
            have g2 : (_ : Option Value) = some (.slice A4 xs.length c4) := FD8.cell 2 (by simp)
            have hf8 := fun j => FD8.free j
            refine hK.out _ _ ?hS48 (fun hHeld2 => ?rest49)
            case hS48 => (exact ⟨FE8.cell 0 (by simp), FE8.cell 1 (by simp), FE8.cell 2 (by simp), FE8.cell 3 (by simp), FE8.cell 4 (by simp)⟩)
            clear hK K hHeld
            have hHeld := hHeld2
            clear hHeld2
            try simp only [Act.put, List.setIfInBounds_toArray, List.set_cons_zero, List.set_cons_succ]
            refine wpAnyH_take (i := 16) (oi := _) (v := ?v39) rfl (by kernel_rfl) (by kernel_rfl) (by kernel_rfl) (fun _ _ _ h => h) (Or.inl ⟨by rfl, ?hy40⟩) hHeld ?rest41
            case hy40 => (intro w hSw; (try dsimp only at hSw); go_simp; (try with_reducible rfl))
            try simp only [Act.put, List.setIfInBounds_toArray, List.set_cons_zero, List.set_cons_succ]
            refine wpAnyH_ready (rs := [17]) (by kernel_rfl) (by simp) ?_
            refine AllReadyH.cons (o := _) rfl (fun K hK => ?stp42) ?more43
            case stp42 =>
              go_simp
              refine hK.out _ _ ?hS44 (fun hHeld2 => ?rest45)
              case hS44 => (exact ⟨(World.cell?_setCell_far _ _ _ _ hDE').trans hHeld.1, (World.cell?_setCell_far _ _ _ _ hDE').trans hHeld.2.1, (World.cell?_setCell_far _ _ _ _ hDE').trans hHeld.2.2.1, (World.cell?_setCell_far _ _ _ _ hDE').trans hHeld.2.2.2.1, (World.cell?_setCell_far _ _ _ _ hDE').trans hHeld.2.2.2.2⟩)
              clear hK K hHeld
              have hHeld := hHeld2
              clear hHeld2
              try simp only [Act.put, List.setIfInBounds_toArray, List.set_cons_zero, List.set_cons_succ]
              refine wpAnyH_done (by kernel_rfl) ?_ _
              have FD9 := FD8.put 2 (.slice A8 (xs.length + 1) c8)
              have F49 := F48.far (a := ⟨D, 2, none⟩) (show w.heap.size + 2 ≠ D by omega) (.slice A8 (xs.length + 1) c8)
              have hB9 : Below w.heap.size w _ := Below.setCell hB8 (p := ⟨D, 2, none⟩) (show w.heap.size ≤ D by omega) (.slice A8 (xs.length + 1) c8)
              have d0 : (_ : Option Value) = some (.int .i64 f) := FD9.cell 0 (by simp)
              have d1 : (_ : Option Value) = some (.int .i64 gp) := FD9.cell 1 (by simp)
              have d2 : (_ : Option Value) = some (.slice A8 (xs.length + 1) c8) := FD9.cell 2 (by simp)
              have z0 : (_ : Option Value) = some (.int .i64 0) := F49.cell 0 (by simp)
              have z1 : (_ : Option Value) = some (.int .i64 0) := F49.cell 1 (by simp)
              have z2 : (_ : Option Value) = some (.slice none 0 0) := F49.cell 2 (by simp)
              have hfz := fun j => F49.free j
              go_wp2
              refine bodyPost_ret (v := .tuple #[.agg #[.int .i64 f, .int .i64 (gp), .slice A8 (xs.length + 1) c8], .int .i64 0]) (by simp [results, Tryz.results29, go_sem, World.cell?_setCell_other, z0, z1, z2]) rfl ⟨.slice A8 (xs.length + 1) c8, by rw [HC.out] <;> rfl, ?_, ?_⟩
              · rw [HC.out, HL.out, HYh.out, List.length_append]
                exact own_base (OO.put (OO.put (OO.put (OO.putne R8 hn8D _) h3s _) h3s _) h3s _) (Nat.le_trans (Nat.le_add_right _ 2) (Nat.le_of_lt h3s))
              · exact (by with_reducible repeat (first | exact Below.refl _ _ | assumption | refine below_step ?_ (by assumption) | refine Below.drew ?_ | refine below_drewN ?_ _ | refine below_alloc ?_ _ | refine Below.setCell ?_ (by simp; try omega) _))
            exact AllReadyH.nil
          exact AllReadyH.nil
        exact AllReadyH.nil
      exact AllReadyH.nil
    exact AllReadyH.nil
  have n1 : (k == 1) = false := by simp; omega
  by_cases hsn : (xs.length : Int) ≤ s
  · have HC := Lib.hid (pr_ob (g := gp) (x := x) h57 h8 h1 hsn)
    go_wp2
    refine bodyPost_ret (v := .tuple #[.agg #[.int .i64 0, .int .i64 0, .slice none 0 0], .int .i64 2]) (by simp [results, Tryz.results29, go_sem, World.cell?_setCell_other, z0, z1, z2]) rfl ⟨.slice none 0 0, by rw [HC.out]; rfl, ?_, ?_⟩
    · rw [HC.out]; exact World.ownsRow_nil _ _ _ _
    · exact (by with_reducible repeat (first | exact Below.refl _ _ | assumption | refine below_step ?_ (by assumption) | refine Below.drew ?_ | refine below_drewN ?_ _ | refine below_alloc ?_ _ | refine Below.setCell ?_ (by simp; try omega) _))
  have HC := Lib.hid (pr_o (g := gp) (x := x) h57 h8 h1 hsn)
  have hs := fe_s hfs
  obtain ⟨I, rfl⟩ : ∃ I : Nat, s = (I : Int) := ⟨s.toNat, by omega⟩
  have hIl : I < xs.length := by omega
  have hIi : ¬ (xs.length : Int) ≤ (I : Int) := hsn
  have hIj : (I : Int) < (xs.length : Int) := by omega
  have hpos : 0 < xs.length := by omega
  have hkk := fe_k hfs
  obtain ⟨h00, h01, -⟩ := ts_ss hts hIl
  have HL := Lib.hid (prL_k (xs := xs) (x := x) h8 h1 hIl)
  obtain ⟨b, c9, hv⟩ := Go.Joins.ownsRow_form R4 hpos
  cases hv
  have hb3 := (World.ownsRow.lt R4 b rfl).1
  have hbD : b ≠ D := fun e => hDn (by rw [e]; rfl)
  have hb1 : b ≠ w.heap.size + 1 := by omega
  have hb2 : b ≠ w.heap.size + 2 := by omega
  have hbw : w.heap.size ≤ b := by omega
  have hT0 : w.heap.size ≤ T3 := by omega
  have hk4 : k = 2 ∨ k = 3 ∨ k = 4 ∨ k = 6 := by omega
  clear h57 h8 h1 hkk n1 n5 n7 n8 hfs hs
  rcases hk4 with rfl | hk4
  · have hc0 : (World.drew w5).cell? ⟨b, I * 8, none⟩ = some (.int .i64 xs[I].f0) := own_get R4 fSectorSpec_len hIl (q := 0) (by decide) (u := .int .i64 xs[I].f0) rfl
    have hf0 : (World.drew w5).frozen? ⟨b, I * 8, none⟩ = false := World.ownsRow.frozenAt (OO.dr R4) (I * 8)
    have R5 := (World.ownsRow.stored (OO.dr R4) (I * 8) (.int .i64 (255 - xs[I].f0))).1
    rw [show I * 8 = I * 8 + 0 from rfl, flat_setq fSectorSpec 8 fSectorSpec_len xs I 0 (.int .i64 (255 - xs[I].f0)) (prS 2 xs[I]) hIl (by decide) rfl] at R5
    have FD5 := (BX.dr0 FD).far (a := ⟨b, I * 8, none⟩) hbD.symm (.int .i64 (255 - xs[I].f0))
    have F45 := (BX.dr0 F4).far (a := ⟨b, I * 8, none⟩) hb2.symm (.int .i64 (255 - xs[I].f0))
    have F35 := (BX.dr0 F3).far (a := ⟨b, I * 8, none⟩) hb1.symm (.int .i64 (255 - xs[I].f0))
    have hB5 : Below w.heap.size w _ := Below.setCell (Below.drew hB) (p := ⟨b, I * 8, none⟩) hbw (.int .i64 (255 - xs[I].f0))
    go_upto_region 7 with fail
    clear z0 z1 z2 hfz d0 d1 d2 hfd e0 e1 e2 k0 k1 k2
    refine wp_region_held_drew (S := (fun W => W.cell? ⟨D, 2, none⟩ = some (.slice (some ⟨b, 0, none⟩) xs.length c4) ∧ W.cell? ⟨w.heap.size + 1, 0, none⟩ = some (.int .i64 2) ∧ W.cell? ⟨w.heap.size + 1, 1, none⟩ = some (.int .i64 (I : Int)))) (by kernel_rfl) ?hS107 (fun hHeld => ?rest108)
    case hS107 => (exact ⟨FD.cell 2 (by simp), F3.cell 0 (by simp), F3.cell 1 (by simp)⟩)
    refine wpAnyH_take (i := 0) (oi := _) (v := ?v109) rfl (by kernel_rfl) (by kernel_rfl) (by kernel_rfl) (fun _ _ _ h => h) (Or.inl ⟨by rfl, ?hy110⟩) hHeld ?rest111
    case hy110 => (intro w hSw; (try dsimp only at hSw); go_simp; (try with_reducible rfl))
    try simp only [Act.put, List.setIfInBounds_toArray, List.set_cons_zero, List.set_cons_succ]
    refine wpAnyH_take (i := 1) (oi := _) (v := ?v112) rfl (by kernel_rfl) (by kernel_rfl) (by kernel_rfl) (fun _ _ _ h => h) (Or.inl ⟨by rfl, ?hy113⟩) hHeld ?rest114
    case hy113 => (intro w hSw; (try dsimp only at hSw); go_simp; (try with_reducible rfl))
    try simp only [Act.put, List.setIfInBounds_toArray, List.set_cons_zero, List.set_cons_succ]
    refine wpAnyH_take (i := 2) (oi := _) (v := ?v115) rfl (by kernel_rfl) (by kernel_rfl) (by kernel_rfl) (fun _ _ _ h => h) (Or.inl ⟨by rfl, ?hy116⟩) hHeld ?rest117
    case hy116 => (intro w hSw; (try dsimp only at hSw); go_simp; (try with_reducible rfl))
    try simp only [Act.put, List.setIfInBounds_toArray, List.set_cons_zero, List.set_cons_succ]
    refine wpAnyH_take (i := 3) (oi := _) (v := ?v118) rfl (by kernel_rfl) (by kernel_rfl) (by kernel_rfl) (fun _ _ _ h => h) (Or.inl ⟨by rfl, ?hy119⟩) hHeld ?rest120
    case hy119 => (intro w hSw; (try dsimp only at hSw); go_simp; (try with_reducible rfl))
    try simp only [Act.put, List.setIfInBounds_toArray, List.set_cons_zero, List.set_cons_succ]
    refine wpAnyH_take (i := 4) (oi := _) (v := ?v121) rfl (by kernel_rfl) (by kernel_rfl) (by kernel_rfl) (fun _ _ _ h => h) (Or.inl ⟨by rfl, ?hy122⟩) hHeld ?rest123
    case hy122 => (intro w hSw; (try dsimp only at hSw); go_simp; (try with_reducible rfl))
    try simp only [Act.put, List.setIfInBounds_toArray, List.set_cons_zero, List.set_cons_succ]
    refine wpAnyH_take (i := 5) (oi := _) (v := ?v124) rfl (by kernel_rfl) (by kernel_rfl) (by kernel_rfl) (fun _ _ _ h => h) (Or.inl ⟨by rfl, ?hy125⟩) hHeld ?rest126
    case hy125 => (intro w hSw; (try dsimp only at hSw); go_simp; (try with_reducible rfl))
    try simp only [Act.put, List.setIfInBounds_toArray, List.set_cons_zero, List.set_cons_succ]
    refine wpAnyH_take (i := 6) (oi := _) (v := ?v127) rfl (by kernel_rfl) (by kernel_rfl) (by kernel_rfl) (fun _ _ _ h => h) (Or.inl ⟨by rfl, ?hy128⟩) hHeld ?rest129
    case hy128 => (intro w hSw; (try dsimp only at hSw); go_simp; (try with_reducible rfl))
    try simp only [Act.put, List.setIfInBounds_toArray, List.set_cons_zero, List.set_cons_succ]
    refine wpAnyH_ready (rs := [7]) (by kernel_rfl) (by simp) ?_
    refine AllReadyH.cons (o := _) rfl (fun K hK => ?stp130) ?more131
    case stp130 =>
      go_simp
      go_at_call 52
      (with_reducible refine (l11Sector2_any b (I * 8) xs[I].f0 w5.drew h00 h01 hc0 hf0).mono ?_)
      rintro e w8 ⟨rfl, rfl⟩
      refine hK.out _ _ ?hS132 (fun hHeld2 => ?rest133)
      case hS132 => (exact ⟨FD5.cell 2 (by simp), F35.cell 0 (by simp), F35.cell 1 (by simp)⟩)
      clear hK K hHeld
      have hHeld := hHeld2
      clear hHeld2
      try simp only [Act.put, List.setIfInBounds_toArray, List.set_cons_zero, List.set_cons_succ]
      refine wpAnyH_done (by kernel_rfl) ?_ _
      have d0 : (_ : Option Value) = some (.int .i64 f) := FD5.cell 0 (by simp)
      have d1 : (_ : Option Value) = some (.int .i64 gp) := FD5.cell 1 (by simp)
      have d2 : (_ : Option Value) = some (.slice (some ⟨b, 0, none⟩) xs.length c4) := FD5.cell 2 (by simp)
      have z0 : (_ : Option Value) = some (.int .i64 0) := F45.cell 0 (by simp)
      have z1 : (_ : Option Value) = some (.int .i64 0) := F45.cell 1 (by simp)
      have z2 : (_ : Option Value) = some (.slice none 0 0) := F45.cell 2 (by simp)
      have hfz := fun j => F45.free j
      generalize (World.drew w5).setCell ⟨b, I * 8, none⟩ (.int .i64 (255 - xs[I].f0)) = w8 at *
      go_wp2
      refine bodyPost_ret (v := .tuple #[.agg #[.int .i64 f, .int .i64 (gp), .slice (some ⟨b, 0, none⟩) xs.length c4], .int .i64 0]) (by simp [results, Tryz.results29, go_sem, World.cell?_setCell_other, z0, z1, z2]) rfl ⟨.slice (some ⟨b, 0, none⟩) xs.length c4, by rw [HC.out] <;> rfl, ?_, ?_⟩
      · rw [HC.out, HL.out, List.length_set]
        exact own_base (OO.put (OO.put (OO.put (R5) h3s _) h3s _) h3s _) (Nat.le_trans (Nat.le_add_right _ 2) (Nat.le_of_lt h3s))
      · exact (by with_reducible repeat (first | exact Below.refl _ _ | assumption | refine below_step ?_ (by assumption) | refine Below.drew ?_ | refine below_drewN ?_ _ | refine below_alloc ?_ _ | refine Below.setCell ?_ (by simp; try omega) _))
    exact AllReadyH.nil
  rcases hk4 with rfl | hk4
  · have hc0 : (World.drew w5).cell? ⟨b, I * 8 + 6, none⟩ = some (.bool xs[I].f6) := own_get R4 fSectorSpec_len hIl (q := 6) (by decide) (u := .bool xs[I].f6) rfl
    have hf0 : (World.drew w5).frozen? ⟨b, I * 8 + 6, none⟩ = false := World.ownsRow.frozenAt (OO.dr R4) (I * 8 + 6)
    have R5 := (World.ownsRow.stored (OO.dr R4) (I * 8 + 6) (.bool true)).1
    rw [flat_setq fSectorSpec 8 fSectorSpec_len xs I 6 (.bool true) (prS 3 xs[I]) hIl (by decide) rfl] at R5
    have FD5 := (BX.dr0 FD).far (a := ⟨b, I * 8 + 6, none⟩) hbD.symm (.bool true)
    have F45 := (BX.dr0 F4).far (a := ⟨b, I * 8 + 6, none⟩) hb2.symm (.bool true)
    have F35 := (BX.dr0 F3).far (a := ⟨b, I * 8 + 6, none⟩) hb1.symm (.bool true)
    have hB5 : Below w.heap.size w _ := Below.setCell (Below.drew hB) (p := ⟨b, I * 8 + 6, none⟩) hbw (.bool true)
    go_upto_region 7 with fail
    clear z0 z1 z2 hfz d0 d1 d2 hfd e0 e1 e2 k0 k1 k2
    refine wp_region_held_drew (S := (fun W => W.cell? ⟨D, 2, none⟩ = some (.slice (some ⟨b, 0, none⟩) xs.length c4) ∧ W.cell? ⟨w.heap.size + 1, 0, none⟩ = some (.int .i64 3) ∧ W.cell? ⟨w.heap.size + 1, 1, none⟩ = some (.int .i64 (I : Int)))) (by kernel_rfl) ?hS134 (fun hHeld => ?rest135)
    case hS134 => (exact ⟨FD.cell 2 (by simp), F3.cell 0 (by simp), F3.cell 1 (by simp)⟩)
    refine wpAnyH_take (i := 0) (oi := _) (v := ?v136) rfl (by kernel_rfl) (by kernel_rfl) (by kernel_rfl) (fun _ _ _ h => h) (Or.inl ⟨by rfl, ?hy137⟩) hHeld ?rest138
    case hy137 => (intro w hSw; (try dsimp only at hSw); go_simp; (try with_reducible rfl))
    try simp only [Act.put, List.setIfInBounds_toArray, List.set_cons_zero, List.set_cons_succ]
    refine wpAnyH_take (i := 1) (oi := _) (v := ?v139) rfl (by kernel_rfl) (by kernel_rfl) (by kernel_rfl) (fun _ _ _ h => h) (Or.inl ⟨by rfl, ?hy140⟩) hHeld ?rest141
    case hy140 => (intro w hSw; (try dsimp only at hSw); go_simp; (try with_reducible rfl))
    try simp only [Act.put, List.setIfInBounds_toArray, List.set_cons_zero, List.set_cons_succ]
    refine wpAnyH_take (i := 2) (oi := _) (v := ?v142) rfl (by kernel_rfl) (by kernel_rfl) (by kernel_rfl) (fun _ _ _ h => h) (Or.inl ⟨by rfl, ?hy143⟩) hHeld ?rest144
    case hy143 => (intro w hSw; (try dsimp only at hSw); go_simp; (try with_reducible rfl))
    try simp only [Act.put, List.setIfInBounds_toArray, List.set_cons_zero, List.set_cons_succ]
    refine wpAnyH_take (i := 3) (oi := _) (v := ?v145) rfl (by kernel_rfl) (by kernel_rfl) (by kernel_rfl) (fun _ _ _ h => h) (Or.inl ⟨by rfl, ?hy146⟩) hHeld ?rest147
    case hy146 => (intro w hSw; (try dsimp only at hSw); go_simp; (try with_reducible rfl))
    try simp only [Act.put, List.setIfInBounds_toArray, List.set_cons_zero, List.set_cons_succ]
    refine wpAnyH_take (i := 4) (oi := _) (v := ?v148) rfl (by kernel_rfl) (by kernel_rfl) (by kernel_rfl) (fun _ _ _ h => h) (Or.inl ⟨by rfl, ?hy149⟩) hHeld ?rest150
    case hy149 => (intro w hSw; (try dsimp only at hSw); go_simp; (try with_reducible rfl))
    try simp only [Act.put, List.setIfInBounds_toArray, List.set_cons_zero, List.set_cons_succ]
    refine wpAnyH_take (i := 5) (oi := _) (v := ?v151) rfl (by kernel_rfl) (by kernel_rfl) (by kernel_rfl) (fun _ _ _ h => h) (Or.inl ⟨by rfl, ?hy152⟩) hHeld ?rest153
    case hy152 => (intro w hSw; (try dsimp only at hSw); go_simp; (try with_reducible rfl))
    try simp only [Act.put, List.setIfInBounds_toArray, List.set_cons_zero, List.set_cons_succ]
    refine wpAnyH_take (i := 6) (oi := _) (v := ?v154) rfl (by kernel_rfl) (by kernel_rfl) (by kernel_rfl) (fun _ _ _ h => h) (Or.inl ⟨by rfl, ?hy155⟩) hHeld ?rest156
    case hy155 => (intro w hSw; (try dsimp only at hSw); go_simp; (try with_reducible rfl))
    try simp only [Act.put, List.setIfInBounds_toArray, List.set_cons_zero, List.set_cons_succ]
    refine wpAnyH_ready (rs := [7]) (by kernel_rfl) (by simp) ?_
    refine AllReadyH.cons (o := _) rfl (fun K hK => ?stp157) ?more158
    case stp157 =>
      go_simp
      go_at_call 52
      (with_reducible refine (l11Sector3_any b (I * 8) xs[I].f6 w5.drew hc0 hf0).mono ?_)
      rintro e w8 ⟨rfl, rfl⟩
      refine hK.out _ _ ?hS159 (fun hHeld2 => ?rest160)
      case hS159 => (exact ⟨FD5.cell 2 (by simp), F35.cell 0 (by simp), F35.cell 1 (by simp)⟩)
      clear hK K hHeld
      have hHeld := hHeld2
      clear hHeld2
      try simp only [Act.put, List.setIfInBounds_toArray, List.set_cons_zero, List.set_cons_succ]
      refine wpAnyH_done (by kernel_rfl) ?_ _
      have d0 : (_ : Option Value) = some (.int .i64 f) := FD5.cell 0 (by simp)
      have d1 : (_ : Option Value) = some (.int .i64 gp) := FD5.cell 1 (by simp)
      have d2 : (_ : Option Value) = some (.slice (some ⟨b, 0, none⟩) xs.length c4) := FD5.cell 2 (by simp)
      have z0 : (_ : Option Value) = some (.int .i64 0) := F45.cell 0 (by simp)
      have z1 : (_ : Option Value) = some (.int .i64 0) := F45.cell 1 (by simp)
      have z2 : (_ : Option Value) = some (.slice none 0 0) := F45.cell 2 (by simp)
      have hfz := fun j => F45.free j
      generalize (World.drew w5).setCell ⟨b, I * 8 + 6, none⟩ (.bool true) = w8 at *
      go_wp2
      refine bodyPost_ret (v := .tuple #[.agg #[.int .i64 f, .int .i64 (gp), .slice (some ⟨b, 0, none⟩) xs.length c4], .int .i64 0]) (by simp [results, Tryz.results29, go_sem, World.cell?_setCell_other, z0, z1, z2]) rfl ⟨.slice (some ⟨b, 0, none⟩) xs.length c4, by rw [HC.out] <;> rfl, ?_, ?_⟩
      · rw [HC.out, HL.out, List.length_set]
        exact own_base (OO.put (OO.put (OO.put (R5) h3s _) h3s _) h3s _) (Nat.le_trans (Nat.le_add_right _ 2) (Nat.le_of_lt h3s))
      · exact (by with_reducible repeat (first | exact Below.refl _ _ | assumption | refine below_step ?_ (by assumption) | refine Below.drew ?_ | refine below_drewN ?_ _ | refine below_alloc ?_ _ | refine Below.setCell ?_ (by simp; try omega) _))
    exact AllReadyH.nil
  rcases hk4 with rfl | rfl
  · have hc0 : (World.drew w5).cell? ⟨b, I * 8 + 7, none⟩ = some (.bool xs[I].f7) := own_get R4 fSectorSpec_len hIl (q := 7) (by decide) (u := .bool xs[I].f7) rfl
    have hf0 : (World.drew w5).frozen? ⟨b, I * 8 + 7, none⟩ = false := World.ownsRow.frozenAt (OO.dr R4) (I * 8 + 7)
    have R5 := (World.ownsRow.stored (OO.dr R4) (I * 8 + 7) (.bool true)).1
    rw [flat_setq fSectorSpec 8 fSectorSpec_len xs I 7 (.bool true) (prS 4 xs[I]) hIl (by decide) rfl] at R5
    have FD5 := (BX.dr0 FD).far (a := ⟨b, I * 8 + 7, none⟩) hbD.symm (.bool true)
    have F45 := (BX.dr0 F4).far (a := ⟨b, I * 8 + 7, none⟩) hb2.symm (.bool true)
    have F35 := (BX.dr0 F3).far (a := ⟨b, I * 8 + 7, none⟩) hb1.symm (.bool true)
    have hB5 : Below w.heap.size w _ := Below.setCell (Below.drew hB) (p := ⟨b, I * 8 + 7, none⟩) hbw (.bool true)
    go_upto_region 7 with fail
    clear z0 z1 z2 hfz d0 d1 d2 hfd e0 e1 e2 k0 k1 k2
    refine wp_region_held_drew (S := (fun W => W.cell? ⟨D, 2, none⟩ = some (.slice (some ⟨b, 0, none⟩) xs.length c4) ∧ W.cell? ⟨w.heap.size + 1, 0, none⟩ = some (.int .i64 4) ∧ W.cell? ⟨w.heap.size + 1, 1, none⟩ = some (.int .i64 (I : Int)))) (by kernel_rfl) ?hS161 (fun hHeld => ?rest162)
    case hS161 => (exact ⟨FD.cell 2 (by simp), F3.cell 0 (by simp), F3.cell 1 (by simp)⟩)
    refine wpAnyH_take (i := 0) (oi := _) (v := ?v163) rfl (by kernel_rfl) (by kernel_rfl) (by kernel_rfl) (fun _ _ _ h => h) (Or.inl ⟨by rfl, ?hy164⟩) hHeld ?rest165
    case hy164 => (intro w hSw; (try dsimp only at hSw); go_simp; (try with_reducible rfl))
    try simp only [Act.put, List.setIfInBounds_toArray, List.set_cons_zero, List.set_cons_succ]
    refine wpAnyH_take (i := 1) (oi := _) (v := ?v166) rfl (by kernel_rfl) (by kernel_rfl) (by kernel_rfl) (fun _ _ _ h => h) (Or.inl ⟨by rfl, ?hy167⟩) hHeld ?rest168
    case hy167 => (intro w hSw; (try dsimp only at hSw); go_simp; (try with_reducible rfl))
    try simp only [Act.put, List.setIfInBounds_toArray, List.set_cons_zero, List.set_cons_succ]
    refine wpAnyH_take (i := 2) (oi := _) (v := ?v169) rfl (by kernel_rfl) (by kernel_rfl) (by kernel_rfl) (fun _ _ _ h => h) (Or.inl ⟨by rfl, ?hy170⟩) hHeld ?rest171
    case hy170 => (intro w hSw; (try dsimp only at hSw); go_simp; (try with_reducible rfl))
    try simp only [Act.put, List.setIfInBounds_toArray, List.set_cons_zero, List.set_cons_succ]
    refine wpAnyH_take (i := 3) (oi := _) (v := ?v172) rfl (by kernel_rfl) (by kernel_rfl) (by kernel_rfl) (fun _ _ _ h => h) (Or.inl ⟨by rfl, ?hy173⟩) hHeld ?rest174
    case hy173 => (intro w hSw; (try dsimp only at hSw); go_simp; (try with_reducible rfl))
    try simp only [Act.put, List.setIfInBounds_toArray, List.set_cons_zero, List.set_cons_succ]
    refine wpAnyH_take (i := 4) (oi := _) (v := ?v175) rfl (by kernel_rfl) (by kernel_rfl) (by kernel_rfl) (fun _ _ _ h => h) (Or.inl ⟨by rfl, ?hy176⟩) hHeld ?rest177
    case hy176 => (intro w hSw; (try dsimp only at hSw); go_simp; (try with_reducible rfl))
    try simp only [Act.put, List.setIfInBounds_toArray, List.set_cons_zero, List.set_cons_succ]
    refine wpAnyH_take (i := 5) (oi := _) (v := ?v178) rfl (by kernel_rfl) (by kernel_rfl) (by kernel_rfl) (fun _ _ _ h => h) (Or.inl ⟨by rfl, ?hy179⟩) hHeld ?rest180
    case hy179 => (intro w hSw; (try dsimp only at hSw); go_simp; (try with_reducible rfl))
    try simp only [Act.put, List.setIfInBounds_toArray, List.set_cons_zero, List.set_cons_succ]
    refine wpAnyH_take (i := 6) (oi := _) (v := ?v181) rfl (by kernel_rfl) (by kernel_rfl) (by kernel_rfl) (fun _ _ _ h => h) (Or.inl ⟨by rfl, ?hy182⟩) hHeld ?rest183
    case hy182 => (intro w hSw; (try dsimp only at hSw); go_simp; (try with_reducible rfl))
    try simp only [Act.put, List.setIfInBounds_toArray, List.set_cons_zero, List.set_cons_succ]
    refine wpAnyH_ready (rs := [7]) (by kernel_rfl) (by simp) ?_
    refine AllReadyH.cons (o := _) rfl (fun K hK => ?stp184) ?more185
    case stp184 =>
      go_simp
      go_at_call 52
      (with_reducible refine (l11Sector4_any b (I * 8) xs[I].f7 w5.drew hc0 hf0).mono ?_)
      rintro e w8 ⟨rfl, rfl⟩
      refine hK.out _ _ ?hS186 (fun hHeld2 => ?rest187)
      case hS186 => (exact ⟨FD5.cell 2 (by simp), F35.cell 0 (by simp), F35.cell 1 (by simp)⟩)
      clear hK K hHeld
      have hHeld := hHeld2
      clear hHeld2
      try simp only [Act.put, List.setIfInBounds_toArray, List.set_cons_zero, List.set_cons_succ]
      refine wpAnyH_done (by kernel_rfl) ?_ _
      have d0 : (_ : Option Value) = some (.int .i64 f) := FD5.cell 0 (by simp)
      have d1 : (_ : Option Value) = some (.int .i64 gp) := FD5.cell 1 (by simp)
      have d2 : (_ : Option Value) = some (.slice (some ⟨b, 0, none⟩) xs.length c4) := FD5.cell 2 (by simp)
      have z0 : (_ : Option Value) = some (.int .i64 0) := F45.cell 0 (by simp)
      have z1 : (_ : Option Value) = some (.int .i64 0) := F45.cell 1 (by simp)
      have z2 : (_ : Option Value) = some (.slice none 0 0) := F45.cell 2 (by simp)
      have hfz := fun j => F45.free j
      generalize (World.drew w5).setCell ⟨b, I * 8 + 7, none⟩ (.bool true) = w8 at *
      go_wp2
      refine bodyPost_ret (v := .tuple #[.agg #[.int .i64 f, .int .i64 (gp), .slice (some ⟨b, 0, none⟩) xs.length c4], .int .i64 0]) (by simp [results, Tryz.results29, go_sem, World.cell?_setCell_other, z0, z1, z2]) rfl ⟨.slice (some ⟨b, 0, none⟩) xs.length c4, by rw [HC.out] <;> rfl, ?_, ?_⟩
      · rw [HC.out, HL.out, List.length_set]
        exact own_base (OO.put (OO.put (OO.put (R5) h3s _) h3s _) h3s _) (Nat.le_trans (Nat.le_add_right _ 2) (Nat.le_of_lt h3s))
      · exact (by with_reducible repeat (first | exact Below.refl _ _ | assumption | refine below_step ?_ (by assumption) | refine Below.drew ?_ | refine below_drewN ?_ _ | refine below_alloc ?_ _ | refine Below.setCell ?_ (by simp; try omega) _))
    exact AllReadyH.nil
  · have hc0 : (World.drew w5).cell? ⟨b, I * 8 + 5, none⟩ = some (.bool xs[I].f5) := own_get R4 fSectorSpec_len hIl (q := 5) (by decide) (u := .bool xs[I].f5) rfl
    have hf0 : (World.drew w5).frozen? ⟨b, I * 8 + 5, none⟩ = false := World.ownsRow.frozenAt (OO.dr R4) (I * 8 + 5)
    have R5 := (World.ownsRow.stored (OO.dr R4) (I * 8 + 5) (.bool true)).1
    rw [flat_setq fSectorSpec 8 fSectorSpec_len xs I 5 (.bool true) (prS 6 xs[I]) hIl (by decide) rfl] at R5
    have FD5 := (BX.dr0 FD).far (a := ⟨b, I * 8 + 5, none⟩) hbD.symm (.bool true)
    have F45 := (BX.dr0 F4).far (a := ⟨b, I * 8 + 5, none⟩) hb2.symm (.bool true)
    have F35 := (BX.dr0 F3).far (a := ⟨b, I * 8 + 5, none⟩) hb1.symm (.bool true)
    have hB5 : Below w.heap.size w _ := Below.setCell (Below.drew hB) (p := ⟨b, I * 8 + 5, none⟩) hbw (.bool true)
    go_upto_region 7 with fail
    clear z0 z1 z2 hfz d0 d1 d2 hfd e0 e1 e2 k0 k1 k2
    refine wp_region_held_drew (S := (fun W => W.cell? ⟨D, 2, none⟩ = some (.slice (some ⟨b, 0, none⟩) xs.length c4) ∧ W.cell? ⟨w.heap.size + 1, 0, none⟩ = some (.int .i64 6) ∧ W.cell? ⟨w.heap.size + 1, 1, none⟩ = some (.int .i64 (I : Int)))) (by kernel_rfl) ?hS188 (fun hHeld => ?rest189)
    case hS188 => (exact ⟨FD.cell 2 (by simp), F3.cell 0 (by simp), F3.cell 1 (by simp)⟩)
    refine wpAnyH_take (i := 0) (oi := _) (v := ?v190) rfl (by kernel_rfl) (by kernel_rfl) (by kernel_rfl) (fun _ _ _ h => h) (Or.inl ⟨by rfl, ?hy191⟩) hHeld ?rest192
    case hy191 => (intro w hSw; (try dsimp only at hSw); go_simp; (try with_reducible rfl))
    try simp only [Act.put, List.setIfInBounds_toArray, List.set_cons_zero, List.set_cons_succ]
    refine wpAnyH_take (i := 1) (oi := _) (v := ?v193) rfl (by kernel_rfl) (by kernel_rfl) (by kernel_rfl) (fun _ _ _ h => h) (Or.inl ⟨by rfl, ?hy194⟩) hHeld ?rest195
    case hy194 => (intro w hSw; (try dsimp only at hSw); go_simp; (try with_reducible rfl))
    try simp only [Act.put, List.setIfInBounds_toArray, List.set_cons_zero, List.set_cons_succ]
    refine wpAnyH_take (i := 2) (oi := _) (v := ?v196) rfl (by kernel_rfl) (by kernel_rfl) (by kernel_rfl) (fun _ _ _ h => h) (Or.inl ⟨by rfl, ?hy197⟩) hHeld ?rest198
    case hy197 => (intro w hSw; (try dsimp only at hSw); go_simp; (try with_reducible rfl))
    try simp only [Act.put, List.setIfInBounds_toArray, List.set_cons_zero, List.set_cons_succ]
    refine wpAnyH_take (i := 3) (oi := _) (v := ?v199) rfl (by kernel_rfl) (by kernel_rfl) (by kernel_rfl) (fun _ _ _ h => h) (Or.inl ⟨by rfl, ?hy200⟩) hHeld ?rest201
    case hy200 => (intro w hSw; (try dsimp only at hSw); go_simp; (try with_reducible rfl))
    try simp only [Act.put, List.setIfInBounds_toArray, List.set_cons_zero, List.set_cons_succ]
    refine wpAnyH_take (i := 4) (oi := _) (v := ?v202) rfl (by kernel_rfl) (by kernel_rfl) (by kernel_rfl) (fun _ _ _ h => h) (Or.inl ⟨by rfl, ?hy203⟩) hHeld ?rest204
    case hy203 => (intro w hSw; (try dsimp only at hSw); go_simp; (try with_reducible rfl))
    try simp only [Act.put, List.setIfInBounds_toArray, List.set_cons_zero, List.set_cons_succ]
    refine wpAnyH_take (i := 5) (oi := _) (v := ?v205) rfl (by kernel_rfl) (by kernel_rfl) (by kernel_rfl) (fun _ _ _ h => h) (Or.inl ⟨by rfl, ?hy206⟩) hHeld ?rest207
    case hy206 => (intro w hSw; (try dsimp only at hSw); go_simp; (try with_reducible rfl))
    try simp only [Act.put, List.setIfInBounds_toArray, List.set_cons_zero, List.set_cons_succ]
    refine wpAnyH_take (i := 6) (oi := _) (v := ?v208) rfl (by kernel_rfl) (by kernel_rfl) (by kernel_rfl) (fun _ _ _ h => h) (Or.inl ⟨by rfl, ?hy209⟩) hHeld ?rest210
    case hy209 => (intro w hSw; (try dsimp only at hSw); go_simp; (try with_reducible rfl))
    try simp only [Act.put, List.setIfInBounds_toArray, List.set_cons_zero, List.set_cons_succ]
    refine wpAnyH_ready (rs := [7]) (by kernel_rfl) (by simp) ?_
    refine AllReadyH.cons (o := _) rfl (fun K hK => ?stp211) ?more212
    case stp211 =>
      go_simp
      go_at_call 52
      (with_reducible refine (l11Sector0_any b (I * 8) xs[I].f5 6 w5.drew (by decide) (by decide) (by decide) hc0 hf0).mono ?_)
      rintro e w8 ⟨rfl, rfl⟩
      refine hK.out _ _ ?hS213 (fun hHeld2 => ?rest214)
      case hS213 => (exact ⟨FD5.cell 2 (by simp), F35.cell 0 (by simp), F35.cell 1 (by simp)⟩)
      clear hK K hHeld
      have hHeld := hHeld2
      clear hHeld2
      try simp only [Act.put, List.setIfInBounds_toArray, List.set_cons_zero, List.set_cons_succ]
      refine wpAnyH_done (by kernel_rfl) ?_ _
      have d0 : (_ : Option Value) = some (.int .i64 f) := FD5.cell 0 (by simp)
      have d1 : (_ : Option Value) = some (.int .i64 gp) := FD5.cell 1 (by simp)
      have d2 : (_ : Option Value) = some (.slice (some ⟨b, 0, none⟩) xs.length c4) := FD5.cell 2 (by simp)
      have z0 : (_ : Option Value) = some (.int .i64 0) := F45.cell 0 (by simp)
      have z1 : (_ : Option Value) = some (.int .i64 0) := F45.cell 1 (by simp)
      have z2 : (_ : Option Value) = some (.slice none 0 0) := F45.cell 2 (by simp)
      have hfz := fun j => F45.free j
      generalize (World.drew w5).setCell ⟨b, I * 8 + 5, none⟩ (.bool true) = w8 at *
      go_wp2
      refine bodyPost_ret (v := .tuple #[.agg #[.int .i64 f, .int .i64 (gp), .slice (some ⟨b, 0, none⟩) xs.length c4], .int .i64 0]) (by simp [results, Tryz.results29, go_sem, World.cell?_setCell_other, z0, z1, z2]) rfl ⟨.slice (some ⟨b, 0, none⟩) xs.length c4, by rw [HC.out] <;> rfl, ?_, ?_⟩
      · rw [HC.out, HL.out, List.length_set]
        exact own_base (OO.put (OO.put (OO.put (R5) h3s _) h3s _) h3s _) (Nat.le_trans (Nat.le_add_right _ 2) (Nat.le_of_lt h3s))
      · exact (by with_reducible repeat (first | exact Below.refl _ _ | assumption | refine below_step ?_ (by assumption) | refine Below.drew ?_ | refine below_drewN ?_ _ | refine below_alloc ?_ _ | refine Below.setCell ?_ (by simp; try omega) _))
    exact AllReadyH.nil
end Go.Proofs.YthelfgagddldfaaGreatDoor
