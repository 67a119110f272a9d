/- Walks: ProtectTrack (impl). -/
import Derived.Test.YthelfgagddldfaaGreatDoorPrT
namespace Go.Proofs.YthelfgagddldfaaGreatDoor
open Go.RowKit Go.Deep
set_option maxRecDepth 100000 in
set_option maxHeartbeats 400000 in
theorem size_ss_any (A : Option Addr) (n cp : Nat) (w : World) : Calls Tryz.prog 21 #[.slice A n cp] w fun e w' => e = .returned (.int .i64 (n : Int)) ∧ w = w' := by
  go_enter Tryz.func21, Tryz.ntmps21
  go_wp2
  go_ret
  exact ⟨rfl, rfl⟩

set_option maxRecDepth 100000 in
set_option maxHeartbeats 8000000 in
set_option linter.unusedSimpArgs false in
theorem impl_ProtectTrack_any (f gp k s x : Int) (A : Option Addr) (cp : Nat) (xs : List DSectorSpec) (w : World) (hr : Rd w w.heap.size 8 A xs.length (flat fSectorSpec xs)) (hn : xs.length ≤ 1048576) :
    Calls Tryz.prog 10 #[.agg #[.int .i64 f, .int .i64 gp, .slice A xs.length cp], .agg #[.int .i64 k, .int .i64 s, .int .i64 x]] w fun e w' => ∃ v, e = .returned (.tuple #[.agg #[.int .i64 (prN (prC (tsB f gp xs && feB k s x) gp xs.length k s x) f), .int .i64 (prG (prC (tsB f gp xs && feB k s x) gp xs.length k s x) gp k x), v], .int .i64 (prC (tsB f gp xs && feB k s x) gp xs.length k s x)]) ∧ w'.ownsRow w.heap.size 41 8 v (prL (prC (tsB f gp xs && feB k s x) gp xs.length k s x) xs k s x).length (flat fSectorSpec (prL (prC (tsB f gp xs && feB k s x) gp xs.length k s x) xs k s x)) ∧ Below w.heap.size w w' := by
  have F2 := ((BX.made w 26 [.int .i64 f, .int .i64 gp, .slice A xs.length cp]).al (.cells #[.int .i64 k, .int .i64 s, .int .i64 x] 29)).al (.cells #[.int .i64 0, .int .i64 0, .slice none 0 0] 26)
  have F3 := (BX.made1 w (.cells #[.int .i64 f, .int .i64 gp, .slice A xs.length cp] 26) 29 [.int .i64 k, .int .i64 s, .int .i64 x]).al (.cells #[.int .i64 0, .int .i64 0, .slice none 0 0] 26)
  have F4 : BX (((w.alloc (.cells #[.int .i64 f, .int .i64 gp, .slice A xs.length cp] 26)).alloc (.cells #[.int .i64 k, .int .i64 s, .int .i64 x] 29)).alloc (.cells #[.int .i64 0, .int .i64 0, .slice none 0 0] 26)) (w.heap.size + 2) 26 [.int .i64 0, .int .i64 0, .slice none 0 0] := by
    have h := BX.made ((w.alloc (.cells #[.int .i64 f, .int .i64 gp, .slice A xs.length cp] 26)).alloc (.cells #[.int .i64 k, .int .i64 s, .int .i64 x] 29)) 26 [.int .i64 0, .int .i64 0, .slice none 0 0]
    rw [World.size_alloc, World.size_alloc] at h
    exact h
  obtain ⟨wb, hwb⟩ : ∃ wb, wb = ((w.alloc (.cells #[.int .i64 f, .int .i64 gp, .slice A xs.length cp] 26)).alloc (.cells #[.int .i64 k, .int .i64 s, .int .i64 x] 29)).alloc (.cells #[.int .i64 0, .int .i64 0, .slice none 0 0] 26) := ⟨_, rfl⟩
  rw [← hwb] at F2 F3 F4
  have hb0 : Below w.heap.size w wb := by rw [hwb]; exact (by with_reducible repeat (first | exact Below.refl _ _ | assumption | refine below_step ?_ (by assumption) | refine Below.drew ?_ | refine below_drewN ?_ _ | refine below_alloc ?_ _ | refine Below.setCell ?_ (by simp; try omega) _))
  have hrb := (hr.below hb0).more hb0.size
  have HW := Lib.hid hwb
  clear hwb
  have hq := impl_ValidTrackSpec_any f gp A cp xs wb hrb hn
  have hfe := fun W => impl_ValidFeature_any k s x W
  have hxg : ∀ W : World, Below w.heap.size w W → Rd W w.heap.size 8 A xs.length (flat fSectorSpec xs) := fun W hb => hr.below hb
  clear hrb
  cases hts : tsB f gp xs
  · rw [hts] at hq
    have HC := Lib.hid (pr_v (v := false && feB k s x) (g := gp) (n := xs.length) (k := k) (s := s) (x := x) (Bool.false_and _))
    go_enter Tryz.func10, Tryz.ntmps10
    go_wp2_with (go_at_call 20; rw [← HW.out]; (with_reducible refine hq.mono ?_); rintro e w2 ⟨rfl, hx2⟩; replace F2 := F2.below hx2 F2.lt; replace F3 := F3.below hx2 F3.lt; replace F4 := F4.below hx2 F4.lt; have hB : Below w.heap.size w w2 := hb0.trans (hx2.mono hb0.size); have e0 : (_ : Option Value) = some (.int .i64 f) := F2.cell 0 (by simp); have e1 : (_ : Option Value) = some (.int .i64 gp) := F2.cell 1 (by simp); have e2 : (_ : Option Value) = some (.slice A xs.length cp) := F2.cell 2 (by simp); have k0 : (_ : Option Value) = some (.int .i64 k) := F3.cell 0 (by simp); have k1 : (_ : Option Value) = some (.int .i64 s) := F3.cell 1 (by simp); have k2 : (_ : Option Value) = some (.int .i64 x) := F3.cell 2 (by simp); have z0 : (_ : Option Value) = some (.int .i64 0) := F4.cell 0 (by simp); have z1 : (_ : Option Value) = some (.int .i64 0) := F4.cell 1 (by simp); have z2 : (_ : Option Value) = some (.slice none 0 0) := F4.cell 2 (by simp); have hfz := fun j => F4.free j)
    refine bodyPost_ret (v := .tuple #[.agg #[.int .i64 0, .int .i64 0, .slice none 0 0], .int .i64 1]) (by simp [results, Tryz.results10, go_sem, World.cell?_setCell_other, z0, z1, z2]) rfl ⟨.slice none 0 0, by rw [HC.out]; rfl, ?_, ?_⟩
    · rw [HC.out]; exact World.ownsRow_nil _ _ _ _
    · exact (by with_reducible repeat (first | exact Below.refl _ _ | assumption | refine below_step ?_ (by assumption) | refine Below.drew ?_ | refine below_drewN ?_ _ | refine below_alloc ?_ _ | refine Below.setCell ?_ (by simp; try omega) _))
  rw [hts] at hq
  rw [Bool.true_and]
  cases hfs : feB k s x
  · have HC := Lib.hid (pr_v (v := false) (g := gp) (n := xs.length) (k := k) (s := s) (x := x) rfl)
    rw [hfs] at hfe
    go_enter Tryz.func10, Tryz.ntmps10
    go_wp2_with (first | (go_at_call 20; rw [← HW.out]; (with_reducible refine hq.mono ?_); rintro e w2 ⟨rfl, hx2⟩; replace F2 := F2.below hx2 F2.lt; replace F3 := F3.below hx2 F3.lt; replace F4 := F4.below hx2 F4.lt; have hB : Below w.heap.size w w2 := hb0.trans (hx2.mono hb0.size); have e0 : (_ : Option Value) = some (.int .i64 f) := F2.cell 0 (by simp); have e1 : (_ : Option Value) = some (.int .i64 gp) := F2.cell 1 (by simp); have e2 : (_ : Option Value) = some (.slice A xs.length cp) := F2.cell 2 (by simp); have k0 : (_ : Option Value) = some (.int .i64 k) := F3.cell 0 (by simp); have k1 : (_ : Option Value) = some (.int .i64 s) := F3.cell 1 (by simp); have k2 : (_ : Option Value) = some (.int .i64 x) := F3.cell 2 (by simp); have z0 : (_ : Option Value) = some (.int .i64 0) := F4.cell 0 (by simp); have z1 : (_ : Option Value) = some (.int .i64 0) := F4.cell 1 (by simp); have z2 : (_ : Option Value) = some (.slice none 0 0) := F4.cell 2 (by simp); have hfz := fun j => F4.free j) | (go_at_call 9; (with_reducible refine (hfe _).mono ?_); rintro e w3 ⟨rfl, hx3⟩; clear e0 e1 e2 k0 k1 k2 z0 z1 z2 hfz; replace F2 := F2.below hx3 F2.lt; replace F3 := F3.below hx3 F3.lt; replace F4 := F4.below hx3 F4.lt; replace hB := hB.trans (hx3.mono hB.size); have e0 : (_ : Option Value) = some (.int .i64 f) := F2.cell 0 (by simp); have e1 : (_ : Option Value) = some (.int .i64 gp) := F2.cell 1 (by simp); have e2 : (_ : Option Value) = some (.slice A xs.length cp) := F2.cell 2 (by simp); have k0 : (_ : Option Value) = some (.int .i64 k) := F3.cell 0 (by simp); have k1 : (_ : Option Value) = some (.int .i64 s) := F3.cell 1 (by simp); have k2 : (_ : Option Value) = some (.int .i64 x) := F3.cell 2 (by simp); have z0 : (_ : Option Value) = some (.int .i64 0) := F4.cell 0 (by simp); have z1 : (_ : Option Value) = some (.int .i64 0) := F4.cell 1 (by simp); have z2 : (_ : Option Value) = some (.slice none 0 0) := F4.cell 2 (by simp); have hfz := fun j => F4.free j) | (go_at_call 21; (with_reducible refine (size_ss_any A xs.length cp _).mono ?_); rintro e w9 ⟨rfl, rfl⟩))
    refine bodyPost_ret (v := .tuple #[.agg #[.int .i64 0, .int .i64 0, .slice none 0 0], .int .i64 1]) (by simp [results, Tryz.results10, go_sem, World.cell?_setCell_other, z0, z1, z2]) rfl ⟨.slice none 0 0, by rw [HC.out]; rfl, ?_, ?_⟩
    · rw [HC.out]; exact World.ownsRow_nil _ _ _ _
    · exact (by with_reducible repeat (first | exact Below.refl _ _ | assumption | refine below_step ?_ (by assumption) | refine Below.drew ?_ | refine below_drewN ?_ _ | refine below_alloc ?_ _ | refine Below.setCell ?_ (by simp; try omega) _))
  rw [hfs] at hfe
  have hn8 := ts_n hts
  have hgp := ts_g hts
  by_cases h57 : k = 5 ∨ k = 7
  · have HC := Lib.hid (pr_57 (g := gp) (n := xs.length) (s := s) (x := x) h57)
    rcases h57 with rfl | rfl
    · go_enter Tryz.func10, Tryz.ntmps10
      go_wp2_with (first | (go_at_call 20; rw [← HW.out]; (with_reducible refine hq.mono ?_); rintro e w2 ⟨rfl, hx2⟩; replace F2 := F2.below hx2 F2.lt; replace F3 := F3.below hx2 F3.lt; replace F4 := F4.below hx2 F4.lt; have hB : Below w.heap.size w w2 := hb0.trans (hx2.mono hb0.size); have e0 : (_ : Option Value) = some (.int .i64 f) := F2.cell 0 (by simp); have e1 : (_ : Option Value) = some (.int .i64 gp) := F2.cell 1 (by simp); have e2 : (_ : Option Value) = some (.slice A xs.length cp) := F2.cell 2 (by simp); have k0 : (_ : Option Value) = some (.int .i64 5) := F3.cell 0 (by simp); have k1 : (_ : Option Value) = some (.int .i64 s) := F3.cell 1 (by simp); have k2 : (_ : Option Value) = some (.int .i64 x) := F3.cell 2 (by simp); have z0 : (_ : Option Value) = some (.int .i64 0) := F4.cell 0 (by simp); have z1 : (_ : Option Value) = some (.int .i64 0) := F4.cell 1 (by simp); have z2 : (_ : Option Value) = some (.slice none 0 0) := F4.cell 2 (by simp); have hfz := fun j => F4.free j) | (go_at_call 9; (with_reducible refine (hfe _).mono ?_); rintro e w3 ⟨rfl, hx3⟩; clear e0 e1 e2 k0 k1 k2 z0 z1 z2 hfz; replace F2 := F2.below hx3 F2.lt; replace F3 := F3.below hx3 F3.lt; replace F4 := F4.below hx3 F4.lt; replace hB := hB.trans (hx3.mono hB.size); have e0 : (_ : Option Value) = some (.int .i64 f) := F2.cell 0 (by simp); have e1 : (_ : Option Value) = some (.int .i64 gp) := F2.cell 1 (by simp); have e2 : (_ : Option Value) = some (.slice A xs.length cp) := F2.cell 2 (by simp); have k0 : (_ : Option Value) = some (.int .i64 5) := F3.cell 0 (by simp); have k1 : (_ : Option Value) = some (.int .i64 s) := F3.cell 1 (by simp); have k2 : (_ : Option Value) = some (.int .i64 x) := F3.cell 2 (by simp); have z0 : (_ : Option Value) = some (.int .i64 0) := F4.cell 0 (by simp); have z1 : (_ : Option Value) = some (.int .i64 0) := F4.cell 1 (by simp); have z2 : (_ : Option Value) = some (.slice none 0 0) := F4.cell 2 (by simp); have hfz := fun j => F4.free j) | (go_at_call 21; (with_reducible refine (size_ss_any A xs.length cp _).mono ?_); rintro e w9 ⟨rfl, rfl⟩))
      refine bodyPost_ret (v := .tuple #[.agg #[.int .i64 0, .int .i64 0, .slice none 0 0], .int .i64 6]) (by simp [results, Tryz.results10, go_sem, World.cell?_setCell_other, z0, z1, z2]) rfl ⟨.slice none 0 0, by rw [HC.out]; rfl, ?_, ?_⟩
      · rw [HC.out]; exact World.ownsRow_nil _ _ _ _
      · exact (by with_reducible repeat (first | exact Below.refl _ _ | assumption | refine below_step ?_ (by assumption) | refine Below.drew ?_ | refine below_drewN ?_ _ | refine below_alloc ?_ _ | refine Below.setCell ?_ (by simp; try omega) _))
    · go_enter Tryz.func10, Tryz.ntmps10
      go_wp2_with (first | (go_at_call 20; rw [← HW.out]; (with_reducible refine hq.mono ?_); rintro e w2 ⟨rfl, hx2⟩; replace F2 := F2.below hx2 F2.lt; replace F3 := F3.below hx2 F3.lt; replace F4 := F4.below hx2 F4.lt; have hB : Below w.heap.size w w2 := hb0.trans (hx2.mono hb0.size); have e0 : (_ : Option Value) = some (.int .i64 f) := F2.cell 0 (by simp); have e1 : (_ : Option Value) = some (.int .i64 gp) := F2.cell 1 (by simp); have e2 : (_ : Option Value) = some (.slice A xs.length cp) := F2.cell 2 (by simp); have k0 : (_ : Option Value) = some (.int .i64 7) := F3.cell 0 (by simp); have k1 : (_ : Option Value) = some (.int .i64 s) := F3.cell 1 (by simp); have k2 : (_ : Option Value) = some (.int .i64 x) := F3.cell 2 (by simp); have z0 : (_ : Option Value) = some (.int .i64 0) := F4.cell 0 (by simp); have z1 : (_ : Option Value) = some (.int .i64 0) := F4.cell 1 (by simp); have z2 : (_ : Option Value) = some (.slice none 0 0) := F4.cell 2 (by simp); have hfz := fun j => F4.free j) | (go_at_call 9; (with_reducible refine (hfe _).mono ?_); rintro e w3 ⟨rfl, hx3⟩; clear e0 e1 e2 k0 k1 k2 z0 z1 z2 hfz; replace F2 := F2.below hx3 F2.lt; replace F3 := F3.below hx3 F3.lt; replace F4 := F4.below hx3 F4.lt; replace hB := hB.trans (hx3.mono hB.size); have e0 : (_ : Option Value) = some (.int .i64 f) := F2.cell 0 (by simp); have e1 : (_ : Option Value) = some (.int .i64 gp) := F2.cell 1 (by simp); have e2 : (_ : Option Value) = some (.slice A xs.length cp) := F2.cell 2 (by simp); have k0 : (_ : Option Value) = some (.int .i64 7) := F3.cell 0 (by simp); have k1 : (_ : Option Value) = some (.int .i64 s) := F3.cell 1 (by simp); have k2 : (_ : Option Value) = some (.int .i64 x) := F3.cell 2 (by simp); have z0 : (_ : Option Value) = some (.int .i64 0) := F4.cell 0 (by simp); have z1 : (_ : Option Value) = some (.int .i64 0) := F4.cell 1 (by simp); have z2 : (_ : Option Value) = some (.slice none 0 0) := F4.cell 2 (by simp); have hfz := fun j => F4.free j) | (go_at_call 21; (with_reducible refine (size_ss_any A xs.length cp _).mono ?_); rintro e w9 ⟨rfl, rfl⟩))
      refine bodyPost_ret (v := .tuple #[.agg #[.int .i64 0, .int .i64 0, .slice none 0 0], .int .i64 6]) (by simp [results, Tryz.results10, go_sem, World.cell?_setCell_other, z0, z1, z2]) rfl ⟨.slice none 0 0, by rw [HC.out]; rfl, ?_, ?_⟩
      · rw [HC.out]; exact World.ownsRow_nil _ _ _ _
      · exact (by with_reducible repeat (first | exact Below.refl _ _ | assumption | refine below_step ?_ (by assumption) | refine Below.drew ?_ | refine below_drewN ?_ _ | refine below_alloc ?_ _ | refine Below.setCell ?_ (by simp; try omega) _))
  by_cases h8 : k = 8
  · subst h8
    clear h57
    have hx := fe_8 hfs
    have hwx : IntKind.i64.wrap (gp + x) = gp + x := IntWalk.i64_in _ (by omega)
    by_cases hgx : gp + x > 20
    · have HC := Lib.hid (pr_8b (n := xs.length) (s := s) hgx)
      have hgi : (20 : Int) < gp + x := hgx
      go_enter Tryz.func10, Tryz.ntmps10
      go_wp2_with (first | (go_at_call 20; rw [← HW.out]; (with_reducible refine hq.mono ?_); rintro e w2 ⟨rfl, hx2⟩; replace F2 := F2.below hx2 F2.lt; replace F3 := F3.below hx2 F3.lt; replace F4 := F4.below hx2 F4.lt; have hB : Below w.heap.size w w2 := hb0.trans (hx2.mono hb0.size); have e0 : (_ : Option Value) = some (.int .i64 f) := F2.cell 0 (by simp); have e1 : (_ : Option Value) = some (.int .i64 gp) := F2.cell 1 (by simp); have e2 : (_ : Option Value) = some (.slice A xs.length cp) := F2.cell 2 (by simp); have k0 : (_ : Option Value) = some (.int .i64 8) := F3.cell 0 (by simp); have k1 : (_ : Option Value) = some (.int .i64 s) := F3.cell 1 (by simp); have k2 : (_ : Option Value) = some (.int .i64 x) := F3.cell 2 (by simp); have z0 : (_ : Option Value) = some (.int .i64 0) := F4.cell 0 (by simp); have z1 : (_ : Option Value) = some (.int .i64 0) := F4.cell 1 (by simp); have z2 : (_ : Option Value) = some (.slice none 0 0) := F4.cell 2 (by simp); have hfz := fun j => F4.free j) | (go_at_call 9; (with_reducible refine (hfe _).mono ?_); rintro e w3 ⟨rfl, hx3⟩; clear e0 e1 e2 k0 k1 k2 z0 z1 z2 hfz; replace F2 := F2.below hx3 F2.lt; replace F3 := F3.below hx3 F3.lt; replace F4 := F4.below hx3 F4.lt; replace hB := hB.trans (hx3.mono hB.size); have e0 : (_ : Option Value) = some (.int .i64 f) := F2.cell 0 (by simp); have e1 : (_ : Option Value) = some (.int .i64 gp) := F2.cell 1 (by simp); have e2 : (_ : Option Value) = some (.slice A xs.length cp) := F2.cell 2 (by simp); have k0 : (_ : Option Value) = some (.int .i64 8) := F3.cell 0 (by simp); have k1 : (_ : Option Value) = some (.int .i64 s) := F3.cell 1 (by simp); have k2 : (_ : Option Value) = some (.int .i64 x) := F3.cell 2 (by simp); have z0 : (_ : Option Value) = some (.int .i64 0) := F4.cell 0 (by simp); have z1 : (_ : Option Value) = some (.int .i64 0) := F4.cell 1 (by simp); have z2 : (_ : Option Value) = some (.slice none 0 0) := F4.cell 2 (by simp); have hfz := fun j => F4.free j) | (go_at_call 21; (with_reducible refine (size_ss_any A xs.length cp _).mono ?_); rintro e w9 ⟨rfl, rfl⟩))
      refine bodyPost_ret (v := .tuple #[.agg #[.int .i64 0, .int .i64 0, .slice none 0 0], .int .i64 5]) (by simp [results, Tryz.results10, go_sem, World.cell?_setCell_other, z0, z1, z2]) rfl ⟨.slice none 0 0, by rw [HC.out]; rfl, ?_, ?_⟩
      · rw [HC.out]; exact World.ownsRow_nil _ _ _ _
      · exact (by with_reducible repeat (first | exact Below.refl _ _ | assumption | refine below_step ?_ (by assumption) | refine Below.drew ?_ | refine below_drewN ?_ _ | refine below_alloc ?_ _ | refine Below.setCell ?_ (by simp; try omega) _))
    have HC := Lib.hid (pr_8 (n := xs.length) (s := s) hgx)
    have HL := Lib.hid (show prL 0 xs 8 s x = xs from rfl)
    have hgi : ¬ (20 : Int) < gp + x := hgx
    go_enter Tryz.func10, Tryz.ntmps10
    go_upto_region 13 with (first | (go_at_call 20; rw [← HW.out]; (with_reducible refine hq.mono ?_); rintro e w2 ⟨rfl, hx2⟩; replace F2 := F2.below hx2 F2.lt; replace F3 := F3.below hx2 F3.lt; replace F4 := F4.below hx2 F4.lt; have hB : Below w.heap.size w w2 := hb0.trans (hx2.mono hb0.size); have e0 : (_ : Option Value) = some (.int .i64 f) := F2.cell 0 (by simp); have e1 : (_ : Option Value) = some (.int .i64 gp) := F2.cell 1 (by simp); have e2 : (_ : Option Value) = some (.slice A xs.length cp) := F2.cell 2 (by simp); have k0 : (_ : Option Value) = some (.int .i64 8) := F3.cell 0 (by simp); have k1 : (_ : Option Value) = some (.int .i64 s) := F3.cell 1 (by simp); have k2 : (_ : Option Value) = some (.int .i64 x) := F3.cell 2 (by simp); have z0 : (_ : Option Value) = some (.int .i64 0) := F4.cell 0 (by simp); have z1 : (_ : Option Value) = some (.int .i64 0) := F4.cell 1 (by simp); have z2 : (_ : Option Value) = some (.slice none 0 0) := F4.cell 2 (by simp); have hfz := fun j => F4.free j) | (go_at_call 9; (with_reducible refine (hfe _).mono ?_); rintro e w3 ⟨rfl, hx3⟩; clear e0 e1 e2 k0 k1 k2 z0 z1 z2 hfz; replace F2 := F2.below hx3 F2.lt; replace F3 := F3.below hx3 F3.lt; replace F4 := F4.below hx3 F4.lt; replace hB := hB.trans (hx3.mono hB.size); have e0 : (_ : Option Value) = some (.int .i64 f) := F2.cell 0 (by simp); have e1 : (_ : Option Value) = some (.int .i64 gp) := F2.cell 1 (by simp); have e2 : (_ : Option Value) = some (.slice A xs.length cp) := F2.cell 2 (by simp); have k0 : (_ : Option Value) = some (.int .i64 8) := F3.cell 0 (by simp); have k1 : (_ : Option Value) = some (.int .i64 s) := F3.cell 1 (by simp); have k2 : (_ : Option Value) = some (.int .i64 x) := F3.cell 2 (by simp); have z0 : (_ : Option Value) = some (.int .i64 0) := F4.cell 0 (by simp); have z1 : (_ : Option Value) = some (.int .i64 0) := F4.cell 1 (by simp); have z2 : (_ : Option Value) = some (.slice none 0 0) := F4.cell 2 (by simp); have hfz := fun j => F4.free j) | (go_at_call 22; have h3s := F4.lt; (with_reducible refine (cloneTrack_any f gp A cp xs _ ((hxg _ hB).more hB.size) hn).mono ?_); rintro e w4 ⟨v4, rfl, R4, hx4⟩; obtain ⟨A4, c4, rfl⟩ := own_form R4; clear e0 e1 e2 k0 k1 k2 z0 z1 z2 hfz; replace F2 := F2.below hx4 F2.lt; replace F3 := F3.below hx4 F3.lt; replace F4 := F4.below hx4 F4.lt; replace hB := hB.trans (hx4.mono hB.size); have e0 : (_ : Option Value) = some (.int .i64 f) := F2.cell 0 (by simp); have e1 : (_ : Option Value) = some (.int .i64 gp) := F2.cell 1 (by simp); have e2 : (_ : Option Value) = some (.slice A xs.length cp) := F2.cell 2 (by simp); have k0 : (_ : Option Value) = some (.int .i64 8) := F3.cell 0 (by simp); have k1 : (_ : Option Value) = some (.int .i64 s) := F3.cell 1 (by simp); have k2 : (_ : Option Value) = some (.int .i64 x) := F3.cell 2 (by simp); have z0 : (_ : Option Value) = some (.int .i64 0) := F4.cell 0 (by simp); have z1 : (_ : Option Value) = some (.int .i64 0) := F4.cell 1 (by simp); have z2 : (_ : Option Value) = some (.slice none 0 0) := F4.cell 2 (by simp); have hfz := fun j => F4.free j) | (go_at_call 21; (with_reducible refine (size_ss_any A xs.length cp _).mono ?_); rintro e w9 ⟨rfl, rfl⟩))
    have hT5 : w3.heap.size ≤ (w4.alloc (.cells #[.int .i64 f, .int .i64 gp, .slice A4 xs.length c4] 26)).heap.size := by rw [World.size_alloc]; exact Nat.le_succ_of_le hx4.size
    clear hq hfe hx2 hx3 hx4 e0 e1 e2 k0 k1 k2 z0 z1 z2 hfz
    have hDn : (Value.slice A4 xs.length c4).ownBlock ≠ some w4.heap.size := OO.ne_box R4
    have hD4 : w.heap.size + 2 < w4.heap.size := F4.lt
    have FD := BX.made w4 26 [.int .i64 f, .int .i64 gp, .slice A4 xs.length c4]
    replace F2 := F2.al (.cells #[.int .i64 f, .int .i64 gp, .slice A4 xs.length c4] 26)
    replace F3 := F3.al (.cells #[.int .i64 f, .int .i64 gp, .slice A4 xs.length c4] 26)
    replace F4 := F4.al (.cells #[.int .i64 f, .int .i64 gp, .slice A4 xs.length c4] 26)
    replace R4 := OO.al R4 (.cells #[.int .i64 f, .int .i64 gp, .slice A4 xs.length c4] 26)
    replace hB : BB w _ := BB.al hB (.cells #[.int .i64 f, .int .i64 gp, .slice A4 xs.length c4] 26)
    generalize w4.alloc (.cells #[.int .i64 f, .int .i64 gp, .slice A4 xs.length c4] 26) = w5 at F2 F3 F4 FD R4 hB hT5 ⊢
    replace hB : Below w.heap.size w w5 := hB
    generalize w4.heap.size = D at hDn hD4 FD ⊢
    generalize w3.heap.size = T3 at R4 h3s hT5
    have e0 : (_ : Option Value) = some (.int .i64 f) := F2.cell 0 (by simp)
    have e1 : (_ : Option Value) = some (.int .i64 gp) := F2.cell 1 (by simp)
    have e2 : (_ : Option Value) = some (.slice A xs.length cp) := F2.cell 2 (by simp)
    have k0 : (_ : Option Value) = some (.int .i64 8) := F3.cell 0 (by simp)
    have k1 : (_ : Option Value) = some (.int .i64 s) := F3.cell 1 (by simp)
    have k2 : (_ : Option Value) = some (.int .i64 x) := F3.cell 2 (by simp)
    have z0 : (_ : Option Value) = some (.int .i64 0) := F4.cell 0 (by simp)
    have z1 : (_ : Option Value) = some (.int .i64 0) := F4.cell 1 (by simp)
    have z2 : (_ : Option Value) = some (.slice none 0 0) := F4.cell 2 (by simp)
    have hfz := fun j => F4.free j
    have d0 : (_ : Option Value) = some (.int .i64 f) := FD.cell 0 (by simp)
    have d1 : (_ : Option Value) = some (.int .i64 gp) := FD.cell 1 (by simp)
    have d2 : (_ : Option Value) = some (.slice A4 xs.length c4) := FD.cell 2 (by simp)
    have hfd := fun j => FD.free j
    have FP := FD.put 1 (.int .i64 (gp + x))
    have p0 : (_ : Option Value) = some (.int .i64 f) := FP.cell 0 (by simp)
    have p1 : (_ : Option Value) = some (.int .i64 (gp + x)) := FP.cell 1 (by simp)
    have p2 : (_ : Option Value) = some (.slice A4 xs.length c4) := FP.cell 2 (by simp)
    replace F4 := F4.far (a := ⟨D, 1, none⟩) (by simp; omega) (.int .i64 (gp + x))
    clear z0 z1 z2 hfz
    have z0 : (_ : Option Value) = some (.int .i64 0) := F4.cell 0 (by simp)
    have z1 : (_ : Option Value) = some (.int .i64 0) := F4.cell 1 (by simp)
    have z2 : (_ : Option Value) = some (.slice none 0 0) := F4.cell 2 (by simp)
    have hfz := fun j => F4.free j
    go_wp2
    refine bodyPost_ret (v := .tuple #[.agg #[.int .i64 f, .int .i64 (gp + x), .slice A4 xs.length c4], .int .i64 0]) (by simp [results, Tryz.results10, go_sem, World.cell?_setCell_other, z0, z1, z2]) rfl ⟨.slice A4 xs.length c4, by rw [HC.out] <;> rfl, ?_, ?_⟩
    · rw [HC.out, HL.out]
      exact own_base (OO.put (OO.put (OO.put (OO.putne R4 hDn _) h3s _) h3s _) h3s _) (Nat.le_trans (Nat.le_add_right _ 2) (Nat.le_of_lt h3s))
    · exact (by with_reducible repeat (first | exact Below.refl _ _ | assumption | refine below_step ?_ (by assumption) | refine Below.drew ?_ | refine below_drewN ?_ _ | refine below_alloc ?_ _ | refine Below.setCell ?_ (by simp; try omega) _))
  by_cases h1 : k = 1
  · subst h1
    clear h57 h8
    have hx := fe_1 hfs
    by_cases hsn : s = (xs.length : Int)
    case neg =>
      have HC := Lib.hid (pr_1s (g := gp) (x := x) hsn)
      have hse : (s == (xs.length : Int)) = false := by simpa using hsn
      go_enter Tryz.func10, Tryz.ntmps10
      go_wp2_with (first | (go_at_call 20; rw [← HW.out]; (with_reducible refine hq.mono ?_); rintro e w2 ⟨rfl, hx2⟩; replace F2 := F2.below hx2 F2.lt; replace F3 := F3.below hx2 F3.lt; replace F4 := F4.below hx2 F4.lt; have hB : Below w.heap.size w w2 := hb0.trans (hx2.mono hb0.size); have e0 : (_ : Option Value) = some (.int .i64 f) := F2.cell 0 (by simp); have e1 : (_ : Option Value) = some (.int .i64 gp) := F2.cell 1 (by simp); have e2 : (_ : Option Value) = some (.slice A xs.length cp) := F2.cell 2 (by simp); have k0 : (_ : Option Value) = some (.int .i64 1) := F3.cell 0 (by simp); have k1 : (_ : Option Value) = some (.int .i64 s) := F3.cell 1 (by simp); have k2 : (_ : Option Value) = some (.int .i64 x) := F3.cell 2 (by simp); have z0 : (_ : Option Value) = some (.int .i64 0) := F4.cell 0 (by simp); have z1 : (_ : Option Value) = some (.int .i64 0) := F4.cell 1 (by simp); have z2 : (_ : Option Value) = some (.slice none 0 0) := F4.cell 2 (by simp); have hfz := fun j => F4.free j) | (go_at_call 9; (with_reducible refine (hfe _).mono ?_); rintro e w3 ⟨rfl, hx3⟩; clear e0 e1 e2 k0 k1 k2 z0 z1 z2 hfz; replace F2 := F2.below hx3 F2.lt; replace F3 := F3.below hx3 F3.lt; replace F4 := F4.below hx3 F4.lt; replace hB := hB.trans (hx3.mono hB.size); have e0 : (_ : Option Value) = some (.int .i64 f) := F2.cell 0 (by simp); have e1 : (_ : Option Value) = some (.int .i64 gp) := F2.cell 1 (by simp); have e2 : (_ : Option Value) = some (.slice A xs.length cp) := F2.cell 2 (by simp); have k0 : (_ : Option Value) = some (.int .i64 1) := F3.cell 0 (by simp); have k1 : (_ : Option Value) = some (.int .i64 s) := F3.cell 1 (by simp); have k2 : (_ : Option Value) = some (.int .i64 x) := F3.cell 2 (by simp); have z0 : (_ : Option Value) = some (.int .i64 0) := F4.cell 0 (by simp); have z1 : (_ : Option Value) = some (.int .i64 0) := F4.cell 1 (by simp); have z2 : (_ : Option Value) = some (.slice none 0 0) := F4.cell 2 (by simp); have hfz := fun j => F4.free j) | (go_at_call 21; (with_reducible refine (size_ss_any A xs.length cp _).mono ?_); rintro e w9 ⟨rfl, rfl⟩))
      refine bodyPost_ret (v := .tuple #[.agg #[.int .i64 0, .int .i64 0, .slice none 0 0], .int .i64 2]) (by simp [results, Tryz.results10, go_sem, World.cell?_setCell_other, z0, z1, z2]) rfl ⟨.slice none 0 0, by rw [HC.out]; rfl, ?_, ?_⟩
      · rw [HC.out]; exact World.ownsRow_nil _ _ _ _
      · exact (by with_reducible repeat (first | exact Below.refl _ _ | assumption | refine below_step ?_ (by assumption) | refine Below.drew ?_ | refine below_drewN ?_ _ | refine below_alloc ?_ _ | refine Below.setCell ?_ (by simp; try omega) _))
    subst hsn
    by_cases hn8' : 8 ≤ xs.length
    · have HC := Lib.hid (pr_1n (g := gp) (x := x) rfl hn8')
      have h8i : ((xs.length : Int) == 8) = true := by simp; omega
      go_enter Tryz.func10, Tryz.ntmps10
      go_wp2_with (first | (go_at_call 20; rw [← HW.out]; (with_reducible refine hq.mono ?_); rintro e w2 ⟨rfl, hx2⟩; replace F2 := F2.below hx2 F2.lt; replace F3 := F3.below hx2 F3.lt; replace F4 := F4.below hx2 F4.lt; have hB : Below w.heap.size w w2 := hb0.trans (hx2.mono hb0.size); have e0 : (_ : Option Value) = some (.int .i64 f) := F2.cell 0 (by simp); have e1 : (_ : Option Value) = some (.int .i64 gp) := F2.cell 1 (by simp); have e2 : (_ : Option Value) = some (.slice A xs.length cp) := F2.cell 2 (by simp); have k0 : (_ : Option Value) = some (.int .i64 1) := F3.cell 0 (by simp); have k1 : (_ : Option Value) = some (.int .i64 (xs.length : Int)) := F3.cell 1 (by simp); have k2 : (_ : Option Value) = some (.int .i64 x) := F3.cell 2 (by simp); have z0 : (_ : Option Value) = some (.int .i64 0) := F4.cell 0 (by simp); have z1 : (_ : Option Value) = some (.int .i64 0) := F4.cell 1 (by simp); have z2 : (_ : Option Value) = some (.slice none 0 0) := F4.cell 2 (by simp); have hfz := fun j => F4.free j) | (go_at_call 9; (with_reducible refine (hfe _).mono ?_); rintro e w3 ⟨rfl, hx3⟩; clear e0 e1 e2 k0 k1 k2 z0 z1 z2 hfz; replace F2 := F2.below hx3 F2.lt; replace F3 := F3.below hx3 F3.lt; replace F4 := F4.below hx3 F4.lt; replace hB := hB.trans (hx3.mono hB.size); have e0 : (_ : Option Value) = some (.int .i64 f) := F2.cell 0 (by simp); have e1 : (_ : Option Value) = some (.int .i64 gp) := F2.cell 1 (by simp); have e2 : (_ : Option Value) = some (.slice A xs.length cp) := F2.cell 2 (by simp); have k0 : (_ : Option Value) = some (.int .i64 1) := F3.cell 0 (by simp); have k1 : (_ : Option Value) = some (.int .i64 (xs.length : Int)) := F3.cell 1 (by simp); have k2 : (_ : Option Value) = some (.int .i64 x) := F3.cell 2 (by simp); have z0 : (_ : Option Value) = some (.int .i64 0) := F4.cell 0 (by simp); have z1 : (_ : Option Value) = some (.int .i64 0) := F4.cell 1 (by simp); have z2 : (_ : Option Value) = some (.slice none 0 0) := F4.cell 2 (by simp); have hfz := fun j => F4.free j) | (go_at_call 21; (with_reducible refine (size_ss_any A xs.length cp _).mono ?_); rintro e w9 ⟨rfl, rfl⟩))
      refine bodyPost_ret (v := .tuple #[.agg #[.int .i64 0, .int .i64 0, .slice none 0 0], .int .i64 5]) (by simp [results, Tryz.results10, go_sem, World.cell?_setCell_other, z0, z1, z2]) rfl ⟨.slice none 0 0, by rw [HC.out]; rfl, ?_, ?_⟩
      · rw [HC.out]; exact World.ownsRow_nil _ _ _ _
      · exact (by with_reducible repeat (first | exact Below.refl _ _ | assumption | refine below_step ?_ (by assumption) | refine Below.drew ?_ | refine below_drewN ?_ _ | refine below_alloc ?_ _ | refine Below.setCell ?_ (by simp; try omega) _))
    have HC := Lib.hid (pr_1 (g := gp) (x := x) rfl hn8')
    have h8i : ((xs.length : Int) == 8) = false := by simp; omega
    obtain ⟨X, rfl⟩ : ∃ X : Nat, x = (X : Int) := ⟨x.toNat, by omega⟩
    have hXl : X < xs.length := by omega
    have hXi : (X : Int) < (xs.length : Int) := by omega
    have HL := Lib.hid (prL_1 (xs := xs) (s := (xs.length : Int)) hXl)
    obtain ⟨-, -, hsz⟩ := ts_ss hts hXl
    go_enter Tryz.func10, Tryz.ntmps10
    go_upto_region 13 with (first | (go_at_call 20; rw [← HW.out]; (with_reducible refine hq.mono ?_); rintro e w2 ⟨rfl, hx2⟩; replace F2 := F2.below hx2 F2.lt; replace F3 := F3.below hx2 F3.lt; replace F4 := F4.below hx2 F4.lt; have hB : Below w.heap.size w w2 := hb0.trans (hx2.mono hb0.size); have e0 : (_ : Option Value) = some (.int .i64 f) := F2.cell 0 (by simp); have e1 : (_ : Option Value) = some (.int .i64 gp) := F2.cell 1 (by simp); have e2 : (_ : Option Value) = some (.slice A xs.length cp) := F2.cell 2 (by simp); have k0 : (_ : Option Value) = some (.int .i64 1) := F3.cell 0 (by simp); have k1 : (_ : Option Value) = some (.int .i64 (xs.length : Int)) := F3.cell 1 (by simp); have k2 : (_ : Option Value) = some (.int .i64 (X : Int)) := F3.cell 2 (by simp); have z0 : (_ : Option Value) = some (.int .i64 0) := F4.cell 0 (by simp); have z1 : (_ : Option Value) = some (.int .i64 0) := F4.cell 1 (by simp); have z2 : (_ : Option Value) = some (.slice none 0 0) := F4.cell 2 (by simp); have hfz := fun j => F4.free j) | (go_at_call 9; (with_reducible refine (hfe _).mono ?_); rintro e w3 ⟨rfl, hx3⟩; clear e0 e1 e2 k0 k1 k2 z0 z1 z2 hfz; replace F2 := F2.below hx3 F2.lt; replace F3 := F3.below hx3 F3.lt; replace F4 := F4.below hx3 F4.lt; replace hB := hB.trans (hx3.mono hB.size); have e0 : (_ : Option Value) = some (.int .i64 f) := F2.cell 0 (by simp); have e1 : (_ : Option Value) = some (.int .i64 gp) := F2.cell 1 (by simp); have e2 : (_ : Option Value) = some (.slice A xs.length cp) := F2.cell 2 (by simp); have k0 : (_ : Option Value) = some (.int .i64 1) := F3.cell 0 (by simp); have k1 : (_ : Option Value) = some (.int .i64 (xs.length : Int)) := F3.cell 1 (by simp); have k2 : (_ : Option Value) = some (.int .i64 (X : Int)) := F3.cell 2 (by simp); have z0 : (_ : Option Value) = some (.int .i64 0) := F4.cell 0 (by simp); have z1 : (_ : Option Value) = some (.int .i64 0) := F4.cell 1 (by simp); have z2 : (_ : Option Value) = some (.slice none 0 0) := F4.cell 2 (by simp); have hfz := fun j => F4.free j) | (go_at_call 22; have h3s := F4.lt; (with_reducible refine (cloneTrack_any f gp A cp xs _ ((hxg _ hB).more hB.size) hn).mono ?_); rintro e w4 ⟨v4, rfl, R4, hx4⟩; obtain ⟨A4, c4, rfl⟩ := own_form R4; clear e0 e1 e2 k0 k1 k2 z0 z1 z2 hfz; replace F2 := F2.below hx4 F2.lt; replace F3 := F3.below hx4 F3.lt; replace F4 := F4.below hx4 F4.lt; replace hB := hB.trans (hx4.mono hB.size); have e0 : (_ : Option Value) = some (.int .i64 f) := F2.cell 0 (by simp); have e1 : (_ : Option Value) = some (.int .i64 gp) := F2.cell 1 (by simp); have e2 : (_ : Option Value) = some (.slice A xs.length cp) := F2.cell 2 (by simp); have k0 : (_ : Option Value) = some (.int .i64 1) := F3.cell 0 (by simp); have k1 : (_ : Option Value) = some (.int .i64 (xs.length : Int)) := F3.cell 1 (by simp); have k2 : (_ : Option Value) = some (.int .i64 (X : Int)) := F3.cell 2 (by simp); have z0 : (_ : Option Value) = some (.int .i64 0) := F4.cell 0 (by simp); have z1 : (_ : Option Value) = some (.int .i64 0) := F4.cell 1 (by simp); have z2 : (_ : Option Value) = some (.slice none 0 0) := F4.cell 2 (by simp); have hfz := fun j => F4.free j) | (go_at_call 21; (with_reducible refine (size_ss_any A xs.length cp _).mono ?_); rintro e w9 ⟨rfl, rfl⟩))
    have hT5 : w3.heap.size ≤ (w4.alloc (.cells #[.int .i64 f, .int .i64 gp, .slice A4 xs.length c4] 26)).heap.size := by rw [World.size_alloc]; exact Nat.le_succ_of_le hx4.size
    clear hq hfe hx2 hx3 hx4 e0 e1 e2 k0 k1 k2 z0 z1 z2 hfz
    have hDn : (Value.slice A4 xs.length c4).ownBlock ≠ some w4.heap.size := OO.ne_box R4
    have hD4 : w.heap.size + 2 < w4.heap.size := F4.lt
    have FD := BX.made w4 26 [.int .i64 f, .int .i64 gp, .slice A4 xs.length c4]
    replace F2 := F2.al (.cells #[.int .i64 f, .int .i64 gp, .slice A4 xs.length c4] 26)
    replace F3 := F3.al (.cells #[.int .i64 f, .int .i64 gp, .slice A4 xs.length c4] 26)
    replace F4 := F4.al (.cells #[.int .i64 f, .int .i64 gp, .slice A4 xs.length c4] 26)
    replace R4 := OO.al R4 (.cells #[.int .i64 f, .int .i64 gp, .slice A4 xs.length c4] 26)
    replace hB : BB w _ := BB.al hB (.cells #[.int .i64 f, .int .i64 gp, .slice A4 xs.length c4] 26)
    generalize w4.alloc (.cells #[.int .i64 f, .int .i64 gp, .slice A4 xs.length c4] 26) = w5 at F2 F3 F4 FD R4 hB hT5 ⊢
    replace hB : Below w.heap.size w w5 := hB
    generalize w4.heap.size = D at hDn hD4 FD ⊢
    generalize w3.heap.size = T3 at R4 h3s hT5
    have e0 : (_ : Option Value) = some (.int .i64 f) := F2.cell 0 (by simp)
    have e1 : (_ : Option Value) = some (.int .i64 gp) := F2.cell 1 (by simp)
    have e2 : (_ : Option Value) = some (.slice A xs.length cp) := F2.cell 2 (by simp)
    have k0 : (_ : Option Value) = some (.int .i64 1) := F3.cell 0 (by simp)
    have k1 : (_ : Option Value) = some (.int .i64 (xs.length : Int)) := F3.cell 1 (by simp)
    have k2 : (_ : Option Value) = some (.int .i64 (X : Int)) := F3.cell 2 (by simp)
    have z0 : (_ : Option Value) = some (.int .i64 0) := F4.cell 0 (by simp)
    have z1 : (_ : Option Value) = some (.int .i64 0) := F4.cell 1 (by simp)
    have z2 : (_ : Option Value) = some (.slice none 0 0) := F4.cell 2 (by simp)
    have hfz := fun j => F4.free j
    have d0 : (_ : Option Value) = some (.int .i64 f) := FD.cell 0 (by simp)
    have d1 : (_ : Option Value) = some (.int .i64 gp) := FD.cell 1 (by simp)
    have d2 : (_ : Option Value) = some (.slice A4 xs.length c4) := FD.cell 2 (by simp)
    have hfd := fun j => FD.free j
    obtain ⟨bx, ox, rfl, hbx, hc⟩ := (hxg w5 hB).at_ fSectorSpec_len rfl X hXl
    have x0 := hc 0 _ (by omega) rfl
    have x1 := hc 1 _ (by omega) rfl
    have x2 := hc 2 _ (by omega) rfl
    have x3 := hc 3 _ (by omega) rfl
    have x4 := hc 4 _ (by omega) rfl
    have x5 := hc 5 _ (by omega) rfl
    have x6 := hc 6 _ (by omega) rfl
    have x7 := hc 7 _ (by omega) rfl
    clear hc
    simp only [← Nat.add_assoc, Nat.add_zero] at x0 x1 x2 x3 x4 x5 x6 x7
    have hY : prA xs[X] = ⟨xs[X].f0, xs[X].f1, xs[X].f2, xs[X].f3, invB xs[X].f4, false, false, false⟩ := rfl
    have HY := hY
    clear hY
    obtain ⟨a0, ha0⟩ : ∃ x, xs[X].f0 = x := ⟨_, rfl⟩
    rw [ha0] at x0
    obtain ⟨a1, ha1⟩ : ∃ x, xs[X].f1 = x := ⟨_, rfl⟩
    rw [ha1] at x1
    obtain ⟨a2, ha2⟩ : ∃ x, xs[X].f2 = x := ⟨_, rfl⟩
    rw [ha2] at x2
    obtain ⟨a3, ha3⟩ : ∃ x, xs[X].f3 = x := ⟨_, rfl⟩
    rw [ha3] at x3
    obtain ⟨a4, ha4⟩ : ∃ x, xs[X].f4 = x := ⟨_, rfl⟩
    rw [ha4] at x4
    obtain ⟨a5, ha5⟩ : ∃ x, xs[X].f5 = x := ⟨_, rfl⟩
    rw [ha5] at x5
    obtain ⟨a6, ha6⟩ : ∃ x, xs[X].f6 = x := ⟨_, rfl⟩
    rw [ha6] at x6
    obtain ⟨a7, ha7⟩ : ∃ x, xs[X].f7 = x := ⟨_, rfl⟩
    rw [ha7] at x7
    rw [ha0, ha1, ha2, ha3, ha4] at HY
    rw [ha4] at hsz
    have HYh := Lib.hid HY
    clear HY ha0 ha1 ha2 ha3 ha4 ha5 ha6 ha7
    have FE := BX.made w5 41 [.int .i64 a0, .int .i64 a1, .int .i64 a2, .int .i64 a3, .string a4, .bool a5, .bool a6, .bool a7]
    have hDE : D < w5.heap.size := FD.lt
    have hTE : T3 ≤ w5.heap.size := hT5
    have hRE : (Value.slice A4 xs.length c4).ownBlock ≠ some w5.heap.size := OO.ne_box R4
    go_upto_region 16 with fail
    have FD6 := FD.al (.cells #[.int .i64 a0, .int .i64 a1, .int .i64 a2, .int .i64 a3, .string a4, .bool a5, .bool a6, .bool a7] 41)
    have F46 := F4.al (.cells #[.int .i64 a0, .int .i64 a1, .int .i64 a2, .int .i64 a3, .string a4, .bool a5, .bool a6, .bool a7] 41)
    have R6 := OO.al R4 (.cells #[.int .i64 a0, .int .i64 a1, .int .i64 a2, .int .i64 a3, .string a4, .bool a5, .bool a6, .bool a7] 41)
    have hB6 : BB w _ := BB.al hB (.cells #[.int .i64 a0, .int .i64 a1, .int .i64 a2, .int .i64 a3, .string a4, .bool a5, .bool a6, .bool a7] 41)
    have hT6 : T3 ≤ (w5.alloc (.cells #[.int .i64 a0, .int .i64 a1, .int .i64 a2, .int .i64 a3, .string a4, .bool a5, .bool a6, .bool a7] 41)).heap.size := by rw [World.size_alloc]; exact Nat.le_succ_of_le hTE
    clear z0 z1 z2 hfz d0 d1 d2 hfd e0 e1 e2 k0 k1 k2 x0 x1 x2 x3 x4 x5 x6 x7
    generalize w5.alloc (.cells #[.int .i64 a0, .int .i64 a1, .int .i64 a2, .int .i64 a3, .string a4, .bool a5, .bool a6, .bool a7] 41) = w6 at FE FD6 F46 R6 hB6 hT6 ⊢
    replace hB6 : Below w.heap.size w w6 := hB6
    generalize w5.heap.size = E at FE hDE hTE hRE ⊢
    clear F2 F3 F4 FD R4 hB hTE
    have hinv := inverted_any a4 w6.drew hsz
    have D2 : (World.drew w6).cell? _ = some (.slice A4 xs.length c4) := FD6.cell 2 (by simp)
    have hE3 := fun j => FE.free j
    have hby : 56 ≤ 1000 := by decide
    have hbig : xs.length ≤ 100000000 := by omega
    have h2T : w.heap.size + 2 < T3 := h3s
    have hDE' : D ≠ E := by omega
    refine wp_region_held_drew (S := (fun W => W.cell? ⟨E, 0, none⟩ = some (.int .i64 a0) ∧ W.cell? ⟨E, 1, none⟩ = some (.int .i64 a1) ∧ W.cell? ⟨E, 2, none⟩ = some (.int .i64 a2) ∧ W.cell? ⟨E, 3, none⟩ = some (.int .i64 a3) ∧ W.cell? ⟨E, 4, none⟩ = some (.string a4))) (by kernel_rfl) ?hS429 (fun hHeld => ?rest430)
    case hS429 => (exact ⟨FE.cell 0 (by simp), FE.cell 1 (by simp), FE.cell 2 (by simp), FE.cell 3 (by simp), FE.cell 4 (by simp)⟩)
    refine wpAnyH_take (i := 0) (oi := _) (v := ?v431) rfl (by kernel_rfl) (by kernel_rfl) (by kernel_rfl) (fun _ _ _ h => h) (Or.inl ⟨by rfl, ?hy432⟩) hHeld ?rest433
    case hy432 => (intro w hSw; (try dsimp only at hSw); go_simp; (try with_reducible rfl))
    try simp only [Act.put, List.setIfInBounds_toArray, List.set_cons_zero, List.set_cons_succ]
    refine wpAnyH_take (i := 2) (oi := _) (v := ?v434) rfl (by kernel_rfl) (by kernel_rfl) (by kernel_rfl) (fun _ _ _ h => h) (Or.inl ⟨by rfl, ?hy435⟩) hHeld ?rest436
    case hy435 => (intro w hSw; (try dsimp only at hSw); go_simp; (try with_reducible rfl))
    try simp only [Act.put, List.setIfInBounds_toArray, List.set_cons_zero, List.set_cons_succ]
    refine wpAnyH_take (i := 3) (oi := _) (v := ?v437) rfl (by kernel_rfl) (by kernel_rfl) (by kernel_rfl) (fun _ _ _ h => h) (Or.inl ⟨by rfl, ?hy438⟩) hHeld ?rest439
    case hy438 => (intro w hSw; (try dsimp only at hSw); go_simp; (try with_reducible rfl))
    try simp only [Act.put, List.setIfInBounds_toArray, List.set_cons_zero, List.set_cons_succ]
    refine wpAnyH_take (i := 4) (oi := _) (v := ?v440) rfl (by kernel_rfl) (by kernel_rfl) (by kernel_rfl) (fun _ _ _ h => h) (Or.inl ⟨by rfl, ?hy441⟩) hHeld ?rest442
    case hy441 => (intro w hSw; (try dsimp only at hSw); go_simp; (try with_reducible rfl))
    try simp only [Act.put, List.setIfInBounds_toArray, List.set_cons_zero, List.set_cons_succ]
    refine wpAnyH_take (i := 5) (oi := _) (v := ?v443) rfl (by kernel_rfl) (by kernel_rfl) (by kernel_rfl) (fun _ _ _ h => h) (Or.inl ⟨by rfl, ?hy444⟩) hHeld ?rest445
    case hy444 => (intro w hSw; (try dsimp only at hSw); go_simp; (try with_reducible rfl))
    try simp only [Act.put, List.setIfInBounds_toArray, List.set_cons_zero, List.set_cons_succ]
    refine wpAnyH_take (i := 6) (oi := _) (v := ?v446) rfl (by kernel_rfl) (by kernel_rfl) (by kernel_rfl) (fun _ _ _ h => h) (Or.inl ⟨by rfl, ?hy447⟩) hHeld ?rest448
    case hy447 => (intro w hSw; (try dsimp only at hSw); go_simp; (try with_reducible rfl))
    try simp only [Act.put, List.setIfInBounds_toArray, List.set_cons_zero, List.set_cons_succ]
    refine wpAnyH_take (i := 7) (oi := _) (v := ?v449) rfl (by kernel_rfl) (by kernel_rfl) (by kernel_rfl) (fun _ _ _ h => h) (Or.inl ⟨by rfl, ?hy450⟩) hHeld ?rest451
    case hy450 => (intro w hSw; (try dsimp only at hSw); go_simp; (try with_reducible rfl))
    try simp only [Act.put, List.setIfInBounds_toArray, List.set_cons_zero, List.set_cons_succ]
    refine wpAnyH_take (i := 8) (oi := _) (v := ?v452) rfl (by kernel_rfl) (by kernel_rfl) (by kernel_rfl) (fun _ _ _ h => h) (Or.inl ⟨by rfl, ?hy453⟩) hHeld ?rest454
    case hy453 => (intro w hSw; (try dsimp only at hSw); go_simp; (try with_reducible rfl))
    try simp only [Act.put, List.setIfInBounds_toArray, List.set_cons_zero, List.set_cons_succ]
    refine wpAnyH_take (i := 9) (oi := _) (v := ?v455) rfl (by kernel_rfl) (by kernel_rfl) (by kernel_rfl) (fun _ _ _ h => h) (Or.inl ⟨by rfl, ?hy456⟩) hHeld ?rest457
    case hy456 => (intro w hSw; (try dsimp only at hSw); go_simp; (try with_reducible rfl))
    try simp only [Act.put, List.setIfInBounds_toArray, List.set_cons_zero, List.set_cons_succ]
    refine wpAnyH_take (i := 10) (oi := _) (v := ?v458) rfl (by kernel_rfl) (by kernel_rfl) (by kernel_rfl) (fun _ _ _ h => h) (Or.inl ⟨by rfl, ?hy459⟩) hHeld ?rest460
    case hy459 => (intro w hSw; (try dsimp only at hSw); go_simp; (try with_reducible rfl))
    try simp only [Act.put, List.setIfInBounds_toArray, List.set_cons_zero, List.set_cons_succ]
    refine wpAnyH_take (i := 11) (oi := _) (v := ?v461) rfl (by kernel_rfl) (by kernel_rfl) (by kernel_rfl) (fun _ _ _ h => h) (Or.inl ⟨by rfl, ?hy462⟩) hHeld ?rest463
    case hy462 => (intro w hSw; (try dsimp only at hSw); go_simp; (try with_reducible rfl))
    try simp only [Act.put, List.setIfInBounds_toArray, List.set_cons_zero, List.set_cons_succ]
    refine wpAnyH_ready (rs := [1, 12]) (by kernel_rfl) (by simp) ?_
    refine AllReadyH.cons (o := _) rfl (fun K hK => ?stp527) ?more528
    case stp527 =>
      go_simp
      refine hK.out _ _ ?hS529 (fun hHeld2 => ?rest530)
      case hS529 => (exact hHeld)
      clear hK K hHeld
      have hHeld := hHeld2
      clear hHeld2
      try simp only [Act.put, List.setIfInBounds_toArray, List.set_cons_zero, List.set_cons_succ]
      refine wpAnyH_ready (rs := [12]) (by kernel_rfl) (by simp) ?_
      refine AllReadyH.cons (o := _) rfl (fun K hK => ?stp523) ?more524
      case stp523 =>
        go_simp
        go_at_call 23
        (with_reducible refine hinv.mono ?_)
        rintro e w7 ⟨rfl, hx7⟩
        have FE7 := (BX.dr0 FE).below hx7 FE.lt
        have FD7 := (BX.dr0 FD6).below hx7 FD6.lt
        have F47 := (BX.dr0 F46).below hx7 F46.lt
        have R7 := OO.next (OO.dr R6) hx7
        have hB7 : Below w.heap.size w w7 := (Below.drew hB6).trans (hx7.mono hB6.size)
        have hT7 : T3 ≤ w7.heap.size := Nat.le_trans hT6 hx7.size
        have hD7 : D < w7.heap.size := FD7.lt
        have G2 : (_ : Option Value) = some (.slice A4 xs.length c4) := FD7.cell 2 (by simp)
        have G3 := fun (o : Obj) => (show (_ : Option Value) = some (.slice A4 xs.length c4) from (FD7.al o).cell 2 (by simp))
        refine hK.out _ _ ?hS525 (fun hHeld2 => ?rest526)
        case hS525 => (exact ⟨FE7.cell 0 (by simp), FE7.cell 1 (by simp), FE7.cell 2 (by simp), FE7.cell 3 (by simp), FE7.cell 4 (by simp)⟩)
        clear hK K hHeld
        have hHeld := hHeld2
        clear hHeld2
        try simp only [Act.put, List.setIfInBounds_toArray, List.set_cons_zero, List.set_cons_succ]
        refine wpAnyH_take (i := 13) (oi := _) (v := ?v505) rfl (by kernel_rfl) (by kernel_rfl) (by kernel_rfl) (fun _ _ _ h => h) (Or.inl ⟨by rfl, ?hy506⟩) hHeld ?rest507
        case hy506 => (intro w hSw; (try dsimp only at hSw); go_simp; (try with_reducible rfl))
        try simp only [Act.put, List.setIfInBounds_toArray, List.set_cons_zero, List.set_cons_succ]
        refine wpAnyH_ready (rs := [14]) (by kernel_rfl) (by simp) ?_
        refine AllReadyH.cons (o := _) rfl (fun K hK => ?stp519) ?more520
        case stp519 =>
          go_simp
          refine hK.out _ _ ?hS521 (fun hHeld2 => ?rest522)
          case hS521 => (exact ⟨(FE7.al _).cell 0 (by simp), (FE7.al _).cell 1 (by simp), (FE7.al _).cell 2 (by simp), (FE7.al _).cell 3 (by simp), (FE7.al _).cell 4 (by simp)⟩)
          clear hK K hHeld
          have hHeld := hHeld2
          clear hHeld2
          try simp only [Act.put, List.setIfInBounds_toArray, List.set_cons_zero, List.set_cons_succ]
          refine wpAnyH_ready (rs := [15]) (by kernel_rfl) (by simp) ?_
          refine AllReadyH.cons (o := _) rfl (fun K hK => ?stp515) ?more516
          case stp515 =>
            refine step_appG (w := w7) (f := fSectorSpec) rfl (.tmp 93) (.tmp 106) 24 rfl eltSectorSpec hby (.slice A4 xs.length c4) xs xs.length rfl rfl R7 #[.int .i64 a0, .int .i64 a1, .int .i64 a2, .int .i64 a3, .string (invB a4), .bool false, .bool false, .bool false] 41 (⟨a0, a1, a2, a3, invB a4, false, false, false⟩ : DSectorSpec) 1 rfl rfl rfl (oneSS _) hbig hT7 ?_
            intro v8 w8 R8 hg8 hat8 hbl8
            obtain ⟨A8, c8, rfl⟩ := own_form R8
            rw [List.length_append] at R8 hat8
            have FD8 := (FD7.al (.cells #[.int .i64 a0, .int .i64 a1, .int .i64 a2, .int .i64 a3, .string (invB a4), .bool false, .bool false, .bool false] 41)).grown hg8 hDn
            have FE8 := (FE7.al (.cells #[.int .i64 a0, .int .i64 a1, .int .i64 a2, .int .i64 a3, .string (invB a4), .bool false, .bool false, .bool false] 41)).grown hg8 hRE
            have F48 := F47.below hbl8 h2T
            have hB8 : Below w.heap.size w w8 := hB7.trans (hbl8.mono (Nat.le_of_lt (Nat.lt_trans (Nat.lt_add_of_pos_right (by decide)) h2T)))
            have hn8D : (Value.slice A8 (xs.length + 1) c8).ownBlock ≠ some D := by
              rcases hat8 with e | e
              · rw [show (Value.slice A8 (xs.length + 1) c8).ownBlock = _ from e]; exact hDn
              · rw [show (Value.slice A8 (xs.length + 1) c8).ownBlock = _ from e]; intro e2; have := Option.some.inj e2; omega
            have g2 : (_ : Option Value) = some (.slice A4 xs.length c4) := FD8.cell 2 (by simp)
            have hf8 := fun j => FD8.free j
            refine hK.out _ _ ?hS517 (fun hHeld2 => ?rest518)
            case hS517 => (exact ⟨FE8.cell 0 (by simp), FE8.cell 1 (by simp), FE8.cell 2 (by simp), FE8.cell 3 (by simp), FE8.cell 4 (by simp)⟩)
            clear hK K hHeld
            have hHeld := hHeld2
            clear hHeld2
            try simp only [Act.put, List.setIfInBounds_toArray, List.set_cons_zero, List.set_cons_succ]
            refine wpAnyH_take (i := 16) (oi := _) (v := ?v508) rfl (by kernel_rfl) (by kernel_rfl) (by kernel_rfl) (fun _ _ _ h => h) (Or.inl ⟨by rfl, ?hy509⟩) hHeld ?rest510
            case hy509 => (intro w hSw; (try dsimp only at hSw); go_simp; (try with_reducible rfl))
            try simp only [Act.put, List.setIfInBounds_toArray, List.set_cons_zero, List.set_cons_succ]
            refine wpAnyH_ready (rs := [17]) (by kernel_rfl) (by simp) ?_
            refine AllReadyH.cons (o := _) rfl (fun K hK => ?stp511) ?more512
            case stp511 =>
              go_simp
              refine hK.out _ _ ?hS513 (fun hHeld2 => ?rest514)
              case hS513 => (exact ⟨(World.cell?_setCell_far _ _ _ _ hDE').trans hHeld.1, (World.cell?_setCell_far _ _ _ _ hDE').trans hHeld.2.1, (World.cell?_setCell_far _ _ _ _ hDE').trans hHeld.2.2.1, (World.cell?_setCell_far _ _ _ _ hDE').trans hHeld.2.2.2.1, (World.cell?_setCell_far _ _ _ _ hDE').trans hHeld.2.2.2.2⟩)
              clear hK K hHeld
              have hHeld := hHeld2
              clear hHeld2
              try simp only [Act.put, List.setIfInBounds_toArray, List.set_cons_zero, List.set_cons_succ]
              refine wpAnyH_done (by kernel_rfl) ?_ _
              have FD9 := FD8.put 2 (.slice A8 (xs.length + 1) c8)
              have F49 := F48.far (a := ⟨D, 2, none⟩) (show w.heap.size + 2 ≠ D by omega) (.slice A8 (xs.length + 1) c8)
              have hB9 : Below w.heap.size w _ := Below.setCell hB8 (p := ⟨D, 2, none⟩) (show w.heap.size ≤ D by omega) (.slice A8 (xs.length + 1) c8)
              have d0 : (_ : Option Value) = some (.int .i64 f) := FD9.cell 0 (by simp)
              have d1 : (_ : Option Value) = some (.int .i64 gp) := FD9.cell 1 (by simp)
              have d2 : (_ : Option Value) = some (.slice A8 (xs.length + 1) c8) := FD9.cell 2 (by simp)
              have z0 : (_ : Option Value) = some (.int .i64 0) := F49.cell 0 (by simp)
              have z1 : (_ : Option Value) = some (.int .i64 0) := F49.cell 1 (by simp)
              have z2 : (_ : Option Value) = some (.slice none 0 0) := F49.cell 2 (by simp)
              have hfz := fun j => F49.free j
              go_wp2
              refine bodyPost_ret (v := .tuple #[.agg #[.int .i64 f, .int .i64 (gp), .slice A8 (xs.length + 1) c8], .int .i64 0]) (by simp [results, Tryz.results10, go_sem, World.cell?_setCell_other, z0, z1, z2]) rfl ⟨.slice A8 (xs.length + 1) c8, by rw [HC.out] <;> rfl, ?_, ?_⟩
              · rw [HC.out, HL.out, HYh.out, List.length_append]
                exact own_base (OO.put (OO.put (OO.put (OO.putne R8 hn8D _) h3s _) h3s _) h3s _) (Nat.le_trans (Nat.le_add_right _ 2) (Nat.le_of_lt h3s))
              · exact (by with_reducible repeat (first | exact Below.refl _ _ | assumption | refine below_step ?_ (by assumption) | refine Below.drew ?_ | refine below_drewN ?_ _ | refine below_alloc ?_ _ | refine Below.setCell ?_ (by simp; try omega) _))
            exact AllReadyH.nil
          exact AllReadyH.nil
        exact AllReadyH.nil
      exact AllReadyH.nil
    refine AllReadyH.cons (o := _) rfl (fun K hK => ?stp531) ?more532
    case stp531 =>
      go_simp
      go_at_call 23
      (with_reducible refine hinv.mono ?_)
      rintro e w7 ⟨rfl, hx7⟩
      have FE7 := (BX.dr0 FE).below hx7 FE.lt
      have FD7 := (BX.dr0 FD6).below hx7 FD6.lt
      have F47 := (BX.dr0 F46).below hx7 F46.lt
      have R7 := OO.next (OO.dr R6) hx7
      have hB7 : Below w.heap.size w w7 := (Below.drew hB6).trans (hx7.mono hB6.size)
      have hT7 : T3 ≤ w7.heap.size := Nat.le_trans hT6 hx7.size
      have hD7 : D < w7.heap.size := FD7.lt
      have G2 : (_ : Option Value) = some (.slice A4 xs.length c4) := FD7.cell 2 (by simp)
      have G3 := fun (o : Obj) => (show (_ : Option Value) = some (.slice A4 xs.length c4) from (FD7.al o).cell 2 (by simp))
      refine hK.out _ _ ?hS533 (fun hHeld2 => ?rest534)
      case hS533 => (exact ⟨FE7.cell 0 (by simp), FE7.cell 1 (by simp), FE7.cell 2 (by simp), FE7.cell 3 (by simp), FE7.cell 4 (by simp)⟩)
      clear hK K hHeld
      have hHeld := hHeld2
      clear hHeld2
      try simp only [Act.put, List.setIfInBounds_toArray, List.set_cons_zero, List.set_cons_succ]
      refine wpAnyH_take (i := 13) (oi := _) (v := ?v464) rfl (by kernel_rfl) (by kernel_rfl) (by kernel_rfl) (fun _ _ _ h => h) (Or.inl ⟨by rfl, ?hy465⟩) hHeld ?rest466
      case hy465 => (intro w hSw; (try dsimp only at hSw); go_simp; (try with_reducible rfl))
      try simp only [Act.put, List.setIfInBounds_toArray, List.set_cons_zero, List.set_cons_succ]
      refine wpAnyH_ready (rs := [1, 14]) (by kernel_rfl) (by simp) ?_
      refine AllReadyH.cons (o := _) rfl (fun K hK => ?stp497) ?more498
      case stp497 =>
        go_simp
        refine hK.out _ _ ?hS499 (fun hHeld2 => ?rest500)
        case hS499 => (exact hHeld)
        clear hK K hHeld
        have hHeld := hHeld2
        clear hHeld2
        try simp only [Act.put, List.setIfInBounds_toArray, List.set_cons_zero, List.set_cons_succ]
        refine wpAnyH_ready (rs := [14]) (by kernel_rfl) (by simp) ?_
        refine AllReadyH.cons (o := _) rfl (fun K hK => ?stp493) ?more494
        case stp493 =>
          go_simp
          refine hK.out _ _ ?hS495 (fun hHeld2 => ?rest496)
          case hS495 => (exact ⟨(FE7.al _).cell 0 (by simp), (FE7.al _).cell 1 (by simp), (FE7.al _).cell 2 (by simp), (FE7.al _).cell 3 (by simp), (FE7.al _).cell 4 (by simp)⟩)
          clear hK K hHeld
          have hHeld := hHeld2
          clear hHeld2
          try simp only [Act.put, List.setIfInBounds_toArray, List.set_cons_zero, List.set_cons_succ]
          refine wpAnyH_ready (rs := [15]) (by kernel_rfl) (by simp) ?_
          refine AllReadyH.cons (o := _) rfl (fun K hK => ?stp489) ?more490
          case stp489 =>
            refine step_appG (w := w7) (f := fSectorSpec) rfl (.tmp 93) (.tmp 106) 24 rfl eltSectorSpec hby (.slice A4 xs.length c4) xs xs.length rfl rfl R7 #[.int .i64 a0, .int .i64 a1, .int .i64 a2, .int .i64 a3, .string (invB a4), .bool false, .bool false, .bool false] 41 (⟨a0, a1, a2, a3, invB a4, false, false, false⟩ : DSectorSpec) 1 rfl rfl rfl (oneSS _) hbig hT7 ?_
            intro v8 w8 R8 hg8 hat8 hbl8
            obtain ⟨A8, c8, rfl⟩ := own_form R8
            rw [List.length_append] at R8 hat8
            have FD8 := (FD7.al (.cells #[.int .i64 a0, .int .i64 a1, .int .i64 a2, .int .i64 a3, .string (invB a4), .bool false, .bool false, .bool false] 41)).grown hg8 hDn
            have FE8 := (FE7.al (.cells #[.int .i64 a0, .int .i64 a1, .int .i64 a2, .int .i64 a3, .string (invB a4), .bool false, .bool false, .bool false] 41)).grown hg8 hRE
            have F48 := F47.below hbl8 h2T
            have hB8 : Below w.heap.size w w8 := hB7.trans (hbl8.mono (Nat.le_of_lt (Nat.lt_trans (Nat.lt_add_of_pos_right (by decide)) h2T)))
            have hn8D : (Value.slice A8 (xs.length + 1) c8).ownBlock ≠ some D := by
              rcases hat8 with e | e
              · rw [show (Value.slice A8 (xs.length + 1) c8).ownBlock = _ from e]; exact hDn
              · rw [show (Value.slice A8 (xs.length + 1) c8).ownBlock = _ from e]; intro e2; have := Option.some.inj e2; omega
            have g2 : (_ : Option Value) = some (.slice A4 xs.length c4) := FD8.cell 2 (by simp)
            have hf8 := fun j => FD8.free j
            refine hK.out _ _ ?hS491 (fun hHeld2 => ?rest492)
            case hS491 => (exact ⟨FE8.cell 0 (by simp), FE8.cell 1 (by simp), FE8.cell 2 (by simp), FE8.cell 3 (by simp), FE8.cell 4 (by simp)⟩)
            clear hK K hHeld
            have hHeld := hHeld2
            clear hHeld2
            try simp only [Act.put, List.setIfInBounds_toArray, List.set_cons_zero, List.set_cons_succ]
            refine wpAnyH_take (i := 16) (oi := _) (v := ?v482) rfl (by kernel_rfl) (by kernel_rfl) (by kernel_rfl) (fun _ _ _ h => h) (Or.inl ⟨by rfl, ?hy483⟩) hHeld ?rest484
            case hy483 => (intro w hSw; (try dsimp only at hSw); go_simp; (try with_reducible rfl))
            try simp only [Act.put, List.setIfInBounds_toArray, List.set_cons_zero, List.set_cons_succ]
            refine wpAnyH_ready (rs := [17]) (by kernel_rfl) (by simp) ?_
            refine AllReadyH.cons (o := _) rfl (fun K hK => ?stp485) ?more486
            case stp485 =>
              go_simp
              refine hK.out _ _ ?hS487 (fun hHeld2 => ?rest488)
              case hS487 => (exact ⟨(World.cell?_setCell_far _ _ _ _ hDE').trans hHeld.1, (World.cell?_setCell_far _ _ _ _ hDE').trans hHeld.2.1, (World.cell?_setCell_far _ _ _ _ hDE').trans hHeld.2.2.1, (World.cell?_setCell_far _ _ _ _ hDE').trans hHeld.2.2.2.1, (World.cell?_setCell_far _ _ _ _ hDE').trans hHeld.2.2.2.2⟩)
              clear hK K hHeld
              have hHeld := hHeld2
              clear hHeld2
              try simp only [Act.put, List.setIfInBounds_toArray, List.set_cons_zero, List.set_cons_succ]
              refine wpAnyH_done (by kernel_rfl) ?_ _
              have FD9 := FD8.put 2 (.slice A8 (xs.length + 1) c8)
              have F49 := F48.far (a := ⟨D, 2, none⟩) (show w.heap.size + 2 ≠ D by omega) (.slice A8 (xs.length + 1) c8)
              have hB9 : Below w.heap.size w _ := Below.setCell hB8 (p := ⟨D, 2, none⟩) (show w.heap.size ≤ D by omega) (.slice A8 (xs.length + 1) c8)
              have d0 : (_ : Option Value) = some (.int .i64 f) := FD9.cell 0 (by simp)
              have d1 : (_ : Option Value) = some (.int .i64 gp) := FD9.cell 1 (by simp)
              have d2 : (_ : Option Value) = some (.slice A8 (xs.length + 1) c8) := FD9.cell 2 (by simp)
              have z0 : (_ : Option Value) = some (.int .i64 0) := F49.cell 0 (by simp)
              have z1 : (_ : Option Value) = some (.int .i64 0) := F49.cell 1 (by simp)
              have z2 : (_ : Option Value) = some (.slice none 0 0) := F49.cell 2 (by simp)
              have hfz := fun j => F49.free j
              go_wp2
              refine bodyPost_ret (v := .tuple #[.agg #[.int .i64 f, .int .i64 (gp), .slice A8 (xs.length + 1) c8], .int .i64 0]) (by simp [results, Tryz.results10, go_sem, World.cell?_setCell_other, z0, z1, z2]) rfl ⟨.slice A8 (xs.length + 1) c8, by rw [HC.out] <;> rfl, ?_, ?_⟩
              · rw [HC.out, HL.out, HYh.out, List.length_append]
                exact own_base (OO.put (OO.put (OO.put (OO.putne R8 hn8D _) h3s _) h3s _) h3s _) (Nat.le_trans (Nat.le_add_right _ 2) (Nat.le_of_lt h3s))
              · exact (by with_reducible repeat (first | exact Below.refl _ _ | assumption | refine below_step ?_ (by assumption) | refine Below.drew ?_ | refine below_drewN ?_ _ | refine below_alloc ?_ _ | refine Below.setCell ?_ (by simp; try omega) _))
            exact AllReadyH.nil
          exact AllReadyH.nil
        exact AllReadyH.nil
      refine AllReadyH.cons (o := _) rfl (fun K hK => ?stp501) ?more502
      case stp501 =>
        go_simp
        refine hK.out _ _ ?hS503 (fun hHeld2 => ?rest504)
        case hS503 => (exact ⟨(FE7.al _).cell 0 (by simp), (FE7.al _).cell 1 (by simp), (FE7.al _).cell 2 (by simp), (FE7.al _).cell 3 (by simp), (FE7.al _).cell 4 (by simp)⟩)
        clear hK K hHeld
        have hHeld := hHeld2
        clear hHeld2
        try simp only [Act.put, List.setIfInBounds_toArray, List.set_cons_zero, List.set_cons_succ]
        refine wpAnyH_ready (rs := [1]) (by kernel_rfl) (by simp) ?_
        refine AllReadyH.cons (o := _) rfl (fun K hK => ?stp478) ?more479
        case stp478 =>
          go_simp
          refine hK.out _ _ ?hS480 (fun hHeld2 => ?rest481)
          case hS480 => (exact hHeld)
          clear hK K hHeld
          have hHeld := hHeld2
          clear hHeld2
          try simp only [Act.put, List.setIfInBounds_toArray, List.set_cons_zero, List.set_cons_succ]
          refine wpAnyH_ready (rs := [15]) (by kernel_rfl) (by simp) ?_
          refine AllReadyH.cons (o := _) rfl (fun K hK => ?stp474) ?more475
          case stp474 =>
            refine step_appG (w := w7) (f := fSectorSpec) rfl (.tmp 93) (.tmp 106) 24 rfl eltSectorSpec hby (.slice A4 xs.length c4) xs xs.length rfl rfl R7 #[.int .i64 a0, .int .i64 a1, .int .i64 a2, .int .i64 a3, .string (invB a4), .bool false, .bool false, .bool false] 41 (⟨a0, a1, a2, a3, invB a4, false, false, false⟩ : DSectorSpec) 1 rfl rfl rfl (oneSS _) hbig hT7 ?_
            intro v8 w8 R8 hg8 hat8 hbl8
            obtain ⟨A8, c8, rfl⟩ := own_form R8
            rw [List.length_append] at R8 hat8
            have FD8 := (FD7.al (.cells #[.int .i64 a0, .int .i64 a1, .int .i64 a2, .int .i64 a3, .string (invB a4), .bool false, .bool false, .bool false] 41)).grown hg8 hDn
            have FE8 := (FE7.al (.cells #[.int .i64 a0, .int .i64 a1, .int .i64 a2, .int .i64 a3, .string (invB a4), .bool false, .bool false, .bool false] 41)).grown hg8 hRE
            have F48 := F47.below hbl8 h2T
            have hB8 : Below w.heap.size w w8 := hB7.trans (hbl8.mono (Nat.le_of_lt (Nat.lt_trans (Nat.lt_add_of_pos_right (by decide)) h2T)))
            have hn8D : (Value.slice A8 (xs.length + 1) c8).ownBlock ≠ some D := by
              rcases hat8 with e | e
              · rw [show (Value.slice A8 (xs.length + 1) c8).ownBlock = _ from e]; exact hDn
              · rw [show (Value.slice A8 (xs.length + 1) c8).ownBlock = _ from e]; intro e2; have := Option.some.inj e2; omega
            have g2 : (_ : Option Value) = some (.slice A4 xs.length c4) := FD8.cell 2 (by simp)
            have hf8 := fun j => FD8.free j
            refine hK.out _ _ ?hS476 (fun hHeld2 => ?rest477)
            case hS476 => (exact ⟨FE8.cell 0 (by simp), FE8.cell 1 (by simp), FE8.cell 2 (by simp), FE8.cell 3 (by simp), FE8.cell 4 (by simp)⟩)
            clear hK K hHeld
            have hHeld := hHeld2
            clear hHeld2
            try simp only [Act.put, List.setIfInBounds_toArray, List.set_cons_zero, List.set_cons_succ]
            refine wpAnyH_take (i := 16) (oi := _) (v := ?v467) rfl (by kernel_rfl) (by kernel_rfl) (by kernel_rfl) (fun _ _ _ h => h) (Or.inl ⟨by rfl, ?hy468⟩) hHeld ?rest469
            case hy468 => (intro w hSw; (try dsimp only at hSw); go_simp; (try with_reducible rfl))
            try simp only [Act.put, List.setIfInBounds_toArray, List.set_cons_zero, List.set_cons_succ]
            refine wpAnyH_ready (rs := [17]) (by kernel_rfl) (by simp) ?_
            refine AllReadyH.cons (o := _) rfl (fun K hK => ?stp470) ?more471
            case stp470 =>
              go_simp
              refine hK.out _ _ ?hS472 (fun hHeld2 => ?rest473)
              case hS472 => (exact ⟨(World.cell?_setCell_far _ _ _ _ hDE').trans hHeld.1, (World.cell?_setCell_far _ _ _ _ hDE').trans hHeld.2.1, (World.cell?_setCell_far _ _ _ _ hDE').trans hHeld.2.2.1, (World.cell?_setCell_far _ _ _ _ hDE').trans hHeld.2.2.2.1, (World.cell?_setCell_far _ _ _ _ hDE').trans hHeld.2.2.2.2⟩)
              clear hK K hHeld
              have hHeld := hHeld2
              clear hHeld2
              try simp only [Act.put, List.setIfInBounds_toArray, List.set_cons_zero, List.set_cons_succ]
              refine wpAnyH_done (by kernel_rfl) ?_ _
              have FD9 := FD8.put 2 (.slice A8 (xs.length + 1) c8)
              have F49 := F48.far (a := ⟨D, 2, none⟩) (show w.heap.size + 2 ≠ D by omega) (.slice A8 (xs.length + 1) c8)
              have hB9 : Below w.heap.size w _ := Below.setCell hB8 (p := ⟨D, 2, none⟩) (show w.heap.size ≤ D by omega) (.slice A8 (xs.length + 1) c8)
              have d0 : (_ : Option Value) = some (.int .i64 f) := FD9.cell 0 (by simp)
              have d1 : (_ : Option Value) = some (.int .i64 gp) := FD9.cell 1 (by simp)
              have d2 : (_ : Option Value) = some (.slice A8 (xs.length + 1) c8) := FD9.cell 2 (by simp)
              have z0 : (_ : Option Value) = some (.int .i64 0) := F49.cell 0 (by simp)
              have z1 : (_ : Option Value) = some (.int .i64 0) := F49.cell 1 (by simp)
              have z2 : (_ : Option Value) = some (.slice none 0 0) := F49.cell 2 (by simp)
              have hfz := fun j => F49.free j
              go_wp2
              refine bodyPost_ret (v := .tuple #[.agg #[.int .i64 f, .int .i64 (gp), .slice A8 (xs.length + 1) c8], .int .i64 0]) (by simp [results, Tryz.results10, go_sem, World.cell?_setCell_other, z0, z1, z2]) rfl ⟨.slice A8 (xs.length + 1) c8, by rw [HC.out] <;> rfl, ?_, ?_⟩
              · rw [HC.out, HL.out, HYh.out, List.length_append]
                exact own_base (OO.put (OO.put (OO.put (OO.putne R8 hn8D _) h3s _) h3s _) h3s _) (Nat.le_trans (Nat.le_add_right _ 2) (Nat.le_of_lt h3s))
              · exact (by with_reducible repeat (first | exact Below.refl _ _ | assumption | refine below_step ?_ (by assumption) | refine Below.drew ?_ | refine below_drewN ?_ _ | refine below_alloc ?_ _ | refine Below.setCell ?_ (by simp; try omega) _))
            exact AllReadyH.nil
          exact AllReadyH.nil
        exact AllReadyH.nil
      exact AllReadyH.nil
    exact AllReadyH.nil
  have hkk := fe_k hfs
  have hk4 : k = 2 ∨ k = 3 ∨ k = 4 ∨ k = 6 := by omega
  by_cases hsn : (xs.length : Int) ≤ s
  · have HC := Lib.hid (pr_ob (g := gp) (x := x) h57 h8 h1 hsn)
    clear h57 h8 h1 hkk
    rcases hk4 with rfl | rfl | rfl | rfl
    · go_enter Tryz.func10, Tryz.ntmps10
      go_wp2_with (first | (go_at_call 20; rw [← HW.out]; (with_reducible refine hq.mono ?_); rintro e w2 ⟨rfl, hx2⟩; replace F2 := F2.below hx2 F2.lt; replace F3 := F3.below hx2 F3.lt; replace F4 := F4.below hx2 F4.lt; have hB : Below w.heap.size w w2 := hb0.trans (hx2.mono hb0.size); have e0 : (_ : Option Value) = some (.int .i64 f) := F2.cell 0 (by simp); have e1 : (_ : Option Value) = some (.int .i64 gp) := F2.cell 1 (by simp); have e2 : (_ : Option Value) = some (.slice A xs.length cp) := F2.cell 2 (by simp); have k0 : (_ : Option Value) = some (.int .i64 2) := F3.cell 0 (by simp); have k1 : (_ : Option Value) = some (.int .i64 s) := F3.cell 1 (by simp); have k2 : (_ : Option Value) = some (.int .i64 x) := F3.cell 2 (by simp); have z0 : (_ : Option Value) = some (.int .i64 0) := F4.cell 0 (by simp); have z1 : (_ : Option Value) = some (.int .i64 0) := F4.cell 1 (by simp); have z2 : (_ : Option Value) = some (.slice none 0 0) := F4.cell 2 (by simp); have hfz := fun j => F4.free j) | (go_at_call 9; (with_reducible refine (hfe _).mono ?_); rintro e w3 ⟨rfl, hx3⟩; clear e0 e1 e2 k0 k1 k2 z0 z1 z2 hfz; replace F2 := F2.below hx3 F2.lt; replace F3 := F3.below hx3 F3.lt; replace F4 := F4.below hx3 F4.lt; replace hB := hB.trans (hx3.mono hB.size); have e0 : (_ : Option Value) = some (.int .i64 f) := F2.cell 0 (by simp); have e1 : (_ : Option Value) = some (.int .i64 gp) := F2.cell 1 (by simp); have e2 : (_ : Option Value) = some (.slice A xs.length cp) := F2.cell 2 (by simp); have k0 : (_ : Option Value) = some (.int .i64 2) := F3.cell 0 (by simp); have k1 : (_ : Option Value) = some (.int .i64 s) := F3.cell 1 (by simp); have k2 : (_ : Option Value) = some (.int .i64 x) := F3.cell 2 (by simp); have z0 : (_ : Option Value) = some (.int .i64 0) := F4.cell 0 (by simp); have z1 : (_ : Option Value) = some (.int .i64 0) := F4.cell 1 (by simp); have z2 : (_ : Option Value) = some (.slice none 0 0) := F4.cell 2 (by simp); have hfz := fun j => F4.free j) | (go_at_call 21; (with_reducible refine (size_ss_any A xs.length cp _).mono ?_); rintro e w9 ⟨rfl, rfl⟩))
      refine bodyPost_ret (v := .tuple #[.agg #[.int .i64 0, .int .i64 0, .slice none 0 0], .int .i64 2]) (by simp [results, Tryz.results10, go_sem, World.cell?_setCell_other, z0, z1, z2]) rfl ⟨.slice none 0 0, by rw [HC.out]; rfl, ?_, ?_⟩
      · rw [HC.out]; exact World.ownsRow_nil _ _ _ _
      · exact (by with_reducible repeat (first | exact Below.refl _ _ | assumption | refine below_step ?_ (by assumption) | refine Below.drew ?_ | refine below_drewN ?_ _ | refine below_alloc ?_ _ | refine Below.setCell ?_ (by simp; try omega) _))
    · go_enter Tryz.func10, Tryz.ntmps10
      go_wp2_with (first | (go_at_call 20; rw [← HW.out]; (with_reducible refine hq.mono ?_); rintro e w2 ⟨rfl, hx2⟩; replace F2 := F2.below hx2 F2.lt; replace F3 := F3.below hx2 F3.lt; replace F4 := F4.below hx2 F4.lt; have hB : Below w.heap.size w w2 := hb0.trans (hx2.mono hb0.size); have e0 : (_ : Option Value) = some (.int .i64 f) := F2.cell 0 (by simp); have e1 : (_ : Option Value) = some (.int .i64 gp) := F2.cell 1 (by simp); have e2 : (_ : Option Value) = some (.slice A xs.length cp) := F2.cell 2 (by simp); have k0 : (_ : Option Value) = some (.int .i64 3) := F3.cell 0 (by simp); have k1 : (_ : Option Value) = some (.int .i64 s) := F3.cell 1 (by simp); have k2 : (_ : Option Value) = some (.int .i64 x) := F3.cell 2 (by simp); have z0 : (_ : Option Value) = some (.int .i64 0) := F4.cell 0 (by simp); have z1 : (_ : Option Value) = some (.int .i64 0) := F4.cell 1 (by simp); have z2 : (_ : Option Value) = some (.slice none 0 0) := F4.cell 2 (by simp); have hfz := fun j => F4.free j) | (go_at_call 9; (with_reducible refine (hfe _).mono ?_); rintro e w3 ⟨rfl, hx3⟩; clear e0 e1 e2 k0 k1 k2 z0 z1 z2 hfz; replace F2 := F2.below hx3 F2.lt; replace F3 := F3.below hx3 F3.lt; replace F4 := F4.below hx3 F4.lt; replace hB := hB.trans (hx3.mono hB.size); have e0 : (_ : Option Value) = some (.int .i64 f) := F2.cell 0 (by simp); have e1 : (_ : Option Value) = some (.int .i64 gp) := F2.cell 1 (by simp); have e2 : (_ : Option Value) = some (.slice A xs.length cp) := F2.cell 2 (by simp); have k0 : (_ : Option Value) = some (.int .i64 3) := F3.cell 0 (by simp); have k1 : (_ : Option Value) = some (.int .i64 s) := F3.cell 1 (by simp); have k2 : (_ : Option Value) = some (.int .i64 x) := F3.cell 2 (by simp); have z0 : (_ : Option Value) = some (.int .i64 0) := F4.cell 0 (by simp); have z1 : (_ : Option Value) = some (.int .i64 0) := F4.cell 1 (by simp); have z2 : (_ : Option Value) = some (.slice none 0 0) := F4.cell 2 (by simp); have hfz := fun j => F4.free j) | (go_at_call 21; (with_reducible refine (size_ss_any A xs.length cp _).mono ?_); rintro e w9 ⟨rfl, rfl⟩))
      refine bodyPost_ret (v := .tuple #[.agg #[.int .i64 0, .int .i64 0, .slice none 0 0], .int .i64 2]) (by simp [results, Tryz.results10, go_sem, World.cell?_setCell_other, z0, z1, z2]) rfl ⟨.slice none 0 0, by rw [HC.out]; rfl, ?_, ?_⟩
      · rw [HC.out]; exact World.ownsRow_nil _ _ _ _
      · exact (by with_reducible repeat (first | exact Below.refl _ _ | assumption | refine below_step ?_ (by assumption) | refine Below.drew ?_ | refine below_drewN ?_ _ | refine below_alloc ?_ _ | refine Below.setCell ?_ (by simp; try omega) _))
    · go_enter Tryz.func10, Tryz.ntmps10
      go_wp2_with (first | (go_at_call 20; rw [← HW.out]; (with_reducible refine hq.mono ?_); rintro e w2 ⟨rfl, hx2⟩; replace F2 := F2.below hx2 F2.lt; replace F3 := F3.below hx2 F3.lt; replace F4 := F4.below hx2 F4.lt; have hB : Below w.heap.size w w2 := hb0.trans (hx2.mono hb0.size); have e0 : (_ : Option Value) = some (.int .i64 f) := F2.cell 0 (by simp); have e1 : (_ : Option Value) = some (.int .i64 gp) := F2.cell 1 (by simp); have e2 : (_ : Option Value) = some (.slice A xs.length cp) := F2.cell 2 (by simp); have k0 : (_ : Option Value) = some (.int .i64 4) := F3.cell 0 (by simp); have k1 : (_ : Option Value) = some (.int .i64 s) := F3.cell 1 (by simp); have k2 : (_ : Option Value) = some (.int .i64 x) := F3.cell 2 (by simp); have z0 : (_ : Option Value) = some (.int .i64 0) := F4.cell 0 (by simp); have z1 : (_ : Option Value) = some (.int .i64 0) := F4.cell 1 (by simp); have z2 : (_ : Option Value) = some (.slice none 0 0) := F4.cell 2 (by simp); have hfz := fun j => F4.free j) | (go_at_call 9; (with_reducible refine (hfe _).mono ?_); rintro e w3 ⟨rfl, hx3⟩; clear e0 e1 e2 k0 k1 k2 z0 z1 z2 hfz; replace F2 := F2.below hx3 F2.lt; replace F3 := F3.below hx3 F3.lt; replace F4 := F4.below hx3 F4.lt; replace hB := hB.trans (hx3.mono hB.size); have e0 : (_ : Option Value) = some (.int .i64 f) := F2.cell 0 (by simp); have e1 : (_ : Option Value) = some (.int .i64 gp) := F2.cell 1 (by simp); have e2 : (_ : Option Value) = some (.slice A xs.length cp) := F2.cell 2 (by simp); have k0 : (_ : Option Value) = some (.int .i64 4) := F3.cell 0 (by simp); have k1 : (_ : Option Value) = some (.int .i64 s) := F3.cell 1 (by simp); have k2 : (_ : Option Value) = some (.int .i64 x) := F3.cell 2 (by simp); have z0 : (_ : Option Value) = some (.int .i64 0) := F4.cell 0 (by simp); have z1 : (_ : Option Value) = some (.int .i64 0) := F4.cell 1 (by simp); have z2 : (_ : Option Value) = some (.slice none 0 0) := F4.cell 2 (by simp); have hfz := fun j => F4.free j) | (go_at_call 21; (with_reducible refine (size_ss_any A xs.length cp _).mono ?_); rintro e w9 ⟨rfl, rfl⟩))
      refine bodyPost_ret (v := .tuple #[.agg #[.int .i64 0, .int .i64 0, .slice none 0 0], .int .i64 2]) (by simp [results, Tryz.results10, go_sem, World.cell?_setCell_other, z0, z1, z2]) rfl ⟨.slice none 0 0, by rw [HC.out]; rfl, ?_, ?_⟩
      · rw [HC.out]; exact World.ownsRow_nil _ _ _ _
      · exact (by with_reducible repeat (first | exact Below.refl _ _ | assumption | refine below_step ?_ (by assumption) | refine Below.drew ?_ | refine below_drewN ?_ _ | refine below_alloc ?_ _ | refine Below.setCell ?_ (by simp; try omega) _))
    · go_enter Tryz.func10, Tryz.ntmps10
      go_wp2_with (first | (go_at_call 20; rw [← HW.out]; (with_reducible refine hq.mono ?_); rintro e w2 ⟨rfl, hx2⟩; replace F2 := F2.below hx2 F2.lt; replace F3 := F3.below hx2 F3.lt; replace F4 := F4.below hx2 F4.lt; have hB : Below w.heap.size w w2 := hb0.trans (hx2.mono hb0.size); have e0 : (_ : Option Value) = some (.int .i64 f) := F2.cell 0 (by simp); have e1 : (_ : Option Value) = some (.int .i64 gp) := F2.cell 1 (by simp); have e2 : (_ : Option Value) = some (.slice A xs.length cp) := F2.cell 2 (by simp); have k0 : (_ : Option Value) = some (.int .i64 6) := F3.cell 0 (by simp); have k1 : (_ : Option Value) = some (.int .i64 s) := F3.cell 1 (by simp); have k2 : (_ : Option Value) = some (.int .i64 x) := F3.cell 2 (by simp); have z0 : (_ : Option Value) = some (.int .i64 0) := F4.cell 0 (by simp); have z1 : (_ : Option Value) = some (.int .i64 0) := F4.cell 1 (by simp); have z2 : (_ : Option Value) = some (.slice none 0 0) := F4.cell 2 (by simp); have hfz := fun j => F4.free j) | (go_at_call 9; (with_reducible refine (hfe _).mono ?_); rintro e w3 ⟨rfl, hx3⟩; clear e0 e1 e2 k0 k1 k2 z0 z1 z2 hfz; replace F2 := F2.below hx3 F2.lt; replace F3 := F3.below hx3 F3.lt; replace F4 := F4.below hx3 F4.lt; replace hB := hB.trans (hx3.mono hB.size); have e0 : (_ : Option Value) = some (.int .i64 f) := F2.cell 0 (by simp); have e1 : (_ : Option Value) = some (.int .i64 gp) := F2.cell 1 (by simp); have e2 : (_ : Option Value) = some (.slice A xs.length cp) := F2.cell 2 (by simp); have k0 : (_ : Option Value) = some (.int .i64 6) := F3.cell 0 (by simp); have k1 : (_ : Option Value) = some (.int .i64 s) := F3.cell 1 (by simp); have k2 : (_ : Option Value) = some (.int .i64 x) := F3.cell 2 (by simp); have z0 : (_ : Option Value) = some (.int .i64 0) := F4.cell 0 (by simp); have z1 : (_ : Option Value) = some (.int .i64 0) := F4.cell 1 (by simp); have z2 : (_ : Option Value) = some (.slice none 0 0) := F4.cell 2 (by simp); have hfz := fun j => F4.free j) | (go_at_call 21; (with_reducible refine (size_ss_any A xs.length cp _).mono ?_); rintro e w9 ⟨rfl, rfl⟩))
      refine bodyPost_ret (v := .tuple #[.agg #[.int .i64 0, .int .i64 0, .slice none 0 0], .int .i64 2]) (by simp [results, Tryz.results10, go_sem, World.cell?_setCell_other, z0, z1, z2]) rfl ⟨.slice none 0 0, by rw [HC.out]; rfl, ?_, ?_⟩
      · rw [HC.out]; exact World.ownsRow_nil _ _ _ _
      · exact (by with_reducible repeat (first | exact Below.refl _ _ | assumption | refine below_step ?_ (by assumption) | refine Below.drew ?_ | refine below_drewN ?_ _ | refine below_alloc ?_ _ | refine Below.setCell ?_ (by simp; try omega) _))
  have HC := Lib.hid (pr_o (g := gp) (x := x) h57 h8 h1 hsn)
  have hs := fe_s hfs
  obtain ⟨I, rfl⟩ : ∃ I : Nat, s = (I : Int) := ⟨s.toNat, by omega⟩
  have hIl : I < xs.length := by omega
  have hIi : ¬ (xs.length : Int) ≤ (I : Int) := hsn
  have hIj : (I : Int) < (xs.length : Int) := by omega
  have hpos : 0 < xs.length := by omega
  obtain ⟨h00, h01, -⟩ := ts_ss hts hIl
  have HL := Lib.hid (prL_k (xs := xs) (x := x) h8 h1 hIl)
  clear h57 h8 h1 hkk hs
  rcases hk4 with rfl | hk4
  · go_enter Tryz.func10, Tryz.ntmps10
    go_upto_region 13 with (first | (go_at_call 20; rw [← HW.out]; (with_reducible refine hq.mono ?_); rintro e w2 ⟨rfl, hx2⟩; replace F2 := F2.below hx2 F2.lt; replace F3 := F3.below hx2 F3.lt; replace F4 := F4.below hx2 F4.lt; have hB : Below w.heap.size w w2 := hb0.trans (hx2.mono hb0.size); have e0 : (_ : Option Value) = some (.int .i64 f) := F2.cell 0 (by simp); have e1 : (_ : Option Value) = some (.int .i64 gp) := F2.cell 1 (by simp); have e2 : (_ : Option Value) = some (.slice A xs.length cp) := F2.cell 2 (by simp); have k0 : (_ : Option Value) = some (.int .i64 2) := F3.cell 0 (by simp); have k1 : (_ : Option Value) = some (.int .i64 (I : Int)) := F3.cell 1 (by simp); have k2 : (_ : Option Value) = some (.int .i64 x) := F3.cell 2 (by simp); have z0 : (_ : Option Value) = some (.int .i64 0) := F4.cell 0 (by simp); have z1 : (_ : Option Value) = some (.int .i64 0) := F4.cell 1 (by simp); have z2 : (_ : Option Value) = some (.slice none 0 0) := F4.cell 2 (by simp); have hfz := fun j => F4.free j) | (go_at_call 9; (with_reducible refine (hfe _).mono ?_); rintro e w3 ⟨rfl, hx3⟩; clear e0 e1 e2 k0 k1 k2 z0 z1 z2 hfz; replace F2 := F2.below hx3 F2.lt; replace F3 := F3.below hx3 F3.lt; replace F4 := F4.below hx3 F4.lt; replace hB := hB.trans (hx3.mono hB.size); have e0 : (_ : Option Value) = some (.int .i64 f) := F2.cell 0 (by simp); have e1 : (_ : Option Value) = some (.int .i64 gp) := F2.cell 1 (by simp); have e2 : (_ : Option Value) = some (.slice A xs.length cp) := F2.cell 2 (by simp); have k0 : (_ : Option Value) = some (.int .i64 2) := F3.cell 0 (by simp); have k1 : (_ : Option Value) = some (.int .i64 (I : Int)) := F3.cell 1 (by simp); have k2 : (_ : Option Value) = some (.int .i64 x) := F3.cell 2 (by simp); have z0 : (_ : Option Value) = some (.int .i64 0) := F4.cell 0 (by simp); have z1 : (_ : Option Value) = some (.int .i64 0) := F4.cell 1 (by simp); have z2 : (_ : Option Value) = some (.slice none 0 0) := F4.cell 2 (by simp); have hfz := fun j => F4.free j) | (go_at_call 22; have h3s := F4.lt; (with_reducible refine (cloneTrack_any f gp A cp xs _ ((hxg _ hB).more hB.size) hn).mono ?_); rintro e w4 ⟨v4, rfl, R4, hx4⟩; obtain ⟨A4, c4, rfl⟩ := own_form R4; clear e0 e1 e2 k0 k1 k2 z0 z1 z2 hfz; replace F2 := F2.below hx4 F2.lt; replace F3 := F3.below hx4 F3.lt; replace F4 := F4.below hx4 F4.lt; replace hB := hB.trans (hx4.mono hB.size); have e0 : (_ : Option Value) = some (.int .i64 f) := F2.cell 0 (by simp); have e1 : (_ : Option Value) = some (.int .i64 gp) := F2.cell 1 (by simp); have e2 : (_ : Option Value) = some (.slice A xs.length cp) := F2.cell 2 (by simp); have k0 : (_ : Option Value) = some (.int .i64 2) := F3.cell 0 (by simp); have k1 : (_ : Option Value) = some (.int .i64 (I : Int)) := F3.cell 1 (by simp); have k2 : (_ : Option Value) = some (.int .i64 x) := F3.cell 2 (by simp); have z0 : (_ : Option Value) = some (.int .i64 0) := F4.cell 0 (by simp); have z1 : (_ : Option Value) = some (.int .i64 0) := F4.cell 1 (by simp); have z2 : (_ : Option Value) = some (.slice none 0 0) := F4.cell 2 (by simp); have hfz := fun j => F4.free j) | (go_at_call 21; (with_reducible refine (size_ss_any A xs.length cp _).mono ?_); rintro e w9 ⟨rfl, rfl⟩))
    obtain ⟨b, c9, hv⟩ := Go.Joins.ownsRow_form R4 hpos
    cases hv
    have hT5 : w3.heap.size ≤ (w4.alloc (.cells #[.int .i64 f, .int .i64 gp, .slice (some ⟨b, 0, none⟩) xs.length c4] 26)).heap.size := by rw [World.size_alloc]; exact Nat.le_succ_of_le hx4.size
    clear hq hfe hx2 hx3 hx4 e0 e1 e2 k0 k1 k2 z0 z1 z2 hfz
    have hDn : (Value.slice (some ⟨b, 0, none⟩) xs.length c4).ownBlock ≠ some w4.heap.size := OO.ne_box R4
    have hD4 : w.heap.size + 2 < w4.heap.size := F4.lt
    have FD := BX.made w4 26 [.int .i64 f, .int .i64 gp, .slice (some ⟨b, 0, none⟩) xs.length c4]
    replace F2 := F2.al (.cells #[.int .i64 f, .int .i64 gp, .slice (some ⟨b, 0, none⟩) xs.length c4] 26)
    replace F3 := F3.al (.cells #[.int .i64 f, .int .i64 gp, .slice (some ⟨b, 0, none⟩) xs.length c4] 26)
    replace F4 := F4.al (.cells #[.int .i64 f, .int .i64 gp, .slice (some ⟨b, 0, none⟩) xs.length c4] 26)
    replace R4 := OO.al R4 (.cells #[.int .i64 f, .int .i64 gp, .slice (some ⟨b, 0, none⟩) xs.length c4] 26)
    replace hB : BB w _ := BB.al hB (.cells #[.int .i64 f, .int .i64 gp, .slice (some ⟨b, 0, none⟩) xs.length c4] 26)
    generalize w4.alloc (.cells #[.int .i64 f, .int .i64 gp, .slice (some ⟨b, 0, none⟩) xs.length c4] 26) = w5 at F2 F3 F4 FD R4 hB hT5 ⊢
    replace hB : Below w.heap.size w w5 := hB
    generalize w4.heap.size = D at hDn hD4 FD ⊢
    generalize w3.heap.size = T3 at R4 h3s hT5
    have e0 : (_ : Option Value) = some (.int .i64 f) := F2.cell 0 (by simp)
    have e1 : (_ : Option Value) = some (.int .i64 gp) := F2.cell 1 (by simp)
    have e2 : (_ : Option Value) = some (.slice A xs.length cp) := F2.cell 2 (by simp)
    have k0 : (_ : Option Value) = some (.int .i64 2) := F3.cell 0 (by simp)
    have k1 : (_ : Option Value) = some (.int .i64 (I : Int)) := F3.cell 1 (by simp)
    have k2 : (_ : Option Value) = some (.int .i64 x) := F3.cell 2 (by simp)
    have z0 : (_ : Option Value) = some (.int .i64 0) := F4.cell 0 (by simp)
    have z1 : (_ : Option Value) = some (.int .i64 0) := F4.cell 1 (by simp)
    have z2 : (_ : Option Value) = some (.slice none 0 0) := F4.cell 2 (by simp)
    have hfz := fun j => F4.free j
    have d0 : (_ : Option Value) = some (.int .i64 f) := FD.cell 0 (by simp)
    have d1 : (_ : Option Value) = some (.int .i64 gp) := FD.cell 1 (by simp)
    have d2 : (_ : Option Value) = some (.slice (some ⟨b, 0, none⟩) xs.length c4) := FD.cell 2 (by simp)
    have hfd := fun j => FD.free j
    have hb3 := (World.ownsRow.lt R4 b rfl).1
    have hbD : b ≠ D := fun e => hDn (by rw [e]; rfl)
    have hb1 : b ≠ w.heap.size + 1 := by omega
    have hb2 : b ≠ w.heap.size + 2 := by omega
    have hbw : w.heap.size ≤ b := by omega
    have hc0 : (World.drew w5).cell? ⟨b, I * 8, none⟩ = some (.int .i64 xs[I].f0) := own_get R4 fSectorSpec_len hIl (q := 0) (by decide) (u := .int .i64 xs[I].f0) rfl
    have hf0 : (World.drew w5).frozen? ⟨b, I * 8, none⟩ = false := World.ownsRow.frozenAt (OO.dr R4) (I * 8)
    have R5 := OO.dr (World.ownsRow.stored R4 (I * 8) (.int .i64 (255 - xs[I].f0))).1
    rw [show I * 8 = I * 8 + 0 from rfl, flat_setq fSectorSpec 8 fSectorSpec_len xs I 0 (.int .i64 (255 - xs[I].f0)) (prS 2 xs[I]) hIl (by decide) rfl] at R5
    have FD5 := (BX.dr0 (FD.far (a := ⟨b, I * 8, none⟩) hbD.symm (.int .i64 (255 - xs[I].f0))))
    have F45 := (BX.dr0 (F4.far (a := ⟨b, I * 8, none⟩) hb2.symm (.int .i64 (255 - xs[I].f0))))
    have F35 := (BX.dr0 (F3.far (a := ⟨b, I * 8, none⟩) hb1.symm (.int .i64 (255 - xs[I].f0))))
    have hB5 : Below w.heap.size w _ := Below.drew (Below.setCell hB (p := ⟨b, I * 8, none⟩) hbw (.int .i64 (255 - xs[I].f0)))
    have hws : IntKind.i64.wrap (255 - xs[I].f0) = 255 - xs[I].f0 := IntWalk.i64_in _ (by omega)
    go_upto_region 18 with fail
    clear z0 z1 z2 hfz d0 d1 d2 hfd e0 e1 e2 k0 k1 k2
    refine wp_region_held_drew (S := (fun W => W.cell? ⟨D, 2, none⟩ = some (.slice (some ⟨b, 0, none⟩) xs.length c4) ∧ W.cell? ⟨w.heap.size + 1, 1, none⟩ = some (.int .i64 (I : Int)))) (by kernel_rfl) ?hS643 (fun hHeld => ?rest644)
    case hS643 => (exact ⟨FD.cell 2 (by simp), F3.cell 1 (by simp)⟩)
    refine wpAnyH_take (i := 0) (oi := _) (v := ?v645) rfl (by kernel_rfl) (by kernel_rfl) (by kernel_rfl) (fun _ _ _ h => h) (Or.inl ⟨by rfl, ?hy646⟩) hHeld ?rest647
    case hy646 => (intro w hSw; (try dsimp only at hSw); go_simp; (try with_reducible rfl))
    try simp only [Act.put, List.setIfInBounds_toArray, List.set_cons_zero, List.set_cons_succ]
    refine wpAnyH_take (i := 1) (oi := _) (v := ?v648) rfl (by kernel_rfl) (by kernel_rfl) (by kernel_rfl) (fun _ _ _ h => h) (Or.inl ⟨by rfl, ?hy649⟩) hHeld ?rest650
    case hy649 => (intro w hSw; (try dsimp only at hSw); go_simp; (try with_reducible rfl))
    try simp only [Act.put, List.setIfInBounds_toArray, List.set_cons_zero, List.set_cons_succ]
    refine wpAnyH_take (i := 2) (oi := _) (v := ?v651) rfl (by kernel_rfl) (by kernel_rfl) (by kernel_rfl) (fun _ _ _ h => h) (Or.inl ⟨by rfl, ?hy652⟩) hHeld ?rest653
    case hy652 => (intro w hSw; (try dsimp only at hSw); go_simp; (try with_reducible rfl))
    try simp only [Act.put, List.setIfInBounds_toArray, List.set_cons_zero, List.set_cons_succ]
    refine wpAnyH_take (i := 3) (oi := _) (v := ?v654) rfl (by kernel_rfl) (by kernel_rfl) (by kernel_rfl) (fun _ _ _ h => h) (Or.inl ⟨by rfl, ?hy655⟩) hHeld ?rest656
    case hy655 => (intro w hSw; (try dsimp only at hSw); go_simp; (try with_reducible rfl))
    try simp only [Act.put, List.setIfInBounds_toArray, List.set_cons_zero, List.set_cons_succ]
    refine wpAnyH_take (i := 4) (oi := _) (v := ?v657) rfl (by kernel_rfl) (by kernel_rfl) (by kernel_rfl) (fun _ _ _ h => h) (Or.inl ⟨by rfl, ?hy658⟩) hHeld ?rest659
    case hy658 => (intro w hSw; (try dsimp only at hSw); go_simp; (try with_reducible rfl))
    try simp only [Act.put, List.setIfInBounds_toArray, List.set_cons_zero, List.set_cons_succ]
    refine wpAnyH_take (i := 5) (oi := _) (v := ?v660) rfl (by kernel_rfl) (by kernel_rfl) (by kernel_rfl) (fun _ _ _ h => h) (Or.inl ⟨by rfl, ?hy661⟩) hHeld ?rest662
    case hy661 => (intro w hSw; (try dsimp only at hSw); go_simp; (try with_reducible rfl))
    try simp only [Act.put, List.setIfInBounds_toArray, List.set_cons_zero, List.set_cons_succ]
    refine wpAnyH_take (i := 6) (oi := _) (v := ?v663) rfl (by kernel_rfl) (by kernel_rfl) (by kernel_rfl) (fun _ _ _ h => h) (Or.inl ⟨by rfl, ?hy664⟩) hHeld ?rest665
    case hy664 => (intro w hSw; (try dsimp only at hSw); go_simp; (try with_reducible rfl))
    try simp only [Act.put, List.setIfInBounds_toArray, List.set_cons_zero, List.set_cons_succ]
    refine wpAnyH_take (i := 7) (oi := _) (v := ?v666) rfl (by kernel_rfl) (by kernel_rfl) (by kernel_rfl) (fun _ _ _ h => h) (Or.inl ⟨by rfl, ?hy667⟩) hHeld ?rest668
    case hy667 => (intro w hSw; (try dsimp only at hSw); go_simp; (try with_reducible rfl))
    try simp only [Act.put, List.setIfInBounds_toArray, List.set_cons_zero, List.set_cons_succ]
    refine wpAnyH_take (i := 8) (oi := _) (v := ?v669) rfl (by kernel_rfl) (by kernel_rfl) (by kernel_rfl) (fun _ _ _ h => h) (Or.inl ⟨by rfl, ?hy670⟩) hHeld ?rest671
    case hy670 => (intro w hSw; (try dsimp only at hSw); go_simp; (try with_reducible rfl))
    try simp only [Act.put, List.setIfInBounds_toArray, List.set_cons_zero, List.set_cons_succ]
    refine wpAnyH_take (i := 9) (oi := _) (v := ?v672) rfl (by kernel_rfl) (by kernel_rfl) (by kernel_rfl) (fun _ _ _ h => h) (Or.inl ⟨by rfl, ?hy673⟩) hHeld ?rest674
    case hy673 => (intro w hSw; (try dsimp only at hSw); go_simp; (try with_reducible rfl))
    try simp only [Act.put, List.setIfInBounds_toArray, List.set_cons_zero, List.set_cons_succ]
    refine wpAnyH_ready (rs := [10]) (by kernel_rfl) (by simp) ?_
    refine AllReadyH.cons (o := _) rfl (fun K hK => ?stp688) ?more689
    case stp688 =>
      go_simp
      refine hK.out _ _ ?hS690 (fun hHeld2 => ?rest691)
      case hS690 => (exact ⟨(BX.dr0 FD).cell 2 (by simp), (BX.dr0 F3).cell 1 (by simp)⟩)
      clear hK K hHeld
      have hHeld := hHeld2
      clear hHeld2
      try simp only [Act.put, List.setIfInBounds_toArray, List.set_cons_zero, List.set_cons_succ]
      refine wpAnyH_take (i := 11) (oi := _) (v := ?v675) rfl (by kernel_rfl) (by kernel_rfl) (by kernel_rfl) (fun _ _ _ h => h) (Or.inl ⟨by rfl, ?hy676⟩) hHeld ?rest677
      case hy676 => (intro w hSw; (try dsimp only at hSw); go_simp; (try with_reducible rfl))
      try simp only [Act.put, List.setIfInBounds_toArray, List.set_cons_zero, List.set_cons_succ]
      refine wpAnyH_take (i := 12) (oi := _) (v := ?v678) rfl (by kernel_rfl) (by kernel_rfl) (by kernel_rfl) (fun _ _ _ h => h) (Or.inl ⟨by rfl, ?hy679⟩) hHeld ?rest680
      case hy679 => (intro w hSw; (try dsimp only at hSw); go_simp; (try with_reducible rfl))
      try simp only [Act.put, List.setIfInBounds_toArray, List.set_cons_zero, List.set_cons_succ]
      refine wpAnyH_take (i := 13) (oi := _) (v := ?v681) rfl (by kernel_rfl) (by kernel_rfl) (by kernel_rfl) (fun _ _ _ h => h) (Or.inl ⟨by rfl, ?hy682⟩) hHeld ?rest683
      case hy682 => (intro w hSw; (try dsimp only at hSw); go_simp; (try with_reducible rfl))
      try simp only [Act.put, List.setIfInBounds_toArray, List.set_cons_zero, List.set_cons_succ]
      refine wpAnyH_ready (rs := [14]) (by kernel_rfl) (by simp) ?_
      refine AllReadyH.cons (o := _) rfl (fun K hK => ?stp684) ?more685
      case stp684 =>
        go_simp
        refine hK.out _ _ ?hS686 (fun hHeld2 => ?rest687)
        case hS686 => (exact ⟨FD5.cell 2 (by simp), F35.cell 1 (by simp)⟩)
        clear hK K hHeld
        have hHeld := hHeld2
        clear hHeld2
        try simp only [Act.put, List.setIfInBounds_toArray, List.set_cons_zero, List.set_cons_succ]
        refine wpAnyH_done (by kernel_rfl) ?_ _
        have d0 : (_ : Option Value) = some (.int .i64 f) := FD5.cell 0 (by simp)
        have d1 : (_ : Option Value) = some (.int .i64 gp) := FD5.cell 1 (by simp)
        have d2 : (_ : Option Value) = some (.slice (some ⟨b, 0, none⟩) xs.length c4) := FD5.cell 2 (by simp)
        have z0 : (_ : Option Value) = some (.int .i64 0) := F45.cell 0 (by simp)
        have z1 : (_ : Option Value) = some (.int .i64 0) := F45.cell 1 (by simp)
        have z2 : (_ : Option Value) = some (.slice none 0 0) := F45.cell 2 (by simp)
        have hfz := fun j => F45.free j
        generalize (w5.setCell ⟨b, I * 8, none⟩ (.int .i64 (255 - xs[I].f0))).drew = w8 at *
        go_wp2
        refine bodyPost_ret (v := .tuple #[.agg #[.int .i64 f, .int .i64 (gp), .slice (some ⟨b, 0, none⟩) xs.length c4], .int .i64 0]) (by simp [results, Tryz.results10, go_sem, World.cell?_setCell_other, z0, z1, z2]) rfl ⟨.slice (some ⟨b, 0, none⟩) xs.length c4, by rw [HC.out] <;> rfl, ?_, ?_⟩
        · rw [HC.out, HL.out, List.length_set]
          exact own_base (OO.put (OO.put (OO.put (R5) h3s _) h3s _) h3s _) (Nat.le_trans (Nat.le_add_right _ 2) (Nat.le_of_lt h3s))
        · exact (by with_reducible repeat (first | exact Below.refl _ _ | assumption | refine below_step ?_ (by assumption) | refine Below.drew ?_ | refine below_drewN ?_ _ | refine below_alloc ?_ _ | refine Below.setCell ?_ (by simp; try omega) _))
      exact AllReadyH.nil
    exact AllReadyH.nil
  rcases hk4 with rfl | hk4
  · go_enter Tryz.func10, Tryz.ntmps10
    go_upto_region 13 with (first | (go_at_call 20; rw [← HW.out]; (with_reducible refine hq.mono ?_); rintro e w2 ⟨rfl, hx2⟩; replace F2 := F2.below hx2 F2.lt; replace F3 := F3.below hx2 F3.lt; replace F4 := F4.below hx2 F4.lt; have hB : Below w.heap.size w w2 := hb0.trans (hx2.mono hb0.size); have e0 : (_ : Option Value) = some (.int .i64 f) := F2.cell 0 (by simp); have e1 : (_ : Option Value) = some (.int .i64 gp) := F2.cell 1 (by simp); have e2 : (_ : Option Value) = some (.slice A xs.length cp) := F2.cell 2 (by simp); have k0 : (_ : Option Value) = some (.int .i64 3) := F3.cell 0 (by simp); have k1 : (_ : Option Value) = some (.int .i64 (I : Int)) := F3.cell 1 (by simp); have k2 : (_ : Option Value) = some (.int .i64 x) := F3.cell 2 (by simp); have z0 : (_ : Option Value) = some (.int .i64 0) := F4.cell 0 (by simp); have z1 : (_ : Option Value) = some (.int .i64 0) := F4.cell 1 (by simp); have z2 : (_ : Option Value) = some (.slice none 0 0) := F4.cell 2 (by simp); have hfz := fun j => F4.free j) | (go_at_call 9; (with_reducible refine (hfe _).mono ?_); rintro e w3 ⟨rfl, hx3⟩; clear e0 e1 e2 k0 k1 k2 z0 z1 z2 hfz; replace F2 := F2.below hx3 F2.lt; replace F3 := F3.below hx3 F3.lt; replace F4 := F4.below hx3 F4.lt; replace hB := hB.trans (hx3.mono hB.size); have e0 : (_ : Option Value) = some (.int .i64 f) := F2.cell 0 (by simp); have e1 : (_ : Option Value) = some (.int .i64 gp) := F2.cell 1 (by simp); have e2 : (_ : Option Value) = some (.slice A xs.length cp) := F2.cell 2 (by simp); have k0 : (_ : Option Value) = some (.int .i64 3) := F3.cell 0 (by simp); have k1 : (_ : Option Value) = some (.int .i64 (I : Int)) := F3.cell 1 (by simp); have k2 : (_ : Option Value) = some (.int .i64 x) := F3.cell 2 (by simp); have z0 : (_ : Option Value) = some (.int .i64 0) := F4.cell 0 (by simp); have z1 : (_ : Option Value) = some (.int .i64 0) := F4.cell 1 (by simp); have z2 : (_ : Option Value) = some (.slice none 0 0) := F4.cell 2 (by simp); have hfz := fun j => F4.free j) | (go_at_call 22; have h3s := F4.lt; (with_reducible refine (cloneTrack_any f gp A cp xs _ ((hxg _ hB).more hB.size) hn).mono ?_); rintro e w4 ⟨v4, rfl, R4, hx4⟩; obtain ⟨A4, c4, rfl⟩ := own_form R4; clear e0 e1 e2 k0 k1 k2 z0 z1 z2 hfz; replace F2 := F2.below hx4 F2.lt; replace F3 := F3.below hx4 F3.lt; replace F4 := F4.below hx4 F4.lt; replace hB := hB.trans (hx4.mono hB.size); have e0 : (_ : Option Value) = some (.int .i64 f) := F2.cell 0 (by simp); have e1 : (_ : Option Value) = some (.int .i64 gp) := F2.cell 1 (by simp); have e2 : (_ : Option Value) = some (.slice A xs.length cp) := F2.cell 2 (by simp); have k0 : (_ : Option Value) = some (.int .i64 3) := F3.cell 0 (by simp); have k1 : (_ : Option Value) = some (.int .i64 (I : Int)) := F3.cell 1 (by simp); have k2 : (_ : Option Value) = some (.int .i64 x) := F3.cell 2 (by simp); have z0 : (_ : Option Value) = some (.int .i64 0) := F4.cell 0 (by simp); have z1 : (_ : Option Value) = some (.int .i64 0) := F4.cell 1 (by simp); have z2 : (_ : Option Value) = some (.slice none 0 0) := F4.cell 2 (by simp); have hfz := fun j => F4.free j) | (go_at_call 21; (with_reducible refine (size_ss_any A xs.length cp _).mono ?_); rintro e w9 ⟨rfl, rfl⟩))
    obtain ⟨b, c9, hv⟩ := Go.Joins.ownsRow_form R4 hpos
    cases hv
    have hT5 : w3.heap.size ≤ (w4.alloc (.cells #[.int .i64 f, .int .i64 gp, .slice (some ⟨b, 0, none⟩) xs.length c4] 26)).heap.size := by rw [World.size_alloc]; exact Nat.le_succ_of_le hx4.size
    clear hq hfe hx2 hx3 hx4 e0 e1 e2 k0 k1 k2 z0 z1 z2 hfz
    have hDn : (Value.slice (some ⟨b, 0, none⟩) xs.length c4).ownBlock ≠ some w4.heap.size := OO.ne_box R4
    have hD4 : w.heap.size + 2 < w4.heap.size := F4.lt
    have FD := BX.made w4 26 [.int .i64 f, .int .i64 gp, .slice (some ⟨b, 0, none⟩) xs.length c4]
    replace F2 := F2.al (.cells #[.int .i64 f, .int .i64 gp, .slice (some ⟨b, 0, none⟩) xs.length c4] 26)
    replace F3 := F3.al (.cells #[.int .i64 f, .int .i64 gp, .slice (some ⟨b, 0, none⟩) xs.length c4] 26)
    replace F4 := F4.al (.cells #[.int .i64 f, .int .i64 gp, .slice (some ⟨b, 0, none⟩) xs.length c4] 26)
    replace R4 := OO.al R4 (.cells #[.int .i64 f, .int .i64 gp, .slice (some ⟨b, 0, none⟩) xs.length c4] 26)
    replace hB : BB w _ := BB.al hB (.cells #[.int .i64 f, .int .i64 gp, .slice (some ⟨b, 0, none⟩) xs.length c4] 26)
    generalize w4.alloc (.cells #[.int .i64 f, .int .i64 gp, .slice (some ⟨b, 0, none⟩) xs.length c4] 26) = w5 at F2 F3 F4 FD R4 hB hT5 ⊢
    replace hB : Below w.heap.size w w5 := hB
    generalize w4.heap.size = D at hDn hD4 FD ⊢
    generalize w3.heap.size = T3 at R4 h3s hT5
    have e0 : (_ : Option Value) = some (.int .i64 f) := F2.cell 0 (by simp)
    have e1 : (_ : Option Value) = some (.int .i64 gp) := F2.cell 1 (by simp)
    have e2 : (_ : Option Value) = some (.slice A xs.length cp) := F2.cell 2 (by simp)
    have k0 : (_ : Option Value) = some (.int .i64 3) := F3.cell 0 (by simp)
    have k1 : (_ : Option Value) = some (.int .i64 (I : Int)) := F3.cell 1 (by simp)
    have k2 : (_ : Option Value) = some (.int .i64 x) := F3.cell 2 (by simp)
    have z0 : (_ : Option Value) = some (.int .i64 0) := F4.cell 0 (by simp)
    have z1 : (_ : Option Value) = some (.int .i64 0) := F4.cell 1 (by simp)
    have z2 : (_ : Option Value) = some (.slice none 0 0) := F4.cell 2 (by simp)
    have hfz := fun j => F4.free j
    have d0 : (_ : Option Value) = some (.int .i64 f) := FD.cell 0 (by simp)
    have d1 : (_ : Option Value) = some (.int .i64 gp) := FD.cell 1 (by simp)
    have d2 : (_ : Option Value) = some (.slice (some ⟨b, 0, none⟩) xs.length c4) := FD.cell 2 (by simp)
    have hfd := fun j => FD.free j
    have hb3 := (World.ownsRow.lt R4 b rfl).1
    have hbD : b ≠ D := fun e => hDn (by rw [e]; rfl)
    have hb1 : b ≠ w.heap.size + 1 := by omega
    have hb2 : b ≠ w.heap.size + 2 := by omega
    have hbw : w.heap.size ≤ b := by omega
    have hc0 : w5.cell? ⟨b, I * 8 + 6, none⟩ = some (.bool xs[I].f6) := own_get R4 fSectorSpec_len hIl (q := 6) (by decide) (u := .bool xs[I].f6) rfl
    have hf0 : w5.frozen? ⟨b, I * 8 + 6, none⟩ = false := World.ownsRow.frozenAt R4 (I * 8 + 6)
    have R5 := (World.ownsRow.stored R4 (I * 8 + 6) (.bool true)).1
    rw [flat_setq fSectorSpec 8 fSectorSpec_len xs I 6 (.bool true) (prS 3 xs[I]) hIl (by decide) rfl] at R5
    have FD5 := FD.far (a := ⟨b, I * 8 + 6, none⟩) hbD.symm (.bool true)
    have F45 := F4.far (a := ⟨b, I * 8 + 6, none⟩) hb2.symm (.bool true)
    have F35 := F3.far (a := ⟨b, I * 8 + 6, none⟩) hb1.symm (.bool true)
    have hB5 : Below w.heap.size w _ := (Below.setCell hB (p := ⟨b, I * 8 + 6, none⟩) hbw (.bool true))
    go_upto_region 27 with fail
    clear z0 z1 z2 hfz d0 d1 d2 hfd
    have d0 : (_ : Option Value) = some (.int .i64 f) := FD5.cell 0 (by simp)
    have d1 : (_ : Option Value) = some (.int .i64 gp) := FD5.cell 1 (by simp)
    have d2 : (_ : Option Value) = some (.slice (some ⟨b, 0, none⟩) xs.length c4) := FD5.cell 2 (by simp)
    have z0 : (_ : Option Value) = some (.int .i64 0) := F45.cell 0 (by simp)
    have z1 : (_ : Option Value) = some (.int .i64 0) := F45.cell 1 (by simp)
    have z2 : (_ : Option Value) = some (.slice none 0 0) := F45.cell 2 (by simp)
    have hfz := fun j => F45.free j
    generalize w5.setCell ⟨b, I * 8 + 6, none⟩ (.bool true) = w8 at *
    go_wp2
    refine bodyPost_ret (v := .tuple #[.agg #[.int .i64 f, .int .i64 (gp), .slice (some ⟨b, 0, none⟩) xs.length c4], .int .i64 0]) (by simp [results, Tryz.results10, go_sem, World.cell?_setCell_other, z0, z1, z2]) rfl ⟨.slice (some ⟨b, 0, none⟩) xs.length c4, by rw [HC.out] <;> rfl, ?_, ?_⟩
    · rw [HC.out, HL.out, List.length_set]
      exact own_base (OO.put (OO.put (OO.put (R5) h3s _) h3s _) h3s _) (Nat.le_trans (Nat.le_add_right _ 2) (Nat.le_of_lt h3s))
    · exact (by with_reducible repeat (first | exact Below.refl _ _ | assumption | refine below_step ?_ (by assumption) | refine Below.drew ?_ | refine below_drewN ?_ _ | refine below_alloc ?_ _ | refine Below.setCell ?_ (by simp; try omega) _))
  rcases hk4 with rfl | rfl
  · go_enter Tryz.func10, Tryz.ntmps10
    go_upto_region 13 with (first | (go_at_call 20; rw [← HW.out]; (with_reducible refine hq.mono ?_); rintro e w2 ⟨rfl, hx2⟩; replace F2 := F2.below hx2 F2.lt; replace F3 := F3.below hx2 F3.lt; replace F4 := F4.below hx2 F4.lt; have hB : Below w.heap.size w w2 := hb0.trans (hx2.mono hb0.size); have e0 : (_ : Option Value) = some (.int .i64 f) := F2.cell 0 (by simp); have e1 : (_ : Option Value) = some (.int .i64 gp) := F2.cell 1 (by simp); have e2 : (_ : Option Value) = some (.slice A xs.length cp) := F2.cell 2 (by simp); have k0 : (_ : Option Value) = some (.int .i64 4) := F3.cell 0 (by simp); have k1 : (_ : Option Value) = some (.int .i64 (I : Int)) := F3.cell 1 (by simp); have k2 : (_ : Option Value) = some (.int .i64 x) := F3.cell 2 (by simp); have z0 : (_ : Option Value) = some (.int .i64 0) := F4.cell 0 (by simp); have z1 : (_ : Option Value) = some (.int .i64 0) := F4.cell 1 (by simp); have z2 : (_ : Option Value) = some (.slice none 0 0) := F4.cell 2 (by simp); have hfz := fun j => F4.free j) | (go_at_call 9; (with_reducible refine (hfe _).mono ?_); rintro e w3 ⟨rfl, hx3⟩; clear e0 e1 e2 k0 k1 k2 z0 z1 z2 hfz; replace F2 := F2.below hx3 F2.lt; replace F3 := F3.below hx3 F3.lt; replace F4 := F4.below hx3 F4.lt; replace hB := hB.trans (hx3.mono hB.size); have e0 : (_ : Option Value) = some (.int .i64 f) := F2.cell 0 (by simp); have e1 : (_ : Option Value) = some (.int .i64 gp) := F2.cell 1 (by simp); have e2 : (_ : Option Value) = some (.slice A xs.length cp) := F2.cell 2 (by simp); have k0 : (_ : Option Value) = some (.int .i64 4) := F3.cell 0 (by simp); have k1 : (_ : Option Value) = some (.int .i64 (I : Int)) := F3.cell 1 (by simp); have k2 : (_ : Option Value) = some (.int .i64 x) := F3.cell 2 (by simp); have z0 : (_ : Option Value) = some (.int .i64 0) := F4.cell 0 (by simp); have z1 : (_ : Option Value) = some (.int .i64 0) := F4.cell 1 (by simp); have z2 : (_ : Option Value) = some (.slice none 0 0) := F4.cell 2 (by simp); have hfz := fun j => F4.free j) | (go_at_call 22; have h3s := F4.lt; (with_reducible refine (cloneTrack_any f gp A cp xs _ ((hxg _ hB).more hB.size) hn).mono ?_); rintro e w4 ⟨v4, rfl, R4, hx4⟩; obtain ⟨A4, c4, rfl⟩ := own_form R4; clear e0 e1 e2 k0 k1 k2 z0 z1 z2 hfz; replace F2 := F2.below hx4 F2.lt; replace F3 := F3.below hx4 F3.lt; replace F4 := F4.below hx4 F4.lt; replace hB := hB.trans (hx4.mono hB.size); have e0 : (_ : Option Value) = some (.int .i64 f) := F2.cell 0 (by simp); have e1 : (_ : Option Value) = some (.int .i64 gp) := F2.cell 1 (by simp); have e2 : (_ : Option Value) = some (.slice A xs.length cp) := F2.cell 2 (by simp); have k0 : (_ : Option Value) = some (.int .i64 4) := F3.cell 0 (by simp); have k1 : (_ : Option Value) = some (.int .i64 (I : Int)) := F3.cell 1 (by simp); have k2 : (_ : Option Value) = some (.int .i64 x) := F3.cell 2 (by simp); have z0 : (_ : Option Value) = some (.int .i64 0) := F4.cell 0 (by simp); have z1 : (_ : Option Value) = some (.int .i64 0) := F4.cell 1 (by simp); have z2 : (_ : Option Value) = some (.slice none 0 0) := F4.cell 2 (by simp); have hfz := fun j => F4.free j) | (go_at_call 21; (with_reducible refine (size_ss_any A xs.length cp _).mono ?_); rintro e w9 ⟨rfl, rfl⟩))
    obtain ⟨b, c9, hv⟩ := Go.Joins.ownsRow_form R4 hpos
    cases hv
    have hT5 : w3.heap.size ≤ (w4.alloc (.cells #[.int .i64 f, .int .i64 gp, .slice (some ⟨b, 0, none⟩) xs.length c4] 26)).heap.size := by rw [World.size_alloc]; exact Nat.le_succ_of_le hx4.size
    clear hq hfe hx2 hx3 hx4 e0 e1 e2 k0 k1 k2 z0 z1 z2 hfz
    have hDn : (Value.slice (some ⟨b, 0, none⟩) xs.length c4).ownBlock ≠ some w4.heap.size := OO.ne_box R4
    have hD4 : w.heap.size + 2 < w4.heap.size := F4.lt
    have FD := BX.made w4 26 [.int .i64 f, .int .i64 gp, .slice (some ⟨b, 0, none⟩) xs.length c4]
    replace F2 := F2.al (.cells #[.int .i64 f, .int .i64 gp, .slice (some ⟨b, 0, none⟩) xs.length c4] 26)
    replace F3 := F3.al (.cells #[.int .i64 f, .int .i64 gp, .slice (some ⟨b, 0, none⟩) xs.length c4] 26)
    replace F4 := F4.al (.cells #[.int .i64 f, .int .i64 gp, .slice (some ⟨b, 0, none⟩) xs.length c4] 26)
    replace R4 := OO.al R4 (.cells #[.int .i64 f, .int .i64 gp, .slice (some ⟨b, 0, none⟩) xs.length c4] 26)
    replace hB : BB w _ := BB.al hB (.cells #[.int .i64 f, .int .i64 gp, .slice (some ⟨b, 0, none⟩) xs.length c4] 26)
    generalize w4.alloc (.cells #[.int .i64 f, .int .i64 gp, .slice (some ⟨b, 0, none⟩) xs.length c4] 26) = w5 at F2 F3 F4 FD R4 hB hT5 ⊢
    replace hB : Below w.heap.size w w5 := hB
    generalize w4.heap.size = D at hDn hD4 FD ⊢
    generalize w3.heap.size = T3 at R4 h3s hT5
    have e0 : (_ : Option Value) = some (.int .i64 f) := F2.cell 0 (by simp)
    have e1 : (_ : Option Value) = some (.int .i64 gp) := F2.cell 1 (by simp)
    have e2 : (_ : Option Value) = some (.slice A xs.length cp) := F2.cell 2 (by simp)
    have k0 : (_ : Option Value) = some (.int .i64 4) := F3.cell 0 (by simp)
    have k1 : (_ : Option Value) = some (.int .i64 (I : Int)) := F3.cell 1 (by simp)
    have k2 : (_ : Option Value) = some (.int .i64 x) := F3.cell 2 (by simp)
    have z0 : (_ : Option Value) = some (.int .i64 0) := F4.cell 0 (by simp)
    have z1 : (_ : Option Value) = some (.int .i64 0) := F4.cell 1 (by simp)
    have z2 : (_ : Option Value) = some (.slice none 0 0) := F4.cell 2 (by simp)
    have hfz := fun j => F4.free j
    have d0 : (_ : Option Value) = some (.int .i64 f) := FD.cell 0 (by simp)
    have d1 : (_ : Option Value) = some (.int .i64 gp) := FD.cell 1 (by simp)
    have d2 : (_ : Option Value) = some (.slice (some ⟨b, 0, none⟩) xs.length c4) := FD.cell 2 (by simp)
    have hfd := fun j => FD.free j
    have hb3 := (World.ownsRow.lt R4 b rfl).1
    have hbD : b ≠ D := fun e => hDn (by rw [e]; rfl)
    have hb1 : b ≠ w.heap.size + 1 := by omega
    have hb2 : b ≠ w.heap.size + 2 := by omega
    have hbw : w.heap.size ≤ b := by omega
    have hc0 : w5.cell? ⟨b, I * 8 + 7, none⟩ = some (.bool xs[I].f7) := own_get R4 fSectorSpec_len hIl (q := 7) (by decide) (u := .bool xs[I].f7) rfl
    have hf0 : w5.frozen? ⟨b, I * 8 + 7, none⟩ = false := World.ownsRow.frozenAt R4 (I * 8 + 7)
    have R5 := (World.ownsRow.stored R4 (I * 8 + 7) (.bool true)).1
    rw [flat_setq fSectorSpec 8 fSectorSpec_len xs I 7 (.bool true) (prS 4 xs[I]) hIl (by decide) rfl] at R5
    have FD5 := FD.far (a := ⟨b, I * 8 + 7, none⟩) hbD.symm (.bool true)
    have F45 := F4.far (a := ⟨b, I * 8 + 7, none⟩) hb2.symm (.bool true)
    have F35 := F3.far (a := ⟨b, I * 8 + 7, none⟩) hb1.symm (.bool true)
    have hB5 : Below w.heap.size w _ := (Below.setCell hB (p := ⟨b, I * 8 + 7, none⟩) hbw (.bool true))
    go_upto_region 27 with fail
    clear z0 z1 z2 hfz d0 d1 d2 hfd
    have d0 : (_ : Option Value) = some (.int .i64 f) := FD5.cell 0 (by simp)
    have d1 : (_ : Option Value) = some (.int .i64 gp) := FD5.cell 1 (by simp)
    have d2 : (_ : Option Value) = some (.slice (some ⟨b, 0, none⟩) xs.length c4) := FD5.cell 2 (by simp)
    have z0 : (_ : Option Value) = some (.int .i64 0) := F45.cell 0 (by simp)
    have z1 : (_ : Option Value) = some (.int .i64 0) := F45.cell 1 (by simp)
    have z2 : (_ : Option Value) = some (.slice none 0 0) := F45.cell 2 (by simp)
    have hfz := fun j => F45.free j
    generalize w5.setCell ⟨b, I * 8 + 7, none⟩ (.bool true) = w8 at *
    go_wp2
    refine bodyPost_ret (v := .tuple #[.agg #[.int .i64 f, .int .i64 (gp), .slice (some ⟨b, 0, none⟩) xs.length c4], .int .i64 0]) (by simp [results, Tryz.results10, go_sem, World.cell?_setCell_other, z0, z1, z2]) rfl ⟨.slice (some ⟨b, 0, none⟩) xs.length c4, by rw [HC.out] <;> rfl, ?_, ?_⟩
    · rw [HC.out, HL.out, List.length_set]
      exact own_base (OO.put (OO.put (OO.put (R5) h3s _) h3s _) h3s _) (Nat.le_trans (Nat.le_add_right _ 2) (Nat.le_of_lt h3s))
    · exact (by with_reducible repeat (first | exact Below.refl _ _ | assumption | refine below_step ?_ (by assumption) | refine Below.drew ?_ | refine below_drewN ?_ _ | refine below_alloc ?_ _ | refine Below.setCell ?_ (by simp; try omega) _))
  · go_enter Tryz.func10, Tryz.ntmps10
    go_upto_region 13 with (first | (go_at_call 20; rw [← HW.out]; (with_reducible refine hq.mono ?_); rintro e w2 ⟨rfl, hx2⟩; replace F2 := F2.below hx2 F2.lt; replace F3 := F3.below hx2 F3.lt; replace F4 := F4.below hx2 F4.lt; have hB : Below w.heap.size w w2 := hb0.trans (hx2.mono hb0.size); have e0 : (_ : Option Value) = some (.int .i64 f) := F2.cell 0 (by simp); have e1 : (_ : Option Value) = some (.int .i64 gp) := F2.cell 1 (by simp); have e2 : (_ : Option Value) = some (.slice A xs.length cp) := F2.cell 2 (by simp); have k0 : (_ : Option Value) = some (.int .i64 6) := F3.cell 0 (by simp); have k1 : (_ : Option Value) = some (.int .i64 (I : Int)) := F3.cell 1 (by simp); have k2 : (_ : Option Value) = some (.int .i64 x) := F3.cell 2 (by simp); have z0 : (_ : Option Value) = some (.int .i64 0) := F4.cell 0 (by simp); have z1 : (_ : Option Value) = some (.int .i64 0) := F4.cell 1 (by simp); have z2 : (_ : Option Value) = some (.slice none 0 0) := F4.cell 2 (by simp); have hfz := fun j => F4.free j) | (go_at_call 9; (with_reducible refine (hfe _).mono ?_); rintro e w3 ⟨rfl, hx3⟩; clear e0 e1 e2 k0 k1 k2 z0 z1 z2 hfz; replace F2 := F2.below hx3 F2.lt; replace F3 := F3.below hx3 F3.lt; replace F4 := F4.below hx3 F4.lt; replace hB := hB.trans (hx3.mono hB.size); have e0 : (_ : Option Value) = some (.int .i64 f) := F2.cell 0 (by simp); have e1 : (_ : Option Value) = some (.int .i64 gp) := F2.cell 1 (by simp); have e2 : (_ : Option Value) = some (.slice A xs.length cp) := F2.cell 2 (by simp); have k0 : (_ : Option Value) = some (.int .i64 6) := F3.cell 0 (by simp); have k1 : (_ : Option Value) = some (.int .i64 (I : Int)) := F3.cell 1 (by simp); have k2 : (_ : Option Value) = some (.int .i64 x) := F3.cell 2 (by simp); have z0 : (_ : Option Value) = some (.int .i64 0) := F4.cell 0 (by simp); have z1 : (_ : Option Value) = some (.int .i64 0) := F4.cell 1 (by simp); have z2 : (_ : Option Value) = some (.slice none 0 0) := F4.cell 2 (by simp); have hfz := fun j => F4.free j) | (go_at_call 22; have h3s := F4.lt; (with_reducible refine (cloneTrack_any f gp A cp xs _ ((hxg _ hB).more hB.size) hn).mono ?_); rintro e w4 ⟨v4, rfl, R4, hx4⟩; obtain ⟨A4, c4, rfl⟩ := own_form R4; clear e0 e1 e2 k0 k1 k2 z0 z1 z2 hfz; replace F2 := F2.below hx4 F2.lt; replace F3 := F3.below hx4 F3.lt; replace F4 := F4.below hx4 F4.lt; replace hB := hB.trans (hx4.mono hB.size); have e0 : (_ : Option Value) = some (.int .i64 f) := F2.cell 0 (by simp); have e1 : (_ : Option Value) = some (.int .i64 gp) := F2.cell 1 (by simp); have e2 : (_ : Option Value) = some (.slice A xs.length cp) := F2.cell 2 (by simp); have k0 : (_ : Option Value) = some (.int .i64 6) := F3.cell 0 (by simp); have k1 : (_ : Option Value) = some (.int .i64 (I : Int)) := F3.cell 1 (by simp); have k2 : (_ : Option Value) = some (.int .i64 x) := F3.cell 2 (by simp); have z0 : (_ : Option Value) = some (.int .i64 0) := F4.cell 0 (by simp); have z1 : (_ : Option Value) = some (.int .i64 0) := F4.cell 1 (by simp); have z2 : (_ : Option Value) = some (.slice none 0 0) := F4.cell 2 (by simp); have hfz := fun j => F4.free j) | (go_at_call 21; (with_reducible refine (size_ss_any A xs.length cp _).mono ?_); rintro e w9 ⟨rfl, rfl⟩))
    obtain ⟨b, c9, hv⟩ := Go.Joins.ownsRow_form R4 hpos
    cases hv
    have hT5 : w3.heap.size ≤ (w4.alloc (.cells #[.int .i64 f, .int .i64 gp, .slice (some ⟨b, 0, none⟩) xs.length c4] 26)).heap.size := by rw [World.size_alloc]; exact Nat.le_succ_of_le hx4.size
    clear hq hfe hx2 hx3 hx4 e0 e1 e2 k0 k1 k2 z0 z1 z2 hfz
    have hDn : (Value.slice (some ⟨b, 0, none⟩) xs.length c4).ownBlock ≠ some w4.heap.size := OO.ne_box R4
    have hD4 : w.heap.size + 2 < w4.heap.size := F4.lt
    have FD := BX.made w4 26 [.int .i64 f, .int .i64 gp, .slice (some ⟨b, 0, none⟩) xs.length c4]
    replace F2 := F2.al (.cells #[.int .i64 f, .int .i64 gp, .slice (some ⟨b, 0, none⟩) xs.length c4] 26)
    replace F3 := F3.al (.cells #[.int .i64 f, .int .i64 gp, .slice (some ⟨b, 0, none⟩) xs.length c4] 26)
    replace F4 := F4.al (.cells #[.int .i64 f, .int .i64 gp, .slice (some ⟨b, 0, none⟩) xs.length c4] 26)
    replace R4 := OO.al R4 (.cells #[.int .i64 f, .int .i64 gp, .slice (some ⟨b, 0, none⟩) xs.length c4] 26)
    replace hB : BB w _ := BB.al hB (.cells #[.int .i64 f, .int .i64 gp, .slice (some ⟨b, 0, none⟩) xs.length c4] 26)
    generalize w4.alloc (.cells #[.int .i64 f, .int .i64 gp, .slice (some ⟨b, 0, none⟩) xs.length c4] 26) = w5 at F2 F3 F4 FD R4 hB hT5 ⊢
    replace hB : Below w.heap.size w w5 := hB
    generalize w4.heap.size = D at hDn hD4 FD ⊢
    generalize w3.heap.size = T3 at R4 h3s hT5
    have e0 : (_ : Option Value) = some (.int .i64 f) := F2.cell 0 (by simp)
    have e1 : (_ : Option Value) = some (.int .i64 gp) := F2.cell 1 (by simp)
    have e2 : (_ : Option Value) = some (.slice A xs.length cp) := F2.cell 2 (by simp)
    have k0 : (_ : Option Value) = some (.int .i64 6) := F3.cell 0 (by simp)
    have k1 : (_ : Option Value) = some (.int .i64 (I : Int)) := F3.cell 1 (by simp)
    have k2 : (_ : Option Value) = some (.int .i64 x) := F3.cell 2 (by simp)
    have z0 : (_ : Option Value) = some (.int .i64 0) := F4.cell 0 (by simp)
    have z1 : (_ : Option Value) = some (.int .i64 0) := F4.cell 1 (by simp)
    have z2 : (_ : Option Value) = some (.slice none 0 0) := F4.cell 2 (by simp)
    have hfz := fun j => F4.free j
    have d0 : (_ : Option Value) = some (.int .i64 f) := FD.cell 0 (by simp)
    have d1 : (_ : Option Value) = some (.int .i64 gp) := FD.cell 1 (by simp)
    have d2 : (_ : Option Value) = some (.slice (some ⟨b, 0, none⟩) xs.length c4) := FD.cell 2 (by simp)
    have hfd := fun j => FD.free j
    have hb3 := (World.ownsRow.lt R4 b rfl).1
    have hbD : b ≠ D := fun e => hDn (by rw [e]; rfl)
    have hb1 : b ≠ w.heap.size + 1 := by omega
    have hb2 : b ≠ w.heap.size + 2 := by omega
    have hbw : w.heap.size ≤ b := by omega
    have hc0 : w5.cell? ⟨b, I * 8 + 5, none⟩ = some (.bool xs[I].f5) := own_get R4 fSectorSpec_len hIl (q := 5) (by decide) (u := .bool xs[I].f5) rfl
    have hf0 : w5.frozen? ⟨b, I * 8 + 5, none⟩ = false := World.ownsRow.frozenAt R4 (I * 8 + 5)
    have R5 := (World.ownsRow.stored R4 (I * 8 + 5) (.bool true)).1
    rw [flat_setq fSectorSpec 8 fSectorSpec_len xs I 5 (.bool true) (prS 6 xs[I]) hIl (by decide) rfl] at R5
    have FD5 := FD.far (a := ⟨b, I * 8 + 5, none⟩) hbD.symm (.bool true)
    have F45 := F4.far (a := ⟨b, I * 8 + 5, none⟩) hb2.symm (.bool true)
    have F35 := F3.far (a := ⟨b, I * 8 + 5, none⟩) hb1.symm (.bool true)
    have hB5 : Below w.heap.size w _ := (Below.setCell hB (p := ⟨b, I * 8 + 5, none⟩) hbw (.bool true))
    go_upto_region 27 with fail
    clear z0 z1 z2 hfz d0 d1 d2 hfd
    have d0 : (_ : Option Value) = some (.int .i64 f) := FD5.cell 0 (by simp)
    have d1 : (_ : Option Value) = some (.int .i64 gp) := FD5.cell 1 (by simp)
    have d2 : (_ : Option Value) = some (.slice (some ⟨b, 0, none⟩) xs.length c4) := FD5.cell 2 (by simp)
    have z0 : (_ : Option Value) = some (.int .i64 0) := F45.cell 0 (by simp)
    have z1 : (_ : Option Value) = some (.int .i64 0) := F45.cell 1 (by simp)
    have z2 : (_ : Option Value) = some (.slice none 0 0) := F45.cell 2 (by simp)
    have hfz := fun j => F45.free j
    generalize w5.setCell ⟨b, I * 8 + 5, none⟩ (.bool true) = w8 at *
    go_wp2
    refine bodyPost_ret (v := .tuple #[.agg #[.int .i64 f, .int .i64 (gp), .slice (some ⟨b, 0, none⟩) xs.length c4], .int .i64 0]) (by simp [results, Tryz.results10, go_sem, World.cell?_setCell_other, z0, z1, z2]) rfl ⟨.slice (some ⟨b, 0, none⟩) xs.length c4, by rw [HC.out] <;> rfl, ?_, ?_⟩
    · rw [HC.out, HL.out, List.length_set]
      exact own_base (OO.put (OO.put (OO.put (R5) h3s _) h3s _) h3s _) (Nat.le_trans (Nat.le_add_right _ 2) (Nat.le_of_lt h3s))
    · exact (by with_reducible repeat (first | exact Below.refl _ _ | assumption | refine below_step ?_ (by assumption) | refine Below.drew ?_ | refine below_drewN ?_ _ | refine below_alloc ?_ _ | refine Below.setCell ?_ (by simp; try omega) _))
end Go.Proofs.YthelfgagddldfaaGreatDoor
