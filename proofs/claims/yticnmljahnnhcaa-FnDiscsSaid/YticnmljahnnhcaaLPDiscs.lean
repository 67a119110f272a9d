/- The law FnDiscs holds: for every input that the row lets in it returns true and leaves its arguments alone. No condition. -/
import Derived.Test.YticnmljahnnhcaaRows
import Derived.Test.YticnmljahnnhcaaLib
import Derived.Test.YticnmljahnnhcaaOpen
import Derived.Test.YticnmljahnnhcaaW83
import Derived.Test.YticnmljahnnhcaaD7
import Derived.Test.YticnmljahnnhcaaE9
import Derived.ProofKit
import Derived.OpenShut
import Derived.Deep.Slices
import Derived.Lib.SmallJoins
namespace Go.Proofs.Yticnmljahnnhcaa.fnDiscs
open Go.ChangeShapes Go.WideShapes Go.ChangeAt Go.RowKit Go.Proofs.Yticnmljahnnhcaa Go.Deep Go.WideMaps Go.WideElems
open Go.ChangeMaps (setBlock shut_map_nil open_string shut_string keptBut_setBlock frozen?_setBlock heap_setBlock_same)
set_option linter.unusedVariables false

set_option maxRecDepth 100000 in
set_option maxHeartbeats 8000000 in
set_option linter.unusedSimpArgs false in
theorem walk (A : Option Addr) (cc : Nat) (l : List UInt8) (w : World) (hr : Rd w w.heap.size 1 A l.length (flat fU l)) (hm : l.length ≤ maxLen) : Calls Try.prog 4 #[.slice A l.length cc] w fun e W' => e = .returned (.bool true) ∧ Below w.heap.size w W' := by
  have lg := fun W => long_any A l.length cc W hm
  by_cases hlong : 1048576 < l.length
  · have hdl : decide (1048576 < l.length) = true := decide_eq_true hlong
    rw [hdl] at lg
    clear hdl hlong
    go_enter Try.func4, Try.ntmps4
    go_wp2_with (go_at_call 9; (with_reducible refine (lg _).mono ?_); rintro e w0 ⟨rfl, rfl⟩)
    go_ret
    exact ⟨rfl, Below.refl _ _⟩
  have hdl : decide (1048576 < l.length) = false := decide_eq_false hlong
  rw [hdl] at lg
  clear hdl hlong
  have dr := drawPutSector_any A l.length cc l w rfl hr hm
  go_enter Try.func4, Try.ntmps4
  go_wp2_with (first
    | (go_at_call 9; (with_reducible refine (lg _).mono ?_); rintro e w0 ⟨rfl, rfl⟩)
    | (go_at_call 15; (with_reducible refine dr.mono ?_); rintro e w1 ⟨c, h, p, s, k, st, sd, L, v, rfl, hc, hh, hp, hs, hk, hst, hsd, O1, hL, hLok, hx1⟩; obtain ⟨b, vc, rfl, hb0, hb1⟩ := World.ownsRow.form O1 hL.1; have FD := (BX.made w1 26 [.int .i64 c, .int .i64 h, .int .i64 p, .int .i64 s, .slice (some ⟨b, 0, none⟩) L.length vc]).al (.cells #[.string sd, .int .i64 st] 39); have FS := BX.made1 w1 (.cells #[.int .i64 c, .int .i64 h, .int .i64 p, .int .i64 s, .slice (some ⟨b, 0, none⟩) L.length vc] 26) 39 [.string sd, .int .i64 st]; have f0 : (_ : Option Value) = some (.int .i64 c) := FD.cell 0 (by simp); have f1 : (_ : Option Value) = some (.int .i64 h) := FD.cell 1 (by simp); have f2 : (_ : Option Value) = some (.int .i64 p) := FD.cell 2 (by simp); have f3 : (_ : Option Value) = some (.int .i64 s) := FD.cell 3 (by simp); have f4 : (_ : Option Value) = some (.slice (some ⟨b, 0, none⟩) L.length vc) := FD.cell 4 (by simp); have g0 : (_ : Option Value) = some (.string sd) := FS.cell 0 (by simp); have g1 : (_ : Option Value) = some (.int .i64 st) := FS.cell 1 (by simp)))
  clear dr lg f0 f1 f2 f3 f4 g0 g1
  have O2 := OO.al (OO.al O1 (.cells #[.int .i64 c, .int .i64 h, .int .i64 p, .int .i64 s, .slice (some ⟨b, 0, none⟩) L.length vc] 26)) (.cells #[.string sd, .int .i64 st] 39)
  have hB2 : Below w.heap.size w ((w1.alloc (.cells #[.int .i64 c, .int .i64 h, .int .i64 p, .int .i64 s, .slice (some ⟨b, 0, none⟩) L.length vc] 26)).alloc (.cells #[.string sd, .int .i64 st] 39)) := (hx1.alloc hx1.size _).alloc (by rw [World.size_alloc]; have := hx1.size; omega) _
  generalize ((w1.alloc (.cells #[.int .i64 c, .int .i64 h, .int .i64 p, .int .i64 s, .slice (some ⟨b, 0, none⟩) L.length vc] 26)).alloc (.cells #[.string sd, .int .i64 st] 39)) = w2 at FD FS O2 hB2 ⊢
  have hgs : w1.heap.size + 1 < w2.heap.size := FS.lt
  obtain ⟨gs, hgse⟩ : ∃ gs, w1.heap.size + 1 = gs := ⟨_, rfl⟩
  rw [hgse] at FS hgs ⊢
  have hne0 : w1.heap.size ≠ gs := by omega
  clear hgse
  generalize w1.heap.size = gd at FD hne0 ⊢
  have hn : L.length ≤ 1048576 := by omega
  have hok : ∀ x ∈ L, okSector x := fun x hx => by
    have := hLok x hx
    exact ⟨by unfold maxLen; omega, by omega, by omega⟩
  have hsd2 : sd.size ≤ maxLen := by unfold maxLen; omega
  have R2 := Rd.of_own O2
  have nd := putDisc_any c h p s (some ⟨b, 0, none⟩) vc L k sd st w2 R2 hn hok hsd2
  refine nd.mono ?_
  clear nd
  rintro e w3 ⟨c', h', p', s', x, A4, n4, c4, rfl, hx3, hcase⟩
  have hB3 := hB2.trans (hx3.mono hB2.size)
  rcases hcase with hx0 | ⟨rfl, hd, hsec, hkin, rfl, rfl, rfl, rfl, rfl, O4⟩
  · go_wp2
    go_ret
    exact ⟨rfl, (by repeat (first | exact Below.refl _ _ | refine below_step ?_ (by assumption) | assumption | refine Below.drew ?_ | refine below_drewN ?_ _ | refine below_alloc ?_ _ | refine Below.setCell ?_ (by simp; try omega) _))⟩
  obtain ⟨k0, k1⟩ := inB_yes hkin
  obtain ⟨K, rfl⟩ : ∃ K : Nat, k = (K : Int) := ⟨k.toNat, by omega⟩
  have hKL : K < L.length := by omega
  rw [Int.toNat_natCast] at O4
  obtain ⟨L', hL'⟩ : ∃ L', L.set K ⟨sd, st⟩ = L' := ⟨_, rfl⟩
  have hLn' : L'.length = L.length := by rw [← hL', List.length_set]
  have hd' : okD c h p s L' = true := by rw [← hL']; exact okD_set K hd hsec
  have hok' : ∀ x ∈ L', okSector x := fun x hx => by
    rw [← hL'] at hx
    rcases List.mem_or_eq_of_mem_set hx with hx | rfl
    · exact hok x hx
    · exact ⟨hsd2, by show (-9223372036854775808 : Int) ≤ st; omega, by show st ≤ 9223372036854775807; omega⟩
  have hsat := sAt_set hd hsec hkin
  rw [Int.toNat_natCast, hL'] at hsat
  have hch := chG_set L 0 K ⟨sd, st⟩ hKL
  rw [hL'] at hch
  rw [hL'] at O4
  obtain ⟨D, hD, hDs, hdoB, M, hM, hMl, hMok, hMd, hMs⟩ := disc_data hd'
  replace FD := FD.below hx3 FD.lt
  replace FS := FS.below hx3 FS.lt
  replace R2 := (R2.below hx3).more hx3.size
  have hfs3 := FS.lt
  have hfd3 := FD.lt
  have FX := BX.made w3 26 [.int .i64 c, .int .i64 h, .int .i64 p, .int .i64 s, .slice A4 L.length c4]
  replace FD := FD.al (.cells #[.int .i64 c, .int .i64 h, .int .i64 p, .int .i64 s, .slice A4 L.length c4] 26)
  replace FS := FS.al (.cells #[.int .i64 c, .int .i64 h, .int .i64 p, .int .i64 s, .slice A4 L.length c4] 26)
  replace R2 := ((R2.below (show Below w3.heap.size w3 (w3.alloc (.cells #[.int .i64 c, .int .i64 h, .int .i64 p, .int .i64 s, .slice A4 L.length c4] 26)) from (by repeat (first | exact Below.refl _ _ | refine below_step ?_ (by assumption) | assumption | refine Below.drew ?_ | refine below_drewN ?_ _ | refine below_alloc ?_ _ | refine Below.setCell ?_ (by simp; try omega) _)))).more (show w3.heap.size ≤ (w3.alloc (.cells #[.int .i64 c, .int .i64 h, .int .i64 p, .int .i64 s, .slice A4 L.length c4] 26)).heap.size by rw [World.size_alloc]; omega))
  have R4 := Rd.of_own (OO.al O4 (.cells #[.int .i64 c, .int .i64 h, .int .i64 p, .int .i64 s, .slice A4 L.length c4] 26))
  have hB4 : Below w.heap.size w (w3.alloc (.cells #[.int .i64 c, .int .i64 h, .int .i64 p, .int .i64 s, .slice A4 L.length c4] 26)) := hB3.alloc hB3.size _
  have hkn : ¬ ((K : Int) < 0) := by omega
  have hkn2 : ¬ ((L.length : Int) ≤ (K : Int)) := by omega
  have q1 := fun (W : World) hr => spec_ValidDisc_any c h p s (some ⟨b, 0, none⟩) vc L W hr hn hok
  rw [hd] at q1
  have hn' : L'.length ≤ 1048576 := by omega
  have q2 := fun (W : World) h1 h2 => impl_ChangedSectors_any c h p s c h p s (some ⟨b, 0, none⟩) A4 vc c4 L L' W h1 h2 hn hn' hok hok'
  rw [hd, hd', alike_self] at q2
  rw [show chC true true true = 0 from rfl, show chL true true true L L' = chG 0 L L' from rfl, hch] at q2
  rw [hLn'] at q2
  have HN := Lib.hid hLn'
  clear hLn' hL' hch
  have hg1 := FD.lt
  have hgdx : gd ≠ w3.heap.size := by omega
  have hgsx : gs ≠ w3.heap.size := by omega
  go_upto_region 7 with fail
  generalize w3.alloc (.cells #[.int .i64 c, .int .i64 h, .int .i64 p, .int .i64 s, .slice A4 L.length c4] 26) = w4 at FD FS FX R2 R4 hB4 ⊢
  generalize w3.heap.size = gx at FX hgdx hgsx ⊢
  obtain ⟨l9, hl9⟩ : ∃ l9, (if qSec L[K] ⟨sd, st⟩ = true then [] else [((0 + K : Nat) : Int)]) = l9 := ⟨_, rfl⟩
  rw [hl9] at q2
  have HL9 := Lib.hid hl9
  clear hl9
  have hp0 : ¬ p = 0 := by omega
  have hp01 : (p == 0) = false := by simp; omega
  have hh0 : ¬ h = 0 := by omega
  have hh01 : (h == 0) = false := by simp; omega
  obtain ⟨tt, htt⟩ : ∃ x, (K : Int).tdiv p = x := ⟨_, rfl⟩
  rw [htt] at hsat
  obtain ⟨u1, hu1⟩ : ∃ x, tt.tdiv h = x := ⟨_, rfl⟩
  obtain ⟨u2, hu2⟩ : ∃ x, tt.tmod h = x := ⟨_, rfl⟩
  obtain ⟨u3, hu3⟩ : ∃ x, (K : Int).tmod p = x := ⟨_, rfl⟩
  rw [hu1, hu2, hu3] at hsat
  have bt : 0 ≤ tt ∧ tt ≤ 200 := by
    have h1 := Int.tdiv_nonneg (show (0 : Int) ≤ (K : Int) by omega) (show 0 ≤ p by omega)
    have h2 := Int.tdiv_le_self p (show (0 : Int) ≤ (K : Int) by omega)
    omega
  have b1 : 0 ≤ u1 ∧ u1 ≤ 200 := by
    have h1 := Int.tdiv_nonneg (show (0 : Int) ≤ tt by omega) (show 0 ≤ h by omega)
    have h2 := Int.tdiv_le_self h (show (0 : Int) ≤ tt by omega)
    omega
  have b2 : 0 ≤ u2 ∧ u2 ≤ 200 := by
    rw [← hu2, Int.tmod_eq_emod_of_nonneg (by omega)]
    have h1 := Int.emod_nonneg tt (show h ≠ 0 by omega)
    have h2 := Int.emod_lt_of_pos tt (show 0 < h by omega)
    omega
  have b3 : 0 ≤ u3 ∧ u3 ≤ 200 := by
    rw [← hu3, Int.tmod_eq_emod_of_nonneg (by omega)]
    have h1 := Int.emod_nonneg (K : Int) (show p ≠ 0 by omega)
    have h2 := Int.emod_lt_of_pos (K : Int) (show 0 < p by omega)
    omega
  have wt : IntKind.i64.wrap tt = tt := IntWalk.i64_in _ (by omega)
  have wu1 : IntKind.i64.wrap u1 = u1 := IntWalk.i64_in _ (by omega)
  have wu2 : IntKind.i64.wrap u2 = u2 := IntWalk.i64_in _ (by omega)
  have wu3 : IntKind.i64.wrap u3 = u3 := IntWalk.i64_in _ (by omega)
  have HW1 := Lib.hid wu1
  have HW2 := Lib.hid wu2
  have HW3 := Lib.hid wu3
  have HU1 := Lib.hid hu1
  have HU2 := Lib.hid hu2
  have HU3 := Lib.hid hu3
  clear wu1 wu2 wu3 hu1 hu2 hu3
  have f0 : (_ : Option Value) = some (.int .i64 c) := FD.cell 0 (by simp)
  have f1 : (_ : Option Value) = some (.int .i64 h) := FD.cell 1 (by simp)
  have f2 : (_ : Option Value) = some (.int .i64 p) := FD.cell 2 (by simp)
  have f3 : (_ : Option Value) = some (.int .i64 s) := FD.cell 3 (by simp)
  have f4 : (_ : Option Value) = some (.slice (some ⟨b, 0, none⟩) L.length vc) := FD.cell 4 (by simp)
  have x0 : (_ : Option Value) = some (.int .i64 c) := FX.cell 0 (by simp)
  have x1 : (_ : Option Value) = some (.int .i64 h) := FX.cell 1 (by simp)
  have x2 : (_ : Option Value) = some (.int .i64 p) := FX.cell 2 (by simp)
  have x3 : (_ : Option Value) = some (.int .i64 s) := FX.cell 3 (by simp)
  have x4 : (_ : Option Value) = some (.slice A4 L.length c4) := FX.cell 4 (by simp)
  go_wp2_with (first
    | (go_at_call 18; have := mk1; (with_reducible refine (q2 _ R2 R4).mono ?_); rintro e w6 ⟨v9, rfl, O9, hx6⟩; obtain ⟨A9, c9, rfl⟩ := own_form O9; have R9 := Rd.of_own O9; replace FD := FD.below hx6 FD.lt; replace FX := FX.below hx6 FX.lt; replace FS := FS.below hx6 FS.lt; replace R2 := (R2.below hx6).more hx6.size; replace R4 := (R4.below hx6).more hx6.size; have hB6 : Below w.heap.size w w6 := hB5.trans (hx6.mono hB5.size); clear f0 f1 f2 f3 f4 x0 x1 x2 x3 x4; have f0 : (_ : Option Value) = some (.int .i64 c) := FD.cell 0 (by simp); have f1 : (_ : Option Value) = some (.int .i64 h) := FD.cell 1 (by simp); have f2 : (_ : Option Value) = some (.int .i64 p) := FD.cell 2 (by simp); have f3 : (_ : Option Value) = some (.int .i64 s) := FD.cell 3 (by simp); have f4 : (_ : Option Value) = some (.slice (some ⟨b, 0, none⟩) L.length vc) := FD.cell 4 (by simp); have x0 : (_ : Option Value) = some (.int .i64 c) := FX.cell 0 (by simp); have x1 : (_ : Option Value) = some (.int .i64 h) := FX.cell 1 (by simp); have x2 : (_ : Option Value) = some (.int .i64 p) := FX.cell 2 (by simp); have x3 : (_ : Option Value) = some (.int .i64 s) := FX.cell 3 (by simp); have x4 : (_ : Option Value) = some (.slice A4 L.length c4) := FX.cell 4 (by simp); have mk2 := True.intro)
    | (go_at_call 17; (with_reducible refine (q1 _ R2).mono ?_); rintro e w5 ⟨rfl, hx5⟩; replace FD := FD.below hx5 FD.lt; replace FX := FX.below hx5 FX.lt; replace FS := FS.below hx5 FS.lt; replace R2 := (R2.below hx5).more hx5.size; replace R4 := (R4.below hx5).more hx5.size; have hB5 : Below w.heap.size w w5 := hB4.trans (hx5.mono hB4.size); clear f0 f1 f2 f3 f4 x0 x1 x2 x3 x4; have f0 : (_ : Option Value) = some (.int .i64 c) := FD.cell 0 (by simp); have f1 : (_ : Option Value) = some (.int .i64 h) := FD.cell 1 (by simp); have f2 : (_ : Option Value) = some (.int .i64 p) := FD.cell 2 (by simp); have f3 : (_ : Option Value) = some (.int .i64 s) := FD.cell 3 (by simp); have f4 : (_ : Option Value) = some (.slice (some ⟨b, 0, none⟩) L.length vc) := FD.cell 4 (by simp); have x0 : (_ : Option Value) = some (.int .i64 c) := FX.cell 0 (by simp); have x1 : (_ : Option Value) = some (.int .i64 h) := FX.cell 1 (by simp); have x2 : (_ : Option Value) = some (.int .i64 p) := FX.cell 2 (by simp); have x3 : (_ : Option Value) = some (.int .i64 s) := FX.cell 3 (by simp); have x4 : (_ : Option Value) = some (.slice A4 L.length c4) := FX.cell 4 (by simp); have mk1 := True.intro))
  have q3 := fun (W : World) hr => impl_SectorAt_any c h p s u1 u2 u3 A4 c4 L' W hr hn' hok'
  rw [hsat, HN.out] at q3
  have q3' : ∀ (W : World), Rd W W.heap.size 2 A4 L.length (flat fSector L') → Calls Try.prog 19 #[.agg #[.int .i64 c, .int .i64 h, .int .i64 p, .int .i64 s, .slice A4 L.length c4], .int .i64 u1, .int .i64 u2, .int .i64 u3] W fun e w' => e = .returned (.tuple #[.agg #[.string sd, .int .i64 st], .int .i64 0]) ∧ Below W.heap.size W w' := q3
  clear q3 hsat
  have hR : ∀ W : World, Below w6.heap.size w6 W → Rd W W.heap.size 2 A4 L.length (flat fSector L') := fun W hb => (R4.below hb).more hb.size
  have hS : ∀ W : World, Below w6.heap.size w6 W → W.cell? ⟨gx, 0, none⟩ = some (.int .i64 c) ∧ W.cell? ⟨gx, 1, none⟩ = some (.int .i64 h) ∧ W.cell? ⟨gx, 2, none⟩ = some (.int .i64 p) ∧ W.cell? ⟨gx, 3, none⟩ = some (.int .i64 s) ∧ W.cell? ⟨gx, 4, none⟩ = some (.slice A4 L.length c4) ∧ W.cell? ⟨gd, 1, none⟩ = some (.int .i64 h) ∧ W.cell? ⟨gd, 2, none⟩ = some (.int .i64 p) := fun W hb => ⟨(FX.below hb FX.lt).cell 0 (by simp), (FX.below hb FX.lt).cell 1 (by simp), (FX.below hb FX.lt).cell 2 (by simp), (FX.below hb FX.lt).cell 3 (by simp), (FX.below hb FX.lt).cell 4 (by simp), (FD.below hb FD.lt).cell 1 (by simp), (FD.below hb FD.lt).cell 2 (by simp)⟩
  have hu1 := HU1.out
  have hu2 := HU2.out
  have hu3 := HU3.out
  have wu1 := HW1.out
  have wu2 := HW2.out
  have wu3 := HW3.out
  go_cut [11, 12] (fun pv cv wx => ∃ g, pv = .pointer (some ⟨g, 0, none⟩) ∧ cv = .int .i64 0 ∧ w6.heap.size ≤ g ∧ Below w6.heap.size w6 wx ∧ BX wx g 39 [.string sd, .int .i64 st])
  case first =>
    refine wp_region_held_drew (S := (fun W => W.cell? ⟨gx, 0, none⟩ = some (.int .i64 c) ∧ W.cell? ⟨gx, 1, none⟩ = some (.int .i64 h) ∧ W.cell? ⟨gx, 2, none⟩ = some (.int .i64 p) ∧ W.cell? ⟨gx, 3, none⟩ = some (.int .i64 s) ∧ W.cell? ⟨gx, 4, none⟩ = some (.slice A4 L.length c4) ∧ W.cell? ⟨gd, 1, none⟩ = some (.int .i64 h) ∧ W.cell? ⟨gd, 2, none⟩ = some (.int .i64 p))) (by kernel_rfl) ?hS197 (fun hHeld => ?rest198)
    case hS197 => (exact hS _ (Below.drew (Below.refl _ _)))
    refine wpAnyH_take (i := 0) (oi := _) (v := ?v199) rfl (by kernel_rfl) (by kernel_rfl) (by kernel_rfl) (fun _ _ _ h => h) (Or.inl ⟨by rfl, ?hy200⟩) hHeld ?rest201
    case hy200 => (intro w hSw; (try dsimp only at hSw); go_simp; (try with_reducible rfl))
    try simp only [Act.put, List.setIfInBounds_toArray, List.set_cons_zero, List.set_cons_succ]
    refine wpAnyH_take (i := 1) (oi := _) (v := ?v202) rfl (by kernel_rfl) (by kernel_rfl) (by kernel_rfl) (fun _ _ _ h => h) (Or.inl ⟨by rfl, ?hy203⟩) hHeld ?rest204
    case hy203 => (intro w hSw; (try dsimp only at hSw); go_simp; (try with_reducible rfl))
    try simp only [Act.put, List.setIfInBounds_toArray, List.set_cons_zero, List.set_cons_succ]
    refine wpAnyH_take (i := 2) (oi := _) (v := ?v205) rfl (by kernel_rfl) (by kernel_rfl) (by kernel_rfl) (fun _ _ _ h => h) (Or.inl ⟨by rfl, ?hy206⟩) hHeld ?rest207
    case hy206 => (intro w hSw; (try dsimp only at hSw); go_simp; (try with_reducible rfl))
    try simp only [Act.put, List.setIfInBounds_toArray, List.set_cons_zero, List.set_cons_succ]
    refine wpAnyH_take (i := 3) (oi := _) (v := ?v208) rfl (by kernel_rfl) (by kernel_rfl) (by kernel_rfl) (fun _ _ _ h => h) (Or.inl ⟨by rfl, ?hy209⟩) hHeld ?rest210
    case hy209 => (intro w hSw; (try dsimp only at hSw); go_simp; (try with_reducible rfl))
    try simp only [Act.put, List.setIfInBounds_toArray, List.set_cons_zero, List.set_cons_succ]
    refine wpAnyH_take (i := 4) (oi := _) (v := ?v211) rfl (by kernel_rfl) (by kernel_rfl) (by kernel_rfl) (fun _ _ _ h => h) (Or.inl ⟨by rfl, ?hy212⟩) hHeld ?rest213
    case hy212 => (intro w hSw; (try dsimp only at hSw); go_simp; (try with_reducible rfl))
    try simp only [Act.put, List.setIfInBounds_toArray, List.set_cons_zero, List.set_cons_succ]
    refine wpAnyH_take (i := 5) (oi := _) (v := ?v214) rfl (by kernel_rfl) (by kernel_rfl) (by kernel_rfl) (fun _ _ _ h => h) (Or.inl ⟨by rfl, ?hy215⟩) hHeld ?rest216
    case hy215 => (intro w hSw; (try dsimp only at hSw); go_simp; (try with_reducible rfl))
    try simp only [Act.put, List.setIfInBounds_toArray, List.set_cons_zero, List.set_cons_succ]
    refine wpAnyH_take (i := 6) (oi := _) (v := ?v217) rfl (by kernel_rfl) (by kernel_rfl) (by kernel_rfl) (fun _ _ _ h => h) (Or.inl ⟨by rfl, ?hy218⟩) hHeld ?rest219
    case hy218 => (intro w hSw; (try dsimp only at hSw); go_simp; (try with_reducible rfl))
    try simp only [Act.put, List.setIfInBounds_toArray, List.set_cons_zero, List.set_cons_succ]
    refine wpAnyH_take (i := 7) (oi := _) (v := ?v220) rfl (by kernel_rfl) (by kernel_rfl) (by kernel_rfl) (fun _ _ _ h => h) (Or.inl ⟨by rfl, ?hy221⟩) hHeld ?rest222
    case hy221 => (intro w hSw; (try dsimp only at hSw); go_simp; (try with_reducible rfl))
    try simp only [Act.put, List.setIfInBounds_toArray, List.set_cons_zero, List.set_cons_succ]
    refine wpAnyH_take (i := 8) (oi := _) (v := ?v223) rfl (by kernel_rfl) (by kernel_rfl) (by kernel_rfl) (fun _ _ _ h => h) (Or.inl ⟨by rfl, ?hy224⟩) hHeld ?rest225
    case hy224 => (intro w hSw; (try dsimp only at hSw); go_simp; (try with_reducible rfl))
    try simp only [Act.put, List.setIfInBounds_toArray, List.set_cons_zero, List.set_cons_succ]
    refine wpAnyH_take (i := 9) (oi := _) (v := ?v226) rfl (by kernel_rfl) (by kernel_rfl) (by kernel_rfl) (fun _ _ _ h => h) (Or.inl ⟨by rfl, ?hy227⟩) hHeld ?rest228
    case hy227 => (intro w hSw; (try dsimp only at hSw); go_simp; (try with_reducible rfl))
    try simp only [Act.put, List.setIfInBounds_toArray, List.set_cons_zero, List.set_cons_succ]
    refine wpAnyH_take (i := 10) (oi := _) (v := ?v229) rfl (by kernel_rfl) (by kernel_rfl) (by kernel_rfl) (fun _ _ _ h => h) (Or.inl ⟨by rfl, ?hy230⟩) hHeld ?rest231
    case hy230 => (intro w hSw; (try dsimp only at hSw); go_simp; (try with_reducible rfl))
    try simp only [Act.put, List.setIfInBounds_toArray, List.set_cons_zero, List.set_cons_succ]
    refine wpAnyH_take (i := 11) (oi := _) (v := ?v232) rfl (by kernel_rfl) (by kernel_rfl) (by kernel_rfl) (fun _ _ _ h => h) (Or.inl ⟨by rfl, ?hy233⟩) hHeld ?rest234
    case hy233 => (intro w hSw; (try dsimp only at hSw); go_simp; (try with_reducible rfl))
    try simp only [Act.put, List.setIfInBounds_toArray, List.set_cons_zero, List.set_cons_succ]
    refine wpAnyH_take (i := 12) (oi := _) (v := ?v235) rfl (by kernel_rfl) (by kernel_rfl) (by kernel_rfl) (fun _ _ _ h => h) (Or.inl ⟨by rfl, ?hy236⟩) hHeld ?rest237
    case hy236 => (intro w hSw; (try dsimp only at hSw); go_simp; (try with_reducible rfl))
    try simp only [Act.put, List.setIfInBounds_toArray, List.set_cons_zero, List.set_cons_succ]
    refine wpAnyH_ready (rs := [13, 17]) (by kernel_rfl) (by simp) ?_
    refine AllReadyH.cons (o := _) rfl (fun K hK => ?stp280) ?more281
    case stp280 =>
      go_simp
      refine (q3' _ (hR _ (by with_reducible repeat (first | exact Below.refl _ _ | assumption | refine below_step ?_ (by assumption) | refine Below.drew ?_ | refine below_drewN ?_ _ | refine below_alloc ?_ _ | refine Below.setCell ?_ (by simp; try omega) _)))).mono ?_
      rintro e w7 ⟨rfl, hx7⟩
      have hb7 : Below w6.heap.size w6 w7 := (by with_reducible repeat (first | exact Below.refl _ _ | assumption | refine below_step ?_ (by assumption) | refine Below.drew ?_ | refine below_drewN ?_ _ | refine below_alloc ?_ _ | refine Below.setCell ?_ (by simp; try omega) _))
      have hs7 := hb7.size
      (try go_wp2_with fail)
      refine hK.out _ _ ?hS282 (fun hHeld2 => ?rest283)
      case hS282 => (exact hS _ hb7)
      clear hK K hHeld
      have hHeld := hHeld2
      clear hHeld2
      try simp only [Act.put, List.setIfInBounds_toArray, List.set_cons_zero, List.set_cons_succ]
      refine wpAnyH_take (i := 14) (oi := _) (v := ?v271) rfl (by kernel_rfl) (by kernel_rfl) (by kernel_rfl) (fun _ _ _ h => h) (Or.inl ⟨by rfl, ?hy272⟩) hHeld ?rest273
      case hy272 => (intro w hSw; (try dsimp only at hSw); go_simp; (try with_reducible rfl))
      try simp only [Act.put, List.setIfInBounds_toArray, List.set_cons_zero, List.set_cons_succ]
      refine wpAnyH_take (i := 15) (oi := _) (v := ?v274) rfl (by kernel_rfl) (by kernel_rfl) (by kernel_rfl) (fun _ _ _ h => h) (Or.inl ⟨by rfl, ?hy275⟩) hHeld ?rest276
      case hy275 => (intro w hSw; (try dsimp only at hSw); go_simp; (try with_reducible rfl))
      try simp only [Act.put, List.setIfInBounds_toArray, List.set_cons_zero, List.set_cons_succ]
      refine wpAnyH_take (i := 16) (oi := _) (v := ?v277) rfl (by kernel_rfl) (by kernel_rfl) (by kernel_rfl) (fun _ _ _ h => h) (Or.inl ⟨by rfl, ?hy278⟩) hHeld ?rest279
      case hy278 => (intro w hSw; (try dsimp only at hSw); go_simp; (try with_reducible rfl))
      try simp only [Act.put, List.setIfInBounds_toArray, List.set_cons_zero, List.set_cons_succ]
      refine wpAnyH_ready (rs := [17]) (by kernel_rfl) (by simp) ?_
      refine AllReadyH.cons (o := _) rfl (fun K hK => ?stp246) ?more247
      case stp246 =>
        go_simp
        refine hK.out _ _ ?hS248 (fun hHeld2 => ?rest249)
        case hS248 => (exact hS _ (by with_reducible repeat (first | exact Below.refl _ _ | assumption | refine below_step ?_ (by assumption) | refine Below.drew ?_ | refine below_drewN ?_ _ | refine below_alloc ?_ _ | refine Below.setCell ?_ (by simp; try omega) _)))
        clear hK K hHeld
        have hHeld := hHeld2
        clear hHeld2
        try simp only [Act.put, List.setIfInBounds_toArray, List.set_cons_zero, List.set_cons_succ]
        refine wpAnyH_ready (rs := [18]) (by kernel_rfl) (by simp) ?_
        refine AllReadyH.cons (o := _) rfl (fun K hK => ?stp242) ?more243
        case stp242 =>
          go_simp
          refine hK.out _ _ ?hS244 (fun hHeld2 => ?rest245)
          case hS244 => (exact hS _ (by with_reducible repeat (first | exact Below.refl _ _ | assumption | refine below_step ?_ (by assumption) | refine Below.drew ?_ | refine below_drewN ?_ _ | refine below_alloc ?_ _ | refine Below.setCell ?_ (by simp; try omega) _)))
          clear hK K hHeld
          have hHeld := hHeld2
          clear hHeld2
          try simp only [Act.put, List.setIfInBounds_toArray, List.set_cons_zero, List.set_cons_succ]
          refine wpAnyH_ready (rs := [19]) (by kernel_rfl) (by simp) ?_
          refine AllReadyH.cons (o := _) rfl (fun K hK => ?stp238) ?more239
          case stp238 =>
            go_simp
            refine hK.out _ _ ?hS240 (fun hHeld2 => ?rest241)
            case hS240 => (exact hS _ (by with_reducible repeat (first | exact Below.refl _ _ | assumption | refine below_step ?_ (by assumption) | refine Below.drew ?_ | refine below_drewN ?_ _ | refine below_alloc ?_ _ | refine Below.setCell ?_ (by simp; try omega) _)))
            clear hK K hHeld
            have hHeld := hHeld2
            clear hHeld2
            try simp only [Act.put, List.setIfInBounds_toArray, List.set_cons_zero, List.set_cons_succ]
            refine wpAnyH_done (by kernel_rfl) ?_ _
            go_wp2_with fail
            go_meet
            first
              | exact ⟨w7.heap.size, rfl, rfl, hs7, (by with_reducible repeat (first | exact Below.refl _ _ | assumption | refine below_step ?_ (by assumption) | refine Below.drew ?_ | refine below_drewN ?_ _ | refine below_alloc ?_ _ | refine Below.setCell ?_ (by simp; try omega) _)), BX.made w7 39 [.string sd, .int .i64 st]⟩
              | exact ⟨w7.heap.size, rfl, rfl, hs7, (by with_reducible repeat (first | exact Below.refl _ _ | assumption | refine below_step ?_ (by assumption) | refine Below.drew ?_ | refine below_drewN ?_ _ | refine below_alloc ?_ _ | refine Below.setCell ?_ (by simp; try omega) _)), ((BX.made w7 39 [.string ⟨#[]⟩, .int .i64 0]).put 0 _).put 1 _⟩
          exact AllReadyH.nil
        exact AllReadyH.nil
      exact AllReadyH.nil
    refine AllReadyH.cons (o := _) rfl (fun K hK => ?stp284) ?more285
    case stp284 =>
      go_simp
      refine hK.out _ _ ?hS286 (fun hHeld2 => ?rest287)
      case hS286 => (exact hS _ (by with_reducible repeat (first | exact Below.refl _ _ | assumption | refine below_step ?_ (by assumption) | refine Below.drew ?_ | refine below_drewN ?_ _ | refine below_alloc ?_ _ | refine Below.setCell ?_ (by simp; try omega) _)))
      clear hK K hHeld
      have hHeld := hHeld2
      clear hHeld2
      try simp only [Act.put, List.setIfInBounds_toArray, List.set_cons_zero, List.set_cons_succ]
      refine wpAnyH_ready (rs := [13]) (by kernel_rfl) (by simp) ?_
      refine AllReadyH.cons (o := _) rfl (fun K hK => ?stp267) ?more268
      case stp267 =>
        go_simp
        refine (q3' _ (hR _ (by with_reducible repeat (first | exact Below.refl _ _ | assumption | refine below_step ?_ (by assumption) | refine Below.drew ?_ | refine below_drewN ?_ _ | refine below_alloc ?_ _ | refine Below.setCell ?_ (by simp; try omega) _)))).mono ?_
        rintro e w7 ⟨rfl, hx7⟩
        have hb7 : Below w6.heap.size w6 w7 := (by with_reducible repeat (first | exact Below.refl _ _ | assumption | refine below_step ?_ (by assumption) | refine Below.drew ?_ | refine below_drewN ?_ _ | refine below_alloc ?_ _ | refine Below.setCell ?_ (by simp; try omega) _))
        have hs7 := hb7.size
        have FZ : BX w7 w6.heap.size 39 [.string ⟨#[]⟩, .int .i64 0] := BX.below (BX.drx (BX.made w6 39 [.string ⟨#[]⟩, .int .i64 0])) hx7 (by simp)
        have y0 : (_ : Option Value) = some (.string ⟨#[]⟩) := FZ.cell 0 (by simp)
        have y1 : (_ : Option Value) = some (.int .i64 0) := FZ.cell 1 (by simp)
        have hfz := fun j => FZ.free j
        (try go_wp2_with fail)
        refine hK.out _ _ ?hS269 (fun hHeld2 => ?rest270)
        case hS269 => (exact hS _ hb7)
        clear hK K hHeld
        have hHeld := hHeld2
        clear hHeld2
        try simp only [Act.put, List.setIfInBounds_toArray, List.set_cons_zero, List.set_cons_succ]
        refine wpAnyH_take (i := 14) (oi := _) (v := ?v250) rfl (by kernel_rfl) (by kernel_rfl) (by kernel_rfl) (fun _ _ _ h => h) (Or.inl ⟨by rfl, ?hy251⟩) hHeld ?rest252
        case hy251 => (intro w hSw; (try dsimp only at hSw); go_simp; (try with_reducible rfl))
        try simp only [Act.put, List.setIfInBounds_toArray, List.set_cons_zero, List.set_cons_succ]
        refine wpAnyH_take (i := 15) (oi := _) (v := ?v253) rfl (by kernel_rfl) (by kernel_rfl) (by kernel_rfl) (fun _ _ _ h => h) (Or.inl ⟨by rfl, ?hy254⟩) hHeld ?rest255
        case hy254 => (intro w hSw; (try dsimp only at hSw); go_simp; (try with_reducible rfl))
        try simp only [Act.put, List.setIfInBounds_toArray, List.set_cons_zero, List.set_cons_succ]
        refine wpAnyH_take (i := 16) (oi := _) (v := ?v256) rfl (by kernel_rfl) (by kernel_rfl) (by kernel_rfl) (fun _ _ _ h => h) (Or.inl ⟨by rfl, ?hy257⟩) hHeld ?rest258
        case hy257 => (intro w hSw; (try dsimp only at hSw); go_simp; (try with_reducible rfl))
        try simp only [Act.put, List.setIfInBounds_toArray, List.set_cons_zero, List.set_cons_succ]
        refine wpAnyH_ready (rs := [18]) (by kernel_rfl) (by simp) ?_
        refine AllReadyH.cons (o := _) rfl (fun K hK => ?stp263) ?more264
        case stp263 =>
          go_simp
          refine hK.out _ _ ?hS265 (fun hHeld2 => ?rest266)
          case hS265 => (exact hS _ (by with_reducible repeat (first | exact Below.refl _ _ | assumption | refine below_step ?_ (by assumption) | refine Below.drew ?_ | refine below_drewN ?_ _ | refine below_alloc ?_ _ | refine Below.setCell ?_ (by simp; try omega) _)))
          clear hK K hHeld
          have hHeld := hHeld2
          clear hHeld2
          try simp only [Act.put, List.setIfInBounds_toArray, List.set_cons_zero, List.set_cons_succ]
          refine wpAnyH_ready (rs := [19]) (by kernel_rfl) (by simp) ?_
          refine AllReadyH.cons (o := _) rfl (fun K hK => ?stp259) ?more260
          case stp259 =>
            go_simp
            refine hK.out _ _ ?hS261 (fun hHeld2 => ?rest262)
            case hS261 => (exact hS _ (by with_reducible repeat (first | exact Below.refl _ _ | assumption | refine below_step ?_ (by assumption) | refine Below.drew ?_ | refine below_drewN ?_ _ | refine below_alloc ?_ _ | refine Below.setCell ?_ (by simp; try omega) _)))
            clear hK K hHeld
            have hHeld := hHeld2
            clear hHeld2
            try simp only [Act.put, List.setIfInBounds_toArray, List.set_cons_zero, List.set_cons_succ]
            refine wpAnyH_done (by kernel_rfl) ?_ _
            go_wp2_with fail
            go_meet
            exact ⟨w6.heap.size, rfl, rfl, Nat.le_refl _, (by with_reducible repeat (first | exact Below.refl _ _ | assumption | refine below_step ?_ (by assumption) | refine Below.drew ?_ | refine below_drewN ?_ _ | refine below_alloc ?_ _ | refine Below.setCell ?_ (by simp; try omega) _)), (FZ.put 0 _).put 1 _⟩
          exact AllReadyH.nil
        exact AllReadyH.nil
      exact AllReadyH.nil
    exact AllReadyH.nil
  case rest =>
    obtain ⟨gy, rfl, rfl, hgy, hx7, FY⟩ := hcut
    obtain ⟨w7, hw7⟩ : ∃ x, x = wc := ⟨_, rfl⟩
    subst hw7
    clear f0 f1 f2 f3 f4 x0 x1 x2 x3 x4 q3' hS
    replace FD := FD.below hx7 FD.lt
    replace FX := FX.below hx7 FX.lt
    replace FS := FS.below hx7 FS.lt
    replace R2 := (R2.below hx7).more hx7.size
    replace R4 := (R4.below hx7).more hx7.size
    replace R9 := (R9.below hx7).more hx7.size
    have hB7 : Below w.heap.size w w7 := hB6.trans (hx7.mono hB6.size)
    clear hR hx7 O9
    have f0 : (_ : Option Value) = some (.int .i64 c) := FD.cell 0 (by simp)
    have f1 : (_ : Option Value) = some (.int .i64 h) := FD.cell 1 (by simp)
    have f2 : (_ : Option Value) = some (.int .i64 p) := FD.cell 2 (by simp)
    have f3 : (_ : Option Value) = some (.int .i64 s) := FD.cell 3 (by simp)
    have f4 : (_ : Option Value) = some (.slice (some ⟨b, 0, none⟩) L.length vc) := FD.cell 4 (by simp)
    have x0 : (_ : Option Value) = some (.int .i64 c) := FX.cell 0 (by simp)
    have x1 : (_ : Option Value) = some (.int .i64 h) := FX.cell 1 (by simp)
    have x2 : (_ : Option Value) = some (.int .i64 p) := FX.cell 2 (by simp)
    have x3 : (_ : Option Value) = some (.int .i64 s) := FX.cell 3 (by simp)
    have x4 : (_ : Option Value) = some (.slice A4 L.length c4) := FX.cell 4 (by simp)
    have g0 : (_ : Option Value) = some (.string sd) := FS.cell 0 (by simp)
    have g1 : (_ : Option Value) = some (.int .i64 st) := FS.cell 1 (by simp)
    have y0 : (_ : Option Value) = some (.string sd) := FY.cell 0 (by simp)
    have y1 : (_ : Option Value) = some (.int .i64 st) := FY.cell 1 (by simp)
    obtain ⟨bb, off, hbe, hbb, hcc⟩ := R2.at_ fSector_len rfl K hKL
    have e0 := hcc 0 _ (by omega) rfl
    have e1 := hcc 1 _ (by omega) rfl
    clear hcc
    cases hbe
    simp only [← Nat.add_assoc, Nat.add_zero, Nat.zero_add] at e0 e1
    obtain ⟨dk, hdk⟩ : ∃ x, L[K].f0 = x := ⟨_, rfl⟩
    obtain ⟨sk, hsk⟩ : ∃ x, L[K].f1 = x := ⟨_, rfl⟩
    rw [hdk] at e0
    rw [hsk] at e1
    have hL9 := HL9.out
    rw [show qSec L[K] ⟨sd, st⟩ = ((dk.toList == sd.toList) && sk == st) by unfold qSec; rw [hdk, hsk], Nat.zero_add] at hL9
    clear hdk hsk HL9
    have kf0 := gw_cell f0
    have kf1 := gw_cell f1
    have kf2 := gw_cell f2
    have kf3 := gw_cell f3
    have kf4 := gw_cell f4
    have kx0 := gw_cell x0
    have kx1 := gw_cell x1
    have kx2 := gw_cell x2
    have kx3 := gw_cell x3
    have kx4 := gw_cell x4
    have kg0 := gw_cell g0
    have kg1 := gw_cell g1
    have ky0 := gw_cell y0
    have ky1 := gw_cell y1
    have ke0 := gw_cell e0
    have ke1 := gw_cell e1
    have kq1 : Try.prog.stoodInHeld 39 = false := by kernel_rfl
    have kq2 : Try.prog.eqGuardType Try.prog.depth 39 = false := by kernel_rfl
    have ss0 : (sd.toList == sd.toList) = true := by simp
    have ss1 : (st == st) = true := by simp
    have hKi : (K : Int) < (L.length : Int) := by omega
    have qq := fun (W : World) hr => spec_ValidDisc_any c h p s A4 c4 L' W hr hn' hok'
    rw [hd', HN.out] at qq
    have p1 := fun (p' : Regrown) => qb_below p' (qq (Sort.grow (redrawn w7 p'.d) p'.os) (R4.gw p'))
    go_upto_region 12 with fail
    go_cut [118] (fun tv wx => tv = .bool false ∧ Below w7.heap.size w7 wx)
    case first =>
      cases s0 : (dk.toList == sd.toList)
      · cases s1 : (sk == st)
        · skip
          rw [s0, s1] at hL9
          simp only [Bool.and_true, Bool.and_false, Bool.false_eq_true, if_true, if_false, Bool.true_and, Bool.false_and, reduceIte] at hL9
          subst hL9
          have hz9 : 0 < ([(K : Int)] : List Int).length := Nat.succ_pos 0
          obtain ⟨b9, o9, rfl, _, hc9⟩ := R9.at_ fI_len rfl 0 hz9
          have l9c := hc9 0 _ (by omega) rfl
          simp only [Nat.zero_mul, Nat.add_zero, List.getElem_cons_zero] at l9c
          have kl9 := gw_cell l9c
          clear hc9
          refine wp_region_quiet_below (by kernel_rfl) (by kernel_rfl) ?_
          repeat (go_big_quiet_step (first | with_reducible exact p1 _))
          refine wpQuiet_nil ?_
          intro _ hw'
          obtain ⟨pq, hw''⟩ := hw'
          subst hw''
          have hx8 := gw_below w7 pq
          go_wp2_with fail
          go_meet
          exact ⟨rfl, hx8⟩
        · skip
          rw [s0, s1] at hL9
          simp only [Bool.and_true, Bool.and_false, Bool.false_eq_true, if_true, if_false, Bool.true_and, Bool.false_and, reduceIte] at hL9
          subst hL9
          have hz9 : 0 < ([(K : Int)] : List Int).length := Nat.succ_pos 0
          obtain ⟨b9, o9, rfl, _, hc9⟩ := R9.at_ fI_len rfl 0 hz9
          have l9c := hc9 0 _ (by omega) rfl
          simp only [Nat.zero_mul, Nat.add_zero, List.getElem_cons_zero] at l9c
          have kl9 := gw_cell l9c
          clear hc9
          refine wp_region_quiet_below (by kernel_rfl) (by kernel_rfl) ?_
          repeat (go_big_quiet_step (first | with_reducible exact p1 _))
          refine wpQuiet_nil ?_
          intro _ hw'
          obtain ⟨pq, hw''⟩ := hw'
          subst hw''
          have hx8 := gw_below w7 pq
          go_wp2_with fail
          go_meet
          exact ⟨rfl, hx8⟩
      · cases s1 : (sk == st)
        · skip
          rw [s0, s1] at hL9
          simp only [Bool.and_true, Bool.and_false, Bool.false_eq_true, if_true, if_false, Bool.true_and, Bool.false_and, reduceIte] at hL9
          subst hL9
          have hz9 : 0 < ([(K : Int)] : List Int).length := Nat.succ_pos 0
          obtain ⟨b9, o9, rfl, _, hc9⟩ := R9.at_ fI_len rfl 0 hz9
          have l9c := hc9 0 _ (by omega) rfl
          simp only [Nat.zero_mul, Nat.add_zero, List.getElem_cons_zero] at l9c
          have kl9 := gw_cell l9c
          clear hc9
          refine wp_region_quiet_below (by kernel_rfl) (by kernel_rfl) ?_
          repeat (go_big_quiet_step (first | with_reducible exact p1 _))
          refine wpQuiet_nil ?_
          intro _ hw'
          obtain ⟨pq, hw''⟩ := hw'
          subst hw''
          have hx8 := gw_below w7 pq
          go_wp2_with fail
          go_meet
          exact ⟨rfl, hx8⟩
        · skip
          rw [s0, s1] at hL9
          simp only [Bool.and_true, Bool.and_false, Bool.false_eq_true, if_true, if_false, Bool.true_and, Bool.false_and, reduceIte] at hL9
          subst hL9
          refine wp_region_quiet_below (by kernel_rfl) (by kernel_rfl) ?_
          repeat (go_big_quiet_step (first | with_reducible exact p1 _))
          refine wpQuiet_nil ?_
          intro _ hw'
          obtain ⟨pq, hw''⟩ := hw'
          subst hw''
          have hx8 := gw_below w7 pq
          go_wp2_with fail
          go_meet
          exact ⟨rfl, hx8⟩
    case rest =>
      obtain ⟨rfl, hx8⟩ := hcut
      obtain ⟨w8, hw8⟩ : ∃ x, x = wc := ⟨_, rfl⟩
      subst hw8
      clear p1 qq kf0 kf1 kf2 kf3 kf4 kx0 kx1 kx2 kx3 kx4 kg0 kg1 ky0 ky1 ke0 ke1 f0 f1 f2 f3 f4 x0 x1 x2 x3 x4 g0 g1 y0 y1 e0 e1 hL9 R9 FY FS
      replace FD := FD.below hx8 FD.lt
      replace FX := FX.below hx8 FX.lt
      replace R4 := (R4.below hx8).more hx8.size
      have hB8 : Below w.heap.size w w8 := hB7.trans (hx8.mono hB7.size)
      clear hx8 hB7 hB6 R2
      have q5 := fun (W : World) hr => impl_DataOf_any c h p s A4 c4 L' W hr hn' hok'
      rw [hD, HN.out] at q5
      have q6 := fun (W : World) => impl_DiscOfData_any c h p s D W (by omega)
      have hX : ∀ x, doX c h p s D x = x := fun x => if_pos hdoB
      have hC : doC c h p s D = 0 := by unfold doC; rw [if_pos (okD_geo hd).1, if_pos hdoB]
      rw [hX c, hX h, hX p, hX s, hC, hM] at q6
      rw [HN.out] at hMl hMs
      rw [hMl] at q6
      have hnM : M.length ≤ 1048576 := by omega
      have q7 := fun (W : World) (Az : Option Addr) (cz : Nat) hr => impl_DataOf_any c h p s Az cz M W hr hnM hMok
      rw [hMd, hMl] at q7
      have q8 := fun (W : World) (Az : Option Addr) (cz : Nat) hr => impl_StatesOf_any c h p s Az cz M W hr hnM hMok
      rw [hMs, hMl] at q8
      clear hX hC hMl hMs hM hD hMd hdoB
      have hR : ∀ W : World, Below w8.heap.size w8 W → Rd W W.heap.size 2 A4 L.length (flat fSector L') := fun W hb => (R4.below hb).more hb.size
      have hS : ∀ W : World, Below w8.heap.size w8 W → W.cell? ⟨gx, 0, none⟩ = some (.int .i64 c) ∧ W.cell? ⟨gx, 1, none⟩ = some (.int .i64 h) ∧ W.cell? ⟨gx, 2, none⟩ = some (.int .i64 p) ∧ W.cell? ⟨gx, 3, none⟩ = some (.int .i64 s) ∧ W.cell? ⟨gx, 4, none⟩ = some (.slice A4 L.length c4) ∧ W.cell? ⟨gd, 0, none⟩ = some (.int .i64 c) ∧ W.cell? ⟨gd, 1, none⟩ = some (.int .i64 h) ∧ W.cell? ⟨gd, 2, none⟩ = some (.int .i64 p) ∧ W.cell? ⟨gd, 3, none⟩ = some (.int .i64 s) := fun W hb => ⟨(FX.below hb FX.lt).cell 0 (by simp), (FX.below hb FX.lt).cell 1 (by simp), (FX.below hb FX.lt).cell 2 (by simp), (FX.below hb FX.lt).cell 3 (by simp), (FX.below hb FX.lt).cell 4 (by simp), (FD.below hb FD.lt).cell 0 (by simp), (FD.below hb FD.lt).cell 1 (by simp), (FD.below hb FD.lt).cell 2 (by simp), (FD.below hb FD.lt).cell 3 (by simp)⟩
      go_upto_region 14 with fail
      go_cut [13, 14] (fun pv cv wx => ∃ (g : Nat) (Az : Option Addr) (cz : Nat), pv = .pointer (some ⟨g, 0, none⟩) ∧ cv = .int .i64 0 ∧ Below w8.heap.size w8 wx ∧ BX wx g 26 [.int .i64 c, .int .i64 h, .int .i64 p, .int .i64 s, .slice Az L.length cz] ∧ Rd wx wx.heap.size 2 Az L.length (flat fSector M))
      case first =>
        refine wp_region_held_drew (S := (fun W => W.cell? ⟨gx, 0, none⟩ = some (.int .i64 c) ∧ W.cell? ⟨gx, 1, none⟩ = some (.int .i64 h) ∧ W.cell? ⟨gx, 2, none⟩ = some (.int .i64 p) ∧ W.cell? ⟨gx, 3, none⟩ = some (.int .i64 s) ∧ W.cell? ⟨gx, 4, none⟩ = some (.slice A4 L.length c4) ∧ W.cell? ⟨gd, 0, none⟩ = some (.int .i64 c) ∧ W.cell? ⟨gd, 1, none⟩ = some (.int .i64 h) ∧ W.cell? ⟨gd, 2, none⟩ = some (.int .i64 p) ∧ W.cell? ⟨gd, 3, none⟩ = some (.int .i64 s))) (by kernel_rfl) ?hS85 (fun hHeld => ?rest86)
        case hS85 => (exact hS _ (Below.drew (Below.refl _ _)))
        refine wpAnyH_take (i := 0) (oi := _) (v := ?v87) rfl (by kernel_rfl) (by kernel_rfl) (by kernel_rfl) (fun _ _ _ h => h) (Or.inl ⟨by rfl, ?hy88⟩) hHeld ?rest89
        case hy88 => (intro w hSw; (try dsimp only at hSw); go_simp; (try with_reducible rfl))
        try simp only [Act.put, List.setIfInBounds_toArray, List.set_cons_zero, List.set_cons_succ]
        refine wpAnyH_take (i := 1) (oi := _) (v := ?v90) rfl (by kernel_rfl) (by kernel_rfl) (by kernel_rfl) (fun _ _ _ h => h) (Or.inl ⟨by rfl, ?hy91⟩) hHeld ?rest92
        case hy91 => (intro w hSw; (try dsimp only at hSw); go_simp; (try with_reducible rfl))
        try simp only [Act.put, List.setIfInBounds_toArray, List.set_cons_zero, List.set_cons_succ]
        refine wpAnyH_take (i := 2) (oi := _) (v := ?v93) rfl (by kernel_rfl) (by kernel_rfl) (by kernel_rfl) (fun _ _ _ h => h) (Or.inl ⟨by rfl, ?hy94⟩) hHeld ?rest95
        case hy94 => (intro w hSw; (try dsimp only at hSw); go_simp; (try with_reducible rfl))
        try simp only [Act.put, List.setIfInBounds_toArray, List.set_cons_zero, List.set_cons_succ]
        refine wpAnyH_take (i := 3) (oi := _) (v := ?v96) rfl (by kernel_rfl) (by kernel_rfl) (by kernel_rfl) (fun _ _ _ h => h) (Or.inl ⟨by rfl, ?hy97⟩) hHeld ?rest98
        case hy97 => (intro w hSw; (try dsimp only at hSw); go_simp; (try with_reducible rfl))
        try simp only [Act.put, List.setIfInBounds_toArray, List.set_cons_zero, List.set_cons_succ]
        refine wpAnyH_take (i := 4) (oi := _) (v := ?v99) rfl (by kernel_rfl) (by kernel_rfl) (by kernel_rfl) (fun _ _ _ h => h) (Or.inl ⟨by rfl, ?hy100⟩) hHeld ?rest101
        case hy100 => (intro w hSw; (try dsimp only at hSw); go_simp; (try with_reducible rfl))
        try simp only [Act.put, List.setIfInBounds_toArray, List.set_cons_zero, List.set_cons_succ]
        refine wpAnyH_take (i := 5) (oi := _) (v := ?v102) rfl (by kernel_rfl) (by kernel_rfl) (by kernel_rfl) (fun _ _ _ h => h) (Or.inl ⟨by rfl, ?hy103⟩) hHeld ?rest104
        case hy103 => (intro w hSw; (try dsimp only at hSw); go_simp; (try with_reducible rfl))
        try simp only [Act.put, List.setIfInBounds_toArray, List.set_cons_zero, List.set_cons_succ]
        refine wpAnyH_take (i := 6) (oi := _) (v := ?v105) rfl (by kernel_rfl) (by kernel_rfl) (by kernel_rfl) (fun _ _ _ h => h) (Or.inl ⟨by rfl, ?hy106⟩) hHeld ?rest107
        case hy106 => (intro w hSw; (try dsimp only at hSw); go_simp; (try with_reducible rfl))
        try simp only [Act.put, List.setIfInBounds_toArray, List.set_cons_zero, List.set_cons_succ]
        refine wpAnyH_take (i := 7) (oi := _) (v := ?v108) rfl (by kernel_rfl) (by kernel_rfl) (by kernel_rfl) (fun _ _ _ h => h) (Or.inl ⟨by rfl, ?hy109⟩) hHeld ?rest110
        case hy109 => (intro w hSw; (try dsimp only at hSw); go_simp; (try with_reducible rfl))
        try simp only [Act.put, List.setIfInBounds_toArray, List.set_cons_zero, List.set_cons_succ]
        refine wpAnyH_take (i := 8) (oi := _) (v := ?v111) rfl (by kernel_rfl) (by kernel_rfl) (by kernel_rfl) (fun _ _ _ h => h) (Or.inl ⟨by rfl, ?hy112⟩) hHeld ?rest113
        case hy112 => (intro w hSw; (try dsimp only at hSw); go_simp; (try with_reducible rfl))
        try simp only [Act.put, List.setIfInBounds_toArray, List.set_cons_zero, List.set_cons_succ]
        refine wpAnyH_ready (rs := [9, 14]) (by kernel_rfl) (by simp) ?_
        refine AllReadyH.cons (o := _) rfl (fun K hK => ?stp189) ?more190
        case stp189 =>
          go_simp
          refine (q5 _ (hR _ (by with_reducible repeat (first | exact Below.refl _ _ | assumption | refine below_step ?_ (by assumption) | refine Below.drew ?_ | refine below_drewN ?_ _ | refine below_alloc ?_ _ | refine Below.setCell ?_ (by simp; try omega) _)))).mono ?_
          rintro e w9 ⟨rfl, hx9⟩
          have hb9 : Below w8.heap.size w8 w9 := (by with_reducible repeat (first | exact Below.refl _ _ | assumption | refine below_step ?_ (by assumption) | refine Below.drew ?_ | refine below_drewN ?_ _ | refine below_alloc ?_ _ | refine Below.setCell ?_ (by simp; try omega) _))
          have hs9 := hb9.size
          (try go_wp2_with fail)
          refine hK.out _ _ ?hS191 (fun hHeld2 => ?rest192)
          case hS191 => (exact hS _ hb9)
          clear hK K hHeld
          have hHeld := hHeld2
          clear hHeld2
          try simp only [Act.put, List.setIfInBounds_toArray, List.set_cons_zero, List.set_cons_succ]
          refine wpAnyH_ready (rs := [10, 14]) (by kernel_rfl) (by simp) ?_
          refine AllReadyH.cons (o := _) rfl (fun K hK => ?stp181) ?more182
          case stp181 =>
            go_simp
            refine (q6 _).mono ?_
            rintro e w10 ⟨v10, rfl, O10, hx10⟩
            obtain ⟨Az, cz, rfl⟩ := own_form O10
            have hb10 : Below w8.heap.size w8 w10 := (by with_reducible repeat (first | exact Below.refl _ _ | assumption | refine below_step ?_ (by assumption) | refine Below.drew ?_ | refine below_drewN ?_ _ | refine below_alloc ?_ _ | refine Below.setCell ?_ (by simp; try omega) _))
            have hs10 := hb10.size
            (try go_wp2_with fail)
            refine hK.out _ _ ?hS183 (fun hHeld2 => ?rest184)
            case hS183 => (exact hS _ hb10)
            clear hK K hHeld
            have hHeld := hHeld2
            clear hHeld2
            try simp only [Act.put, List.setIfInBounds_toArray, List.set_cons_zero, List.set_cons_succ]
            refine wpAnyH_take (i := 11) (oi := _) (v := ?v160) rfl (by kernel_rfl) (by kernel_rfl) (by kernel_rfl) (fun _ _ _ h => h) (Or.inl ⟨by rfl, ?hy161⟩) hHeld ?rest162
            case hy161 => (intro w hSw; (try dsimp only at hSw); go_simp; (try with_reducible rfl))
            try simp only [Act.put, List.setIfInBounds_toArray, List.set_cons_zero, List.set_cons_succ]
            refine wpAnyH_take (i := 12) (oi := _) (v := ?v163) rfl (by kernel_rfl) (by kernel_rfl) (by kernel_rfl) (fun _ _ _ h => h) (Or.inl ⟨by rfl, ?hy164⟩) hHeld ?rest165
            case hy164 => (intro w hSw; (try dsimp only at hSw); go_simp; (try with_reducible rfl))
            try simp only [Act.put, List.setIfInBounds_toArray, List.set_cons_zero, List.set_cons_succ]
            refine wpAnyH_take (i := 13) (oi := _) (v := ?v166) rfl (by kernel_rfl) (by kernel_rfl) (by kernel_rfl) (fun _ _ _ h => h) (Or.inl ⟨by rfl, ?hy167⟩) hHeld ?rest168
            case hy167 => (intro w hSw; (try dsimp only at hSw); go_simp; (try with_reducible rfl))
            try simp only [Act.put, List.setIfInBounds_toArray, List.set_cons_zero, List.set_cons_succ]
            refine wpAnyH_ready (rs := [14]) (by kernel_rfl) (by simp) ?_
            refine AllReadyH.cons (o := _) rfl (fun K hK => ?stp177) ?more178
            case stp177 =>
              go_simp
              refine hK.out _ _ ?hS179 (fun hHeld2 => ?rest180)
              case hS179 => (exact hS _ (by with_reducible repeat (first | exact Below.refl _ _ | assumption | refine below_step ?_ (by assumption) | refine Below.drew ?_ | refine below_drewN ?_ _ | refine below_alloc ?_ _ | refine Below.setCell ?_ (by simp; try omega) _)))
              clear hK K hHeld
              have hHeld := hHeld2
              clear hHeld2
              try simp only [Act.put, List.setIfInBounds_toArray, List.set_cons_zero, List.set_cons_succ]
              refine wpAnyH_ready (rs := [15]) (by kernel_rfl) (by simp) ?_
              refine AllReadyH.cons (o := _) rfl (fun K hK => ?stp173) ?more174
              case stp173 =>
                go_simp
                refine hK.out _ _ ?hS175 (fun hHeld2 => ?rest176)
                case hS175 => (exact hS _ (by with_reducible repeat (first | exact Below.refl _ _ | assumption | refine below_step ?_ (by assumption) | refine Below.drew ?_ | refine below_drewN ?_ _ | refine below_alloc ?_ _ | refine Below.setCell ?_ (by simp; try omega) _)))
                clear hK K hHeld
                have hHeld := hHeld2
                clear hHeld2
                try simp only [Act.put, List.setIfInBounds_toArray, List.set_cons_zero, List.set_cons_succ]
                refine wpAnyH_ready (rs := [16]) (by kernel_rfl) (by simp) ?_
                refine AllReadyH.cons (o := _) rfl (fun K hK => ?stp169) ?more170
                case stp169 =>
                  go_simp
                  refine hK.out _ _ ?hS171 (fun hHeld2 => ?rest172)
                  case hS171 => (exact hS _ (by with_reducible repeat (first | exact Below.refl _ _ | assumption | refine below_step ?_ (by assumption) | refine Below.drew ?_ | refine below_drewN ?_ _ | refine below_alloc ?_ _ | refine Below.setCell ?_ (by simp; try omega) _)))
                  clear hK K hHeld
                  have hHeld := hHeld2
                  clear hHeld2
                  try simp only [Act.put, List.setIfInBounds_toArray, List.set_cons_zero, List.set_cons_succ]
                  refine wpAnyH_done (by kernel_rfl) ?_ _
                  go_wp2_with fail
                  go_meet
                  refine ⟨w10.heap.size, Az, cz, rfl, rfl, (by with_reducible repeat (first | exact Below.refl _ _ | assumption | refine below_step ?_ (by assumption) | refine Below.drew ?_ | refine below_drewN ?_ _ | refine below_alloc ?_ _ | refine Below.setCell ?_ (by simp; try omega) _)), ?_, ?_⟩
                  · first
                      | exact BX.made w10 26 [.int .i64 c, .int .i64 h, .int .i64 p, .int .i64 s, .slice Az L.length cz]
                      | exact (((((BX.made w10 26 [.int .i64 0, .int .i64 0, .int .i64 0, .int .i64 0, .slice none 0 0]).put 0 _).put 1 _).put 2 _).put 3 _).put 4 _
                  · refine ((Rd.of_own O10).below (w' := _) (show Below w10.heap.size w10 _ from (by with_reducible repeat (first | exact Below.refl _ _ | assumption | refine below_step ?_ (by assumption) | refine Below.drew ?_ | refine below_drewN ?_ _ | refine below_alloc ?_ _ | refine Below.setCell ?_ (by simp; try omega) _)))).more ?_
                    exact Below.size (show Below w10.heap.size w10 _ from (by with_reducible repeat (first | exact Below.refl _ _ | assumption | refine below_step ?_ (by assumption) | refine Below.drew ?_ | refine below_drewN ?_ _ | refine below_alloc ?_ _ | refine Below.setCell ?_ (by simp; try omega) _)))
                exact AllReadyH.nil
              exact AllReadyH.nil
            exact AllReadyH.nil
          refine AllReadyH.cons (o := _) rfl (fun K hK => ?stp185) ?more186
          case stp185 =>
            go_simp
            refine hK.out _ _ ?hS187 (fun hHeld2 => ?rest188)
            case hS187 => (exact hS _ (hb9.alloc hb9.size _))
            clear hK K hHeld
            have hHeld := hHeld2
            clear hHeld2
            try simp only [Act.put, List.setIfInBounds_toArray, List.set_cons_zero, List.set_cons_succ]
            refine wpAnyH_ready (rs := [10]) (by kernel_rfl) (by simp) ?_
            refine AllReadyH.cons (o := _) rfl (fun K hK => ?stp131) ?more132
            case stp131 =>
              go_simp
              refine (q6 _).mono ?_
              rintro e w10 ⟨v10, rfl, O10, hx10⟩
              obtain ⟨Az, cz, rfl⟩ := own_form O10
              have hb10 : Below w8.heap.size w8 w10 := (by with_reducible repeat (first | exact Below.refl _ _ | assumption | refine below_step ?_ (by assumption) | refine Below.drew ?_ | refine below_drewN ?_ _ | refine below_alloc ?_ _ | refine Below.setCell ?_ (by simp; try omega) _))
              have hs10 := hb10.size
              have FZ : BX w10 w9.heap.size 26 [.int .i64 0, .int .i64 0, .int .i64 0, .int .i64 0, .slice none 0 0] := (BX.made w9 26 [.int .i64 0, .int .i64 0, .int .i64 0, .int .i64 0, .slice none 0 0]).below hx10 (by simp)
              have hzb : w9.heap.size < (w9.alloc (.cells #[.int .i64 0, .int .i64 0, .int .i64 0, .int .i64 0, .slice none 0 0] 26)).heap.size := (by simp)
              have y0 : (_ : Option Value) = some (.int .i64 0) := FZ.cell 0 (by simp)
              have y1 : (_ : Option Value) = some (.int .i64 0) := FZ.cell 1 (by simp)
              have y2 : (_ : Option Value) = some (.int .i64 0) := FZ.cell 2 (by simp)
              have y3 : (_ : Option Value) = some (.int .i64 0) := FZ.cell 3 (by simp)
              have y4 : (_ : Option Value) = some (.slice none 0 0) := FZ.cell 4 (by simp)
              have hfz := fun j => FZ.free j
              (try go_wp2_with fail)
              refine hK.out _ _ ?hS133 (fun hHeld2 => ?rest134)
              case hS133 => (exact hS _ hb10)
              clear hK K hHeld
              have hHeld := hHeld2
              clear hHeld2
              try simp only [Act.put, List.setIfInBounds_toArray, List.set_cons_zero, List.set_cons_succ]
              refine wpAnyH_take (i := 11) (oi := _) (v := ?v114) rfl (by kernel_rfl) (by kernel_rfl) (by kernel_rfl) (fun _ _ _ h => h) (Or.inl ⟨by rfl, ?hy115⟩) hHeld ?rest116
              case hy115 => (intro w hSw; (try dsimp only at hSw); go_simp; (try with_reducible rfl))
              try simp only [Act.put, List.setIfInBounds_toArray, List.set_cons_zero, List.set_cons_succ]
              refine wpAnyH_take (i := 12) (oi := _) (v := ?v117) rfl (by kernel_rfl) (by kernel_rfl) (by kernel_rfl) (fun _ _ _ h => h) (Or.inl ⟨by rfl, ?hy118⟩) hHeld ?rest119
              case hy118 => (intro w hSw; (try dsimp only at hSw); go_simp; (try with_reducible rfl))
              try simp only [Act.put, List.setIfInBounds_toArray, List.set_cons_zero, List.set_cons_succ]
              refine wpAnyH_take (i := 13) (oi := _) (v := ?v120) rfl (by kernel_rfl) (by kernel_rfl) (by kernel_rfl) (fun _ _ _ h => h) (Or.inl ⟨by rfl, ?hy121⟩) hHeld ?rest122
              case hy121 => (intro w hSw; (try dsimp only at hSw); go_simp; (try with_reducible rfl))
              try simp only [Act.put, List.setIfInBounds_toArray, List.set_cons_zero, List.set_cons_succ]
              refine wpAnyH_ready (rs := [15]) (by kernel_rfl) (by simp) ?_
              refine AllReadyH.cons (o := _) rfl (fun K hK => ?stp127) ?more128
              case stp127 =>
                go_simp
                refine hK.out _ _ ?hS129 (fun hHeld2 => ?rest130)
                case hS129 => (exact hS _ (by with_reducible repeat (first | exact Below.refl _ _ | assumption | refine below_step ?_ (by assumption) | refine Below.drew ?_ | refine below_drewN ?_ _ | refine below_alloc ?_ _ | refine Below.setCell ?_ (by simp; try omega) _)))
                clear hK K hHeld
                have hHeld := hHeld2
                clear hHeld2
                try simp only [Act.put, List.setIfInBounds_toArray, List.set_cons_zero, List.set_cons_succ]
                refine wpAnyH_ready (rs := [16]) (by kernel_rfl) (by simp) ?_
                refine AllReadyH.cons (o := _) rfl (fun K hK => ?stp123) ?more124
                case stp123 =>
                  go_simp
                  refine hK.out _ _ ?hS125 (fun hHeld2 => ?rest126)
                  case hS125 => (exact hS _ (by with_reducible repeat (first | exact Below.refl _ _ | assumption | refine below_step ?_ (by assumption) | refine Below.drew ?_ | refine below_drewN ?_ _ | refine below_alloc ?_ _ | refine Below.setCell ?_ (by simp; try omega) _)))
                  clear hK K hHeld
                  have hHeld := hHeld2
                  clear hHeld2
                  try simp only [Act.put, List.setIfInBounds_toArray, List.set_cons_zero, List.set_cons_succ]
                  refine wpAnyH_done (by kernel_rfl) ?_ _
                  go_wp2_with fail
                  go_meet
                  refine ⟨w9.heap.size, Az, cz, rfl, rfl, (by with_reducible repeat (first | exact Below.refl _ _ | assumption | refine below_step ?_ (by assumption) | refine Below.drew ?_ | refine below_drewN ?_ _ | refine below_alloc ?_ _ | refine Below.setCell ?_ (by simp; try omega) _)), (((((FZ.put 0 _).put 1 _).put 2 _).put 3 _).put 4 _), Rd.of_own (OO.put (OO.put (OO.put (OO.put (OO.put O10 hzb _) hzb _) hzb _) hzb _) hzb _)⟩
                exact AllReadyH.nil
              exact AllReadyH.nil
            exact AllReadyH.nil
          exact AllReadyH.nil
        refine AllReadyH.cons (o := _) rfl (fun K hK => ?stp193) ?more194
        case stp193 =>
          go_simp
          refine hK.out _ _ ?hS195 (fun hHeld2 => ?rest196)
          case hS195 => (exact hS _ (by with_reducible repeat (first | exact Below.refl _ _ | assumption | refine below_step ?_ (by assumption) | refine Below.drew ?_ | refine below_drewN ?_ _ | refine below_alloc ?_ _ | refine Below.setCell ?_ (by simp; try omega) _)))
          clear hK K hHeld
          have hHeld := hHeld2
          clear hHeld2
          try simp only [Act.put, List.setIfInBounds_toArray, List.set_cons_zero, List.set_cons_succ]
          refine wpAnyH_ready (rs := [9]) (by kernel_rfl) (by simp) ?_
          refine AllReadyH.cons (o := _) rfl (fun K hK => ?stp156) ?more157
          case stp156 =>
            go_simp
            refine (q5 _ (hR _ (by with_reducible repeat (first | exact Below.refl _ _ | assumption | refine below_step ?_ (by assumption) | refine Below.drew ?_ | refine below_drewN ?_ _ | refine below_alloc ?_ _ | refine Below.setCell ?_ (by simp; try omega) _)))).mono ?_
            rintro e w9 ⟨rfl, hx9⟩
            have hb9 : Below w8.heap.size w8 w9 := (by with_reducible repeat (first | exact Below.refl _ _ | assumption | refine below_step ?_ (by assumption) | refine Below.drew ?_ | refine below_drewN ?_ _ | refine below_alloc ?_ _ | refine Below.setCell ?_ (by simp; try omega) _))
            have hs9 := hb9.size
            have FZ0 : BX w9 w8.heap.size 26 [.int .i64 0, .int .i64 0, .int .i64 0, .int .i64 0, .slice none 0 0] := BX.below (BX.drx (BX.made w8 26 [.int .i64 0, .int .i64 0, .int .i64 0, .int .i64 0, .slice none 0 0])) hx9 (by simp)
            (try go_wp2_with fail)
            refine hK.out _ _ ?hS158 (fun hHeld2 => ?rest159)
            case hS158 => (exact hS _ hb9)
            clear hK K hHeld
            have hHeld := hHeld2
            clear hHeld2
            try simp only [Act.put, List.setIfInBounds_toArray, List.set_cons_zero, List.set_cons_succ]
            refine wpAnyH_ready (rs := [10]) (by kernel_rfl) (by simp) ?_
            refine AllReadyH.cons (o := _) rfl (fun K hK => ?stp152) ?more153
            case stp152 =>
              go_simp
              refine (q6 _).mono ?_
              rintro e w10 ⟨v10, rfl, O10, hx10⟩
              obtain ⟨Az, cz, rfl⟩ := own_form O10
              have hb10 : Below w8.heap.size w8 w10 := (by with_reducible repeat (first | exact Below.refl _ _ | assumption | refine below_step ?_ (by assumption) | refine Below.drew ?_ | refine below_drewN ?_ _ | refine below_alloc ?_ _ | refine Below.setCell ?_ (by simp; try omega) _))
              have hs10 := hb10.size
              have FZ := FZ0.below hx10 FZ0.lt
              have hzb := FZ0.lt
              have y0 : (_ : Option Value) = some (.int .i64 0) := FZ.cell 0 (by simp)
              have y1 : (_ : Option Value) = some (.int .i64 0) := FZ.cell 1 (by simp)
              have y2 : (_ : Option Value) = some (.int .i64 0) := FZ.cell 2 (by simp)
              have y3 : (_ : Option Value) = some (.int .i64 0) := FZ.cell 3 (by simp)
              have y4 : (_ : Option Value) = some (.slice none 0 0) := FZ.cell 4 (by simp)
              have hfz := fun j => FZ.free j
              (try go_wp2_with fail)
              refine hK.out _ _ ?hS154 (fun hHeld2 => ?rest155)
              case hS154 => (exact hS _ hb10)
              clear hK K hHeld
              have hHeld := hHeld2
              clear hHeld2
              try simp only [Act.put, List.setIfInBounds_toArray, List.set_cons_zero, List.set_cons_succ]
              refine wpAnyH_take (i := 11) (oi := _) (v := ?v135) rfl (by kernel_rfl) (by kernel_rfl) (by kernel_rfl) (fun _ _ _ h => h) (Or.inl ⟨by rfl, ?hy136⟩) hHeld ?rest137
              case hy136 => (intro w hSw; (try dsimp only at hSw); go_simp; (try with_reducible rfl))
              try simp only [Act.put, List.setIfInBounds_toArray, List.set_cons_zero, List.set_cons_succ]
              refine wpAnyH_take (i := 12) (oi := _) (v := ?v138) rfl (by kernel_rfl) (by kernel_rfl) (by kernel_rfl) (fun _ _ _ h => h) (Or.inl ⟨by rfl, ?hy139⟩) hHeld ?rest140
              case hy139 => (intro w hSw; (try dsimp only at hSw); go_simp; (try with_reducible rfl))
              try simp only [Act.put, List.setIfInBounds_toArray, List.set_cons_zero, List.set_cons_succ]
              refine wpAnyH_take (i := 13) (oi := _) (v := ?v141) rfl (by kernel_rfl) (by kernel_rfl) (by kernel_rfl) (fun _ _ _ h => h) (Or.inl ⟨by rfl, ?hy142⟩) hHeld ?rest143
              case hy142 => (intro w hSw; (try dsimp only at hSw); go_simp; (try with_reducible rfl))
              try simp only [Act.put, List.setIfInBounds_toArray, List.set_cons_zero, List.set_cons_succ]
              refine wpAnyH_ready (rs := [15]) (by kernel_rfl) (by simp) ?_
              refine AllReadyH.cons (o := _) rfl (fun K hK => ?stp148) ?more149
              case stp148 =>
                go_simp
                refine hK.out _ _ ?hS150 (fun hHeld2 => ?rest151)
                case hS150 => (exact hS _ (by with_reducible repeat (first | exact Below.refl _ _ | assumption | refine below_step ?_ (by assumption) | refine Below.drew ?_ | refine below_drewN ?_ _ | refine below_alloc ?_ _ | refine Below.setCell ?_ (by simp; try omega) _)))
                clear hK K hHeld
                have hHeld := hHeld2
                clear hHeld2
                try simp only [Act.put, List.setIfInBounds_toArray, List.set_cons_zero, List.set_cons_succ]
                refine wpAnyH_ready (rs := [16]) (by kernel_rfl) (by simp) ?_
                refine AllReadyH.cons (o := _) rfl (fun K hK => ?stp144) ?more145
                case stp144 =>
                  go_simp
                  refine hK.out _ _ ?hS146 (fun hHeld2 => ?rest147)
                  case hS146 => (exact hS _ (by with_reducible repeat (first | exact Below.refl _ _ | assumption | refine below_step ?_ (by assumption) | refine Below.drew ?_ | refine below_drewN ?_ _ | refine below_alloc ?_ _ | refine Below.setCell ?_ (by simp; try omega) _)))
                  clear hK K hHeld
                  have hHeld := hHeld2
                  clear hHeld2
                  try simp only [Act.put, List.setIfInBounds_toArray, List.set_cons_zero, List.set_cons_succ]
                  refine wpAnyH_done (by kernel_rfl) ?_ _
                  go_wp2_with fail
                  go_meet
                  refine ⟨w8.heap.size, Az, cz, rfl, rfl, (by with_reducible repeat (first | exact Below.refl _ _ | assumption | refine below_step ?_ (by assumption) | refine Below.drew ?_ | refine below_drewN ?_ _ | refine below_alloc ?_ _ | refine Below.setCell ?_ (by simp; try omega) _)), (((((FZ.put 0 _).put 1 _).put 2 _).put 3 _).put 4 _), Rd.of_own (OO.put (OO.put (OO.put (OO.put (OO.put O10 hzb _) hzb _) hzb _) hzb _) hzb _)⟩
                exact AllReadyH.nil
              exact AllReadyH.nil
            exact AllReadyH.nil
          exact AllReadyH.nil
        exact AllReadyH.nil
      case rest =>
        obtain ⟨gz, Az, cz, rfl, rfl, hx9, FZ, RZ⟩ := hcut
        obtain ⟨w9, hw9⟩ : ∃ x, x = wc := ⟨_, rfl⟩
        subst hw9
        clear hR hS q6 q1 q2
        replace FD := FD.below hx9 FD.lt
        replace FX := FX.below hx9 FX.lt
        replace R4 := (R4.below hx9).more hx9.size
        have hB9 : Below w.heap.size w w9 := hB8.trans (hx9.mono hB8.size)
        clear hx9 hB8
        have hRx : ∀ W : World, Below w9.heap.size w9 W → Rd W W.heap.size 2 A4 L.length (flat fSector L') := fun W hb => (R4.below hb).more hb.size
        have hRz : ∀ W : World, Below w9.heap.size w9 W → Rd W W.heap.size 2 Az L.length (flat fSector M) := fun W hb => (RZ.below hb).more hb.size
        have hS : ∀ W : World, Below w9.heap.size w9 W → W.cell? ⟨gz, 0, none⟩ = some (.int .i64 c) ∧ W.cell? ⟨gz, 1, none⟩ = some (.int .i64 h) ∧ W.cell? ⟨gz, 2, none⟩ = some (.int .i64 p) ∧ W.cell? ⟨gz, 3, none⟩ = some (.int .i64 s) ∧ W.cell? ⟨gz, 4, none⟩ = some (.slice Az L.length cz) ∧ W.cell? ⟨gx, 0, none⟩ = some (.int .i64 c) ∧ W.cell? ⟨gx, 1, none⟩ = some (.int .i64 h) ∧ W.cell? ⟨gx, 2, none⟩ = some (.int .i64 p) ∧ W.cell? ⟨gx, 3, none⟩ = some (.int .i64 s) ∧ W.cell? ⟨gx, 4, none⟩ = some (.slice A4 L.length c4) ∧ W.cell? ⟨gd, 4, none⟩ = some (.slice (some ⟨b, 0, none⟩) L.length vc) := fun W hb => ⟨(FZ.below hb FZ.lt).cell 0 (by simp), (FZ.below hb FZ.lt).cell 1 (by simp), (FZ.below hb FZ.lt).cell 2 (by simp), (FZ.below hb FZ.lt).cell 3 (by simp), (FZ.below hb FZ.lt).cell 4 (by simp), (FX.below hb FX.lt).cell 0 (by simp), (FX.below hb FX.lt).cell 1 (by simp), (FX.below hb FX.lt).cell 2 (by simp), (FX.below hb FX.lt).cell 3 (by simp), (FX.below hb FX.lt).cell 4 (by simp), (FD.below hb FD.lt).cell 4 (by simp)⟩
        have hDD : (D.toList == D.toList) = true := by simp
        go_upto_region 15 with fail
        refine wp_region_held_drew (S := (fun W => W.cell? ⟨gz, 0, none⟩ = some (.int .i64 c) ∧ W.cell? ⟨gz, 1, none⟩ = some (.int .i64 h) ∧ W.cell? ⟨gz, 2, none⟩ = some (.int .i64 p) ∧ W.cell? ⟨gz, 3, none⟩ = some (.int .i64 s) ∧ W.cell? ⟨gz, 4, none⟩ = some (.slice Az L.length cz) ∧ W.cell? ⟨gx, 0, none⟩ = some (.int .i64 c) ∧ W.cell? ⟨gx, 1, none⟩ = some (.int .i64 h) ∧ W.cell? ⟨gx, 2, none⟩ = some (.int .i64 p) ∧ W.cell? ⟨gx, 3, none⟩ = some (.int .i64 s) ∧ W.cell? ⟨gx, 4, none⟩ = some (.slice A4 L.length c4) ∧ W.cell? ⟨gd, 4, none⟩ = some (.slice (some ⟨b, 0, none⟩) L.length vc))) (by kernel_rfl) ?hS1 (fun hHeld => ?rest2)
        case hS1 => (exact hS _ (Below.drew (Below.refl _ _)))
        refine wpAnyH_take (i := 0) (oi := _) (v := ?v3) rfl (by kernel_rfl) (by kernel_rfl) (by kernel_rfl) (fun _ _ _ h => h) (Or.inl ⟨by rfl, ?hy4⟩) hHeld ?rest5
        case hy4 => (intro w hSw; (try dsimp only at hSw); go_simp; (try with_reducible rfl))
        try simp only [Act.put, List.setIfInBounds_toArray, List.set_cons_zero, List.set_cons_succ]
        refine wpAnyH_take (i := 1) (oi := _) (v := ?v6) rfl (by kernel_rfl) (by kernel_rfl) (by kernel_rfl) (fun _ _ _ h => h) (Or.inl ⟨by rfl, ?hy7⟩) hHeld ?rest8
        case hy7 => (intro w hSw; (try dsimp only at hSw); go_simp; (try with_reducible rfl))
        try simp only [Act.put, List.setIfInBounds_toArray, List.set_cons_zero, List.set_cons_succ]
        refine wpAnyH_take (i := 2) (oi := _) (v := ?v9) rfl (by kernel_rfl) (by kernel_rfl) (by kernel_rfl) (fun _ _ _ h => h) (Or.inl ⟨by rfl, ?hy10⟩) hHeld ?rest11
        case hy10 => (intro w hSw; (try dsimp only at hSw); go_simp; (try with_reducible rfl))
        try simp only [Act.put, List.setIfInBounds_toArray, List.set_cons_zero, List.set_cons_succ]
        refine wpAnyH_take (i := 3) (oi := _) (v := ?v12) rfl (by kernel_rfl) (by kernel_rfl) (by kernel_rfl) (fun _ _ _ h => h) (Or.inl ⟨by rfl, ?hy13⟩) hHeld ?rest14
        case hy13 => (intro w hSw; (try dsimp only at hSw); go_simp; (try with_reducible rfl))
        try simp only [Act.put, List.setIfInBounds_toArray, List.set_cons_zero, List.set_cons_succ]
        refine wpAnyH_take (i := 5) (oi := _) (v := ?v15) rfl (by kernel_rfl) (by kernel_rfl) (by kernel_rfl) (fun _ _ _ h => h) (Or.inl ⟨by rfl, ?hy16⟩) hHeld ?rest17
        case hy16 => (intro w hSw; (try dsimp only at hSw); go_simp; (try with_reducible rfl))
        try simp only [Act.put, List.setIfInBounds_toArray, List.set_cons_zero, List.set_cons_succ]
        refine wpAnyH_ready (rs := [4]) (by kernel_rfl) (by simp) ?_
        refine AllReadyH.cons (o := _) rfl (fun K hK => ?stp81) ?more82
        case stp81 =>
          go_simp
          refine (q7 _ Az cz (hRz _ (by with_reducible repeat (first | exact Below.refl _ _ | assumption | refine below_step ?_ (by assumption) | refine Below.drew ?_ | refine below_drewN ?_ _ | refine below_alloc ?_ _ | refine Below.setCell ?_ (by simp; try omega) _)))).mono ?_
          rintro e w10 ⟨rfl, hx10⟩
          have hb10 : Below w9.heap.size w9 w10 := (by with_reducible repeat (first | exact Below.refl _ _ | assumption | refine below_step ?_ (by assumption) | refine Below.drew ?_ | refine below_drewN ?_ _ | refine below_alloc ?_ _ | refine Below.setCell ?_ (by simp; try omega) _))
          (try go_wp2_with fail)
          refine hK.out _ _ ?hS83 (fun hHeld2 => ?rest84)
          case hS83 => (exact hS _ hb10)
          clear hK K hHeld
          have hHeld := hHeld2
          clear hHeld2
          try simp only [Act.put, List.setIfInBounds_toArray, List.set_cons_zero, List.set_cons_succ]
          refine wpAnyH_ready (rs := [6]) (by kernel_rfl) (by simp) ?_
          refine AllReadyH.cons (o := _) rfl (fun K hK => ?stp77) ?more78
          case stp77 =>
            go_simp
            refine (q5 _ (hRx _ (by with_reducible repeat (first | exact Below.refl _ _ | assumption | refine below_step ?_ (by assumption) | refine Below.drew ?_ | refine below_drewN ?_ _ | refine below_alloc ?_ _ | refine Below.setCell ?_ (by simp; try omega) _)))).mono ?_
            rintro e w11 ⟨rfl, hx11⟩
            have hb11 : Below w9.heap.size w9 w11 := (by with_reducible repeat (first | exact Below.refl _ _ | assumption | refine below_step ?_ (by assumption) | refine Below.drew ?_ | refine below_drewN ?_ _ | refine below_alloc ?_ _ | refine Below.setCell ?_ (by simp; try omega) _))
            (try go_wp2_with fail)
            refine hK.out _ _ ?hS79 (fun hHeld2 => ?rest80)
            case hS79 => (exact hS _ hb11)
            clear hK K hHeld
            have hHeld := hHeld2
            clear hHeld2
            try simp only [Act.put, List.setIfInBounds_toArray, List.set_cons_zero, List.set_cons_succ]
            refine wpAnyH_take (i := 7) (oi := _) (v := ?v48) rfl (by kernel_rfl) (by kernel_rfl) (by kernel_rfl) (fun _ _ _ h => h) (Or.inl ⟨by rfl, ?hy49⟩) hHeld ?rest50
            case hy49 => (intro w hSw; (try dsimp only at hSw); go_simp; (try with_reducible rfl))
            try simp only [Act.put, List.setIfInBounds_toArray, List.set_cons_zero, List.set_cons_succ]
            refine wpAnyH_take (i := 8) (oi := _) (v := ?v51) rfl (by kernel_rfl) (by kernel_rfl) (by kernel_rfl) (fun _ _ _ h => h) (Or.inl ⟨by rfl, ?hy52⟩) hHeld ?rest53
            case hy52 => (intro w hSw; (try dsimp only at hSw); go_simp; (try with_reducible rfl))
            try simp only [Act.put, List.setIfInBounds_toArray, List.set_cons_zero, List.set_cons_succ]
            refine wpAnyH_take (i := 9) (oi := _) (v := ?v54) rfl (by kernel_rfl) (by kernel_rfl) (by kernel_rfl) (fun _ _ _ h => h) (Or.inl ⟨by rfl, ?hy55⟩) hHeld ?rest56
            case hy55 => (intro w hSw; (try dsimp only at hSw); go_simp; (try with_reducible rfl))
            try simp only [Act.put, List.setIfInBounds_toArray, List.set_cons_zero, List.set_cons_succ]
            refine wpAnyH_take (i := 10) (oi := _) (v := ?v57) rfl (by kernel_rfl) (by kernel_rfl) (by kernel_rfl) (fun _ _ _ h => h) (Or.inl ⟨by rfl, ?hy58⟩) hHeld ?rest59
            case hy58 => (intro w hSw; (try dsimp only at hSw); go_simp; (try with_reducible rfl))
            try simp only [Act.put, List.setIfInBounds_toArray, List.set_cons_zero, List.set_cons_succ]
            refine wpAnyH_take (i := 12) (oi := _) (v := ?v60) rfl (by kernel_rfl) (by kernel_rfl) (by kernel_rfl) (fun _ _ _ h => h) (Or.inl ⟨by rfl, ?hy61⟩) hHeld ?rest62
            case hy61 => (intro w hSw; (try dsimp only at hSw); go_simp; (try with_reducible rfl))
            try simp only [Act.put, List.setIfInBounds_toArray, List.set_cons_zero, List.set_cons_succ]
            refine wpAnyH_take (i := 13) (oi := _) (v := ?v63) rfl (by kernel_rfl) (by kernel_rfl) (by kernel_rfl) (fun _ _ _ h => h) (Or.inl ⟨by rfl, ?hy64⟩) hHeld ?rest65
            case hy64 => (intro w hSw; (try dsimp only at hSw); go_simp; (try with_reducible rfl))
            try simp only [Act.put, List.setIfInBounds_toArray, List.set_cons_zero, List.set_cons_succ]
            refine wpAnyH_take (i := 14) (oi := _) (v := ?v66) rfl (by kernel_rfl) (by kernel_rfl) (by kernel_rfl) (fun _ _ _ h => h) (Or.inl ⟨by rfl, ?hy67⟩) hHeld ?rest68
            case hy67 => (intro w hSw; (try dsimp only at hSw); go_simp; (try with_reducible rfl))
            try simp only [Act.put, List.setIfInBounds_toArray, List.set_cons_zero, List.set_cons_succ]
            refine wpAnyH_ready (rs := [11, 15]) (by kernel_rfl) (by simp) ?_
            refine AllReadyH.cons (o := _) rfl (fun K hK => ?stp69) ?more70
            case stp69 =>
              go_simp
              refine (q8 _ Az cz (hRz _ (by with_reducible repeat (first | exact Below.refl _ _ | assumption | refine below_step ?_ (by assumption) | refine Below.drew ?_ | refine below_drewN ?_ _ | refine below_alloc ?_ _ | refine Below.setCell ?_ (by simp; try omega) _)))).mono ?_
              rintro e w12 ⟨v12, rfl, O12, hx12⟩
              obtain ⟨An, cn, rfl⟩ := own_form O12
              have hb12 : Below w9.heap.size w9 w12 := (by with_reducible repeat (first | exact Below.refl _ _ | assumption | refine below_step ?_ (by assumption) | refine Below.drew ?_ | refine below_drewN ?_ _ | refine below_alloc ?_ _ | refine Below.setCell ?_ (by simp; try omega) _))
              have RN := Rd.of_own O12
              (try go_wp2_with fail)
              refine hK.out _ _ ?hS71 (fun hHeld2 => ?rest72)
              case hS71 => (exact hS _ hb12)
              clear hK K hHeld
              have hHeld := hHeld2
              clear hHeld2
              try simp only [Act.put, List.setIfInBounds_toArray, List.set_cons_zero, List.set_cons_succ]
              refine wpAnyH_ready (rs := [15]) (by kernel_rfl) (by simp) ?_
              refine AllReadyH.cons (o := _) rfl (fun K hK => ?stp29) ?more30
              case stp29 =>
                go_simp
                refine hK.out _ _ ?hS31 (fun hHeld2 => ?rest32)
                case hS31 => (exact hS _ (by with_reducible repeat (first | exact Below.refl _ _ | assumption | refine below_step ?_ (by assumption) | refine Below.drew ?_ | refine below_drewN ?_ _ | refine below_alloc ?_ _ | refine Below.setCell ?_ (by simp; try omega) _)))
                clear hK K hHeld
                have hHeld := hHeld2
                clear hHeld2
                try simp only [Act.put, List.setIfInBounds_toArray, List.set_cons_zero, List.set_cons_succ]
                refine wpAnyH_ready (rs := [16]) (by kernel_rfl) (by simp) ?_
                refine AllReadyH.cons (o := _) rfl (fun K hK => ?stp25) ?more26
                case stp25 =>
                  go_simp
                  refine (nums_any _ _ _ _ [(L.length : Int), 0, 0, 0] _ _ ((RN.below (show Below w12.heap.size w12 (w12.alloc (.cells #[.int .i64 (L.length : Int), .int .i64 0, .int .i64 0, .int .i64 0] 2)) from (by repeat (first | exact Below.refl _ _ | refine below_step ?_ (by assumption) | assumption | refine Below.drew ?_ | refine below_drewN ?_ _ | refine below_alloc ?_ _ | refine Below.setCell ?_ (by simp; try omega) _)))).more (show w12.heap.size ≤ (w12.alloc (.cells #[.int .i64 (L.length : Int), .int .i64 0, .int .i64 0, .int .i64 0] 2)).heap.size by rw [World.size_alloc]; omega)) (rd_of_cp (L := [(L.length : Int), 0, 0, 0]) (CP.made w12 [.int .i64 (L.length : Int), .int .i64 0, .int .i64 0, .int .i64 0] 2) (by rw [World.size_alloc]; omega)) (by simp)).mono ?_
                  rintro e w13 ⟨rfl, n13, rfl⟩
                  (try go_wp2_with fail)
                  refine hK.out _ _ ?hS27 (fun hHeld2 => ?rest28)
                  case hS27 => (exact hS _ (below_drewN (by with_reducible repeat (first | exact Below.refl _ _ | assumption | refine below_step ?_ (by assumption) | refine Below.drew ?_ | refine below_drewN ?_ _ | refine below_alloc ?_ _ | refine Below.setCell ?_ (by simp; try omega) _)) _))
                  clear hK K hHeld
                  have hHeld := hHeld2
                  clear hHeld2
                  try simp only [Act.put, List.setIfInBounds_toArray, List.set_cons_zero, List.set_cons_succ]
                  refine wpAnyH_take (i := 17) (oi := _) (v := ?v18) rfl (by kernel_rfl) (by kernel_rfl) (by kernel_rfl) (fun _ _ _ h => h) (Or.inl ⟨by rfl, ?hy19⟩) hHeld ?rest20
                  case hy19 => (intro w hSw; (try dsimp only at hSw); go_simp; (try with_reducible rfl))
                  try simp only [Act.put, List.setIfInBounds_toArray, List.set_cons_zero, List.set_cons_succ]
                  refine wpAnyH_ready (rs := [18]) (by kernel_rfl) (by simp) ?_
                  refine AllReadyH.cons (o := _) rfl (fun K hK => ?stp21) ?more22
                  case stp21 =>
                    go_simp
                    refine hK.out _ _ ?hS23 (fun hHeld2 => ?rest24)
                    case hS23 => (exact hS _ (below_drewN (by with_reducible repeat (first | exact Below.refl _ _ | assumption | refine below_step ?_ (by assumption) | refine Below.drew ?_ | refine below_drewN ?_ _ | refine below_alloc ?_ _ | refine Below.setCell ?_ (by simp; try omega) _)) _))
                    clear hK K hHeld
                    have hHeld := hHeld2
                    clear hHeld2
                    try simp only [Act.put, List.setIfInBounds_toArray, List.set_cons_zero, List.set_cons_succ]
                    refine wpAnyH_done (by kernel_rfl) ?_ _
                    go_wp2
                    go_ret
                    exact ⟨rfl, hB9.trans (Below.mono (show Below w9.heap.size w9 _ from below_drewN (by with_reducible repeat (first | exact Below.refl _ _ | assumption | refine below_step ?_ (by assumption) | refine Below.drew ?_ | refine below_drewN ?_ _ | refine below_alloc ?_ _ | refine Below.setCell ?_ (by simp; try omega) _)) _) hB9.size)⟩
                  exact AllReadyH.nil
                exact AllReadyH.nil
              exact AllReadyH.nil
            refine AllReadyH.cons (o := _) rfl (fun K hK => ?stp73) ?more74
            case stp73 =>
              go_simp
              refine hK.out _ _ ?hS75 (fun hHeld2 => ?rest76)
              case hS75 => (exact hS _ (by with_reducible repeat (first | exact Below.refl _ _ | assumption | refine below_step ?_ (by assumption) | refine Below.drew ?_ | refine below_drewN ?_ _ | refine below_alloc ?_ _ | refine Below.setCell ?_ (by simp; try omega) _)))
              clear hK K hHeld
              have hHeld := hHeld2
              clear hHeld2
              try simp only [Act.put, List.setIfInBounds_toArray, List.set_cons_zero, List.set_cons_succ]
              refine wpAnyH_ready (rs := [11]) (by kernel_rfl) (by simp) ?_
              refine AllReadyH.cons (o := _) rfl (fun K hK => ?stp44) ?more45
              case stp44 =>
                go_simp
                refine (q8 _ Az cz (hRz _ (by with_reducible repeat (first | exact Below.refl _ _ | assumption | refine below_step ?_ (by assumption) | refine Below.drew ?_ | refine below_drewN ?_ _ | refine below_alloc ?_ _ | refine Below.setCell ?_ (by simp; try omega) _)))).mono ?_
                rintro e w12 ⟨v12, rfl, O12, hx12⟩
                obtain ⟨An, cn, rfl⟩ := own_form O12
                have hb12 : Below w9.heap.size w9 w12 := (by with_reducible repeat (first | exact Below.refl _ _ | assumption | refine below_step ?_ (by assumption) | refine Below.drew ?_ | refine below_drewN ?_ _ | refine below_alloc ?_ _ | refine Below.setCell ?_ (by simp; try omega) _))
                have RN := Rd.of_own O12
                have CN : CP w12 w11.heap.size [.int .i64 (L.length : Int), .int .i64 0, .int .i64 0, .int .i64 0] := CP.below (CP.made w11 [.int .i64 (L.length : Int), .int .i64 0, .int .i64 0, .int .i64 0] 2) hx12 (by simp)
                have hgN : w11.heap.size < w12.heap.size := (by have := hx12.size; simp at this; omega)
                (try go_wp2_with fail)
                refine hK.out _ _ ?hS46 (fun hHeld2 => ?rest47)
                case hS46 => (exact hS _ hb12)
                clear hK K hHeld
                have hHeld := hHeld2
                clear hHeld2
                try simp only [Act.put, List.setIfInBounds_toArray, List.set_cons_zero, List.set_cons_succ]
                refine wpAnyH_ready (rs := [16]) (by kernel_rfl) (by simp) ?_
                refine AllReadyH.cons (o := _) rfl (fun K hK => ?stp40) ?more41
                case stp40 =>
                  go_simp
                  refine (nums_any _ _ _ _ [(L.length : Int), 0, 0, 0] _ _ (RN) (rd_of_cp (L := [(L.length : Int), 0, 0, 0]) CN hgN) (by simp)).mono ?_
                  rintro e w13 ⟨rfl, n13, rfl⟩
                  (try go_wp2_with fail)
                  refine hK.out _ _ ?hS42 (fun hHeld2 => ?rest43)
                  case hS42 => (exact hS _ (below_drewN (by with_reducible repeat (first | exact Below.refl _ _ | assumption | refine below_step ?_ (by assumption) | refine Below.drew ?_ | refine below_drewN ?_ _ | refine below_alloc ?_ _ | refine Below.setCell ?_ (by simp; try omega) _)) _))
                  clear hK K hHeld
                  have hHeld := hHeld2
                  clear hHeld2
                  try simp only [Act.put, List.setIfInBounds_toArray, List.set_cons_zero, List.set_cons_succ]
                  refine wpAnyH_take (i := 17) (oi := _) (v := ?v33) rfl (by kernel_rfl) (by kernel_rfl) (by kernel_rfl) (fun _ _ _ h => h) (Or.inl ⟨by rfl, ?hy34⟩) hHeld ?rest35
                  case hy34 => (intro w hSw; (try dsimp only at hSw); go_simp; (try with_reducible rfl))
                  try simp only [Act.put, List.setIfInBounds_toArray, List.set_cons_zero, List.set_cons_succ]
                  refine wpAnyH_ready (rs := [18]) (by kernel_rfl) (by simp) ?_
                  refine AllReadyH.cons (o := _) rfl (fun K hK => ?stp36) ?more37
                  case stp36 =>
                    go_simp
                    refine hK.out _ _ ?hS38 (fun hHeld2 => ?rest39)
                    case hS38 => (exact hS _ (below_drewN (by with_reducible repeat (first | exact Below.refl _ _ | assumption | refine below_step ?_ (by assumption) | refine Below.drew ?_ | refine below_drewN ?_ _ | refine below_alloc ?_ _ | refine Below.setCell ?_ (by simp; try omega) _)) _))
                    clear hK K hHeld
                    have hHeld := hHeld2
                    clear hHeld2
                    try simp only [Act.put, List.setIfInBounds_toArray, List.set_cons_zero, List.set_cons_succ]
                    refine wpAnyH_done (by kernel_rfl) ?_ _
                    go_wp2
                    go_ret
                    exact ⟨rfl, hB9.trans (Below.mono (show Below w9.heap.size w9 _ from below_drewN (by with_reducible repeat (first | exact Below.refl _ _ | assumption | refine below_step ?_ (by assumption) | refine Below.drew ?_ | refine below_drewN ?_ _ | refine below_alloc ?_ _ | refine Below.setCell ?_ (by simp; try omega) _)) _) hB9.size)⟩
                  exact AllReadyH.nil
                exact AllReadyH.nil
              exact AllReadyH.nil
            exact AllReadyH.nil
          exact AllReadyH.nil
        exact AllReadyH.nil

theorem own : ownKnob Try.prog.godebug = none := by kernel_rfl
theorem laidOut : laidOutB Try.prog = true := by kernel_rfl
theorem params : Try.f4.params.toList.all (fun t => Try.prog.readableRec t && decide (t < Try.prog.types.size)) = true := by kernel_rfl

set_option maxRecDepth 100000 in
theorem lifted (os : Os) (started : os.Started) (H : Type) (enc : TypeId × Value → H) :
    ReturnsInHanded {} Try.checked os 4 .any (Rows.fnDiscsSpec.pre6 enc Try.prog Try.f4 Rows.fnDiscsRow.domain false) (Rows.fnDiscsSpec.post enc Try.prog Try.f4 false true false false) := by
  refine returnsInHanded_of_change (C := Try.checked) own started (by kernel_rfl) Try.func4
    (ChangeSpec.witness6 (enc := enc) (C := Try.checked) false ⟨#[], #[.slice none 0 0], []⟩ 8 (by kernel_rfl) (by kernel_rfl) (by kernel_rfl) (by kernel_rfl)) ?_
  intro W base args ds gs before hval0 hW hcnd _
  have hval : ∀ (j : Nat) t v, Try.f4.params[j]? = some t → args[j]? = some v → Value.okWide Try.prog W .any base t v := hval0
  have hW' := hW
  obtain ⟨p, q, hA0, hV, rfl, hfz, hnd⟩ := hW
  have hA : DataW.TrodAll enc Try.prog W 0 (fun _ => true) true Try.f4.params.toList args.toList ds p := hA0
  rw [Try.params4] at hA hval
  obtain ⟨v0, d0, rfl, rfl, h0⟩ := trodAll_one hA
  obtain ⟨rfl, rfl⟩ := trodVars_none hV
  clear hA0 hval0
  suffices hwalk : Calls Try.prog 4 #[v0] W (fun e W' => e = .returned (.bool true) ∧ Below W.heap.size W W') by
    refine hwalk.mono fun e W' ⟨he, hb⟩ => ?_
    subst he
    exact ⟨_, rfl, law_post laidOut rfl rfl Try.underlying4 params hW' rfl hb⟩
  obtain ⟨a0, n0, c0, rfl⟩ := okWide_slice Try.underlying22 (hval 0 22 v0 rfl rfl)
  obtain ⟨fuel, hf⟩ := h0
  obtain ⟨A, c, l, e, hR, hm, _⟩ := open_flat (f := fU) (ok := fun _ => True) (size := 1) Try.underlying22 (by kernel_rfl) (by omega) fU_len (fun fuel cs x h => by
    obtain ⟨k, rfl, _, hw⟩ := DataW.trod_int Try.underlying5 h
    simp only [Lit.wf, Bool.and_eq_true, decide_eq_true_eq] at hw
    have h1 : (0 : Int) ≤ k := hw.1
    have h2 : k ≤ 255 := hw.2
    refine ⟨UInt8.ofNat k.toNat, ?_, trivial⟩
    have h3 : ((UInt8.ofNat k.toNat).toNat : Int) = k := by rw [UInt8.toNat_ofNat']; omega
    rw [fU, h3]) hf
  simp only [Value.cells, List.cons.injEq, and_true] at e
  rw [e]
  exact walk A c l W hR hm

theorem proved : Rows.FnDiscsSaid :=
  OpenClaim.holds_of_wide 4 Try.f4 rfl rfl rfl rfl rfl rfl rfl ⟨rfl, rfl, rfl, rfl, rfl⟩ rfl rfl rfl rfl rfl (by kernel_rfl) Try.func4 (by kernel_rfl)
    (of_decide_eq_true (by kernel_rfl)) (by unfold Func.isWrapper; first | (rw [if_pos (by decide +kernel)]; kernel_rfl) | (rw [if_neg (by decide +kernel)]; exact ⟨rfl, rfl⟩))
    (fun os started H enc _ => lifted os started H enc)
#print axioms proved
end Go.Proofs.Yticnmljahnnhcaa.fnDiscs
