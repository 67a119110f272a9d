/- The law FnDeviceOrder holds: for every input that the row lets in it returns true and leaves its arguments alone. No condition. -/
import Derived.Test.YticnmljahnnhcaaRows
import Derived.Test.YticnmljahnnhcaaLib
import Derived.Test.YticnmljahnnhcaaOpen
import Derived.Test.YticnmljahnnhcaaD5
import Derived.Test.YticnmljahnnhcaaE6
import Derived.Test.YticnmljahnnhcaaW72
import Derived.ProofKit
import Derived.OpenShut
import Derived.Deep.Slices
import Derived.Lib.SmallJoins
namespace Go.Proofs.Yticnmljahnnhcaa.fnDeviceOrder
open Go.ChangeShapes Go.WideShapes Go.ChangeAt Go.RowKit Go.Proofs.Yticnmljahnnhcaa Go.Deep Go.WideMaps Go.WideElems
open Go.ChangeMaps (setBlock shut_map_nil open_string shut_string keptBut_setBlock frozen?_setBlock heap_setBlock_same)
set_option linter.unusedVariables false

set_option maxRecDepth 100000 in
set_option maxHeartbeats 2000000 in
theorem walk (A : Option Addr) (cc : Nat) (l : List UInt8) (w : World) (hr : Rd w w.heap.size 1 A l.length (flat fU l)) (hm : l.length ≤ maxLen) : Calls Try.prog 3 #[.slice A l.length cc] w fun e W' => e = .returned (.bool true) ∧ Below w.heap.size w W' := by
  have lg := fun W => long_any A l.length cc W hm
  by_cases hlong : 1048576 < l.length
  · have hdl : decide (1048576 < l.length) = true := decide_eq_true hlong
    rw [hdl] at lg
    clear hdl hlong
    go_enter Try.func3, Try.ntmps3
    go_wp2_with (go_at_call 9; (with_reducible refine (lg _).mono ?_); rintro e w0 ⟨rfl, rfl⟩)
    go_ret
    exact ⟨rfl, Below.refl _ _⟩
  have hdl : decide (1048576 < l.length) = false := decide_eq_false hlong
  rw [hdl] at lg
  clear hdl hlong
  have dr := drawNewDevice_any A l.length cc l w rfl hr hm
  go_enter Try.func3, Try.ntmps3
  go_wp2_with (first
    | (go_at_call 9; (with_reducible refine (lg _).mono ?_); rintro e w0 ⟨rfl, rfl⟩)
    | (go_at_call 10; (with_reducible refine dr.mono ?_); rintro e w1 ⟨c, h, p, s, k, r, L, v, rfl, hc, hh, hp, hs, hk, hrr, O1, hL, hLok, hx1⟩; obtain ⟨b, vc, rfl, hb0, hb1⟩ := World.ownsRow.form O1 hL.1))
  clear dr lg
  have FD := BX.made w1 26 [.int .i64 c, .int .i64 h, .int .i64 p, .int .i64 s, .slice (some ⟨b, 0, none⟩) L.length vc]
  have O2 := OO.al O1 (.cells #[.int .i64 c, .int .i64 h, .int .i64 p, .int .i64 s, .slice (some ⟨b, 0, none⟩) L.length vc] 26)
  have hB2 : Below w.heap.size w (w1.alloc (.cells #[.int .i64 c, .int .i64 h, .int .i64 p, .int .i64 s, .slice (some ⟨b, 0, none⟩) L.length vc] 26)) := hx1.alloc hx1.size _
  generalize w1.alloc (.cells #[.int .i64 c, .int .i64 h, .int .i64 p, .int .i64 s, .slice (some ⟨b, 0, none⟩) L.length vc] 26) = w2 at FD O2 hB2 ⊢
  generalize w1.heap.size = gd at FD ⊢
  have hn : L.length ≤ 1048576 := by omega
  have hok : ∀ x ∈ L, okSector x := fun x hx => by
    have := hLok x hx
    exact ⟨by unfold maxLen; omega, by omega, by omega⟩
  have nd := newDev_any c h p s (some ⟨b, 0, none⟩) vc L k r w2 (Rd.of_own O2) hn hok
  refine nd.mono ?_
  rintro e w3 ⟨c', h', p', s', k', r', x, A4, n4, c4, A7, n7, c7, rfl, hx3, hcase⟩
  have hB3 := hB2.trans (hx3.mono hB2.size)
  rcases hcase with hx0 | ⟨rfl, hd, hv, rfl, rfl, rfl, rfl, rfl, rfl, rfl, rfl, O4, ⟨c0, O7⟩, hcap⟩
  · go_wp2
    go_ret
    exact ⟨rfl, (by repeat (first | exact Below.refl _ _ | refine below_step ?_ (by assumption) | assumption | refine Below.drew ?_ | refine below_drewN ?_ _ | refine below_alloc ?_ _ | refine Below.setCell ?_ (by simp; try omega) _))⟩
  obtain ⟨hV, hml, hL128, hp0, hord⟩ := newDev_law hd hv
  replace FD := FD.below hx3 FD.lt
  have hf0 := FD.lt
  generalize nvM true c h p k r L.length = m at O7 hcap hV hml hord ⊢
  have hr0 := nvOk_r hv
  have hmn : m.length ≤ 1048576 := by omega
  have hmN : (m.length : Int) ≤ (L.length : Int) := by omega
  have F6 := BX.made w3 31 [.int .i64 c, .int .i64 h, .int .i64 p, .int .i64 s, .slice A4 L.length c4, .int .i64 k, .int .i64 r, .slice A7 m.length c7]
  have R4 := Rd.of_own (OO.al O4 (.cells #[.int .i64 c, .int .i64 h, .int .i64 p, .int .i64 s, .slice A4 L.length c4, .int .i64 k, .int .i64 r, .slice A7 m.length c7] 31))
  have R7 := Rd.of_own (OO.al O7 (.cells #[.int .i64 c, .int .i64 h, .int .i64 p, .int .i64 s, .slice A4 L.length c4, .int .i64 k, .int .i64 r, .slice A7 m.length c7] 31))
  replace FD := FD.al (.cells #[.int .i64 c, .int .i64 h, .int .i64 p, .int .i64 s, .slice A4 L.length c4, .int .i64 k, .int .i64 r, .slice A7 m.length c7] 31)
  have hB4 : Below w.heap.size w (w3.alloc (.cells #[.int .i64 c, .int .i64 h, .int .i64 p, .int .i64 s, .slice A4 L.length c4, .int .i64 k, .int .i64 r, .slice A7 m.length c7] 31)) := hB3.alloc hB3.size _
  have hgd : gd ≠ w3.heap.size := by omega
  go_wp2
  generalize w3.alloc (.cells #[.int .i64 c, .int .i64 h, .int .i64 p, .int .i64 s, .slice A4 L.length c4, .int .i64 k, .int .i64 r, .slice A7 m.length c7] 31) = w4 at F6 R4 R7 FD hB4 ⊢
  generalize w3.heap.size = g6 at F6 ⊢
  have q1 := fun (W : World) h1 h2 => spec_ValidDevice_any c h p s A4 c4 L k r A7 c7 m W h1 hn hok h2 hmn
  have q2 := fun (W : World) h1 h2 => impl_DeviceBlocks_any c h p s A4 c4 L k r A7 c7 m W h1 hn hok h2 hmn hcap
  have q3 := fun (b : Int) (W : World) h1 h2 => impl_SectorOf_any c h p s A4 c4 L k r A7 c7 m b W h1 hn hok h2 hmn hcap
  rw [hd] at q1 q2 q3
  rw [hV] at q1 q2 q3
  have hsub : IntKind.i64.wrap ((L.length : Int) - r) = (m.length : Int) := by rw [hml]; exact IntWalk.i64_in _ (by omega)
  have HSUB := Lib.hid hsub
  have HML := Lib.hid hml
  clear hsub hml
  have f0 : (_ : Option Value) = some (.int .i64 c) := FD.cell 0 (by simp)
  have f1 : (_ : Option Value) = some (.int .i64 h) := FD.cell 1 (by simp)
  have f2 : (_ : Option Value) = some (.int .i64 p) := FD.cell 2 (by simp)
  have f3 : (_ : Option Value) = some (.int .i64 s) := FD.cell 3 (by simp)
  have f4 : (_ : Option Value) = some (.slice (some ⟨b, 0, none⟩) L.length vc) := FD.cell 4 (by simp)
  have x0 : (_ : Option Value) = some (.int .i64 c) := F6.cell 0 (by simp)
  have x1 : (_ : Option Value) = some (.int .i64 h) := F6.cell 1 (by simp)
  have x2 : (_ : Option Value) = some (.int .i64 p) := F6.cell 2 (by simp)
  have x3 : (_ : Option Value) = some (.int .i64 s) := F6.cell 3 (by simp)
  have x4 : (_ : Option Value) = some (.slice A4 L.length c4) := F6.cell 4 (by simp)
  have x5 : (_ : Option Value) = some (.int .i64 k) := F6.cell 5 (by simp)
  have x6 : (_ : Option Value) = some (.int .i64 r) := F6.cell 6 (by simp)
  have x7 : (_ : Option Value) = some (.slice A7 m.length c7) := F6.cell 7 (by simp)

  have kf0 := gw_cell f0
  have kf1 := gw_cell f1
  have kf2 := gw_cell f2
  have kf3 := gw_cell f3
  have kf4 := gw_cell f4
  have kx0 := gw_cell x0
  have kx1 := gw_cell x1
  have kx2 := gw_cell x2
  have kx3 := gw_cell x3
  have kx4 := gw_cell x4
  have kx5 := gw_cell x5
  have kx6 := gw_cell x6
  have kx7 := gw_cell x7

  have p1 := fun (p' : Regrown) => qb_below p' (q1 (Sort.grow (redrawn w4 p'.d) p'.os) (R4.gw p') (R7.gw p'))
  have p2 := fun (p' : Regrown) => qb_below p' (q2 (Sort.grow (redrawn w4 p'.d) p'.os) (R4.gw p') (R7.gw p'))
  have HE := Lib.hid (show dvN true m.length = (m.length : Int) from rfl)
  have hsub := HSUB.out
  rw [HE.out] at p2
  refine wp_region_quiet_below (by kernel_rfl) (by kernel_rfl) ?_
  repeat (go_big_quiet_step ((first | with_reducible exact p1 _ | with_reducible exact p2 _)))
  refine wpQuiet_nil ?_
  intro _ hw'
  obtain ⟨pq, hw''⟩ := hw'
  subst hw''
  have hx5 := gw_below w4 pq
  clear p1 p2 f0 f1 f2 f3 f4 x0 x1 x2 x3 x4 x5 x6 x7 kf0 kf1 kf2 kf3 kf4 kx0 kx1 kx2 kx3 kx4 kx5 kx6 kx7
  replace FD := FD.below hx5 FD.lt
  replace F6 := F6.below hx5 F6.lt
  replace R4 := (R4.below hx5).more hx5.size
  replace R7 := (R7.below hx5).more hx5.size
  have hB5 := hB4.trans (hx5.mono hB4.size)
  generalize Sort.grow (redrawn w4 pq.d) pq.os = w5 at hx5 FD F6 R4 R7 hB5 ⊢
  go_wp2
  go_loopw [8] (fun i wr => ∃ b' : Nat, b' ≤ m.length ∧ i = .int .i64 b' ∧ Below w5.heap.size w5 wr) (fun i _ => m.length - (intOf i).toNat)
  case atStart => exact ⟨0, Nat.zero_le _, rfl, Below.refl _ _⟩
  case round =>
    obtain ⟨j, hj, rfl, hbr⟩ := hrel
    replace FD := FD.below hbr FD.lt
    replace F6 := F6.below hbr F6.lt
    replace R4 := (R4.below hbr).more hbr.size
    replace R7 := (R7.below hbr).more hbr.size
    have hq2 := q2 wr R4 R7
    rw [HE.out] at hq2
    have f0 : (_ : Option Value) = some (.int .i64 c) := FD.cell 0 (by simp)
    have f1 : (_ : Option Value) = some (.int .i64 h) := FD.cell 1 (by simp)
    have f2 : (_ : Option Value) = some (.int .i64 p) := FD.cell 2 (by simp)
    have f3 : (_ : Option Value) = some (.int .i64 s) := FD.cell 3 (by simp)
    have f4 : (_ : Option Value) = some (.slice (some ⟨b, 0, none⟩) L.length vc) := FD.cell 4 (by simp)
    have x0 : (_ : Option Value) = some (.int .i64 c) := F6.cell 0 (by simp)
    have x1 : (_ : Option Value) = some (.int .i64 h) := F6.cell 1 (by simp)
    have x2 : (_ : Option Value) = some (.int .i64 p) := F6.cell 2 (by simp)
    have x3 : (_ : Option Value) = some (.int .i64 s) := F6.cell 3 (by simp)
    have x4 : (_ : Option Value) = some (.slice A4 L.length c4) := F6.cell 4 (by simp)
    have x5 : (_ : Option Value) = some (.int .i64 k) := F6.cell 5 (by simp)
    have x6 : (_ : Option Value) = some (.int .i64 r) := F6.cell 6 (by simp)
    have x7 : (_ : Option Value) = some (.slice A7 m.length c7) := F6.cell 7 (by simp)

    by_cases hlt : j < m.length
    · have hlti : (j : Int) < (m.length : Int) := by omega
      have hltL : (j : Int) < (L.length : Int) := by omega
      obtain ⟨ho0, ho1, ho2⟩ := hord j hlt
      have hin : inB (j : Int) 0 ((m.length : Int) - 1) = true := by simp only [inB, Bool.and_eq_true, decide_eq_true_eq]; omega
      have hso := soA_3 (m := m) (b := j) hin hlt
      have hask := askC_3 (n := m.length) hin
      rw [show m.getD j 0 = m[j] by simp [hlt]] at ho0 ho1 ho2
      have q3' := fun (W : World) h1 h2 => q3 (j : Int) W h1 h2
      rw [hso, hask] at q3'
      obtain ⟨y, hy⟩ : ∃ y, m[j] = y := ⟨_, rfl⟩
      rw [hy] at q3' ho0 ho1 ho2
      obtain ⟨z, hz⟩ : ∃ z, (j : Int).tdiv p = z := ⟨_, rfl⟩
      have hwz : IntKind.i64.wrap z = z := IntWalk.i64_in _ (by
        have h1 := Int.tdiv_nonneg (show (0 : Int) ≤ (j : Int) by omega) (show 0 ≤ p by omega)
        have h2 := Int.tdiv_le_self p (show (0 : Int) ≤ (j : Int) by omega)
        omega)
      rw [hz] at ho2
      have hpn : ¬ p = 0 := by omega
      have hpn2 : (p == 0) = false := by simp; omega
      have hjn : IntKind.i64.wrap ((j : Int) + 1) = ((j + 1 : Nat) : Int) := by rw [IntWalk.i64_in _ (by omega)]; rfl
      clear hso hask hin hord hy hV hd hv
      go_wp2_with (first
        | (go_at_call 14; have := mk1; (with_reducible refine (q3' _ R4 R7).mono ?_); rintro e w7 ⟨rfl, hx7⟩; replace FD := FD.below hx7 FD.lt; replace hbr := hbr.trans (hx7.mono hbr.size); clear f0 f1 f2 f3 f4; have f0 : (_ : Option Value) = some (.int .i64 c) := FD.cell 0 (by simp); have f1 : (_ : Option Value) = some (.int .i64 h) := FD.cell 1 (by simp); have f2 : (_ : Option Value) = some (.int .i64 p) := FD.cell 2 (by simp); have f3 : (_ : Option Value) = some (.int .i64 s) := FD.cell 3 (by simp); have f4 : (_ : Option Value) = some (.slice (some ⟨b, 0, none⟩) L.length vc) := FD.cell 4 (by simp); have mk2 := True.intro)
        | (go_at_call 13; (with_reducible refine hq2.mono ?_); rintro e w6 ⟨rfl, hx6⟩; replace FD := FD.below hx6 FD.lt; replace F6 := F6.below hx6 F6.lt; replace R4 := (R4.below hx6).more hx6.size; replace R7 := (R7.below hx6).more hx6.size; replace hbr := hbr.trans (hx6.mono hbr.size); clear f0 f1 f2 f3 f4 x0 x1 x2 x3 x4 x5 x6 x7; have f0 : (_ : Option Value) = some (.int .i64 c) := FD.cell 0 (by simp); have f1 : (_ : Option Value) = some (.int .i64 h) := FD.cell 1 (by simp); have f2 : (_ : Option Value) = some (.int .i64 p) := FD.cell 2 (by simp); have f3 : (_ : Option Value) = some (.int .i64 s) := FD.cell 3 (by simp); have f4 : (_ : Option Value) = some (.slice (some ⟨b, 0, none⟩) L.length vc) := FD.cell 4 (by simp); have x0 : (_ : Option Value) = some (.int .i64 c) := F6.cell 0 (by simp); have x1 : (_ : Option Value) = some (.int .i64 h) := F6.cell 1 (by simp); have x2 : (_ : Option Value) = some (.int .i64 p) := F6.cell 2 (by simp); have x3 : (_ : Option Value) = some (.int .i64 s) := F6.cell 3 (by simp); have x4 : (_ : Option Value) = some (.slice A4 L.length c4) := F6.cell 4 (by simp); have x5 : (_ : Option Value) = some (.int .i64 k) := F6.cell 5 (by simp); have x6 : (_ : Option Value) = some (.int .i64 r) := F6.cell 6 (by simp); have x7 : (_ : Option Value) = some (.slice A7 m.length c7) := F6.cell 7 (by simp); have mk1 := True.intro))
      go_quiet (fail)
      go_wp2
      go_roundw
      case rel => exact ⟨j + 1, by omega, by go_num, below_drewN hbr _⟩
      case measure => (simp [intOf] <;> omega)
    · obtain rfl : j = m.length := by omega
      go_wp2_with (go_at_call 13; (with_reducible refine hq2.mono ?_); rintro e w6 ⟨rfl, hx6⟩)
      go_ret
      exact ⟨rfl, hB5.trans ((hbr.trans (hx6.mono hbr.size)).mono hB5.size)⟩

theorem own : ownKnob Try.prog.godebug = none := by kernel_rfl
theorem laidOut : laidOutB Try.prog = true := by kernel_rfl
theorem params : Try.f3.params.toList.all (fun t => Try.prog.readableRec t && decide (t < Try.prog.types.size)) = true := by kernel_rfl

set_option maxRecDepth 100000 in
theorem lifted (os : Os) (started : os.Started) (H : Type) (enc : TypeId × Value → H) :
    ReturnsInHanded {} Try.checked os 3 .any (Rows.fnDeviceOrderSpec.pre6 enc Try.prog Try.f3 Rows.fnDeviceOrderRow.domain false) (Rows.fnDeviceOrderSpec.post enc Try.prog Try.f3 false true false false) := by
  refine returnsInHanded_of_change (C := Try.checked) own started (by kernel_rfl) Try.func3
    (ChangeSpec.witness6 (enc := enc) (C := Try.checked) false ⟨#[], #[.slice none 0 0], []⟩ 8 (by kernel_rfl) (by kernel_rfl) (by kernel_rfl) (by kernel_rfl)) ?_
  intro W base args ds gs before hval0 hW hcnd _
  have hval : ∀ (j : Nat) t v, Try.f3.params[j]? = some t → args[j]? = some v → Value.okWide Try.prog W .any base t v := hval0
  have hW' := hW
  obtain ⟨p, q, hA0, hV, rfl, hfz, hnd⟩ := hW
  have hA : DataW.TrodAll enc Try.prog W 0 (fun _ => true) true Try.f3.params.toList args.toList ds p := hA0
  rw [Try.params3] at hA hval
  obtain ⟨v0, d0, rfl, rfl, h0⟩ := trodAll_one hA
  obtain ⟨rfl, rfl⟩ := trodVars_none hV
  clear hA0 hval0
  suffices hwalk : Calls Try.prog 3 #[v0] W (fun e W' => e = .returned (.bool true) ∧ Below W.heap.size W W') by
    refine hwalk.mono fun e W' ⟨he, hb⟩ => ?_
    subst he
    exact ⟨_, rfl, law_post laidOut rfl rfl Try.underlying4 params hW' rfl hb⟩
  obtain ⟨a0, n0, c0, rfl⟩ := okWide_slice Try.underlying22 (hval 0 22 v0 rfl rfl)
  obtain ⟨fuel, hf⟩ := h0
  obtain ⟨A, c, l, e, hR, hm, _⟩ := open_flat (f := fU) (ok := fun _ => True) (size := 1) Try.underlying22 (by kernel_rfl) (by omega) fU_len (fun fuel cs x h => by
    obtain ⟨k, rfl, _, hw⟩ := DataW.trod_int Try.underlying5 h
    simp only [Lit.wf, Bool.and_eq_true, decide_eq_true_eq] at hw
    have h1 : (0 : Int) ≤ k := hw.1
    have h2 : k ≤ 255 := hw.2
    refine ⟨UInt8.ofNat k.toNat, ?_, trivial⟩
    have h3 : ((UInt8.ofNat k.toNat).toNat : Int) = k := by rw [UInt8.toNat_ofNat']; omega
    rw [fU, h3]) hf
  simp only [Value.cells, List.cons.injEq, and_true] at e
  rw [e]
  exact walk A c l W hR hm

theorem proved : Rows.FnDeviceOrderSaid :=
  OpenClaim.holds_of_wide 3 Try.f3 rfl rfl rfl rfl rfl rfl rfl ⟨rfl, rfl, rfl, rfl, rfl⟩ rfl rfl rfl rfl rfl (by kernel_rfl) Try.func3 (by kernel_rfl)
    (of_decide_eq_true (by kernel_rfl)) (by unfold Func.isWrapper; first | (rw [if_pos (by decide +kernel)]; kernel_rfl) | (rw [if_neg (by decide +kernel)]; exact ⟨rfl, rfl⟩))
    (fun os started H enc _ => lifted os started H enc)
#print axioms proved
end Go.Proofs.Yticnmljahnnhcaa.fnDeviceOrder
