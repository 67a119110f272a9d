/- The law FnPacked holds: for every input that the row lets in it returns true and leaves its arguments alone. No condition. -/
import Derived.Test.YtjahgknehamlpaaRows
import Derived.Test.YtjahgknehamlpaaLib
import Derived.Test.YtjahgknehamlpaaOpen
import Derived.Test.YtjahgknehamlpaaF1
import Derived.Test.YtjahgknehamlpaaF2
import Derived.Test.YtjahgknehamlpaaF3
import Derived.Test.YtjahgknehamlpaaW10
import Derived.Test.YtjahgknehamlpaaW13
import Derived.ProofKit
import Derived.OpenShut
import Derived.Deep.Slices
import Derived.Lib.SmallJoins
namespace Go.Proofs.Ytjahgknehamlpaa.fnPacked
open Go.ChangeShapes Go.WideShapes Go.ChangeAt Go.RowKit Go.Proofs.Ytjahgknehamlpaa Go.Deep Go.WideMaps Go.WideElems
open Go.ChangeMaps (setBlock shut_map_nil open_string shut_string keptBut_setBlock frozen?_setBlock heap_setBlock_same)
set_option linter.unusedVariables false

set_option maxRecDepth 100000 in
set_option maxHeartbeats 2000000 in
theorem walk (A : Option Addr) (cc : Nat) (l : List UInt8) (A2 : Option Addr) (cc2 : Nat) (l2 : List UInt8) (w : World) (hr : Rd w w.heap.size 1 A l.length (flat fU l)) (hm : l.length ≤ maxLen) (hr2 : Rd w w.heap.size 1 A2 l2.length (flat fU l2)) (hm2 : l2.length ≤ maxLen) : Calls Try.prog 4 #[.slice A l.length cc, .slice A2 l2.length cc2] w fun e W' => e = .returned (.bool true) ∧ Below w.heap.size w W' := by
  have lg1 := fun W => long_any A l.length cc W hm
  have lg2 := fun W => long_any A2 l2.length cc2 W hm2
  by_cases hlong : 1048576 < l.length
  · rw [decide_eq_true hlong] at lg1
    clear hlong
    go_enter Try.func4, Try.ntmps4
    go_wp2_with (go_at_call 6; (with_reducible refine (lg1 _).mono ?_); rintro e w0 ⟨rfl, rfl⟩)
    go_ret
    exact ⟨rfl, Below.refl _ _⟩
  rw [decide_eq_false hlong] at lg1
  clear hlong
  by_cases hlong : 1048576 < l2.length
  · rw [decide_eq_true hlong] at lg2
    clear hlong
    go_enter Try.func4, Try.ntmps4
    go_wp2_with (first | (go_at_call 6; (with_reducible refine (lg1 _).mono ?_); rintro e w0 ⟨rfl, rfl⟩) | (go_at_call 6; (with_reducible refine (lg2 _).mono ?_); rintro e w0 ⟨rfl, rfl⟩))
    go_ret
    exact ⟨rfl, Below.refl _ _⟩
  rw [decide_eq_false hlong] at lg2
  clear hlong
  have dr := drawPackBytes_any from_any A l.length cc l w rfl hr hm
  go_enter Try.func4, Try.ntmps4
  go_upto_region 11 with (first
    | (go_at_call 20; (with_reducible refine (drawPackGaps_any A2 l2.length cc2 l2 _ rfl ((hr2.below hb).more hb.size) hm2).mono ?_); rintro e w7 ⟨L, v, rfl, hL, R7, hx7⟩; obtain ⟨A3, c3, rfl⟩ := own_form R7; replace hb := hb.trans (hx7.mono hb.size))
    | (go_at_call 19; (with_reducible refine (impl_UnpackBytes_any T2 _ (by unfold maxLen; omega)).mono ?_); rintro e w6 ⟨rfl, hx6⟩; rw [u2]; replace hb := hb.trans (hx6.mono hb.size))
    | (go_at_call 18; (with_reducible refine (impl_UnpackRuns_any T1 _ (by unfold maxLen; omega)).mono ?_); rintro e w5 ⟨rfl, hx5⟩; rw [u1]; replace hb := hb.trans (hx5.mono hb.size))
    | (go_at_call 17; (with_reducible refine (impl_PackBytes_any s _ (by unfold maxLen; omega)).mono ?_); rintro e w4 ⟨rfl, hx4⟩; rw [p2]; replace hb := hb.trans (hx4.mono hb.size))
    | (go_at_call 16; (with_reducible refine (impl_PackRuns_any s _ (by unfold maxLen; omega)).mono ?_); rintro e w3 ⟨rfl, hx3⟩; rw [p1]; replace hb := hb.trans (hx3.mono hb.size))
    | (go_at_call 15; (with_reducible refine dr.mono ?_); rintro e w1 ⟨s, rfl, hs, hb⟩; obtain ⟨T1, p1, u1, z1⟩ := pk1 s (by omega); obtain ⟨T2, p2, u2, z2⟩ := pk2 s (by omega))
    | (go_at_call 6; (with_reducible refine (lg1 _).mono ?_); rintro e w0 ⟨rfl, rfl⟩)
    | (go_at_call 6; (with_reducible refine (lg2 _).mono ?_); rintro e w0 ⟨rfl, rfl⟩))
  clear dr lg1 lg2
  rcases pk3 L with hp | ⟨T, hp, hu, hz⟩
  · go_upto_region 16 with (go_at_call 21; (with_reducible refine (impl_PackGaps_any A3 c3 L _ (Rd.of_own R7) (by omega)).mono ?_); rintro e w8 ⟨rfl, hx8⟩; rw [hp]; replace hb := hb.trans (hx8.mono hb.size))
    go_upto_region 17 with (go_at_call 24; (with_reducible refine (drawDeltasOf_any A2 l2.length cc2 l2 _ rfl ((hr2.below hb).more hb.size) hm2).mono ?_); rintro e wd ⟨p, q, rfl, hp, hq, hxd⟩; replace hb := hb.trans (hxd.mono hb.size))
    rcases pk4 p q hp hq with ⟨e1, e2⟩ | ⟨e1, e2, e3⟩
    · go_wp2_with (go_at_call 25; (with_reducible refine (impl_DeltasOf_any p q _ (by omega) (by omega)).mono ?_); rintro e we ⟨v, rfl, Rv, hxe⟩; rw [e1]; replace hb := hb.trans (hxe.mono hb.size))
      go_ret
      exact ⟨rfl, hb⟩
    · have hdl := dlL_len p q
      go_wp2_with (first
        | (go_at_call 26; (with_reducible refine (impl_ApplyDeltas_any p A5 c5 (dlL p q) _ (Rd.of_own Rv) (by omega) (by omega) e3).mono ?_); rintro e wf ⟨rfl, hxf⟩; rw [e2]; replace hb := hb.trans (hxf.mono hb.size))
        | (go_at_call 25; (with_reducible refine (impl_DeltasOf_any p q _ (by omega) (by omega)).mono ?_); rintro e we ⟨v, rfl, Rv, hxe⟩; rw [e1]; obtain ⟨A5, c5, rfl⟩ := own_form Rv; replace hb := hb.trans (hxe.mono hb.size)))
      go_ret
      exact ⟨rfl, hb⟩
  · have g1 : (ug T).isSome = true := by rw [hu]; rfl
    have g2 : ugL T = L := by unfold ugL; rw [hu]; rfl
    go_upto_region 16 with (first
      | (go_at_call 23; (with_reducible refine (b10Nums_any A9 A3 c9 c3 L _ _ (Rd.of_own R9) (Rd.of_own R8) (by omega)).mono ?_); rintro e w10 ⟨rfl, nq, rfl⟩; replace hb := below_drewN hb nq)
      | (go_at_call 22; (with_reducible refine (impl_UnpackGaps_any T _ hz).mono ?_); rintro e w9 ⟨v9, rfl, R9, hx9⟩; rw [g1]; rw [g2] at R9; obtain ⟨A9, c9, rfl⟩ := own_form R9; replace R8 := own_later R8 hx9 (Nat.le_refl _); replace hb := hb.trans (hx9.mono hb.size))
      | (go_at_call 21; (with_reducible refine (impl_PackGaps_any A3 c3 L _ (Rd.of_own R7) (by omega)).mono ?_); rintro e w8 ⟨rfl, hx8⟩; rw [hp]; have R8 := own_later R7 hx8 (Nat.le_refl _); replace hb := hb.trans (hx8.mono hb.size)))
    all_goals
      go_upto_region 17 with (go_at_call 24; (with_reducible refine (drawDeltasOf_any A2 l2.length cc2 l2 _ rfl ((hr2.below hb).more hb.size) hm2).mono ?_); rintro e wd ⟨p, q, rfl, hp, hq, hxd⟩; replace hb := hb.trans (hxd.mono hb.size))
      rcases pk4 p q hp hq with ⟨e1, e2⟩ | ⟨e1, e2, e3⟩
      · go_wp2_with (go_at_call 25; (with_reducible refine (impl_DeltasOf_any p q _ (by omega) (by omega)).mono ?_); rintro e we ⟨v, rfl, Rv, hxe⟩; rw [e1]; replace hb := hb.trans (hxe.mono hb.size))
        go_ret
        exact ⟨rfl, hb⟩
      · have hdl := dlL_len p q
        go_wp2_with (first
          | (go_at_call 26; (with_reducible refine (impl_ApplyDeltas_any p A5 c5 (dlL p q) _ (Rd.of_own Rv) (by omega) (by omega) e3).mono ?_); rintro e wf ⟨rfl, hxf⟩; rw [e2]; replace hb := hb.trans (hxf.mono hb.size))
          | (go_at_call 25; (with_reducible refine (impl_DeltasOf_any p q _ (by omega) (by omega)).mono ?_); rintro e we ⟨v, rfl, Rv, hxe⟩; rw [e1]; obtain ⟨A5, c5, rfl⟩ := own_form Rv; replace hb := hb.trans (hxe.mono hb.size)))
        go_ret
        exact ⟨rfl, hb⟩

theorem own : ownKnob Try.prog.godebug = none := by kernel_rfl
theorem laidOut : laidOutB Try.prog = true := by kernel_rfl
theorem params : Try.f4.params.toList.all (fun t => Try.prog.readableRec t && decide (t < Try.prog.types.size)) = true := by kernel_rfl

set_option maxRecDepth 100000 in
theorem lifted (os : Os) (started : os.Started) (H : Type) (enc : TypeId × Value → H) :
    ReturnsInHanded {} Try.checked os 4 .any (Rows.fnPackedSpec.pre6 enc Try.prog Try.f4 Rows.fnPackedRow.domain false) (Rows.fnPackedSpec.post enc Try.prog Try.f4 false true false false) := by
  refine returnsInHanded_of_change (C := Try.checked) own started (by kernel_rfl) Try.func4
    (ChangeSpec.witness6 (enc := enc) (C := Try.checked) false ⟨#[], #[.slice none 0 0, .slice none 0 0], []⟩ 8 (by kernel_rfl) (by kernel_rfl) (by kernel_rfl) (by kernel_rfl)) ?_
  intro W base args ds gs before hval0 hW hcnd _
  have hval : ∀ (j : Nat) t v, Try.f4.params[j]? = some t → args[j]? = some v → Value.okWide Try.prog W .any base t v := hval0
  have hW' := hW
  obtain ⟨p, q, hA0, hV, rfl, hfz, hnd⟩ := hW
  have hA : DataW.TrodAll enc Try.prog W 0 (fun _ => true) true Try.f4.params.toList args.toList ds p := hA0
  rw [Try.params4] at hA hval
  obtain ⟨v0, v1, d0, d1, p0, p1, rfl, rfl, rfl, h0, h1⟩ := trodAll_two hA
  obtain ⟨rfl, rfl⟩ := trodVars_none hV
  clear hA0 hval0
  suffices hwalk : Calls Try.prog 4 #[v0, v1] W (fun e W' => e = .returned (.bool true) ∧ Below W.heap.size W W') by
    refine hwalk.mono fun e W' ⟨he, hb⟩ => ?_
    subst he
    exact ⟨_, rfl, law_post laidOut rfl rfl Try.underlying4 params hW' rfl hb⟩
  obtain ⟨a0, n0, d0, rfl⟩ := okWide_slice Try.underlying22 (hval 0 22 v0 rfl rfl)
  obtain ⟨fuel0, hf0⟩ := h0
  obtain ⟨A0, c0, l0, e0, hR0, hm0, _⟩ := open_flat (f := fU) (ok := fun _ => True) (size := 1) Try.underlying22 (by kernel_rfl) (by omega) fU_len (fun fuel cs x h => by
    obtain ⟨k, rfl, _, hw⟩ := DataW.trod_int Try.underlying5 h
    simp only [Lit.wf, Bool.and_eq_true, decide_eq_true_eq] at hw
    have h1 : (0 : Int) ≤ k := hw.1
    have h2 : k ≤ 255 := hw.2
    refine ⟨UInt8.ofNat k.toNat, ?_, trivial⟩
    have h3 : ((UInt8.ofNat k.toNat).toNat : Int) = k := by rw [UInt8.toNat_ofNat']; omega
    rw [fU, h3]) hf0
  simp only [Value.cells, List.cons.injEq, and_true] at e0
  rw [e0]
  obtain ⟨a1, n1, d1, rfl⟩ := okWide_slice Try.underlying22 (hval 1 22 v1 rfl rfl)
  obtain ⟨fuel1, hf1⟩ := h1
  obtain ⟨A1, c1, l1, e1, hR1, hm1, _⟩ := open_flat (f := fU) (ok := fun _ => True) (size := 1) Try.underlying22 (by kernel_rfl) (by omega) fU_len (fun fuel cs x h => by
    obtain ⟨k, rfl, _, hw⟩ := DataW.trod_int Try.underlying5 h
    simp only [Lit.wf, Bool.and_eq_true, decide_eq_true_eq] at hw
    have h1 : (0 : Int) ≤ k := hw.1
    have h2 : k ≤ 255 := hw.2
    refine ⟨UInt8.ofNat k.toNat, ?_, trivial⟩
    have h3 : ((UInt8.ofNat k.toNat).toNat : Int) = k := by rw [UInt8.toNat_ofNat']; omega
    rw [fU, h3]) hf1
  simp only [Value.cells, List.cons.injEq, and_true] at e1
  rw [e1]
  exact walk A0 c0 l0 A1 c1 l1 W hR0 hm0 hR1 hm1

theorem proved : Rows.FnPackedSaid :=
  OpenClaim.holds_of_wide 4 Try.f4 rfl rfl rfl rfl rfl rfl rfl ⟨rfl, rfl, rfl, rfl, rfl⟩ rfl rfl rfl rfl rfl (by kernel_rfl) Try.func4 (by kernel_rfl)
    (of_decide_eq_true (by kernel_rfl)) (by unfold Func.isWrapper; first | (rw [if_pos (by decide +kernel)]; kernel_rfl) | (rw [if_neg (by decide +kernel)]; exact ⟨rfl, rfl⟩))
    (fun os started H enc _ => lifted os started H enc)
#print axioms proved
end Go.Proofs.Ytjahgknehamlpaa.fnPacked
