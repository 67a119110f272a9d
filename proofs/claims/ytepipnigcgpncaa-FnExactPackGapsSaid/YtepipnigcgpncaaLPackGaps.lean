/- The law FnExactPackGaps holds: for every input that the row lets in it returns true and leaves its arguments alone. No condition. -/
import Derived.Test.YtepipnigcgpncaaRows
import Derived.Test.YtepipnigcgpncaaLib
import Derived.Test.YtepipnigcgpncaaOpen
import Derived.Test.YtepipnigcgpncaaW17
import Derived.ProofKit
import Derived.OpenShut
import Derived.Deep.Slices
import Derived.Lib.SmallJoins
namespace Go.Proofs.Ytepipnigcgpncaa.fnExactPackGaps
open Go.ChangeShapes Go.WideShapes Go.ChangeAt Go.RowKit Go.Proofs.Ytepipnigcgpncaa Go.Deep Go.WideMaps Go.WideElems
open Go.ChangeMaps (setBlock shut_map_nil open_string shut_string keptBut_setBlock frozen?_setBlock heap_setBlock_same)
set_option linter.unusedVariables false

set_option maxHeartbeats 400000 in
theorem walk (A : Option Addr) (c : Nat) (l : List Int) (w : World) (h : Rd w w.heap.size 1 A l.length (flat fI l)) (hm : l.length ≤ maxLen) : Calls Try.prog 10 #[.slice A l.length c] w fun e W' => e = .returned (.bool true) ∧ Below w.heap.size w W' := by
  unfold maxLen at hm
  by_cases hn : l.length ≤ 1048576
  · have g : ¬ (1048576 < (l.length : Int)) := by omega
    cases hr : packGaps l
    all_goals
      have H := Lib.hid hr
      clear hr
      have hb := Below.refl w.heap.size w
      go_enter Try.func10, Try.ntmps10
      go_wp2_with (first
        | (go_at_call 32; have := hg; refine (toInt64S_any A c l _ ((h.below hb).more hb.size) hn).mono ?_; rintro e w5 ⟨v5, rfl, ho5, hx⟩; replace hb := below_step hb hx; obtain ⟨A5, c5, rfl⟩ := own_form ho5; have hr5 := Rd.of_own ho5; replace hr3 := (hr3.below hx).more hx.size)
        | (go_at_call 32; have := hs; refine (toInt64S_any A c l _ ((h.below hb).more hb.size) hn).mono ?_; rintro e w3 ⟨v3, rfl, ho3, hx⟩; replace hb := below_step hb hx; obtain ⟨A3, c3, rfl⟩ := own_form ho3; have hr3 := Rd.of_own ho3)
        | (go_at_call 32; refine (toInt64S_any A c l _ ((h.below hb).more hb.size) hn).mono ?_; rintro e w1 ⟨v1, rfl, ho1, hx⟩; replace hb := below_step hb hx; obtain ⟨A1, c1, rfl⟩ := own_form ho1; have hr1 := Rd.of_own ho1)
        | (go_at_call 31; refine (spec_PackGaps_any A1 c1 l _ hr1 hn).mono ?_; rintro e w2 ⟨rfl, hx⟩; rw [H.out]; unfold resB; replace hb := below_step hb hx; have hs := True.intro)
        | (go_at_call 33; refine (impl_PackGaps_any A3 c3 l _ hr3 hn).mono ?_; rintro e w4 ⟨rfl, hx⟩; rw [H.out]; unfold resB; replace hb := below_step hb hx; replace hr3 := (hr3.below hx).more hx.size; have hg := True.intro)
        | (go_at_call 34; refine (eqInt64S_any A3 A5 c3 c5 l _ _ hr3 hr5 hn).mono ?_; rintro e w6 ⟨rfl, q, rfl⟩))
      go_ret
      exact ⟨rfl, below_drewN hb _⟩
  · have g : 1048576 < (l.length : Int) := by omega
    go_enter Try.func10, Try.ntmps10
    go_wp2
    go_ret
    exact ⟨rfl, Below.refl _ _⟩

theorem own : ownKnob Try.prog.godebug = none := by kernel_rfl
theorem laidOut : laidOutB Try.prog = true := by kernel_rfl
theorem params : Try.f10.params.toList.all (fun t => Try.prog.readableRec t && decide (t < Try.prog.types.size)) = true := by kernel_rfl

set_option maxRecDepth 100000 in
theorem lifted (os : Os) (started : os.Started) (H : Type) (enc : TypeId × Value → H) :
    ReturnsInHanded {} Try.checked os 10 .any (Rows.fnExactPackGapsSpec.pre6 enc Try.prog Try.f10 Rows.fnExactPackGapsRow.domain false) (Rows.fnExactPackGapsSpec.post enc Try.prog Try.f10 false true false false) := by
  refine returnsInHanded_of_change (C := Try.checked) own started (by kernel_rfl) Try.func10
    (ChangeSpec.witness6 (enc := enc) (C := Try.checked) false ⟨#[], #[.slice none 0 0], []⟩ 8 (by kernel_rfl) (by kernel_rfl) (by kernel_rfl) (by kernel_rfl)) ?_
  intro W base args ds gs before hval0 hW hcnd _
  have hval : ∀ (j : Nat) t v, Try.f10.params[j]? = some t → args[j]? = some v → Value.okWide Try.prog W .any base t v := hval0
  have hW' := hW
  obtain ⟨p, q, hA0, hV, rfl, hfz, hnd⟩ := hW
  have hA : DataW.TrodAll enc Try.prog W 0 (fun _ => true) true Try.f10.params.toList args.toList ds p := hA0
  rw [Try.params10] at hA hval
  obtain ⟨v0, d0, rfl, rfl, h0⟩ := trodAll_one hA
  obtain ⟨rfl, rfl⟩ := trodVars_none hV
  clear hA0 hval0
  suffices hwalk : Calls Try.prog 10 #[v0] W (fun e W' => e = .returned (.bool true) ∧ Below W.heap.size W W') by
    refine hwalk.mono fun e W' ⟨he, hb⟩ => ?_
    subst he
    exact ⟨_, rfl, law_post laidOut rfl rfl Try.underlying4 params hW' rfl hb⟩
  obtain ⟨a0, n0, c0, rfl⟩ := okWide_slice Try.underlying37 (hval 0 37 v0 rfl rfl)
  obtain ⟨fuel, hf⟩ := h0
  obtain ⟨A, c, l, e, hR, hm, _⟩ := open_flat (f := fI) (ok := fun _ => True) (size := 1) Try.underlying37 (by kernel_rfl) (by omega) fI_len (fun fuel cs x h => by
    obtain ⟨k, rfl, _, _⟩ := DataW.trod_int Try.underlying2 h
    exact ⟨k, rfl, trivial⟩) hf
  simp only [Value.cells, List.cons.injEq, and_true] at e
  rw [e]
  exact walk A c l W hR hm

theorem proved : Rows.FnExactPackGapsSaid :=
  OpenClaim.holds_of_wide 10 Try.f10 rfl rfl rfl rfl rfl rfl rfl ⟨rfl, rfl, rfl, rfl, rfl⟩ rfl rfl rfl rfl rfl (by kernel_rfl) Try.func10 (by kernel_rfl)
    (of_decide_eq_true (by kernel_rfl)) (by unfold Func.isWrapper; first | (rw [if_pos (by decide +kernel)]; kernel_rfl) | (rw [if_neg (by decide +kernel)]; exact ⟨rfl, rfl⟩))
    (fun os started H enc _ => lifted os started H enc)
#print axioms proved
end Go.Proofs.Ytepipnigcgpncaa.fnExactPackGaps
