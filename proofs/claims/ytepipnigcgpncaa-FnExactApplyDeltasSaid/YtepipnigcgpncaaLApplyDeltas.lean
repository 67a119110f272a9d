/- The law FnExactApplyDeltas holds: for every input that the row lets in it returns true and leaves its arguments alone. No condition. -/
import Derived.Test.YtepipnigcgpncaaRows
import Derived.Test.YtepipnigcgpncaaLib
import Derived.Test.YtepipnigcgpncaaOpen
import Derived.Test.YtepipnigcgpncaaW19
import Derived.ProofKit
import Derived.OpenShut
import Derived.Deep.Slices
import Derived.Lib.SmallJoins
namespace Go.Proofs.Ytepipnigcgpncaa.fnExactApplyDeltas
open Go.ChangeShapes Go.WideShapes Go.ChangeAt Go.RowKit Go.Proofs.Ytepipnigcgpncaa Go.Deep Go.WideMaps Go.WideElems
open Go.ChangeMaps (setBlock shut_map_nil open_string shut_string keptBut_setBlock frozen?_setBlock heap_setBlock_same)
set_option linter.unusedVariables false

theorem sum_ge (l : List DDelta) : l.length ≤ (tzDelta l).sum := by simp [tzDelta]
set_option maxHeartbeats 400000 in
theorem walk (s : ByteArray) (hs : s.size ≤ maxLen) (A : Option Addr) (c : Nat) (l : List DDelta) (w : World) (h : Rd w w.heap.size 2 A l.length (flat fDelta l)) (hm : l.length ≤ maxLen) (hok : ∀ x ∈ l, okDelta x) : Calls Try.prog 11 #[.string s, .slice A l.length c] w fun e W' => e = .returned (.bool true) ∧ Below w.heap.size w W' := by
  unfold maxLen at hs
  by_cases hss : s.size ≤ 1048576
  · have g : ¬ (1048576 < (s.size : Int)) := by omega
    have hb := Below.refl w.heap.size w
    rcases subs_cases (tzDelta l) 1048576 (by omega) with hq | ⟨hq, hq0⟩
    · have HQ := Lib.hid hq
      clear hq
      go_enter Try.func11, Try.ntmps11
      go_wp2_with (go_at_call 35; refine (szDeltaS_any A c l 1048576 _ h hm (by omega) (by omega) hok).mono ?_; rintro e w1 ⟨rfl, hx⟩; rw [HQ.out]; replace hb := below_step hb hx)
      go_ret
      exact ⟨rfl, hb⟩
    · have HQ := Lib.hid hq
      have hsum := sum_ge l
      have hn : l.length ≤ 1048576 := by omega
      clear hq
      generalize (1048576 : Int) - ((tzDelta l).sum : Nat) = y at *
      cases hr : apD s l
      all_goals
        have H := Lib.hid hr
        clear hr
        go_enter Try.func11, Try.ntmps11
        go_wp2_with (first
          | (go_at_call 35; refine (szDeltaS_any A c l 1048576 _ h hm (by omega) (by omega) hok).mono ?_; rintro e w1 ⟨rfl, hx⟩; rw [HQ.out]; replace hb := below_step hb hx)
          | (go_at_call 37; have := hg; refine (toDeltaS_any A c l _ ((h.below hb).more hb.size) hn).mono ?_; rintro e w5 ⟨v5, rfl, ho5, hx⟩; replace hb := below_step hb hx; obtain ⟨A5, c5, rfl⟩ := own_form ho5; have hr5 := Rd.of_own ho5; replace hr3 := (hr3.below hx).more hx.size)
          | (go_at_call 37; have := hs2; refine (toDeltaS_any A c l _ ((h.below hb).more hb.size) hn).mono ?_; rintro e w3 ⟨v3, rfl, ho3, hx⟩; replace hb := below_step hb hx; obtain ⟨A3, c3, rfl⟩ := own_form ho3; have hr3 := Rd.of_own ho3)
          | (go_at_call 37; refine (toDeltaS_any A c l _ ((h.below hb).more hb.size) hn).mono ?_; rintro e w1 ⟨v1, rfl, ho1, hx⟩; replace hb := below_step hb hx; obtain ⟨A1, c1, rfl⟩ := own_form ho1; have hr1 := Rd.of_own ho1)
          | (go_at_call 36; refine (spec_ApplyDeltas_any s A1 c1 l _ hr1 hn hss hok).mono ?_; rintro e w2 ⟨rfl, hx⟩; rw [H.out]; unfold resB; replace hb := below_step hb hx; have hs2 := True.intro)
          | (go_at_call 38; refine (impl_ApplyDeltas_any s A3 c3 l _ hr3 hn hss hok).mono ?_; rintro e w4 ⟨rfl, hx⟩; rw [H.out]; unfold resB; replace hb := below_step hb hx; replace hr3 := (hr3.below hx).more hx.size; have hg := True.intro)
          | (go_at_call 39; refine (eqDeltaS_any A3 A5 c3 c5 l _ hr3 hr5 hn).mono ?_; rintro e w6 ⟨rfl, hx⟩; replace hb := below_step hb hx))
        go_ret
        exact ⟨rfl, hb⟩
  · have g : 1048576 < (s.size : Int) := by omega
    go_enter Try.func11, Try.ntmps11
    go_wp2
    go_ret
    exact ⟨rfl, Below.refl _ _⟩

theorem own : ownKnob Try.prog.godebug = none := by kernel_rfl
theorem laidOut : laidOutB Try.prog = true := by kernel_rfl
theorem params : Try.f11.params.toList.all (fun t => Try.prog.readableRec t && decide (t < Try.prog.types.size)) = true := by kernel_rfl

set_option maxRecDepth 100000 in
theorem lifted (os : Os) (started : os.Started) (H : Type) (enc : TypeId × Value → H) :
    ReturnsInHanded {} Try.checked os 11 .any (Rows.fnExactApplyDeltasSpec.pre6 enc Try.prog Try.f11 Rows.fnExactApplyDeltasRow.domain false) (Rows.fnExactApplyDeltasSpec.post enc Try.prog Try.f11 false true false false) := by
  refine returnsInHanded_of_change (C := Try.checked) own started (by kernel_rfl) Try.func11
    (ChangeSpec.witness6 (enc := enc) (C := Try.checked) false ⟨#[], #[.string ByteArray.empty, .slice none 0 0], []⟩ 8 (by kernel_rfl) (by kernel_rfl) (by kernel_rfl) (by kernel_rfl)) ?_
  intro W base args ds gs before hval0 hW hcnd _
  have hval : ∀ (j : Nat) t v, Try.f11.params[j]? = some t → args[j]? = some v → Value.okWide Try.prog W .any base t v := hval0
  have hW' := hW
  obtain ⟨p, q, hA0, hV, rfl, hfz, hnd⟩ := hW
  have hA : DataW.TrodAll enc Try.prog W 0 (fun _ => true) true Try.f11.params.toList args.toList ds p := hA0
  rw [Try.params11] at hA hval
  obtain ⟨v0, v1, d0, d1, p0, p1, rfl, rfl, rfl, h0, h1⟩ := trodAll_two hA
  obtain ⟨rfl, rfl⟩ := trodVars_none hV
  clear hA0 hval0
  suffices hwalk : Calls Try.prog 11 #[v0, v1] W (fun e W' => e = .returned (.bool true) ∧ Below W.heap.size W W') by
    refine hwalk.mono fun e W' ⟨he, hb⟩ => ?_
    subst he
    exact ⟨_, rfl, law_post laidOut rfl rfl Try.underlying4 params hW' rfl hb⟩
  obtain ⟨s, rfl, rfl, rfl, ws⟩ := open_string Try.underlying9 (hval 0 9 v0 rfl rfl) h0
  obtain ⟨a0, n0, c0, rfl⟩ := okWide_slice Try.underlying42 (hval 1 42 v1 rfl rfl)
  obtain ⟨fuel, hf⟩ := h1
  obtain ⟨A, c, l, e, hR, hm, hok⟩ := open_flat (f := fDelta) (ok := okDelta) (size := 2) Try.underlying42 (by kernel_rfl) (by omega) fDelta_len (fun fuel cs x h => openDelta h) hf
  simp only [Value.cells, List.cons.injEq, and_true] at e
  rw [e]
  exact walk s ws A c l W hR hm hok

theorem proved : Rows.FnExactApplyDeltasSaid :=
  OpenClaim.holds_of_wide 11 Try.f11 rfl rfl rfl rfl rfl rfl rfl ⟨rfl, rfl, rfl, rfl, rfl⟩ rfl rfl rfl rfl rfl (by kernel_rfl) Try.func11 (by kernel_rfl)
    (of_decide_eq_true (by kernel_rfl)) (by unfold Func.isWrapper; first | (rw [if_pos (by decide +kernel)]; kernel_rfl) | (rw [if_neg (by decide +kernel)]; exact ⟨rfl, rfl⟩))
    (fun os started H enc _ => lifted os started H enc)
#print axioms proved
end Go.Proofs.Ytepipnigcgpncaa.fnExactApplyDeltas
