/- The law FnExactFormatExtents holds: for every input that the row lets in it returns true and leaves its arguments alone. No condition. -/
import Derived.Test.YtjahgknehamlpaaRows
import Derived.Test.YtjahgknehamlpaaLib
import Derived.Test.YtjahgknehamlpaaStep
import Derived.Test.YtjahgknehamlpaaSStrM
import Derived.Test.YtjahgknehamlpaaXFm
import Derived.Test.YtjahgknehamlpaaXFi
import Derived.ProofKit
import Derived.OpenShut
import Derived.Deep.Slices
import Derived.Lib.SmallJoins
namespace Go.Proofs.Ytjahgknehamlpaa.fnExactFormatExtents
open Go.ChangeShapes Go.WideShapes Go.ChangeAt Go.RowKit Go.Proofs.Ytjahgknehamlpaa Go.Deep Go.WideMaps Go.WideElems
open Go.ChangeMaps (setBlock shut_map_nil open_string shut_string keptBut_setBlock frozen?_setBlock heap_setBlock_same)
set_option linter.unusedVariables false

theorem fxL_le (B Z : Int) : (fxL B Z).length ≤ 1048576 := by
  unfold fxL
  split
  · rename_i h
    rw [fxS_len]
    unfold fxC at h
    split at h
    · omega
    · rename_i h2
      have h3 := inB_yes (show inB B 8 128 = true by simpa using h2)
      omega
  · simp
set_option maxRecDepth 100000 in
set_option maxHeartbeats 4000000 in
theorem walk (x y : Int) (w : World) : Calls Try.prog 5 #[.int .i64 x, .int .i64 y] w fun e W' => e = .returned (.bool true) ∧ Below w.heap.size w W' := by
  have hB := BB.start w
  have hsp := fun W => spec_FormatExtents_any x y W
  have him := fun W => impl_FormatExtents_any x y W
  have hrn := fxL_le x y
  generalize fxL x y = r at hsp him hrn
  generalize fxC x y = code at hsp him
  go_enter Try.func5, Try.ntmps5
  go_wp2_with (first
    | (go_at_call 31; have := m7; refine (heldStringS_any A5 c5 1 r.length _ (RR.own (OOf O5)) (by omega) (by omega) (by omega)).mono ?_; rintro e w8 ⟨rfl, hx8⟩; replace hB := hB.next hx8; replace O3 := OO.next O3 hx8; replace O5 := OO.next O5 hx8; replace O8 := OO.next O8 hx8; have m8 := True.intro)
    | (go_at_call 29; have := m6; refine (eqStringS_any A8 A3 c8 c3 r _ (RR.own (OOf O8)) (RR.own (OOf O3)) hrn).mono ?_; rintro e w7 ⟨rfl, hx7⟩; replace hB := hB.next hx7; replace O3 := OO.next O3 hx7; replace O5 := OO.next O5 hx7; replace O8 := OO.next O8 hx7; have m7 := True.intro)
    | (go_at_call 28; have := m5; refine (him _).mono ?_; rintro e w6 ⟨v8, rfl, O8, hx6⟩; have ne_O3_O8 := own_ne O3 O8 (Nat.le_refl _); have ne_O5_O8 := own_ne O5 O8 (Nat.le_refl _); replace O8 := own_base (base' := w.heap.size) O8 (Below.size hB); obtain ⟨A8, c8, rfl⟩ := own_form O8; replace O8 : OO _ _ _ _ _ _ _ := O8; replace hB := hB.next hx6; replace O3 := OO.next O3 hx6; replace O5 := OO.next O5 hx6; have m6 := True.intro)
    | (go_at_call 31; have := m4; refine (heldStringS_any A5 c5 1 r.length _ (RR.own (OOf O5)) (by omega) (by omega) (by omega)).mono ?_; rintro e w5 ⟨rfl, hx5⟩; replace hB := hB.next hx5; replace O3 := OO.next O3 hx5; replace O5 := OO.next O5 hx5; have m5 := True.intro)
    | (go_at_call 30; have := m3; refine (markStringS_any A5 c5 1 r _ w.heap.size O5 (by omega) (by omega) (by omega)).mono ?_; rintro e w4 ⟨rfl, on, hg⟩; replace hB := BB.mark hB O5 hg; replace O3 : OO _ _ _ _ _ _ _ := World.ownsRow.kept O3 hg ne_O3_O5; replace O5 : OO _ _ _ _ _ _ _ := on; clear on; have m4 := True.intro)
    | (go_at_call 29; have := m2; refine (eqStringS_any A5 A3 c5 c3 r _ (RR.own (OOf O5)) (RR.own (OOf O3)) hrn).mono ?_; rintro e w3 ⟨rfl, hx3⟩; replace hB := hB.next hx3; replace O3 := OO.next O3 hx3; replace O5 := OO.next O5 hx3; have m3 := True.intro)
    | (go_at_call 28; have := m1; refine (him _).mono ?_; rintro e w2 ⟨v5, rfl, O5, hx2⟩; have ne_O3_O5 := own_ne O3 O5 (Nat.le_refl _); replace O5 := own_base (base' := w.heap.size) O5 (Below.size hB); obtain ⟨A5, c5, rfl⟩ := own_form O5; replace O5 : OO _ _ _ _ _ _ _ := O5; replace hB := hB.next hx2; replace O3 := OO.next O3 hx2; have m2 := True.intro)
    | (go_at_call 27; refine (hsp _).mono ?_; rintro e w1 ⟨v3, rfl, O3, hx1⟩; replace O3 := own_base (base' := w.heap.size) O3 (Below.size hB); obtain ⟨A3, c3, rfl⟩ := own_form O3; replace O3 : OO _ _ _ _ _ _ _ := O3; replace hB := hB.next hx1; have m1 := True.intro))
  go_ret
  exact ⟨rfl, hB⟩

theorem own : ownKnob Try.prog.godebug = none := by kernel_rfl
theorem laidOut : laidOutB Try.prog = true := by kernel_rfl
theorem params : Try.f5.params.toList.all (fun t => Try.prog.readableRec t && decide (t < Try.prog.types.size)) = true := by kernel_rfl

set_option maxRecDepth 100000 in
theorem lifted (os : Os) (started : os.Started) (H : Type) (enc : TypeId × Value → H) :
    ReturnsInHanded {} Try.checked os 5 .any (Rows.fnExactFormatExtentsSpec.pre6 enc Try.prog Try.f5 Rows.fnExactFormatExtentsRow.domain false) (Rows.fnExactFormatExtentsSpec.post enc Try.prog Try.f5 false true false false) := by
  refine returnsInHanded_of_change (C := Try.checked) own started (by kernel_rfl) Try.func5
    (ChangeSpec.witness6 (enc := enc) (C := Try.checked) false ⟨#[], #[.int .i64 0, .int .i64 0], []⟩ 8 (by kernel_rfl) (by kernel_rfl) (by kernel_rfl) (by kernel_rfl)) ?_
  intro W base args ds gs before hval0 hW hcnd _
  have hval : ∀ (j : Nat) t v, Try.f5.params[j]? = some t → args[j]? = some v → Value.okWide Try.prog W .any base t v := hval0
  have hW' := hW
  obtain ⟨p, q, hA0, hV, rfl, hfz, hnd⟩ := hW
  have hA : DataW.TrodAll enc Try.prog W 0 (fun _ => true) true Try.f5.params.toList args.toList ds p := hA0
  rw [Try.params5] at hA hval
  obtain ⟨v0, v1, d0, d1, p0, p1, rfl, rfl, rfl, h0, h1⟩ := trodAll_two hA
  obtain ⟨rfl, rfl⟩ := trodVars_none hV
  clear hA0 hval0
  suffices hwalk : Calls Try.prog 5 #[v0, v1] W (fun e W' => e = .returned (.bool true) ∧ Below W.heap.size W W') by
    refine hwalk.mono fun e W' ⟨he, hb⟩ => ?_
    subst he
    exact ⟨_, rfl, law_post laidOut rfl rfl Try.underlying4 params hW' rfl hb⟩
  obtain ⟨x, rfl, rfl, rfl, wx⟩ := open_int Try.underlying2 (hval 0 2 v0 rfl rfl) h0
  obtain ⟨y, rfl, rfl, rfl, wy⟩ := open_int Try.underlying2 (hval 1 2 v1 rfl rfl) h1
  exact walk x y W

theorem proved : Rows.FnExactFormatExtentsSaid :=
  OpenClaim.holds_of_wide 5 Try.f5 rfl rfl rfl rfl rfl rfl rfl ⟨rfl, rfl, rfl, rfl, rfl⟩ rfl rfl rfl rfl rfl (by kernel_rfl) Try.func5 (by kernel_rfl)
    (of_decide_eq_true (by kernel_rfl)) (by unfold Func.isWrapper; first | (rw [if_pos (by decide +kernel)]; kernel_rfl) | (rw [if_neg (by decide +kernel)]; exact ⟨rfl, rfl⟩))
    (fun os started H enc _ => lifted os started H enc)
#print axioms proved
end Go.Proofs.Ytjahgknehamlpaa.fnExactFormatExtents
