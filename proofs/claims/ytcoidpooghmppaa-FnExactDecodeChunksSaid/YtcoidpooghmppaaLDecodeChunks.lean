/- The law FnExactDecodeChunks holds: for every input that the row lets in it returns true and leaves its arguments alone. No condition. -/
import Derived.Test.YtcoidpooghmppaaRows
import Derived.Test.YtcoidpooghmppaaLib
import Derived.Test.YtcoidpooghmppaaW47
import Derived.ProofKit
import Derived.OpenShut
import Derived.Deep.Slices
import Derived.Lib.SmallJoins
namespace Go.Proofs.Ytcoidpooghmppaa.fnExactDecodeChunks
open Go.ChangeShapes Go.WideShapes Go.ChangeAt Go.RowKit Go.Proofs.Ytcoidpooghmppaa Go.Deep Go.WideMaps Go.WideElems
open Go.ChangeMaps (setBlock shut_map_nil open_string shut_string keptBut_setBlock frozen?_setBlock heap_setBlock_same)
set_option linter.unusedVariables false

set_option maxHeartbeats 1000000 in
theorem walk (a : ByteArray) (ha : a.size ≤ maxLen) (w : World) : Calls Try.prog 5 #[.string a] w fun e W' => e = .returned (.bool true) ∧ Below w.heap.size w W' := by
  unfold maxLen at ha
  by_cases h1 : a.size ≤ 1048576
  · have g : ¬ (1048576 < (a.size : Int)) := by omega
    have hb := Below.refl w.heap.size w
    have hn := dkL_len a
    have hsp := fun W => spec_DecodeChunks_any a W h1
    have him := fun W => impl_DecodeChunks_any a W h1
    generalize dkL a = L at hn hsp him
    generalize dkN a = ok at hsp him
    go_enter Try.func5, Try.ntmps5
    go_wp2_with (first
      | (go_at_call 22; refine (hsp _).mono ?_; rintro e w1 ⟨v0, rfl, ho0, hx⟩; obtain ⟨A0, c0, rfl⟩ := own_form ho0; replace hb := below_step hb hx)
      | (go_at_call 23; have := k1; refine (him _).mono ?_; rintro e w6 ⟨v2, rfl, ho2, hx⟩; obtain ⟨A2, c2, rfl⟩ := own_form ho2; replace ho0 := own_later ho0 hx (Nat.le_refl _); replace ho1 := own_later ho1 hx (Nat.le_refl _); replace hb := below_step hb hx)
      | (go_at_call 23; refine (him _).mono ?_; rintro e w2 ⟨v1, rfl, ho1, hx⟩; have hne := own_ne ho0 ho1 (Nat.le_refl _); obtain ⟨A1, c1, rfl⟩ := own_form ho1; replace ho1 := own_base ho1 hb.size; replace ho0 := own_later ho0 hx (Nat.le_refl _); replace hb := below_step hb hx; have k1 := True.intro)
      | (go_at_call 24; have := ho2; refine (eqChunkS_any A2 A0 c2 c0 L _ (Rd.of_own ho2) (Rd.of_own ho0) (by omega)).mono ?_; rintro e w7 ⟨rfl, hx⟩; replace ho0 := own_later ho0 hx (Nat.le_refl _); replace ho1 := own_later ho1 hx (Nat.le_refl _); replace hb := below_step hb hx)
      | (go_at_call 24; refine (eqChunkS_any A1 A0 c1 c0 L _ (Rd.of_own ho1) (Rd.of_own ho0) (by omega)).mono ?_; rintro e w3 ⟨rfl, hx⟩; replace ho0 := own_later ho0 hx (Nat.le_refl _); replace ho1 := own_later ho1 hx (Nat.le_refl _); replace hb := below_step hb hx)
      | (go_at_call 25; refine (markChunkS_any A1 c1 1 L _ _ ho1 (by omega) (by omega) (by omega)).mono ?_; rintro e w4 ⟨rfl, ho1', hg⟩; replace hb := hb.trans (below_of_own ho1 hb.size hg); replace ho0 := World.ownsRow.kept ho0 hg hne; clear ho1; have ho1 := ho1'; clear ho1')
      | (go_at_call 26; refine (heldChunkS_any A1 c1 1 L.length _ (Rd.of_own ho1) (by omega) (by omega) (by omega)).mono ?_; rintro e w5 ⟨rfl, hx⟩; replace ho0 := own_later ho0 hx (Nat.le_refl _); replace ho1 := own_later ho1 hx (Nat.le_refl _); replace hb := below_step hb hx))
    go_ret
    exact ⟨rfl, hb⟩
  · have g : 1048576 < (a.size : Int) := by omega
    go_enter Try.func5, Try.ntmps5
    go_wp2
    go_ret
    exact ⟨rfl, Below.refl _ _⟩

theorem own : ownKnob Try.prog.godebug = none := by kernel_rfl
theorem laidOut : laidOutB Try.prog = true := by kernel_rfl
theorem params : Try.f5.params.toList.all (fun t => Try.prog.readableRec t && decide (t < Try.prog.types.size)) = true := by kernel_rfl

set_option maxRecDepth 100000 in
theorem lifted (os : Os) (started : os.Started) (H : Type) (enc : TypeId × Value → H) :
    ReturnsInHanded {} Try.checked os 5 .any (Rows.fnExactDecodeChunksSpec.pre6 enc Try.prog Try.f5 Rows.fnExactDecodeChunksRow.domain false) (Rows.fnExactDecodeChunksSpec.post enc Try.prog Try.f5 false true false false) := by
  refine returnsInHanded_of_change (C := Try.checked) own started (by kernel_rfl) Try.func5
    (ChangeSpec.witness6 (enc := enc) (C := Try.checked) false ⟨#[], #[.string ByteArray.empty], []⟩ 8 (by kernel_rfl) (by kernel_rfl) (by kernel_rfl) (by kernel_rfl)) ?_
  intro W base args ds gs before hval0 hW hcnd _
  have hval : ∀ (j : Nat) t v, Try.f5.params[j]? = some t → args[j]? = some v → Value.okWide Try.prog W .any base t v := hval0
  have hW' := hW
  obtain ⟨p, q, hA0, hV, rfl, hfz, hnd⟩ := hW
  have hA : DataW.TrodAll enc Try.prog W 0 (fun _ => true) true Try.f5.params.toList args.toList ds p := hA0
  rw [Try.params5] at hA hval
  obtain ⟨v0, d0, rfl, rfl, h0⟩ := trodAll_one hA
  obtain ⟨rfl, rfl⟩ := trodVars_none hV
  clear hA0 hval0
  suffices hwalk : Calls Try.prog 5 #[v0] W (fun e W' => e = .returned (.bool true) ∧ Below W.heap.size W W') by
    refine hwalk.mono fun e W' ⟨he, hb⟩ => ?_
    subst he
    exact ⟨_, rfl, law_post laidOut rfl rfl Try.underlying4 params hW' rfl hb⟩
  obtain ⟨a, rfl, rfl, rfl, wa⟩ := open_string Try.underlying9 (hval 0 9 v0 rfl rfl) h0
  exact walk a wa W

theorem proved : Rows.FnExactDecodeChunksSaid :=
  OpenClaim.holds_of_wide 5 Try.f5 rfl rfl rfl rfl rfl rfl rfl ⟨rfl, rfl, rfl, rfl, rfl⟩ rfl rfl rfl rfl rfl (by kernel_rfl) Try.func5 (by kernel_rfl)
    (of_decide_eq_true (by kernel_rfl)) (by unfold Func.isWrapper; first | (rw [if_pos (by decide +kernel)]; kernel_rfl) | (rw [if_neg (by decide +kernel)]; exact ⟨rfl, rfl⟩))
    (fun os started H enc _ => lifted os started H enc)
#print axioms proved
end Go.Proofs.Ytcoidpooghmppaa.fnExactDecodeChunks
