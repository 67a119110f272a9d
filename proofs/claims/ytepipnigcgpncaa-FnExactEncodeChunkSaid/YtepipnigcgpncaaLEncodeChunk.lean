/- The law FnExactEncodeChunk holds: for every input that the row lets in it returns true and leaves its arguments alone. No condition. -/
import Derived.Test.YtepipnigcgpncaaRows
import Derived.Test.YtepipnigcgpncaaLib
import Derived.Test.YtepipnigcgpncaaW8
import Derived.ProofKit
import Derived.OpenShut
import Derived.Deep.Slices
import Derived.Lib.SmallJoins
namespace Go.Proofs.Ytepipnigcgpncaa.fnExactEncodeChunk
open Go.ChangeShapes Go.WideShapes Go.ChangeAt Go.RowKit Go.Proofs.Ytepipnigcgpncaa Go.Deep Go.WideMaps Go.WideElems
open Go.ChangeMaps (setBlock shut_map_nil open_string shut_string keptBut_setBlock frozen?_setBlock heap_setBlock_same)

theorem sub_neg (n : Nat) (h : 1048576 < n) : subN 1048576 n = -1 := by simp [subN]; omega
theorem sub_pos (n : Nat) (h : n ≤ 1048576) : 0 ≤ subN 1048576 n ∧ subN 1048576 n ≤ 1048576 := by unfold subN; split <;> omega
set_option maxHeartbeats 400000 in
theorem walk (k : Int) (s : ByteArray) (hs : s.size ≤ maxLen) (w : World) : Calls Try.prog 9 #[.agg #[.int .i64 k, .string s]] w fun e W' => e = .returned (.bool true) ∧ Below w.heap.size w W' := by
  by_cases h : s.size ≤ 1048576
  · obtain ⟨g0, g1⟩ := sub_pos _ h
    have g2 : ¬ subN 1048576 s.size < 0 := by omega
    go_enter Try.func9, Try.ntmps9
    go_wp2_with (first
      | (go_at_call 17; refine (szChunk_any _ _ _ _ hs (by omega) (by omega)).mono ?_; rintro e w1 ⟨rfl, hb⟩; obtain ⟨hc, hf⟩ := bcell hb)
      | (go_at_call 19; refine (toChunk_any _ _ _).mono ?_; rintro e w2 ⟨rfl, hx⟩; replace hb := below_step hb hx; clear hx hc hf; obtain ⟨hc, hf⟩ := bcell hb)
      | (go_at_call 29; refine (spec_EncodeChunk_any _ _ _ hs).mono ?_; rintro e w3 ⟨rfl, hx⟩; replace hb := below_step hb hx; clear hx hc hf; obtain ⟨hc, hf⟩ := bcell hb)
      | (go_at_call 30; refine (impl_EncodeChunk_any _ _ _ hs).mono ?_; rintro e w4 ⟨rfl, hx⟩; replace hb := below_step hb hx; clear hx hc hf; obtain ⟨hc, hf⟩ := bcell hb))
    go_ret
    exact ⟨rfl, (by repeat (first | exact Below.refl _ _ | refine below_step ?_ (by assumption) | assumption | refine Below.drew ?_ | refine below_drewN ?_ _ | refine below_alloc ?_ _ | refine Below.setCell ?_ (by simp; try omega) _))⟩
  · have HN := Lib.hid (sub_neg s.size (by omega))
    go_enter Try.func9, Try.ntmps9
    go_wp2_with (go_at_call 17; refine (szChunk_any _ _ _ _ hs (by omega) (by omega)).mono ?_; rintro e w1 ⟨rfl, hb⟩; rw [HN.out])
    go_ret
    exact ⟨rfl, (by repeat (first | exact Below.refl _ _ | refine below_step ?_ (by assumption) | assumption | refine Below.drew ?_ | refine below_drewN ?_ _ | refine below_alloc ?_ _ | refine Below.setCell ?_ (by simp; try omega) _))⟩

theorem own : ownKnob Try.prog.godebug = none := by kernel_rfl
theorem laidOut : laidOutB Try.prog = true := by kernel_rfl
theorem params : Try.f9.params.toList.all (fun t => Try.prog.readableRec t && decide (t < Try.prog.types.size)) = true := by kernel_rfl

set_option maxRecDepth 100000 in
theorem lifted (os : Os) (started : os.Started) (H : Type) (enc : TypeId × Value → H) :
    ReturnsInHanded {} Try.checked os 9 .any (Rows.fnExactEncodeChunkSpec.pre6 enc Try.prog Try.f9 Rows.fnExactEncodeChunkRow.domain false) (Rows.fnExactEncodeChunkSpec.post enc Try.prog Try.f9 false true false false) := by
  refine returnsInHanded_of_change (C := Try.checked) own started (by kernel_rfl) Try.func9
    (ChangeSpec.witness6 (enc := enc) (C := Try.checked) false ⟨#[], #[.agg #[.int .i64 0, .string ByteArray.empty]], []⟩ 8 (by kernel_rfl) (by kernel_rfl) (by kernel_rfl) (by kernel_rfl)) ?_
  intro W base args ds gs before hval0 hW hcnd _
  have hval : ∀ (j : Nat) t v, Try.f9.params[j]? = some t → args[j]? = some v → Value.okWide Try.prog W .any base t v := hval0
  have hW' := hW
  obtain ⟨p, q, hA0, hV, rfl, hfz, hnd⟩ := hW
  have hA : DataW.TrodAll enc Try.prog W 0 (fun _ => true) true Try.f9.params.toList args.toList ds p := hA0
  rw [Try.params9] at hA hval
  obtain ⟨v0, d0, rfl, rfl, h0⟩ := trodAll_one hA
  obtain ⟨rfl, rfl⟩ := trodVars_none hV
  clear hA0 hval0
  suffices hwalk : Calls Try.prog 9 #[v0] W (fun e W' => e = .returned (.bool true) ∧ Below W.heap.size W W') by
    refine hwalk.mono fun e W' ⟨he, hb⟩ => ?_
    subst he
    exact ⟨_, rfl, law_post laidOut rfl rfl Try.underlying4 params hW' rfl hb⟩
  obtain ⟨c0, c1, y0, y1, m, rfl, rfl, rfl, hy0, hy1⟩ := Go.Joins.open_agg2 Try.underlying25 (by kernel_rfl) (by kernel_rfl) (hval 0 25 v0 rfl rfl) h0
  obtain ⟨k, e0, rfl, wk⟩ := DataW.trod_int Try.underlying2 hy0
  obtain ⟨s, e1, rfl, ws⟩ := DataW.trod_string Try.underlying9 hy1
  simp only [List.cons.injEq, and_true] at e0 e1
  subst e0 e1
  exact walk k s ws W

theorem proved : Rows.FnExactEncodeChunkSaid :=
  OpenClaim.holds_of_wide 9 Try.f9 rfl rfl rfl rfl rfl rfl rfl ⟨rfl, rfl, rfl, rfl, rfl⟩ rfl rfl rfl rfl rfl (by kernel_rfl) Try.func9 (by kernel_rfl)
    (of_decide_eq_true (by kernel_rfl)) (by unfold Func.isWrapper; first | (rw [if_pos (by decide +kernel)]; kernel_rfl) | (rw [if_neg (by decide +kernel)]; exact ⟨rfl, rfl⟩))
    (fun os started H enc _ => lifted os started H enc)
#print axioms proved
end Go.Proofs.Ytepipnigcgpncaa.fnExactEncodeChunk
