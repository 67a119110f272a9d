/- The law FnExactValidFiles holds: for every input that the row lets in it returns true and leaves its arguments alone. No condition. -/
import Derived.Test.YtepipnigcgpncaaRows
import Derived.Test.YtepipnigcgpncaaLib
import Derived.Test.YtepipnigcgpncaaOpen
import Derived.Test.YtepipnigcgpncaaW22
import Derived.ProofKit
import Derived.OpenShut
import Derived.Deep.Slices
import Derived.Lib.SmallJoins
namespace Go.Proofs.Ytepipnigcgpncaa.fnExactValidFiles
open Go.ChangeShapes Go.WideShapes Go.ChangeAt Go.RowKit Go.Proofs.Ytepipnigcgpncaa Go.Deep Go.WideMaps Go.WideElems
open Go.ChangeMaps (setBlock shut_map_nil open_string shut_string keptBut_setBlock frozen?_setBlock heap_setBlock_same)
set_option linter.unusedVariables false

theorem sum_ge (l : List DFile) : l.length ≤ (tzFile l).sum := by simp [tzFile]
theorem each_le (l : List DFile) (x : DFile) (hx : x ∈ l) : x.f0.size + x.f1.size ≤ (tzFile l).sum := by
  unfold tzFile
  rw [List.sum_cons]
  induction l with
  | nil => cases hx
  | cons y l ih =>
    rw [List.map_cons, List.flatten_cons, List.sum_append]
    rcases List.mem_cons.1 hx with rfl | hx
    · simp only [zFile, List.sum_cons, List.sum_nil]
      omega
    · have := ih hx
      simp only [List.length_cons]
      omega
set_option maxHeartbeats 400000 in
theorem walk (A : Option Addr) (c : Nat) (l : List DFile) (w : World) (h : Rd w w.heap.size 2 A l.length (flat fFile l)) (hm : l.length ≤ maxLen) (hok : ∀ x ∈ l, okFile x) : Calls Try.prog 14 #[.slice A l.length c] w fun e W' => e = .returned (.bool true) ∧ Below w.heap.size w W' := by
  have hb := Below.refl w.heap.size w
  rcases subs_cases (tzFile l) 1048576 (by omega) with hq | ⟨hq, hq0⟩
  · have HQ := Lib.hid hq
    clear hq
    go_enter Try.func14, Try.ntmps14
    go_wp2_with (go_at_call 46; refine (szFileS_any A c l 1048576 _ h hm (by omega) (by omega) hok).mono ?_; rintro e w1 ⟨rfl, hx⟩; rw [HQ.out]; replace hb := below_step hb hx)
    go_ret
    exact ⟨rfl, hb⟩
  · have HQ := Lib.hid hq
    have hsum := sum_ge l
    have hn : l.length ≤ 1048576 := by omega
    have hs : ∀ x ∈ l, x.f0.size ≤ 1048576 ∧ x.f1.size ≤ 1048576 := fun x hx => by have := each_le l x hx; omega
    clear hq
    generalize (1048576 : Int) - ((tzFile l).sum : Nat) = y at *
    go_enter Try.func14, Try.ntmps14
    go_wp2_with (first
      | (go_at_call 46; refine (szFileS_any A c l 1048576 _ h hm (by omega) (by omega) hok).mono ?_; rintro e w1 ⟨rfl, hx⟩; rw [HQ.out]; replace hb := below_step hb hx)
      | (go_at_call 48; have := hg; refine (toFileS_any A c l _ ((h.below hb).more hb.size) hn).mono ?_; rintro e w5 ⟨v5, rfl, ho5, hx⟩; replace hb := below_step hb hx; obtain ⟨A5, c5, rfl⟩ := own_form ho5; have hr5 := Rd.of_own ho5; replace hr3 := (hr3.below hx).more hx.size)
      | (go_at_call 48; have := hs2; refine (toFileS_any A c l _ ((h.below hb).more hb.size) hn).mono ?_; rintro e w3 ⟨v3, rfl, ho3, hx⟩; replace hb := below_step hb hx; obtain ⟨A3, c3, rfl⟩ := own_form ho3; have hr3 := Rd.of_own ho3)
      | (go_at_call 48; refine (toFileS_any A c l _ ((h.below hb).more hb.size) hn).mono ?_; rintro e w1 ⟨v1, rfl, ho1, hx⟩; replace hb := below_step hb hx; obtain ⟨A1, c1, rfl⟩ := own_form ho1; have hr1 := Rd.of_own ho1)
      | (go_at_call 47; refine (spec_ValidFiles_any A1 c1 l _ hr1 hn hs).mono ?_; rintro e w2 ⟨rfl, hx⟩; replace hb := below_step hb hx; have hs2 := True.intro)
      | (go_at_call 49; refine (impl_ValidFiles_any A3 c3 l _ hr3 hn hs).mono ?_; rintro e w4 ⟨rfl, hx⟩; replace hb := below_step hb hx; replace hr3 := (hr3.below hx).more hx.size; have hg := True.intro)
      | (go_at_call 50; refine (eqFileS_any A3 A5 c3 c5 l _ hr3 hr5 hn).mono ?_; rintro e w6 ⟨rfl, hx⟩; replace hb := below_step hb hx))
    go_ret
    exact ⟨rfl, hb⟩

theorem own : ownKnob Try.prog.godebug = none := by kernel_rfl
theorem laidOut : laidOutB Try.prog = true := by kernel_rfl
theorem params : Try.f14.params.toList.all (fun t => Try.prog.readableRec t && decide (t < Try.prog.types.size)) = true := by kernel_rfl

set_option maxRecDepth 100000 in
theorem lifted (os : Os) (started : os.Started) (H : Type) (enc : TypeId × Value → H) :
    ReturnsInHanded {} Try.checked os 14 .any (Rows.fnExactValidFilesSpec.pre6 enc Try.prog Try.f14 Rows.fnExactValidFilesRow.domain false) (Rows.fnExactValidFilesSpec.post enc Try.prog Try.f14 false true false false) := by
  refine returnsInHanded_of_change (C := Try.checked) own started (by kernel_rfl) Try.func14
    (ChangeSpec.witness6 (enc := enc) (C := Try.checked) false ⟨#[], #[.slice none 0 0], []⟩ 8 (by kernel_rfl) (by kernel_rfl) (by kernel_rfl) (by kernel_rfl)) ?_
  intro W base args ds gs before hval0 hW hcnd _
  have hval : ∀ (j : Nat) t v, Try.f14.params[j]? = some t → args[j]? = some v → Value.okWide Try.prog W .any base t v := hval0
  have hW' := hW
  obtain ⟨p, q, hA0, hV, rfl, hfz, hnd⟩ := hW
  have hA : DataW.TrodAll enc Try.prog W 0 (fun _ => true) true Try.f14.params.toList args.toList ds p := hA0
  rw [Try.params14] at hA hval
  obtain ⟨v0, d0, rfl, rfl, h0⟩ := trodAll_one hA
  obtain ⟨rfl, rfl⟩ := trodVars_none hV
  clear hA0 hval0
  suffices hwalk : Calls Try.prog 14 #[v0] W (fun e W' => e = .returned (.bool true) ∧ Below W.heap.size W W') by
    refine hwalk.mono fun e W' ⟨he, hb⟩ => ?_
    subst he
    exact ⟨_, rfl, law_post laidOut rfl rfl Try.underlying4 params hW' rfl hb⟩
  obtain ⟨a0, n0, c0, rfl⟩ := okWide_slice Try.underlying53 (hval 0 53 v0 rfl rfl)
  obtain ⟨fuel, hf⟩ := h0
  obtain ⟨A, c, l, e, hR, hm, hok⟩ := open_flat (f := fFile) (ok := okFile) (size := 2) Try.underlying53 (by kernel_rfl) (by omega) fFile_len (fun fuel cs x h => openFile h) hf
  simp only [Value.cells, List.cons.injEq, and_true] at e
  rw [e]
  exact walk A c l W hR hm hok

theorem proved : Rows.FnExactValidFilesSaid :=
  OpenClaim.holds_of_wide 14 Try.f14 rfl rfl rfl rfl rfl rfl rfl ⟨rfl, rfl, rfl, rfl, rfl⟩ rfl rfl rfl rfl rfl (by kernel_rfl) Try.func14 (by kernel_rfl)
    (of_decide_eq_true (by kernel_rfl)) (by unfold Func.isWrapper; first | (rw [if_pos (by decide +kernel)]; kernel_rfl) | (rw [if_neg (by decide +kernel)]; exact ⟨rfl, rfl⟩))
    (fun os started H enc _ => lifted os started H enc)
#print axioms proved
end Go.Proofs.Ytepipnigcgpncaa.fnExactValidFiles
