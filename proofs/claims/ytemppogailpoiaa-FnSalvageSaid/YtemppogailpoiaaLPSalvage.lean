/- The law FnSalvage holds: for every input that the row lets in it returns true and leaves its arguments alone. No condition. -/
import Derived.Test.YtemppogailpoiaaRows
import Derived.Test.YtemppogailpoiaaLib
import Derived.Test.YtemppogailpoiaaOpen
import Derived.Test.YtemppogailpoiaaK3
import Derived.ProofKit
import Derived.OpenShut
import Derived.Deep.Slices
import Derived.Lib.SmallJoins
namespace Go.Proofs.Ytemppogailpoiaa.fnSalvage
open Go.ChangeShapes Go.WideShapes Go.ChangeAt Go.RowKit Go.Proofs.Ytemppogailpoiaa Go.Deep Go.WideMaps Go.WideElems
open Go.ChangeMaps (setBlock shut_map_nil open_string shut_string keptBut_setBlock frozen?_setBlock heap_setBlock_same)
set_option linter.unusedVariables false

theorem own : ownKnob Try.prog.godebug = none := by kernel_rfl
theorem laidOut : laidOutB Try.prog = true := by kernel_rfl
theorem params : Try.f4.params.toList.all (fun t => Try.prog.readableRec t && decide (t < Try.prog.types.size)) = true := by kernel_rfl

set_option maxRecDepth 100000 in
theorem lifted (os : Os) (started : os.Started) (H : Type) (enc : TypeId × Value → H) :
    ReturnsInHanded {} Try.checked os 4 .any (Rows.fnSalvageSpec.pre6 enc Try.prog Try.f4 Rows.fnSalvageRow.domain false) (Rows.fnSalvageSpec.post enc Try.prog Try.f4 false true false false) := by
  refine returnsInHanded_of_change (C := Try.checked) own started (by kernel_rfl) Try.func4
    (ChangeSpec.witness6 (enc := enc) (C := Try.checked) false ⟨#[], #[.slice none 0 0, .slice none 0 0], []⟩ 8 (by kernel_rfl) (by kernel_rfl) (by kernel_rfl) (by kernel_rfl)) ?_
  intro W base args ds gs before hval0 hW hcnd _
  have hval : ∀ (j : Nat) t v, Try.f4.params[j]? = some t → args[j]? = some v → Value.okWide Try.prog W .any base t v := hval0
  have hW' := hW
  obtain ⟨p, q, hA0, hV, rfl, hfz, hnd⟩ := hW
  have hA : DataW.TrodAll enc Try.prog W 0 (fun _ => true) true Try.f4.params.toList args.toList ds p := hA0
  rw [Try.params4] at hA hval
  obtain ⟨v0, v1, d0, d1, p0, p1, rfl, rfl, rfl, h0, h1⟩ := trodAll_two hA
  obtain ⟨rfl, rfl⟩ := trodVars_none hV
  clear hA0 hval0
  suffices hwalk : Calls Try.prog 4 #[v0, v1] W (fun e W' => e = .returned (.bool true) ∧ Below W.heap.size W W') by
    refine hwalk.mono fun e W' ⟨he, hb⟩ => ?_
    subst he
    exact ⟨_, rfl, law_post laidOut rfl rfl Try.underlying4 params hW' rfl hb⟩
  obtain ⟨a0, n0, d0, rfl⟩ := okWide_slice Try.underlying22 (hval 0 22 v0 rfl rfl)
  obtain ⟨fuel0, hf0⟩ := h0
  obtain ⟨A0, c0, l0, e0, hR0, hm0, _⟩ := open_flat (f := fU) (ok := fun _ => True) (size := 1) Try.underlying22 (by kernel_rfl) (by omega) fU_len (fun fuel cs x h => by
    obtain ⟨k, rfl, _, hw⟩ := DataW.trod_int Try.underlying5 h
    simp only [Lit.wf, Bool.and_eq_true, decide_eq_true_eq] at hw
    have h1 : (0 : Int) ≤ k := hw.1
    have h2 : k ≤ 255 := hw.2
    refine ⟨UInt8.ofNat k.toNat, ?_, trivial⟩
    have h3 : ((UInt8.ofNat k.toNat).toNat : Int) = k := by rw [UInt8.toNat_ofNat']; omega
    rw [fU, h3]) hf0
  simp only [Value.cells, List.cons.injEq, and_true] at e0
  rw [e0]
  obtain ⟨a1, n1, d1, rfl⟩ := okWide_slice Try.underlying22 (hval 1 22 v1 rfl rfl)
  obtain ⟨fuel1, hf1⟩ := h1
  obtain ⟨A1, c1, l1, e1, hR1, hm1, _⟩ := open_flat (f := fU) (ok := fun _ => True) (size := 1) Try.underlying22 (by kernel_rfl) (by omega) fU_len (fun fuel cs x h => by
    obtain ⟨k, rfl, _, hw⟩ := DataW.trod_int Try.underlying5 h
    simp only [Lit.wf, Bool.and_eq_true, decide_eq_true_eq] at hw
    have h1 : (0 : Int) ≤ k := hw.1
    have h2 : k ≤ 255 := hw.2
    refine ⟨UInt8.ofNat k.toNat, ?_, trivial⟩
    have h3 : ((UInt8.ofNat k.toNat).toNat : Int) = k := by rw [UInt8.toNat_ofNat']; omega
    rw [fU, h3]) hf1
  simp only [Value.cells, List.cons.injEq, and_true] at e1
  rw [e1]
  exact fnSalvage_walk A0 A1 c0 c1 l0 l1 W hR0 hm0 hR1 hm1

theorem proved : Rows.FnSalvageSaid :=
  OpenClaim.holds_of_wide 4 Try.f4 rfl rfl rfl rfl rfl rfl rfl ⟨rfl, rfl, rfl, rfl, rfl⟩ rfl rfl rfl rfl rfl (by kernel_rfl) Try.func4 (by kernel_rfl)
    (of_decide_eq_true (by kernel_rfl)) (by unfold Func.isWrapper; first | (rw [if_pos (by decide +kernel)]; kernel_rfl) | (rw [if_neg (by decide +kernel)]; exact ⟨rfl, rfl⟩))
    (fun os started H enc _ => lifted os started H enc)
#print axioms proved
end Go.Proofs.Ytemppogailpoiaa.fnSalvage
