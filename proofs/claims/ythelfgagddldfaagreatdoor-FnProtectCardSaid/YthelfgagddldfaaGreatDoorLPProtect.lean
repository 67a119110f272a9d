/- The law FnProtect holds: for every input that the row lets in it returns true and leaves its arguments alone. No condition. -/
import Derived.Test.YthelfgagddldfaaGreatDoorRows
import Derived.Test.YthelfgagddldfaaGreatDoorLib
import Derived.Test.YthelfgagddldfaaGreatDoorOpen
import Derived.Test.YthelfgagddldfaaGreatDoorV2
import Derived.Test.YthelfgagddldfaaGreatDoorTie
import Derived.Test.YthelfgagddldfaaGreatDoorCards
import Derived.ProofKit
import Derived.Lay
import Derived.LaidOnce
import Derived.SevenTiedAt
import Derived.OpenShut
import Derived.Deep.Slices
import Derived.Lib.SmallJoins
namespace Go.Proofs.YthelfgagddldfaaGreatDoor.fnProtect
open Go.ChangeShapes Go.WideShapes Go.ChangeAt Go.RowKit Go.Proofs.YthelfgagddldfaaGreatDoor Go.Deep Go.WideMaps Go.WideElems
open Go.ChangeMaps (setBlock shut_map_nil open_string shut_string keptBut_setBlock frozen?_setBlock heap_setBlock_same)
set_option linter.unusedVariables false

def laid : List (String × DataW Unit) := laidRF
theorem own : ownKnob Tryz.prog.godebug = none := by kernel_rfl
theorem laidOut : laidOutB Tryz.prog = true := by kernel_rfl
theorem gvar : ∀ g t, Tryz.prog.globalNamed "loop.example/g00899/impl.featureWords" = some g → (Tryz.prog.globals[g]?).map (·.type) = some t → Tryz.prog.readableRec t = true ∧ t < Tryz.prog.types.size := by
  intro g t h1 h2
  obtain rfl := Option.some.inj ((show Tryz.prog.globalNamed "loop.example/g00899/impl.featureWords" = some 0 by kernel_rfl).symm.trans h1)
  obtain rfl := Option.some.inj ((show (Tryz.prog.globals[0]?).map (·.type) = some 52 by kernel_rfl).symm.trans h2)
  exact ⟨by kernel_rfl, of_decide_eq_true (by kernel_rfl)⟩
theorem params : Tryz.f3.params.toList.all (fun t => Tryz.prog.readableRec t && decide (t < Tryz.prog.types.size)) = true := by kernel_rfl

set_option maxRecDepth 100000 in
theorem lifted (os : Os) (started : os.Started) (H : Type) (enc : TypeId × Value → H) :
    ReturnsInHanded {} Tryz.checked os 3 .any (fun w args => (Rows.fnProtectSpec.pre enc Tryz.prog Tryz.f3 Rows.fnProtectRow.domain false w args ∧ laidMetH Tryz.prog laid w) ∧ sizedMet enc Tryz.prog Tryz.f3 (OpenSpec.ofChange Rows.fnProtectSpec) false w args)
      (Rows.fnProtectSpec.post enc Tryz.prog Tryz.f3 false true false false) := by
  refine returnsInHanded_of_change_and_shaped (C := Tryz.checked) (X := fun w _ => laidMetH Tryz.prog laid w) (fun _ _ _ hh h => h.of_heap hh) own started (by kernel_rfl) Tryz.func3
    (ChangeSpec.witness_shaped (enc := enc) (C := Tryz.checked) (os := os) (X := fun w _ => laidMetH Tryz.prog laid w) false (World.laidAll Tryz.prog os laid) #[.slice none 0 0, .slice none 0 0] 8 (World.laidAll_os _ _ _)
      (World.shaped_of_ZipB (by kernel_rfl) (by kernel_rfl)) (by kernel_rfl) (by kernel_rfl) (by kernel_rfl)
      (by rw [MakeChecks.laidMetH_plain _ _ _ (by kernel_rfl)]; exact laidMet_laidAll _ (by kernel_rfl) (by kernel_rfl))) ?_
  intro W base args ds gs before hval0 hW hL hsh
  have hval : ∀ (j : Nat) t v, Tryz.f3.params[j]? = some t → args[j]? = some v → Value.okWide Tryz.prog W .any base t v := hval0
  have hW' := hW
  obtain ⟨p, q, hA0, hV, rfl, hfz, hnd⟩ := hW
  have hA : DataW.TrodAll enc Tryz.prog W 0 (fun _ => true) true Tryz.f3.params.toList args.toList ds p := hA0
  rw [Tryz.params3] at hA hval
  obtain ⟨v0, v1, d0, d1, p0, p1, rfl, rfl, rfl, h0, h1⟩ := trodAll_two hA
  obtain ⟨gG, tG, csG, fuG, dG, pG, rfl, _, _, _, _, _⟩ := trodVars_one hV
  clear hA0 hval0
  suffices hwalk : Calls Tryz.prog 3 #[v0, v1] W (fun e W' => e = .returned (.bool true) ∧ Below W.heap.size W W') by
    refine hwalk.mono fun e W' ⟨he, hb⟩ => ?_
    subst he
    exact ⟨_, rfl, law_post1 laidOut rfl rfl Tryz.underlying4 params gvar hW' rfl hb⟩
  obtain ⟨a0, n0, c0, rfl⟩ := okWide_slice Tryz.underlying22 (hval 0 22 v0 rfl rfl)
  obtain ⟨a1, n1, c1, rfl⟩ := okWide_slice Tryz.underlying22 (hval 1 22 v1 rfl rfl)
  obtain ⟨fuel0, hf0⟩ := h0
  obtain ⟨A, c, l, e0, hR, hm, _⟩ := open_flat (f := fU) (ok := fun _ => True) (size := 1) Tryz.underlying22 (by kernel_rfl) (by omega) fU_len (fun fuel cs x h => by
    obtain ⟨k, rfl, _, hw⟩ := DataW.trod_int Tryz.underlying5 h
    simp only [Lit.wf, Bool.and_eq_true, decide_eq_true_eq] at hw
    have h1 : (0 : Int) ≤ k := hw.1
    have h2 : k ≤ 255 := hw.2
    refine ⟨UInt8.ofNat k.toNat, ?_, trivial⟩
    have h3 : ((UInt8.ofNat k.toNat).toNat : Int) = k := by rw [UInt8.toNat_ofNat']; omega
    rw [fU, h3]) hf0
  simp only [Value.cells, List.cons.injEq, and_true] at e0
  obtain ⟨fuel1, hf1⟩ := h1
  obtain ⟨B, d, k, e1, hS, hn, _⟩ := open_flat (f := fU) (ok := fun _ => True) (size := 1) Tryz.underlying22 (by kernel_rfl) (by omega) fU_len (fun fuel cs x h => by
    obtain ⟨k, rfl, _, hw⟩ := DataW.trod_int Tryz.underlying5 h
    simp only [Lit.wf, Bool.and_eq_true, decide_eq_true_eq] at hw
    have h1 : (0 : Int) ≤ k := hw.1
    have h2 : k ≤ 255 := hw.2
    refine ⟨UInt8.ofNat k.toNat, ?_, trivial⟩
    have h3 : ((UInt8.ofNat k.toNat).toNat : Int) = k := by rw [UInt8.toNat_ofNat']; omega
    rw [fU, h3]) hf1
  simp only [Value.cells, List.cons.injEq, and_true] at e1
  rw [e0, e1]
  exact walk_Protect A B l.length c k.length d l k W rfl rfl hR hS (gw_of hL hsh)

theorem holds : Rows.FnProtectSaid :=
  OpenClaim.holds_of_wide 3 Tryz.f3 rfl rfl rfl rfl rfl rfl rfl ⟨rfl, rfl, rfl, rfl, rfl⟩ rfl rfl rfl rfl rfl (by kernel_rfl) Tryz.func3 (by kernel_rfl)
    (of_decide_eq_true (by kernel_rfl)) (by unfold Func.isWrapper; first | (rw [if_pos (by decide +kernel)]; kernel_rfl) | (rw [if_neg (by decide +kernel)]; exact ⟨rfl, rfl⟩))
    (fun os started H enc _ => lifted os started H enc)
theorem proved : Rows.FnProtectCardSaid :=
  Claim7.holds_tied_plain_at .later [] [.data, .data, .data, .data, .sentinel, .sentinel, .data, .pinned] true (true, "987c72968c5dac6348178825aa096afd9d412d9a3b6a72ab421549fb67aada45") true holds (fun _ h => by cases h) (by kernel_rfl) (fun _ h => by cases h) fnProtect_row_tie rfl ⟨rfl, rfl⟩ (by kernel_rfl) rfl
    (fun f fn hf hfn => by
      obtain rfl : f = 3 := Option.some.inj ((show Tryz.prog.funcNamed "loop.example/g00899/laws.FnProtect" = some 3 by kernel_rfl).symm.trans hf) |>.symm
      obtain rfl : fn = Tryz.f3 := (Option.some.inj (Tryz.func3.symm.trans hfn)).symm
      exact ⟨by kernel_rfl, fun j t ht => by
        rw [Tryz.params3] at ht
        have hm : t ∈ [22, 22] := by simpa using Array.mem_of_getElem? ht
        have hall : ([22, 22].all fun u => !Tryz.prog.wantsStandIn u) = true := by kernel_rfl
        exact (show Tryz.prog.wantsStandIn t = false by simpa using List.all_eq_true.1 hall t hm)⟩)
    (by kernel_rfl)
#print axioms proved
end Go.Proofs.YthelfgagddldfaaGreatDoor.fnProtect
