/- The law FnExactEntryAt holds: for every input that the row lets in it returns true and leaves its arguments alone. No condition. -/
import Derived.Test.YtbobehieaaaleaaDoorRows
import Derived.Test.YtbobehieaaaleaaDoorLib
import Derived.Test.YtbobehieaaaleaaDoorStep
import Derived.Test.YtbobehieaaaleaaDoorN2
import Derived.Test.YtbobehieaaaleaaDoorW72
import Derived.Test.YtbobehieaaaleaaDoorSChainEntry
import Derived.Test.YtbobehieaaaleaaDoorTie
import Derived.Test.YtbobehieaaaleaaDoorCards
import Derived.ProofKit
import Derived.Lay
import Derived.LaidOnce
import Derived.SevenTiedAt
import Derived.OpenShut
import Derived.Deep.Slices
import Derived.Lib.SmallJoins
namespace Go.Proofs.YtbobehieaaaleaaDoor.fnExactEntryAt
open Go.ChangeShapes Go.WideShapes Go.ChangeAt Go.RowKit Go.Proofs.YtbobehieaaaleaaDoor Go.Deep Go.WideMaps Go.WideElems
open Go.ChangeMaps (setBlock shut_map_nil open_string shut_string keptBut_setBlock frozen?_setBlock heap_setBlock_same)
set_option linter.unusedVariables false

theorem sum_tzString (l : List ByteArray) : l.length ≤ (tzString l).sum := by simp [tzString]
set_option maxRecDepth 100000 in
set_option maxHeartbeats 4000000 in
theorem walk (A0_b : Option Addr) (c0_b : Nat) (lb : List ByteArray) (x : Int) (w : World) (R0_b : RR w 1 A0_b lb.length (flat fS lb)) (hm_b : lb.length ≤ maxLen) (hok_b : ∀ x ∈ lb, okString x) : Calls Tryd.prog 3 #[.slice A0_b lb.length c0_b, .int .i64 x] w fun e W' => e = .returned (.bool true) ∧ Below w.heap.size w W' := by
  have hB := BB.start w
  have R00_b := R0_b
  rcases subs_cases (tzString lb) 1048576 (by omega) with hq | ⟨hq, hq0⟩
  · have HQ0 := Lib.hid hq
    clear hq
    go_enter Tryd.func3, Tryd.ntmps3
    go_wp2_with (first
      | (go_at_call 5; refine (szStringS_any A0_b c0_b lb 1048576 _ R0_b hm_b (by omega) (by omega) hok_b).mono ?_; rintro e w1 ⟨rfl, hx1⟩; replace hB := hB.next hx1; replace R0_b := R0_b.next hx1; rw [HQ0.out]; have m1 := True.intro))
    go_ret
    exact ⟨rfl, hB⟩
  obtain ⟨y1, hy⟩ : ∃ y : Int, y = 1048576 - ((tzString lb).sum : Nat) := ⟨_, rfl⟩
  have hsumm0 := sum_tzString lb
  have hn_b : lb.length ≤ 1048576 := by omega
  rw [← hy] at hq hq0
  have p1 : 0 ≤ y1 := hq0
  have HQ0 := Lib.hid hq
  clear hq hy hq0 hsumm0
  have hsp := fun (A : Option Addr) (cp : Nat) (W : World) (hr : RR W 1 A lb.length (flat fS lb)) => spec_EntryAt_any A cp lb x W hr hn_b
  have him := fun (A : Option Addr) (cp : Nat) (W : World) (hr : RR W 1 A lb.length (flat fS lb)) (hc : lb.length ≤ cp) => impl_EntryAt_any A cp lb x W hr hn_b hc
  generalize enE lb x = ee at hsp him
  generalize enC lb x = code at hsp him
  obtain ⟨nm, fs, sz, b3, b4⟩ := ee
  go_enter Tryd.func3, Tryd.ntmps3
  go_wp2_with (first
    | (go_at_call 10; have := m7; refine (eqStringS_any A4_b A6_b c4_b c6_b lb _ (RR.own (OOf O4_b)) (RR.own (OOf O6_b)) hn_b).mono ?_; rintro e w8 ⟨rfl, hx8⟩; replace hB := hB.next hx8; replace R0_b := R0_b.next hx8; replace E3 := E3.next hx8; replace E5 := E5.next hx8; replace O4_b := OO.next O4_b hx8; replace O6_b := OO.next O6_b hx8; clear e3_0 e3_1 e3_2 e3_3 e3_4 e3_f0 e3_f1 e3_f2 e3_f3 e3_f4 e3_al; clear e5_0 e5_1 e5_2 e5_3 e5_4 e5_f0 e5_f1 e5_f2 e5_f3 e5_f4 e5_al; have e3_0 : (_ : Option Value) = some (.string nm) := E3 0 (by simp); have e3_1 : (_ : Option Value) = some (.int .i64 fs) := E3 1 (by simp); have e3_2 : (_ : Option Value) = some (.int .i64 sz) := E3 2 (by simp); have e3_3 : (_ : Option Value) = some (.bool b3) := E3 3 (by simp); have e3_4 : (_ : Option Value) = some (.bool b4) := E3 4 (by simp); have e3_al := fun (o : Obj) => E3.al o; have e3_f0 : ∀ o : Obj, (_ : Option Value) = some (.string nm) := fun o => e3_al o 0 (by simp); have e3_f1 : ∀ o : Obj, (_ : Option Value) = some (.int .i64 fs) := fun o => e3_al o 1 (by simp); have e3_f2 : ∀ o : Obj, (_ : Option Value) = some (.int .i64 sz) := fun o => e3_al o 2 (by simp); have e3_f3 : ∀ o : Obj, (_ : Option Value) = some (.bool b3) := fun o => e3_al o 3 (by simp); have e3_f4 : ∀ o : Obj, (_ : Option Value) = some (.bool b4) := fun o => e3_al o 4 (by simp); have e5_0 : (_ : Option Value) = some (.string nm) := E5 0 (by simp); have e5_1 : (_ : Option Value) = some (.int .i64 fs) := E5 1 (by simp); have e5_2 : (_ : Option Value) = some (.int .i64 sz) := E5 2 (by simp); have e5_3 : (_ : Option Value) = some (.bool b3) := E5 3 (by simp); have e5_4 : (_ : Option Value) = some (.bool b4) := E5 4 (by simp); have e5_al := fun (o : Obj) => E5.al o; have e5_f0 : ∀ o : Obj, (_ : Option Value) = some (.string nm) := fun o => e5_al o 0 (by simp); have e5_f1 : ∀ o : Obj, (_ : Option Value) = some (.int .i64 fs) := fun o => e5_al o 1 (by simp); have e5_f2 : ∀ o : Obj, (_ : Option Value) = some (.int .i64 sz) := fun o => e5_al o 2 (by simp); have e5_f3 : ∀ o : Obj, (_ : Option Value) = some (.bool b3) := fun o => e5_al o 3 (by simp); have e5_f4 : ∀ o : Obj, (_ : Option Value) = some (.bool b4) := fun o => e5_al o 4 (by simp); have m8 := True.intro)
    | (go_at_call 7; have := m6; refine (toStringS_any A0_b c0_b lb _ R0_b hn_b).mono ?_; rintro e w7 ⟨v6_b, rfl, O6_b, hx7⟩; have ne_O4_b_O6_b := own_ne O4_b O6_b (Nat.le_refl _); have nb_E3_O6_b := CP.ne_row E3 (by simp) O6_b; have nb_E5_O6_b := CP.ne_row E5 (by simp) O6_b; replace O6_b := own_base (base' := w.heap.size) O6_b (Below.size hB); obtain ⟨A6_b, c6_b, rfl⟩ := own_form O6_b; replace O6_b : OO _ _ _ _ _ _ _ := O6_b; replace hB := hB.next hx7; replace R0_b := R0_b.next hx7; replace E3 := E3.next hx7; replace E5 := E5.next hx7; replace O4_b := OO.next O4_b hx7; clear e3_0 e3_1 e3_2 e3_3 e3_4 e3_f0 e3_f1 e3_f2 e3_f3 e3_f4 e3_al; clear e5_0 e5_1 e5_2 e5_3 e5_4 e5_f0 e5_f1 e5_f2 e5_f3 e5_f4 e5_al; have e3_0 : (_ : Option Value) = some (.string nm) := E3 0 (by simp); have e3_1 : (_ : Option Value) = some (.int .i64 fs) := E3 1 (by simp); have e3_2 : (_ : Option Value) = some (.int .i64 sz) := E3 2 (by simp); have e3_3 : (_ : Option Value) = some (.bool b3) := E3 3 (by simp); have e3_4 : (_ : Option Value) = some (.bool b4) := E3 4 (by simp); have e3_al := fun (o : Obj) => E3.al o; have e3_f0 : ∀ o : Obj, (_ : Option Value) = some (.string nm) := fun o => e3_al o 0 (by simp); have e3_f1 : ∀ o : Obj, (_ : Option Value) = some (.int .i64 fs) := fun o => e3_al o 1 (by simp); have e3_f2 : ∀ o : Obj, (_ : Option Value) = some (.int .i64 sz) := fun o => e3_al o 2 (by simp); have e3_f3 : ∀ o : Obj, (_ : Option Value) = some (.bool b3) := fun o => e3_al o 3 (by simp); have e3_f4 : ∀ o : Obj, (_ : Option Value) = some (.bool b4) := fun o => e3_al o 4 (by simp); have e5_0 : (_ : Option Value) = some (.string nm) := E5 0 (by simp); have e5_1 : (_ : Option Value) = some (.int .i64 fs) := E5 1 (by simp); have e5_2 : (_ : Option Value) = some (.int .i64 sz) := E5 2 (by simp); have e5_3 : (_ : Option Value) = some (.bool b3) := E5 3 (by simp); have e5_4 : (_ : Option Value) = some (.bool b4) := E5 4 (by simp); have e5_al := fun (o : Obj) => E5.al o; have e5_f0 : ∀ o : Obj, (_ : Option Value) = some (.string nm) := fun o => e5_al o 0 (by simp); have e5_f1 : ∀ o : Obj, (_ : Option Value) = some (.int .i64 fs) := fun o => e5_al o 1 (by simp); have e5_f2 : ∀ o : Obj, (_ : Option Value) = some (.int .i64 sz) := fun o => e5_al o 2 (by simp); have e5_f3 : ∀ o : Obj, (_ : Option Value) = some (.bool b3) := fun o => e5_al o 3 (by simp); have e5_f4 : ∀ o : Obj, (_ : Option Value) = some (.bool b4) := fun o => e5_al o 4 (by simp); have m7 := True.intro)
    | (go_at_call 9; have := m5; refine (eqChainEntry_any nm fs sz b3 b4 _).mono ?_; rintro e w6 ⟨rfl, hx6⟩; have E5 := (CP.made w5 [.string nm, .int .i64 fs, .int .i64 sz, .bool b3, .bool b4] 25); have nb_E5_O4_b := OO.ne_box O4_b; replace hB := (hB.al _).next hx6; replace R0_b := (R0_b.al _).next hx6; replace E3 := (E3.al _).next hx6; replace O4_b := OO.next (O4_b.al _) hx6; replace E5 := E5.next hx6; clear e3_0 e3_1 e3_2 e3_3 e3_4 e3_f0 e3_f1 e3_f2 e3_f3 e3_f4 e3_al; have e3_0 : (_ : Option Value) = some (.string nm) := E3 0 (by simp); have e3_1 : (_ : Option Value) = some (.int .i64 fs) := E3 1 (by simp); have e3_2 : (_ : Option Value) = some (.int .i64 sz) := E3 2 (by simp); have e3_3 : (_ : Option Value) = some (.bool b3) := E3 3 (by simp); have e3_4 : (_ : Option Value) = some (.bool b4) := E3 4 (by simp); have e3_al := fun (o : Obj) => E3.al o; have e3_f0 : ∀ o : Obj, (_ : Option Value) = some (.string nm) := fun o => e3_al o 0 (by simp); have e3_f1 : ∀ o : Obj, (_ : Option Value) = some (.int .i64 fs) := fun o => e3_al o 1 (by simp); have e3_f2 : ∀ o : Obj, (_ : Option Value) = some (.int .i64 sz) := fun o => e3_al o 2 (by simp); have e3_f3 : ∀ o : Obj, (_ : Option Value) = some (.bool b3) := fun o => e3_al o 3 (by simp); have e3_f4 : ∀ o : Obj, (_ : Option Value) = some (.bool b4) := fun o => e3_al o 4 (by simp); have e5_0 : (_ : Option Value) = some (.string nm) := E5 0 (by simp); have e5_1 : (_ : Option Value) = some (.int .i64 fs) := E5 1 (by simp); have e5_2 : (_ : Option Value) = some (.int .i64 sz) := E5 2 (by simp); have e5_3 : (_ : Option Value) = some (.bool b3) := E5 3 (by simp); have e5_4 : (_ : Option Value) = some (.bool b4) := E5 4 (by simp); have e5_al := fun (o : Obj) => E5.al o; have e5_f0 : ∀ o : Obj, (_ : Option Value) = some (.string nm) := fun o => e5_al o 0 (by simp); have e5_f1 : ∀ o : Obj, (_ : Option Value) = some (.int .i64 fs) := fun o => e5_al o 1 (by simp); have e5_f2 : ∀ o : Obj, (_ : Option Value) = some (.int .i64 sz) := fun o => e5_al o 2 (by simp); have e5_f3 : ∀ o : Obj, (_ : Option Value) = some (.bool b3) := fun o => e5_al o 3 (by simp); have e5_f4 : ∀ o : Obj, (_ : Option Value) = some (.bool b4) := fun o => e5_al o 4 (by simp); have m6 := True.intro)
    | (go_at_call 8; have := m4; refine (him A4_b c4_b _ (RR.own (OOf O4_b)) (own_capX (OOf O4_b))).mono ?_; rintro e w5 ⟨rfl, hx5⟩; replace hB := hB.next hx5; replace R0_b := R0_b.next hx5; replace E3 := E3.next hx5; replace O4_b := OO.next O4_b hx5; clear e3_0 e3_1 e3_2 e3_3 e3_4 e3_f0 e3_f1 e3_f2 e3_f3 e3_f4 e3_al; have e3_0 : (_ : Option Value) = some (.string nm) := E3 0 (by simp); have e3_1 : (_ : Option Value) = some (.int .i64 fs) := E3 1 (by simp); have e3_2 : (_ : Option Value) = some (.int .i64 sz) := E3 2 (by simp); have e3_3 : (_ : Option Value) = some (.bool b3) := E3 3 (by simp); have e3_4 : (_ : Option Value) = some (.bool b4) := E3 4 (by simp); have e3_al := fun (o : Obj) => E3.al o; have e3_f0 : ∀ o : Obj, (_ : Option Value) = some (.string nm) := fun o => e3_al o 0 (by simp); have e3_f1 : ∀ o : Obj, (_ : Option Value) = some (.int .i64 fs) := fun o => e3_al o 1 (by simp); have e3_f2 : ∀ o : Obj, (_ : Option Value) = some (.int .i64 sz) := fun o => e3_al o 2 (by simp); have e3_f3 : ∀ o : Obj, (_ : Option Value) = some (.bool b3) := fun o => e3_al o 3 (by simp); have e3_f4 : ∀ o : Obj, (_ : Option Value) = some (.bool b4) := fun o => e3_al o 4 (by simp); have m5 := True.intro)
    | (go_at_call 7; have := m3; refine (toStringS_any A0_b c0_b lb _ (R0_b.al _) hn_b).mono ?_; rintro e w4 ⟨v4_b, rfl, O4_b, hx4⟩; have E3 := (CP.made w3 [.string nm, .int .i64 fs, .int .i64 sz, .bool b3, .bool b4] 25); have nb_E3_O4_b := CP.ne_row E3 (by simp) O4_b; replace O4_b := own_base (base' := w.heap.size) O4_b (Below.size (hB.al _)); obtain ⟨A4_b, c4_b, rfl⟩ := own_form O4_b; replace O4_b : OO _ _ _ _ _ _ _ := O4_b; replace hB := (hB.al _).next hx4; replace R0_b := (R0_b.al _).next hx4; replace E3 := E3.next hx4; have e3_0 : (_ : Option Value) = some (.string nm) := E3 0 (by simp); have e3_1 : (_ : Option Value) = some (.int .i64 fs) := E3 1 (by simp); have e3_2 : (_ : Option Value) = some (.int .i64 sz) := E3 2 (by simp); have e3_3 : (_ : Option Value) = some (.bool b3) := E3 3 (by simp); have e3_4 : (_ : Option Value) = some (.bool b4) := E3 4 (by simp); have e3_al := fun (o : Obj) => E3.al o; have e3_f0 : ∀ o : Obj, (_ : Option Value) = some (.string nm) := fun o => e3_al o 0 (by simp); have e3_f1 : ∀ o : Obj, (_ : Option Value) = some (.int .i64 fs) := fun o => e3_al o 1 (by simp); have e3_f2 : ∀ o : Obj, (_ : Option Value) = some (.int .i64 sz) := fun o => e3_al o 2 (by simp); have e3_f3 : ∀ o : Obj, (_ : Option Value) = some (.bool b3) := fun o => e3_al o 3 (by simp); have e3_f4 : ∀ o : Obj, (_ : Option Value) = some (.bool b4) := fun o => e3_al o 4 (by simp); have m4 := True.intro)
    | (go_at_call 6; have := m2; refine (hsp A2_b c2_b _ (RR.own (OOf O2_b))).mono ?_; rintro e w3 ⟨rfl, hx3⟩; replace hB := hB.next hx3; replace R0_b := R0_b.next hx3; have m3 := True.intro)
    | (go_at_call 7; have := m1; refine (toStringS_any A0_b c0_b lb _ R0_b hn_b).mono ?_; rintro e w2 ⟨v2_b, rfl, O2_b, hx2⟩; replace O2_b := own_base (base' := w.heap.size) O2_b (Below.size hB); obtain ⟨A2_b, c2_b, rfl⟩ := own_form O2_b; replace O2_b : OO _ _ _ _ _ _ _ := O2_b; replace hB := hB.next hx2; replace R0_b := R0_b.next hx2; have m2 := True.intro)
    | (go_at_call 5; refine (szStringS_any A0_b c0_b lb 1048576 _ R0_b hm_b (by omega) (by omega) hok_b).mono ?_; rintro e w1 ⟨rfl, hx1⟩; replace hB := hB.next hx1; replace R0_b := R0_b.next hx1; rw [HQ0.out]; have m1 := True.intro))
  go_ret
  exact ⟨rfl, hB⟩

def laid : List (String × DataW Unit) := [("unicode/utf8.acceptRanges", Rows.laid_unicode_utf8_acceptRanges), ("unicode/utf8.first", Rows.laid_unicode_utf8_first)]
theorem own : ownKnob Tryd.prog.godebug = none := by kernel_rfl
theorem laidOut : laidOutB Tryd.prog = true := by kernel_rfl
theorem params : Tryd.f3.params.toList.all (fun t => Tryd.prog.readableRec t && decide (t < Tryd.prog.types.size)) = true := by kernel_rfl

set_option maxRecDepth 100000 in
theorem lifted (os : Os) (started : os.Started) (H : Type) (enc : TypeId × Value → H) :
    ReturnsInHanded {} Tryd.checked os 3 .any (fun w args => (Rows.fnExactEntryAtSpec.pre enc Tryd.prog Tryd.f3 Rows.fnExactEntryAtRow.domain false w args ∧ laidMetH Tryd.prog laid w) ∧ sizedMet enc Tryd.prog Tryd.f3 (OpenSpec.ofChange Rows.fnExactEntryAtSpec) false w args)
      (Rows.fnExactEntryAtSpec.post enc Tryd.prog Tryd.f3 false true false false) := by
  refine returnsInHanded_of_change_and (C := Tryd.checked) (X := fun w _ => laidMetH Tryd.prog laid w) (fun _ _ _ hh h => h.of_heap hh) own started (by kernel_rfl) Tryd.func3
    (ChangeSpec.witness_shaped (enc := enc) (C := Tryd.checked) (os := os) (X := fun w _ => laidMetH Tryd.prog laid w) false (World.laidAll Tryd.prog os laid) #[.slice none 0 0, .int .i64 0] 8 (World.laidAll_os _ _ _)
      (World.shaped_of_ZipB (by kernel_rfl) (by kernel_rfl)) (by kernel_rfl) (by kernel_rfl) (by kernel_rfl)
      (by rw [MakeChecks.laidMetH_plain _ _ _ (by kernel_rfl)]; exact laidMet_laidAll _ (by kernel_rfl) (by kernel_rfl))) ?_
  intro W base args ds gs before hval0 hW _ _ hL _
  have hval : ∀ (j : Nat) t v, Tryd.f3.params[j]? = some t → args[j]? = some v → Value.okWide Tryd.prog W .any base t v := hval0
  have hW' := hW
  obtain ⟨p, q, hA0, hV, rfl, hfz, hnd⟩ := hW
  have hA : DataW.TrodAll enc Tryd.prog W 0 (fun _ => true) true Tryd.f3.params.toList args.toList ds p := hA0
  rw [Tryd.params3] at hA hval
  obtain ⟨v0, v1, d0, d1, p0, p1, rfl, rfl, rfl, h0, h1⟩ := trodAll_two hA
  obtain ⟨rfl, rfl⟩ := trodVars_none hV
  clear hA0 hval0
  suffices hwalk : Calls Tryd.prog 3 #[v0, v1] W (fun e W' => e = .returned (.bool true) ∧ Below W.heap.size W W') by
    refine hwalk.mono fun e W' ⟨he, hb⟩ => ?_
    subst he
    exact ⟨_, rfl, law_post laidOut rfl rfl Tryd.underlying4 params hW' rfl hb⟩
  obtain ⟨u0_0, u0_1, u0_2, rfl⟩ := okWide_slice Tryd.underlying22 (hval 0 22 v0 rfl rfl)
  obtain ⟨fuel0, hf0⟩ := h0
  obtain ⟨A0_b, c0_b, lb, e0, hR_b, hm_b, hk_b⟩ := open_flat (f := fS) (ok := okString) (size := 1) Tryd.underlying22 (by kernel_rfl) (by omega) fS_len (fun fuel cs x h => by
    obtain ⟨a, e, _, wa⟩ := DataW.trod_string Tryd.underlying9 h
    exact ⟨a, e, wa⟩) hf0
  simp only [Value.cells, List.cons.injEq, and_true] at e0
  rw [e0]
  obtain ⟨x, rfl, rfl, rfl, wx⟩ := open_int Tryd.underlying2 (hval 1 2 v1 rfl rfl) h1
  exact walk A0_b c0_b lb x W hR_b hm_b hk_b

theorem holds : Rows.FnExactEntryAtSaid :=
  OpenClaim.holds_of_wide 3 Tryd.f3 rfl rfl rfl rfl rfl rfl rfl ⟨rfl, rfl, rfl, rfl, rfl⟩ rfl rfl rfl rfl rfl (by kernel_rfl) Tryd.func3 (by kernel_rfl)
    (of_decide_eq_true (by kernel_rfl)) (by unfold Func.isWrapper; first | (rw [if_pos (by decide +kernel)]; kernel_rfl) | (rw [if_neg (by decide +kernel)]; exact ⟨rfl, rfl⟩))
    (fun os started H enc _ => lifted os started H enc)
theorem proved : Rows.FnExactEntryAtCardSaid :=
  Claim7.holds_tied_plain_at .later [] [.data, .pinned] true (true, "2582a1f3c414aa8adcf471228e59ecf55bb103ac644194e7f558a15aba5288c5") false holds (fun _ h => by cases h) (by kernel_rfl) (fun _ h => by cases h) fnExactEntryAt_row_tie rfl ⟨rfl, rfl⟩ (by kernel_rfl) rfl
    (fun f fn hf hfn => by
      obtain rfl : f = 3 := Option.some.inj ((show Tryd.prog.funcNamed "loop.example/g00899/laws.FnExactEntryAt" = some 3 by kernel_rfl).symm.trans hf) |>.symm
      obtain rfl : fn = Tryd.f3 := (Option.some.inj (Tryd.func3.symm.trans hfn)).symm
      exact ⟨by kernel_rfl, fun j t ht => by
        rw [Tryd.params3] at ht
        have hm : t ∈ [22, 2] := by simpa using Array.mem_of_getElem? ht
        have hall : ([22, 2].all fun u => !Tryd.prog.wantsStandIn u) = true := by kernel_rfl
        exact (show Tryd.prog.wantsStandIn t = false by simpa using List.all_eq_true.1 hall t hm)⟩)
    (by kernel_rfl)
#print axioms proved
end Go.Proofs.YtbobehieaaaleaaDoor.fnExactEntryAt
