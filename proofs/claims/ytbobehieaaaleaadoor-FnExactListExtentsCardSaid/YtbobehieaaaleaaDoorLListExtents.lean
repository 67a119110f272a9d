/- The law FnExactListExtents holds: for every input that the row lets in it returns true and leaves its arguments alone. No condition. -/
import Derived.Test.YtbobehieaaaleaaDoorRows
import Derived.Test.YtbobehieaaaleaaDoorLib
import Derived.Test.YtbobehieaaaleaaDoorStep
import Derived.Test.YtbobehieaaaleaaDoorN3
import Derived.Test.YtbobehieaaaleaaDoorTie
import Derived.Test.YtbobehieaaaleaaDoorCards
import Derived.ProofKit
import Derived.Lay
import Derived.LaidOnce
import Derived.SevenTiedAt
import Derived.OpenShut
import Derived.Deep.Slices
import Derived.Lib.SmallJoins
namespace Go.Proofs.YtbobehieaaaleaaDoor.fnExactListExtents
open Go.ChangeShapes Go.WideShapes Go.ChangeAt Go.RowKit Go.Proofs.YtbobehieaaaleaaDoor Go.Deep Go.WideMaps Go.WideElems
open Go.ChangeMaps (setBlock shut_map_nil open_string shut_string keptBut_setBlock frozen?_setBlock heap_setBlock_same)
set_option linter.unusedVariables false

theorem sum_tzString (l : List ByteArray) : l.length ≤ (tzString l).sum := by simp [tzString]
set_option maxRecDepth 100000 in
set_option maxHeartbeats 4000000 in
theorem walk (A0_b : Option Addr) (c0_b : Nat) (lb : List ByteArray) (w : World) (R0_b : RR w 1 A0_b lb.length (flat fS lb)) (hm_b : lb.length ≤ maxLen) (hok_b : ∀ x ∈ lb, okString x) : Calls Tryd.prog 4 #[.slice A0_b lb.length c0_b] w fun e W' => e = .returned (.bool true) ∧ Below w.heap.size w W' := by
  have hB := BB.start w
  have R00_b := R0_b
  rcases subs_cases (tzString lb) 1048576 (by omega) with hq | ⟨hq, hq0⟩
  · have HQ0 := Lib.hid hq
    clear hq
    go_enter Tryd.func4, Tryd.ntmps4
    go_wp2_with (first
      | (go_at_call 5; refine (szStringS_any A0_b c0_b lb 1048576 _ R0_b hm_b (by omega) (by omega) hok_b).mono ?_; rintro e w1 ⟨rfl, hx1⟩; replace hB := hB.next hx1; replace R0_b := R0_b.next hx1; rw [HQ0.out]; have m1 := True.intro))
    go_ret
    exact ⟨rfl, hB⟩
  obtain ⟨y1, hy⟩ : ∃ y : Int, y = 1048576 - ((tzString lb).sum : Nat) := ⟨_, rfl⟩
  have hsumm0 := sum_tzString lb
  have hn_b : lb.length ≤ 1048576 := by omega
  rw [← hy] at hq hq0
  have p1 : 0 ≤ y1 := hq0
  have HQ0 := Lib.hid hq
  clear hq hy hq0 hsumm0
  have hsp := fun (A : Option Addr) (cp : Nat) (W : World) (hr : RR W 1 A lb.length (flat fS lb)) => spec_ListExtents_any A cp lb W hr hn_b
  have him := fun (A : Option Addr) (cp : Nat) (W : World) (hr : RR W 1 A lb.length (flat fS lb)) (hc : lb.length ≤ cp) => impl_ListExtents_any A cp lb W hr hn_b hc
  have hrl : (lxL lb).length ≤ 1048576 := lxL_len hn_b
  generalize lxL lb = r at hsp him hrl
  generalize lxC lb = code at hsp him
  go_enter Tryd.func4, Tryd.ntmps4
  go_wp2_with (first
    | (go_at_call 14; have := m15; refine (heldStringS_any A5 c5 1 r.length _ (RR.own (OOf O5)) (by omega) (by omega) (by omega)).mono ?_; rintro e w16 ⟨rfl, hx16⟩; replace hB := hB.next hx16; replace R0_b := R0_b.next hx16; replace O3 := OO.next O3 hx16; replace O5 := OO.next O5 hx16; replace O7_b := OO.next O7_b hx16; replace O8 := OO.next O8 hx16; have m16 := True.intro)
    | (go_at_call 10; have := m14; refine (eqStringS_any A8 A3 c8 c3 r _ (RR.own (OOf O8)) (RR.own (OOf O3)) hrl).mono ?_; rintro e w15 ⟨rfl, hx15⟩; replace hB := hB.next hx15; replace R0_b := R0_b.next hx15; replace O3 := OO.next O3 hx15; replace O5 := OO.next O5 hx15; replace O7_b := OO.next O7_b hx15; replace O8 := OO.next O8 hx15; have m15 := True.intro)
    | (go_at_call 12; have := m13; refine (him A7_b c7_b _ (RR.own (OOf O7_b)) (own_capX (OOf O7_b))).mono ?_; rintro e w14 ⟨v8, rfl, O8, hx14⟩; have ne_O3_O8 := own_ne O3 O8 (Nat.le_refl _); have ne_O5_O8 := own_ne O5 O8 (Nat.le_refl _); have ne_O7_b_O8 := own_ne O7_b O8 (Nat.le_refl _); replace O8 := own_base (base' := w.heap.size) O8 (Below.size hB); obtain ⟨A8, c8, rfl⟩ := own_form O8; replace O8 : OO _ _ _ _ _ _ _ := O8; replace hB := hB.next hx14; replace R0_b := R0_b.next hx14; replace O3 := OO.next O3 hx14; replace O5 := OO.next O5 hx14; replace O7_b := OO.next O7_b hx14; have m14 := True.intro)
    | (go_at_call 7; have := m12; refine (toStringS_any A0_b c0_b lb _ R0_b hn_b).mono ?_; rintro e w13 ⟨v7_b, rfl, O7_b, hx13⟩; have ne_O3_O7_b := own_ne O3 O7_b (Nat.le_refl _); have ne_O5_O7_b := own_ne O5 O7_b (Nat.le_refl _); replace O7_b := own_base (base' := w.heap.size) O7_b (Below.size hB); obtain ⟨A7_b, c7_b, rfl⟩ := own_form O7_b; replace O7_b : OO _ _ _ _ _ _ _ := O7_b; replace hB := hB.next hx13; replace R0_b := R0_b.next hx13; replace O3 := OO.next O3 hx13; replace O5 := OO.next O5 hx13; have m13 := True.intro)
    | (go_at_call 14; have := m11; refine (heldStringS_any A5 c5 1 r.length _ (RR.own (OOf O5)) (by omega) (by omega) (by omega)).mono ?_; rintro e w12 ⟨rfl, hx12⟩; replace hB := hB.next hx12; replace R0_b := R0_b.next hx12; replace O3 := OO.next O3 hx12; replace O5 := OO.next O5 hx12; have m12 := True.intro)
    | (go_at_call 13; have := m10; refine (markStringS_any A5 c5 1 r _ w.heap.size O5 (by omega) (by omega) (by omega)).mono ?_; rintro e w11 ⟨rfl, on, hg⟩; replace hB := BB.mark hB O5 hg; replace R0_b := RR.back R00_b hB; replace O3 : OO _ _ _ _ _ _ _ := World.ownsRow.kept O3 hg ne_O3_O5; replace O5 : OO _ _ _ _ _ _ _ := on; clear on; have m11 := True.intro)
    | (go_at_call 10; have := m9; refine (eqStringS_any A5 A3 c5 c3 r _ (RR.own (OOf O5)) (RR.own (OOf O3)) hrl).mono ?_; rintro e w10 ⟨rfl, hx10⟩; replace hB := hB.next hx10; replace R0_b := R0_b.next hx10; replace O3 := OO.next O3 hx10; replace O5 := OO.next O5 hx10; have m10 := True.intro)
    | (go_at_call 13; have := m8; refine (markStringS_any A4_b c4_b (1) lb _ w.heap.size O4_b (by omega) (by omega) (by omega)).mono ?_; rintro e w9 ⟨rfl, on, hg⟩; replace hB := BB.mark hB O4_b hg; replace R0_b := RR.back R00_b hB; replace O3 : OO _ _ _ _ _ _ _ := World.ownsRow.kept O3 hg ne_O3_O4_b; replace O5 : OO _ _ _ _ _ _ _ := World.ownsRow.kept O5 hg (ne_flip ne_O4_b_O5); replace O4_b : OO _ _ _ _ _ _ _ := on; clear on; have m9 := True.intro)
    | (go_at_call 10; have := m7; refine (eqStringS_any A4_b A6_b c4_b c6_b lb _ (RR.own (OOf O4_b)) (RR.own (OOf O6_b)) hn_b).mono ?_; rintro e w8 ⟨rfl, hx8⟩; replace hB := hB.next hx8; replace R0_b := R0_b.next hx8; replace O3 := OO.next O3 hx8; replace O4_b := OO.next O4_b hx8; replace O5 := OO.next O5 hx8; have m8 := True.intro)
    | (go_at_call 7; have := m6; refine (toStringS_any A0_b c0_b lb _ R0_b hn_b).mono ?_; rintro e w7 ⟨v6_b, rfl, O6_b, hx7⟩; have ne_O3_O6_b := own_ne O3 O6_b (Nat.le_refl _); have ne_O4_b_O6_b := own_ne O4_b O6_b (Nat.le_refl _); have ne_O5_O6_b := own_ne O5 O6_b (Nat.le_refl _); replace O6_b := own_base (base' := w.heap.size) O6_b (Below.size hB); obtain ⟨A6_b, c6_b, rfl⟩ := own_form O6_b; replace O6_b : OO _ _ _ _ _ _ _ := O6_b; replace hB := hB.next hx7; replace R0_b := R0_b.next hx7; replace O3 := OO.next O3 hx7; replace O4_b := OO.next O4_b hx7; replace O5 := OO.next O5 hx7; have m7 := True.intro)
    | (go_at_call 10; have := m5; refine (eqStringS_any A5 A3 c5 c3 r _ (RR.own (OOf O5)) (RR.own (OOf O3)) hrl).mono ?_; rintro e w6 ⟨rfl, hx6⟩; replace hB := hB.next hx6; replace R0_b := R0_b.next hx6; replace O3 := OO.next O3 hx6; replace O4_b := OO.next O4_b hx6; replace O5 := OO.next O5 hx6; have m6 := True.intro)
    | (go_at_call 12; have := m4; refine (him A4_b c4_b _ (RR.own (OOf O4_b)) (own_capX (OOf O4_b))).mono ?_; rintro e w5 ⟨v5, rfl, O5, hx5⟩; have ne_O3_O5 := own_ne O3 O5 (Nat.le_refl _); have ne_O4_b_O5 := own_ne O4_b O5 (Nat.le_refl _); replace O5 := own_base (base' := w.heap.size) O5 (Below.size hB); obtain ⟨A5, c5, rfl⟩ := own_form O5; replace O5 : OO _ _ _ _ _ _ _ := O5; replace hB := hB.next hx5; replace R0_b := R0_b.next hx5; replace O3 := OO.next O3 hx5; replace O4_b := OO.next O4_b hx5; have m5 := True.intro)
    | (go_at_call 7; have := m3; refine (toStringS_any A0_b c0_b lb _ R0_b hn_b).mono ?_; rintro e w4 ⟨v4_b, rfl, O4_b, hx4⟩; have ne_O3_O4_b := own_ne O3 O4_b (Nat.le_refl _); replace O4_b := own_base (base' := w.heap.size) O4_b (Below.size hB); obtain ⟨A4_b, c4_b, rfl⟩ := own_form O4_b; replace O4_b : OO _ _ _ _ _ _ _ := O4_b; replace hB := hB.next hx4; replace R0_b := R0_b.next hx4; replace O3 := OO.next O3 hx4; have m4 := True.intro)
    | (go_at_call 11; have := m2; refine (hsp A2_b c2_b _ (RR.own (OOf O2_b))).mono ?_; rintro e w3 ⟨v3, rfl, O3, hx3⟩; have ne_O2_b_O3 := own_ne O2_b O3 (Nat.le_refl _); replace O3 := own_base (base' := w.heap.size) O3 (Below.size hB); obtain ⟨A3, c3, rfl⟩ := own_form O3; replace O3 : OO _ _ _ _ _ _ _ := O3; replace hB := hB.next hx3; replace R0_b := R0_b.next hx3; have m3 := True.intro)
    | (go_at_call 7; have := m1; refine (toStringS_any A0_b c0_b lb _ R0_b hn_b).mono ?_; rintro e w2 ⟨v2_b, rfl, O2_b, hx2⟩; replace O2_b := own_base (base' := w.heap.size) O2_b (Below.size hB); obtain ⟨A2_b, c2_b, rfl⟩ := own_form O2_b; replace O2_b : OO _ _ _ _ _ _ _ := O2_b; replace hB := hB.next hx2; replace R0_b := R0_b.next hx2; have m2 := True.intro)
    | (go_at_call 5; refine (szStringS_any A0_b c0_b lb 1048576 _ R0_b hm_b (by omega) (by omega) hok_b).mono ?_; rintro e w1 ⟨rfl, hx1⟩; replace hB := hB.next hx1; replace R0_b := R0_b.next hx1; rw [HQ0.out]; have m1 := True.intro))
  go_ret
  exact ⟨rfl, hB⟩

def laid : List (String × DataW Unit) := [("unicode/utf8.acceptRanges", Rows.laid_unicode_utf8_acceptRanges), ("unicode/utf8.first", Rows.laid_unicode_utf8_first)]
theorem own : ownKnob Tryd.prog.godebug = none := by kernel_rfl
theorem laidOut : laidOutB Tryd.prog = true := by kernel_rfl
theorem params : Tryd.f4.params.toList.all (fun t => Tryd.prog.readableRec t && decide (t < Tryd.prog.types.size)) = true := by kernel_rfl

set_option maxRecDepth 100000 in
theorem lifted (os : Os) (started : os.Started) (H : Type) (enc : TypeId × Value → H) :
    ReturnsInHanded {} Tryd.checked os 4 .any (fun w args => (Rows.fnExactListExtentsSpec.pre enc Tryd.prog Tryd.f4 Rows.fnExactListExtentsRow.domain false w args ∧ laidMetH Tryd.prog laid w) ∧ sizedMet enc Tryd.prog Tryd.f4 (OpenSpec.ofChange Rows.fnExactListExtentsSpec) false w args)
      (Rows.fnExactListExtentsSpec.post enc Tryd.prog Tryd.f4 false true false false) := by
  refine returnsInHanded_of_change_and (C := Tryd.checked) (X := fun w _ => laidMetH Tryd.prog laid w) (fun _ _ _ hh h => h.of_heap hh) own started (by kernel_rfl) Tryd.func4
    (ChangeSpec.witness_shaped (enc := enc) (C := Tryd.checked) (os := os) (X := fun w _ => laidMetH Tryd.prog laid w) false (World.laidAll Tryd.prog os laid) #[.slice none 0 0] 8 (World.laidAll_os _ _ _)
      (World.shaped_of_ZipB (by kernel_rfl) (by kernel_rfl)) (by kernel_rfl) (by kernel_rfl) (by kernel_rfl)
      (by rw [MakeChecks.laidMetH_plain _ _ _ (by kernel_rfl)]; exact laidMet_laidAll _ (by kernel_rfl) (by kernel_rfl))) ?_
  intro W base args ds gs before hval0 hW _ _ hL _
  have hval : ∀ (j : Nat) t v, Tryd.f4.params[j]? = some t → args[j]? = some v → Value.okWide Tryd.prog W .any base t v := hval0
  have hW' := hW
  obtain ⟨p, q, hA0, hV, rfl, hfz, hnd⟩ := hW
  have hA : DataW.TrodAll enc Tryd.prog W 0 (fun _ => true) true Tryd.f4.params.toList args.toList ds p := hA0
  rw [Tryd.params4] at hA hval
  obtain ⟨v0, d0, rfl, rfl, h0⟩ := trodAll_one hA
  obtain ⟨rfl, rfl⟩ := trodVars_none hV
  clear hA0 hval0
  suffices hwalk : Calls Tryd.prog 4 #[v0] W (fun e W' => e = .returned (.bool true) ∧ Below W.heap.size W W') by
    refine hwalk.mono fun e W' ⟨he, hb⟩ => ?_
    subst he
    exact ⟨_, rfl, law_post laidOut rfl rfl Tryd.underlying4 params hW' rfl hb⟩
  obtain ⟨u0_0, u0_1, u0_2, rfl⟩ := okWide_slice Tryd.underlying22 (hval 0 22 v0 rfl rfl)
  obtain ⟨fuel0, hf0⟩ := h0
  obtain ⟨A0_b, c0_b, lb, e0, hR_b, hm_b, hk_b⟩ := open_flat (f := fS) (ok := okString) (size := 1) Tryd.underlying22 (by kernel_rfl) (by omega) fS_len (fun fuel cs x h => by
    obtain ⟨a, e, _, wa⟩ := DataW.trod_string Tryd.underlying9 h
    exact ⟨a, e, wa⟩) hf0
  simp only [Value.cells, List.cons.injEq, and_true] at e0
  rw [e0]
  exact walk A0_b c0_b lb  W hR_b hm_b hk_b

theorem holds : Rows.FnExactListExtentsSaid :=
  OpenClaim.holds_of_wide 4 Tryd.f4 rfl rfl rfl rfl rfl rfl rfl ⟨rfl, rfl, rfl, rfl, rfl⟩ rfl rfl rfl rfl rfl (by kernel_rfl) Tryd.func4 (by kernel_rfl)
    (of_decide_eq_true (by kernel_rfl)) (by unfold Func.isWrapper; first | (rw [if_pos (by decide +kernel)]; kernel_rfl) | (rw [if_neg (by decide +kernel)]; exact ⟨rfl, rfl⟩))
    (fun os started H enc _ => lifted os started H enc)
theorem proved : Rows.FnExactListExtentsCardSaid :=
  Claim7.holds_tied_plain_at .later [] [.data, .pinned] true (true, "2582a1f3c414aa8adcf471228e59ecf55bb103ac644194e7f558a15aba5288c5") false holds (fun _ h => by cases h) (by kernel_rfl) (fun _ h => by cases h) fnExactListExtents_row_tie rfl ⟨rfl, rfl⟩ (by kernel_rfl) rfl
    (fun f fn hf hfn => by
      obtain rfl : f = 4 := Option.some.inj ((show Tryd.prog.funcNamed "loop.example/g00899/laws.FnExactListExtents" = some 4 by kernel_rfl).symm.trans hf) |>.symm
      obtain rfl : fn = Tryd.f4 := (Option.some.inj (Tryd.func4.symm.trans hfn)).symm
      exact ⟨by kernel_rfl, fun j t ht => by
        rw [Tryd.params4] at ht
        have hm : t ∈ [22] := by simpa using Array.mem_of_getElem? ht
        have hall : ([22].all fun u => !Tryd.prog.wantsStandIn u) = true := by kernel_rfl
        exact (show Tryd.prog.wantsStandIn t = false by simpa using List.all_eq_true.1 hall t hm)⟩)
    (by kernel_rfl)
#print axioms proved
end Go.Proofs.YtbobehieaaaleaaDoor.fnExactListExtents
