/- The law FnExactExtentsOn holds: for every input that the row lets in it returns true and leaves its arguments alone. No condition. -/
import Derived.Test.YtipkckoejkmhfaaRows
import Derived.Test.YtipkckoejkmhfaaLib
import Derived.Test.YtipkckoejkmhfaaStep
import Derived.Test.YtipkckoejkmhfaaW106
import Derived.Test.YtipkckoejkmhfaaW108
import Derived.Test.YtipkckoejkmhfaaSExl
import Derived.Test.YtipkckoejkmhfaaW72
import Derived.ProofKit
import Derived.OpenShut
import Derived.Deep.Slices
import Derived.Lib.SmallJoins
namespace Go.Proofs.Ytipkckoejkmhfaa.fnExactExtentsOn
open Go.ChangeShapes Go.WideShapes Go.ChangeAt Go.RowKit Go.Proofs.Ytipkckoejkmhfaa Go.Deep Go.WideMaps Go.WideElems
open Go.ChangeMaps (setBlock shut_map_nil open_string shut_string keptBut_setBlock frozen?_setBlock heap_setBlock_same)
set_option linter.unusedVariables false

theorem sum_tzString (l : List ByteArray) : l.length ≤ (tzString l).sum := by simp [tzString]
set_option maxRecDepth 100000 in
set_option maxHeartbeats 4000000 in
theorem walk (A0_b : Option Addr) (c0_b : Nat) (lb : List ByteArray) (w : World) (R0_b : RR w 1 A0_b lb.length (flat fS lb)) (hm_b : lb.length ≤ maxLen) (hok_b : ∀ x ∈ lb, okString x) : Calls Try.prog 5 #[.slice A0_b lb.length c0_b] w fun e W' => e = .returned (.bool true) ∧ Below w.heap.size w W' := by
  have hB := BB.start w
  have R00_b := R0_b
  rcases subs_cases (tzString lb) 1048576 (by omega) with hq | ⟨hq, hq0⟩
  · have HQ0 := Lib.hid hq
    clear hq
    go_enter Try.func5, Try.ntmps5
    go_wp2_with (first
      | (go_at_call 8; refine (szStringS_any A0_b c0_b lb 1048576 _ R0_b hm_b (by omega) (by omega) hok_b).mono ?_; rintro e w1 ⟨rfl, hx1⟩; replace hB := hB.next hx1; replace R0_b := R0_b.next hx1; rw [HQ0.out]; have m1 := True.intro))
    go_ret
    exact ⟨rfl, hB⟩
  obtain ⟨y1, hy⟩ : ∃ y : Int, y = 1048576 - ((tzString lb).sum : Nat) := ⟨_, rfl⟩
  have hsumm0 := sum_tzString lb
  have hn_b : lb.length ≤ 1048576 := by omega
  rw [← hy] at hq hq0
  have p1 : 0 ≤ y1 := hq0
  have HQ0 := Lib.hid hq
  clear hq hy hq0 hsumm0
  have hsp := fun (A : Option Addr) (cp : Nat) (W : World) (hr : RR W 1 A lb.length (flat fS lb)) => spec_ExtentsOn_any A cp lb W hr hn_b
  have him := fun (A : Option Addr) (cp : Nat) (W : World) (hr : RR W 1 A lb.length (flat fS lb)) (hc : lb.length ≤ cp) => impl_ExtentsOn_any A cp lb W hr hn_b hc (fun b s x w h1 h2 h3 => extentHeader_any b s x w h1 h2 h3)
  generalize loN (exB lb) (lb.length) = x0 at hsp him
  generalize loN (exB lb) (s0 lb) = x1 at hsp him
  generalize loN (exB lb) (lb.length / 4) = x2 at hsp him
  generalize loN (exB lb) (exD lb.length (s0 lb)) = x3 at hsp him
  generalize (if exB lb then (0 : Int) else 7) = code at hsp him
  go_enter Try.func5, Try.ntmps5
  go_wp2_with (first
    | (go_at_call 13; have := m7; refine (eqStringS_any A4_b A6_b c4_b c6_b lb _ (RR.own (OOf O4_b)) (RR.own (OOf O6_b)) hn_b).mono ?_; rintro e w8 ⟨rfl, hx8⟩; replace hB := hB.next hx8; replace R0_b := R0_b.next hx8; replace E3 := E3.next hx8; replace E5 := E5.next hx8; replace O4_b := OO.next O4_b hx8; replace O6_b := OO.next O6_b hx8; clear e3_0 e3_1 e3_2 e3_3 e3_f0 e3_f1 e3_f2 e3_f3 e3_al; clear e5_0 e5_1 e5_2 e5_3 e5_f0 e5_f1 e5_f2 e5_f3 e5_al; have e3_0 : (_ : Option Value) = some (.int .i64 x0) := E3 0 (by simp); have e3_1 : (_ : Option Value) = some (.int .i64 x1) := E3 1 (by simp); have e3_2 : (_ : Option Value) = some (.int .i64 x2) := E3 2 (by simp); have e3_3 : (_ : Option Value) = some (.int .i64 x3) := E3 3 (by simp); have e3_al := fun (o : Obj) => E3.al o; have e3_f0 : ∀ o : Obj, (_ : Option Value) = some (.int .i64 x0) := fun o => e3_al o 0 (by simp); have e3_f1 : ∀ o : Obj, (_ : Option Value) = some (.int .i64 x1) := fun o => e3_al o 1 (by simp); have e3_f2 : ∀ o : Obj, (_ : Option Value) = some (.int .i64 x2) := fun o => e3_al o 2 (by simp); have e3_f3 : ∀ o : Obj, (_ : Option Value) = some (.int .i64 x3) := fun o => e3_al o 3 (by simp); have e5_0 : (_ : Option Value) = some (.int .i64 x0) := E5 0 (by simp); have e5_1 : (_ : Option Value) = some (.int .i64 x1) := E5 1 (by simp); have e5_2 : (_ : Option Value) = some (.int .i64 x2) := E5 2 (by simp); have e5_3 : (_ : Option Value) = some (.int .i64 x3) := E5 3 (by simp); have e5_al := fun (o : Obj) => E5.al o; have e5_f0 : ∀ o : Obj, (_ : Option Value) = some (.int .i64 x0) := fun o => e5_al o 0 (by simp); have e5_f1 : ∀ o : Obj, (_ : Option Value) = some (.int .i64 x1) := fun o => e5_al o 1 (by simp); have e5_f2 : ∀ o : Obj, (_ : Option Value) = some (.int .i64 x2) := fun o => e5_al o 2 (by simp); have e5_f3 : ∀ o : Obj, (_ : Option Value) = some (.int .i64 x3) := fun o => e5_al o 3 (by simp); have m8 := True.intro)
    | (go_at_call 10; have := m6; refine (toStringS_any A0_b c0_b lb _ R0_b hn_b).mono ?_; rintro e w7 ⟨v6_b, rfl, O6_b, hx7⟩; have ne_O4_b_O6_b := own_ne O4_b O6_b (Nat.le_refl _); have nb_E3_O6_b := CP.ne_row E3 (by simp) O6_b; have nb_E5_O6_b := CP.ne_row E5 (by simp) O6_b; replace O6_b := own_base (base' := w.heap.size) O6_b (Below.size hB); obtain ⟨A6_b, c6_b, rfl⟩ := own_form O6_b; replace O6_b : OO _ _ _ _ _ _ _ := O6_b; replace hB := hB.next hx7; replace R0_b := R0_b.next hx7; replace E3 := E3.next hx7; replace E5 := E5.next hx7; replace O4_b := OO.next O4_b hx7; clear e3_0 e3_1 e3_2 e3_3 e3_f0 e3_f1 e3_f2 e3_f3 e3_al; clear e5_0 e5_1 e5_2 e5_3 e5_f0 e5_f1 e5_f2 e5_f3 e5_al; have e3_0 : (_ : Option Value) = some (.int .i64 x0) := E3 0 (by simp); have e3_1 : (_ : Option Value) = some (.int .i64 x1) := E3 1 (by simp); have e3_2 : (_ : Option Value) = some (.int .i64 x2) := E3 2 (by simp); have e3_3 : (_ : Option Value) = some (.int .i64 x3) := E3 3 (by simp); have e3_al := fun (o : Obj) => E3.al o; have e3_f0 : ∀ o : Obj, (_ : Option Value) = some (.int .i64 x0) := fun o => e3_al o 0 (by simp); have e3_f1 : ∀ o : Obj, (_ : Option Value) = some (.int .i64 x1) := fun o => e3_al o 1 (by simp); have e3_f2 : ∀ o : Obj, (_ : Option Value) = some (.int .i64 x2) := fun o => e3_al o 2 (by simp); have e3_f3 : ∀ o : Obj, (_ : Option Value) = some (.int .i64 x3) := fun o => e3_al o 3 (by simp); have e5_0 : (_ : Option Value) = some (.int .i64 x0) := E5 0 (by simp); have e5_1 : (_ : Option Value) = some (.int .i64 x1) := E5 1 (by simp); have e5_2 : (_ : Option Value) = some (.int .i64 x2) := E5 2 (by simp); have e5_3 : (_ : Option Value) = some (.int .i64 x3) := E5 3 (by simp); have e5_al := fun (o : Obj) => E5.al o; have e5_f0 : ∀ o : Obj, (_ : Option Value) = some (.int .i64 x0) := fun o => e5_al o 0 (by simp); have e5_f1 : ∀ o : Obj, (_ : Option Value) = some (.int .i64 x1) := fun o => e5_al o 1 (by simp); have e5_f2 : ∀ o : Obj, (_ : Option Value) = some (.int .i64 x2) := fun o => e5_al o 2 (by simp); have e5_f3 : ∀ o : Obj, (_ : Option Value) = some (.int .i64 x3) := fun o => e5_al o 3 (by simp); have m7 := True.intro)
    | (go_at_call 18; have := m5; refine (eqExLayout_any x0 x1 x2 x3 _).mono ?_; rintro e w6 ⟨rfl, hx6⟩; have E5 := (CP.made w5 [.int .i64 x0, .int .i64 x1, .int .i64 x2, .int .i64 x3] 36); have nb_E5_O4_b := OO.ne_box O4_b; replace hB := (hB.al _).next hx6; replace R0_b := (R0_b.al _).next hx6; replace E3 := (E3.al _).next hx6; replace O4_b := OO.next (O4_b.al _) hx6; replace E5 := E5.next hx6; clear e3_0 e3_1 e3_2 e3_3 e3_f0 e3_f1 e3_f2 e3_f3 e3_al; have e3_0 : (_ : Option Value) = some (.int .i64 x0) := E3 0 (by simp); have e3_1 : (_ : Option Value) = some (.int .i64 x1) := E3 1 (by simp); have e3_2 : (_ : Option Value) = some (.int .i64 x2) := E3 2 (by simp); have e3_3 : (_ : Option Value) = some (.int .i64 x3) := E3 3 (by simp); have e3_al := fun (o : Obj) => E3.al o; have e3_f0 : ∀ o : Obj, (_ : Option Value) = some (.int .i64 x0) := fun o => e3_al o 0 (by simp); have e3_f1 : ∀ o : Obj, (_ : Option Value) = some (.int .i64 x1) := fun o => e3_al o 1 (by simp); have e3_f2 : ∀ o : Obj, (_ : Option Value) = some (.int .i64 x2) := fun o => e3_al o 2 (by simp); have e3_f3 : ∀ o : Obj, (_ : Option Value) = some (.int .i64 x3) := fun o => e3_al o 3 (by simp); have e5_0 : (_ : Option Value) = some (.int .i64 x0) := E5 0 (by simp); have e5_1 : (_ : Option Value) = some (.int .i64 x1) := E5 1 (by simp); have e5_2 : (_ : Option Value) = some (.int .i64 x2) := E5 2 (by simp); have e5_3 : (_ : Option Value) = some (.int .i64 x3) := E5 3 (by simp); have e5_al := fun (o : Obj) => E5.al o; have e5_f0 : ∀ o : Obj, (_ : Option Value) = some (.int .i64 x0) := fun o => e5_al o 0 (by simp); have e5_f1 : ∀ o : Obj, (_ : Option Value) = some (.int .i64 x1) := fun o => e5_al o 1 (by simp); have e5_f2 : ∀ o : Obj, (_ : Option Value) = some (.int .i64 x2) := fun o => e5_al o 2 (by simp); have e5_f3 : ∀ o : Obj, (_ : Option Value) = some (.int .i64 x3) := fun o => e5_al o 3 (by simp); have m6 := True.intro)
    | (go_at_call 17; have := m4; refine (him A4_b c4_b _ (RR.own (OOf O4_b)) (own_cap (OOf O4_b))).mono ?_; rintro e w5 ⟨rfl, hx5⟩; replace hB := hB.next hx5; replace R0_b := R0_b.next hx5; replace E3 := E3.next hx5; replace O4_b := OO.next O4_b hx5; clear e3_0 e3_1 e3_2 e3_3 e3_f0 e3_f1 e3_f2 e3_f3 e3_al; have e3_0 : (_ : Option Value) = some (.int .i64 x0) := E3 0 (by simp); have e3_1 : (_ : Option Value) = some (.int .i64 x1) := E3 1 (by simp); have e3_2 : (_ : Option Value) = some (.int .i64 x2) := E3 2 (by simp); have e3_3 : (_ : Option Value) = some (.int .i64 x3) := E3 3 (by simp); have e3_al := fun (o : Obj) => E3.al o; have e3_f0 : ∀ o : Obj, (_ : Option Value) = some (.int .i64 x0) := fun o => e3_al o 0 (by simp); have e3_f1 : ∀ o : Obj, (_ : Option Value) = some (.int .i64 x1) := fun o => e3_al o 1 (by simp); have e3_f2 : ∀ o : Obj, (_ : Option Value) = some (.int .i64 x2) := fun o => e3_al o 2 (by simp); have e3_f3 : ∀ o : Obj, (_ : Option Value) = some (.int .i64 x3) := fun o => e3_al o 3 (by simp); have m5 := True.intro)
    | (go_at_call 10; have := m3; refine (toStringS_any A0_b c0_b lb _ (R0_b.al _) hn_b).mono ?_; rintro e w4 ⟨v4_b, rfl, O4_b, hx4⟩; have E3 := (CP.made w3 [.int .i64 x0, .int .i64 x1, .int .i64 x2, .int .i64 x3] 36); have nb_E3_O4_b := CP.ne_row E3 (by simp) O4_b; replace O4_b := own_base (base' := w.heap.size) O4_b (Below.size (hB.al _)); obtain ⟨A4_b, c4_b, rfl⟩ := own_form O4_b; replace O4_b : OO _ _ _ _ _ _ _ := O4_b; replace hB := (hB.al _).next hx4; replace R0_b := (R0_b.al _).next hx4; replace E3 := E3.next hx4; have e3_0 : (_ : Option Value) = some (.int .i64 x0) := E3 0 (by simp); have e3_1 : (_ : Option Value) = some (.int .i64 x1) := E3 1 (by simp); have e3_2 : (_ : Option Value) = some (.int .i64 x2) := E3 2 (by simp); have e3_3 : (_ : Option Value) = some (.int .i64 x3) := E3 3 (by simp); have e3_al := fun (o : Obj) => E3.al o; have e3_f0 : ∀ o : Obj, (_ : Option Value) = some (.int .i64 x0) := fun o => e3_al o 0 (by simp); have e3_f1 : ∀ o : Obj, (_ : Option Value) = some (.int .i64 x1) := fun o => e3_al o 1 (by simp); have e3_f2 : ∀ o : Obj, (_ : Option Value) = some (.int .i64 x2) := fun o => e3_al o 2 (by simp); have e3_f3 : ∀ o : Obj, (_ : Option Value) = some (.int .i64 x3) := fun o => e3_al o 3 (by simp); have m4 := True.intro)
    | (go_at_call 16; have := m2; refine (hsp A2_b c2_b _ (RR.own (OOf O2_b))).mono ?_; rintro e w3 ⟨rfl, hx3⟩; replace hB := hB.next hx3; replace R0_b := R0_b.next hx3; have m3 := True.intro)
    | (go_at_call 10; have := m1; refine (toStringS_any A0_b c0_b lb _ R0_b hn_b).mono ?_; rintro e w2 ⟨v2_b, rfl, O2_b, hx2⟩; replace O2_b := own_base (base' := w.heap.size) O2_b (Below.size hB); obtain ⟨A2_b, c2_b, rfl⟩ := own_form O2_b; replace O2_b : OO _ _ _ _ _ _ _ := O2_b; replace hB := hB.next hx2; replace R0_b := R0_b.next hx2; have m2 := True.intro)
    | (go_at_call 8; refine (szStringS_any A0_b c0_b lb 1048576 _ R0_b hm_b (by omega) (by omega) hok_b).mono ?_; rintro e w1 ⟨rfl, hx1⟩; replace hB := hB.next hx1; replace R0_b := R0_b.next hx1; rw [HQ0.out]; have m1 := True.intro))
  go_ret
  exact ⟨rfl, hB⟩

theorem own : ownKnob Try.prog.godebug = none := by kernel_rfl
theorem laidOut : laidOutB Try.prog = true := by kernel_rfl
theorem params : Try.f5.params.toList.all (fun t => Try.prog.readableRec t && decide (t < Try.prog.types.size)) = true := by kernel_rfl

set_option maxRecDepth 100000 in
theorem lifted (os : Os) (started : os.Started) (H : Type) (enc : TypeId × Value → H) :
    ReturnsInHanded {} Try.checked os 5 .any (Rows.fnExactExtentsOnSpec.pre6 enc Try.prog Try.f5 Rows.fnExactExtentsOnRow.domain false) (Rows.fnExactExtentsOnSpec.post enc Try.prog Try.f5 false true false false) := by
  refine returnsInHanded_of_change (C := Try.checked) own started (by kernel_rfl) Try.func5
    (ChangeSpec.witness6 (enc := enc) (C := Try.checked) false ⟨#[], #[.slice none 0 0], []⟩ 8 (by kernel_rfl) (by kernel_rfl) (by kernel_rfl) (by kernel_rfl)) ?_
  intro W base args ds gs before hval0 hW hcnd _
  have hval : ∀ (j : Nat) t v, Try.f5.params[j]? = some t → args[j]? = some v → Value.okWide Try.prog W .any base t v := hval0
  have hW' := hW
  obtain ⟨p, q, hA0, hV, rfl, hfz, hnd⟩ := hW
  have hA : DataW.TrodAll enc Try.prog W 0 (fun _ => true) true Try.f5.params.toList args.toList ds p := hA0
  rw [Try.params5] at hA hval
  obtain ⟨v0, d0, rfl, rfl, h0⟩ := trodAll_one hA
  obtain ⟨rfl, rfl⟩ := trodVars_none hV
  clear hA0 hval0
  suffices hwalk : Calls Try.prog 5 #[v0] W (fun e W' => e = .returned (.bool true) ∧ Below W.heap.size W W') by
    refine hwalk.mono fun e W' ⟨he, hb⟩ => ?_
    subst he
    exact ⟨_, rfl, law_post laidOut rfl rfl Try.underlying4 params hW' rfl hb⟩
  obtain ⟨u0_0, u0_1, u0_2, rfl⟩ := okWide_slice Try.underlying22 (hval 0 22 v0 rfl rfl)
  obtain ⟨fuel0, hf0⟩ := h0
  obtain ⟨A0_b, c0_b, lb, e0, hR_b, hm_b, hk_b⟩ := open_flat (f := fS) (ok := okString) (size := 1) Try.underlying22 (by kernel_rfl) (by omega) fS_len (fun fuel cs x h => by
    obtain ⟨a, e, _, wa⟩ := DataW.trod_string Try.underlying9 h
    exact ⟨a, e, wa⟩) hf0
  simp only [Value.cells, List.cons.injEq, and_true] at e0
  rw [e0]
  exact walk A0_b c0_b lb  W hR_b hm_b hk_b

theorem proved : Rows.FnExactExtentsOnSaid :=
  OpenClaim.holds_of_wide 5 Try.f5 rfl rfl rfl rfl rfl rfl rfl ⟨rfl, rfl, rfl, rfl, rfl⟩ rfl rfl rfl rfl rfl (by kernel_rfl) Try.func5 (by kernel_rfl)
    (of_decide_eq_true (by kernel_rfl)) (by unfold Func.isWrapper; first | (rw [if_pos (by decide +kernel)]; kernel_rfl) | (rw [if_neg (by decide +kernel)]; exact ⟨rfl, rfl⟩))
    (fun os started H enc _ => lifted os started H enc)
#print axioms proved
end Go.Proofs.Ytipkckoejkmhfaa.fnExactExtentsOn
