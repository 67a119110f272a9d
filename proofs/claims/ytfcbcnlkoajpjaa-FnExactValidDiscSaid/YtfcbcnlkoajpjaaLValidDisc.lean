/- The law FnExactValidDisc holds: for every input that the row lets in it returns true and leaves its arguments alone. No condition. -/
import Derived.Test.YtfcbcnlkoajpjaaRows
import Derived.Test.YtfcbcnlkoajpjaaLib
import Derived.Test.YtfcbcnlkoajpjaaW32
import Derived.ProofKit
import Derived.OpenShut
import Derived.Deep.Slices
import Derived.Lib.SmallJoins
namespace Go.Proofs.Ytfcbcnlkoajpjaa.fnExactValidDisc
open Go.ChangeShapes Go.WideShapes Go.ChangeAt Go.RowKit Go.Proofs.Ytfcbcnlkoajpjaa Go.Deep Go.WideMaps Go.WideElems
open Go.ChangeMaps (setBlock shut_map_nil open_string shut_string keptBut_setBlock frozen?_setBlock heap_setBlock_same)
set_option linter.unusedVariables false

theorem sum_ge (l : List DSector) : l.length ≤ (tzSector l).sum := by simp [tzSector]
set_option maxRecDepth 100000 in
set_option maxHeartbeats 1000000 in
theorem walk (a0 a1 a2 a3 : Int) (A : Option Addr) (c : Nat) (l : List DSector) (w : World) (h : Rd w w.heap.size 2 A l.length (flat fSector l)) (hm : l.length ≤ maxLen) (hok : ∀ x ∈ l, okSector x) : Calls Try.prog 10 #[.agg #[.int .i64 a0, .int .i64 a1, .int .i64 a2, .int .i64 a3, .slice A l.length c]] w fun e W' => e = .returned (.bool true) ∧ Below w.heap.size w W' := by
  have hb := Below.refl w.heap.size w
  have D0 := DP.made w a0 a1 a2 a3 (.slice A l.length c) 24
  rcases subs_cases (tzSector l) 1048576 (by omega) with hq | ⟨hq, hq0⟩
  · have HQ := Lib.hid (show subs 1048576 (tzDisc l) = -1 from hq)
    clear hq
    go_enter Try.func10, Try.ntmps10
    go_wp2_with (go_at_call 15; refine (szDisc_any a0 a1 a2 a3 A c l 1048576 _ ((h.below (by with_reducible repeat (first | exact Below.refl _ _ | assumption | refine below_step ?_ (by assumption) | refine Below.drew ?_ | refine below_drewN ?_ _ | refine below_alloc ?_ _ | refine Below.setCell ?_ (by simp; try omega) _))).more (by simp)) hm (by omega) (by omega) hok).mono ?_; rintro e w1 ⟨rfl, hx1⟩; have hB1 : Below w.heap.size w w1 := (by with_reducible repeat (first | exact Below.refl _ _ | assumption | refine below_step ?_ (by assumption) | refine Below.drew ?_ | refine below_drewN ?_ _ | refine below_alloc ?_ _ | refine Below.setCell ?_ (by simp; try omega) _)); rw [HQ.out]; replace D0 := D0.next hx1; obtain ⟨p0, p1, p2, p3, p4⟩ := id D0; have m1 := True.intro)
    go_ret
    exact ⟨rfl, (by with_reducible repeat (first | exact Below.refl _ _ | assumption | refine below_step ?_ (by assumption) | refine Below.drew ?_ | refine below_drewN ?_ _ | refine below_alloc ?_ _ | refine Below.setCell ?_ (by simp; try omega) _))⟩
  · have HQ := Lib.hid (show subs 1048576 (tzDisc l) = _ from hq)
    have hsum := sum_ge l
    have hn : l.length ≤ 1048576 := by omega
    clear hq
    generalize (1048576 : Int) - ((tzSector l).sum : Nat) = y at *
    have him := fun (A : Option Addr) (cp : Nat) (W : World) hr => impl_ValidDisc_any a0 a1 a2 a3 A cp l W hr hn hok
    have hsp := fun (A : Option Addr) (cp : Nat) (W : World) hr => spec_ValidDisc_any a0 a1 a2 a3 A cp l W hr hn hok
    generalize okD a0 a1 a2 a3 l = ok at him hsp
    go_enter Try.func10, Try.ntmps10
    go_wp2_with (first
      | (go_at_call 47; have := m4; refine (him A4 c4 _ ((r4.alloc (Nat.le_refl _) _).more (by simp))).mono ?_; rintro e w5 ⟨rfl, hx5⟩; have hB5 : Below w.heap.size w w5 := (by with_reducible repeat (first | exact Below.refl _ _ | assumption | refine below_step ?_ (by assumption) | refine Below.drew ?_ | refine below_drewN ?_ _ | refine below_alloc ?_ _ | refine Below.setCell ?_ (by simp; try omega) _)); replace D0 := (D0.alloc _).next hx5; replace D1 := D1.next hx5; obtain ⟨p0, p1, p2, p3, p4⟩ := id D0; obtain ⟨q0, q1, q2, q3, q4⟩ := id D1; have r5 := ((r4.alloc (Nat.le_refl _) _).below (hx5.mono (by simp))).more (show w4.heap.size ≤ w5.heap.size from (by have := hx5.size; simp at this; omega)); have m5 := True.intro)
      | (go_at_call 17; have := m3; refine (toDisc_any a0 a1 a2 a3 A c l _ ((h.below hB3).more hB3.size) hn).mono ?_; rintro e w4 ⟨v, rfl, ho4, hx4⟩; have hB4 : Below w.heap.size w w4 := (by with_reducible repeat (first | exact Below.refl _ _ | assumption | refine below_step ?_ (by assumption) | refine Below.drew ?_ | refine below_drewN ?_ _ | refine below_alloc ?_ _ | refine Below.setCell ?_ (by simp; try omega) _)); obtain ⟨A4, c4, rfl⟩ := own_form ho4; have r4 := Rd.of_own ho4; replace D0 := D0.next hx4; have D1 := DP.made w4 a0 a1 a2 a3 (.slice A4 l.length c4) 29; have m4 := True.intro)
      | (go_at_call 46; have := m2; refine (hsp A2 c2 _ r2).mono ?_; rintro e w3 ⟨rfl, hx3⟩; have hB3 : Below w.heap.size w w3 := (by with_reducible repeat (first | exact Below.refl _ _ | assumption | refine below_step ?_ (by assumption) | refine Below.drew ?_ | refine below_drewN ?_ _ | refine below_alloc ?_ _ | refine Below.setCell ?_ (by simp; try omega) _)); replace D0 := D0.next hx3; obtain ⟨p0, p1, p2, p3, p4⟩ := id D0; have m3 := True.intro)
      | (go_at_call 17; have := m1; refine (toDisc_any a0 a1 a2 a3 A c l _ ((h.below hB1).more hB1.size) hn).mono ?_; rintro e w2 ⟨v, rfl, ho2, hx2⟩; have hB2 : Below w.heap.size w w2 := (by with_reducible repeat (first | exact Below.refl _ _ | assumption | refine below_step ?_ (by assumption) | refine Below.drew ?_ | refine below_drewN ?_ _ | refine below_alloc ?_ _ | refine Below.setCell ?_ (by simp; try omega) _)); obtain ⟨A2, c2, rfl⟩ := own_form ho2; have r2 := Rd.of_own ho2; replace D0 := D0.next hx2; obtain ⟨p0, p1, p2, p3, p4⟩ := id D0; have m2 := True.intro)
      | (go_at_call 15; refine (szDisc_any a0 a1 a2 a3 A c l 1048576 _ ((h.below (by with_reducible repeat (first | exact Below.refl _ _ | assumption | refine below_step ?_ (by assumption) | refine Below.drew ?_ | refine below_drewN ?_ _ | refine below_alloc ?_ _ | refine Below.setCell ?_ (by simp; try omega) _))).more (by simp)) hm (by omega) (by omega) hok).mono ?_; rintro e w1 ⟨rfl, hx1⟩; have hB1 : Below w.heap.size w w1 := (by with_reducible repeat (first | exact Below.refl _ _ | assumption | refine below_step ?_ (by assumption) | refine Below.drew ?_ | refine below_drewN ?_ _ | refine below_alloc ?_ _ | refine Below.setCell ?_ (by simp; try omega) _)); rw [HQ.out]; replace D0 := D0.next hx1; obtain ⟨p0, p1, p2, p3, p4⟩ := id D0; have m1 := True.intro))
    go_region_held3 (fun W => Below w.heap.size w W ∧ W.cell? ⟨w.heap.size, 0, none⟩ = some (.int .i64 a0) ∧ W.cell? ⟨w.heap.size, 1, none⟩ = some (.int .i64 a1) ∧ W.cell? ⟨w.heap.size, 2, none⟩ = some (.int .i64 a2) ∧ W.cell? ⟨w.heap.size, 3, none⟩ = some (.int .i64 a3) ∧ W.cell? ⟨w.heap.size, 4, none⟩ = some (.slice A l.length c) ∧ W.cell? ⟨w4.heap.size, 0, none⟩ = some (.int .i64 a0) ∧ W.cell? ⟨w4.heap.size, 1, none⟩ = some (.int .i64 a1) ∧ W.cell? ⟨w4.heap.size, 2, none⟩ = some (.int .i64 a2) ∧ W.cell? ⟨w4.heap.size, 3, none⟩ = some (.int .i64 a3) ∧ W.cell? ⟨w4.heap.size, 4, none⟩ = some (.slice A4 l.length c4)) (first | exact DPS2 (Below.drew hB5) D0.drew D1.drew | exact DPS2 (below_step (Below.drew hB5) hx6) (D0.drew.next hx6) (D1.drew.next hx6) | exact DPS2 (below_step (below_step (Below.drew hB5) hx6) hx7) ((D0.drew.next hx6).next hx7) ((D1.drew.next hx6).next hx7)) (first
      | (go_at_call 17; refine (toDisc_any a0 a1 a2 a3 A c l _ ((h.below (Below.drew hB5)).more hB5.size) hn).mono ?_; rintro e w6 ⟨v, rfl, ho6, hx6⟩; obtain ⟨A6, c6, rfl⟩ := own_form ho6; have r6 := Rd.of_own ho6)
      | (go_at_call 19; refine (eqDisc_any a0 a1 a2 a3 A4 A6 c4 c6 l _ ((Rd.below (show Rd w5.drew w5.drew.heap.size 2 _ _ _ from r5) hx6).more hx6.size) r6 hn).mono ?_; rintro e w7 ⟨rfl, hx7⟩))
    go_wp2
    go_ret
    exact ⟨rfl, below_step (below_step (Below.drew hB5) hx6) hx7⟩

theorem own : ownKnob Try.prog.godebug = none := by kernel_rfl
theorem laidOut : laidOutB Try.prog = true := by kernel_rfl
theorem params : Try.f10.params.toList.all (fun t => Try.prog.readableRec t && decide (t < Try.prog.types.size)) = true := by kernel_rfl

set_option maxRecDepth 100000 in
theorem lifted (os : Os) (started : os.Started) (H : Type) (enc : TypeId × Value → H) :
    ReturnsInHanded {} Try.checked os 10 .any (Rows.fnExactValidDiscSpec.pre6 enc Try.prog Try.f10 Rows.fnExactValidDiscRow.domain false) (Rows.fnExactValidDiscSpec.post enc Try.prog Try.f10 false true false false) := by
  refine returnsInHanded_of_change (C := Try.checked) own started (by kernel_rfl) Try.func10
    (ChangeSpec.witness6 (enc := enc) (C := Try.checked) false ⟨#[], #[.agg #[.int .i64 0, .int .i64 0, .int .i64 0, .int .i64 0, .slice none 0 0]], []⟩ 8 (by kernel_rfl) (by kernel_rfl) (by kernel_rfl) (by kernel_rfl)) ?_
  intro W base args ds gs before hval0 hW hcnd _
  have hval : ∀ (j : Nat) t v, Try.f10.params[j]? = some t → args[j]? = some v → Value.okWide Try.prog W .any base t v := hval0
  have hW' := hW
  obtain ⟨p, q, hA0, hV, rfl, hfz, hnd⟩ := hW
  have hA : DataW.TrodAll enc Try.prog W 0 (fun _ => true) true Try.f10.params.toList args.toList ds p := hA0
  rw [Try.params10] at hA hval
  obtain ⟨v0, d0, rfl, rfl, h0⟩ := trodAll_one hA
  obtain ⟨rfl, rfl⟩ := trodVars_none hV
  clear hA0 hval0
  suffices hwalk : Calls Try.prog 10 #[v0] W (fun e W' => e = .returned (.bool true) ∧ Below W.heap.size W W') by
    refine hwalk.mono fun e W' ⟨he, hb⟩ => ?_
    subst he
    exact ⟨_, rfl, law_post laidOut rfl rfl Try.underlying4 params hW' rfl hb⟩
  obtain ⟨a0, a1, a2, a3, A4, c4, l4, rfl, hR4, hm4, hk4, _⟩ := argDisc (hval 0 24 v0 rfl rfl) h0
  exact walk a0 a1 a2 a3 A4 c4 l4 W hR4 hm4 hk4

theorem proved : Rows.FnExactValidDiscSaid :=
  OpenClaim.holds_of_wide 10 Try.f10 rfl rfl rfl rfl rfl rfl rfl ⟨rfl, rfl, rfl, rfl, rfl⟩ rfl rfl rfl rfl rfl (by kernel_rfl) Try.func10 (by kernel_rfl)
    (of_decide_eq_true (by kernel_rfl)) (by unfold Func.isWrapper; first | (rw [if_pos (by decide +kernel)]; kernel_rfl) | (rw [if_neg (by decide +kernel)]; exact ⟨rfl, rfl⟩))
    (fun os started H enc _ => lifted os started H enc)
#print axioms proved
end Go.Proofs.Ytfcbcnlkoajpjaa.fnExactValidDisc
