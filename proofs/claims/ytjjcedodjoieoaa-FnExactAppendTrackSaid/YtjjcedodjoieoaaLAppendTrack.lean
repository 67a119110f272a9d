/- The law FnExactAppendTrack holds: for every input that the row lets in it returns true and leaves its arguments alone. No condition. -/
import Derived.Test.YtjjcedodjoieoaaRows
import Derived.Test.YtjjcedodjoieoaaLib
import Derived.Test.YtjjcedodjoieoaaStep
import Derived.Test.YtjjcedodjoieoaaE3
import Derived.Test.YtjjcedodjoieoaaSDisc
import Derived.ProofKit
import Derived.OpenShut
import Derived.Deep.Slices
import Derived.Lib.SmallJoins
namespace Go.Proofs.Ytjjcedodjoieoaa.fnExactAppendTrack
open Go.ChangeShapes Go.WideShapes Go.ChangeAt Go.RowKit Go.Proofs.Ytjjcedodjoieoaa Go.Deep Go.WideMaps Go.WideElems
open Go.ChangeMaps (setBlock shut_map_nil open_string shut_string keptBut_setBlock frozen?_setBlock heap_setBlock_same)
set_option linter.unusedVariables false

theorem sum_tzSector (l : List DSector) : l.length ≤ (tzSector l).sum := by simp [tzSector]
set_option maxRecDepth 100000 in
set_option maxHeartbeats 2000000 in
theorem walk (t : ByteArray) (a0 : Int) (a1 : Int) (a2 : Int) (a3 : Int) (A0_a4 : Option Addr) (c0_a4 : Nat) (la4 : List DSector) (k : Int) (w : World) (hs_t : t.size ≤ maxLen) (R0_a4 : RR w 2 A0_a4 la4.length (flat fSector la4)) (hm_a4 : la4.length ≤ maxLen) (hok_a4 : ∀ x ∈ la4, okSector x) : Calls Try.prog 6 #[.string t, .agg #[.int .i64 a0, .int .i64 a1, .int .i64 a2, .int .i64 a3, .slice A0_a4 la4.length c0_a4], .int .i64 k] w fun e W' => e = .returned (.bool true) ∧ Below w.heap.size w W' := by
  have hB := BB.start w
  have R00_a4 := R0_a4
  by_cases hbig : t.size ≤ 1048576
  rotate_left
  · have g : 1048576 < (t.size : Int) := by omega
    go_enter Try.func6, Try.ntmps6
    go_wp2
    go_ret
    exact ⟨rfl, (by with_reducible repeat (first | exact Below.refl _ _ | assumption | refine below_step ?_ (by assumption) | refine Below.drew ?_ | refine below_drewN ?_ _ | refine below_alloc ?_ _ | refine Below.setCell ?_ (by simp; try omega) _))⟩
  have gbig : ¬ (1048576 < (t.size : Int)) := by omega
  rcases subs_cases (tzDisc la4) 1048576 (by omega) with hq | ⟨hq, hq0⟩
  · have HQ0 := Lib.hid hq
    clear hq
    go_enter Try.func6, Try.ntmps6
    go_wp2_with (first
      | (go_at_call 16; refine (szDisc_any a0 a1 a2 a3 A0_a4 c0_a4 la4 1048576 _ (R0_a4.al _) hm_a4 (by omega) (by omega) hok_a4).mono ?_; rintro e w1 ⟨rfl, hx1⟩; have D0a := (CP.made w [.int .i64 a0, .int .i64 a1, .int .i64 a2, .int .i64 a3, .slice A0_a4 la4.length c0_a4] 39); replace hB := (hB.al _).next hx1; replace R0_a4 := (R0_a4.al _).next hx1; replace D0a := D0a.next hx1; have d0a_0 : (_ : Option Value) = some (.int .i64 a0) := D0a 0 (by simp); have d0a_1 : (_ : Option Value) = some (.int .i64 a1) := D0a 1 (by simp); have d0a_2 : (_ : Option Value) = some (.int .i64 a2) := D0a 2 (by simp); have d0a_3 : (_ : Option Value) = some (.int .i64 a3) := D0a 3 (by simp); have d0a_4 : (_ : Option Value) = some (.slice A0_a4 la4.length c0_a4) := D0a 4 (by simp); have d0a_al := fun (o : Obj) => D0a.al o; have d0a_f0 : ∀ o : Obj, (_ : Option Value) = some (.int .i64 a0) := fun o => d0a_al o 0 (by simp); have d0a_f1 : ∀ o : Obj, (_ : Option Value) = some (.int .i64 a1) := fun o => d0a_al o 1 (by simp); have d0a_f2 : ∀ o : Obj, (_ : Option Value) = some (.int .i64 a2) := fun o => d0a_al o 2 (by simp); have d0a_f3 : ∀ o : Obj, (_ : Option Value) = some (.int .i64 a3) := fun o => d0a_al o 3 (by simp); have d0a_f4 : ∀ o : Obj, (_ : Option Value) = some (.slice A0_a4 la4.length c0_a4) := fun o => d0a_al o 4 (by simp); rw [HQ0.out]; have m1 := True.intro))
    go_ret
    exact ⟨rfl, hB⟩
  have hsum0 : (tzDisc la4).sum ≤ 1048576 := by omega
  obtain ⟨y1, hy⟩ : ∃ y : Int, y = 1048576 - ((tzDisc la4).sum : Nat) := ⟨_, rfl⟩
  rw [← hy] at hq hq0
  have p1 : 0 ≤ y1 := hq0
  have r1 : y1 ≤ 1048576 := by omega
  have HQ0 := Lib.hid hq
  clear hq hy hq0
  have hsumm0 := hsum0
  simp only [tzDisc] at hsumm0
  have hs_a4 := sum_tzSector la4
  have hn_a4 : la4.length ≤ 1048576 := by omega
  clear hsum0 hsumm0 hs_a4
  have hsp := fun (A : Option Addr) (cp : Nat) (W : World) (hr : RR W 2 A la4.length (flat fSector la4)) (hcp : la4.length ≤ cp) => spec_AppendTrack_any t a0 a1 a2 a3 A cp la4 k W hbig hr hn_a4 hok_a4 hcp
  have him := fun (A : Option Addr) (cp : Nat) (W : World) (hr : RR W 2 A la4.length (flat fSector la4)) (hcp : la4.length ≤ cp) => impl_AppendTrack_any t a0 a1 a2 a3 A cp la4 k W hbig hr hn_a4 hok_a4 hcp
  generalize (atR t a0 a1 a2 a3 la4 k).1 = r at hsp him
  generalize (atR t a0 a1 a2 a3 la4 k).2 = code at hsp him
  go_enter Try.func6, Try.ntmps6
  go_wp2_with (first
    | (go_at_call 19; have := m4; refine (him A4_a4 c4_a4 _ (RR.own (OOf (O4_a4.al _))) (own_cap (OOf O4_a4))).mono ?_; rintro e w5 ⟨rfl, hx5⟩; have D4a := (CP.made w4 [.int .i64 a0, .int .i64 a1, .int .i64 a2, .int .i64 a3, .slice A4_a4 la4.length c4_a4] 24); have nb_D4a_O4_a4 := OO.ne_box O4_a4; replace hB := (hB.al _).next hx5; replace R0_a4 := (R0_a4.al _).next hx5; replace D0a := (D0a.al _).next hx5; replace O4_a4 := OO.next (O4_a4.al _) hx5; replace D4a := D4a.next hx5; clear d0a_0 d0a_1 d0a_2 d0a_3 d0a_4 d0a_f0 d0a_f1 d0a_f2 d0a_f3 d0a_f4 d0a_al; have d0a_0 : (_ : Option Value) = some (.int .i64 a0) := D0a 0 (by simp); have d0a_1 : (_ : Option Value) = some (.int .i64 a1) := D0a 1 (by simp); have d0a_2 : (_ : Option Value) = some (.int .i64 a2) := D0a 2 (by simp); have d0a_3 : (_ : Option Value) = some (.int .i64 a3) := D0a 3 (by simp); have d0a_4 : (_ : Option Value) = some (.slice A0_a4 la4.length c0_a4) := D0a 4 (by simp); have d0a_al := fun (o : Obj) => D0a.al o; have d0a_f0 : ∀ o : Obj, (_ : Option Value) = some (.int .i64 a0) := fun o => d0a_al o 0 (by simp); have d0a_f1 : ∀ o : Obj, (_ : Option Value) = some (.int .i64 a1) := fun o => d0a_al o 1 (by simp); have d0a_f2 : ∀ o : Obj, (_ : Option Value) = some (.int .i64 a2) := fun o => d0a_al o 2 (by simp); have d0a_f3 : ∀ o : Obj, (_ : Option Value) = some (.int .i64 a3) := fun o => d0a_al o 3 (by simp); have d0a_f4 : ∀ o : Obj, (_ : Option Value) = some (.slice A0_a4 la4.length c0_a4) := fun o => d0a_al o 4 (by simp); have d4a_0 : (_ : Option Value) = some (.int .i64 a0) := D4a 0 (by simp); have d4a_1 : (_ : Option Value) = some (.int .i64 a1) := D4a 1 (by simp); have d4a_2 : (_ : Option Value) = some (.int .i64 a2) := D4a 2 (by simp); have d4a_3 : (_ : Option Value) = some (.int .i64 a3) := D4a 3 (by simp); have d4a_4 : (_ : Option Value) = some (.slice A4_a4 la4.length c4_a4) := D4a 4 (by simp); have d4a_al := fun (o : Obj) => D4a.al o; have d4a_f0 : ∀ o : Obj, (_ : Option Value) = some (.int .i64 a0) := fun o => d4a_al o 0 (by simp); have d4a_f1 : ∀ o : Obj, (_ : Option Value) = some (.int .i64 a1) := fun o => d4a_al o 1 (by simp); have d4a_f2 : ∀ o : Obj, (_ : Option Value) = some (.int .i64 a2) := fun o => d4a_al o 2 (by simp); have d4a_f3 : ∀ o : Obj, (_ : Option Value) = some (.int .i64 a3) := fun o => d4a_al o 3 (by simp); have d4a_f4 : ∀ o : Obj, (_ : Option Value) = some (.slice A4_a4 la4.length c4_a4) := fun o => d4a_al o 4 (by simp); have m5 := True.intro)
    | (go_at_call 18; have := m3; refine (toDisc_any a0 a1 a2 a3 A0_a4 c0_a4 la4 _ R0_a4 hn_a4).mono ?_; rintro e w4 ⟨va4, rfl, O4_a4, hx4⟩; have nb_D0a_O4_a4 := CP.ne_row D0a (by simp) O4_a4; replace O4_a4 := own_base (base' := w.heap.size) O4_a4 (Below.size hB); obtain ⟨A4_a4, c4_a4, rfl⟩ := own_form O4_a4; replace O4_a4 : OO _ _ _ _ _ _ _ := O4_a4; replace hB := hB.next hx4; replace R0_a4 := R0_a4.next hx4; replace D0a := D0a.next hx4; clear d0a_0 d0a_1 d0a_2 d0a_3 d0a_4 d0a_f0 d0a_f1 d0a_f2 d0a_f3 d0a_f4 d0a_al; have d0a_0 : (_ : Option Value) = some (.int .i64 a0) := D0a 0 (by simp); have d0a_1 : (_ : Option Value) = some (.int .i64 a1) := D0a 1 (by simp); have d0a_2 : (_ : Option Value) = some (.int .i64 a2) := D0a 2 (by simp); have d0a_3 : (_ : Option Value) = some (.int .i64 a3) := D0a 3 (by simp); have d0a_4 : (_ : Option Value) = some (.slice A0_a4 la4.length c0_a4) := D0a 4 (by simp); have d0a_al := fun (o : Obj) => D0a.al o; have d0a_f0 : ∀ o : Obj, (_ : Option Value) = some (.int .i64 a0) := fun o => d0a_al o 0 (by simp); have d0a_f1 : ∀ o : Obj, (_ : Option Value) = some (.int .i64 a1) := fun o => d0a_al o 1 (by simp); have d0a_f2 : ∀ o : Obj, (_ : Option Value) = some (.int .i64 a2) := fun o => d0a_al o 2 (by simp); have d0a_f3 : ∀ o : Obj, (_ : Option Value) = some (.int .i64 a3) := fun o => d0a_al o 3 (by simp); have d0a_f4 : ∀ o : Obj, (_ : Option Value) = some (.slice A0_a4 la4.length c0_a4) := fun o => d0a_al o 4 (by simp); have m4 := True.intro)
    | (go_at_call 17; have := m2; refine (hsp A2_a4 c2_a4 _ (RR.own (OOf O2_a4)) (own_cap (OOf O2_a4))).mono ?_; rintro e w3 ⟨rfl, hx3⟩; replace hB := hB.next hx3; replace R0_a4 := R0_a4.next hx3; replace D0a := D0a.next hx3; clear d0a_0 d0a_1 d0a_2 d0a_3 d0a_4 d0a_f0 d0a_f1 d0a_f2 d0a_f3 d0a_f4 d0a_al; have d0a_0 : (_ : Option Value) = some (.int .i64 a0) := D0a 0 (by simp); have d0a_1 : (_ : Option Value) = some (.int .i64 a1) := D0a 1 (by simp); have d0a_2 : (_ : Option Value) = some (.int .i64 a2) := D0a 2 (by simp); have d0a_3 : (_ : Option Value) = some (.int .i64 a3) := D0a 3 (by simp); have d0a_4 : (_ : Option Value) = some (.slice A0_a4 la4.length c0_a4) := D0a 4 (by simp); have d0a_al := fun (o : Obj) => D0a.al o; have d0a_f0 : ∀ o : Obj, (_ : Option Value) = some (.int .i64 a0) := fun o => d0a_al o 0 (by simp); have d0a_f1 : ∀ o : Obj, (_ : Option Value) = some (.int .i64 a1) := fun o => d0a_al o 1 (by simp); have d0a_f2 : ∀ o : Obj, (_ : Option Value) = some (.int .i64 a2) := fun o => d0a_al o 2 (by simp); have d0a_f3 : ∀ o : Obj, (_ : Option Value) = some (.int .i64 a3) := fun o => d0a_al o 3 (by simp); have d0a_f4 : ∀ o : Obj, (_ : Option Value) = some (.slice A0_a4 la4.length c0_a4) := fun o => d0a_al o 4 (by simp); have m3 := True.intro)
    | (go_at_call 18; have := m1; refine (toDisc_any a0 a1 a2 a3 A0_a4 c0_a4 la4 _ R0_a4 hn_a4).mono ?_; rintro e w2 ⟨va4, rfl, O2_a4, hx2⟩; have nb_D0a_O2_a4 := CP.ne_row D0a (by simp) O2_a4; replace O2_a4 := own_base (base' := w.heap.size) O2_a4 (Below.size hB); obtain ⟨A2_a4, c2_a4, rfl⟩ := own_form O2_a4; replace O2_a4 : OO _ _ _ _ _ _ _ := O2_a4; replace hB := hB.next hx2; replace R0_a4 := R0_a4.next hx2; replace D0a := D0a.next hx2; clear d0a_0 d0a_1 d0a_2 d0a_3 d0a_4 d0a_f0 d0a_f1 d0a_f2 d0a_f3 d0a_f4 d0a_al; have d0a_0 : (_ : Option Value) = some (.int .i64 a0) := D0a 0 (by simp); have d0a_1 : (_ : Option Value) = some (.int .i64 a1) := D0a 1 (by simp); have d0a_2 : (_ : Option Value) = some (.int .i64 a2) := D0a 2 (by simp); have d0a_3 : (_ : Option Value) = some (.int .i64 a3) := D0a 3 (by simp); have d0a_4 : (_ : Option Value) = some (.slice A0_a4 la4.length c0_a4) := D0a 4 (by simp); have d0a_al := fun (o : Obj) => D0a.al o; have d0a_f0 : ∀ o : Obj, (_ : Option Value) = some (.int .i64 a0) := fun o => d0a_al o 0 (by simp); have d0a_f1 : ∀ o : Obj, (_ : Option Value) = some (.int .i64 a1) := fun o => d0a_al o 1 (by simp); have d0a_f2 : ∀ o : Obj, (_ : Option Value) = some (.int .i64 a2) := fun o => d0a_al o 2 (by simp); have d0a_f3 : ∀ o : Obj, (_ : Option Value) = some (.int .i64 a3) := fun o => d0a_al o 3 (by simp); have d0a_f4 : ∀ o : Obj, (_ : Option Value) = some (.slice A0_a4 la4.length c0_a4) := fun o => d0a_al o 4 (by simp); have m2 := True.intro)
    | (go_at_call 16; refine (szDisc_any a0 a1 a2 a3 A0_a4 c0_a4 la4 1048576 _ (R0_a4.al _) hm_a4 (by omega) (by omega) hok_a4).mono ?_; rintro e w1 ⟨rfl, hx1⟩; have D0a := (CP.made w [.int .i64 a0, .int .i64 a1, .int .i64 a2, .int .i64 a3, .slice A0_a4 la4.length c0_a4] 39); replace hB := (hB.al _).next hx1; replace R0_a4 := (R0_a4.al _).next hx1; replace D0a := D0a.next hx1; have d0a_0 : (_ : Option Value) = some (.int .i64 a0) := D0a 0 (by simp); have d0a_1 : (_ : Option Value) = some (.int .i64 a1) := D0a 1 (by simp); have d0a_2 : (_ : Option Value) = some (.int .i64 a2) := D0a 2 (by simp); have d0a_3 : (_ : Option Value) = some (.int .i64 a3) := D0a 3 (by simp); have d0a_4 : (_ : Option Value) = some (.slice A0_a4 la4.length c0_a4) := D0a 4 (by simp); have d0a_al := fun (o : Obj) => D0a.al o; have d0a_f0 : ∀ o : Obj, (_ : Option Value) = some (.int .i64 a0) := fun o => d0a_al o 0 (by simp); have d0a_f1 : ∀ o : Obj, (_ : Option Value) = some (.int .i64 a1) := fun o => d0a_al o 1 (by simp); have d0a_f2 : ∀ o : Obj, (_ : Option Value) = some (.int .i64 a2) := fun o => d0a_al o 2 (by simp); have d0a_f3 : ∀ o : Obj, (_ : Option Value) = some (.int .i64 a3) := fun o => d0a_al o 3 (by simp); have d0a_f4 : ∀ o : Obj, (_ : Option Value) = some (.slice A0_a4 la4.length c0_a4) := fun o => d0a_al o 4 (by simp); rw [HQ0.out]; have m1 := True.intro))
  go_region_held3 (fun W => Below w.heap.size w W ∧ W.cell? ⟨w.heap.size, 0, none⟩ = some (.int .i64 a0) ∧ W.cell? ⟨w.heap.size, 1, none⟩ = some (.int .i64 a1) ∧ W.cell? ⟨w.heap.size, 2, none⟩ = some (.int .i64 a2) ∧ W.cell? ⟨w.heap.size, 3, none⟩ = some (.int .i64 a3) ∧ W.cell? ⟨w.heap.size, 4, none⟩ = some (.slice A0_a4 la4.length c0_a4) ∧ W.cell? ⟨w4.heap.size, 0, none⟩ = some (.int .i64 a0) ∧ W.cell? ⟨w4.heap.size, 1, none⟩ = some (.int .i64 a1) ∧ W.cell? ⟨w4.heap.size, 2, none⟩ = some (.int .i64 a2) ∧ W.cell? ⟨w4.heap.size, 3, none⟩ = some (.int .i64 a3) ∧ W.cell? ⟨w4.heap.size, 4, none⟩ = some (.slice A4_a4 la4.length c4_a4)) (first | exact ⟨hB, D0a 0 (by simp), D0a 1 (by simp), D0a 2 (by simp), D0a 3 (by simp), D0a 4 (by simp), D4a 0 (by simp), D4a 1 (by simp), D4a 2 (by simp), D4a 3 (by simp), D4a 4 (by simp)⟩ | exact ⟨hB.dr, (D0a.dr) 0 (by simp), (D0a.dr) 1 (by simp), (D0a.dr) 2 (by simp), (D0a.dr) 3 (by simp), (D0a.dr) 4 (by simp), (D4a.dr) 0 (by simp), (D4a.dr) 1 (by simp), (D4a.dr) 2 (by simp), (D4a.dr) 3 (by simp), (D4a.dr) 4 (by simp)⟩) (first
    | (go_at_call 20; have := mr0_0; refine (eqDisc_any a0 a1 a2 a3 A4_a4 A6_a4 c4_a4 c6_a4 la4 _ (RR.own (OOf O4_a4)) R6_a4 hn_a4).mono ?_; rintro e w7 ⟨rfl, hx7⟩; replace hB := (hB).next hx7; replace R0_a4 := (R0_a4).next hx7; replace D0a := (D0a).next hx7; replace D4a := (D4a).next hx7; replace O4_a4 := OO.next (O4_a4) hx7; have mr0_1 := True.intro)
    | (go_at_call 18; refine (toDisc_any a0 a1 a2 a3 A0_a4 c0_a4 la4 _ R0_a4.dr hn_a4).mono ?_; rintro e w6 ⟨va4, rfl, O6_a4, hx6⟩; replace hB := (hB.dr).next hx6; replace R0_a4 := (R0_a4.dr).next hx6; replace D0a := (D0a.dr).next hx6; replace D4a := (D4a.dr).next hx6; replace O4_a4 := OO.next (O4_a4.dr) hx6; obtain ⟨A6_a4, c6_a4, rfl⟩ := own_form O6_a4; have R6_a4 := RR.own O6_a4; have mr0_0 := True.intro))
  go_wp2
  go_ret
  exact ⟨rfl, hB⟩

theorem own : ownKnob Try.prog.godebug = none := by kernel_rfl
theorem laidOut : laidOutB Try.prog = true := by kernel_rfl
theorem params : Try.f6.params.toList.all (fun t => Try.prog.readableRec t && decide (t < Try.prog.types.size)) = true := by kernel_rfl

set_option maxRecDepth 100000 in
theorem lifted (os : Os) (started : os.Started) (H : Type) (enc : TypeId × Value → H) :
    ReturnsInHanded {} Try.checked os 6 .any (Rows.fnExactAppendTrackSpec.pre6 enc Try.prog Try.f6 Rows.fnExactAppendTrackRow.domain false) (Rows.fnExactAppendTrackSpec.post enc Try.prog Try.f6 false true false false) := by
  refine returnsInHanded_of_change (C := Try.checked) own started (by kernel_rfl) Try.func6
    (ChangeSpec.witness6 (enc := enc) (C := Try.checked) false ⟨#[], #[.string ByteArray.empty, .agg #[.int .i64 0, .int .i64 0, .int .i64 0, .int .i64 0, .slice none 0 0], .int .i64 0], []⟩ 8 (by kernel_rfl) (by kernel_rfl) (by kernel_rfl) (by kernel_rfl)) ?_
  intro W base args ds gs before hval0 hW hcnd _
  have hval : ∀ (j : Nat) t v, Try.f6.params[j]? = some t → args[j]? = some v → Value.okWide Try.prog W .any base t v := hval0
  have hW' := hW
  obtain ⟨p, q, hA0, hV, rfl, hfz, hnd⟩ := hW
  have hA : DataW.TrodAll enc Try.prog W 0 (fun _ => true) true Try.f6.params.toList args.toList ds p := hA0
  rw [Try.params6] at hA hval
  obtain ⟨v0, v1, v2, d0, d1, d2, p0, p1, p2, rfl, rfl, rfl, h0, h1, h2⟩ := trodAll_three hA
  obtain ⟨rfl, rfl⟩ := trodVars_none hV
  clear hA0 hval0
  suffices hwalk : Calls Try.prog 6 #[v0, v1, v2] W (fun e W' => e = .returned (.bool true) ∧ Below W.heap.size W W') by
    refine hwalk.mono fun e W' ⟨he, hb⟩ => ?_
    subst he
    exact ⟨_, rfl, law_post laidOut rfl rfl Try.underlying4 params hW' rfl hb⟩
  obtain ⟨t, rfl, rfl, rfl, wt⟩ := open_string Try.underlying9 (hval 0 9 v0 rfl rfl) h0
  obtain ⟨a0, a1, a2, a3, A0_a4, c0_a4, la4, rfl, hR_a4, hm_a4, hk_a4, ba0, ba1, ba2, ba3⟩ := argDisc (hval 1 39 v1 rfl rfl) h1
  obtain ⟨k, rfl, rfl, rfl, wk⟩ := open_int Try.underlying2 (hval 2 2 v2 rfl rfl) h2
  exact walk t a0 a1 a2 a3 A0_a4 c0_a4 la4 k W wt hR_a4 hm_a4 hk_a4

theorem proved : Rows.FnExactAppendTrackSaid :=
  OpenClaim.holds_of_wide 6 Try.f6 rfl rfl rfl rfl rfl rfl rfl ⟨rfl, rfl, rfl, rfl, rfl⟩ rfl rfl rfl rfl rfl (by kernel_rfl) Try.func6 (by kernel_rfl)
    (of_decide_eq_true (by kernel_rfl)) (by unfold Func.isWrapper; first | (rw [if_pos (by decide +kernel)]; kernel_rfl) | (rw [if_neg (by decide +kernel)]; exact ⟨rfl, rfl⟩))
    (fun os started H enc _ => lifted os started H enc)
#print axioms proved
end Go.Proofs.Ytjjcedodjoieoaa.fnExactAppendTrack
