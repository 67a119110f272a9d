/- Walks of the helpers in laws: Feature. Printed by mk_leaf.py. -/
import Derived.Test.YtlfmpgfobkmgfaaGreatDoorMem4
import Derived.Test.YtlfmpgfobkmgfaaGreatDoorW2
import Derived.Deep.DeepMust
import Derived.StillTailTactics
import Derived.OpenShut
import Derived.Test.YtlfmpgfobkmgfaaGreatDoorMark
import Derived.Lib.SmallJoins
namespace Go.Proofs.YtlfmpgfobkmgfaaGreatDoor
open Go.RowKit Go.ChangeShapes Go.WideShapes Go.Deep

structure DFeature where
  f0 : Int
  f1 : Int
  f2 : Int
def fFeature (x : DFeature) : List Value := [.int .i64 x.f0, .int .i64 x.f1, .int .i64 x.f2]
theorem fFeature_len (x : DFeature) : (fFeature x).length = 3 := rfl
def vFeature (x : DFeature) : Value := .agg #[.int .i64 x.f0, .int .i64 x.f1, .int .i64 x.f2]
def zFeature (_ : DFeature) : List Nat := []
def okFeature (x : DFeature) : Prop := (-9223372036854775808 ≤ x.f0 ∧ x.f0 ≤ 9223372036854775807) ∧ (-9223372036854775808 ≤ x.f1 ∧ x.f1 ≤ 9223372036854775807) ∧ (-9223372036854775808 ≤ x.f2 ∧ x.f2 ≤ 9223372036854775807)

set_option maxRecDepth 100000 in
set_option maxHeartbeats 1000000 in
theorem eqFeature_any (a0 : Int) (a1 : Int) (a2 : Int) (w : World) :
    Calls Tryz.prog 19 #[.agg #[.int .i64 a0, .int .i64 a1, .int .i64 a2], .agg #[.int .i64 a0, .int .i64 a1, .int .i64 a2]] w fun e w' => e = .returned (.bool true) ∧ Below w.heap.size w w' := by
  go_enter Tryz.func19, Tryz.ntmps19
  go_wp2
  go_ret
  exact ⟨rfl, (by repeat (first | exact Below.refl _ _ | refine below_step ?_ (by assumption) | assumption | refine Below.drew ?_ | refine below_drewN ?_ _ | refine below_alloc ?_ _ | refine Below.setCell ?_ (by simp; try omega) _))⟩

set_option maxRecDepth 100000 in
set_option maxHeartbeats 1000000 in
theorem eqFeatureS_any (A A' : Option Addr) (c c' : Nat) (l : List DFeature) (w : World) (h : Rd w w.heap.size 3 A l.length (flat fFeature l)) (h' : Rd w w.heap.size 3 A' l.length (flat fFeature l)) (hn : l.length ≤ 1048576) :
    Calls Tryz.prog 6 #[.slice A l.length c, .slice A' l.length c'] w fun e w' => e = .returned (.bool true) ∧ Below w.heap.size w w' := by
  go_enter Tryz.func6, Tryz.ntmps6
  go_wp2
  go_loopw [5] (fun i wr => ∃ k : Nat, k ≤ l.length ∧ i = .int .i64 k ∧ Below w.heap.size w wr) (fun i _ => l.length - (intOf i).toNat)
  case atStart => exact ⟨0, Nat.zero_le _, rfl, Below.refl _ _⟩
  case round =>
    obtain ⟨k, hk, rfl, hb⟩ := hrel
    by_cases hlt : k < l.length
    · obtain ⟨b, off, rfl, hbb, hc⟩ := (h.below hb).at_ fFeature_len rfl k hlt
      obtain ⟨b', off', rfl, hbb', hd⟩ := (h'.below hb).at_ fFeature_len rfl k hlt
      have hc0 := hc 0 _ (by omega) rfl
      have hd0 := hd 0 _ (by omega) rfl
      have hc1 := hc 1 _ (by omega) rfl
      have hd1 := hd 1 _ (by omega) rfl
      have hc2 := hc 2 _ (by omega) rfl
      have hd2 := hd 2 _ (by omega) rfl
      clear hc hd
      simp only [← Nat.add_assoc, Nat.add_zero] at hc0 hd0 hc1 hd1 hc2 hd2
      go_wp2_with fail
      go_still_tail 8, (by kernel_rfl)
      change wpList _ _ _ _ _ wr.drew
      replace hb := Below.drew hb
      generalize wr.drew = w2 at hb ⊢
      go_wp2_with (go_at_call 19; refine (eqFeature_any l[k].f0 l[k].f1 l[k].f2 _).mono ?_; rintro e w1 ⟨rfl, hx⟩; replace hb := below_step hb hx)
      go_roundw
      case rel => exact ⟨k + 1, by omega, by go_num, hb⟩
      case measure => (simp [intOf] <;> omega)
    · go_wp2
      go_ret
      exact ⟨rfl, hb⟩

def mqFeature (q : Nat) : DFeature := ⟨(q : Int), (q : Int) + 1, (q : Int) + 2⟩
def mksFeature (k m : Nat) : List DFeature := (List.range m).map fun i => mqFeature (k + 3 * i)
theorem mksFeature_len (k m : Nat) : (mksFeature k m).length = m := by simp [mksFeature]
theorem mksFeature_succ (k m : Nat) : mksFeature k (m + 1) = mksFeature k m ++ [mqFeature (k + 3 * m)] := by simp [mksFeature, List.range_succ]
theorem mksFeature_get (k m i : Nat) (h : i < (mksFeature k m).length) : (mksFeature k m)[i] = mqFeature (k + 3 * i) := by simp [mksFeature]
theorem mksFeature_put (k m : Nat) (l : List DFeature) (h : m < l.length) : putV (flat fFeature (mksFeature k m ++ l.drop m)) (m * 3) (fFeature (mqFeature (k + 3 * m))) = flat fFeature (mksFeature k (m + 1) ++ l.drop (m + 1)) := by
  have := flat_put fFeature 3 fFeature_len (mksFeature k m) (l.drop (m + 1)) l[m] (mqFeature (k + 3 * m))
  rw [mksFeature_len] at this
  rw [List.drop_eq_getElem_cons h, this, mksFeature_succ, List.append_assoc]
  rfl

set_option maxRecDepth 100000 in
set_option maxHeartbeats 1000000 in
theorem markFeatureS_any (A : Option Addr) (c k : Nat) (l : List DFeature) (w : World) (base : Nat) (h : w.ownsRow base 35 3 (.slice A l.length c) l.length (flat fFeature l)) (hk1 : 1 ≤ k) (hk2 : k ≤ 10000000000) (hl : l.length ≤ 10000000000) :
    Calls Tryz.prog 7 #[.slice A l.length c, .int .i64 (k : Int)] w fun e w' => e = .returned (.int .i64 ((k + 3 * l.length : Nat) : Int)) ∧ w'.ownsRow base 35 3 (.slice A l.length c) l.length (flat fFeature (mksFeature k l.length)) ∧ w.grownBy w' (Value.slice A l.length c).ownBlock := by
  go_enter Tryz.func7, Tryz.ntmps7
  go_wp2
  go_loopw [1, 5] (fun kk i wr => ∃ m q : Nat, m ≤ l.length ∧ k + 3 * m = q ∧ i = .int .i64 m ∧ kk = .int .i64 q ∧ wr.ownsRow base 35 3 (.slice A l.length c) l.length (flat fFeature (mksFeature k m ++ l.drop m)) ∧ w.grownBy wr (Value.slice A l.length c).ownBlock) (fun _ i _ => l.length - (intOf i).toNat)
  case atStart => exact ⟨0, k, Nat.zero_le _, by omega, rfl, rfl, h, World.grownBy.refl _ _⟩
  case round =>
    obtain ⟨m, q, hm, hq, rfl, rfl, ho, hg⟩ := hrel
    by_cases hlt : m < l.length
    · obtain ⟨g, cap, hv⟩ := Go.Joins.ownsRow_form ho (by omega)
      cases hv
      have hput := mksFeature_put k m l hlt
      rw [hq] at hput
      obtain ⟨u0, hu0⟩ := own_some ho (m * 3 + 0) (by omega)
      have hz0 := World.ownsRow.frozenAt ho (m * 3 + 0)
      obtain ⟨u1, hu1⟩ := own_some ho (m * 3 + 1) (by omega)
      have hz1 := World.ownsRow.frozenAt ho (m * 3 + 1)
      obtain ⟨u2, hu2⟩ := own_some ho (m * 3 + 2) (by omega)
      have hz2 := World.ownsRow.frozenAt ho (m * 3 + 2)
      simp only [Nat.add_zero] at hu0 hz0
      go_wp2
      go_roundw
      case rel =>
        refine ⟨m + 1, q + 3, by omega, by omega, by go_num, by go_num, ?_, (((hg.trans (World.ownsRow.stored ho _ _).2).trans (World.ownsRow.stored (World.ownsRow.stored ho _ _).1 _ _).2).trans (World.ownsRow.stored (World.ownsRow.stored (World.ownsRow.stored ho _ _).1 _ _).1 _ _).2)⟩
        rw [← hput]
        exact (World.ownsRow.stored (World.ownsRow.stored (World.ownsRow.stored ho _ _).1 _ _).1 _ _).1
      case measure => (simp [intOf] <;> omega)
    · obtain rfl : m = l.length := by omega
      rw [List.drop_length, List.append_nil] at ho
      go_wp2
      go_ret
      exact ⟨ret_int (by omega), ho, hg⟩

set_option maxRecDepth 100000 in
set_option maxHeartbeats 1000000 in
theorem heldFeatureS_any (A : Option Addr) (c k n : Nat) (w : World) (h : Rd w w.heap.size 3 A n (flat fFeature (mksFeature k n))) (hk1 : 1 ≤ k) (hk2 : k ≤ 10000000000) (hl : n ≤ 10000000000) :
    Calls Tryz.prog 8 #[.slice A n c, .int .i64 (k : Int)] w fun e w' => e = .returned (.int .i64 ((k + 3 * n : Nat) : Int)) ∧ Below w.heap.size w w' := by
  go_enter Tryz.func8, Tryz.ntmps8
  go_wp2
  go_loopw [1, 5] (fun kk i wr => ∃ i' q : Nat, i' ≤ n ∧ k + 3 * i' = q ∧ i = .int .i64 i' ∧ kk = .int .i64 q ∧ Below w.heap.size w wr) (fun _ i _ => n - (intOf i).toNat)
  case atStart => exact ⟨0, k, Nat.zero_le _, by omega, rfl, rfl, Below.refl _ _⟩
  case round =>
    obtain ⟨i, q, hi, hq, rfl, rfl, hb⟩ := hrel
    by_cases hlt : i < n
    · obtain ⟨b, off, rfl, hbb, hc⟩ := h.at_ fFeature_len (mksFeature_len k n).symm i hlt
      have hc0 := hc 0 (.int .i64 ((q : Int))) (by omega) (by rw [mksFeature_get, hq]; rfl)
      have hc1 := hc 1 (.int .i64 ((q : Int) + 1)) (by omega) (by rw [mksFeature_get, hq]; rfl)
      have hc2 := hc 2 (.int .i64 ((q : Int) + 2)) (by omega) (by rw [mksFeature_get, hq]; rfl)
      clear hc
      simp only [← Nat.add_assoc, Nat.add_zero] at hc0 hc1 hc2
      obtain ⟨hcb, hfb⟩ := bcell hb
      go_wp2
      go_roundw
      case rel => exact ⟨i + 1, q + 3, by omega, by omega, by go_num, by go_num, hb⟩
      case measure => (simp [intOf] <;> omega)
    · obtain rfl : i = n := by omega
      go_wp2
      go_ret
      exact ⟨ret_int (by omega), hb⟩
end Go.Proofs.YtlfmpgfobkmgfaaGreatDoor
