/- Walks of the helpers in laws: SectorSpec. Printed by mk_leaf.py. -/
import Derived.Test.YticnmljahnnhcaaMem4
import Derived.Test.YticnmljahnnhcaaW2
import Derived.Deep.DeepMust
import Derived.StillTailTactics
import Derived.OpenShut
import Derived.Test.YticnmljahnnhcaaMark
import Derived.Lib.SmallJoins
namespace Go.Proofs.Yticnmljahnnhcaa
open Go.RowKit Go.ChangeShapes Go.WideShapes Go.Deep

structure DSectorSpec where
  f0 : Int
  f1 : Int
  f2 : Int
  f3 : Int
  f4 : ByteArray
  f5 : Bool
  f6 : Bool
  f7 : Bool
def fSectorSpec (x : DSectorSpec) : List Value := [.int .i64 x.f0, .int .i64 x.f1, .int .i64 x.f2, .int .i64 x.f3, .string x.f4, .bool x.f5, .bool x.f6, .bool x.f7]
theorem fSectorSpec_len (x : DSectorSpec) : (fSectorSpec x).length = 8 := rfl
def vSectorSpec (x : DSectorSpec) : Value := .agg #[.int .i64 x.f0, .int .i64 x.f1, .int .i64 x.f2, .int .i64 x.f3, .string x.f4, .bool x.f5, .bool x.f6, .bool x.f7]
def zSectorSpec (x : DSectorSpec) : List Nat := [x.f4.size]
def okSectorSpec (x : DSectorSpec) : Prop := x.f4.size ≤ maxLen ∧ (-9223372036854775808 ≤ x.f0 ∧ x.f0 ≤ 9223372036854775807) ∧ (-9223372036854775808 ≤ x.f1 ∧ x.f1 ≤ 9223372036854775807) ∧ (-9223372036854775808 ≤ x.f2 ∧ x.f2 ≤ 9223372036854775807) ∧ (-9223372036854775808 ≤ x.f3 ∧ x.f3 ≤ 9223372036854775807)

set_option maxRecDepth 100000 in
set_option maxHeartbeats 1000000 in
theorem eqSectorSpec_any (a0 : Int) (a1 : Int) (a2 : Int) (a3 : Int) (a4 : ByteArray) (a5 : Bool) (a6 : Bool) (a7 : Bool) (w : World) :
    Calls Try.prog 137 #[.agg #[.int .i64 a0, .int .i64 a1, .int .i64 a2, .int .i64 a3, .string a4, .bool a5, .bool a6, .bool a7], .agg #[.int .i64 a0, .int .i64 a1, .int .i64 a2, .int .i64 a3, .string a4, .bool a5, .bool a6, .bool a7]] w fun e w' => e = .returned (.bool true) ∧ Below w.heap.size w w' := by
  go_enter Try.func137, Try.ntmps137
  go_wp2
  go_ret
  exact ⟨rfl, (by repeat (first | exact Below.refl _ _ | refine below_step ?_ (by assumption) | assumption | refine Below.drew ?_ | refine below_drewN ?_ _ | refine below_alloc ?_ _ | refine Below.setCell ?_ (by simp; try omega) _))⟩

set_option maxRecDepth 100000 in
set_option maxHeartbeats 1000000 in
theorem eqSectorSpecS_any (A A' : Option Addr) (c c' : Nat) (l : List DSectorSpec) (w : World) (h : Rd w w.heap.size 8 A l.length (flat fSectorSpec l)) (h' : Rd w w.heap.size 8 A' l.length (flat fSectorSpec l)) (hn : l.length ≤ 1048576) :
    Calls Try.prog 99 #[.slice A l.length c, .slice A' l.length c'] w fun e w' => e = .returned (.bool true) ∧ Below w.heap.size w w' := by
  go_enter Try.func99, Try.ntmps99
  go_wp2
  go_loopw [5] (fun i wr => ∃ k : Nat, k ≤ l.length ∧ i = .int .i64 k ∧ Below w.heap.size w wr) (fun i _ => l.length - (intOf i).toNat)
  case atStart => exact ⟨0, Nat.zero_le _, rfl, Below.refl _ _⟩
  case round =>
    obtain ⟨k, hk, rfl, hb⟩ := hrel
    by_cases hlt : k < l.length
    · obtain ⟨b, off, rfl, hbb, hc⟩ := (h.below hb).at_ fSectorSpec_len rfl k hlt
      obtain ⟨b', off', rfl, hbb', hd⟩ := (h'.below hb).at_ fSectorSpec_len rfl k hlt
      have hc0 := hc 0 _ (by omega) rfl
      have hd0 := hd 0 _ (by omega) rfl
      have hc1 := hc 1 _ (by omega) rfl
      have hd1 := hd 1 _ (by omega) rfl
      have hc2 := hc 2 _ (by omega) rfl
      have hd2 := hd 2 _ (by omega) rfl
      have hc3 := hc 3 _ (by omega) rfl
      have hd3 := hd 3 _ (by omega) rfl
      have hc4 := hc 4 _ (by omega) rfl
      have hd4 := hd 4 _ (by omega) rfl
      have hc5 := hc 5 _ (by omega) rfl
      have hd5 := hd 5 _ (by omega) rfl
      have hc6 := hc 6 _ (by omega) rfl
      have hd6 := hd 6 _ (by omega) rfl
      have hc7 := hc 7 _ (by omega) rfl
      have hd7 := hd 7 _ (by omega) rfl
      clear hc hd
      simp only [← Nat.add_assoc, Nat.add_zero] at hc0 hd0 hc1 hd1 hc2 hd2 hc3 hd3 hc4 hd4 hc5 hd5 hc6 hd6 hc7 hd7
      go_wp2_with fail
      go_still_tail 8, (by kernel_rfl)
      change wpList _ _ _ _ _ wr.drew
      replace hb := Below.drew hb
      generalize wr.drew = w2 at hb ⊢
      go_wp2_with (go_at_call 137; refine (eqSectorSpec_any l[k].f0 l[k].f1 l[k].f2 l[k].f3 l[k].f4 l[k].f5 l[k].f6 l[k].f7 _).mono ?_; rintro e w1 ⟨rfl, hx⟩; replace hb := below_step hb hx)
      go_roundw
      case rel => exact ⟨k + 1, by omega, by go_num, hb⟩
      case measure => (simp [intOf] <;> omega)
    · go_wp2
      go_ret
      exact ⟨rfl, hb⟩

def mqSectorSpec (q : Nat) : DSectorSpec := ⟨(q : Int), (q : Int) + 1, (q : Int) + 2, (q : Int) + 3, mtxt (q + 4), decide (((q : Int) + 5).tmod 3 = 0), decide (((q : Int) + 6).tmod 3 = 0), decide (((q : Int) + 7).tmod 3 = 0)⟩
def mksSectorSpec (k m : Nat) : List DSectorSpec := (List.range m).map fun i => mqSectorSpec (k + 8 * i)
theorem mksSectorSpec_len (k m : Nat) : (mksSectorSpec k m).length = m := by simp [mksSectorSpec]
theorem mksSectorSpec_succ (k m : Nat) : mksSectorSpec k (m + 1) = mksSectorSpec k m ++ [mqSectorSpec (k + 8 * m)] := by simp [mksSectorSpec, List.range_succ]
theorem mksSectorSpec_get (k m i : Nat) (h : i < (mksSectorSpec k m).length) : (mksSectorSpec k m)[i] = mqSectorSpec (k + 8 * i) := by simp [mksSectorSpec]
theorem mksSectorSpec_put (k m : Nat) (l : List DSectorSpec) (h : m < l.length) : putV (flat fSectorSpec (mksSectorSpec k m ++ l.drop m)) (m * 8) (fSectorSpec (mqSectorSpec (k + 8 * m))) = flat fSectorSpec (mksSectorSpec k (m + 1) ++ l.drop (m + 1)) := by
  have := flat_put fSectorSpec 8 fSectorSpec_len (mksSectorSpec k m) (l.drop (m + 1)) l[m] (mqSectorSpec (k + 8 * m))
  rw [mksSectorSpec_len] at this
  rw [List.drop_eq_getElem_cons h, this, mksSectorSpec_succ, List.append_assoc]
  rfl

set_option maxRecDepth 100000 in
set_option maxHeartbeats 1000000 in
theorem markSectorSpecS_any (A : Option Addr) (c k : Nat) (l : List DSectorSpec) (w : World) (base : Nat) (h : w.ownsRow base 150 8 (.slice A l.length c) l.length (flat fSectorSpec l)) (hk1 : 1 ≤ k) (hk2 : k ≤ 10000000000) (hl : l.length ≤ 10000000000) :
    Calls Try.prog 102 #[.slice A l.length c, .int .i64 (k : Int)] w fun e w' => e = .returned (.int .i64 ((k + 8 * l.length : Nat) : Int)) ∧ w'.ownsRow base 150 8 (.slice A l.length c) l.length (flat fSectorSpec (mksSectorSpec k l.length)) ∧ w.grownBy w' (Value.slice A l.length c).ownBlock := by
  go_enter Try.func102, Try.ntmps102
  go_wp2
  go_loopw [1, 5] (fun kk i wr => ∃ m q : Nat, m ≤ l.length ∧ k + 8 * m = q ∧ i = .int .i64 m ∧ kk = .int .i64 q ∧ wr.ownsRow base 150 8 (.slice A l.length c) l.length (flat fSectorSpec (mksSectorSpec k m ++ l.drop m)) ∧ w.grownBy wr (Value.slice A l.length c).ownBlock) (fun _ i _ => l.length - (intOf i).toNat)
  case atStart => exact ⟨0, k, Nat.zero_le _, by omega, rfl, rfl, h, World.grownBy.refl _ _⟩
  case round =>
    obtain ⟨m, q, hm, hq, rfl, rfl, ho, hg⟩ := hrel
    by_cases hlt : m < l.length
    · obtain ⟨g, cap, hv⟩ := Go.Joins.ownsRow_form ho (by omega)
      cases hv
      have hput := mksSectorSpec_put k m l hlt
      rw [hq] at hput
      have hbf5 : (((q : Int) + 1 + 1 + 1 + 1 + 1) % 3 == 0) = decide (((q : Int) + 5) % 3 = 0) := (by rw [show (q : Int) + 1 + 1 + 1 + 1 + 1 = (q : Int) + 5 from by omega]; rfl)
      have hbf6 : (((q : Int) + 1 + 1 + 1 + 1 + 1 + 1) % 3 == 0) = decide (((q : Int) + 6) % 3 = 0) := (by rw [show (q : Int) + 1 + 1 + 1 + 1 + 1 + 1 = (q : Int) + 6 from by omega]; rfl)
      have hbf7 : (((q : Int) + 1 + 1 + 1 + 1 + 1 + 1 + 1) % 3 == 0) = decide (((q : Int) + 7) % 3 = 0) := (by rw [show (q : Int) + 1 + 1 + 1 + 1 + 1 + 1 + 1 = (q : Int) + 7 from by omega]; rfl)
      have hm4 := fun W => markText_any (q + 4) W (by omega) (by omega)
      simp only [show ((q + 4 : Nat) : Int) = (q : Int) + 4 from by omega] at hm4
      obtain ⟨u0, hu0⟩ := own_some ho (m * 8 + 0) (by omega)
      have hz0 := World.ownsRow.frozenAt ho (m * 8 + 0)
      obtain ⟨u1, hu1⟩ := own_some ho (m * 8 + 1) (by omega)
      have hz1 := World.ownsRow.frozenAt ho (m * 8 + 1)
      obtain ⟨u2, hu2⟩ := own_some ho (m * 8 + 2) (by omega)
      have hz2 := World.ownsRow.frozenAt ho (m * 8 + 2)
      obtain ⟨u3, hu3⟩ := own_some ho (m * 8 + 3) (by omega)
      have hz3 := World.ownsRow.frozenAt ho (m * 8 + 3)
      simp only [Nat.add_zero] at hu0 hz0
      go_wp2_with (first
        | (go_at_call 112; refine (hm4 _).mono ?_; rintro e w14 ⟨rfl, hx⟩; replace hg := ((((hg.trans (World.ownsRow.stored ho _ _).2).trans (World.ownsRow.stored (World.ownsRow.stored ho _ _).1 _ _).2).trans (World.ownsRow.stored (World.ownsRow.stored (World.ownsRow.stored ho _ _).1 _ _).1 _ _).2).trans (World.ownsRow.stored (World.ownsRow.stored (World.ownsRow.stored (World.ownsRow.stored ho _ _).1 _ _).1 _ _).1 _ _).2).trans (only_of_below hx _); replace ho := own_later (World.ownsRow.stored (World.ownsRow.stored (World.ownsRow.stored (World.ownsRow.stored ho _ _).1 _ _).1 _ _).1 _ _).1 hx (Nat.le_refl _); obtain ⟨u4, hu4⟩ := own_some ho (m * 8 + 4) (by omega); have hz4 := World.ownsRow.frozenAt ho (m * 8 + 4); obtain ⟨u5, hu5⟩ := own_some ho (m * 8 + 5) (by omega); have hz5 := World.ownsRow.frozenAt ho (m * 8 + 5); obtain ⟨u6, hu6⟩ := own_some ho (m * 8 + 6) (by omega); have hz6 := World.ownsRow.frozenAt ho (m * 8 + 6); obtain ⟨u7, hu7⟩ := own_some ho (m * 8 + 7) (by omega); have hz7 := World.ownsRow.frozenAt ho (m * 8 + 7); have mark1 := True.intro))
      go_roundw
      case rel =>
        refine ⟨m + 1, q + 8, by omega, by omega, by go_num, by go_num, ?_, ((((hg.trans (World.ownsRow.stored ho _ _).2).trans (World.ownsRow.stored (World.ownsRow.stored ho _ _).1 _ _).2).trans (World.ownsRow.stored (World.ownsRow.stored (World.ownsRow.stored ho _ _).1 _ _).1 _ _).2).trans (World.ownsRow.stored (World.ownsRow.stored (World.ownsRow.stored (World.ownsRow.stored ho _ _).1 _ _).1 _ _).1 _ _).2)⟩
        rw [← hput]
        exact (World.ownsRow.stored (World.ownsRow.stored (World.ownsRow.stored (World.ownsRow.stored ho _ _).1 _ _).1 _ _).1 _ _).1
      case measure => (simp [intOf] <;> omega)
    · obtain rfl : m = l.length := by omega
      rw [List.drop_length, List.append_nil] at ho
      go_wp2
      go_ret
      exact ⟨ret_int (by omega), ho, hg⟩

set_option maxRecDepth 100000 in
set_option maxHeartbeats 1000000 in
theorem heldSectorSpecS_any (A : Option Addr) (c k n : Nat) (w : World) (h : Rd w w.heap.size 8 A n (flat fSectorSpec (mksSectorSpec k n))) (hk1 : 1 ≤ k) (hk2 : k ≤ 10000000000) (hl : n ≤ 10000000000) :
    Calls Try.prog 103 #[.slice A n c, .int .i64 (k : Int)] w fun e w' => e = .returned (.int .i64 ((k + 8 * n : Nat) : Int)) ∧ Below w.heap.size w w' := by
  go_enter Try.func103, Try.ntmps103
  go_wp2
  go_loopw [1, 5] (fun kk i wr => ∃ i' q : Nat, i' ≤ n ∧ k + 8 * i' = q ∧ i = .int .i64 i' ∧ kk = .int .i64 q ∧ Below w.heap.size w wr) (fun _ i _ => n - (intOf i).toNat)
  case atStart => exact ⟨0, k, Nat.zero_le _, by omega, rfl, rfl, Below.refl _ _⟩
  case round =>
    obtain ⟨i, q, hi, hq, rfl, rfl, hb⟩ := hrel
    by_cases hlt : i < n
    · obtain ⟨b, off, rfl, hbb, hc⟩ := h.at_ fSectorSpec_len (mksSectorSpec_len k n).symm i hlt
      have hc0 := hc 0 (.int .i64 ((q : Int))) (by omega) (by rw [mksSectorSpec_get, hq]; rfl)
      have hc1 := hc 1 (.int .i64 ((q : Int) + 1)) (by omega) (by rw [mksSectorSpec_get, hq]; rfl)
      have hc2 := hc 2 (.int .i64 ((q : Int) + 2)) (by omega) (by rw [mksSectorSpec_get, hq]; rfl)
      have hc3 := hc 3 (.int .i64 ((q : Int) + 3)) (by omega) (by rw [mksSectorSpec_get, hq]; rfl)
      have hc4 := hc 4 (.string (mtxt (q + 4))) (by omega) (by rw [mksSectorSpec_get, hq]; rfl)
      have hc5 := hc 5 (.bool (decide (((q : Int) + 5).tmod 3 = 0))) (by omega) (by rw [mksSectorSpec_get, hq]; rfl)
      have hc6 := hc 6 (.bool (decide (((q : Int) + 6).tmod 3 = 0))) (by omega) (by rw [mksSectorSpec_get, hq]; rfl)
      have hc7 := hc 7 (.bool (decide (((q : Int) + 7).tmod 3 = 0))) (by omega) (by rw [mksSectorSpec_get, hq]; rfl)
      clear hc
      simp only [← Nat.add_assoc, Nat.add_zero] at hc0 hc1 hc2 hc3 hc4 hc5 hc6 hc7
      have hbf5 : (((q : Int) + 1 + 1 + 1 + 1 + 1) % 3 == 0) = decide (((q : Int) + 5) % 3 = 0) := (by rw [show (q : Int) + 1 + 1 + 1 + 1 + 1 = (q : Int) + 5 from by omega]; rfl)
      have hbf6 : (((q : Int) + 1 + 1 + 1 + 1 + 1 + 1) % 3 == 0) = decide (((q : Int) + 6) % 3 = 0) := (by rw [show (q : Int) + 1 + 1 + 1 + 1 + 1 + 1 = (q : Int) + 6 from by omega]; rfl)
      have hbf7 : (((q : Int) + 1 + 1 + 1 + 1 + 1 + 1 + 1) % 3 == 0) = decide (((q : Int) + 7) % 3 = 0) := (by rw [show (q : Int) + 1 + 1 + 1 + 1 + 1 + 1 + 1 = (q : Int) + 7 from by omega]; rfl)
      have hm4 := fun W => markText_any (q + 4) W (by omega) (by omega)
      simp only [show ((q + 4 : Nat) : Int) = (q : Int) + 4 from by omega] at hm4
      obtain ⟨hcb, hfb⟩ := bcell hb
      have hr4 := (hb.cell (p := ⟨b, off + i * 8 + 4, none⟩) hbb).trans hc4
      go_wp2_with fail
      go_region_held3 (fun W => Below w.heap.size w W ∧ W.cell? ⟨b, off + i * 8 + 4, none⟩ = some (.string (mtxt (q + 4)))) (first | exact keepS hc4 hbb (Below.drew hb) | exact keepS hc4 hbb (below_step (Below.drew hb) hx)) (first | (go_at_call 112; refine (hm4 _).mono ?_; rintro e w4 ⟨rfl, hx⟩))
      replace hb := below_step (Below.drew hb) hx
      clear hcb hfb
      obtain ⟨hcb, hfb⟩ := bcell hb
      go_wp2
      go_roundw
      case rel => exact ⟨i + 1, q + 8, by omega, by omega, by go_num, by go_num, hb⟩
      case measure => (simp [intOf] <;> omega)
    · obtain rfl : i = n := by omega
      go_wp2
      go_ret
      exact ⟨ret_int (by omega), hb⟩
end Go.Proofs.Yticnmljahnnhcaa
