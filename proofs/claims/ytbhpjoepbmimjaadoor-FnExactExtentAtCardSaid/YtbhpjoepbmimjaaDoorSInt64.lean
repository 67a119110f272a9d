/- Walks of the helpers in laws: slices of whole numbers: allowance, equality, marks. -/
import Derived.Test.YtbhpjoepbmimjaaDoorMark
import Derived.Test.YtbhpjoepbmimjaaDoorW15
import Derived.StillTailTactics
import Derived.Lib.SmallJoins
namespace Go.Proofs.YtbhpjoepbmimjaaDoor
open Go.RowKit
set_option linter.unusedVariables false

def tzInt64 (l : List Int) : List Nat := [l.length]
def okInt64 (x : Int) : Prop := -9223372036854775808 ≤ x ∧ x ≤ 9223372036854775807
theorem eqInt64S_b (A A' : Option Addr) (c c' : Nat) (l : List Int) (w : World) (h : Rd w w.heap.size 1 A l.length (flat fI l)) (h' : Rd w w.heap.size 1 A' l.length (flat fI l)) (hn : l.length ≤ 1048576) :
    Calls Tryd.prog 31 #[.slice A l.length c, .slice A' l.length c'] w fun e w' => e = .returned (.bool true) ∧ Below w.heap.size w w' := by
  refine (eqInt64S_any A A' c c' l w _ h h' hn).mono ?_
  rintro e w1 ⟨rfl, n, rfl⟩
  exact ⟨rfl, below_drewN (Below.refl _ _) _⟩

def mksInt64 (k m : Nat) : List Int := (List.range m).map fun i => ((k + i : Nat) : Int)
theorem mksInt64_len (k m : Nat) : (mksInt64 k m).length = m := by simp [mksInt64]
theorem mksInt64_succ (k m : Nat) : mksInt64 k (m + 1) = mksInt64 k m ++ [((k + m : Nat) : Int)] := by simp [mksInt64, List.range_succ]
theorem mksInt64_get (k m i : Nat) (h : i < (mksInt64 k m).length) : (mksInt64 k m)[i] = ((k + i : Nat) : Int) := by simp [mksInt64]
theorem mksInt64_put (k m : Nat) (l : List Int) (h : m < l.length) : (flat fI (mksInt64 k m ++ l.drop m)).set m (.int .i64 ((k + m : Nat) : Int)) = flat fI (mksInt64 k (m + 1) ++ l.drop (m + 1)) := by
  have := flat_put fI 1 fI_len (mksInt64 k m) (l.drop (m + 1)) l[m] ((k + m : Nat) : Int)
  rw [mksInt64_len, Nat.mul_one] at this
  rw [List.drop_eq_getElem_cons h, mksInt64_succ, List.append_assoc]
  exact this

set_option maxRecDepth 100000 in
set_option maxHeartbeats 1000000 in
theorem markInt64S_any (A : Option Addr) (c k : Nat) (l : List Int) (w : World) (base : Nat) (h : w.ownsRow base 2 1 (.slice A l.length c) l.length (flat fI l)) (hk1 : 1 ≤ k) (hk2 : k ≤ 10000000000) (hl : l.length ≤ 10000000000) :
    Calls Tryd.prog 33 #[.slice A l.length c, .int .i64 (k : Int)] w fun e w' => e = .returned (.int .i64 ((k + 1 * l.length : Nat) : Int)) ∧ w'.ownsRow base 2 1 (.slice A l.length c) l.length (flat fI (mksInt64 k l.length)) ∧ w.grownBy w' (Value.slice A l.length c).ownBlock := by
  go_enter Tryd.func33, Tryd.ntmps33
  go_wp2
  go_loopw [1, 5] (fun kk i wr => ∃ m q : Nat, m ≤ l.length ∧ k + m = q ∧ i = .int .i64 m ∧ kk = .int .i64 q ∧ wr.ownsRow base 2 1 (.slice A l.length c) l.length (flat fI (mksInt64 k m ++ l.drop m)) ∧ w.grownBy wr (Value.slice A l.length c).ownBlock) (fun _ i _ => l.length - (intOf i).toNat)
  case atStart => exact ⟨0, k, Nat.zero_le _, by omega, rfl, rfl, h, World.grownBy.refl _ _⟩
  case round =>
    obtain ⟨m, q, hm, hq, rfl, rfl, ho, hg⟩ := hrel
    by_cases hlt : m < l.length
    · obtain ⟨g, cap, hv⟩ := Go.Joins.ownsRow_form ho (by omega)
      cases hv
      have hput := mksInt64_put k m l hlt
      rw [hq] at hput
      obtain ⟨u0, hu0⟩ := own_some ho m (by omega)
      have hz0 := World.ownsRow.frozenAt ho m
      go_wp2
      go_roundw
      case rel =>
        refine ⟨m + 1, q + 1, by omega, by omega, by go_num, by go_num, ?_, hg.trans (World.ownsRow.stored ho _ _).2⟩
        rw [← hput]
        exact (World.ownsRow.stored ho _ _).1
      case measure => (simp [intOf] <;> omega)
    · obtain rfl : m = l.length := by omega
      rw [List.drop_length, List.append_nil] at ho
      go_wp2
      go_ret
      exact ⟨ret_int (by omega), ho, hg⟩

set_option maxRecDepth 100000 in
set_option maxHeartbeats 1000000 in
theorem heldInt64S_any (A : Option Addr) (c k n : Nat) (w : World) (h : Rd w w.heap.size 1 A n (flat fI (mksInt64 k n))) (hk1 : 1 ≤ k) (hk2 : k ≤ 10000000000) (hl : n ≤ 10000000000) :
    Calls Tryd.prog 34 #[.slice A n c, .int .i64 (k : Int)] w fun e w' => e = .returned (.int .i64 ((k + 1 * n : Nat) : Int)) ∧ Below w.heap.size w w' := by
  go_enter Tryd.func34, Tryd.ntmps34
  go_wp2
  go_loop [1, 5] (fun kk i => ∃ i' q : Nat, i' ≤ n ∧ k + i' = q ∧ i = .int .i64 i' ∧ kk = .int .i64 q) (fun _ i => n - (intOf i).toNat)
  case atStart => exact ⟨0, k, Nat.zero_le _, by omega, rfl, rfl⟩
  case round =>
    obtain ⟨i, q, hi, hq, rfl, rfl⟩ := hrel
    by_cases hlt : i < n
    · obtain ⟨b, off, rfl, hbb, hc⟩ := h.at_ fI_len (mksInt64_len k n).symm i hlt
      have hc0 := hc 0 (.int .i64 q) (by omega) (by rw [mksInt64_get, hq]; rfl)
      simp only [Nat.mul_one, Nat.add_zero] at hc0
      clear hc
      go_wp2
      go_round
      case rel => exact ⟨i + 1, q + 1, by omega, by omega, by go_num, by go_num⟩
      case measure => (simp [intOf] <;> omega)
    · obtain rfl : i = n := by omega
      go_wp2
      go_ret
      exact ⟨ret_int (by omega), Below.refl _ _⟩
end Go.Proofs.YtbhpjoepbmimjaaDoor
