/- Walks of the helpers in laws: slices of strings: copy, allowance, equality. -/
import Derived.Test.YtbobehieaaaleaaDoorMark
import Derived.Test.YtbobehieaaaleaaDoorW15
import Derived.StillTailTactics
import Derived.Lib.SmallJoins
namespace Go.Proofs.YtbobehieaaaleaaDoor
open Go.RowKit
set_option linter.unusedVariables false

theorem eltStr : Elt Tryd.prog 22 9 1 16 (.string ByteArray.empty) := Elt.mk' Tryd.underlying22 (by kernel_rfl) rfl (by decide)
def okString (x : ByteArray) : Prop := x.size ≤ maxLen

set_option maxHeartbeats 1000000 in
theorem toStringS_any (A : Option Addr) (c : Nat) (l : List ByteArray) (w : World) (h : Rd w w.heap.size 1 A l.length (flat fS l)) (hn : l.length ≤ 1048576) :
    Calls Tryd.prog 7 #[.slice A l.length c] w fun e w' => ∃ v, e = .returned v ∧ w'.ownsRow w.heap.size 9 1 v l.length (flat fS l) ∧ Below w.heap.size w w' := by
  have hmk := fun W => eltStr.make l.length (by omega) (by omega) W
  have hfl := flat_length fS 1 fS_len l
  go_enter Tryd.func7, Tryd.ntmps7
  go_wp2
  go_loopw [4] (fun i wr => ∃ k : Nat, k ≤ l.length ∧ i = .int .i64 k ∧ FillC wr w.heap.size 9 l.length (flat fS l) k ∧ Below w.heap.size w wr) (fun i _ => l.length - (intOf i).toNat)
  case atStart => exact ⟨0, Nat.zero_le _, rfl, FillC.made w _ _ _ _, below_alloc (Below.refl _ _) _⟩
  case round =>
    obtain ⟨k, hk, rfl, hf, hb⟩ := hrel
    by_cases hlt : k < l.length
    · obtain ⟨b, off, rfl, hbb, hc⟩ := (h.below hb).at_ fS_len rfl k hlt
      have hc0 := hc 0 _ (by omega) rfl
      simp only [Nat.mul_one, Nat.add_zero] at hc0
      obtain ⟨u, hu⟩ := hf.some_ k (by omega)
      have hfz := hf.free k
      have hx : (flat fS l)[k]? = some (.string l[k]) := by
        have := flat_get fS 1 fS_len l k 0 hlt (by omega)
        simpa [fS] using this
      have hput := hf.put _ (by omega) hx
      go_wp2
      go_roundw
      case rel => exact ⟨k + 1, by omega, by go_num, hput, (by repeat (first | exact Below.refl _ _ | refine below_step ?_ (by assumption) | assumption | refine Below.drew ?_ | refine below_drewN ?_ _ | refine below_alloc ?_ _ | refine Below.setCell ?_ (by simp; try omega) _))⟩
      case measure => (simp [intOf] <;> omega)
    · obtain rfl : k = l.length := by omega
      have hown := hf.own (base := w.heap.size) (size := 1) (n := l.length) (by omega) (by omega) (Nat.le_refl _) (by simp only [maxLen]; omega)
      go_wp2
      go_ret
      exact ⟨_, rfl, hown, hb⟩

def tzString (l : List ByteArray) : List Nat := l.length :: l.map ByteArray.size
set_option maxHeartbeats 1000000 in
theorem szStringS_any (A : Option Addr) (c : Nat) (l : List ByteArray) (left : Int) (w : World) (h : Rd w w.heap.size 1 A l.length (flat fS l)) (hn : l.length ≤ maxLen) (h0 : 0 ≤ left) (h1 : left ≤ 1048576) (hok : ∀ x ∈ l, okString x) :
    Calls Tryd.prog 5 #[.slice A l.length c, .int .i64 left] w fun e w' => e = .returned (.int .i64 (subs left (tzString l))) ∧ Below w.heap.size w w' := by
  unfold maxLen at hn
  by_cases hneg : left - l.length < 0
  · have HR := Lib.hid (show subs left (tzString l) = -1 from by simp only [tzString, subs, if_pos hneg])
    go_enter Tryd.func5, Tryd.ntmps5
    go_wp2
    go_ret
    exact ⟨ret_int (by rw [HR.out]), Below.refl _ _⟩
  have HS := Lib.hid (show subs (left - l.length) ((l.drop 0).map ByteArray.size) = subs left (tzString l) from by simp only [tzString, subs, if_neg hneg, List.drop_zero])
  go_enter Tryd.func5, Tryd.ntmps5
  go_wp2
  go_loop [1, 5] (fun m i => ∃ (k : Nat) (x : Int), k ≤ l.length ∧ i = .int .i64 k ∧ m = .int .i64 x ∧ 0 ≤ x ∧ x ≤ 1048576 ∧ Hid (subs x ((l.drop k).map ByteArray.size) = subs left (tzString l))) (fun _ i => l.length - (intOf i).toNat)
  case atStart => exact ⟨0, left - l.length, Nat.zero_le _, rfl, rfl, by omega, by omega, HS⟩
  case round =>
    obtain ⟨k, x, hk, rfl, rfl, hx0, hx1, HI⟩ := hrel
    by_cases hlt : k < l.length
    · obtain ⟨b, off, rfl, hbb, hc⟩ := h.at_ fS_len rfl k hlt
      have hokk : l[k].size ≤ 9223372036854775807 := hok l[k] (List.getElem_mem hlt)
      have hc0 := hc 0 _ (by omega) rfl
      simp only [Nat.mul_one, Nat.add_zero] at hc0
      clear hc
      have hd := HI.out
      rw [List.drop_eq_getElem_cons hlt, List.map_cons, subs] at hd
      by_cases hq : x - l[k].size < 0
      · rw [if_pos hq] at hd
        have HR := Lib.hid hd
        clear hd
        go_wp2
        go_ret
        exact ⟨ret_int HR.out, Below.refl _ _⟩
      · rw [if_neg hq] at hd
        have HR := Lib.hid hd
        clear hd
        go_wp2
        go_round
        case rel => exact ⟨k + 1, x - l[k].size, by omega, by go_num, rfl, by omega, by omega, HR⟩
        case measure => (simp [intOf] <;> omega)
    · have HR := Lib.hid (show x = subs left (tzString l) from by rw [← HI.out, List.drop_eq_nil_of_le (by omega)]; rfl)
      go_wp2
      go_ret
      exact ⟨ret_int HR.out, Below.refl _ _⟩

set_option maxRecDepth 100000 in
set_option maxHeartbeats 1000000 in
theorem eqStringS_any (A A' : Option Addr) (c c' : Nat) (l : List ByteArray) (w : World) (h : Rd w w.heap.size 1 A l.length (flat fS l)) (h' : Rd w w.heap.size 1 A' l.length (flat fS l)) (hn : l.length ≤ 1048576) :
    Calls Tryd.prog 10 #[.slice A l.length c, .slice A' l.length c'] w fun e w' => e = .returned (.bool true) ∧ Below w.heap.size w w' := by
  go_enter Tryd.func10, Tryd.ntmps10
  go_wp2
  go_loopw [5] (fun i wr => ∃ k n : Nat, k ≤ l.length ∧ i = .int .i64 k ∧ wr = w.drewN n) (fun i _ => l.length - (intOf i).toNat)
  case atStart => exact ⟨0, 0, Nat.zero_le _, rfl, rfl⟩
  case round =>
    obtain ⟨k, n, hk, rfl, rfl⟩ := hrel
    by_cases hlt : k < l.length
    · obtain ⟨b, off, rfl, hbb, hc⟩ := h.at_ fS_len rfl k hlt
      obtain ⟨b', off', rfl, hbb', hc'⟩ := h'.at_ fS_len rfl k hlt
      have hc0 := hc 0 _ (by omega) rfl
      have hc0' := hc' 0 _ (by omega) rfl
      simp only [Nat.mul_one, Nat.add_zero] at hc0 hc0'
      go_wp2_with fail
      go_quiet (fail)
      go_wp2
      go_roundw
      case rel => exact ⟨k + 1, _, by omega, by go_num, rfl⟩
      case measure => (simp [intOf] <;> omega)
    · go_wp2
      go_ret
      exact ⟨rfl, below_drewN (Below.refl _ _) _⟩
end Go.Proofs.YtbobehieaaaleaaDoor
