/- Walks of the laws' own helpers: slices of whole numbers. -/
import Derived.Test.YtipkckoejkmhfaaMem4
import Derived.Test.YtipkckoejkmhfaaW2
import Derived.Deep.DeepMust
namespace Go.Proofs.Ytipkckoejkmhfaa
open Go.RowKit
set_option linter.unusedVariables false

theorem eltI : Elt Try.prog 40 2 1 8 (.int .i64 0) := Elt.mk' Try.underlying40 (by kernel_rfl) rfl (by decide)

set_option maxHeartbeats 1000000 in
theorem toInt64S_any (A : Option Addr) (c : Nat) (l : List Int) (w : World) (h : Rd w w.heap.size 1 A l.length (flat fI l)) (hn : l.length ≤ 1048576) :
    Calls Try.prog 50 #[.slice A l.length c] w fun e w' => ∃ v, e = .returned v ∧ w'.ownsRow w.heap.size 2 1 v l.length (flat fI l) ∧ Below w.heap.size w w' := by
  have hmk := fun W => eltI.make l.length (by omega) (by omega) W
  have hfl := flat_length fI 1 fI_len l
  go_enter Try.func50, Try.ntmps50
  go_wp2
  go_loopw [4] (fun i wr => ∃ k : Nat, k ≤ l.length ∧ i = .int .i64 k ∧ FillC wr w.heap.size 2 l.length (flat fI l) k ∧ Below w.heap.size w wr) (fun i _ => l.length - (intOf i).toNat)
  case atStart => exact ⟨0, Nat.zero_le _, rfl, FillC.made w _ _ _ _, below_alloc (Below.refl _ _) _⟩
  case round =>
    obtain ⟨k, hk, rfl, hf, hb⟩ := hrel
    by_cases hlt : k < l.length
    · obtain ⟨b, off, rfl, hbb, hc⟩ := (h.below hb).at_ fI_len rfl k hlt
      have hc0 := hc 0 _ (by omega) rfl
      simp only [Nat.mul_one, Nat.add_zero] at hc0
      obtain ⟨u, hu⟩ := hf.some_ k (by omega)
      have hfz := hf.free k
      have hx : (flat fI l)[k]? = some (.int .i64 l[k]) := by
        have := flat_get fI 1 fI_len l k 0 hlt (by omega)
        simpa [fI] using this
      have hput := hf.put _ (by omega) hx
      go_wp2
      go_roundw
      case rel => exact ⟨k + 1, by omega, by go_num, hput, (by repeat (first | exact Below.refl _ _ | refine below_step ?_ (by assumption) | assumption | refine Below.drew ?_ | refine below_drewN ?_ _ | refine below_alloc ?_ _ | refine Below.setCell ?_ (by simp; try omega) _))⟩
      case measure => (simp [intOf] <;> omega)
    · obtain rfl : k = l.length := by omega
      have hown := hf.own (base := w.heap.size) (size := 1) (n := l.length) (by omega) (by omega) (Nat.le_refl _) (by simp only [maxLen]; omega)
      go_wp2
      go_ret
      exact ⟨_, rfl, hown, hb⟩

set_option maxHeartbeats 1000000 in
theorem eqInt64S_any (A A' : Option Addr) (c c' : Nat) (l : List Int) (w : World) (B : Nat) (h : Rd w B 1 A l.length (flat fI l)) (h' : Rd w B 1 A' l.length (flat fI l)) (hn : l.length ≤ 1048576) :
    Calls Try.prog 21 #[.slice A l.length c, .slice A' l.length c'] w fun e w' => e = .returned (.bool true) ∧ ∃ n, w' = w.drewN n := by
  go_enter Try.func21, Try.ntmps21
  go_wp2
  go_loopw [5] (fun i wr => ∃ k n : Nat, k ≤ l.length ∧ i = .int .i64 k ∧ wr = w.drewN n) (fun i _ => l.length - (intOf i).toNat)
  case atStart => exact ⟨0, 0, Nat.zero_le _, rfl, rfl⟩
  case round =>
    obtain ⟨k, n, hk, rfl, rfl⟩ := hrel
    by_cases hlt : k < l.length
    · obtain ⟨b, off, rfl, hbb, hc⟩ := h.at_ fI_len rfl k hlt
      obtain ⟨b', off', rfl, hbb', hc'⟩ := h'.at_ fI_len rfl k hlt
      have hc0 := hc 0 _ (by omega) rfl
      have hc0' := hc' 0 _ (by omega) rfl
      simp only [Nat.mul_one, Nat.add_zero] at hc0 hc0'
      have g1 : (l[k] == l[k]) = true := by simp
      go_wp2_with fail
      go_quiet (fail)
      go_wp2
      go_roundw
      case rel => exact ⟨k + 1, _, by omega, by go_num, rfl⟩
      case measure => (simp [intOf] <;> omega)
    · go_wp2
      go_ret
      exact ⟨rfl, _, rfl⟩
end Go.Proofs.Ytipkckoejkmhfaa
