/- Walks of the laws' own helpers: slices of whole numbers. -/
import Derived.Test.YtbhpjoepbmimjaaDoorMem4
import Derived.Test.YtbhpjoepbmimjaaDoorW2
import Derived.Deep.DeepMust
namespace Go.Proofs.YtbhpjoepbmimjaaDoor
open Go.RowKit
set_option linter.unusedVariables false

theorem eltI : Elt Tryd.prog 32 2 1 8 (.int .i64 0) := Elt.mk' Tryd.underlying32 (by kernel_rfl) rfl (by decide)

set_option maxHeartbeats 1000000 in
theorem eqInt64S_any (A A' : Option Addr) (c c' : Nat) (l : List Int) (w : World) (B : Nat) (h : Rd w B 1 A l.length (flat fI l)) (h' : Rd w B 1 A' l.length (flat fI l)) (hn : l.length ≤ 1048576) :
    Calls Tryd.prog 31 #[.slice A l.length c, .slice A' l.length c'] w fun e w' => e = .returned (.bool true) ∧ ∃ n, w' = w.drewN n := by
  go_enter Tryd.func31, Tryd.ntmps31
  go_wp2
  go_loopw [5] (fun i wr => ∃ k n : Nat, k ≤ l.length ∧ i = .int .i64 k ∧ wr = w.drewN n) (fun i _ => l.length - (intOf i).toNat)
  case atStart => exact ⟨0, 0, Nat.zero_le _, rfl, rfl⟩
  case round =>
    obtain ⟨k, n, hk, rfl, rfl⟩ := hrel
    by_cases hlt : k < l.length
    · obtain ⟨b, off, rfl, hbb, hc⟩ := h.at_ fI_len rfl k hlt
      obtain ⟨b', off', rfl, hbb', hc'⟩ := h'.at_ fI_len rfl k hlt
      have hc0 := hc 0 _ (by omega) rfl
      have hc0' := hc' 0 _ (by omega) rfl
      simp only [Nat.mul_one, Nat.add_zero] at hc0 hc0'
      have g1 : (l[k] == l[k]) = true := by simp
      go_wp2_with fail
      go_quiet (fail)
      go_wp2
      go_roundw
      case rel => exact ⟨k + 1, _, by omega, by go_num, rfl⟩
      case measure => (simp [intOf] <;> omega)
    · go_wp2
      go_ret
      exact ⟨rfl, _, rfl⟩
end Go.Proofs.YtbhpjoepbmimjaaDoor
