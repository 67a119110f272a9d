/- Walks: runs of equal bytes. -/
import Derived.Test.YtjahgknehamlpaaPkM
import Derived.Test.YtjahgknehamlpaaW10
namespace Go.Proofs.Ytjahgknehamlpaa
open Go.RowKit
set_option linter.unusedVariables false

set_option maxHeartbeats 1000000 in
theorem equalBytes_any (s : ByteArray) (at_ : Nat) (w : World) (hs : s.size ≤ 1048576) (hat : at_ < s.size) :
    Calls Try.prog 49 #[.string s, .int .i64 (at_ : Int)] w fun e w' => e = .returned (.int .i64 (runL s at_ 64)) ∧ ∃ n, w' = w.drewN n := by
  have eat := bt_eq s at_ hat
  have hb := bt_lt s at_
  go_enter Try.func49, Try.ntmps49
  go_wp2
  go_loopw [5] (fun i wr => ∃ (f n q : Nat), Hid (n + f = 64) ∧ n ≤ 64 ∧ 1 ≤ n ∧ at_ + n ≤ s.size ∧ i = .int .i64 n ∧ wr = w.drewN q ∧ Hid (runF s at_ 64 f = runL s at_ 64)) (fun i _ => 64 - (intOf i).toNat)
  case atStart => exact ⟨64 - 1, 1, 0, Lib.hid (by omega), by omega, by omega, by omega, rfl, rfl, Lib.hid rfl⟩
  case round =>
    obtain ⟨f, n, q, hf, hnm, hn1, hn2, rfl, rfl, HS⟩ := hrel
    rcases f with _ | f
    · have HR := Lib.hid (show n = runL s at_ 64 from (show n = 64 by have := hf.out; omega).trans HS.out)
      have g0 : ¬ ((n : Int) < 64) := by have := hf.out; omega
      have g1 : decide ((n : Int) < 64) = false := by simp; omega
      go_wp2_with fail
      go_quiet (fail)
      go_wp2
      go_ret
      exact ⟨ret_int (by rw [← HR.out]), _, World.drewN_drewN _ _ _⟩
    · have g0 : (n : Int) < 64 := by have := hf.out; omega
      have hn3 : n < 64 := by have := hf.out; omega
      by_cases hlt : at_ + n < s.size
      · have eat2 := bt_eq s (at_ + n) hlt
        have hb2 := bt_lt s (at_ + n)
        by_cases heq : bt s (at_ + n) = bt s at_
        · have g1 : (((bt s (at_ + n) : Nat) : Int) == ((bt s at_ : Nat) : Int)) = true := by rw [heq]; simp
          have g2 : (bt s (at_ + n) == bt s at_) = true := by rw [heq]; simp
          have HN := Lib.hid (runF_yes s at_ 64 f n hf.out hlt heq HS.out)
          clear heq
          have hi1 : (at_ : Int) + n < s.size := by omega
          have hi2 : (0 : Int) ≤ (at_ : Int) + n := by omega
          have hw1 : IntKind.i64.wrap ((at_ : Int) + n) = (at_ : Int) + n := IntWalk.i64_in _ (by omega)
          have hw3 : ((at_ : Int) + n).toNat = at_ + n := by omega
          go_wp2_with fail
          go_quiet (fail)
          clear hw1 hw3
          go_wp2
          go_roundw
          case rel => exact ⟨f, n + 1, _, Lib.hid (by have := hf.out; omega), by omega, by omega, by omega, by go_num, rfl, HN⟩
          case measure => (simp [intOf] <;> omega)
        · have g1 : (((bt s (at_ + n) : Nat) : Int) == ((bt s at_ : Nat) : Int)) = false := by simp; omega
          have g2 : (bt s (at_ + n) == bt s at_) = false := by simp; omega
          have HR := Lib.hid (runF_no s at_ 64 f n hf.out (fun h => heq h.2) HS.out)
          clear heq
          have hi1 : (at_ : Int) + n < s.size := by omega
          have hi2 : (0 : Int) ≤ (at_ : Int) + n := by omega
          have hw1 : IntKind.i64.wrap ((at_ : Int) + n) = (at_ : Int) + n := IntWalk.i64_in _ (by omega)
          have hw3 : ((at_ : Int) + n).toNat = at_ + n := by omega
          go_wp2_with fail
          go_quiet (fail)
          clear hw1 hw3
          go_wp2
          go_ret
          exact ⟨ret_int (by rw [← HR.out]), _, World.drewN_drewN _ _ _⟩
      · have HR := Lib.hid (runF_no s at_ 64 f n hf.out (fun h => hlt h.1) HS.out)
        have g3 : decide ((at_ : Int) + n < s.size) = false := by simp; omega
        have hw1 : IntKind.i64.wrap ((at_ : Int) + n) = (at_ : Int) + n := IntWalk.i64_in _ (by omega)
        go_wp2_with fail
        go_quiet (fail)
        clear hw1
        go_wp2
        go_ret
        exact ⟨ret_int (by rw [← HR.out]), _, World.drewN_drewN _ _ _⟩

end Go.Proofs.Ytjahgknehamlpaa
