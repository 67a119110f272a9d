/- Walks: a chunk read (impl). -/
import Derived.Test.YtjjcedodjoieoaaDcM
import Derived.Test.YtjjcedodjoieoaaW5
import Derived.Test.YtjjcedodjoieoaaW30
namespace Go.Proofs.Ytjjcedodjoieoaa
open Go.RowKit
set_option linter.unusedVariables false

theorem or_word (a b : Nat) (ha : a < 256) (hb : b < 256) : bits .or .i64 ((a : Int) * 256) (b : Int) = ((a * 256 + b : Nat) : Int) := by
  have := i64_or_nat (a * 256) b (by omega) (by omega)
  rw [wd_or a b hb] at this
  rw [← this]
  congr 1

set_option maxHeartbeats 400000 in
theorem l01Get_any (s : ByteArray) (k : Nat) (w : World) (hs : s.size ≤ 1048576) (hk : k + 1 < s.size) :
    Calls Try.prog 53 #[.string s, .int .i64 (k : Int)] w fun e w' => e = .returned (.int .i64 ((wd s k : Nat) : Int)) ∧ ∃ n, w' = w.drewN n := by
  have e0 := bt_eq s k (by omega)
  have e1 := bt_eq s (k + 1) hk
  have b0 := bt_lt s k
  have b1 := bt_lt s (k + 1)
  have hw : ((wd s k : Nat) : Int) = (bt s k : Int) * 256 + (bt s (k + 1) : Int) := by unfold wd; omega
  have HW := Lib.hid hw
  clear hw
  go_enter Try.func53, Try.ntmps53
  go_wp2_with fail
  go_quiet (fail)
  go_wp2
  go_ret
  exact ⟨ret_int (by rw [HW.out]), _, rfl⟩

set_option maxHeartbeats 400000 in
theorem GetWord_no (s : ByteArray) (w : World) (hs : s.size ≤ 1048576) (hk : s.size < 3) :
    Calls Try.prog 62 #[.string s, .int .i64 1] w fun e w' => e = .returned (.tuple #[.int .i64 0, .bool false]) ∧ ∃ n, w' = w.drewN n := by
  have hi : inB 1 0 ((s.size : Int) - 2) = false := by unfold inB; simp; omega
  go_enter Try.func62, Try.ntmps62
  go_wp2_with (go_at_call 87; refine (within_any _ _ _ _).mono ?_; rintro e w1 ⟨rfl, rfl⟩; rw [hi])
  go_ret2
  exact ⟨rfl, 0, rfl⟩
set_option maxHeartbeats 400000 in
theorem GetWord_yes (s : ByteArray) (w : World) (hs : s.size ≤ 1048576) (hk : ¬ s.size < 3) :
    Calls Try.prog 62 #[.string s, .int .i64 1] w fun e w' => e = .returned (.tuple #[.int .i64 ((wd s 1 : Nat) : Int), .bool true]) ∧ ∃ n, w' = w.drewN n := by
  have hi : inB 1 0 ((s.size : Int) - 2) = true := by unfold inB; simp; omega
  have e0 := bt_eq s 1 (by omega)
  have e1 := bt_eq s 2 (by omega)
  have b0 := bt_lt s 1
  have b1 := bt_lt s 2
  have ho := or_word (bt s 1) (bt s 2) b0 b1
  have hw : wd s 1 = bt s 1 * 256 + bt s 2 := rfl
  have HW := Lib.hid hw
  clear hw
  go_enter Try.func62, Try.ntmps62
  go_wp2_with (go_at_call 87; refine (within_any _ _ _ _).mono ?_; rintro e w1 ⟨rfl, rfl⟩; rw [hi])
  go_quiet (fail)
  go_wp2
  go_ret2
  exact ⟨by rw [HW.out]; rfl, _, rfl⟩
end Go.Proofs.Ytjjcedodjoieoaa
