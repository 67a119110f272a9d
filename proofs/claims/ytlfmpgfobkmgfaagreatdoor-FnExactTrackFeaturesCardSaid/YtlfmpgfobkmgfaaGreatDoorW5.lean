/- Walks: check values and words. -/
import Derived.Test.YtlfmpgfobkmgfaaGreatDoorW2
import Derived.Test.YtlfmpgfobkmgfaaGreatDoorMem
import Derived.Test.YtlfmpgfobkmgfaaGreatDoorMath
namespace Go.Proofs.YtlfmpgfobkmgfaaGreatDoor
open Go.RowKit
set_option linter.unusedVariables false

theorem crcBits_step (c n y : Nat) {R : Nat} (h : crcBits c (n + 1) y = R) : crcBits c n (crcBit y c n) = R := h
theorem crcBit_eq (y c n : Nat) (h : y / 32768 = bitOf c n) : crcBit y c n = crcV y := if_pos h
theorem crcBit_ne (y c n : Nat) (h : ¬ y / 32768 = bitOf c n) : crcBit y c n = crcX (crcV y) := if_neg h
theorem crc_drop (s : ByteArray) (k x : Nat) (h : k < s.size) {R : Nat} (hr : crcL (s.data.toList.drop k) x = R) : crcL (s.data.toList.drop (k + 1)) (crcBits s[k].toNat 8 x) = R := by
  rw [drop_cons s k h] at hr; exact hr

set_option maxHeartbeats 400000 in
theorem crc16_any (s : ByteArray) (v0 : Nat) (w : World) (hs : s.size ≤ 1048576) (hv : v0 < 65536) :
    Calls Tryz.prog 86 #[.string s, .int .i64 (v0 : Int)] w fun e w' => e = .returned (.int .i64 ((crcOf s v0 : Nat) : Int)) ∧ w = w' := by
  go_enter Tryz.func86, Tryz.ntmps86
  go_wp2
  go_loop [1, 5, 6, 7, 10] (fun v _ _ _ i => ∃ k x : Nat, k ≤ s.size ∧ i = .int .i64 k ∧ v = .int .i64 (x : Int) ∧ x < 65536 ∧ Hid (crcL (s.data.toList.drop k) x = crcOf s v0)) (fun _ _ _ _ i => s.size - (intOf i).toNat)
  case atStart => exact ⟨0, v0, Nat.zero_le _, rfl, rfl, hv, Lib.hid rfl⟩
  case round =>
    obtain ⟨k, x, hk, rfl, rfl, hx, HS⟩ := hrel
    by_cases hlt : k < s.size
    · have hb := s[k].toNat_lt
      go_wp2
      go_loop [1, 6, 7] (fun v b _ => ∃ n y : Nat, n ≤ 8 ∧ b = .int .i64 ((n : Int) - 1) ∧ v = .int .i64 (y : Int) ∧ y < 65536 ∧ Hid (crcBits s[k].toNat n y = crcBits s[k].toNat 8 x)) (fun _ b _ => (intOf b + 1).toNat)
      case atStart => exact ⟨8, x, by omega, rfl, rfl, hx, Lib.hid rfl⟩
      case round =>
        obtain ⟨n, y, hn, hbv, rfl, hy, HB⟩ := hrel
        rcases n with _ | n
        · obtain rfl := hbv.trans (show Value.int .i64 (((0 : Nat) : Int) - 1) = .int .i64 (-1) from rfl)
          go_wp2
          go_round
          case rel => exact ⟨k + 1, y, by omega, by go_num, rfl, hy, Lib.hid (by have h1 := crc_drop s k x hlt HS.out; rw [← HB.out] at h1; exact h1)⟩
          case measure => (simp [intOf] <;> omega)
        · obtain rfl := hbv.trans (show Value.int .i64 (((n + 1 : Nat) : Int) - 1) = .int .i64 (n : Int) from congrArg (Value.int .i64) (by omega))
          have e1 := crc_e1 y hy
          have e2 := crc_e2 s[k].toNat n hb
          have e3 := crc_e3 (crcV y) (crcV_lt y)
          have b2 := bitOf_lt s[k].toNat n
          by_cases ht : y / 32768 = bitOf s[k].toNat n
          · have hbit := Lib.hid (crcBit_eq _ _ _ ht)
            have g : ((y : Int) / 32768 != ((bitOf s[k].toNat n : Nat) : Int)) = false := by rw [← ht]; simp
            clear ht
            go_wp2
            go_round
            case rel => exact ⟨n, crcV y, by omega, rfl, rfl, crcV_lt y, Lib.hid (by have h1 := crcBits_step _ _ _ HB.out; rw [hbit.out] at h1; exact h1)⟩
            case measure => (simp [intOf] <;> omega)
          · have hbit := Lib.hid (crcBit_ne _ _ _ ht)
            have g : ((y : Int) / 32768 != ((bitOf s[k].toNat n : Nat) : Int)) = true := by simp; omega
            clear ht
            go_wp2
            go_round
            case rel => exact ⟨n, crcX (crcV y), by omega, rfl, rfl, crcX_lt _ (crcV_lt y), Lib.hid (by have h1 := crcBits_step _ _ _ HB.out; rw [hbit.out] at h1; exact h1)⟩
            case measure => (simp [intOf] <;> omega)
    · have h2 : x = crcOf s v0 := by have := HS.out; rw [drop_end s k hlt] at this; exact this
      have H2 := Lib.hid h2
      clear h2
      go_wp2
      go_ret
      exact ⟨ret_int (by rw [← H2.out]), rfl⟩
set_option maxHeartbeats 400000 in
theorem l01Crc_any (s : ByteArray) (v0 : Nat) (w : World) (hs : s.size ≤ 1048576) (hv : v0 < 65536) :
    Calls Tryz.prog 95 #[.string s, .int .i64 (v0 : Int)] w fun e w' => e = .returned (.int .i64 ((crcOf s v0 : Nat) : Int)) ∧ w = w' := by
  go_enter Tryz.func95, Tryz.ntmps95
  go_wp2
  go_loop [5, 6, 7, 8, 9] (fun v i _ _ _ => ∃ k x : Nat, k ≤ s.size ∧ i = .int .i64 k ∧ v = .int .i64 (x : Int) ∧ x < 65536 ∧ Hid (crcL (s.data.toList.drop k) x = crcOf s v0)) (fun _ i _ _ _ => s.size - (intOf i).toNat)
  case atStart => exact ⟨0, v0, Nat.zero_le _, rfl, rfl, hv, Lib.hid rfl⟩
  case round =>
    obtain ⟨k, x, hk, rfl, rfl, hx, HS⟩ := hrel
    by_cases hlt : k < s.size
    · have hb := s[k].toNat_lt
      go_wp2
      go_loop [5, 7, 8, 9] (fun v b _ _ => ∃ n y : Nat, n ≤ 8 ∧ b = .int .i64 ((n : Int) - 1) ∧ v = .int .i64 (y : Int) ∧ y < 65536 ∧ Hid (crcBits s[k].toNat n y = crcBits s[k].toNat 8 x)) (fun _ b _ _ => (intOf b + 1).toNat)
      case atStart => exact ⟨8, x, by omega, rfl, rfl, hx, Lib.hid rfl⟩
      case round =>
        obtain ⟨n, y, hn, hbv, rfl, hy, HB⟩ := hrel
        rcases n with _ | n
        · obtain rfl := hbv.trans (show Value.int .i64 (((0 : Nat) : Int) - 1) = .int .i64 (-1) from rfl)
          go_wp2
          go_round
          case rel => exact ⟨k + 1, y, by omega, by go_num, rfl, hy, Lib.hid (by have h1 := crc_drop s k x hlt HS.out; rw [← HB.out] at h1; exact h1)⟩
          case measure => (simp [intOf] <;> omega)
        · obtain rfl := hbv.trans (show Value.int .i64 (((n + 1 : Nat) : Int) - 1) = .int .i64 (n : Int) from congrArg (Value.int .i64) (by omega))
          have e1 := crc_e1 y hy
          have e2 := crc_e5 s[k].toNat n hb
          have e4 := crc_e4 y hy
          have e3 := crc_e3 (crcV y) (crcV_lt y)
          have b2 := bitOf_lt s[k].toNat n
          by_cases ht : y / 32768 = bitOf s[k].toNat n
          · have hbit := Lib.hid (crcBit_eq _ _ _ ht)
            have g : ((y : Int) / 32768 != ((bitOf s[k].toNat n : Nat) : Int)) = false := by rw [← ht]; simp
            clear ht
            go_wp2
            go_round
            case rel => exact ⟨n, crcV y, by omega, rfl, rfl, crcV_lt y, Lib.hid (by have h1 := crcBits_step _ _ _ HB.out; rw [hbit.out] at h1; exact h1)⟩
            case measure => (simp [intOf] <;> omega)
          · have hbit := Lib.hid (crcBit_ne _ _ _ ht)
            have g : ((y : Int) / 32768 != ((bitOf s[k].toNat n : Nat) : Int)) = true := by simp; omega
            clear ht
            go_wp2
            go_round
            case rel => exact ⟨n, crcX (crcV y), by omega, rfl, rfl, crcX_lt _ (crcV_lt y), Lib.hid (by have h1 := crcBits_step _ _ _ HB.out; rw [hbit.out] at h1; exact h1)⟩
            case measure => (simp [intOf] <;> omega)
    · have h2 : x = crcOf s v0 := by have := HS.out; rw [drop_end s k hlt] at this; exact this
      have H2 := Lib.hid h2
      clear h2
      go_wp2
      go_ret
      exact ⟨ret_int (by rw [← H2.out]), rfl⟩
end Go.Proofs.YtlfmpgfobkmgfaaGreatDoor
