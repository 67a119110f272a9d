/- Walks: names. -/
import Derived.Test.YtbobehieaaaleaaDoorW2
namespace Go.Proofs.YtbobehieaaaleaaDoor
open Go.RowKit
set_option linter.unusedVariables false

theorem isName_no0 (s : ByteArray) (h : s.size = 0) : isName s = false := by simp [isName, h]
theorem isName_no8 (s : ByteArray) (h : 8 < s.size) : isName s = false := by simp [isName, show ¬ s.size ≤ 8 by omega]
theorem head_cons (s : ByteArray) (h : 0 < s.size) : s.data.toList = s[0] :: s.data.toList.drop 1 := by
  have := drop_cons s 0 h
  simpa using this
theorem isName_first (s : ByteArray) (h : 0 < s.size) (hl : isLet (s[0].toNat : Int) = false) : isName s = false := by
  rw [isName, head_cons s h]
  simp [hl]
theorem isName_yes (s : ByteArray) (h : 0 < s.size) (h8 : s.size ≤ 8) (hl : isLet (s[0].toNat : Int) = true) : isName s = s.data.toList.all isNmC := by
  rw [isName, head_cons s h]
  simp [hl, h8]
  omega
theorem all_step (s : ByteArray) (k : Nat) (h : k < s.size) : (s.data.toList.drop k).all isNmC = (isNmC s[k] && (s.data.toList.drop (k + 1)).all isNmC) := by
  rw [drop_cons s k h]; rfl

theorem all_yes (s : ByteArray) (k : Nat) (h : k < s.size) {b : Bool} (hc : isNmC s[k] = true) (he : (s.data.toList.drop k).all isNmC = b) : (s.data.toList.drop (k + 1)).all isNmC = b := by
  rw [all_step s k h, hc] at he; simpa using he
theorem all_no (s : ByteArray) (k : Nat) (h : k < s.size) {b : Bool} (hc : isNmC s[k] = false) (he : (s.data.toList.drop k).all isNmC = b) : b = false := by
  rw [all_step s k h, hc] at he; simpa using he.symm
theorem nmc_no (c : UInt8) (h1 : ¬ isLet (c.toNat : Int) = true) (h2 : ¬ isDig (c.toNat : Int) = true) (h3 : ((c.toNat : Int) != 95) = true) : isNmC c = false := by
  simp only [Bool.not_eq_true] at h1 h2
  have h4 : ¬ (c.toNat : Int) = 95 := by simpa using h3
  simp [isNmC, h1, h2, h4]
theorem nmc_in (c : UInt8) (h : 65 ≤ (c.toNat : Int) ∧ (c.toNat : Int) ≤ 90 ∨ 48 ≤ (c.toNat : Int) ∧ (c.toNat : Int) ≤ 57) : isNmC c = true := by
  rcases h with ⟨a, b⟩ | ⟨a, b⟩ <;> simp [isNmC, isLet, isDig, a, b]
theorem nmc_out (c : UInt8) (h1 : (c.toNat : Int) < 65 ∨ 90 < (c.toNat : Int)) (h2 : (c.toNat : Int) < 48 ∨ 57 < (c.toNat : Int)) (h3 : ¬ (c.toNat : Int) = 95) (_h4 : True ∨ 0 = 0) : isNmC c = false := by
  have a : isLet (c.toNat : Int) = false := by simp only [isLet, Bool.and_eq_false_iff, decide_eq_false_iff_not]; omega
  have b : isDig (c.toNat : Int) = false := by simp only [isDig, Bool.and_eq_false_iff, decide_eq_false_iff_not]; omega
  simp [isNmC, a, b, h3]
theorem nmc_95 (c : UInt8) (h3 : ((c.toNat : Int) != 95) = false) : isNmC c = true := by
  have h4 : (c.toNat : Int) = 95 := by simpa using h3
  simp [isNmC, h4]
theorem ne_of_pos (s : ByteArray) (h : 0 < s.size) : s.toList.isEmpty = false := by
  rw [ByteArray.toList_eq] at *
  rw [head_cons s h]
  rfl
theorem em_of_zero (s : ByteArray) (h : ¬ 0 < s.size) : s.toList.isEmpty = true := by
  rw [ByteArray.toList_eq]
  have : s.data.toList = [] := List.eq_nil_of_length_eq_zero (by simpa using Nat.eq_zero_of_not_pos h)
  rw [this]; rfl

set_option maxHeartbeats 400000 in
theorem spec_IsName_any (s : ByteArray) (w : World) (hs : s.size ≤ 1048576) :
    Calls Tryd.prog 61 #[.string s] w fun e w' => e = .returned (.bool (isName s)) ∧ w = w' := by
  by_cases h0 : 0 < s.size
  · have e1 := ne_of_pos s h0
    by_cases h8 : s.size ≤ 8
    · have hb0 := s[0].toNat_lt
      have g8 : ¬ (8 < (s.size : Int)) := by omega
      cases hl : isLet (s[0].toNat : Int)
      · have hn := Lib.hid (isName_first s h0 hl)
        have HL := Lib.hid hl
        clear hl
        go_enter Tryd.func61, Tryd.ntmps61
        go_wp2_with (go_at_call 91; refine (l01Letter_any _ _).mono ?_; rintro e w' ⟨rfl, rfl⟩; rw [HL.out])
        go_ret
        exact ⟨ret_bool hn.out.symm, rfl⟩
      · have hn := Lib.hid (isName_yes s h0 h8 hl)
        have HL := Lib.hid hl
        clear hl
        go_enter Tryd.func61, Tryd.ntmps61
        go_wp2_with (go_at_call 91; refine (l01Letter_any _ _).mono ?_; rintro e w' ⟨rfl, rfl⟩; rw [HL.out])
        go_loop [3] (fun i => ∃ k : Nat, k ≤ s.size ∧ i = .int .i64 k ∧ Hid ((s.data.toList.drop k).all isNmC = s.data.toList.all isNmC)) (fun i => s.size - (intOf i).toNat)
        case atStart => exact ⟨0, Nat.zero_le _, rfl, Lib.hid rfl⟩
        case round =>
          obtain ⟨k, hk, rfl, HS⟩ := hrel
          by_cases hlt : k < s.size
          · have hb := s[k].toNat_lt
            go_wp2_with (first | (go_at_call 91; refine (l01Letter_any _ _).mono ?_; rintro e w' ⟨rfl, rfl⟩) | (go_at_call 92; refine (l01Digit_any _ _).mono ?_; rintro e w' ⟨rfl, rfl⟩))
            · have hc : isLet (s[k].toNat : Int) = true := by assumption
              go_round
              case rel => exact ⟨k + 1, by omega, by go_num, Lib.hid (all_yes s k hlt (by simp [isNmC, hc]) HS.out)⟩
              case measure => simp [intOf]; omega
            · have hc : isDig (s[k].toNat : Int) = true := by assumption
              go_round
              case rel => exact ⟨k + 1, by omega, by go_num, Lib.hid (all_yes s k hlt (by simp [isNmC, hc]) HS.out)⟩
              case measure => simp [intOf]; omega
            · have h1 : ¬ isLet (s[k].toNat : Int) = true := by assumption
              have h2 : ¬ isDig (s[k].toNat : Int) = true := by assumption
              have h3 : ((s[k].toNat : Int) != 95) = true := by assumption
              go_ret
              exact ⟨ret_bool (by rw [hn.out, all_no s k hlt (nmc_no _ h1 h2 h3) HS.out]), rfl⟩
            · have hc : ((s[k].toNat : Int) != 95) = false := by assumption
              go_round
              case rel => exact ⟨k + 1, by omega, by go_num, Lib.hid (all_yes s k hlt (nmc_95 _ hc) HS.out)⟩
              case measure => simp [intOf]; omega
          · have hq : s.data.toList.all isNmC = true := by rw [← HS.out, drop_end s k hlt]; rfl
            have HQ := Lib.hid hq
            clear hq
            go_wp2
            go_ret
            exact ⟨ret_bool (by rw [hn.out, HQ.out]), rfl⟩
    · have g8 : 8 < (s.size : Int) := by omega
      have hn := Lib.hid (isName_no8 s (by omega))
      go_enter Tryd.func61, Tryd.ntmps61
      go_wp2
      go_ret
      exact ⟨ret_bool hn.out.symm, rfl⟩
  · have e1 := em_of_zero s h0
    have hn := Lib.hid (isName_no0 s (by omega))
    go_enter Tryd.func61, Tryd.ntmps61
    go_wp2
    go_ret
    exact ⟨ret_bool hn.out.symm, rfl⟩

theorem isLet_lt (c : Int) (h : c < 65) : isLet c = false := by simp [isLet, show ¬ 65 ≤ c by omega]
theorem isLet_gt (c : Int) (h : 90 < c) : isLet c = false := by simp [isLet, show ¬ c ≤ 90 by omega]
theorem isLet_in (c : Int) (h : 65 ≤ c) (h' : c ≤ 90) : isLet c = true := by simp [isLet, h, h']

set_option maxHeartbeats 400000 in
theorem impl_IsName_any (s : ByteArray) (w : World) (hs : s.size ≤ 1048576) :
    Calls Tryd.prog 73 #[.string s] w fun e w' => e = .returned (.bool (isName s)) ∧ w = w' := by
  by_cases h0 : 0 < s.size
  · have g0 : ¬ ((s.size : Int) < 1) := by omega
    by_cases h8 : s.size ≤ 8
    · have hb0 := s[0].toNat_lt
      have g8 : ¬ (8 < (s.size : Int)) := by omega
      by_cases hl : 65 ≤ (s[0].toNat : Int) ∧ (s[0].toNat : Int) ≤ 90
      · obtain ⟨hl1, hl2⟩ := hl
        have hn := Lib.hid (isName_yes s h0 h8 (isLet_in _ hl1 hl2))
        go_enter Tryd.func73, Tryd.ntmps73
        go_wp2
        go_loop [3, 4, 25] (fun _ _ i => ∃ k : Nat, k ≤ s.size ∧ i = .int .i64 k ∧ Hid ((s.data.toList.drop k).all isNmC = s.data.toList.all isNmC)) (fun _ _ i => s.size - (intOf i).toNat)
        case atStart => exact ⟨0, Nat.zero_le _, rfl, Lib.hid rfl⟩
        case round =>
          obtain ⟨k, hk, rfl, HS⟩ := hrel
          by_cases hlt : k < s.size
          · have hb := s[k].toNat_lt
            by_cases h95 : (s[k].toNat : Int) = 95
            · have g95 : ((s[k].toNat : Int) != 95) = false := by simpa using h95
              have hy : isNmC s[k] = true := nmc_95 _ g95
              have HY := Lib.hid hy
              have H95 := Lib.hid h95
              have i1 : 95 ≤ (s[k].toNat : Int) := by omega
              have i2 : (s[k].toNat : Int) ≤ 95 := by omega
              clear hy h95
              go_wp2
              all_goals
                go_round
                case rel => exact ⟨k + 1, by omega, by go_num, Lib.hid (all_yes s k hlt HY.out HS.out)⟩
                case measure => simp [intOf]; omega
            · have g95 : ((s[k].toNat : Int) != 95) = true := by simpa using h95
              go_wp2
              all_goals first
                | (go_round
                   case rel => exact ⟨k + 1, by omega, by go_num, Lib.hid (all_yes s k hlt (nmc_in _ (by omega)) HS.out)⟩
                   case measure => simp [intOf]; omega)
                | (go_ret
                   exact ⟨ret_bool (by rw [hn.out, all_no s k hlt (nmc_out _ (by omega) (by omega) h95 (.inr rfl)) HS.out]), rfl⟩)
          · have hq : s.data.toList.all isNmC = true := by rw [← HS.out, drop_end s k hlt]; rfl
            have HQ := Lib.hid hq
            clear hq
            go_wp2
            go_ret
            exact ⟨ret_bool (by rw [hn.out, HQ.out]), rfl⟩
      · have hn := Lib.hid (isName_first s h0 (by simpa [isLet] using hl))
        have hl' : (s[0].toNat : Int) < 65 ∨ 90 < (s[0].toNat : Int) := by omega
        clear hl
        rcases hl' with hl | hl
        all_goals
          go_enter Tryd.func73, Tryd.ntmps73
          go_wp2
          go_ret
          exact ⟨ret_bool hn.out.symm, rfl⟩
    · have g8 : 8 < (s.size : Int) := by omega
      have hn := Lib.hid (isName_no8 s (by omega))
      go_enter Tryd.func73, Tryd.ntmps73
      go_wp2
      go_ret
      exact ⟨ret_bool hn.out.symm, rfl⟩
  · have e1 : (s.size : Int) < 1 := by omega
    have hn := Lib.hid (isName_no0 s (by omega))
    go_enter Tryd.func73, Tryd.ntmps73
    go_wp2
    go_ret
    exact ⟨ret_bool hn.out.symm, rfl⟩

def hashOf (s : ByteArray) : Int := if isName s then sum16 s % 8 else -1
theorem sum16_bd (s : ByteArray) : 0 ≤ sum16 s ∧ sum16 s < 65536 := by unfold sum16; omega
theorem hash_no (s : ByteArray) (h : isName s = false) : hashOf s = -1 := by simp [hashOf, h]
theorem hash_yes (s : ByteArray) (h : isName s = true) : hashOf s = sum16 s % 8 := by simp [hashOf, h]

end Go.Proofs.YtbobehieaaaleaaDoor
