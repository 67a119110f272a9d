/- Walks: the best reference (impl). -/
import Derived.Test.YtjjcedodjoieoaaW23
namespace Go.Proofs.Ytjjcedodjoieoaa
open Go.RowKit
set_option linter.unusedVariables false

set_option maxRecDepth 100000 in
set_option maxHeartbeats 1000000 in
theorem reference_a (s : ByteArray) (at_ : Nat) (w : World) (hm1 : (130 : Int) ≤ (s.size : Int) - at_) (hf1 : (255 : Int) ≤ at_) (hs : s.size ≤ 1048576) (hat : at_ < s.size) :
    Calls Try.prog 102 #[.string s, .int .i64 (at_ : Int)] w fun e w' => e = .returned (.tuple #[.int .i64 ((refer s at_).1 : Int), .int .i64 ((refer s at_).2 : Int)]) ∧ ∃ n, w' = w.drewN n := by
  have hM : mostAt s at_ = min 130 (s.size - at_) := rfl
  have HR0 := Lib.hid (show bestR s at_ (mostAt s at_) (farAt at_) 1 0 0 = refer s at_ from rfl)
  generalize hr : refer s at_ = R at HR0
  obtain ⟨r1, r2⟩ := R
  generalize mostAt s at_ = most at hM HR0
  obtain rfl : most = 130 := by omega
  have hF : farAt at_ = min 255 at_ := rfl
  generalize farAt at_ = D at hF HR0
  clear hr
  go_enter Try.func102, Try.ntmps102
  go_wp2
  go_loopw [7, 8, 9, 10] (fun bv fv dv _ wr => ∃ (d best far q : Nat), 1 ≤ d ∧ d ≤ 256 ∧ d ≤ at_ + 1 ∧ best ≤ 130 ∧ far ≤ 256 ∧ bv = .int .i64 best ∧ fv = .int .i64 far ∧ dv = .int .i64 d ∧ wr = w.drewN q ∧ Hid (bestR s at_ 130 D d best far = (r1, r2))) (fun _ _ dv _ _ => 300 - (intOf dv).toNat)
  case atStart => exact ⟨1, 0, 0, 0, by omega, by omega, by omega, by omega, by omega, rfl, rfl, rfl, rfl, HR0⟩
  case round =>
    obtain ⟨d, best, far, q, hd1, hd2, hd3, hb1, hf1, rfl, rfl, rfl, rfl, HI⟩ := hrel
    by_cases hdl : d ≤ D ∧ best < 130
    · obtain ⟨i1, i2⟩ := hdl
      have hdD : d ≤ D := by omega
      have gd1 : (d : Int) ≤ 255 := by omega
      have gd1' : (d : Int) ≤ at_ := by omega
      have gd2 : (best : Int) < 130 := by omega
      go_wp2
      go_loopw [10] (fun j wr' => ∃ n q' : Nat, n ≤ 130 ∧ at_ + n ≤ s.size ∧ j = .int .i64 n ∧ wr' = w.drewN q' ∧ Hid (mat s at_ d 130 n = ml s at_ d 130)) (fun j _ => 130 - (intOf j).toNat)
      case atStart => exact ⟨0, q, by omega, by omega, rfl, rfl, Lib.hid rfl⟩
      case round =>
        obtain ⟨n, q', hn, hn2, rfl, rfl, HL⟩ := hrel
        have hw1 : IntKind.i64.wrap ((at_ : Int) + n) = (at_ : Int) + n := IntWalk.i64_in _ (by omega)
        by_cases hl2 : n < 130
        · have hl3 : at_ + n < s.size := by omega
          have ea := bt_eq s (at_ + n) hl3
          have eb := bt_eq s (at_ + n - d) (by omega)
          have hba := bt_lt s (at_ + n)
          have hbb := bt_lt s (at_ + n - d)
          have k1 : (n : Int) < 130 := by omega
          have k2 : (at_ : Int) + n < s.size := by omega
          have k3 : (0 : Int) ≤ (at_ : Int) + n := by omega
          have k4 : (0 : Int) ≤ (at_ : Int) + n - d := by omega
          have k5 : (at_ : Int) + n - d < s.size := by omega
          by_cases heq : bt s (at_ + n) = bt s (at_ + n - d)
          · have HN := Lib.hid ((mat_yes s at_ d 130 n (by omega) heq).symm.trans HL.out)
            have g1 : (((bt s (at_ + n) : Nat) : Int) == ((bt s (at_ + n - d) : Nat) : Int)) = true := by simp; omega
            have g2 : (bt s (at_ + n) == bt s (at_ + n - d)) = true := by simp; omega
            clear heq
            have hw2 : IntKind.i64.wrap ((at_ : Int) + n - d) = (at_ : Int) + n - d := IntWalk.i64_in _ (by omega)
            have hw3 : ((at_ : Int) + n).toNat = at_ + n := by omega
            have hw4 : ((at_ : Int) + n - d).toNat = at_ + n - d := by omega
            go_wp2_with fail
            go_quiet (fail)
            clear ea eb hw1 hw2 hw3 hw4
            go_wp2
            go_roundw
            case rel => exact ⟨n + 1, _, by omega, by omega, by go_num, rfl, HN⟩
            case measure => (simp [intOf] <;> omega)
          · have HD := Lib.hid ((mat_ne s at_ d 130 n heq).symm.trans HL.out)
            have g1 : (((bt s (at_ + n) : Nat) : Int) == ((bt s (at_ + n - d) : Nat) : Int)) = false := by simp; omega
            have g2 : (bt s (at_ + n) == bt s (at_ + n - d)) = false := by simp; omega
            clear heq
            have hw2 : IntKind.i64.wrap ((at_ : Int) + n - d) = (at_ : Int) + n - d := IntWalk.i64_in _ (by omega)
            have hw3 : ((at_ : Int) + n).toNat = at_ + n := by omega
            have hw4 : ((at_ : Int) + n - d).toNat = at_ + n - d := by omega
            rcases Nat.lt_or_ge best n with hbn | hbn
            · have HN := Lib.hid (bestR_better s at_ 130 D d best far hdD n HD.out hbn HI.out)
              have gb1 : (best : Int) < n := by omega
              go_wp2_with fail
              go_quiet (fail)
              clear ea eb hw1 hw2 hw3 hw4
              go_wp2
              go_roundw
              case rel => exact ⟨d + 1, n, d, _, by omega, by omega, by omega, by omega, by omega, rfl, rfl, by go_num, rfl, HN⟩
              case measure => (simp [intOf] <;> omega)
            · have HN := Lib.hid (bestR_not s at_ 130 D d best far hdD n HD.out (by omega) HI.out)
              have gb1 : decide ((best : Int) < n) = false := by simp; omega
              have gb2 : decide (best < n) = false := by simp; omega
              clear hbn
              go_wp2_with fail
              go_quiet (fail)
              clear ea eb hw1 hw2 hw3 hw4
              go_wp2
              go_roundw
              case rel => exact ⟨d + 1, best, far, _, by omega, by omega, by omega, by omega, by omega, rfl, rfl, by go_num, rfl, HN⟩
              case measure => (simp [intOf] <;> omega)
        · have HD := Lib.hid ((mat_end s at_ d 130 n (by omega)).symm.trans HL.out)
          have k1 : decide ((n : Int) < 130) = false := by simp; omega
          have k2 : decide (n < 130) = false := by simp; omega
          rcases Nat.lt_or_ge best n with hbn | hbn
          · have HN := Lib.hid (bestR_better s at_ 130 D d best far hdD n HD.out hbn HI.out)
            have gb1 : (best : Int) < n := by omega
            go_wp2_with fail
            go_quiet (fail)
            clear hw1
            go_wp2
            go_roundw
            case rel => exact ⟨d + 1, n, d, _, by omega, by omega, by omega, by omega, by omega, rfl, rfl, by go_num, rfl, HN⟩
            case measure => (simp [intOf] <;> omega)
          · have HN := Lib.hid (bestR_not s at_ 130 D d best far hdD n HD.out (by omega) HI.out)
            have gb1 : decide ((best : Int) < n) = false := by simp; omega
            have gb2 : decide (best < n) = false := by simp; omega
            clear hbn
            go_wp2_with fail
            go_quiet (fail)
            clear hw1
            go_wp2
            go_roundw
            case rel => exact ⟨d + 1, best, far, _, by omega, by omega, by omega, by omega, by omega, rfl, rfl, by go_num, rfl, HN⟩
            case measure => (simp [intOf] <;> omega)
    · by_cases h255 : d ≤ D
      · have HR := Lib.hid (bestR_full' s at_ 130 D d best far (by omega) HI.out)
        have gd1 : (d : Int) ≤ 255 := by omega
        have gd1' : (d : Int) ≤ at_ := by omega
        have gd2 : decide ((best : Int) < 130) = false := by simp; omega
        have gd3 : decide (best < 130) = false := by simp; omega
        go_wp2
        go_ret2
        exact ⟨by cases HR.out; rfl, _, rfl⟩
      · have HR := Lib.hid (bestR_end s at_ 130 D d best far h255 HI.out)
        have gd2 : decide ((d : Int) ≤ 255) = false := by simp; omega
        go_wp2
        go_ret2
        exact ⟨by cases HR.out; rfl, _, rfl⟩

set_option maxRecDepth 100000 in
set_option maxHeartbeats 1000000 in
theorem reference_b (s : ByteArray) (at_ : Nat) (w : World) (hm1 : (130 : Int) ≤ (s.size : Int) - at_) (hf1 : (at_ : Int) < 255) (hs : s.size ≤ 1048576) (hat : at_ < s.size) :
    Calls Try.prog 102 #[.string s, .int .i64 (at_ : Int)] w fun e w' => e = .returned (.tuple #[.int .i64 ((refer s at_).1 : Int), .int .i64 ((refer s at_).2 : Int)]) ∧ ∃ n, w' = w.drewN n := by
  have hM : mostAt s at_ = min 130 (s.size - at_) := rfl
  have HR0 := Lib.hid (show bestR s at_ (mostAt s at_) (farAt at_) 1 0 0 = refer s at_ from rfl)
  generalize hr : refer s at_ = R at HR0
  obtain ⟨r1, r2⟩ := R
  generalize mostAt s at_ = most at hM HR0
  obtain rfl : most = 130 := by omega
  have hF : farAt at_ = min 255 at_ := rfl
  generalize farAt at_ = D at hF HR0
  clear hr
  go_enter Try.func102, Try.ntmps102
  go_wp2
  go_loopw [7, 8, 9, 10] (fun bv fv dv _ wr => ∃ (d best far q : Nat), 1 ≤ d ∧ d ≤ 256 ∧ d ≤ at_ + 1 ∧ best ≤ 130 ∧ far ≤ 256 ∧ bv = .int .i64 best ∧ fv = .int .i64 far ∧ dv = .int .i64 d ∧ wr = w.drewN q ∧ Hid (bestR s at_ 130 D d best far = (r1, r2))) (fun _ _ dv _ _ => 300 - (intOf dv).toNat)
  case atStart => exact ⟨1, 0, 0, 0, by omega, by omega, by omega, by omega, by omega, rfl, rfl, rfl, rfl, HR0⟩
  case round =>
    obtain ⟨d, best, far, q, hd1, hd2, hd3, hb1, hf1, rfl, rfl, rfl, rfl, HI⟩ := hrel
    by_cases hdl : d ≤ D ∧ best < 130
    · obtain ⟨i1, i2⟩ := hdl
      have hdD : d ≤ D := by omega
      have gd1 : (d : Int) ≤ 255 := by omega
      have gd1' : (d : Int) ≤ at_ := by omega
      have gd2 : (best : Int) < 130 := by omega
      go_wp2
      go_loopw [10] (fun j wr' => ∃ n q' : Nat, n ≤ 130 ∧ at_ + n ≤ s.size ∧ j = .int .i64 n ∧ wr' = w.drewN q' ∧ Hid (mat s at_ d 130 n = ml s at_ d 130)) (fun j _ => 130 - (intOf j).toNat)
      case atStart => exact ⟨0, q, by omega, by omega, rfl, rfl, Lib.hid rfl⟩
      case round =>
        obtain ⟨n, q', hn, hn2, rfl, rfl, HL⟩ := hrel
        have hw1 : IntKind.i64.wrap ((at_ : Int) + n) = (at_ : Int) + n := IntWalk.i64_in _ (by omega)
        by_cases hl2 : n < 130
        · have hl3 : at_ + n < s.size := by omega
          have ea := bt_eq s (at_ + n) hl3
          have eb := bt_eq s (at_ + n - d) (by omega)
          have hba := bt_lt s (at_ + n)
          have hbb := bt_lt s (at_ + n - d)
          have k1 : (n : Int) < 130 := by omega
          have k2 : (at_ : Int) + n < s.size := by omega
          have k3 : (0 : Int) ≤ (at_ : Int) + n := by omega
          have k4 : (0 : Int) ≤ (at_ : Int) + n - d := by omega
          have k5 : (at_ : Int) + n - d < s.size := by omega
          by_cases heq : bt s (at_ + n) = bt s (at_ + n - d)
          · have HN := Lib.hid ((mat_yes s at_ d 130 n (by omega) heq).symm.trans HL.out)
            have g1 : (((bt s (at_ + n) : Nat) : Int) == ((bt s (at_ + n - d) : Nat) : Int)) = true := by simp; omega
            have g2 : (bt s (at_ + n) == bt s (at_ + n - d)) = true := by simp; omega
            clear heq
            have hw2 : IntKind.i64.wrap ((at_ : Int) + n - d) = (at_ : Int) + n - d := IntWalk.i64_in _ (by omega)
            have hw3 : ((at_ : Int) + n).toNat = at_ + n := by omega
            have hw4 : ((at_ : Int) + n - d).toNat = at_ + n - d := by omega
            go_wp2_with fail
            go_quiet (fail)
            clear ea eb hw1 hw2 hw3 hw4
            go_wp2
            go_roundw
            case rel => exact ⟨n + 1, _, by omega, by omega, by go_num, rfl, HN⟩
            case measure => (simp [intOf] <;> omega)
          · have HD := Lib.hid ((mat_ne s at_ d 130 n heq).symm.trans HL.out)
            have g1 : (((bt s (at_ + n) : Nat) : Int) == ((bt s (at_ + n - d) : Nat) : Int)) = false := by simp; omega
            have g2 : (bt s (at_ + n) == bt s (at_ + n - d)) = false := by simp; omega
            clear heq
            have hw2 : IntKind.i64.wrap ((at_ : Int) + n - d) = (at_ : Int) + n - d := IntWalk.i64_in _ (by omega)
            have hw3 : ((at_ : Int) + n).toNat = at_ + n := by omega
            have hw4 : ((at_ : Int) + n - d).toNat = at_ + n - d := by omega
            rcases Nat.lt_or_ge best n with hbn | hbn
            · have HN := Lib.hid (bestR_better s at_ 130 D d best far hdD n HD.out hbn HI.out)
              have gb1 : (best : Int) < n := by omega
              go_wp2_with fail
              go_quiet (fail)
              clear ea eb hw1 hw2 hw3 hw4
              go_wp2
              go_roundw
              case rel => exact ⟨d + 1, n, d, _, by omega, by omega, by omega, by omega, by omega, rfl, rfl, by go_num, rfl, HN⟩
              case measure => (simp [intOf] <;> omega)
            · have HN := Lib.hid (bestR_not s at_ 130 D d best far hdD n HD.out (by omega) HI.out)
              have gb1 : decide ((best : Int) < n) = false := by simp; omega
              have gb2 : decide (best < n) = false := by simp; omega
              clear hbn
              go_wp2_with fail
              go_quiet (fail)
              clear ea eb hw1 hw2 hw3 hw4
              go_wp2
              go_roundw
              case rel => exact ⟨d + 1, best, far, _, by omega, by omega, by omega, by omega, by omega, rfl, rfl, by go_num, rfl, HN⟩
              case measure => (simp [intOf] <;> omega)
        · have HD := Lib.hid ((mat_end s at_ d 130 n (by omega)).symm.trans HL.out)
          have k1 : decide ((n : Int) < 130) = false := by simp; omega
          have k2 : decide (n < 130) = false := by simp; omega
          rcases Nat.lt_or_ge best n with hbn | hbn
          · have HN := Lib.hid (bestR_better s at_ 130 D d best far hdD n HD.out hbn HI.out)
            have gb1 : (best : Int) < n := by omega
            go_wp2_with fail
            go_quiet (fail)
            clear hw1
            go_wp2
            go_roundw
            case rel => exact ⟨d + 1, n, d, _, by omega, by omega, by omega, by omega, by omega, rfl, rfl, by go_num, rfl, HN⟩
            case measure => (simp [intOf] <;> omega)
          · have HN := Lib.hid (bestR_not s at_ 130 D d best far hdD n HD.out (by omega) HI.out)
            have gb1 : decide ((best : Int) < n) = false := by simp; omega
            have gb2 : decide (best < n) = false := by simp; omega
            clear hbn
            go_wp2_with fail
            go_quiet (fail)
            clear hw1
            go_wp2
            go_roundw
            case rel => exact ⟨d + 1, best, far, _, by omega, by omega, by omega, by omega, by omega, rfl, rfl, by go_num, rfl, HN⟩
            case measure => (simp [intOf] <;> omega)
    · by_cases h255 : d ≤ D
      · have HR := Lib.hid (bestR_full' s at_ 130 D d best far (by omega) HI.out)
        have gd1 : (d : Int) ≤ 255 := by omega
        have gd1' : (d : Int) ≤ at_ := by omega
        have gd2 : decide ((best : Int) < 130) = false := by simp; omega
        have gd3 : decide (best < 130) = false := by simp; omega
        go_wp2
        go_ret2
        exact ⟨by cases HR.out; rfl, _, rfl⟩
      · have HR := Lib.hid (bestR_end s at_ 130 D d best far h255 HI.out)
        have gd2 : decide ((d : Int) ≤ at_) = false := by simp; omega
        have gd3 : decide (d ≤ at_) = false := by simp; omega
        go_wp2
        go_ret2
        exact ⟨by cases HR.out; rfl, _, rfl⟩

set_option maxRecDepth 100000 in
set_option maxHeartbeats 1000000 in
theorem reference_c (s : ByteArray) (at_ : Nat) (w : World) (hm1 : (s.size : Int) - at_ < 130) (hf1 : (255 : Int) ≤ at_) (hs : s.size ≤ 1048576) (hat : at_ < s.size) :
    Calls Try.prog 102 #[.string s, .int .i64 (at_ : Int)] w fun e w' => e = .returned (.tuple #[.int .i64 ((refer s at_).1 : Int), .int .i64 ((refer s at_).2 : Int)]) ∧ ∃ n, w' = w.drewN n := by
  have hM : mostAt s at_ = min 130 (s.size - at_) := rfl
  have HR0 := Lib.hid (show bestR s at_ (mostAt s at_) (farAt at_) 1 0 0 = refer s at_ from rfl)
  generalize hr : refer s at_ = R at HR0
  obtain ⟨r1, r2⟩ := R
  generalize mostAt s at_ = most at hM HR0
  have hF : farAt at_ = min 255 at_ := rfl
  generalize farAt at_ = D at hF HR0
  clear hr
  go_enter Try.func102, Try.ntmps102
  go_wp2
  go_loopw [7, 8, 9, 10] (fun bv fv dv _ wr => ∃ (d best far q : Nat), 1 ≤ d ∧ d ≤ 256 ∧ d ≤ at_ + 1 ∧ best ≤ 130 ∧ far ≤ 256 ∧ bv = .int .i64 best ∧ fv = .int .i64 far ∧ dv = .int .i64 d ∧ wr = w.drewN q ∧ Hid (bestR s at_ most D d best far = (r1, r2))) (fun _ _ dv _ _ => 300 - (intOf dv).toNat)
  case atStart => exact ⟨1, 0, 0, 0, by omega, by omega, by omega, by omega, by omega, rfl, rfl, rfl, rfl, HR0⟩
  case round =>
    obtain ⟨d, best, far, q, hd1, hd2, hd3, hb1, hf1, rfl, rfl, rfl, rfl, HI⟩ := hrel
    by_cases hdl : d ≤ D ∧ best < most
    · obtain ⟨i1, i2⟩ := hdl
      have hdD : d ≤ D := by omega
      have gd1 : (d : Int) ≤ 255 := by omega
      have gd1' : (d : Int) ≤ at_ := by omega
      have gd2 : (best : Int) < (s.size : Int) - at_ := by omega
      go_wp2
      go_loopw [10] (fun j wr' => ∃ n q' : Nat, n ≤ most ∧ at_ + n ≤ s.size ∧ j = .int .i64 n ∧ wr' = w.drewN q' ∧ Hid (mat s at_ d most n = ml s at_ d most)) (fun j _ => 130 - (intOf j).toNat)
      case atStart => exact ⟨0, q, by omega, by omega, rfl, rfl, Lib.hid rfl⟩
      case round =>
        obtain ⟨n, q', hn, hn2, rfl, rfl, HL⟩ := hrel
        have hw1 : IntKind.i64.wrap ((at_ : Int) + n) = (at_ : Int) + n := IntWalk.i64_in _ (by omega)
        by_cases hl2 : n < most
        · have hl3 : at_ + n < s.size := by omega
          have ea := bt_eq s (at_ + n) hl3
          have eb := bt_eq s (at_ + n - d) (by omega)
          have hba := bt_lt s (at_ + n)
          have hbb := bt_lt s (at_ + n - d)
          have k1 : (n : Int) < (s.size : Int) - at_ := by omega
          have k2 : (at_ : Int) + n < s.size := by omega
          have k3 : (0 : Int) ≤ (at_ : Int) + n := by omega
          have k4 : (0 : Int) ≤ (at_ : Int) + n - d := by omega
          have k5 : (at_ : Int) + n - d < s.size := by omega
          by_cases heq : bt s (at_ + n) = bt s (at_ + n - d)
          · have HN := Lib.hid ((mat_yes s at_ d most n (by omega) heq).symm.trans HL.out)
            have g1 : (((bt s (at_ + n) : Nat) : Int) == ((bt s (at_ + n - d) : Nat) : Int)) = true := by simp; omega
            have g2 : (bt s (at_ + n) == bt s (at_ + n - d)) = true := by simp; omega
            clear heq
            have hw2 : IntKind.i64.wrap ((at_ : Int) + n - d) = (at_ : Int) + n - d := IntWalk.i64_in _ (by omega)
            have hw3 : ((at_ : Int) + n).toNat = at_ + n := by omega
            have hw4 : ((at_ : Int) + n - d).toNat = at_ + n - d := by omega
            go_wp2_with fail
            go_quiet (fail)
            clear ea eb hw1 hw2 hw3 hw4
            go_wp2
            go_roundw
            case rel => exact ⟨n + 1, _, by omega, by omega, by go_num, rfl, HN⟩
            case measure => (simp [intOf] <;> omega)
          · have HD := Lib.hid ((mat_ne s at_ d most n heq).symm.trans HL.out)
            have g1 : (((bt s (at_ + n) : Nat) : Int) == ((bt s (at_ + n - d) : Nat) : Int)) = false := by simp; omega
            have g2 : (bt s (at_ + n) == bt s (at_ + n - d)) = false := by simp; omega
            clear heq
            have hw2 : IntKind.i64.wrap ((at_ : Int) + n - d) = (at_ : Int) + n - d := IntWalk.i64_in _ (by omega)
            have hw3 : ((at_ : Int) + n).toNat = at_ + n := by omega
            have hw4 : ((at_ : Int) + n - d).toNat = at_ + n - d := by omega
            rcases Nat.lt_or_ge best n with hbn | hbn
            · have HN := Lib.hid (bestR_better s at_ most D d best far hdD n HD.out hbn HI.out)
              have gb1 : (best : Int) < n := by omega
              go_wp2_with fail
              go_quiet (fail)
              clear ea eb hw1 hw2 hw3 hw4
              go_wp2
              go_roundw
              case rel => exact ⟨d + 1, n, d, _, by omega, by omega, by omega, by omega, by omega, rfl, rfl, by go_num, rfl, HN⟩
              case measure => (simp [intOf] <;> omega)
            · have HN := Lib.hid (bestR_not s at_ most D d best far hdD n HD.out (by omega) HI.out)
              have gb1 : decide ((best : Int) < n) = false := by simp; omega
              have gb2 : decide (best < n) = false := by simp; omega
              clear hbn
              go_wp2_with fail
              go_quiet (fail)
              clear ea eb hw1 hw2 hw3 hw4
              go_wp2
              go_roundw
              case rel => exact ⟨d + 1, best, far, _, by omega, by omega, by omega, by omega, by omega, rfl, rfl, by go_num, rfl, HN⟩
              case measure => (simp [intOf] <;> omega)
        · have HD := Lib.hid ((mat_end s at_ d most n (by omega)).symm.trans HL.out)
          have k1 : decide ((n : Int) < (s.size : Int) - at_) = false := by simp; omega
          have k2 : decide (n < s.size - at_) = false := by simp; omega
          rcases Nat.lt_or_ge best n with hbn | hbn
          · have HN := Lib.hid (bestR_better s at_ most D d best far hdD n HD.out hbn HI.out)
            have gb1 : (best : Int) < n := by omega
            go_wp2_with fail
            go_quiet (fail)
            clear hw1
            go_wp2
            go_roundw
            case rel => exact ⟨d + 1, n, d, _, by omega, by omega, by omega, by omega, by omega, rfl, rfl, by go_num, rfl, HN⟩
            case measure => (simp [intOf] <;> omega)
          · have HN := Lib.hid (bestR_not s at_ most D d best far hdD n HD.out (by omega) HI.out)
            have gb1 : decide ((best : Int) < n) = false := by simp; omega
            have gb2 : decide (best < n) = false := by simp; omega
            clear hbn
            go_wp2_with fail
            go_quiet (fail)
            clear hw1
            go_wp2
            go_roundw
            case rel => exact ⟨d + 1, best, far, _, by omega, by omega, by omega, by omega, by omega, rfl, rfl, by go_num, rfl, HN⟩
            case measure => (simp [intOf] <;> omega)
    · by_cases h255 : d ≤ D
      · have HR := Lib.hid (bestR_full' s at_ most D d best far (by omega) HI.out)
        have gd1 : (d : Int) ≤ 255 := by omega
        have gd1' : (d : Int) ≤ at_ := by omega
        have gd2 : decide ((best : Int) < (s.size : Int) - at_) = false := by simp; omega
        have gd3 : decide (best < s.size - at_) = false := by simp; omega
        go_wp2
        go_ret2
        exact ⟨by cases HR.out; rfl, _, rfl⟩
      · have HR := Lib.hid (bestR_end s at_ most D d best far h255 HI.out)
        have gd2 : decide ((d : Int) ≤ 255) = false := by simp; omega
        go_wp2
        go_ret2
        exact ⟨by cases HR.out; rfl, _, rfl⟩

set_option maxRecDepth 100000 in
set_option maxHeartbeats 1000000 in
theorem reference_d (s : ByteArray) (at_ : Nat) (w : World) (hm1 : (s.size : Int) - at_ < 130) (hf1 : (at_ : Int) < 255) (hs : s.size ≤ 1048576) (hat : at_ < s.size) :
    Calls Try.prog 102 #[.string s, .int .i64 (at_ : Int)] w fun e w' => e = .returned (.tuple #[.int .i64 ((refer s at_).1 : Int), .int .i64 ((refer s at_).2 : Int)]) ∧ ∃ n, w' = w.drewN n := by
  have hM : mostAt s at_ = min 130 (s.size - at_) := rfl
  have HR0 := Lib.hid (show bestR s at_ (mostAt s at_) (farAt at_) 1 0 0 = refer s at_ from rfl)
  generalize hr : refer s at_ = R at HR0
  obtain ⟨r1, r2⟩ := R
  generalize mostAt s at_ = most at hM HR0
  have hF : farAt at_ = min 255 at_ := rfl
  generalize farAt at_ = D at hF HR0
  clear hr
  go_enter Try.func102, Try.ntmps102
  go_wp2
  go_loopw [7, 8, 9, 10] (fun bv fv dv _ wr => ∃ (d best far q : Nat), 1 ≤ d ∧ d ≤ 256 ∧ d ≤ at_ + 1 ∧ best ≤ 130 ∧ far ≤ 256 ∧ bv = .int .i64 best ∧ fv = .int .i64 far ∧ dv = .int .i64 d ∧ wr = w.drewN q ∧ Hid (bestR s at_ most D d best far = (r1, r2))) (fun _ _ dv _ _ => 300 - (intOf dv).toNat)
  case atStart => exact ⟨1, 0, 0, 0, by omega, by omega, by omega, by omega, by omega, rfl, rfl, rfl, rfl, HR0⟩
  case round =>
    obtain ⟨d, best, far, q, hd1, hd2, hd3, hb1, hf1, rfl, rfl, rfl, rfl, HI⟩ := hrel
    by_cases hdl : d ≤ D ∧ best < most
    · obtain ⟨i1, i2⟩ := hdl
      have hdD : d ≤ D := by omega
      have gd1 : (d : Int) ≤ 255 := by omega
      have gd1' : (d : Int) ≤ at_ := by omega
      have gd2 : (best : Int) < (s.size : Int) - at_ := by omega
      go_wp2
      go_loopw [10] (fun j wr' => ∃ n q' : Nat, n ≤ most ∧ at_ + n ≤ s.size ∧ j = .int .i64 n ∧ wr' = w.drewN q' ∧ Hid (mat s at_ d most n = ml s at_ d most)) (fun j _ => 130 - (intOf j).toNat)
      case atStart => exact ⟨0, q, by omega, by omega, rfl, rfl, Lib.hid rfl⟩
      case round =>
        obtain ⟨n, q', hn, hn2, rfl, rfl, HL⟩ := hrel
        have hw1 : IntKind.i64.wrap ((at_ : Int) + n) = (at_ : Int) + n := IntWalk.i64_in _ (by omega)
        by_cases hl2 : n < most
        · have hl3 : at_ + n < s.size := by omega
          have ea := bt_eq s (at_ + n) hl3
          have eb := bt_eq s (at_ + n - d) (by omega)
          have hba := bt_lt s (at_ + n)
          have hbb := bt_lt s (at_ + n - d)
          have k1 : (n : Int) < (s.size : Int) - at_ := by omega
          have k2 : (at_ : Int) + n < s.size := by omega
          have k3 : (0 : Int) ≤ (at_ : Int) + n := by omega
          have k4 : (0 : Int) ≤ (at_ : Int) + n - d := by omega
          have k5 : (at_ : Int) + n - d < s.size := by omega
          by_cases heq : bt s (at_ + n) = bt s (at_ + n - d)
          · have HN := Lib.hid ((mat_yes s at_ d most n (by omega) heq).symm.trans HL.out)
            have g1 : (((bt s (at_ + n) : Nat) : Int) == ((bt s (at_ + n - d) : Nat) : Int)) = true := by simp; omega
            have g2 : (bt s (at_ + n) == bt s (at_ + n - d)) = true := by simp; omega
            clear heq
            have hw2 : IntKind.i64.wrap ((at_ : Int) + n - d) = (at_ : Int) + n - d := IntWalk.i64_in _ (by omega)
            have hw3 : ((at_ : Int) + n).toNat = at_ + n := by omega
            have hw4 : ((at_ : Int) + n - d).toNat = at_ + n - d := by omega
            go_wp2_with fail
            go_quiet (fail)
            clear ea eb hw1 hw2 hw3 hw4
            go_wp2
            go_roundw
            case rel => exact ⟨n + 1, _, by omega, by omega, by go_num, rfl, HN⟩
            case measure => (simp [intOf] <;> omega)
          · have HD := Lib.hid ((mat_ne s at_ d most n heq).symm.trans HL.out)
            have g1 : (((bt s (at_ + n) : Nat) : Int) == ((bt s (at_ + n - d) : Nat) : Int)) = false := by simp; omega
            have g2 : (bt s (at_ + n) == bt s (at_ + n - d)) = false := by simp; omega
            clear heq
            have hw2 : IntKind.i64.wrap ((at_ : Int) + n - d) = (at_ : Int) + n - d := IntWalk.i64_in _ (by omega)
            have hw3 : ((at_ : Int) + n).toNat = at_ + n := by omega
            have hw4 : ((at_ : Int) + n - d).toNat = at_ + n - d := by omega
            rcases Nat.lt_or_ge best n with hbn | hbn
            · have HN := Lib.hid (bestR_better s at_ most D d best far hdD n HD.out hbn HI.out)
              have gb1 : (best : Int) < n := by omega
              go_wp2_with fail
              go_quiet (fail)
              clear ea eb hw1 hw2 hw3 hw4
              go_wp2
              go_roundw
              case rel => exact ⟨d + 1, n, d, _, by omega, by omega, by omega, by omega, by omega, rfl, rfl, by go_num, rfl, HN⟩
              case measure => (simp [intOf] <;> omega)
            · have HN := Lib.hid (bestR_not s at_ most D d best far hdD n HD.out (by omega) HI.out)
              have gb1 : decide ((best : Int) < n) = false := by simp; omega
              have gb2 : decide (best < n) = false := by simp; omega
              clear hbn
              go_wp2_with fail
              go_quiet (fail)
              clear ea eb hw1 hw2 hw3 hw4
              go_wp2
              go_roundw
              case rel => exact ⟨d + 1, best, far, _, by omega, by omega, by omega, by omega, by omega, rfl, rfl, by go_num, rfl, HN⟩
              case measure => (simp [intOf] <;> omega)
        · have HD := Lib.hid ((mat_end s at_ d most n (by omega)).symm.trans HL.out)
          have k1 : decide ((n : Int) < (s.size : Int) - at_) = false := by simp; omega
          have k2 : decide (n < s.size - at_) = false := by simp; omega
          rcases Nat.lt_or_ge best n with hbn | hbn
          · have HN := Lib.hid (bestR_better s at_ most D d best far hdD n HD.out hbn HI.out)
            have gb1 : (best : Int) < n := by omega
            go_wp2_with fail
            go_quiet (fail)
            clear hw1
            go_wp2
            go_roundw
            case rel => exact ⟨d + 1, n, d, _, by omega, by omega, by omega, by omega, by omega, rfl, rfl, by go_num, rfl, HN⟩
            case measure => (simp [intOf] <;> omega)
          · have HN := Lib.hid (bestR_not s at_ most D d best far hdD n HD.out (by omega) HI.out)
            have gb1 : decide ((best : Int) < n) = false := by simp; omega
            have gb2 : decide (best < n) = false := by simp; omega
            clear hbn
            go_wp2_with fail
            go_quiet (fail)
            clear hw1
            go_wp2
            go_roundw
            case rel => exact ⟨d + 1, best, far, _, by omega, by omega, by omega, by omega, by omega, rfl, rfl, by go_num, rfl, HN⟩
            case measure => (simp [intOf] <;> omega)
    · by_cases h255 : d ≤ D
      · have HR := Lib.hid (bestR_full' s at_ most D d best far (by omega) HI.out)
        have gd1 : (d : Int) ≤ 255 := by omega
        have gd1' : (d : Int) ≤ at_ := by omega
        have gd2 : decide ((best : Int) < (s.size : Int) - at_) = false := by simp; omega
        have gd3 : decide (best < s.size - at_) = false := by simp; omega
        go_wp2
        go_ret2
        exact ⟨by cases HR.out; rfl, _, rfl⟩
      · have HR := Lib.hid (bestR_end s at_ most D d best far h255 HI.out)
        have gd2 : decide ((d : Int) ≤ at_) = false := by simp; omega
        have gd3 : decide (d ≤ at_) = false := by simp; omega
        go_wp2
        go_ret2
        exact ⟨by cases HR.out; rfl, _, rfl⟩

theorem reference_any (s : ByteArray) (at_ : Nat) (w : World) (hs : s.size ≤ 1048576) (hat : at_ < s.size) :
    Calls Try.prog 102 #[.string s, .int .i64 (at_ : Int)] w fun e w' => e = .returned (.tuple #[.int .i64 ((refer s at_).1 : Int), .int .i64 ((refer s at_).2 : Int)]) ∧ ∃ n, w' = w.drewN n := by
  by_cases h1 : (130 : Int) ≤ (s.size : Int) - at_
  · by_cases h2 : (255 : Int) ≤ at_
    · exact reference_a s at_ w h1 h2 hs hat
    · exact reference_b s at_ w h1 (by omega) hs hat
  · by_cases h2 : (255 : Int) ≤ at_
    · exact reference_c s at_ w (by omega) h2 hs hat
    · exact reference_d s at_ w (by omega) (by omega) hs hat
end Go.Proofs.Ytjjcedodjoieoaa
