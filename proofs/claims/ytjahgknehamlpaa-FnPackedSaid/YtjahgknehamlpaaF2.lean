/- Walks: the texts PbM W23 W24 W25 W26 W27 W28 as one text. -/
import Derived.Test.YtjahgknehamlpaaPkM
import Derived.Test.YtjahgknehamlpaaDelM
import Derived.Test.YtjahgknehamlpaaW14
import Derived.Deep.QuietTactic
import Derived.BigQuiet
import Derived.Test.YtjahgknehamlpaaMem3
import Derived.Deep.DeepMust
import Derived.StillTailTactics
namespace Go.Proofs.Ytjahgknehamlpaa
set_option linter.unusedVariables false
open Go.RowKit

/-- How far the text from at_ on equals the text d bytes before it: from n on, at most 'most'. -/
def mat (s : ByteArray) (at_ d most n : Nat) : Nat := if h : n < most ∧ bt s (at_ + n) = bt s (at_ + n - d) then mat s at_ d most (n + 1) else n
termination_by most - n
theorem mat_yes (s : ByteArray) (at_ d most n : Nat) (h : n < most) (he : bt s (at_ + n) = bt s (at_ + n - d)) : mat s at_ d most n = mat s at_ d most (n + 1) := by rw [mat, dif_pos ⟨h, he⟩]
theorem mat_ne (s : ByteArray) (at_ d most n : Nat) (he : ¬ bt s (at_ + n) = bt s (at_ + n - d)) : mat s at_ d most n = n := by rw [mat, dif_neg (fun h => he h.2)]
theorem mat_end (s : ByteArray) (at_ d most n : Nat) (h : ¬ n < most) : mat s at_ d most n = n := by rw [mat, dif_neg (fun h' => h h'.1)]
theorem mat_le (s : ByteArray) (at_ d most : Nat) : ∀ f n, most - n ≤ f → n ≤ most → n ≤ mat s at_ d most n ∧ mat s at_ d most n ≤ most
  | 0, n, h, hn => by rw [mat_end s at_ d most n (by omega)]; omega
  | f + 1, n, h, hn => by
    by_cases hlt : n < most
    · by_cases he : bt s (at_ + n) = bt s (at_ + n - d)
      · have := mat_le s at_ d most f (n + 1) (by omega) (by omega)
        rw [mat_yes s at_ d most n hlt he]
        omega
      · rw [mat_ne s at_ d most n he]; omega
    · rw [mat_end s at_ d most n hlt]; omega
def ml (s : ByteArray) (at_ d most : Nat) : Nat := mat s at_ d most 0
theorem ml_le (s : ByteArray) (at_ d most : Nat) : ml s at_ d most ≤ most := (mat_le s at_ d most most 0 (by omega) (by omega)).2

/-- The best of the distances d .. D. -/
def bestR (s : ByteArray) (at_ most D d best far : Nat) : Nat × Nat :=
  if h : d ≤ D then (if best < ml s at_ d most then bestR s at_ most D (d + 1) (ml s at_ d most) d else bestR s at_ most D (d + 1) best far) else (best, far)
termination_by D + 1 - d
theorem bestR_end (s : ByteArray) (at_ most D d best far : Nat) {R : Nat × Nat} (h : ¬ d ≤ D) (hr : bestR s at_ most D d best far = R) : R = (best, far) := by
  rw [bestR, dif_neg h] at hr
  exact hr.symm
theorem bestR_better (s : ByteArray) (at_ most D d best far : Nat) {R : Nat × Nat} (h : d ≤ D) (n : Nat) (hn : n = ml s at_ d most) (hb : best < n) (hr : bestR s at_ most D d best far = R) : bestR s at_ most D (d + 1) n d = R := by
  subst hn
  rw [bestR, dif_pos h, if_pos hb] at hr
  exact hr
theorem bestR_not (s : ByteArray) (at_ most D d best far : Nat) {R : Nat × Nat} (h : d ≤ D) (n : Nat) (hn : n = ml s at_ d most) (hb : ¬ best < n) (hr : bestR s at_ most D d best far = R) : bestR s at_ most D (d + 1) best far = R := by
  subst hn
  rw [bestR, dif_pos h, if_neg hb] at hr
  exact hr
theorem bestR_full (s : ByteArray) (at_ most D : Nat) : ∀ f d best far, D + 1 - d ≤ f → most ≤ best → bestR s at_ most D d best far = (best, far)
  | 0, d, best, far, h, hb => by rw [bestR, dif_neg (by omega)]
  | f + 1, d, best, far, h, hb => by
    by_cases hd : d ≤ D
    · have := ml_le s at_ d most
      rw [bestR, dif_pos hd, if_neg (by omega)]
      exact bestR_full s at_ most D f (d + 1) best far (by omega) hb
    · rw [bestR, dif_neg hd]
theorem bestR_full' (s : ByteArray) (at_ most D d best far : Nat) {R : Nat × Nat} (h : ¬ best < most) (hr : bestR s at_ most D d best far = R) : R = (best, far) := by
  rw [bestR_full s at_ most D (D + 1) d best far (by omega) (by omega)] at hr
  exact hr.symm
theorem bestR_bd (s : ByteArray) (at_ most D : Nat) : ∀ f d best far, D + 1 - d ≤ f → best ≤ most → far ≤ D → (bestR s at_ most D d best far).1 ≤ most ∧ (bestR s at_ most D d best far).2 ≤ D
  | 0, d, best, far, h, hb, hf => by rw [bestR, dif_neg (by omega)]; exact ⟨hb, hf⟩
  | f + 1, d, best, far, h, hb, hf => by
    by_cases hd : d ≤ D
    · have := ml_le s at_ d most
      rw [bestR, dif_pos hd]
      split
      · exact bestR_bd s at_ most D f (d + 1) _ d (by omega) this hd
      · exact bestR_bd s at_ most D f (d + 1) best far (by omega) hb hf
    · rw [bestR, dif_neg hd]; exact ⟨hb, hf⟩
def mostAt (s : ByteArray) (at_ : Nat) : Nat := min 130 (s.size - at_)
def farAt (at_ : Nat) : Nat := min 255 at_
def refer (s : ByteArray) (at_ : Nat) : Nat × Nat := bestR s at_ (mostAt s at_) (farAt at_) 1 0 0
theorem refer_bd (s : ByteArray) (at_ : Nat) : (refer s at_).1 ≤ mostAt s at_ ∧ (refer s at_).2 ≤ farAt at_ := bestR_bd s at_ _ _ (farAt at_ + 1) 1 0 0 (by omega) (by omega) (by omega)

/-- Bytes that stand for themselves. -/
def plL (l : List UInt8) : List UInt8 := if h : l = [] then [] else UInt8.ofNat (min l.length 128 - 1) :: (l.take (min l.length 128) ++ plL (l.drop (min l.length 128)))
termination_by l.length
decreasing_by
  have : 0 < l.length := List.length_pos_iff.2 h
  rw [List.length_drop]
  omega
theorem plL_nil : plL [] = [] := by rw [plL, dif_pos rfl]
theorem plL_step (l : List UInt8) (n : Nat) (h : 0 < l.length) (hn : n = min l.length 128) : plL l = UInt8.ofNat (n - 1) :: (l.take n ++ plL (l.drop n)) := by
  subst hn
  have : l ≠ [] := List.length_pos_iff.1 h
  rw [plL, dif_neg this]
theorem plL_len : ∀ (f : Nat) (l : List UInt8), l.length ≤ f → (plL l).length ≤ 2 * l.length
  | 0, l, h => by
    have : l = [] := List.eq_nil_of_length_eq_zero (by omega)
    subst this
    rw [plL_nil]
    simp
  | f + 1, l, h => by
    by_cases h0 : 0 < l.length
    · have := plL_len f (l.drop (min l.length 128)) (by rw [List.length_drop]; omega)
      rw [plL_step l _ h0 rfl, List.length_cons, List.length_append, List.length_take]
      rw [List.length_drop] at this
      omega
    · have : l = [] := List.eq_nil_of_length_eq_zero (by omega)
      subst this
      rw [plL_nil]
      simp

/-- Packed from at_ on; from 'from_' on nothing is written yet. -/
def pbG (s : ByteArray) (at_ from_ : Nat) (out : List UInt8) : List UInt8 :=
  if h : at_ < s.size then
    (if h3 : (refer s at_).1 < 3 then pbG s (at_ + 1) from_ out
     else pbG s (at_ + (refer s at_).1) (at_ + (refer s at_).1) (out ++ plL (seg s from_ at_) ++ [UInt8.ofNat ((refer s at_).1 + 125), UInt8.ofNat (refer s at_).2]))
  else out ++ plL (seg s from_ s.size)
termination_by s.size - at_
theorem pbG_end (s : ByteArray) (at_ from_ : Nat) (out R : List UInt8) (h : ¬ at_ < s.size) (hr : pbG s at_ from_ out = R) : R = out ++ plL (seg s from_ s.size) := by
  rw [pbG, dif_neg h] at hr
  exact hr.symm
theorem pbG_skip (s : ByteArray) (at_ from_ : Nat) (out R : List UInt8) (h : at_ < s.size) (n d : Nat) (hnd : refer s at_ = (n, d)) (h3 : n < 3) (hr : pbG s at_ from_ out = R) : pbG s (at_ + 1) from_ out = R := by
  rw [pbG, dif_pos h, hnd, dif_pos h3] at hr
  exact hr
theorem pbG_ref (s : ByteArray) (at_ from_ : Nat) (out R : List UInt8) (h : at_ < s.size) (n d : Nat) (hnd : refer s at_ = (n, d)) (h3 : ¬ n < 3) (hr : pbG s at_ from_ out = R) :
    pbG s (at_ + n) (at_ + n) ((out ++ plL (seg s from_ at_)) ++ [UInt8.ofNat (n + 125), UInt8.ofNat d]) = R := by
  rw [pbG, dif_pos h, hnd, dif_neg h3] at hr
  exact hr
def packB (s : ByteArray) : Option (List UInt8) := if 4096 < s.size then none else some (pbG s 0 0 [])
theorem packB_no (s : ByteArray) (h : 4096 < s.size) : packB s = none := if_pos h
theorem packB_yes (s : ByteArray) (h : ¬ 4096 < s.size) : packB s = some (pbG s 0 0 []) := if_neg h
end Go.Proofs.Ytjahgknehamlpaa
namespace Go.Proofs.Ytjahgknehamlpaa
set_option linter.unusedVariables false
open Go.RowKit

end Go.Proofs.Ytjahgknehamlpaa
namespace Go.Proofs.Ytjahgknehamlpaa
set_option linter.unusedVariables false
open Go.RowKit

set_option maxRecDepth 100000 in
set_option maxHeartbeats 1000000 in
theorem reference_a (s : ByteArray) (at_ : Nat) (w : World) (hm1 : (130 : Int) ≤ (s.size : Int) - at_) (hf1 : (255 : Int) ≤ at_) (hs : s.size ≤ 1048576) (hat : at_ < s.size) :
    Calls Try.prog 77 #[.string s, .int .i64 (at_ : Int)] w fun e w' => e = .returned (.tuple #[.int .i64 ((refer s at_).1 : Int), .int .i64 ((refer s at_).2 : Int)]) ∧ ∃ n, w' = w.drewN n := by
  have hM : mostAt s at_ = min 130 (s.size - at_) := rfl
  have HR0 := Lib.hid (show bestR s at_ (mostAt s at_) (farAt at_) 1 0 0 = refer s at_ from rfl)
  generalize hr : refer s at_ = R at HR0
  obtain ⟨r1, r2⟩ := R
  generalize mostAt s at_ = most at hM HR0
  obtain rfl : most = 130 := by omega
  have hF : farAt at_ = min 255 at_ := rfl
  generalize farAt at_ = D at hF HR0
  clear hr
  go_enter Try.func77, Try.ntmps77
  go_wp2
  go_loopw [7, 8, 9, 10] (fun bv fv dv _ wr => ∃ (d best far q : Nat), 1 ≤ d ∧ d ≤ 256 ∧ d ≤ at_ + 1 ∧ best ≤ 130 ∧ far ≤ 256 ∧ bv = .int .i64 best ∧ fv = .int .i64 far ∧ dv = .int .i64 d ∧ wr = w.drewN q ∧ Hid (bestR s at_ 130 D d best far = (r1, r2))) (fun _ _ dv _ _ => 300 - (intOf dv).toNat)
  case atStart => exact ⟨1, 0, 0, 0, by omega, by omega, by omega, by omega, by omega, rfl, rfl, rfl, rfl, HR0⟩
  case round =>
    obtain ⟨d, best, far, q, hd1, hd2, hd3, hb1, hf1, rfl, rfl, rfl, rfl, HI⟩ := hrel
    by_cases hdl : d ≤ D ∧ best < 130
    · obtain ⟨i1, i2⟩ := hdl
      have hdD : d ≤ D := by omega
      have gd1 : (d : Int) ≤ 255 := by omega
      have gd1' : (d : Int) ≤ at_ := by omega
      have gd2 : (best : Int) < 130 := by omega
      go_wp2
      go_loopw [10] (fun j wr' => ∃ n q' : Nat, n ≤ 130 ∧ at_ + n ≤ s.size ∧ j = .int .i64 n ∧ wr' = w.drewN q' ∧ Hid (mat s at_ d 130 n = ml s at_ d 130)) (fun j _ => 130 - (intOf j).toNat)
      case atStart => exact ⟨0, q, by omega, by omega, rfl, rfl, Lib.hid rfl⟩
      case round =>
        obtain ⟨n, q', hn, hn2, rfl, rfl, HL⟩ := hrel
        have hw1 : IntKind.i64.wrap ((at_ : Int) + n) = (at_ : Int) + n := IntWalk.i64_in _ (by omega)
        by_cases hl2 : n < 130
        · have hl3 : at_ + n < s.size := by omega
          have ea := bt_eq s (at_ + n) hl3
          have eb := bt_eq s (at_ + n - d) (by omega)
          have hba := bt_lt s (at_ + n)
          have hbb := bt_lt s (at_ + n - d)
          have k1 : (n : Int) < 130 := by omega
          have k2 : (at_ : Int) + n < s.size := by omega
          have k3 : (0 : Int) ≤ (at_ : Int) + n := by omega
          have k4 : (0 : Int) ≤ (at_ : Int) + n - d := by omega
          have k5 : (at_ : Int) + n - d < s.size := by omega
          by_cases heq : bt s (at_ + n) = bt s (at_ + n - d)
          · have HN := Lib.hid ((mat_yes s at_ d 130 n (by omega) heq).symm.trans HL.out)
            have g1 : (((bt s (at_ + n) : Nat) : Int) == ((bt s (at_ + n - d) : Nat) : Int)) = true := by simp; omega
            have g2 : (bt s (at_ + n) == bt s (at_ + n - d)) = true := by simp; omega
            clear heq
            have hw2 : IntKind.i64.wrap ((at_ : Int) + n - d) = (at_ : Int) + n - d := IntWalk.i64_in _ (by omega)
            have hw3 : ((at_ : Int) + n).toNat = at_ + n := by omega
            have hw4 : ((at_ : Int) + n - d).toNat = at_ + n - d := by omega
            go_wp2_with fail
            go_quiet (fail)
            clear ea eb hw1 hw2 hw3 hw4
            go_wp2
            go_roundw
            case rel => exact ⟨n + 1, _, by omega, by omega, by go_num, rfl, HN⟩
            case measure => (simp [intOf] <;> omega)
          · have HD := Lib.hid ((mat_ne s at_ d 130 n heq).symm.trans HL.out)
            have g1 : (((bt s (at_ + n) : Nat) : Int) == ((bt s (at_ + n - d) : Nat) : Int)) = false := by simp; omega
            have g2 : (bt s (at_ + n) == bt s (at_ + n - d)) = false := by simp; omega
            clear heq
            have hw2 : IntKind.i64.wrap ((at_ : Int) + n - d) = (at_ : Int) + n - d := IntWalk.i64_in _ (by omega)
            have hw3 : ((at_ : Int) + n).toNat = at_ + n := by omega
            have hw4 : ((at_ : Int) + n - d).toNat = at_ + n - d := by omega
            rcases Nat.lt_or_ge best n with hbn | hbn
            · have HN := Lib.hid (bestR_better s at_ 130 D d best far hdD n HD.out hbn HI.out)
              have gb1 : (best : Int) < n := by omega
              go_wp2_with fail
              go_quiet (fail)
              clear ea eb hw1 hw2 hw3 hw4
              go_wp2
              go_roundw
              case rel => exact ⟨d + 1, n, d, _, by omega, by omega, by omega, by omega, by omega, rfl, rfl, by go_num, rfl, HN⟩
              case measure => (simp [intOf] <;> omega)
            · have HN := Lib.hid (bestR_not s at_ 130 D d best far hdD n HD.out (by omega) HI.out)
              have gb1 : decide ((best : Int) < n) = false := by simp; omega
              have gb2 : decide (best < n) = false := by simp; omega
              clear hbn
              go_wp2_with fail
              go_quiet (fail)
              clear ea eb hw1 hw2 hw3 hw4
              go_wp2
              go_roundw
              case rel => exact ⟨d + 1, best, far, _, by omega, by omega, by omega, by omega, by omega, rfl, rfl, by go_num, rfl, HN⟩
              case measure => (simp [intOf] <;> omega)
        · have HD := Lib.hid ((mat_end s at_ d 130 n (by omega)).symm.trans HL.out)
          have k1 : decide ((n : Int) < 130) = false := by simp; omega
          have k2 : decide (n < 130) = false := by simp; omega
          rcases Nat.lt_or_ge best n with hbn | hbn
          · have HN := Lib.hid (bestR_better s at_ 130 D d best far hdD n HD.out hbn HI.out)
            have gb1 : (best : Int) < n := by omega
            go_wp2_with fail
            go_quiet (fail)
            clear hw1
            go_wp2
            go_roundw
            case rel => exact ⟨d + 1, n, d, _, by omega, by omega, by omega, by omega, by omega, rfl, rfl, by go_num, rfl, HN⟩
            case measure => (simp [intOf] <;> omega)
          · have HN := Lib.hid (bestR_not s at_ 130 D d best far hdD n HD.out (by omega) HI.out)
            have gb1 : decide ((best : Int) < n) = false := by simp; omega
            have gb2 : decide (best < n) = false := by simp; omega
            clear hbn
            go_wp2_with fail
            go_quiet (fail)
            clear hw1
            go_wp2
            go_roundw
            case rel => exact ⟨d + 1, best, far, _, by omega, by omega, by omega, by omega, by omega, rfl, rfl, by go_num, rfl, HN⟩
            case measure => (simp [intOf] <;> omega)
    · by_cases h255 : d ≤ D
      · have HR := Lib.hid (bestR_full' s at_ 130 D d best far (by omega) HI.out)
        have gd1 : (d : Int) ≤ 255 := by omega
        have gd1' : (d : Int) ≤ at_ := by omega
        have gd2 : decide ((best : Int) < 130) = false := by simp; omega
        have gd3 : decide (best < 130) = false := by simp; omega
        go_wp2
        go_ret2
        exact ⟨by cases HR.out; rfl, _, rfl⟩
      · have HR := Lib.hid (bestR_end s at_ 130 D d best far h255 HI.out)
        have gd2 : decide ((d : Int) ≤ 255) = false := by simp; omega
        go_wp2
        go_ret2
        exact ⟨by cases HR.out; rfl, _, rfl⟩

set_option maxRecDepth 100000 in
set_option maxHeartbeats 1000000 in
theorem reference_b (s : ByteArray) (at_ : Nat) (w : World) (hm1 : (130 : Int) ≤ (s.size : Int) - at_) (hf1 : (at_ : Int) < 255) (hs : s.size ≤ 1048576) (hat : at_ < s.size) :
    Calls Try.prog 77 #[.string s, .int .i64 (at_ : Int)] w fun e w' => e = .returned (.tuple #[.int .i64 ((refer s at_).1 : Int), .int .i64 ((refer s at_).2 : Int)]) ∧ ∃ n, w' = w.drewN n := by
  have hM : mostAt s at_ = min 130 (s.size - at_) := rfl
  have HR0 := Lib.hid (show bestR s at_ (mostAt s at_) (farAt at_) 1 0 0 = refer s at_ from rfl)
  generalize hr : refer s at_ = R at HR0
  obtain ⟨r1, r2⟩ := R
  generalize mostAt s at_ = most at hM HR0
  obtain rfl : most = 130 := by omega
  have hF : farAt at_ = min 255 at_ := rfl
  generalize farAt at_ = D at hF HR0
  clear hr
  go_enter Try.func77, Try.ntmps77
  go_wp2
  go_loopw [7, 8, 9, 10] (fun bv fv dv _ wr => ∃ (d best far q : Nat), 1 ≤ d ∧ d ≤ 256 ∧ d ≤ at_ + 1 ∧ best ≤ 130 ∧ far ≤ 256 ∧ bv = .int .i64 best ∧ fv = .int .i64 far ∧ dv = .int .i64 d ∧ wr = w.drewN q ∧ Hid (bestR s at_ 130 D d best far = (r1, r2))) (fun _ _ dv _ _ => 300 - (intOf dv).toNat)
  case atStart => exact ⟨1, 0, 0, 0, by omega, by omega, by omega, by omega, by omega, rfl, rfl, rfl, rfl, HR0⟩
  case round =>
    obtain ⟨d, best, far, q, hd1, hd2, hd3, hb1, hf1, rfl, rfl, rfl, rfl, HI⟩ := hrel
    by_cases hdl : d ≤ D ∧ best < 130
    · obtain ⟨i1, i2⟩ := hdl
      have hdD : d ≤ D := by omega
      have gd1 : (d : Int) ≤ 255 := by omega
      have gd1' : (d : Int) ≤ at_ := by omega
      have gd2 : (best : Int) < 130 := by omega
      go_wp2
      go_loopw [10] (fun j wr' => ∃ n q' : Nat, n ≤ 130 ∧ at_ + n ≤ s.size ∧ j = .int .i64 n ∧ wr' = w.drewN q' ∧ Hid (mat s at_ d 130 n = ml s at_ d 130)) (fun j _ => 130 - (intOf j).toNat)
      case atStart => exact ⟨0, q, by omega, by omega, rfl, rfl, Lib.hid rfl⟩
      case round =>
        obtain ⟨n, q', hn, hn2, rfl, rfl, HL⟩ := hrel
        have hw1 : IntKind.i64.wrap ((at_ : Int) + n) = (at_ : Int) + n := IntWalk.i64_in _ (by omega)
        by_cases hl2 : n < 130
        · have hl3 : at_ + n < s.size := by omega
          have ea := bt_eq s (at_ + n) hl3
          have eb := bt_eq s (at_ + n - d) (by omega)
          have hba := bt_lt s (at_ + n)
          have hbb := bt_lt s (at_ + n - d)
          have k1 : (n : Int) < 130 := by omega
          have k2 : (at_ : Int) + n < s.size := by omega
          have k3 : (0 : Int) ≤ (at_ : Int) + n := by omega
          have k4 : (0 : Int) ≤ (at_ : Int) + n - d := by omega
          have k5 : (at_ : Int) + n - d < s.size := by omega
          by_cases heq : bt s (at_ + n) = bt s (at_ + n - d)
          · have HN := Lib.hid ((mat_yes s at_ d 130 n (by omega) heq).symm.trans HL.out)
            have g1 : (((bt s (at_ + n) : Nat) : Int) == ((bt s (at_ + n - d) : Nat) : Int)) = true := by simp; omega
            have g2 : (bt s (at_ + n) == bt s (at_ + n - d)) = true := by simp; omega
            clear heq
            have hw2 : IntKind.i64.wrap ((at_ : Int) + n - d) = (at_ : Int) + n - d := IntWalk.i64_in _ (by omega)
            have hw3 : ((at_ : Int) + n).toNat = at_ + n := by omega
            have hw4 : ((at_ : Int) + n - d).toNat = at_ + n - d := by omega
            go_wp2_with fail
            go_quiet (fail)
            clear ea eb hw1 hw2 hw3 hw4
            go_wp2
            go_roundw
            case rel => exact ⟨n + 1, _, by omega, by omega, by go_num, rfl, HN⟩
            case measure => (simp [intOf] <;> omega)
          · have HD := Lib.hid ((mat_ne s at_ d 130 n heq).symm.trans HL.out)
            have g1 : (((bt s (at_ + n) : Nat) : Int) == ((bt s (at_ + n - d) : Nat) : Int)) = false := by simp; omega
            have g2 : (bt s (at_ + n) == bt s (at_ + n - d)) = false := by simp; omega
            clear heq
            have hw2 : IntKind.i64.wrap ((at_ : Int) + n - d) = (at_ : Int) + n - d := IntWalk.i64_in _ (by omega)
            have hw3 : ((at_ : Int) + n).toNat = at_ + n := by omega
            have hw4 : ((at_ : Int) + n - d).toNat = at_ + n - d := by omega
            rcases Nat.lt_or_ge best n with hbn | hbn
            · have HN := Lib.hid (bestR_better s at_ 130 D d best far hdD n HD.out hbn HI.out)
              have gb1 : (best : Int) < n := by omega
              go_wp2_with fail
              go_quiet (fail)
              clear ea eb hw1 hw2 hw3 hw4
              go_wp2
              go_roundw
              case rel => exact ⟨d + 1, n, d, _, by omega, by omega, by omega, by omega, by omega, rfl, rfl, by go_num, rfl, HN⟩
              case measure => (simp [intOf] <;> omega)
            · have HN := Lib.hid (bestR_not s at_ 130 D d best far hdD n HD.out (by omega) HI.out)
              have gb1 : decide ((best : Int) < n) = false := by simp; omega
              have gb2 : decide (best < n) = false := by simp; omega
              clear hbn
              go_wp2_with fail
              go_quiet (fail)
              clear ea eb hw1 hw2 hw3 hw4
              go_wp2
              go_roundw
              case rel => exact ⟨d + 1, best, far, _, by omega, by omega, by omega, by omega, by omega, rfl, rfl, by go_num, rfl, HN⟩
              case measure => (simp [intOf] <;> omega)
        · have HD := Lib.hid ((mat_end s at_ d 130 n (by omega)).symm.trans HL.out)
          have k1 : decide ((n : Int) < 130) = false := by simp; omega
          have k2 : decide (n < 130) = false := by simp; omega
          rcases Nat.lt_or_ge best n with hbn | hbn
          · have HN := Lib.hid (bestR_better s at_ 130 D d best far hdD n HD.out hbn HI.out)
            have gb1 : (best : Int) < n := by omega
            go_wp2_with fail
            go_quiet (fail)
            clear hw1
            go_wp2
            go_roundw
            case rel => exact ⟨d + 1, n, d, _, by omega, by omega, by omega, by omega, by omega, rfl, rfl, by go_num, rfl, HN⟩
            case measure => (simp [intOf] <;> omega)
          · have HN := Lib.hid (bestR_not s at_ 130 D d best far hdD n HD.out (by omega) HI.out)
            have gb1 : decide ((best : Int) < n) = false := by simp; omega
            have gb2 : decide (best < n) = false := by simp; omega
            clear hbn
            go_wp2_with fail
            go_quiet (fail)
            clear hw1
            go_wp2
            go_roundw
            case rel => exact ⟨d + 1, best, far, _, by omega, by omega, by omega, by omega, by omega, rfl, rfl, by go_num, rfl, HN⟩
            case measure => (simp [intOf] <;> omega)
    · by_cases h255 : d ≤ D
      · have HR := Lib.hid (bestR_full' s at_ 130 D d best far (by omega) HI.out)
        have gd1 : (d : Int) ≤ 255 := by omega
        have gd1' : (d : Int) ≤ at_ := by omega
        have gd2 : decide ((best : Int) < 130) = false := by simp; omega
        have gd3 : decide (best < 130) = false := by simp; omega
        go_wp2
        go_ret2
        exact ⟨by cases HR.out; rfl, _, rfl⟩
      · have HR := Lib.hid (bestR_end s at_ 130 D d best far h255 HI.out)
        have gd2 : decide ((d : Int) ≤ at_) = false := by simp; omega
        have gd3 : decide (d ≤ at_) = false := by simp; omega
        go_wp2
        go_ret2
        exact ⟨by cases HR.out; rfl, _, rfl⟩

set_option maxRecDepth 100000 in
set_option maxHeartbeats 1000000 in
theorem reference_c (s : ByteArray) (at_ : Nat) (w : World) (hm1 : (s.size : Int) - at_ < 130) (hf1 : (255 : Int) ≤ at_) (hs : s.size ≤ 1048576) (hat : at_ < s.size) :
    Calls Try.prog 77 #[.string s, .int .i64 (at_ : Int)] w fun e w' => e = .returned (.tuple #[.int .i64 ((refer s at_).1 : Int), .int .i64 ((refer s at_).2 : Int)]) ∧ ∃ n, w' = w.drewN n := by
  have hM : mostAt s at_ = min 130 (s.size - at_) := rfl
  have HR0 := Lib.hid (show bestR s at_ (mostAt s at_) (farAt at_) 1 0 0 = refer s at_ from rfl)
  generalize hr : refer s at_ = R at HR0
  obtain ⟨r1, r2⟩ := R
  generalize mostAt s at_ = most at hM HR0
  have hF : farAt at_ = min 255 at_ := rfl
  generalize farAt at_ = D at hF HR0
  clear hr
  go_enter Try.func77, Try.ntmps77
  go_wp2
  go_loopw [7, 8, 9, 10] (fun bv fv dv _ wr => ∃ (d best far q : Nat), 1 ≤ d ∧ d ≤ 256 ∧ d ≤ at_ + 1 ∧ best ≤ 130 ∧ far ≤ 256 ∧ bv = .int .i64 best ∧ fv = .int .i64 far ∧ dv = .int .i64 d ∧ wr = w.drewN q ∧ Hid (bestR s at_ most D d best far = (r1, r2))) (fun _ _ dv _ _ => 300 - (intOf dv).toNat)
  case atStart => exact ⟨1, 0, 0, 0, by omega, by omega, by omega, by omega, by omega, rfl, rfl, rfl, rfl, HR0⟩
  case round =>
    obtain ⟨d, best, far, q, hd1, hd2, hd3, hb1, hf1, rfl, rfl, rfl, rfl, HI⟩ := hrel
    by_cases hdl : d ≤ D ∧ best < most
    · obtain ⟨i1, i2⟩ := hdl
      have hdD : d ≤ D := by omega
      have gd1 : (d : Int) ≤ 255 := by omega
      have gd1' : (d : Int) ≤ at_ := by omega
      have gd2 : (best : Int) < (s.size : Int) - at_ := by omega
      go_wp2
      go_loopw [10] (fun j wr' => ∃ n q' : Nat, n ≤ most ∧ at_ + n ≤ s.size ∧ j = .int .i64 n ∧ wr' = w.drewN q' ∧ Hid (mat s at_ d most n = ml s at_ d most)) (fun j _ => 130 - (intOf j).toNat)
      case atStart => exact ⟨0, q, by omega, by omega, rfl, rfl, Lib.hid rfl⟩
      case round =>
        obtain ⟨n, q', hn, hn2, rfl, rfl, HL⟩ := hrel
        have hw1 : IntKind.i64.wrap ((at_ : Int) + n) = (at_ : Int) + n := IntWalk.i64_in _ (by omega)
        by_cases hl2 : n < most
        · have hl3 : at_ + n < s.size := by omega
          have ea := bt_eq s (at_ + n) hl3
          have eb := bt_eq s (at_ + n - d) (by omega)
          have hba := bt_lt s (at_ + n)
          have hbb := bt_lt s (at_ + n - d)
          have k1 : (n : Int) < (s.size : Int) - at_ := by omega
          have k2 : (at_ : Int) + n < s.size := by omega
          have k3 : (0 : Int) ≤ (at_ : Int) + n := by omega
          have k4 : (0 : Int) ≤ (at_ : Int) + n - d := by omega
          have k5 : (at_ : Int) + n - d < s.size := by omega
          by_cases heq : bt s (at_ + n) = bt s (at_ + n - d)
          · have HN := Lib.hid ((mat_yes s at_ d most n (by omega) heq).symm.trans HL.out)
            have g1 : (((bt s (at_ + n) : Nat) : Int) == ((bt s (at_ + n - d) : Nat) : Int)) = true := by simp; omega
            have g2 : (bt s (at_ + n) == bt s (at_ + n - d)) = true := by simp; omega
            clear heq
            have hw2 : IntKind.i64.wrap ((at_ : Int) + n - d) = (at_ : Int) + n - d := IntWalk.i64_in _ (by omega)
            have hw3 : ((at_ : Int) + n).toNat = at_ + n := by omega
            have hw4 : ((at_ : Int) + n - d).toNat = at_ + n - d := by omega
            go_wp2_with fail
            go_quiet (fail)
            clear ea eb hw1 hw2 hw3 hw4
            go_wp2
            go_roundw
            case rel => exact ⟨n + 1, _, by omega, by omega, by go_num, rfl, HN⟩
            case measure => (simp [intOf] <;> omega)
          · have HD := Lib.hid ((mat_ne s at_ d most n heq).symm.trans HL.out)
            have g1 : (((bt s (at_ + n) : Nat) : Int) == ((bt s (at_ + n - d) : Nat) : Int)) = false := by simp; omega
            have g2 : (bt s (at_ + n) == bt s (at_ + n - d)) = false := by simp; omega
            clear heq
            have hw2 : IntKind.i64.wrap ((at_ : Int) + n - d) = (at_ : Int) + n - d := IntWalk.i64_in _ (by omega)
            have hw3 : ((at_ : Int) + n).toNat = at_ + n := by omega
            have hw4 : ((at_ : Int) + n - d).toNat = at_ + n - d := by omega
            rcases Nat.lt_or_ge best n with hbn | hbn
            · have HN := Lib.hid (bestR_better s at_ most D d best far hdD n HD.out hbn HI.out)
              have gb1 : (best : Int) < n := by omega
              go_wp2_with fail
              go_quiet (fail)
              clear ea eb hw1 hw2 hw3 hw4
              go_wp2
              go_roundw
              case rel => exact ⟨d + 1, n, d, _, by omega, by omega, by omega, by omega, by omega, rfl, rfl, by go_num, rfl, HN⟩
              case measure => (simp [intOf] <;> omega)
            · have HN := Lib.hid (bestR_not s at_ most D d best far hdD n HD.out (by omega) HI.out)
              have gb1 : decide ((best : Int) < n) = false := by simp; omega
              have gb2 : decide (best < n) = false := by simp; omega
              clear hbn
              go_wp2_with fail
              go_quiet (fail)
              clear ea eb hw1 hw2 hw3 hw4
              go_wp2
              go_roundw
              case rel => exact ⟨d + 1, best, far, _, by omega, by omega, by omega, by omega, by omega, rfl, rfl, by go_num, rfl, HN⟩
              case measure => (simp [intOf] <;> omega)
        · have HD := Lib.hid ((mat_end s at_ d most n (by omega)).symm.trans HL.out)
          have k1 : decide ((n : Int) < (s.size : Int) - at_) = false := by simp; omega
          have k2 : decide (n < s.size - at_) = false := by simp; omega
          rcases Nat.lt_or_ge best n with hbn | hbn
          · have HN := Lib.hid (bestR_better s at_ most D d best far hdD n HD.out hbn HI.out)
            have gb1 : (best : Int) < n := by omega
            go_wp2_with fail
            go_quiet (fail)
            clear hw1
            go_wp2
            go_roundw
            case rel => exact ⟨d + 1, n, d, _, by omega, by omega, by omega, by omega, by omega, rfl, rfl, by go_num, rfl, HN⟩
            case measure => (simp [intOf] <;> omega)
          · have HN := Lib.hid (bestR_not s at_ most D d best far hdD n HD.out (by omega) HI.out)
            have gb1 : decide ((best : Int) < n) = false := by simp; omega
            have gb2 : decide (best < n) = false := by simp; omega
            clear hbn
            go_wp2_with fail
            go_quiet (fail)
            clear hw1
            go_wp2
            go_roundw
            case rel => exact ⟨d + 1, best, far, _, by omega, by omega, by omega, by omega, by omega, rfl, rfl, by go_num, rfl, HN⟩
            case measure => (simp [intOf] <;> omega)
    · by_cases h255 : d ≤ D
      · have HR := Lib.hid (bestR_full' s at_ most D d best far (by omega) HI.out)
        have gd1 : (d : Int) ≤ 255 := by omega
        have gd1' : (d : Int) ≤ at_ := by omega
        have gd2 : decide ((best : Int) < (s.size : Int) - at_) = false := by simp; omega
        have gd3 : decide (best < s.size - at_) = false := by simp; omega
        go_wp2
        go_ret2
        exact ⟨by cases HR.out; rfl, _, rfl⟩
      · have HR := Lib.hid (bestR_end s at_ most D d best far h255 HI.out)
        have gd2 : decide ((d : Int) ≤ 255) = false := by simp; omega
        go_wp2
        go_ret2
        exact ⟨by cases HR.out; rfl, _, rfl⟩

set_option maxRecDepth 100000 in
set_option maxHeartbeats 1000000 in
theorem reference_d (s : ByteArray) (at_ : Nat) (w : World) (hm1 : (s.size : Int) - at_ < 130) (hf1 : (at_ : Int) < 255) (hs : s.size ≤ 1048576) (hat : at_ < s.size) :
    Calls Try.prog 77 #[.string s, .int .i64 (at_ : Int)] w fun e w' => e = .returned (.tuple #[.int .i64 ((refer s at_).1 : Int), .int .i64 ((refer s at_).2 : Int)]) ∧ ∃ n, w' = w.drewN n := by
  have hM : mostAt s at_ = min 130 (s.size - at_) := rfl
  have HR0 := Lib.hid (show bestR s at_ (mostAt s at_) (farAt at_) 1 0 0 = refer s at_ from rfl)
  generalize hr : refer s at_ = R at HR0
  obtain ⟨r1, r2⟩ := R
  generalize mostAt s at_ = most at hM HR0
  have hF : farAt at_ = min 255 at_ := rfl
  generalize farAt at_ = D at hF HR0
  clear hr
  go_enter Try.func77, Try.ntmps77
  go_wp2
  go_loopw [7, 8, 9, 10] (fun bv fv dv _ wr => ∃ (d best far q : Nat), 1 ≤ d ∧ d ≤ 256 ∧ d ≤ at_ + 1 ∧ best ≤ 130 ∧ far ≤ 256 ∧ bv = .int .i64 best ∧ fv = .int .i64 far ∧ dv = .int .i64 d ∧ wr = w.drewN q ∧ Hid (bestR s at_ most D d best far = (r1, r2))) (fun _ _ dv _ _ => 300 - (intOf dv).toNat)
  case atStart => exact ⟨1, 0, 0, 0, by omega, by omega, by omega, by omega, by omega, rfl, rfl, rfl, rfl, HR0⟩
  case round =>
    obtain ⟨d, best, far, q, hd1, hd2, hd3, hb1, hf1, rfl, rfl, rfl, rfl, HI⟩ := hrel
    by_cases hdl : d ≤ D ∧ best < most
    · obtain ⟨i1, i2⟩ := hdl
      have hdD : d ≤ D := by omega
      have gd1 : (d : Int) ≤ 255 := by omega
      have gd1' : (d : Int) ≤ at_ := by omega
      have gd2 : (best : Int) < (s.size : Int) - at_ := by omega
      go_wp2
      go_loopw [10] (fun j wr' => ∃ n q' : Nat, n ≤ most ∧ at_ + n ≤ s.size ∧ j = .int .i64 n ∧ wr' = w.drewN q' ∧ Hid (mat s at_ d most n = ml s at_ d most)) (fun j _ => 130 - (intOf j).toNat)
      case atStart => exact ⟨0, q, by omega, by omega, rfl, rfl, Lib.hid rfl⟩
      case round =>
        obtain ⟨n, q', hn, hn2, rfl, rfl, HL⟩ := hrel
        have hw1 : IntKind.i64.wrap ((at_ : Int) + n) = (at_ : Int) + n := IntWalk.i64_in _ (by omega)
        by_cases hl2 : n < most
        · have hl3 : at_ + n < s.size := by omega
          have ea := bt_eq s (at_ + n) hl3
          have eb := bt_eq s (at_ + n - d) (by omega)
          have hba := bt_lt s (at_ + n)
          have hbb := bt_lt s (at_ + n - d)
          have k1 : (n : Int) < (s.size : Int) - at_ := by omega
          have k2 : (at_ : Int) + n < s.size := by omega
          have k3 : (0 : Int) ≤ (at_ : Int) + n := by omega
          have k4 : (0 : Int) ≤ (at_ : Int) + n - d := by omega
          have k5 : (at_ : Int) + n - d < s.size := by omega
          by_cases heq : bt s (at_ + n) = bt s (at_ + n - d)
          · have HN := Lib.hid ((mat_yes s at_ d most n (by omega) heq).symm.trans HL.out)
            have g1 : (((bt s (at_ + n) : Nat) : Int) == ((bt s (at_ + n - d) : Nat) : Int)) = true := by simp; omega
            have g2 : (bt s (at_ + n) == bt s (at_ + n - d)) = true := by simp; omega
            clear heq
            have hw2 : IntKind.i64.wrap ((at_ : Int) + n - d) = (at_ : Int) + n - d := IntWalk.i64_in _ (by omega)
            have hw3 : ((at_ : Int) + n).toNat = at_ + n := by omega
            have hw4 : ((at_ : Int) + n - d).toNat = at_ + n - d := by omega
            go_wp2_with fail
            go_quiet (fail)
            clear ea eb hw1 hw2 hw3 hw4
            go_wp2
            go_roundw
            case rel => exact ⟨n + 1, _, by omega, by omega, by go_num, rfl, HN⟩
            case measure => (simp [intOf] <;> omega)
          · have HD := Lib.hid ((mat_ne s at_ d most n heq).symm.trans HL.out)
            have g1 : (((bt s (at_ + n) : Nat) : Int) == ((bt s (at_ + n - d) : Nat) : Int)) = false := by simp; omega
            have g2 : (bt s (at_ + n) == bt s (at_ + n - d)) = false := by simp; omega
            clear heq
            have hw2 : IntKind.i64.wrap ((at_ : Int) + n - d) = (at_ : Int) + n - d := IntWalk.i64_in _ (by omega)
            have hw3 : ((at_ : Int) + n).toNat = at_ + n := by omega
            have hw4 : ((at_ : Int) + n - d).toNat = at_ + n - d := by omega
            rcases Nat.lt_or_ge best n with hbn | hbn
            · have HN := Lib.hid (bestR_better s at_ most D d best far hdD n HD.out hbn HI.out)
              have gb1 : (best : Int) < n := by omega
              go_wp2_with fail
              go_quiet (fail)
              clear ea eb hw1 hw2 hw3 hw4
              go_wp2
              go_roundw
              case rel => exact ⟨d + 1, n, d, _, by omega, by omega, by omega, by omega, by omega, rfl, rfl, by go_num, rfl, HN⟩
              case measure => (simp [intOf] <;> omega)
            · have HN := Lib.hid (bestR_not s at_ most D d best far hdD n HD.out (by omega) HI.out)
              have gb1 : decide ((best : Int) < n) = false := by simp; omega
              have gb2 : decide (best < n) = false := by simp; omega
              clear hbn
              go_wp2_with fail
              go_quiet (fail)
              clear ea eb hw1 hw2 hw3 hw4
              go_wp2
              go_roundw
              case rel => exact ⟨d + 1, best, far, _, by omega, by omega, by omega, by omega, by omega, rfl, rfl, by go_num, rfl, HN⟩
              case measure => (simp [intOf] <;> omega)
        · have HD := Lib.hid ((mat_end s at_ d most n (by omega)).symm.trans HL.out)
          have k1 : decide ((n : Int) < (s.size : Int) - at_) = false := by simp; omega
          have k2 : decide (n < s.size - at_) = false := by simp; omega
          rcases Nat.lt_or_ge best n with hbn | hbn
          · have HN := Lib.hid (bestR_better s at_ most D d best far hdD n HD.out hbn HI.out)
            have gb1 : (best : Int) < n := by omega
            go_wp2_with fail
            go_quiet (fail)
            clear hw1
            go_wp2
            go_roundw
            case rel => exact ⟨d + 1, n, d, _, by omega, by omega, by omega, by omega, by omega, rfl, rfl, by go_num, rfl, HN⟩
            case measure => (simp [intOf] <;> omega)
          · have HN := Lib.hid (bestR_not s at_ most D d best far hdD n HD.out (by omega) HI.out)
            have gb1 : decide ((best : Int) < n) = false := by simp; omega
            have gb2 : decide (best < n) = false := by simp; omega
            clear hbn
            go_wp2_with fail
            go_quiet (fail)
            clear hw1
            go_wp2
            go_roundw
            case rel => exact ⟨d + 1, best, far, _, by omega, by omega, by omega, by omega, by omega, rfl, rfl, by go_num, rfl, HN⟩
            case measure => (simp [intOf] <;> omega)
    · by_cases h255 : d ≤ D
      · have HR := Lib.hid (bestR_full' s at_ most D d best far (by omega) HI.out)
        have gd1 : (d : Int) ≤ 255 := by omega
        have gd1' : (d : Int) ≤ at_ := by omega
        have gd2 : decide ((best : Int) < (s.size : Int) - at_) = false := by simp; omega
        have gd3 : decide (best < s.size - at_) = false := by simp; omega
        go_wp2
        go_ret2
        exact ⟨by cases HR.out; rfl, _, rfl⟩
      · have HR := Lib.hid (bestR_end s at_ most D d best far h255 HI.out)
        have gd2 : decide ((d : Int) ≤ at_) = false := by simp; omega
        have gd3 : decide (d ≤ at_) = false := by simp; omega
        go_wp2
        go_ret2
        exact ⟨by cases HR.out; rfl, _, rfl⟩

theorem reference_any (s : ByteArray) (at_ : Nat) (w : World) (hs : s.size ≤ 1048576) (hat : at_ < s.size) :
    Calls Try.prog 77 #[.string s, .int .i64 (at_ : Int)] w fun e w' => e = .returned (.tuple #[.int .i64 ((refer s at_).1 : Int), .int .i64 ((refer s at_).2 : Int)]) ∧ ∃ n, w' = w.drewN n := by
  by_cases h1 : (130 : Int) ≤ (s.size : Int) - at_
  · by_cases h2 : (255 : Int) ≤ at_
    · exact reference_a s at_ w h1 h2 hs hat
    · exact reference_b s at_ w h1 (by omega) hs hat
  · by_cases h2 : (255 : Int) ≤ at_
    · exact reference_c s at_ w (by omega) h2 hs hat
    · exact reference_d s at_ w (by omega) (by omega) hs hat
end Go.Proofs.Ytjahgknehamlpaa
namespace Go.Proofs.Ytjahgknehamlpaa
set_option linter.unusedVariables false
open Go.RowKit

theorem ext_take (t : ByteArray) (n : Nat) : (t.extract 0 n).data.toList = t.data.toList.take n := by
  have := seg_eq t 0 n
  unfold seg at this
  rw [this, List.drop_zero, Nat.sub_zero]
theorem ext_drop (t : ByteArray) (n : Nat) : (t.extract n t.size).data.toList = t.data.toList.drop n := by
  have := seg_eq t n t.size
  unfold seg at this
  rw [this, List.take_of_length_le]
  rw [List.length_drop, Array.length_toList]
  exact Nat.le_refl _
theorem extsz (s : ByteArray) (a b : Nat) (h : b ≤ s.size) : (s.extract a b).size = b - a := by
  rw [ByteArray.size_extract]
  omega
theorem size_list' (o : ByteArray) : o.data.toList.length = o.size := by rw [Array.length_toList]; rfl
theorem plL_chunk (t : ByteArray) (l R : List UInt8) (n : Nat) (h : 0 < t.size) (hn : n = min t.size 128) (hr : l ++ plL t.data.toList = R) :
    ((l ++ [UInt8.ofNat (n - 1)]) ++ (t.extract 0 n).data.toList) ++ plL (t.extract n t.size).data.toList = R := by
  have hl : t.data.toList.length = t.size := by rw [Array.length_toList]; rfl
  rw [plL_step t.data.toList n (by omega) (by rw [hl]; exact hn)] at hr
  rw [ext_take, ext_drop, ← hr]
  simp

end Go.Proofs.Ytjahgknehamlpaa
namespace Go.Proofs.Ytjahgknehamlpaa
set_option linter.unusedVariables false
open Go.RowKit

end Go.Proofs.Ytjahgknehamlpaa
namespace Go.Proofs.Ytjahgknehamlpaa
set_option linter.unusedVariables false
open Go.RowKit

theorem pl_step (s : ByteArray) (f to n : Nat) (l R : List UInt8) (h : f < to) (hto : to ≤ s.size) (hn : n = min (to - f) 128) (hr : l ++ plL (seg s f to) = R) :
    ((l ++ [UInt8.ofNat (n - 1)]) ++ (s.extract f (f + n)).data.toList) ++ plL (seg s (f + n) to) = R := by
  have hl := seg_length s f to hto
  rw [plL_step (seg s f to) n (by omega) (by rw [hl]; exact hn), seg_take s f to n (by omega), seg_drop s f to n (by omega)] at hr
  rw [← hr]
  simp [seg]

theorem own_slice {w : World} {base : Nat} {e : TypeId} {v : Value} {l : List UInt8} (h : OwnB w base e v l) : ∃ A m c, v = .slice A m c := by
  obtain ⟨A, c, h⟩ := OwnB.form h
  exact ⟨A, _, c, h⟩

/-- The cells that the closure shares with its maker. -/
def Shares (w : World) (bs bo bf : Nat) (s : ByteArray) (v : Value) (f : Nat) : Prop := Blk w bs 9 #[.string s] ∧ Blk w bo 22 #[v] ∧ Blk w bf 3 #[.int .i64 (f : Int)]

set_option maxRecDepth 100000 in
set_option maxHeartbeats 1000000 in
theorem flush_any (s : ByteArray) (bs bo bf f to : Nat) (out : List UInt8) (v : Value) (w : World) (base : Nat) (h1 : bs < bo) (h2 : bo < bf) (h3 : bf < base) (hbase : base ≤ w.heap.size)
    (hS : Shares w bs bo bf s v f) (hown : OwnB w base 5 v out) (hs : s.size ≤ 4096) (hol : out.length ≤ 100000) (hft : f ≤ to) (hto : to ≤ s.size) :
    Calls Try.prog 76 #[.int .i64 (to : Int), .pointer (some ⟨bf, 0, none⟩), .pointer (some ⟨bo, 0, none⟩), .pointer (some ⟨bs, 0, none⟩)] w fun e w' => e = .returned (.tuple #[]) ∧ ∃ v', Shares w' bs bo bf s v' to ∧ OwnB w' base 5 v' (out ++ plL (seg s f to)) ∧ Below bo w w' ∧ base ≤ w'.heap.size := by
  go_enter Try.func76, Try.ntmps76
  go_wp2
  go_loopw [5] (fun _ wr => ∃ (f' : Nat) (out' : List UInt8) (v' : Value), f ≤ f' ∧ f' ≤ to ∧ out'.length ≤ 100000 + 2 * (f' - f) ∧ Shares wr bs bo bf s v' f' ∧ OwnB wr base 5 v' out' ∧ Below bo w wr ∧ base ≤ wr.heap.size ∧ Hid (out' ++ plL (seg s f' to) = out ++ plL (seg s f to)))
    (fun _ wr => to - (match wr.cell? ⟨bf, 0, none⟩ with | some (.int _ n) => n.toNat | _ => 0))
  case atStart => exact ⟨f, out, v, by omega, hft, by omega, hS, hown, Below.refl _ _, hbase, Lib.hid rfl⟩
  case round =>
    obtain ⟨f', out', v', hf1, hf2, hol', ⟨hbs, hbo, hbf⟩, ho, hb, hbz, HI⟩ := hrel
    have cs := hbs.cell 0
    have co := hbo.cell 0
    have cf := hbf.cell 0
    simp only [List.getElem?_toArray, List.getElem?_cons_zero] at cs co cf
    have cf0 := cf
    have zo := hbo.frozen 0
    have zf := hbf.frozen 0
    by_cases hlt : f' < to
    · by_cases hmin : (to : Int) - f' ≤ 128
      · have HN := Lib.hid (pl_step s f' to (to - f') out' _ hlt hto (by omega) HI.out)
        have hn1 : 0 < (to - f') := by omega
        have hn2 : (to - f') ≤ 128 := by omega
        have hn3 : f' + (to - f') ≤ to := by omega
        have hn4 : f' + (to - f') ≤ s.size := by omega
        obtain ⟨e, hE⟩ : ∃ e : Nat, e = f' + (to - f') := ⟨_, rfl⟩
        rw [← hE] at HN
        have hw1 : IntKind.i64.wrap ((f' : Int) + ((to : Int) - f')) = (e : Int) := by rw [IntWalk.i64_in _ (by omega)]; omega
        have he1 : f' ≤ e := by omega
        have he2 : e ≤ s.size := by omega
        have he3 : (e : Int) ≤ s.size := by omega
        have hee := extsz s f' e he2
        have HE := Lib.hid hE
        clear hE
        have hne1 : ¬ bo = bf := by omega
        have hne2 : ¬ bf = bo := by omega
        go_wp2_with (first
          | fail
          | (at_builtin; go_must (refine wpList_appL rfl _ _ _ rfl eltB _ out' rfl ho _ _ [UInt8.ofNat ((to - f') - 1)] 1 1 rfl (impl_cells1 ((to - f') - 1) _ (by omega) (by omega)) rfl (by simp; omega) hbz ?_; intro v1 w2 ho1 hg1 hat1 hbl1; obtain ⟨A1, m1, c1, rfl⟩ := own_slice ho1; have hbs1 := hbs.below hbl1 (by omega); have hbo1 := hbo.below hbl1 (by omega); have hbf1 := hbf.below hbl1 h3; have co1 := hbo1.cell 0; simp only [List.getElem?_toArray, List.getElem?_cons_zero] at co1; have zo1 := hbo1.frozen 0)))
        have hbs2 := hbs1.far (p := ⟨bo, 0, none⟩) (by show bs ≠ bo; omega) (.slice A1 m1 c1)
        have hbo2 := hbo1.set_ 0 (.slice A1 m1 c1)
        have hbf2 := hbf1.far (p := ⟨bo, 0, none⟩) (by show bf ≠ bo; omega) (.slice A1 m1 c1)
        have ho2 : OwnB (w2.setCell ⟨bo, 0, none⟩ (.slice A1 m1 c1)) base 5 (.slice A1 m1 c1) (out' ++ [UInt8.ofNat ((to - f') - 1)]) := ownsRow_setCell_below ho1 (by show bo < base; omega) (.slice A1 m1 c1)
        have hb2 : Below bo w (w2.setCell ⟨bo, 0, none⟩ (.slice A1 m1 c1)) := (hb.trans (hbl1.mono (by omega))).setCell (p := ⟨bo, 0, none⟩) (Nat.le_refl bo) (.slice A1 m1 c1)
        have hbz2 : base ≤ (w2.setCell ⟨bo, 0, none⟩ (.slice A1 m1 c1)).heap.size := by rw [World.size_setCell]; exact Nat.le_trans hbz hbl1.size
        simp only [List.setIfInBounds_toArray, List.set_cons_zero] at hbo2
        clear hbs1 hbo1 hbf1 co1 zo1 ho1 hg1 hbl1 hbs hbo hbf cs co cf zo zf hb ho
        generalize w2.setCell ⟨bo, 0, none⟩ (.slice A1 m1 c1) = w3 at hbs2 hbo2 hbf2 ho2 hb2 hbz2 ⊢
        have cs := hbs2.cell 0
        have co := hbo2.cell 0
        have cf := hbf2.cell 0
        simp only [List.getElem?_toArray, List.getElem?_cons_zero] at cs co cf
        go_still_tail 7, (by kernel_rfl)
        change wpList _ _ _ _ _ w3.drew
        replace hbs2 := hbs2.drew
        replace hbo2 := hbo2.drew
        replace hbf2 := hbf2.drew
        replace ho2 : OwnB w3.drew base 5 (.slice A1 m1 c1) (out' ++ [UInt8.ofNat ((to - f') - 1)]) := ho2
        replace hb2 := hb2.drew
        replace hbz2 : base ≤ w3.drew.heap.size := hbz2
        clear cs co cf
        generalize w3.drew = w4 at hbs2 hbo2 hbf2 ho2 hb2 hbz2 ⊢
        refine wpList_appS rfl _ _ _ _ rfl eltB Try.underlying9 _ (out' ++ [UInt8.ofNat ((to - f') - 1)]) rfl ho2 (s.extract f' e) rfl (by rw [hee]; simp; omega) hbz2 ?_
        intro v2 w5 ho3 hg3 hat3 hbl3
        obtain ⟨A2, m2, c2, rfl⟩ := own_slice ho3
        have hbs3 := hbs2.below hbl3 (by omega)
        have hbo3 := hbo2.below hbl3 (by omega)
        have hbf3 := hbf2.below hbl3 h3
        have co := hbo3.cell 0
        have cf := hbf3.cell 0
        simp only [List.getElem?_toArray, List.getElem?_cons_zero] at co cf
        have zo := hbo3.frozen 0
        have zf := hbf3.frozen 0
        go_wp2
        have hw6a := (hbs3.far (p := ⟨bo, 0, none⟩) (by show bs ≠ bo; omega) (.slice A2 m2 c2)).far (p := ⟨bf, 0, none⟩) (by show bs ≠ bf; omega) (.int .i64 (e : Int))
        have hw6b := (hbo3.set_ 0 (.slice A2 m2 c2)).far (p := ⟨bf, 0, none⟩) (by show bo ≠ bf; omega) (.int .i64 (e : Int))
        have hw6c := (hbf3.far (p := ⟨bo, 0, none⟩) (by show bf ≠ bo; omega) (.slice A2 m2 c2)).set_ 0 (.int .i64 (e : Int))
        simp only [List.setIfInBounds_toArray, List.set_cons_zero] at hw6b hw6c
        have ho6 := ownsRow_setCell_below (a := ⟨bf, 0, none⟩) (ownsRow_setCell_below (a := ⟨bo, 0, none⟩) ho3 (by show bo < base; omega) (.slice A2 m2 c2)) (by show bf < base; omega) (.int .i64 (e : Int))
        have hb6 := ((hb2.trans (hbl3.mono (by omega))).setCell (p := ⟨bo, 0, none⟩) (Nat.le_refl bo) (.slice A2 m2 c2)).setCell (p := ⟨bf, 0, none⟩) (by show bo ≤ bf; omega) (.int .i64 (e : Int))
        have hz6 : base ≤ ((w5.setCell ⟨bo, 0, none⟩ (.slice A2 m2 c2)).setCell ⟨bf, 0, none⟩ (.int .i64 (e : Int))).heap.size := by rw [World.size_setCell, World.size_setCell]; exact Nat.le_trans hbz2 hbl3.size
        have hc6 := hw6c.cell 0
        simp only [List.getElem?_toArray, List.getElem?_cons_zero] at hc6
        have hle : e ≤ to := by have := HE.out; omega
        have hl6 : ((out' ++ [UInt8.ofNat ((to - f') - 1)]) ++ (s.extract f' e).data.toList).length ≤ 100000 + 2 * (e - f) := by
          rw [List.length_append, List.length_append, size_list', hee, List.length_singleton]
          have := HE.out
          omega
        go_roundw
        case rel => exact ⟨e, _, _, by omega, hle, hl6, ⟨hw6a, hw6b, hw6c⟩, ho6, hb6, hz6, HN⟩
        case measure =>
          have := HE.out
          simp only [hc6, cf0, Int.toNat_natCast]
          omega
      · have HN := Lib.hid (pl_step s f' to 128 out' _ hlt hto (by omega) HI.out)
        have hn1 : 0 < 128 := by omega
        have hn2 : 128 ≤ 128 := by omega
        have hn3 : f' + 128 ≤ to := by omega
        have hn4 : f' + 128 ≤ s.size := by omega
        obtain ⟨e, hE⟩ : ∃ e : Nat, e = f' + 128 := ⟨_, rfl⟩
        rw [← hE] at HN
        have hw1 : IntKind.i64.wrap ((f' : Int) + 128) = (e : Int) := by rw [IntWalk.i64_in _ (by omega)]; omega
        have he1 : f' ≤ e := by omega
        have he2 : e ≤ s.size := by omega
        have he3 : (e : Int) ≤ s.size := by omega
        have hee := extsz s f' e he2
        have HE := Lib.hid hE
        clear hE
        have hne1 : ¬ bo = bf := by omega
        have hne2 : ¬ bf = bo := by omega
        go_wp2_with (first
          | fail
          | (at_builtin; go_must (refine wpList_appL rfl _ _ _ rfl eltB _ out' rfl ho _ _ [UInt8.ofNat (128 - 1)] 1 1 rfl (impl_cells1 (128 - 1) _ (by omega) (by omega)) rfl (by simp; omega) hbz ?_; intro v1 w2 ho1 hg1 hat1 hbl1; obtain ⟨A1, m1, c1, rfl⟩ := own_slice ho1; have hbs1 := hbs.below hbl1 (by omega); have hbo1 := hbo.below hbl1 (by omega); have hbf1 := hbf.below hbl1 h3; have co1 := hbo1.cell 0; simp only [List.getElem?_toArray, List.getElem?_cons_zero] at co1; have zo1 := hbo1.frozen 0)))
        have hbs2 := hbs1.far (p := ⟨bo, 0, none⟩) (by show bs ≠ bo; omega) (.slice A1 m1 c1)
        have hbo2 := hbo1.set_ 0 (.slice A1 m1 c1)
        have hbf2 := hbf1.far (p := ⟨bo, 0, none⟩) (by show bf ≠ bo; omega) (.slice A1 m1 c1)
        have ho2 : OwnB (w2.setCell ⟨bo, 0, none⟩ (.slice A1 m1 c1)) base 5 (.slice A1 m1 c1) (out' ++ [UInt8.ofNat (128 - 1)]) := ownsRow_setCell_below ho1 (by show bo < base; omega) (.slice A1 m1 c1)
        have hb2 : Below bo w (w2.setCell ⟨bo, 0, none⟩ (.slice A1 m1 c1)) := (hb.trans (hbl1.mono (by omega))).setCell (p := ⟨bo, 0, none⟩) (Nat.le_refl bo) (.slice A1 m1 c1)
        have hbz2 : base ≤ (w2.setCell ⟨bo, 0, none⟩ (.slice A1 m1 c1)).heap.size := by rw [World.size_setCell]; exact Nat.le_trans hbz hbl1.size
        simp only [List.setIfInBounds_toArray, List.set_cons_zero] at hbo2
        clear hbs1 hbo1 hbf1 co1 zo1 ho1 hg1 hbl1 hbs hbo hbf cs co cf zo zf hb ho
        generalize w2.setCell ⟨bo, 0, none⟩ (.slice A1 m1 c1) = w3 at hbs2 hbo2 hbf2 ho2 hb2 hbz2 ⊢
        have cs := hbs2.cell 0
        have co := hbo2.cell 0
        have cf := hbf2.cell 0
        simp only [List.getElem?_toArray, List.getElem?_cons_zero] at cs co cf
        go_still_tail 7, (by kernel_rfl)
        change wpList _ _ _ _ _ w3.drew
        replace hbs2 := hbs2.drew
        replace hbo2 := hbo2.drew
        replace hbf2 := hbf2.drew
        replace ho2 : OwnB w3.drew base 5 (.slice A1 m1 c1) (out' ++ [UInt8.ofNat (128 - 1)]) := ho2
        replace hb2 := hb2.drew
        replace hbz2 : base ≤ w3.drew.heap.size := hbz2
        clear cs co cf
        generalize w3.drew = w4 at hbs2 hbo2 hbf2 ho2 hb2 hbz2 ⊢
        refine wpList_appS rfl _ _ _ _ rfl eltB Try.underlying9 _ (out' ++ [UInt8.ofNat (128 - 1)]) rfl ho2 (s.extract f' e) rfl (by rw [hee]; simp; omega) hbz2 ?_
        intro v2 w5 ho3 hg3 hat3 hbl3
        obtain ⟨A2, m2, c2, rfl⟩ := own_slice ho3
        have hbs3 := hbs2.below hbl3 (by omega)
        have hbo3 := hbo2.below hbl3 (by omega)
        have hbf3 := hbf2.below hbl3 h3
        have co := hbo3.cell 0
        have cf := hbf3.cell 0
        simp only [List.getElem?_toArray, List.getElem?_cons_zero] at co cf
        have zo := hbo3.frozen 0
        have zf := hbf3.frozen 0
        go_wp2
        have hw6a := (hbs3.far (p := ⟨bo, 0, none⟩) (by show bs ≠ bo; omega) (.slice A2 m2 c2)).far (p := ⟨bf, 0, none⟩) (by show bs ≠ bf; omega) (.int .i64 (e : Int))
        have hw6b := (hbo3.set_ 0 (.slice A2 m2 c2)).far (p := ⟨bf, 0, none⟩) (by show bo ≠ bf; omega) (.int .i64 (e : Int))
        have hw6c := (hbf3.far (p := ⟨bo, 0, none⟩) (by show bf ≠ bo; omega) (.slice A2 m2 c2)).set_ 0 (.int .i64 (e : Int))
        simp only [List.setIfInBounds_toArray, List.set_cons_zero] at hw6b hw6c
        have ho6 := ownsRow_setCell_below (a := ⟨bf, 0, none⟩) (ownsRow_setCell_below (a := ⟨bo, 0, none⟩) ho3 (by show bo < base; omega) (.slice A2 m2 c2)) (by show bf < base; omega) (.int .i64 (e : Int))
        have hb6 := ((hb2.trans (hbl3.mono (by omega))).setCell (p := ⟨bo, 0, none⟩) (Nat.le_refl bo) (.slice A2 m2 c2)).setCell (p := ⟨bf, 0, none⟩) (by show bo ≤ bf; omega) (.int .i64 (e : Int))
        have hz6 : base ≤ ((w5.setCell ⟨bo, 0, none⟩ (.slice A2 m2 c2)).setCell ⟨bf, 0, none⟩ (.int .i64 (e : Int))).heap.size := by rw [World.size_setCell, World.size_setCell]; exact Nat.le_trans hbz2 hbl3.size
        have hc6 := hw6c.cell 0
        simp only [List.getElem?_toArray, List.getElem?_cons_zero] at hc6
        have hle : e ≤ to := by have := HE.out; omega
        have hl6 : ((out' ++ [UInt8.ofNat (128 - 1)]) ++ (s.extract f' e).data.toList).length ≤ 100000 + 2 * (e - f) := by
          rw [List.length_append, List.length_append, size_list', hee, List.length_singleton]
          have := HE.out
          omega
        go_roundw
        case rel => exact ⟨e, _, _, by omega, hle, hl6, ⟨hw6a, hw6b, hw6c⟩, ho6, hb6, hz6, HN⟩
        case measure =>
          have := HE.out
          simp only [hc6, cf0, Int.toNat_natCast]
          omega
    · obtain rfl : f' = to := by omega
      have hsn : seg s f' f' = [] := List.eq_nil_of_length_eq_zero (by rw [seg_length s _ _ hto]; omega)
      have HR := Lib.hid (show out' = out ++ plL (seg s f f') from by rw [← HI.out, hsn, plL_nil, List.append_nil])
      go_wp2
      go_end0
      exact ⟨rfl, v', ⟨hbs, hbo, hbf⟩, by rw [← HR.out]; exact ho, hb, hbz⟩
end Go.Proofs.Ytjahgknehamlpaa
namespace Go.Proofs.Ytjahgknehamlpaa
set_option linter.unusedVariables false
open Go.RowKit

set_option maxRecDepth 100000 in
set_option maxHeartbeats 1000000 in
theorem packBytes_any (s : ByteArray) (w : World) (hs : s.size ≤ 4096) :
    Calls Try.prog 50 #[.string s] w fun e w' => e = .returned (.string ⟨(pbG s 0 0 []).toArray⟩) ∧ Below w.heap.size w w' := by
  go_enter Try.func50, Try.ntmps50
  go_wp2
  go_loopw [6, 7, 8] (fun av _ _ wr => ∃ (at_ from_ : Nat) (out : List UInt8) (v : Value), from_ ≤ at_ ∧ at_ ≤ s.size ∧ out.length ≤ 2 * from_ ∧ av = .int .i64 at_ ∧ Shares wr w.heap.size (w.heap.size + 1) (w.heap.size + 2) s v from_ ∧ OwnB wr (w.heap.size + 3) 5 v out ∧ Below w.heap.size w wr ∧ w.heap.size + 3 ≤ wr.heap.size ∧ Hid (pbG s at_ from_ out = pbG s 0 0 []))
    (fun av _ _ _ => s.size - (intOf av).toNat)
  case atStart =>
    have k1 := ((Blk.new w 9 #[.string s]).alloc (Obj.cells #[Value.slice none 0 0] 22)).alloc (Obj.cells #[Value.int IntKind.i64 0] 3)
    have k2 := (Blk.new (w.alloc (Obj.cells #[Value.string s] 9)) 22 #[.slice none 0 0]).alloc (Obj.cells #[Value.int IntKind.i64 0] 3)
    have k3 := Blk.new ((w.alloc (Obj.cells #[Value.string s] 9)).alloc (Obj.cells #[Value.slice none 0 0] 22)) 3 #[.int .i64 0]
    simp only [World.size_alloc] at k2 k3
    exact ⟨0, 0, [], _, by omega, by omega, by simp, rfl, ⟨k1, k2, k3⟩, OwnB.nil _ _ _, below_alloc (below_alloc (below_alloc (Below.refl _ _) _) _) _, by simp only [World.size_alloc]; omega, Lib.hid rfl⟩
  case round =>
    obtain ⟨at_, from_, out, v, hfa, has, hol, rfl, hS, hown, hb, hbz, HI⟩ := hrel
    obtain ⟨hbs, hbo, hbf⟩ := id hS
    have cs := hbs.cell 0
    have co := hbo.cell 0
    have cf := hbf.cell 0
    simp only [List.getElem?_toArray, List.getElem?_cons_zero] at cs co cf
    have hpl := plL_len (at_ - from_) (seg s from_ at_) (by rw [seg_length s _ _ has]; exact Nat.le_refl _)
    rw [seg_length s _ _ has] at hpl
    by_cases hlt : at_ < s.size
    · have hrb := refer_bd s at_
      have hM : mostAt s at_ = min 130 (s.size - at_) := rfl
      have hF : farAt at_ = min 255 at_ := rfl
      have hcall := fun W => reference_any s at_ W (by omega) hlt
      obtain ⟨n, d, hr⟩ : ∃ n d, refer s at_ = (n, d) := ⟨_, _, rfl⟩
      have HRF := Lib.hid hr
      rw [hr] at hrb hcall
      simp only at hrb hcall
      clear hr
      by_cases h3 : n < 3
      · have HN := Lib.hid (pbG_skip s at_ from_ out _ hlt n d HRF.out h3 HI.out)
        have g1 : (n : Int) < 3 := by omega
        go_wp2_with (first | (go_at_call 77; refine (hcall _).mono ?_; rintro e w1 ⟨rfl, q1, rfl⟩))
        go_roundw
        case rel => exact ⟨at_ + 1, from_, out, v, by omega, by omega, hol, by go_num, ⟨hbs.drewN _, hbo.drewN _, hbf.drewN _⟩, hown.drewN _, below_drewN hb _, hbz, HN⟩
        case measure => (simp [intOf] <;> omega)
      · have HN := Lib.hid (pbG_ref s at_ from_ out _ hlt n d HRF.out h3 HI.out)
        go_wp2_with (first
          | (go_at_call 77; refine (hcall _).mono ?_; rintro e w1 ⟨rfl, q1, rfl⟩)
          | (go_at_call 76; go_must (refine (flush_any s w.heap.size (w.heap.size + 1) (w.heap.size + 2) from_ at_ out v _ (w.heap.size + 3) (by omega) (by omega) (by omega) (by exact hbz) ⟨hbs.drewN _, hbo.drewN _, hbf.drewN _⟩ (hown.drewN _) hs (by omega) hfa has).mono ?_); rintro e w2 ⟨rfl, v2, ⟨hbs2, hbo2, hbf2⟩, ho2, hb2, hz2⟩; have co2 := hbo2.cell 0; simp only [List.getElem?_toArray, List.getElem?_cons_zero] at co2)
          | (at_builtin; go_must (refine wpList_appL rfl _ _ _ rfl eltB _ (out ++ plL (seg s from_ at_)) rfl ho2 _ _ [UInt8.ofNat (n + 125), UInt8.ofNat d] 2 2 rfl (impl_cells2 (n + 125) d _ _ (by omega) (by omega) (by omega) (by omega)) rfl (by rw [List.length_append]; simp; omega) hz2 ?_); intro v3 w3 ho3 hg3 hat3 hbl3; obtain ⟨A3, m3, c3, rfl⟩ := own_slice ho3; have hbs3 := hbs2.below hbl3 (by omega); have hbo3 := hbo2.below hbl3 (by omega); have hbf3 := hbf2.below hbl3 (by omega); have co3 := hbo3.cell 0; have cf3 := hbf3.cell 0; simp only [List.getElem?_toArray, List.getElem?_cons_zero] at co3 cf3; have zo3 := hbo3.frozen 0; have zf3 := hbf3.frozen 0))
        have hz3 := hbl3.size
        have hbs4 := (hbs3.far (p := ⟨w.heap.size + 1, 0, none⟩) (by show w.heap.size ≠ w.heap.size + 1; omega) (.slice A3 m3 c3)).far (p := ⟨w.heap.size + 2, 0, none⟩) (by show w.heap.size ≠ w.heap.size + 2; omega) (.int .i64 ((at_ : Int) + n))
        have hbo4 := (hbo3.set_ 0 (.slice A3 m3 c3)).far (p := ⟨w.heap.size + 2, 0, none⟩) (by show w.heap.size + 1 ≠ w.heap.size + 2; omega) (.int .i64 ((at_ : Int) + n))
        have hbf4 := (hbf3.far (p := ⟨w.heap.size + 1, 0, none⟩) (by show w.heap.size + 2 ≠ w.heap.size + 1; omega) (.slice A3 m3 c3)).set_ 0 (.int .i64 ((at_ : Int) + n))
        simp only [List.setIfInBounds_toArray, List.set_cons_zero] at hbo4 hbf4
        have ho4 := ownsRow_setCell_below (a := ⟨w.heap.size + 2, 0, none⟩) (ownsRow_setCell_below (a := ⟨w.heap.size + 1, 0, none⟩) ho3 (by show w.heap.size + 1 < w.heap.size + 3; omega) (.slice A3 m3 c3)) (by show w.heap.size + 2 < w.heap.size + 3; omega) (.int .i64 ((at_ : Int) + n))
        have hb4 := (((((below_drewN hb q1).trans (hb2.mono (by omega))).trans (hbl3.mono (by omega))).setCell (p := ⟨w.heap.size + 1, 0, none⟩) (by show w.heap.size ≤ w.heap.size + 1; omega) (.slice A3 m3 c3)).setCell (p := ⟨w.heap.size + 2, 0, none⟩) (by show w.heap.size ≤ w.heap.size + 2; omega) (.int .i64 ((at_ : Int) + n)))
        have hz4 : w.heap.size + 3 ≤ ((w3.setCell ⟨w.heap.size + 1, 0, none⟩ (.slice A3 m3 c3)).setCell ⟨w.heap.size + 2, 0, none⟩ (.int .i64 ((at_ : Int) + n))).heap.size := by rw [World.size_setCell, World.size_setCell]; omega
        have hl4 : ((out ++ plL (seg s from_ at_)) ++ [UInt8.ofNat (n + 125), UInt8.ofNat d]).length ≤ 2 * (at_ + n) := by
          simp only [List.length_append, List.length_cons, List.length_nil]
          omega
        have hcast : ((at_ : Int) + n) = ((at_ + n : Nat) : Int) := by omega
        go_roundw
        case rel => exact ⟨at_ + n, at_ + n, _, _, by omega, by omega, hl4, by go_num, ⟨hbs4, hbo4, by rw [← hcast]; exact hbf4⟩, ho4, hb4, hz4, HN⟩
        case measure => (simp [intOf] <;> omega)
    · have hat : at_ = s.size := by omega
      have HR := Lib.hid (pbG_end s at_ from_ out _ hlt HI.out)
      have hpl2 := plL_len (s.size - from_) (seg s from_ s.size) (by rw [seg_length s _ _ (Nat.le_refl _)]; exact Nat.le_refl _)
      go_wp2_with (first
        | (go_at_call 76; go_must (refine (flush_any s w.heap.size (w.heap.size + 1) (w.heap.size + 2) from_ s.size out v _ (w.heap.size + 3) (by omega) (by omega) (by omega) hbz hS hown hs (by omega) (by omega) (Nat.le_refl _)).mono ?_); rintro e w2 ⟨rfl, v2, ⟨hbs2, hbo2, hbf2⟩, ho2, hb2, hz2⟩; obtain ⟨A2, m2, c2, rfl⟩ := own_slice ho2; have co2 := hbo2.cell 0; simp only [List.getElem?_toArray, List.getElem?_cons_zero] at co2; have hcv := run_b2s (P := Try.prog) (dst := 9) Try.underlying22 Try.underlying5 Try.underlying9 ho2))
      go_ret
      exact ⟨congrArg (fun o : List UInt8 => Ending.returned (.string ⟨o.toArray⟩)) HR.out.symm, hb.trans (hb2.mono (by omega))⟩

set_option maxHeartbeats 400000 in
theorem impl_PackBytes_any (s : ByteArray) (w : World) (hs : s.size ≤ maxLen) :
    Calls Try.prog 17 #[.string s] w fun e w' => e = .returned (resB (packB s)) ∧ Below w.heap.size w w' := by
  unfold maxLen at hs
  by_cases h : 4096 < s.size
  · have HR := Lib.hid (packB_no s h)
    go_enter Try.func17, Try.ntmps17
    go_wp2
    go_ret2
    exact ⟨by rw [HR.out]; rfl, Below.refl _ _⟩
  · have HR := Lib.hid (packB_yes s h)
    go_enter Try.func17, Try.ntmps17
    go_wp2_with (first | (go_at_call 50; refine (packBytes_any s _ (by omega)).mono ?_; rintro e w2 ⟨rfl, hx⟩))
    go_ret2
    exact ⟨by rw [HR.out]; rfl, hx⟩
end Go.Proofs.Ytjahgknehamlpaa
