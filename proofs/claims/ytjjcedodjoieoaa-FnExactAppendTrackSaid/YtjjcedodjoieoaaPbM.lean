/- Plain functions: packing with references. -/
import Derived.Test.YtjjcedodjoieoaaPkM
import Derived.Test.YtjjcedodjoieoaaDelM
namespace Go.Proofs.Ytjjcedodjoieoaa
open Go.RowKit
set_option linter.unusedVariables false

/-- How far the text from at_ on equals the text d bytes before it: from n on, at most 'most'. -/
def mat (s : ByteArray) (at_ d most n : Nat) : Nat := if h : n < most ∧ bt s (at_ + n) = bt s (at_ + n - d) then mat s at_ d most (n + 1) else n
termination_by most - n
theorem mat_yes (s : ByteArray) (at_ d most n : Nat) (h : n < most) (he : bt s (at_ + n) = bt s (at_ + n - d)) : mat s at_ d most n = mat s at_ d most (n + 1) := by rw [mat, dif_pos ⟨h, he⟩]
theorem mat_ne (s : ByteArray) (at_ d most n : Nat) (he : ¬ bt s (at_ + n) = bt s (at_ + n - d)) : mat s at_ d most n = n := by rw [mat, dif_neg (fun h => he h.2)]
theorem mat_end (s : ByteArray) (at_ d most n : Nat) (h : ¬ n < most) : mat s at_ d most n = n := by rw [mat, dif_neg (fun h' => h h'.1)]
theorem mat_le (s : ByteArray) (at_ d most : Nat) : ∀ f n, most - n ≤ f → n ≤ most → n ≤ mat s at_ d most n ∧ mat s at_ d most n ≤ most
  | 0, n, h, hn => by rw [mat_end s at_ d most n (by omega)]; omega
  | f + 1, n, h, hn => by
    by_cases hlt : n < most
    · by_cases he : bt s (at_ + n) = bt s (at_ + n - d)
      · have := mat_le s at_ d most f (n + 1) (by omega) (by omega)
        rw [mat_yes s at_ d most n hlt he]
        omega
      · rw [mat_ne s at_ d most n he]; omega
    · rw [mat_end s at_ d most n hlt]; omega
def ml (s : ByteArray) (at_ d most : Nat) : Nat := mat s at_ d most 0
theorem ml_le (s : ByteArray) (at_ d most : Nat) : ml s at_ d most ≤ most := (mat_le s at_ d most most 0 (by omega) (by omega)).2

/-- The best of the distances d .. D. -/
def bestR (s : ByteArray) (at_ most D d best far : Nat) : Nat × Nat :=
  if h : d ≤ D then (if best < ml s at_ d most then bestR s at_ most D (d + 1) (ml s at_ d most) d else bestR s at_ most D (d + 1) best far) else (best, far)
termination_by D + 1 - d
theorem bestR_end (s : ByteArray) (at_ most D d best far : Nat) {R : Nat × Nat} (h : ¬ d ≤ D) (hr : bestR s at_ most D d best far = R) : R = (best, far) := by
  rw [bestR, dif_neg h] at hr
  exact hr.symm
theorem bestR_better (s : ByteArray) (at_ most D d best far : Nat) {R : Nat × Nat} (h : d ≤ D) (n : Nat) (hn : n = ml s at_ d most) (hb : best < n) (hr : bestR s at_ most D d best far = R) : bestR s at_ most D (d + 1) n d = R := by
  subst hn
  rw [bestR, dif_pos h, if_pos hb] at hr
  exact hr
theorem bestR_not (s : ByteArray) (at_ most D d best far : Nat) {R : Nat × Nat} (h : d ≤ D) (n : Nat) (hn : n = ml s at_ d most) (hb : ¬ best < n) (hr : bestR s at_ most D d best far = R) : bestR s at_ most D (d + 1) best far = R := by
  subst hn
  rw [bestR, dif_pos h, if_neg hb] at hr
  exact hr
theorem bestR_full (s : ByteArray) (at_ most D : Nat) : ∀ f d best far, D + 1 - d ≤ f → most ≤ best → bestR s at_ most D d best far = (best, far)
  | 0, d, best, far, h, hb => by rw [bestR, dif_neg (by omega)]
  | f + 1, d, best, far, h, hb => by
    by_cases hd : d ≤ D
    · have := ml_le s at_ d most
      rw [bestR, dif_pos hd, if_neg (by omega)]
      exact bestR_full s at_ most D f (d + 1) best far (by omega) hb
    · rw [bestR, dif_neg hd]
theorem bestR_full' (s : ByteArray) (at_ most D d best far : Nat) {R : Nat × Nat} (h : ¬ best < most) (hr : bestR s at_ most D d best far = R) : R = (best, far) := by
  rw [bestR_full s at_ most D (D + 1) d best far (by omega) (by omega)] at hr
  exact hr.symm
theorem bestR_bd (s : ByteArray) (at_ most D : Nat) : ∀ f d best far, D + 1 - d ≤ f → best ≤ most → far ≤ D → (bestR s at_ most D d best far).1 ≤ most ∧ (bestR s at_ most D d best far).2 ≤ D
  | 0, d, best, far, h, hb, hf => by rw [bestR, dif_neg (by omega)]; exact ⟨hb, hf⟩
  | f + 1, d, best, far, h, hb, hf => by
    by_cases hd : d ≤ D
    · have := ml_le s at_ d most
      rw [bestR, dif_pos hd]
      split
      · exact bestR_bd s at_ most D f (d + 1) _ d (by omega) this hd
      · exact bestR_bd s at_ most D f (d + 1) best far (by omega) hb hf
    · rw [bestR, dif_neg hd]; exact ⟨hb, hf⟩
def mostAt (s : ByteArray) (at_ : Nat) : Nat := min 130 (s.size - at_)
def farAt (at_ : Nat) : Nat := min 255 at_
def refer (s : ByteArray) (at_ : Nat) : Nat × Nat := bestR s at_ (mostAt s at_) (farAt at_) 1 0 0
theorem refer_bd (s : ByteArray) (at_ : Nat) : (refer s at_).1 ≤ mostAt s at_ ∧ (refer s at_).2 ≤ farAt at_ := bestR_bd s at_ _ _ (farAt at_ + 1) 1 0 0 (by omega) (by omega) (by omega)

/-- Bytes that stand for themselves. -/
def plL (l : List UInt8) : List UInt8 := if h : l = [] then [] else UInt8.ofNat (min l.length 128 - 1) :: (l.take (min l.length 128) ++ plL (l.drop (min l.length 128)))
termination_by l.length
decreasing_by
  have : 0 < l.length := List.length_pos_iff.2 h
  rw [List.length_drop]
  omega
theorem plL_nil : plL [] = [] := by rw [plL, dif_pos rfl]
theorem plL_step (l : List UInt8) (n : Nat) (h : 0 < l.length) (hn : n = min l.length 128) : plL l = UInt8.ofNat (n - 1) :: (l.take n ++ plL (l.drop n)) := by
  subst hn
  have : l ≠ [] := List.length_pos_iff.1 h
  rw [plL, dif_neg this]
theorem plL_len : ∀ (f : Nat) (l : List UInt8), l.length ≤ f → (plL l).length ≤ 2 * l.length
  | 0, l, h => by
    have : l = [] := List.eq_nil_of_length_eq_zero (by omega)
    subst this
    rw [plL_nil]
    simp
  | f + 1, l, h => by
    by_cases h0 : 0 < l.length
    · have := plL_len f (l.drop (min l.length 128)) (by rw [List.length_drop]; omega)
      rw [plL_step l _ h0 rfl, List.length_cons, List.length_append, List.length_take]
      rw [List.length_drop] at this
      omega
    · have : l = [] := List.eq_nil_of_length_eq_zero (by omega)
      subst this
      rw [plL_nil]
      simp

/-- Packed from at_ on; from 'from_' on nothing is written yet. -/
def pbG (s : ByteArray) (at_ from_ : Nat) (out : List UInt8) : List UInt8 :=
  if h : at_ < s.size then
    (if h3 : (refer s at_).1 < 3 then pbG s (at_ + 1) from_ out
     else pbG s (at_ + (refer s at_).1) (at_ + (refer s at_).1) (out ++ plL (seg s from_ at_) ++ [UInt8.ofNat ((refer s at_).1 + 125), UInt8.ofNat (refer s at_).2]))
  else out ++ plL (seg s from_ s.size)
termination_by s.size - at_
theorem pbG_end (s : ByteArray) (at_ from_ : Nat) (out R : List UInt8) (h : ¬ at_ < s.size) (hr : pbG s at_ from_ out = R) : R = out ++ plL (seg s from_ s.size) := by
  rw [pbG, dif_neg h] at hr
  exact hr.symm
theorem pbG_skip (s : ByteArray) (at_ from_ : Nat) (out R : List UInt8) (h : at_ < s.size) (n d : Nat) (hnd : refer s at_ = (n, d)) (h3 : n < 3) (hr : pbG s at_ from_ out = R) : pbG s (at_ + 1) from_ out = R := by
  rw [pbG, dif_pos h, hnd, dif_pos h3] at hr
  exact hr
theorem pbG_ref (s : ByteArray) (at_ from_ : Nat) (out R : List UInt8) (h : at_ < s.size) (n d : Nat) (hnd : refer s at_ = (n, d)) (h3 : ¬ n < 3) (hr : pbG s at_ from_ out = R) :
    pbG s (at_ + n) (at_ + n) ((out ++ plL (seg s from_ at_)) ++ [UInt8.ofNat (n + 125), UInt8.ofNat d]) = R := by
  rw [pbG, dif_pos h, hnd, dif_neg h3] at hr
  exact hr
def packB (s : ByteArray) : Option (List UInt8) := if 4096 < s.size then none else some (pbG s 0 0 [])
theorem packB_no (s : ByteArray) (h : 4096 < s.size) : packB s = none := if_pos h
theorem packB_yes (s : ByteArray) (h : ¬ 4096 < s.size) : packB s = some (pbG s 0 0 []) := if_neg h
end Go.Proofs.Ytjjcedodjoieoaa
