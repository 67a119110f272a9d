/- Walks: the texts UrM RuM GapM UgM RgM DifM RdM RbM W20 W21 PkL W16 W17 W18 W50 W130 W131 as one text. -/
import Derived.Test.YtjahgknehamlpaaUnpM
import Derived.Test.YtjahgknehamlpaaPkM
import Derived.Test.YtjahgknehamlpaaW1
import Derived.Test.YtjahgknehamlpaaDelM
import Derived.Test.YtjahgknehamlpaaF2
import Derived.Test.YtjahgknehamlpaaMem5
import Derived.Test.YtjahgknehamlpaaW14
import Derived.Test.YtjahgknehamlpaaW15
import Derived.Test.YtjahgknehamlpaaW13
import Derived.StillTailTactics
import Derived.Deep.DeepMust
import Derived.Test.YtjahgknehamlpaaStep
import Derived.Test.YtjahgknehamlpaaMath
import Derived.Test.YtjahgknehamlpaaW10
import Derived.Test.YtjahgknehamlpaaShelf
import Derived.Lib.MakeNoZero
import Derived.Laws.CopyOwn
import Derived.Laws.Externs
import Derived.Deep.RegionLaw
import Derived.Deep.RegionWith
namespace Go.Proofs.Ytjahgknehamlpaa
set_option linter.unusedVariables false
open Go.RowKit

/-- One step: none where the text is malformed. -/
def urStep (s : ByteArray) (at_ : Nat) (out : List UInt8) : Option (Nat × List UInt8) :=
  if bt s at_ < 64 then
    if at_ + bt s at_ + 2 ≤ s.size then some (at_ + bt s at_ + 2, out ++ seg s (at_ + 1) (at_ + bt s at_ + 2)) else none
  else if bt s at_ ≤ 125 ∧ at_ + 1 < s.size then some (at_ + 2, out ++ List.replicate (bt s at_ - 61) (s.data.toList.getD (at_ + 1) 0)) else none
def urG (s : ByteArray) : Nat → Nat → List UInt8 → Option (List UInt8)
  | 0, _, out => if 4096 < out.length then none else some out
  | f + 1, at_, out =>
    if at_ < s.size then
      match urStep s at_ out with
      | none => none
      | some (at', out') => urG s f at' out'
    else if 4096 < out.length then none else some out
def ur (s : ByteArray) : Option (List UInt8) := if 8192 < s.size then none else urG s (s.size + 1) 0 []
theorem ur_big (s : ByteArray) (h : 8192 < s.size) : ur s = none := if_pos h
theorem ur_start (s : ByteArray) (h : s.size ≤ 8192) : urG s (s.size + 1) 0 [] = ur s := (if_neg (by omega)).symm
theorem urG_end (s : ByteArray) (f at_ : Nat) (out : List UInt8) (h : ¬ at_ < s.size) {R : Option (List UInt8)} (hr : urG s f at_ out = R) (hl : ¬ 4096 < out.length) : R = some out := by
  subst hr
  cases f with
  | zero => simp [urG, hl]
  | succ f => simp [urG, h, hl]
theorem urG_end_no (s : ByteArray) (f at_ : Nat) (out : List UInt8) (h : ¬ at_ < s.size) {R : Option (List UInt8)} (hr : urG s f at_ out = R) (hl : 4096 < out.length) : R = none := by
  subst hr
  cases f with
  | zero => simp [urG, hl]
  | succ f => simp [urG, h, hl]
theorem urG_none (s : ByteArray) (f at_ : Nat) (out : List UInt8) (h : at_ < s.size) {R : Option (List UInt8)} (hr : urG s (f + 1) at_ out = R) (hs : urStep s at_ out = none) : R = none := by
  subst hr
  simp [urG, h, hs]
theorem urG_go (s : ByteArray) (f at_ at' : Nat) (out out' : List UInt8) (h : at_ < s.size) {R : Option (List UInt8)} (hr : urG s (f + 1) at_ out = R) (hs : urStep s at_ out = some (at', out')) : urG s f at' out' = R := by
  subst hr
  simp [urG, h, hs]
theorem urStep_more (s : ByteArray) (at_ at' : Nat) (out out' : List UInt8) (hs : urStep s at_ out = some (at', out')) : out.length ≤ out'.length := by
  unfold urStep at hs
  split at hs
  · split at hs
    · injection hs with hs; injection hs with _ hs; subst hs; simp
    · cases hs
  · split at hs
    · injection hs with hs; injection hs with _ hs; subst hs; simp
    · cases hs
theorem urG_long (s : ByteArray) : ∀ (f at_ : Nat) (out : List UInt8), 4096 < out.length → urG s f at_ out = none
  | 0, at_, out, h => by simp [urG, h]
  | f + 1, at_, out, h => by
    unfold urG
    split
    · split
      · rfl
      · rename_i at' out' hs
        have := urStep_more s at_ at' out out' hs
        exact urG_long s f at' out' (by omega)
    · first | rfl | rw [if_pos h]
theorem urG_over (s : ByteArray) (f at_ : Nat) (out : List UInt8) {R : Option (List UInt8)} (hr : urG s f at_ out = R) (h : 4096 < out.length) : R = none := by
  rw [← hr]
  exact urG_long s f at_ out h
theorem urStep_lit (s : ByteArray) (at_ : Nat) (out : List UInt8) (h : bt s at_ < 64) (h2 : at_ + bt s at_ + 2 ≤ s.size) : urStep s at_ out = some (at_ + bt s at_ + 2, out ++ seg s (at_ + 1) (at_ + bt s at_ + 2)) := by
  simp [urStep, h, h2]
theorem urStep_lit_no (s : ByteArray) (at_ : Nat) (out : List UInt8) (h : bt s at_ < 64) (h2 : ¬ at_ + bt s at_ + 2 ≤ s.size) : urStep s at_ out = none := by
  simp [urStep, h, h2]
theorem urStep_run (s : ByteArray) (at_ : Nat) (out : List UInt8) (h : ¬ bt s at_ < 64) (h2 : at_ + 1 < s.size) (h3 : bt s at_ ≤ 125) :
    urStep s at_ out = some (at_ + 2, out ++ List.replicate (bt s at_ - 61) (s.data.toList.getD (at_ + 1) 0)) := by
  simp [urStep, h, h2, h3]
theorem urStep_run_no (s : ByteArray) (at_ : Nat) (out : List UInt8) (h : ¬ bt s at_ < 64) (h2 : ¬ (bt s at_ ≤ 125 ∧ at_ + 1 < s.size)) : urStep s at_ out = none := by
  unfold urStep
  rw [if_neg h, if_neg h2]
theorem bt_getD (s : ByteArray) (k : Nat) : (s.data.toList.getD k 0).toNat = bt s k := rfl
theorem repl_snoc {α : Type} (l : List α) (n : Nat) (x : α) : l ++ List.replicate (n + 1) x = (l ++ [x]) ++ List.replicate n x := by
  rw [List.replicate_succ]
  simp
end Go.Proofs.Ytjahgknehamlpaa
namespace Go.Proofs.Ytjahgknehamlpaa
set_option linter.unusedVariables false
open Go.RowKit

theorem sz_list (T : ByteArray) : T.data.toList.length = T.size := Array.length_toList
theorem bt_at {T : ByteArray} {out r : List UInt8} {x : UInt8} (h : T.data.toList = out ++ x :: r) : bt T out.length = x.toNat := by
  unfold bt
  rw [h, List.getD_eq_getElem?_getD, List.getElem?_append_right (Nat.le_refl _), Nat.sub_self]
  rfl
theorem getD_at {T : ByteArray} {out r : List UInt8} {x : UInt8} {k : Nat} (h : T.data.toList = out ++ x :: r) (hk : k = out.length) : T.data.toList.getD k 0 = x := by
  rw [h, hk, List.getD_eq_getElem?_getD, List.getElem?_append_right (Nat.le_refl _), Nat.sub_self]
  rfl
theorem seg_tk (s : ByteArray) (a b : Nat) : seg s a b = (s.data.toList.drop a).take (b - a) := by
  unfold seg
  rw [ByteArray.data_extract, Array.toList_extract]
theorem seg_of {T : ByteArray} {a m r : List UInt8} {i j : Nat} (h : T.data.toList = a ++ m ++ r) (hi : i = a.length) (hj : j = a.length + m.length) : seg T i j = m := by
  rw [seg_tk, h, hi, hj, Nat.add_sub_cancel_left, List.append_assoc, List.drop_left, List.take_left]
theorem seg_0 (s : ByteArray) : seg s 0 0 = [] := by rw [seg_tk]; rfl
theorem seg_full (s : ByteArray) {n : Nat} (h : s.size ≤ n) : seg s 0 n = s.data.toList := by
  rw [seg_tk, List.drop_zero, List.take_of_length_le]
  rw [sz_list]
  omega
theorem seg_more (s : ByteArray) (a n : Nat) : seg s 0 (a + n) = seg s 0 a ++ seg s a (a + n) := by
  rw [seg_tk, seg_tk, seg_tk, List.drop_zero, Nat.sub_zero, Nat.sub_zero, Nat.add_sub_cancel_left, List.take_add]
theorem seg_get (s : ByteArray) (a n i : Nat) (h : i < n) (h2 : a + n ≤ s.size) (h3 : i < (seg s a (a + n)).length) : ((seg s a (a + n))[i]).toNat = bt s (a + i) := by
  have h4 : a + i < s.data.toList.length := by rw [sz_list]; omega
  have e : (seg s a (a + n))[i] = s.data.toList[a + i] := by
    simp only [seg_tk, List.getElem_take, List.getElem_drop]
  rw [e, bt, List.getD_eq_getElem?_getD, List.getElem?_eq_getElem h4]
  rfl
theorem seg_rep (s : ByteArray) (a n : Nat) (h2 : a + n ≤ s.size) (hs : ∀ i, i < n → bt s (a + i) = bt s a) : seg s a (a + n) = List.replicate n (UInt8.ofNat (bt s a)) := by
  have hl : (seg s a (a + n)).length = n := by rw [seg_length s _ _ h2]; omega
  refine List.ext_getElem (by rw [hl, List.length_replicate]) fun i h3 h4 => ?_
  rw [List.getElem_replicate]
  have h5 := seg_get s a n i (by omega) h2 h3
  rw [hs i (by omega)] at h5
  rw [← h5]
  exact UInt8.toNat_inj.1 (by rw [UInt8.toNat_ofNat']; have := ((seg s a (a + n))[i]).toNat_lt; omega)

theorem runF_same (s : ByteArray) (at_ m : Nat) : ∀ f, f < m → (∀ i, i < m - f → bt s (at_ + i) = bt s at_) → ∀ i, i < runF s at_ m f → bt s (at_ + i) = bt s at_
  | 0, _, h, i, hi => h i (by rw [runF] at hi; omega)
  | f + 1, hf, h, i, hi => by
    rw [runF] at hi
    split at hi
    · rename_i hc
      refine runF_same s at_ m f (by omega) (fun j hj => ?_) i hi
      by_cases e : j = m - (f + 1)
      · rw [e]; exact hc.2
      · exact h j (by omega)
    · exact h i hi
theorem runL_same (s : ByteArray) (at_ m : Nat) (hm : 1 ≤ m) : ∀ i, i < runL s at_ m → bt s (at_ + i) = bt s at_ :=
  runF_same s at_ m (m - 1) (by omega) (fun i hi => by rw [show i = 0 by omega]; rfl)

theorem pkrG_pre (s : ByteArray) : ∀ (f at_ : Nat) (out : List UInt8), ∃ t, pkrG s f at_ out = out ++ t
  | 0, _, out => ⟨[], by simp [pkrG]⟩
  | f + 1, at_, out => by
    rw [pkrG]
    split
    · split
      · obtain ⟨t, ht⟩ := pkrG_pre s f (at_ + runL s at_ 64) (out ++ [UInt8.ofNat (runL s at_ 64 + 61), UInt8.ofNat (bt s at_)])
        exact ⟨_, by rw [ht, List.append_assoc]⟩
      · obtain ⟨t, ht⟩ := pkrG_pre s f (at_ + litF s at_ 63) (out ++ [UInt8.ofNat (litF s at_ 63 - 1)] ++ seg s at_ (at_ + litF s at_ 63))
        exact ⟨_, by rw [ht, List.append_assoc, List.append_assoc]⟩
    · exact ⟨[], by simp⟩
theorem pkrG_len (s : ByteArray) : ∀ (f at_ : Nat) (out : List UInt8), at_ ≤ s.size → (pkrG s f at_ out).length ≤ out.length + 2 * (s.size - at_)
  | 0, _, out, _ => by simp [pkrG]
  | f + 1, at_, out, h => by
    rw [pkrG]
    split
    · rename_i hlt
      split
      · have b := runL_bd s at_ 64 (by omega) hlt
        have := pkrG_len s f (at_ + runL s at_ 64) (out ++ [UInt8.ofNat (runL s at_ 64 + 61), UInt8.ofNat (bt s at_)]) (by omega)
        simp only [List.length_append, List.length_cons, List.length_nil] at this
        omega
      · have b := litF_bd s at_ 63 (by omega) (by omega)
        have := pkrG_len s f (at_ + litF s at_ 63) (out ++ [UInt8.ofNat (litF s at_ 63 - 1)] ++ seg s at_ (at_ + litF s at_ 63)) (by omega)
        simp only [List.length_append, List.length_cons, List.length_nil] at this
        rw [seg_length s _ _ (by omega)] at this
        omega
    · omega
theorem ur_pkrG (s T : ByteArray) (h : s.size ≤ 4096) : ∀ (f at_ : Nat) (out : List UInt8) (F : Nat), at_ ≤ s.size → s.size < at_ + f → pkrG s f at_ out = T.data.toList → T.size < out.length + F → urG T F out.length (seg s 0 at_) = some s.data.toList
  | 0, at_, out, F, h1, h2, _, _ => absurd h2 (by omega)
  | f + 1, at_, out, F, h1, h2, hT, hF => by
    have hTl := sz_list T
    by_cases hlt : at_ < s.size
    · have hF1 : out.length < T.size := by
        obtain ⟨t, ht⟩ := pkrG_pre s (f + 1) at_ out
        rw [← hTl, ← hT]
        rw [pkrG, if_pos hlt]
        split
        · obtain ⟨t, ht⟩ := pkrG_pre s f (at_ + runL s at_ 64) (out ++ [UInt8.ofNat (runL s at_ 64 + 61), UInt8.ofNat (bt s at_)])
          rw [ht]; simp only [List.length_append, List.length_cons]; omega
        · obtain ⟨t, ht⟩ := pkrG_pre s f (at_ + litF s at_ 63) (out ++ [UInt8.ofNat (litF s at_ 63 - 1)] ++ seg s at_ (at_ + litF s at_ 63))
          rw [ht]; simp only [List.length_append, List.length_cons]; omega
      obtain ⟨F', rfl⟩ : ∃ F', F = F' + 1 := ⟨F - 1, by omega⟩
      by_cases h3 : 3 ≤ runL s at_ 64
      · have hp := pkrG_run s f at_ out hlt h3 hT
        have b := runL_bd s at_ 64 (by omega) hlt
        have hsame := runL_same s at_ 64 (by omega)
        generalize runL s at_ 64 = n at h3 hp b hsame
        obtain ⟨t, ht⟩ := pkrG_pre s f (at_ + n) (out ++ [UInt8.ofNat (n + 61), UInt8.ofNat (bt s at_)])
        rw [hp, List.append_assoc] at ht
        have ih := ur_pkrG s T h f (at_ + n) (out ++ [UInt8.ofNat (n + 61), UInt8.ofNat (bt s at_)]) F' (by omega) (by omega) hp (by simp only [List.length_append, List.length_cons, List.length_nil]; omega)
        have hb : bt T out.length = n + 61 := by
          rw [bt_at (T := T) (out := out) (r := UInt8.ofNat (bt s at_) :: t) (x := UInt8.ofNat (n + 61)) ht, UInt8.toNat_ofNat']
          omega
        have hg : T.data.toList.getD (out.length + 1) 0 = UInt8.ofNat (bt s at_) := getD_at (T := T) (out := out ++ [UInt8.ofNat (n + 61)]) (r := t) (by rw [ht]; simp) (by simp)
        have hsz : out.length + 1 < T.size := by rw [← hTl, ht]; simp
        have hs := urStep_run T out.length (seg s 0 at_) (by omega) hsz (by omega)
        rw [hg, hb, show n + 61 - 61 = n by omega, ← seg_rep s at_ n (by omega) hsame, ← seg_more] at hs
        refine (urG_go T F' out.length (out.length + 2) (seg s 0 at_) _ hF1 rfl hs).symm.trans ?_
        simpa using ih
      · have b := litF_bd s at_ 63 (by omega) (by omega)
        have hp := pkrG_lit s f at_ _ out hlt h3 rfl hT
        generalize litF s at_ 63 = n at hp b
        have hsl : (seg s at_ (at_ + n)).length = n := by rw [seg_length s _ _ (by omega)]; omega
        obtain ⟨t, ht⟩ := pkrG_pre s f (at_ + n) (out ++ [UInt8.ofNat (n - 1)] ++ seg s at_ (at_ + n))
        rw [hp] at ht
        have ih := ur_pkrG s T h f (at_ + n) (out ++ [UInt8.ofNat (n - 1)] ++ seg s at_ (at_ + n)) F' (by omega) (by omega) hp (by simp only [List.length_append, List.length_cons, List.length_nil]; omega)
        have hb : bt T out.length = n - 1 := by
          rw [bt_at (T := T) (out := out) (r := seg s at_ (at_ + n) ++ t) (x := UInt8.ofNat (n - 1)) (by rw [ht]; simp), UInt8.toNat_ofNat']
          omega
        have hsz : out.length + (n - 1) + 2 ≤ T.size := by
          rw [← hTl, ht]
          simp only [List.length_append, List.length_cons, List.length_nil, hsl]
          omega
        have hs := urStep_lit T out.length (seg s 0 at_) (by omega) (by omega)
        rw [hb, seg_of (T := T) (a := out ++ [UInt8.ofNat (n - 1)]) (m := seg s at_ (at_ + n)) (r := t) ht (by simp) (by rw [hsl]; simp; omega), ← seg_more] at hs
        refine (urG_go T F' out.length _ (seg s 0 at_) _ hF1 rfl hs).symm.trans ?_
        have e : (out ++ [UInt8.ofNat (n - 1)] ++ seg s at_ (at_ + n)).length = out.length + (n - 1) + 2 := by
          simp only [List.length_append, List.length_cons, List.length_nil, hsl]
          omega
        rw [e] at ih
        exact ih
    · have e := pkrG_end s (f + 1) at_ out hlt hT
      have e2 : T.size = out.length := by rw [← hTl, ← e]
      have hl : (seg s 0 at_).length = at_ := by rw [seg_length s _ _ (by omega)]; omega
      rw [urG_end T F out.length (seg s 0 at_) (by omega) rfl (by omega), seg_full s (by omega)]
theorem ur_pkr (s : ByteArray) (h : s.size ≤ 4096) : ∃ R, pkr s = some R ∧ ur ⟨R.toArray⟩ = some s.data.toList := by
  refine ⟨_, pkr_small s h, ?_⟩
  have hl := pkrG_len s (s.size + 1) 0 [] (Nat.zero_le _)
  have hz := sz_list ⟨(pkrG s (s.size + 1) 0 []).toArray⟩
  have e : (⟨(pkrG s (s.size + 1) 0 []).toArray⟩ : ByteArray).data.toList = pkrG s (s.size + 1) 0 [] := by simp
  rw [e] at hz
  simp only [List.length_nil] at hl
  rw [← ur_start _ (by omega)]
  have := ur_pkrG s ⟨(pkrG s (s.size + 1) 0 []).toArray⟩ h (s.size + 1) 0 [] ((⟨(pkrG s (s.size + 1) 0 []).toArray⟩ : ByteArray).size + 1) (by omega) (by omega) e.symm (by simp)
  rw [seg_0] at this
  exact this
end Go.Proofs.Ytjahgknehamlpaa
namespace Go.Proofs.Ytjahgknehamlpaa
set_option linter.unusedVariables false
open Go.RowKit

def zig (d : Int) : Nat := if 2 * d < 0 then (-(2 * d) - 1).toNat else (2 * d).toNat
theorem zig_neg (d : Int) (h : 2 * d < 0) : ((zig d : Nat) : Int) = -(2 * d) - 1 := by unfold zig; rw [if_pos h]; omega
theorem zig_pos (d : Int) (h : ¬ 2 * d < 0) : ((zig d : Nat) : Int) = 2 * d := by unfold zig; rw [if_neg h]; omega
theorem zig_lt (d : Int) (h1 : -2000000 ≤ d) (h2 : d ≤ 2000000) : zig d < 4000001 := by unfold zig; split <;> omega

def vb (n : Nat) : List UInt8 := if n < 128 then [UInt8.ofNat n] else UInt8.ofNat (n % 128 + 128) :: vb (n / 128)
termination_by n
theorem vb_small (n : Nat) (h : n < 128) : vb n = [UInt8.ofNat n] := by rw [vb, if_pos h]
theorem vb_big (n : Nat) (h : ¬ n < 128) : vb n = UInt8.ofNat (n % 128 + 128) :: vb (n / 128) := by rw [vb, if_neg h]
theorem vb_len (n : Nat) (h : n < 4000001) : (vb n).length ≤ 4 := by
  have h1 : ∀ n, n < 128 → (vb n).length ≤ 1 := fun n h => by rw [vb_small n h]; simp
  have step : ∀ (b k : Nat), (∀ n, n < b → (vb n).length ≤ k) → ∀ n, n < b * 128 → (vb n).length ≤ k + 1 := by
    intro b k hb n hn
    by_cases h : n < 128
    · rw [vb_small n h]; simp
    · rw [vb_big n h]
      have := hb (n / 128) (by omega)
      simp only [List.length_cons]
      omega
  exact step _ 3 (step _ 2 (step _ 1 h1)) n (by omega)
theorem vb_lt (n : Nat) : n / 128 ≤ n := Nat.div_le_self _ _

def pgl : Int → List Int → List UInt8
  | _, [] => []
  | last, g :: r => vb (zig (g - last)) ++ pgl g r
def okGap (g : Int) : Bool := inB g 1 2000000
def okGaps (l : List Int) : Bool := decide (l.length ≤ 4000) && l.all okGap
def packGaps (l : List Int) : Option (List UInt8) := if okGaps l = true then some (pgl 0 l) else none

theorem pgl_end (l : List Int) (k : Nat) (last : Int) (out R : List UInt8) (hk : ¬ k < l.length) (h : out ++ pgl last (l.drop k) = R) : out = R := by
  rw [List.drop_eq_nil_of_le (by omega)] at h
  simpa [pgl] using h
theorem pgl_start (l : List Int) (k : Nat) (last : Int) (out R : List UInt8) (hk : k < l.length) (h : out ++ pgl last (l.drop k) = R) : (out ++ vb (zig (l[k] - last))) ++ pgl l[k] (l.drop (k + 1)) = R := by
  rw [List.drop_eq_getElem_cons hk, pgl] at h
  rw [List.append_assoc]
  exact h
theorem vb_step (m : Nat) (out R : List UInt8) (hm : ¬ m < 128) (h : out ++ vb m = R) : (out ++ [UInt8.ofNat (m % 128 + 128)]) ++ vb (m / 128) = R := by
  rw [vb_big m hm] at h
  simpa using h
theorem vb_done (m : Nat) (out R : List UInt8) (hm : m < 128) (h : out ++ vb m = R) : out ++ [UInt8.ofNat m] = R := by
  rw [vb_small m hm] at h
  exact h
theorem okGaps_long (l : List Int) (h : 4000 < l.length) : okGaps l = false := by
  unfold okGaps
  have : ¬ l.length ≤ 4000 := by omega
  simp [this]
theorem okGaps_bad (l : List Int) (k : Nat) (hk : k < l.length) (h : okGap l[k] = false) : okGaps l = false := by
  unfold okGaps
  have : l.all okGap = false := by
    rw [List.all_eq_false]
    exact ⟨l[k], List.getElem_mem hk, by simp [h]⟩
  rw [this, Bool.and_false]
theorem okGaps_all (l : List Int) (hl : l.length ≤ 4000) (h : ∀ k, (hk : k < l.length) → okGap l[k] = true) : okGaps l = true := by
  unfold okGaps
  simp only [hl, decide_true, Bool.true_and, List.all_eq_true]
  intro x hx
  obtain ⟨k, hk, rfl⟩ := List.getElem_of_mem hx
  exact h k hk
theorem okGap_in (g : Int) (h : okGap g = true) : 1 ≤ g ∧ g ≤ 2000000 := by unfold okGap inB at h; simpa using h
theorem okGaps_in (l : List Int) (h : okGaps l = true) : l.length ≤ 4000 ∧ ∀ k, (hk : k < l.length) → okGap l[k] = true := by
  unfold okGaps at h
  simp only [Bool.and_eq_true, decide_eq_true_eq, List.all_eq_true] at h
  exact ⟨h.1, fun k hk => h.2 _ (List.getElem_mem hk)⟩
theorem and127 (m : Nat) : m &&& 127 = m % 128 := Nat.and_two_pow_sub_one_eq_mod m 7
theorem shr7 (m : Nat) : m >>> 7 = m / 128 := Nat.shiftRight_eq_div_pow m 7
theorem packGaps_no (l : List Int) (h : okGaps l = false) : packGaps l = none := by unfold packGaps; rw [h]; rfl
theorem packGaps_yes (l : List Int) (h : okGaps l = true) : packGaps l = some (pgl 0 l) := by unfold packGaps; rw [h]; rfl
end Go.Proofs.Ytjahgknehamlpaa
namespace Go.Proofs.Ytjahgknehamlpaa
set_option linter.unusedVariables false
open Go.RowKit

def zag (n : Nat) : Int := if n % 2 = 1 then -((n / 2 : Nat) : Int) - 1 else ((n / 2 : Nat) : Int)
theorem zag_odd {n : Nat} (h : n % 2 = 1) : zag n = -((n / 2 : Nat) : Int) - 1 := if_pos h
theorem zag_even {n : Nat} (h : ¬ n % 2 = 1) : zag n = ((n / 2 : Nat) : Int) := if_neg h
def ugFin (s : ByteArray) (out : List Int) : Option (List Int) := if packGaps out = some s.data.toList then some out else none
def ugG (s : ByteArray) : Nat → Nat → Nat → Nat → Int → List Int → Option (List Int)
  | 0, _, _, _, _, _ => none
  | f + 1, i, n, j, last, out =>
    if i < s.size then
      if 128 ≤ bt s i then (if j = 4 then none else ugG s f (i + 1) (n + bt s i % 128 * 128 ^ j) (j + 1) last out)
      else ugG s f (i + 1) 0 0 (last + zag (n + bt s i % 128 * 128 ^ j)) (out ++ [last + zag (n + bt s i % 128 * 128 ^ j)])
    else ugFin s out
def ug (s : ByteArray) : Option (List Int) := ugG s (s.size + 1) 0 0 0 0 []
theorem ug_more {s : ByteArray} {f i n j : Nat} {last : Int} {out : List Int} {R : Option (List Int)} (h : ugG s (f + 1) i n j last out = R) (h1 : i < s.size) (h2 : 128 ≤ bt s i) (h3 : ¬ j = 4) : ugG s f (i + 1) (n + bt s i % 128 * 128 ^ j) (j + 1) last out = R := by
  rw [ugG, if_pos h1, if_pos h2, if_neg h3] at h
  exact h
theorem ug_stop {s : ByteArray} {f i n : Nat} {last : Int} {out : List Int} {R : Option (List Int)} (h : ugG s (f + 1) i n 4 last out = R) (h1 : i < s.size) (h2 : 128 ≤ bt s i) : R = none := by
  rw [ugG, if_pos h1, if_pos h2, if_pos rfl] at h
  exact h.symm
theorem ug_put {s : ByteArray} {f i n j : Nat} {last : Int} {out : List Int} {R : Option (List Int)} (h : ugG s (f + 1) i n j last out = R) (h1 : i < s.size) (h2 : ¬ 128 ≤ bt s i) (m : Nat) (hm : n + bt s i % 128 * 128 ^ j = m) : ugG s f (i + 1) 0 0 (last + zag m) (out ++ [last + zag m]) = R := by
  rw [ugG, if_pos h1, if_neg h2, hm] at h
  exact h
theorem ug_end {s : ByteArray} {f i n j : Nat} {last : Int} {out : List Int} {R : Option (List Int)} (h : ugG s (f + 1) i n j last out = R) (h1 : ¬ i < s.size) : ugFin s out = R := by
  rw [ugG, if_neg h1] at h
  exact h
theorem ugFin_over (s : ByteArray) (out : List Int) (h : 4000 < out.length) : ugFin s out = none := by
  unfold ugFin
  rw [packGaps_no out (okGaps_long out h), if_neg (by simp)]
theorem ug_over (s : ByteArray) : ∀ (f i n j : Nat) (last : Int) (out : List Int), 4000 < out.length → ugG s f i n j last out = none
  | 0, _, _, _, _, _, _ => rfl
  | f + 1, i, n, j, last, out, h => by
    unfold ugG
    split
    · split
      · split
        · rfl
        · exact ug_over s f _ _ _ _ _ h
      · exact ug_over s f _ _ _ _ _ (by simp; omega)
    · exact ugFin_over s out h
theorem vb_ne (n : Nat) : vb n ≠ [] := by
  by_cases h : n < 128
  · rw [vb_small n h]; simp
  · rw [vb_big n h]; simp
theorem vb_last : ∀ (k n : Nat), n ≤ k → ∃ b, (vb n).getLast? = some b ∧ b.toNat < 128
  | 0, n, h => by
    have : n = 0 := by omega
    subst this
    exact ⟨0, by rw [vb_small 0 (by omega)]; rfl, by decide⟩
  | k + 1, n, h => by
    by_cases hn : n < 128
    · refine ⟨UInt8.ofNat n, by rw [vb_small n hn]; rfl, ?_⟩
      rw [UInt8.toNat_ofNat']
      omega
    · obtain ⟨b, h1, h2⟩ := vb_last k (n / 128) (by omega)
      refine ⟨b, ?_, h2⟩
      rw [vb_big n hn, List.getLast?_cons, h1]
      rfl
theorem pgl_last : ∀ (l : List Int) (last : Int), l ≠ [] → ∃ b, (pgl last l).getLast? = some b ∧ b.toNat < 128
  | [], _, h => absurd rfl h
  | [g], last, _ => by
    obtain ⟨b, h1, h2⟩ := vb_last _ (zig (g - last)) (Nat.le_refl _)
    exact ⟨b, by simpa [pgl] using h1, h2⟩
  | g :: g2 :: r, last, _ => by
    obtain ⟨b, h1, h2⟩ := pgl_last (g2 :: r) g (by simp)
    refine ⟨b, ?_, h2⟩
    rw [pgl, List.getLast?_append, h1]
    rfl
/-- A text that ends within a number is no packed one. -/
theorem ugFin_half (s : ByteArray) (out : List Int) (i : Nat) (hi : i = s.size) (h0 : 0 < i) (h1 : 128 ≤ bt s (i - 1)) : ugFin s out = none := by
  unfold ugFin
  refine if_neg fun h => ?_
  cases hok : okGaps out
  · rw [packGaps_no out hok] at h; cases h
  · rw [packGaps_yes out hok] at h
    injection h with h
    have hne : out ≠ [] := by
      intro e
      subst e
      have := congrArg List.length h
      rw [Array.length_toList] at this
      have h2 : s.data.size = s.size := rfl
      simp [pgl] at this
      omega
    obtain ⟨b, hb, hb2⟩ := pgl_last out 0 hne
    rw [h, List.getLast?_eq_getElem?, Array.length_toList] at hb
    have h2 : s.data.size = s.size := rfl
    have h3 : bt s (i - 1) = b.toNat := by
      unfold bt
      rw [List.getD_eq_getElem?_getD, hi, ← h2, hb]
      rfl
    omega
theorem ugFin_yes {s : ByteArray} {out : List Int} (h : okGaps out = true) (h2 : (pgl 0 out == s.data.toList) = true) : ugFin s out = some out := by
  unfold ugFin
  rw [packGaps_yes out h, if_pos (by rw [beq_iff_eq] at h2; rw [h2])]
theorem ugFin_bad {s : ByteArray} {out : List Int} (h : okGaps out = false) : ugFin s out = none := by
  unfold ugFin
  rw [packGaps_no out h, if_neg (by simp)]
theorem ugFin_no {s : ByteArray} {out : List Int} (h : okGaps out = true) (h2 : (pgl 0 out == s.data.toList) = false) : ugFin s out = none := by
  unfold ugFin
  rw [packGaps_yes out h, if_neg (by intro e; injection e with e; rw [e] at h2; simp at h2)]
def ugL (s : ByteArray) : List Int := (ug s).getD []
end Go.Proofs.Ytjahgknehamlpaa
namespace Go.Proofs.Ytjahgknehamlpaa
set_option linter.unusedVariables false
open Go.RowKit

theorem zag_zig (d : Int) : zag (zig d) = d := by
  unfold zag
  by_cases h : 2 * d < 0
  · have := zig_neg d h
    rw [if_pos (by omega)]; omega
  · have := zig_pos d h
    rw [if_neg (by omega)]; omega
theorem sum128 (m j n : Nat) : n + (m % 128 + 128) % 128 * 128 ^ j + m / 128 * 128 ^ (j + 1) = n + m * 128 ^ j := by
  have e : (m % 128 + 128) % 128 = m % 128 := by omega
  rw [e, Nat.pow_succ, Nat.add_assoc]
  congr 1
  have h := Nat.div_add_mod m 128
  generalize m / 128 = q at *
  generalize m % 128 = t at *
  generalize 128 ^ j = p at *
  subst h
  rw [Nat.add_mul, Nat.add_comm, Nat.mul_comm 128 q, Nat.mul_assoc, Nat.mul_comm 128 p]
theorem ug_vb (T : ByteArray) : ∀ (k m : Nat), m ≤ k → ∀ (n j F : Nat) (last : Int) (out : List Int) (pre r : List UInt8), T.data.toList = pre ++ (vb m ++ r) → j + (vb m).length ≤ 5 → ugG T (F + (vb m).length) pre.length n j last out = ugG T F (pre.length + (vb m).length) 0 0 (last + zag (n + m * 128 ^ j)) (out ++ [last + zag (n + m * 128 ^ j)]) := by
  intro k
  induction k with
  | zero =>
    intro m hk n j F last out pre r hT hj
    have hm : m < 128 := by omega
    rw [vb_small m hm] at hT ⊢
    have hb : bt T pre.length = m := by rw [bt_at (r := r) (x := UInt8.ofNat m) (by simpa using hT), UInt8.toNat_ofNat']; omega
    have hs : pre.length < T.size := by rw [← sz_list, hT]; simp
    rw [List.length_singleton, ugG, if_pos hs, hb, if_neg (by omega), Nat.mod_eq_of_lt hm]
  | succ k ih =>
    intro m hk n j F last out pre r hT hj
    by_cases hm : m < 128
    · rw [vb_small m hm] at hT ⊢
      have hb : bt T pre.length = m := by rw [bt_at (r := r) (x := UInt8.ofNat m) (by simpa using hT), UInt8.toNat_ofNat']; omega
      have hs : pre.length < T.size := by rw [← sz_list, hT]; simp
      rw [List.length_singleton, ugG, if_pos hs, hb, if_neg (by omega), Nat.mod_eq_of_lt hm]
    · rw [vb_big m hm] at hT hj ⊢
      have hb : bt T pre.length = m % 128 + 128 := by rw [bt_at (r := vb (m / 128) ++ r) (x := UInt8.ofNat (m % 128 + 128)) (by simpa using hT), UInt8.toNat_ofNat']; omega
      have hs : pre.length < T.size := by rw [← sz_list, hT]; simp
      have hv : 0 < (vb (m / 128)).length := List.length_pos_iff.2 (vb_ne _)
      rw [List.length_cons] at hj ⊢
      rw [← Nat.add_assoc, ugG, if_pos hs, hb, if_pos (by omega), if_neg (by omega)]
      have h := ih (m / 128) (by omega) (n + (m % 128 + 128) % 128 * 128 ^ j) (j + 1) F last out (pre ++ [UInt8.ofNat (m % 128 + 128)]) r (by rw [hT]; simp) (by omega)
      rw [sum128, List.length_append, List.length_singleton] at h
      rw [h]
      congr 1
      omega
theorem ug_pgl (T : ByteArray) : ∀ (l : List Int) (last : Int) (out : List Int) (pre : List UInt8) (F : Nat), T.data.toList = pre ++ pgl last l → (∀ g ∈ l, 1 ≤ g ∧ g ≤ 2000000) → 0 ≤ last → last ≤ 2000000 → T.size < pre.length + F → ugG T F pre.length 0 0 last out = ugFin T (out ++ l)
  | [], last, out, pre, F, hT, _, _, _, hF => by
    have hl : T.size = pre.length := by rw [← sz_list, hT]; simp [pgl]
    obtain ⟨F', rfl⟩ : ∃ F', F = F' + 1 := ⟨F - 1, by omega⟩
    rw [List.append_nil]
    exact (ug_end (s := T) (f := F') (i := pre.length) (n := 0) (j := 0) (last := last) (out := out) rfl (by omega)).symm
  | g :: r, last, out, pre, F, hT, hg, h0, h1, hF => by
    have hg1 := hg g (List.mem_cons_self ..)
    have hz := zig_lt (g - last) (by omega) (by omega)
    have hv := vb_len _ hz
    rw [pgl] at hT
    have hl : pre.length + (vb (zig (g - last))).length ≤ T.size := by rw [← sz_list, hT]; simp only [List.length_append]; omega
    obtain ⟨F', rfl⟩ : ∃ F', F = F' + (vb (zig (g - last))).length := ⟨F - (vb (zig (g - last))).length, by omega⟩
    rw [ug_vb T _ (zig (g - last)) (Nat.le_refl _) 0 0 F' last out pre (pgl g r) hT (by omega)]
    rw [Nat.pow_zero, Nat.mul_one, Nat.zero_add, zag_zig, show last + (g - last) = g by omega]
    have h := ug_pgl T r g (out ++ [g]) (pre ++ vb (zig (g - last))) F' (by rw [hT, List.append_assoc]) (fun x hx => hg x (List.mem_cons_of_mem _ hx)) (by omega) (by omega) (by rw [List.length_append]; omega)
    rw [List.length_append] at h
    rw [h, List.append_assoc]
    rfl
theorem ug_pack (l : List Int) (h : okGaps l = true) : packGaps l = some (pgl 0 l) ∧ ug ⟨(pgl 0 l).toArray⟩ = some l := by
  have hp := packGaps_yes l h
  refine ⟨hp, ?_⟩
  have e : (⟨(pgl 0 l).toArray⟩ : ByteArray).data.toList = pgl 0 l := by simp
  have hg : ∀ g ∈ l, 1 ≤ g ∧ g ≤ 2000000 := fun g hg => by
    obtain ⟨k, hk, rfl⟩ := List.getElem_of_mem hg
    exact okGap_in _ ((okGaps_in l h).2 k hk)
  have := ug_pgl ⟨(pgl 0 l).toArray⟩ l 0 [] [] ((⟨(pgl 0 l).toArray⟩ : ByteArray).size + 1) (by rw [e]; rfl) hg (by omega) (by omega) (by simp)
  unfold ug
  rw [List.length_nil, List.nil_append] at this
  rw [this]
  unfold ugFin
  rw [hp, e, if_pos rfl]
end Go.Proofs.Ytjahgknehamlpaa
namespace Go.Proofs.Ytjahgknehamlpaa
set_option linter.unusedVariables false
open Go.RowKit

/-- How many bytes from p on differ. -/
def dif (a b : ByteArray) (p : Nat) : Nat := if h : p < a.size ∧ ¬ bt a p = bt b p then dif a b (p + 1) + 1 else 0
termination_by a.size - p
theorem dif_yes (a b : ByteArray) (p : Nat) (h1 : p < a.size) (h2 : ¬ bt a p = bt b p) : dif a b p = dif a b (p + 1) + 1 := by rw [dif, dif_pos ⟨h1, h2⟩]
theorem dif_eq (a b : ByteArray) (p : Nat) (h2 : bt a p = bt b p) : dif a b p = 0 := by rw [dif, dif_neg (fun h => h.2 h2)]
theorem dif_end (a b : ByteArray) (p : Nat) (h1 : ¬ p < a.size) : dif a b p = 0 := by rw [dif, dif_neg (fun h => h1 h.1)]
theorem dif_le (a b : ByteArray) : ∀ n p, a.size - p = n → p ≤ a.size → p + dif a b p ≤ a.size
  | 0, p, h, hp => by rw [dif_end a b p (by omega)]; exact hp
  | n + 1, p, h, hp => by
    by_cases h2 : bt a p = bt b p
    · rw [dif_eq a b p h2]; exact hp
    · have := dif_le a b n (p + 1) (by omega) (by omega)
      rw [dif_yes a b p (by omega) h2]
      omega
def difItem (a b : ByteArray) (p : Nat) : List DDelta := if 0 < dif a b p then [⟨(p : Int), b.extract p (p + dif a b p)⟩] else []
def dls (a b : ByteArray) (p : Nat) : List DDelta := if h : p < a.size then difItem a b p ++ dls a b (p + dif a b p + 1) else []
termination_by a.size - p
theorem dls_end (a b : ByteArray) (p : Nat) (out R : List DDelta) (h : ¬ p < a.size) (hr : out ++ dls a b p = R) : out = R := by rw [dls, dif_neg h] at hr; simpa using hr
theorem dls_none (a b : ByteArray) (p : Nat) (out R : List DDelta) (h : p < a.size) (h0 : dif a b p = 0) (hr : out ++ dls a b p = R) : out ++ dls a b (p + 1) = R := by
  rw [dls, dif_pos h, difItem, if_neg (by omega), h0] at hr
  simpa using hr
theorem dls_some (a b : ByteArray) (p n : Nat) (out R : List DDelta) (h : p < a.size) (h0 : 0 < n) (hn : n = dif a b p) (hr : out ++ dls a b p = R) : (out ++ [⟨(p : Int), b.extract p (p + n)⟩]) ++ dls a b (p + n + 1) = R := by
  subst hn
  rw [dls, dif_pos h, difItem, if_pos h0] at hr
  rw [List.append_assoc]
  exact hr
def deltas (a b : ByteArray) : Option (List DDelta) := if ¬ a.size = b.size ∨ 4096 < a.size then none else some (dls a b 0)
theorem deltas_no (a b : ByteArray) (h : ¬ a.size = b.size ∨ 4096 < a.size) : deltas a b = none := if_pos h
theorem deltas_yes (a b : ByteArray) (h : a.size = b.size) (h2 : ¬ 4096 < a.size) : deltas a b = some (dls a b 0) := if_neg (by omega)
end Go.Proofs.Ytjahgknehamlpaa
namespace Go.Proofs.Ytjahgknehamlpaa
set_option linter.unusedVariables false
open Go.RowKit

theorem dif_stop (a b : ByteArray) : ∀ n p, a.size - p = n → p + dif a b p < a.size → bt a (p + dif a b p) = bt b (p + dif a b p)
  | 0, p, h, hp => by omega
  | n + 1, p, h, hp => by
    by_cases h2 : bt a p = bt b p
    · rw [dif_eq a b p h2]; exact h2
    · have e := dif_yes a b p (by omega) h2
      have := dif_stop a b n (p + 1) (by omega) (by omega)
      rw [e, show p + (dif a b (p + 1) + 1) = p + 1 + dif a b (p + 1) by omega]
      exact this
theorem seg_congr (a b : ByteArray) (i n : Nat) (h1 : i + n ≤ a.size) (h2 : i + n ≤ b.size) (h : ∀ k, i ≤ k → k < i + n → bt a k = bt b k) : seg a i (i + n) = seg b i (i + n) := by
  have l1 := seg_length a i (i + n) h1
  have l2 := seg_length b i (i + n) h2
  refine List.ext_getElem (by omega) fun k h3 h4 => ?_
  have e1 := seg_get a i n k (by omega) h1 h3
  have e2 := seg_get b i n k (by omega) h2 h4
  exact UInt8.toNat_inj.1 (by rw [e1, e2]; exact h _ (by omega) (by omega))
theorem dls_step (a b : ByteArray) (p : Nat) (h : p < a.size) : dls a b p = difItem a b p ++ dls a b (p + dif a b p + 1) := by rw [dls, dif_pos h]
theorem apG_dls (a b : ByteArray) (hs : a.size = b.size) : ∀ (n p at_ : Nat) (out : List UInt8), a.size - p ≤ n → at_ ≤ p → at_ ≤ a.size → out = seg b 0 at_ → (∀ i, at_ ≤ i → i < p → i < a.size → bt a i = bt b i) → apG a (dls a b p) at_ out = some b.data.toList
  | n, p, at_, out, hn, h1, h2, ho, heq => by
    by_cases hp : p < a.size
    · obtain ⟨n, rfl⟩ : ∃ m, n = m + 1 := ⟨n - 1, by omega⟩
      rw [dls_step a b p hp]
      by_cases h0 : dif a b p = 0
      · rw [difItem, if_neg (by omega), h0, List.nil_append]
        refine apG_dls a b hs n (p + 0 + 1) at_ out (by omega) (by omega) h2 ho (fun i h3 h4 h5 => ?_)
        by_cases e : i = p
        · subst e
          have := dif_stop a b _ i rfl (by omega)
          rw [h0] at this
          exact this
        · exact heq i h3 (by omega) h5
      · have hle := dif_le a b _ p rfl (by omega)
        have hst := dif_stop a b _ p rfl
        rw [difItem, if_pos (by omega)]
        generalize dif a b p = d at h0 hle hst
        have hsz : (b.extract p (p + d)).size = d := by rw [ByteArray.size_extract]; omega
        have hin : inB (p : Int) at_ ((a.size : Int) - d) = true := by
          unfold inB
          simp only [Bool.and_eq_true, decide_eq_true_eq]
          omega
        show apG a (⟨(p : Int), b.extract p (p + d)⟩ :: dls a b (p + d + 1)) at_ out = _
        rw [apG]
        simp only [hsz]
        rw [if_neg (by rintro (e | e); exact h0 e; rw [hin] at e; cases e), Int.toNat_natCast]
        refine apG_dls a b hs n (p + d + 1) (p + d) _ (by omega) (by omega) (by omega) ?_ (fun i h3 h4 h5 => ?_)
        · have e1 : seg a at_ p = seg b at_ p := by
            obtain ⟨m, rfl⟩ : ∃ m, p = at_ + m := ⟨p - at_, by omega⟩
            exact seg_congr a b at_ m (by omega) (by omega) (fun k h3 h4 => heq k h3 h4 (by omega))
          obtain ⟨m, rfl⟩ : ∃ m, p = at_ + m := ⟨p - at_, by omega⟩
          rw [ho, e1, ← seg_more, seg_more b (at_ + m) d]
          rfl
        · have : i = p + d := by omega
          subst this
          exact hst h5
    · have e : dls a b p = [] := by rw [dls, dif_neg hp]
      rw [e, apG, ho]
      obtain ⟨m, hm⟩ : ∃ m, a.size = at_ + m := ⟨a.size - at_, by omega⟩
      rw [hm, seg_congr a b at_ m (by omega) (by omega) (fun k h3 h4 => heq k h3 (by omega) (by omega)), ← seg_more, seg_full b (by omega)]
theorem apD_deltas (a b : ByteArray) (hs : a.size = b.size) (h : ¬ 4096 < a.size) : deltas a b = some (dls a b 0) ∧ apD a (dls a b 0) = some b.data.toList := by
  refine ⟨deltas_yes a b hs h, ?_⟩
  unfold apD
  rw [if_neg h]
  exact apG_dls a b hs a.size 0 0 [] (by omega) (by omega) (by omega) (seg_0 b).symm (fun i h3 h4 _ => absurd h4 (by omega))
end Go.Proofs.Ytjahgknehamlpaa
namespace Go.Proofs.Ytjahgknehamlpaa
set_option linter.unusedVariables false
open Go.RowKit

theorem unp_plL (T : ByteArray) : ∀ (k : Nat) (l : List UInt8), l.length ≤ k → ∀ (pre r o : List UInt8) (F : Nat), T.data.toList = pre ++ (plL l ++ r) → o.length + l.length ≤ 4096 → T.size < pre.length + F → ∃ F', T.size < pre.length + (plL l).length + F' ∧ unpG T F pre.length o = unpG T F' (pre.length + (plL l).length) (o ++ l) := by
  intro k
  induction k with
  | zero =>
    intro l hk pre r o F hT ho hF
    have : l = [] := List.eq_nil_of_length_eq_zero (by omega)
    subst this
    rw [plL_nil]
    exact ⟨F, by simpa using hF, by simp⟩
  | succ k ih =>
    intro l hk pre r o F hT ho hF
    by_cases h0 : 0 < l.length
    · obtain ⟨n, hn⟩ : ∃ n, n = min l.length 128 := ⟨_, rfl⟩
      have hp := plL_step l n h0 hn
      rw [hp] at hT
      have hb : bt T pre.length = n - 1 := by
        rw [bt_at (T := T) (out := pre) (r := l.take n ++ plL (l.drop n) ++ r) (x := UInt8.ofNat (n - 1)) (by rw [hT]; simp), UInt8.toNat_ofNat']
        omega
      have hT2 : T.data.toList = pre ++ [UInt8.ofNat (n - 1)] ++ l.take n ++ (plL (l.drop n) ++ r) := by rw [hT]; simp
      have htl : (l.take n).length = n := by rw [List.length_take]; omega
      have hsz : pre.length + (n - 1) + 2 ≤ T.size := by
        rw [← sz_list, hT2]
        simp only [List.length_append, List.length_cons, List.length_nil, htl]
        omega
      obtain ⟨F1, rfl⟩ : ∃ F1, F = F1 + 1 := ⟨F - 1, by omega⟩
      have hs := unpStep_lit T pre.length o (by omega) (by omega)
      rw [hb, seg_of (T := T) (a := pre ++ [UInt8.ofNat (n - 1)]) (m := l.take n) (r := plL (l.drop n) ++ r) hT2 (by simp) (by rw [htl]; simp; omega)] at hs
      have hg := unpG_go T F1 pre.length _ o _ (by omega) rfl hs (by rw [List.length_append, htl]; omega)
      have hl2 : (pre ++ [UInt8.ofNat (n - 1)] ++ l.take n).length = pre.length + (n - 1) + 2 := by
        simp only [List.length_append, List.length_cons, List.length_nil, htl]
        omega
      obtain ⟨F', h1, h2⟩ := ih (l.drop n) (by rw [List.length_drop]; omega) (pre ++ [UInt8.ofNat (n - 1)] ++ l.take n) r (o ++ l.take n) F1 hT2 (by rw [List.length_append, htl, List.length_drop]; omega) (by omega)
      refine ⟨F', ?_, ?_⟩
      · rw [hp, List.length_cons, List.length_append, htl]
        omega
      · rw [← hg, ← hl2, h2, List.append_assoc o, List.take_append_drop, hp, hl2, List.length_cons, List.length_append, htl]
        congr 1
        omega
    · have : l = [] := List.eq_nil_of_length_eq_zero (by omega)
      subst this
      rw [plL_nil]
      exact ⟨F, by simpa using hF, by simp⟩

theorem mat_ok (s : ByteArray) (at_ d most : Nat) : ∀ f n, most - n ≤ f → (∀ i, i < n → bt s (at_ + i) = bt s (at_ + i - d)) → ∀ i, i < mat s at_ d most n → bt s (at_ + i) = bt s (at_ + i - d)
  | 0, n, h, hn, i, hi => by rw [mat_end s at_ d most n (by omega)] at hi; exact hn i hi
  | f + 1, n, h, hn, i, hi => by
    by_cases hlt : n < most
    · by_cases he : bt s (at_ + n) = bt s (at_ + n - d)
      · rw [mat_yes s at_ d most n hlt he] at hi
        refine mat_ok s at_ d most f (n + 1) (by omega) (fun j hj => ?_) i hi
        by_cases e : j = n
        · rw [e]; exact he
        · exact hn j (by omega)
      · rw [mat_ne s at_ d most n he] at hi; exact hn i hi
    · rw [mat_end s at_ d most n hlt] at hi; exact hn i hi
theorem ml_ok (s : ByteArray) (at_ d most : Nat) : ∀ i, i < ml s at_ d most → bt s (at_ + i) = bt s (at_ + i - d) := mat_ok s at_ d most most 0 (by omega) (fun i hi => absurd hi (by omega))
theorem bestR_ok (s : ByteArray) (at_ most D : Nat) : ∀ f d best far, D + 1 - d ≤ f → 1 ≤ d → (best = 0 ∨ (1 ≤ far ∧ far ≤ D ∧ best = ml s at_ far most)) → ((bestR s at_ most D d best far).1 = 0 ∨ (1 ≤ (bestR s at_ most D d best far).2 ∧ (bestR s at_ most D d best far).2 ≤ D ∧ (bestR s at_ most D d best far).1 = ml s at_ (bestR s at_ most D d best far).2 most))
  | 0, d, best, far, h, h1, hb => by rw [bestR, dif_neg (by omega)]; exact hb
  | f + 1, d, best, far, h, h1, hb => by
    by_cases hd : d ≤ D
    · rw [bestR, dif_pos hd]
      split
      · exact bestR_ok s at_ most D f (d + 1) _ d (by omega) (by omega) (.inr ⟨h1, hd, rfl⟩)
      · exact bestR_ok s at_ most D f (d + 1) best far (by omega) (by omega) hb
    · rw [bestR, dif_neg hd]; exact hb
theorem refer_ok (s : ByteArray) (at_ n d : Nat) (h : refer s at_ = (n, d)) (h3 : ¬ n < 3) : 1 ≤ d ∧ d ≤ 255 ∧ d ≤ at_ ∧ n ≤ 130 ∧ n ≤ s.size - at_ ∧ ∀ i, i < n → bt s (at_ + i) = bt s (at_ + i - d) := by
  have hb := refer_bd s at_
  have hk := bestR_ok s at_ (mostAt s at_) (farAt at_) (farAt at_ + 1) 1 0 0 (by omega) (by omega) (.inl rfl)
  have e : bestR s at_ (mostAt s at_) (farAt at_) 1 0 0 = (n, d) := h
  rw [h] at hb
  rw [e] at hk
  simp only [mostAt, farAt] at hb
  rcases hk with hk | ⟨k1, k2, k3⟩
  · simp only at hk; omega
  · simp only at k1 k2 k3
    simp only [farAt] at k2
    refine ⟨k1, by omega, by omega, by omega, by omega, fun i hi => ?_⟩
    exact ml_ok s at_ d (mostAt s at_) i (by omega)
theorem seg_getD (s : ByteArray) (n k : Nat) (h : k < n) (h2 : n ≤ s.size) : (seg s 0 n).getD k 0 = UInt8.ofNat (bt s k) := by
  have h3 : k < s.data.toList.length := by rw [sz_list]; omega
  have e : (seg s 0 n).getD k 0 = s.data.toList.getD k 0 := by
    rw [seg_tk, List.drop_zero, Nat.sub_zero, List.getD_eq_getElem?_getD, List.getD_eq_getElem?_getD, List.getElem?_take_of_lt h]
  rw [e, bt]
  exact UInt8.toNat_inj.1 (by rw [UInt8.toNat_ofNat']; have := (s.data.toList.getD k 0).toNat_lt; omega)
theorem cpyBack_seg (s : ByteArray) (d : Nat) (hd : 1 ≤ d) : ∀ n at_, d ≤ at_ → at_ + n ≤ s.size → (∀ i, i < n → bt s (at_ + i) = bt s (at_ + i - d)) → cpyBack d n (seg s 0 at_) = seg s 0 (at_ + n)
  | 0, at_, _, _, _ => rfl
  | n + 1, at_, h1, h2, h => by
    have hl : (seg s 0 at_).length = at_ := by rw [seg_length s _ _ (by omega)]; omega
    have h0 : bt s at_ = bt s (at_ - d) := h 0 (by omega)
    have e1 : seg s 0 (at_ + 1) = seg s 0 at_ ++ [UInt8.ofNat (bt s at_)] := by
      rw [seg_more, seg_rep s at_ 1 (by omega) (fun i hi => by rw [show i = 0 by omega]; rfl)]
      rfl
    rw [cpyBack, hl, seg_getD s at_ (at_ - d) (by omega) (by omega), ← h0, ← e1, cpyBack_seg s d hd n (at_ + 1) (by omega) (by omega) (fun i hi => by
      have := h (i + 1) (by omega)
      rw [show at_ + 1 + i = at_ + (i + 1) by omega]
      exact this)]
    congr 1
    omega

theorem pbG_pre (s : ByteArray) : ∀ (f at_ from_ : Nat) (out : List UInt8), s.size - at_ ≤ f → at_ ≤ s.size → ∃ t, pbG s at_ from_ out = out ++ t
  | 0, at_, from_, out, hf, h2 => ⟨_, pbG_end s at_ from_ out _ (by omega) rfl⟩
  | f + 1, at_, from_, out, hf, h2 => by
    by_cases h : at_ < s.size
    · rcases hnd : refer s at_ with ⟨n, d⟩
      by_cases h3 : n < 3
      · rw [← pbG_skip s at_ from_ out _ h n d hnd h3 rfl]
        exact pbG_pre s f (at_ + 1) from_ out (by omega) (by omega)
      · have hb := refer_ok s at_ n d hnd h3
        rw [← pbG_ref s at_ from_ out _ h n d hnd h3 rfl]
        obtain ⟨t, ht⟩ := pbG_pre s f (at_ + n) (at_ + n) ((out ++ plL (seg s from_ at_)) ++ [UInt8.ofNat (n + 125), UInt8.ofNat d]) (by omega) (by omega)
        exact ⟨_, by rw [ht, List.append_assoc, List.append_assoc]⟩
    · exact ⟨_, pbG_end s at_ from_ out _ h rfl⟩
theorem pbG_len2 (s : ByteArray) : ∀ (f at_ from_ : Nat) (out : List UInt8), s.size - at_ ≤ f → from_ ≤ at_ → at_ ≤ s.size → (pbG s at_ from_ out).length ≤ out.length + 2 * (s.size - from_)
  | 0, at_, from_, out, hf, h1, h2 => by
    have he := pbG_end s at_ from_ out _ (by omega) rfl
    have hp := plL_len (seg s from_ s.size).length (seg s from_ s.size) (Nat.le_refl _)
    rw [seg_length s _ _ (Nat.le_refl _)] at hp
    rw [he, List.length_append]
    omega
  | f + 1, at_, from_, out, hf, h1, h2 => by
    by_cases h : at_ < s.size
    · rcases hnd : refer s at_ with ⟨n, d⟩
      by_cases h3 : n < 3
      · have := pbG_len2 s f (at_ + 1) from_ out (by omega) (by omega) (by omega)
        rw [pbG_skip s at_ from_ out _ h n d hnd h3 rfl] at this
        exact this
      · have hb := (refer_bd s at_).1
        rw [hnd] at hb
        have hb' : n ≤ min 130 (s.size - at_) := hb
        have := pbG_len2 s f (at_ + n) (at_ + n) ((out ++ plL (seg s from_ at_)) ++ [UInt8.ofNat (n + 125), UInt8.ofNat d]) (by omega) (Nat.le_refl _) (by omega)
        rw [pbG_ref s at_ from_ out _ h n d hnd h3 rfl] at this
        have hp := plL_len (seg s from_ at_).length (seg s from_ at_) (Nat.le_refl _)
        rw [seg_length s _ _ (by omega)] at hp
        rw [List.length_append, List.length_append] at this
        simp only [List.length_cons, List.length_nil] at this
        omega
    · have he := pbG_end s at_ from_ out _ h rfl
      have hp := plL_len (seg s from_ s.size).length (seg s from_ s.size) (Nat.le_refl _)
      rw [seg_length s _ _ (Nat.le_refl _)] at hp
      rw [he, List.length_append]
      omega
theorem unp_pbG (s T : ByteArray) (hs : s.size ≤ 4096) : ∀ (f at_ from_ : Nat) (out : List UInt8) (F : Nat), s.size - at_ ≤ f → from_ ≤ at_ → at_ ≤ s.size → pbG s at_ from_ out = T.data.toList → T.size < out.length + F → unpG T F out.length (seg s 0 from_) = some s.data.toList := by
  have fin : ∀ (at_ from_ : Nat) (out : List UInt8) (F : Nat), ¬ at_ < s.size → from_ ≤ s.size → pbG s at_ from_ out = T.data.toList → T.size < out.length + F → unpG T F out.length (seg s 0 from_) = some s.data.toList := by
    intro at_ from_ out F h h1 hT hF
    have he := pbG_end s at_ from_ out _ h hT
    have hl := seg_length s from_ s.size (Nat.le_refl _)
    have hl0 := seg_length s 0 from_ h1
    obtain ⟨F', h3, h4⟩ := unp_plL T _ (seg s from_ s.size) (Nat.le_refl _) out [] (seg s 0 from_) F (by rw [he]; simp) (by omega) hF
    obtain ⟨m, hm⟩ : ∃ m, s.size = from_ + m := ⟨s.size - from_, by omega⟩
    rw [h4, unpG_end T F' _ _ (by rw [← sz_list T, he]; simp) rfl, hm, ← seg_more, seg_full s (by omega)]
  intro f
  induction f with
  | zero => intro at_ from_ out F hf h1 h2 hT hF; exact fin at_ from_ out F (by omega) (by omega) hT hF
  | succ f ih =>
    intro at_ from_ out F hf h1 h2 hT hF
    by_cases h : at_ < s.size
    · rcases hnd : refer s at_ with ⟨n, d⟩
      by_cases h3 : n < 3
      · exact ih (at_ + 1) from_ out F (by omega) (by omega) (by omega) (pbG_skip s at_ from_ out _ h n d hnd h3 hT) hF
      · obtain ⟨b1, b2, b3, b4, b5, b6⟩ := refer_ok s at_ n d hnd h3
        have hp := pbG_ref s at_ from_ out _ h n d hnd h3 hT
        obtain ⟨t, ht⟩ := pbG_pre s f (at_ + n) (at_ + n) ((out ++ plL (seg s from_ at_)) ++ [UInt8.ofNat (n + 125), UInt8.ofNat d]) (by omega) (by omega)
        rw [hp] at ht
        have hl := seg_length s from_ at_ (by omega)
        have hl0 := seg_length s 0 from_ (by omega)
        obtain ⟨F', h4, h5⟩ := unp_plL T _ (seg s from_ at_) (Nat.le_refl _) out ([UInt8.ofNat (n + 125), UInt8.ofNat d] ++ t) (seg s 0 from_) F (by rw [ht]; simp) (by omega) hF
        obtain ⟨m, hm⟩ : ∃ m, at_ = from_ + m := ⟨at_ - from_, by omega⟩
        have e0 : seg s 0 from_ ++ seg s from_ at_ = seg s 0 at_ := by rw [hm, ← seg_more]
        rw [h5, e0]
        have hpos : out.length + (plL (seg s from_ at_)).length = (out ++ plL (seg s from_ at_)).length := by rw [List.length_append]
        rw [hpos] at h4 ⊢
        generalize out ++ plL (seg s from_ at_) = q at *
        have hT1 : T.data.toList = q ++ UInt8.ofNat (n + 125) :: UInt8.ofNat d :: t := by rw [ht]; simp
        have hb : bt T q.length = n + 125 := by
          rw [bt_at hT1, UInt8.toNat_ofNat']
          omega
        have hT2 : T.data.toList = (q ++ [UInt8.ofNat (n + 125)]) ++ UInt8.ofNat d :: t := by rw [hT1]; simp
        have hd : bt T (q.length + 1) = d := by
          have := bt_at hT2
          rw [List.length_append, List.length_singleton, UInt8.toNat_ofNat'] at this
          omega
        have hsz : q.length + 1 < T.size := by rw [← sz_list, hT1]; simp
        obtain ⟨F1, rfl⟩ : ∃ F1, F' = F1 + 1 := ⟨F' - 1, by omega⟩
        have hl1 : (seg s 0 at_).length = at_ := by rw [seg_length s _ _ (by omega)]; omega
        have hst := unpStep_ref T q.length (seg s 0 at_) (by omega) hsz (by omega) (by rw [hd, hl1]; exact b3)
        rw [hb, hd, show n + 125 - 125 = n by omega, cpyBack_seg s d b1 n at_ b3 (by omega) b6] at hst
        have hl2 : (seg s 0 (at_ + n)).length = at_ + n := by rw [seg_length s _ _ (by omega)]; omega
        rw [← unpG_go T F1 q.length _ (seg s 0 at_) _ (by omega) rfl hst (by omega)]
        have h6 := ih (at_ + n) (at_ + n) (q ++ [UInt8.ofNat (n + 125), UInt8.ofNat d]) F1 (by omega) (Nat.le_refl _) (by omega) hp (by simp only [List.length_append, List.length_cons, List.length_nil]; omega)
        simpa using h6
    · exact fin at_ from_ out F h (by omega) hT hF
theorem unp_pack (s : ByteArray) (h : s.size ≤ 4096) : ∃ R, packB s = some R ∧ unp ⟨R.toArray⟩ = some s.data.toList := by
  refine ⟨_, packB_yes s (by omega), ?_⟩
  have hl := pbG_len2 s s.size 0 0 [] (by omega) (by omega) (by omega)
  have hz := sz_list ⟨(pbG s 0 0 []).toArray⟩
  have e : (⟨(pbG s 0 0 []).toArray⟩ : ByteArray).data.toList = pbG s 0 0 [] := by simp
  rw [e] at hz
  simp only [List.length_nil] at hl
  rw [← unp_start _ (by omega)]
  have := unp_pbG s ⟨(pbG s 0 0 []).toArray⟩ h s.size 0 0 [] ((⟨(pbG s 0 0 []).toArray⟩ : ByteArray).size + 1) (by omega) (by omega) (by omega) e.symm (by simp)
  rw [seg_0] at this
  exact this
end Go.Proofs.Ytjahgknehamlpaa
namespace Go.Proofs.Ytjahgknehamlpaa
set_option linter.unusedVariables false
open Go.RowKit

theorem own_drew1 {w : World} {base : Nat} {e : TypeId} {size n : Nat} {v : Value} {xs : List Value} (h : w.ownsRow base e size v n xs) (a : Nat) : (w.drewN a).ownsRow base e size v n xs := h

set_option maxRecDepth 100000 in
set_option maxHeartbeats 1000000 in
theorem deltasOf_any (a b : ByteArray) (w : World) (hs : a.size = b.size) (hs2 : a.size ≤ 4096) :
    Calls Try.prog 55 #[.string a, .string b] w fun e w' => ∃ v, e = .returned v ∧ w'.ownsRow w.heap.size 90 2 v (dls a b 0).length (flat fDelta (dls a b 0)) ∧ Below w.heap.size w w' := by
  go_enter Try.func55, Try.ntmps55
  go_wp2
  go_loopw [5, 6, 7] (fun v i _ wr => ∃ (p : Nat) (out : List DDelta), p ≤ a.size + 1 ∧ out.length ≤ p ∧ i = .int .i64 p ∧ wr.ownsRow w.heap.size 90 2 v out.length (flat fDelta out) ∧ Below w.heap.size w wr ∧ Hid (out ++ dls a b p = dls a b 0)) (fun _ i _ _ => a.size + 1 - (intOf i).toNat)
  case atStart => exact ⟨0, [], by omega, by simp, rfl, World.ownsRow_nil _ _ _ _, Below.refl _ _, Lib.hid rfl⟩
  case round =>
    obtain ⟨p, out, hp, hol, rfl, hown, hb, HI⟩ := hrel
    have hsz := hb.size
    by_cases hlt : p < a.size
    · go_wp2
      go_loopw [7] (fun j wr' => ∃ n q : Nat, p + n ≤ a.size ∧ j = .int .i64 n ∧ wr' = wr.drewN q ∧ Hid (n + dif a b (p + n) = dif a b p)) (fun j _ => a.size - (intOf j).toNat)
      case atStart => exact ⟨0, 0, by omega, rfl, rfl, Lib.hid (by simp)⟩
      case round =>
        obtain ⟨n, q, hn, rfl, rfl, HL⟩ := hrel
        have hi2 : (0 : Int) ≤ (p : Int) + n := by omega
        by_cases hl2 : p + n < a.size
        · have ea := bt_eq a (p + n) hl2
          have eb := bt_eq b (p + n) (by omega)
          have hba := bt_lt a (p + n)
          have hbb := bt_lt b (p + n)
          have hi1 : (p : Int) + n < a.size := by omega
          have hi3 : (p : Int) + n < b.size := by omega
          by_cases heq : bt a (p + n) = bt b (p + n)
          · have HD := Lib.hid (show n = dif a b p by have := dif_eq a b (p + n) heq; have h2 := HL.out; omega)
            have g1 : (((bt a (p + n) : Nat) : Int) != ((bt b (p + n) : Nat) : Int)) = false := by simp; omega
            have g2 : (bt a (p + n) != bt b (p + n)) = false := by simp; omega
            have g3 : (((bt a (p + n) : Nat) : Int) == ((bt b (p + n) : Nat) : Int)) = true := by simp; omega
            have g4 : (bt a (p + n) == bt b (p + n)) = true := by simp; omega
            clear heq
            have hw1 : IntKind.i64.wrap ((p : Int) + n) = (p : Int) + n := IntWalk.i64_in _ (by omega)
            have hw3 : ((p : Int) + n).toNat = p + n := by omega
            by_cases hn0 : n = 0
            · have HN := Lib.hid (dls_none a b p out _ hlt (by have := HD.out; omega) HI.out)
              have gn : decide ((0 : Int) < (n : Int)) = false := by simp; omega
              have gn2 : decide (0 < n) = false := by simp; omega
              have gn3 : ¬ 0 < n := by omega
              clear hn0
              go_wp2_with fail
              go_quiet (fail)
              clear hw1 hw3
              go_wp2
              go_roundw
              case rel => exact ⟨p + 1, out, by omega, by omega, by go_num, own_drew1 hown _, (by repeat (first | exact Below.refl _ _ | refine below_step ?_ (by assumption) | assumption | refine Below.drew ?_ | refine below_drewN ?_ _ | refine below_alloc ?_ _ | refine Below.setCell ?_ (by simp; try omega) _)), HN⟩
              case measure => (simp [intOf] <;> omega)
            · have HN := Lib.hid (dls_some a b p n out _ hlt (by omega) HD.out HI.out)
              have gn : (0 : Int) < (n : Int) := by omega
              have gn2 : 0 < n := by omega
              have hpn : p + n ≤ b.size := by omega
              go_wp2_with (first
                | fail
                | (at_builtin; refine wpList_appF rfl _ _ _ rfl eltDelta (by omega) _ out rfl (own_drew1 hown _) _ _ ⟨(p : Int), b.extract p (p + n)⟩ _ rfl rfl rfl (by intro u hu; simp only [fDelta, List.mem_cons, List.not_mem_nil, or_false] at hu; rcases hu with rfl | rfl <;> rfl) (by omega) hsz ?_; intro v3 w3 hown3 hg3 hat3 hbl3))
              go_quiet (fail)
              clear hw1 hw3
              go_wp2_with (first
                | fail
                | (at_builtin; refine wpList_appF rfl _ _ _ rfl eltDelta (by omega) _ out rfl (own_drew1 hown _) _ _ ⟨(p : Int), b.extract p (p + n)⟩ _ rfl rfl rfl (by intro u hu; simp only [fDelta, List.mem_cons, List.not_mem_nil, or_false] at hu; rcases hu with rfl | rfl <;> rfl) (by omega) hsz ?_; intro v3 w3 hown3 hg3 hat3 hbl3))
              go_roundw
              case rel => exact ⟨p + n + 1, _, by omega, by simp; omega, by go_num, hown3, (below_drewN hb _).trans hbl3, HN⟩
              case measure => (simp [intOf] <;> omega)
          · have HN := Lib.hid (show (n + 1) + dif a b (p + (n + 1)) = dif a b p by have := dif_yes a b (p + n) hl2 heq; have h2 := HL.out; rw [show p + (n + 1) = p + n + 1 by omega]; omega)
            have g1 : (((bt a (p + n) : Nat) : Int) != ((bt b (p + n) : Nat) : Int)) = true := by simp; omega
            have g2 : (bt a (p + n) != bt b (p + n)) = true := by simp; omega
            have g3 : (((bt a (p + n) : Nat) : Int) == ((bt b (p + n) : Nat) : Int)) = false := by simp; omega
            have g4 : (bt a (p + n) == bt b (p + n)) = false := by simp; omega
            clear heq
            have hw1 : IntKind.i64.wrap ((p : Int) + n) = (p : Int) + n := IntWalk.i64_in _ (by omega)
            have hw3 : ((p : Int) + n).toNat = p + n := by omega
            go_wp2_with fail
            go_quiet (fail)
            clear hw1 hw3
            go_wp2
            go_roundw
            case rel => exact ⟨n + 1, _, by omega, by go_num, rfl, HN⟩
            case measure => (simp [intOf] <;> omega)
        · have HD := Lib.hid (show n = dif a b p by have := dif_end a b (p + n) hl2; have h2 := HL.out; omega)
          have g3 : decide ((p : Int) + n < a.size) = false := by simp; omega
          have g4 : decide ((p : Int) + n < b.size) = false := by simp; omega
          have hw1 : IntKind.i64.wrap ((p : Int) + n) = (p : Int) + n := IntWalk.i64_in _ (by omega)
          have hw3 : ((p : Int) + n).toNat = p + n := by omega
          by_cases hn0 : n = 0
          · have HN := Lib.hid (dls_none a b p out _ hlt (by have := HD.out; omega) HI.out)
            have gn : decide ((0 : Int) < (n : Int)) = false := by simp; omega
            have gn2 : decide (0 < n) = false := by simp; omega
            have gn3 : ¬ 0 < n := by omega
            clear hn0
            go_wp2_with fail
            go_quiet (fail)
            clear hw1 hw3
            go_wp2
            go_roundw
            case rel => exact ⟨p + 1, out, by omega, by omega, by go_num, own_drew1 hown _, (by repeat (first | exact Below.refl _ _ | refine below_step ?_ (by assumption) | assumption | refine Below.drew ?_ | refine below_drewN ?_ _ | refine below_alloc ?_ _ | refine Below.setCell ?_ (by simp; try omega) _)), HN⟩
            case measure => (simp [intOf] <;> omega)
          · have HN := Lib.hid (dls_some a b p n out _ hlt (by omega) HD.out HI.out)
            have gn : (0 : Int) < (n : Int) := by omega
            have gn2 : 0 < n := by omega
            have hpn : p + n ≤ b.size := by omega
            go_wp2_with (first
              | fail
              | (at_builtin; refine wpList_appF rfl _ _ _ rfl eltDelta (by omega) _ out rfl (own_drew1 hown _) _ _ ⟨(p : Int), b.extract p (p + n)⟩ _ rfl rfl rfl (by intro u hu; simp only [fDelta, List.mem_cons, List.not_mem_nil, or_false] at hu; rcases hu with rfl | rfl <;> rfl) (by omega) hsz ?_; intro v3 w3 hown3 hg3 hat3 hbl3))
            go_quiet (fail)
            clear hw1 hw3
            go_wp2_with (first
              | fail
              | (at_builtin; refine wpList_appF rfl _ _ _ rfl eltDelta (by omega) _ out rfl (own_drew1 hown _) _ _ ⟨(p : Int), b.extract p (p + n)⟩ _ rfl rfl rfl (by intro u hu; simp only [fDelta, List.mem_cons, List.not_mem_nil, or_false] at hu; rcases hu with rfl | rfl <;> rfl) (by omega) hsz ?_; intro v3 w3 hown3 hg3 hat3 hbl3))
            go_roundw
            case rel => exact ⟨p + n + 1, _, by omega, by simp; omega, by go_num, hown3, (below_drewN hb _).trans hbl3, HN⟩
            case measure => (simp [intOf] <;> omega)
    · have HR := Lib.hid (dls_end a b p out _ hlt HI.out)
      go_wp2
      go_ret
      exact ⟨_, rfl, by rw [← HR.out]; exact hown, hb⟩
end Go.Proofs.Ytjahgknehamlpaa
namespace Go.Proofs.Ytjahgknehamlpaa
set_option linter.unusedVariables false
open Go.RowKit

set_option maxRecDepth 100000 in
set_option maxHeartbeats 1000000 in
theorem impl_DeltasOf_no (a b : ByteArray) (w : World) (h : deltas a b = none) (hs : a.size ≤ 1048576) (hs2 : b.size ≤ 1048576) :
    Calls Try.prog 25 #[.string a, .string b] w fun e w' => ∃ v, e = .returned (.tuple #[v, .bool false]) ∧ w'.ownsRow w.heap.size 90 2 v 0 [] ∧ Below w.heap.size w w' := by
  by_cases h1 : a.size = b.size
  · have h2 : 4096 < a.size := by
      rcases Nat.lt_or_ge 4096 a.size with h2 | h2
      · exact h2
      · rw [deltas_yes a b h1 (by omega)] at h
        cases h
    have g2 : 4096 < b.size := by omega
    have g3 : (4096 : Int) < (b.size : Int) := by omega
    have g4 : (4096 : Int) < (a.size : Int) := by omega
    go_enter Try.func25, Try.ntmps25
    go_wp2
    go_ret2
    exact ⟨_, rfl, World.ownsRow_nil _ _ _ _, Below.refl _ _⟩
  · have g1 : (((a.size : Nat) : Int) != ((b.size : Nat) : Int)) = true := by simp; omega
    have g2 : (a.size != b.size) = true := by simp; omega
    have g3 : (((a.size : Nat) : Int) == ((b.size : Nat) : Int)) = false := by simp; omega
    have g4 : (a.size == b.size) = false := by simp; omega
    go_enter Try.func25, Try.ntmps25
    go_wp2
    go_ret2
    exact ⟨_, rfl, World.ownsRow_nil _ _ _ _, Below.refl _ _⟩

set_option maxRecDepth 100000 in
set_option maxHeartbeats 1000000 in
theorem impl_DeltasOf_yes (a b : ByteArray) (w : World) (l : List DDelta) (h : deltas a b = some l) (hs : a.size ≤ 1048576) (hs2 : b.size ≤ 1048576) :
    Calls Try.prog 25 #[.string a, .string b] w fun e w' => ∃ v, e = .returned (.tuple #[v, .bool true]) ∧ w'.ownsRow w.heap.size 90 2 v l.length (flat fDelta l) ∧ Below w.heap.size w w' := by
  obtain ⟨h1, h2⟩ : a.size = b.size ∧ ¬ 4096 < a.size := by
    by_cases hc : ¬ a.size = b.size ∨ 4096 < a.size
    · rw [deltas_no a b hc] at h; cases h
    · omega
  have hl : l = dls a b 0 := by rw [deltas_yes a b h1 h2] at h; injection h with h; exact h.symm
  have HL := Lib.hid hl
  clear h hl
  go_enter Try.func25, Try.ntmps25
  go_wp2_with (first | (go_at_call 55; refine (deltasOf_any a b _ h1 (by omega)).mono ?_; rintro e w1 ⟨v1, rfl, ho1, hx⟩))
  go_ret2
  exact ⟨_, rfl, by rw [HL.out]; exact ho1, hx⟩

theorem dls_len (a b : ByteArray) : ∀ n p, a.size - p ≤ n → (dls a b p).length ≤ n
  | 0, p, h => by rw [dls, dif_neg (by omega)]; simp
  | n + 1, p, h => by
    by_cases hp : p < a.size
    · rw [dls, dif_pos hp, List.length_append]
      have := dls_len a b n (p + dif a b p + 1) (by omega)
      have h2 : (difItem a b p).length ≤ 1 := by unfold difItem; split <;> simp
      omega
    · rw [dls, dif_neg hp]; simp
def dlL (a b : ByteArray) : List DDelta := (deltas a b).getD []
theorem dlL_len (a b : ByteArray) : (dlL a b).length ≤ 4096 := by
  unfold dlL
  by_cases hc : ¬ a.size = b.size ∨ 4096 < a.size
  · rw [deltas_no a b hc]; simp
  · rw [deltas_yes a b (by omega) (by omega)]
    have := dls_len a b a.size 0 (by omega)
    simp only [Option.getD_some]
    omega
theorem impl_DeltasOf_any (a b : ByteArray) (w : World) (hs : a.size ≤ 1048576) (hs2 : b.size ≤ 1048576) :
    Calls Try.prog 25 #[.string a, .string b] w fun e w' => ∃ v, e = .returned (.tuple #[v, .bool (deltas a b).isSome]) ∧ w'.ownsRow w.heap.size 90 2 v (dlL a b).length (flat fDelta (dlL a b)) ∧ Below w.heap.size w w' := by
  unfold dlL
  cases h : deltas a b with
  | none => exact impl_DeltasOf_no a b w h hs hs2
  | some l => exact impl_DeltasOf_yes a b w l h hs hs2
end Go.Proofs.Ytjahgknehamlpaa
namespace Go.Proofs.Ytjahgknehamlpaa
set_option linter.unusedVariables false
open Go.RowKit

set_option maxRecDepth 100000 in
set_option maxHeartbeats 1000000 in
theorem b10Nums_any (A A' : Option Addr) (c c' : Nat) (l : List Int) (w : World) (B : Nat) (h : Rd w B 1 A l.length (flat fI l)) (h' : Rd w B 1 A' l.length (flat fI l)) (hn : l.length ≤ 1048576) :
    Calls Try.prog 23 #[.slice A l.length c, .slice A' l.length c'] w fun e w' => e = .returned (.bool true) ∧ ∃ n, w' = w.drewN n := by
  go_enter Try.func23, Try.ntmps23
  go_wp2
  go_loopw [5] (fun i wr => ∃ k n : Nat, k ≤ l.length ∧ i = .int .i64 k ∧ wr = w.drewN n) (fun i _ => l.length - (intOf i).toNat)
  case atStart => exact ⟨0, 0, Nat.zero_le _, rfl, rfl⟩
  case round =>
    obtain ⟨k, n, hk, rfl, rfl⟩ := hrel
    by_cases hlt : k < l.length
    · obtain ⟨b, off, rfl, hbb, hc⟩ := h.at_ fI_len rfl k hlt
      obtain ⟨b', off', rfl, hbb', hc'⟩ := h'.at_ fI_len rfl k hlt
      have hc0 := hc 0 _ (by omega) rfl
      have hc0' := hc' 0 _ (by omega) rfl
      simp only [Nat.mul_one, Nat.add_zero] at hc0 hc0'
      have g1 : (l[k] == l[k]) = true := by simp
      go_wp2_with fail
      go_quiet (fail)
      go_wp2
      go_roundw
      case rel => exact ⟨k + 1, _, by omega, by go_num, rfl⟩
      case measure => (simp [intOf] <;> omega)
    · go_wp2
      go_ret
      exact ⟨rfl, _, rfl⟩
theorem ba_eq (s : ByteArray) : (⟨s.data.toList.toArray⟩ : ByteArray) = s := by
  obtain ⟨d⟩ := s
  simp
theorem pk1 (s : ByteArray) (h : s.size ≤ 4096) : ∃ T : ByteArray, resB (pkr s) = .tuple #[.string T, .bool true] ∧ resB (ur T) = .tuple #[.string s, .bool true] ∧ T.size ≤ 8192 := by
  obtain ⟨R, h1, h2⟩ := ur_pkr s h
  refine ⟨⟨R.toArray⟩, by rw [h1]; rfl, by rw [h2]; show _ = Value.tuple #[.string s, .bool true]; rw [← ba_eq s]; simp [resB], ?_⟩
  by_cases hb : 8192 < (⟨R.toArray⟩ : ByteArray).size
  · rw [ur_big _ hb] at h2
    cases h2
  · omega
theorem pk2 (s : ByteArray) (h : s.size ≤ 4096) : ∃ T : ByteArray, resB (packB s) = .tuple #[.string T, .bool true] ∧ resB (unp T) = .tuple #[.string s, .bool true] ∧ T.size ≤ 8192 := by
  obtain ⟨R, h1, h2⟩ := unp_pack s h
  refine ⟨⟨R.toArray⟩, by rw [h1]; rfl, by rw [h2]; show _ = Value.tuple #[.string s, .bool true]; rw [← ba_eq s]; simp [resB], ?_⟩
  by_cases hb : 8192 < (⟨R.toArray⟩ : ByteArray).size
  · rw [unp_big _ hb] at h2
    cases h2
  · omega
theorem pgl_len : ∀ (l : List Int) (last : Int), (∀ g ∈ l, 1 ≤ g ∧ g ≤ 2000000) → 0 ≤ last → last ≤ 2000000 → (pgl last l).length ≤ 4 * l.length
  | [], _, _, _, _ => by simp [pgl]
  | g :: r, last, h, h0, h1 => by
    have hg := h g (List.mem_cons_self ..)
    have hz := zig_lt (g - last) (by omega) (by omega)
    have hv := vb_len _ hz
    have := pgl_len r g (fun x hx => h x (List.mem_cons_of_mem _ hx)) (by omega) (by omega)
    rw [pgl, List.length_append, List.length_cons]
    omega
theorem pk3 (l : List Int) : resB (packGaps l) = .tuple #[.string ByteArray.empty, .bool false] ∨ ∃ T : ByteArray, resB (packGaps l) = .tuple #[.string T, .bool true] ∧ ug T = some l ∧ T.size ≤ 1048576 := by
  cases hok : okGaps l
  · left
    rw [packGaps_no l hok]
    rfl
  · right
    obtain ⟨h1, h2⟩ := ug_pack l hok
    refine ⟨⟨(pgl 0 l).toArray⟩, by rw [h1]; rfl, h2, ?_⟩
    show (pgl 0 l).toArray.size ≤ 1048576
    rw [List.size_toArray]
    have hin := okGaps_in l hok
    have := pgl_len l 0 (fun g hg => by
      obtain ⟨k, hk, rfl⟩ := List.getElem_of_mem hg
      exact okGap_in _ (hin.2 k hk)) (by omega) (by omega)
    omega
theorem dls_ok (a b : ByteArray) (ha : a.size ≤ 4096) (hb : b.size ≤ 4096) : ∀ (n p : Nat), a.size - p ≤ n → ∀ x ∈ dls a b p, okDelta x
  | n, p, hn, x, hx => by
    by_cases hp : p < a.size
    · obtain ⟨n, rfl⟩ : ∃ m, n = m + 1 := ⟨n - 1, by omega⟩
      rw [dls_step a b p hp, List.mem_append] at hx
      rcases hx with hx | hx
      · unfold difItem at hx
        split at hx
        · rw [List.mem_singleton] at hx
          subst hx
          have hsz : (b.extract p (p + dif a b p)).size ≤ 4096 := by rw [ByteArray.size_extract]; omega
          simp only [okDelta, maxLen]
          omega
        · cases hx
      · exact dls_ok a b ha hb n (p + dif a b p + 1) (by omega) x hx
    · rw [dls, dif_neg hp] at hx
      cases hx
theorem pk4 (p q : ByteArray) (hp : p.size ≤ 598) (hq : q.size ≤ 599) : ((deltas p q).isSome = false ∧ ((p.size : Int) != (q.size : Int)) = true) ∨ ((deltas p q).isSome = true ∧ resB (apD p (dlL p q)) = .tuple #[.string q, .bool true] ∧ ∀ x ∈ dlL p q, okDelta x) := by
  by_cases hs : p.size = q.size
  · right
    obtain ⟨h1, h2⟩ := apD_deltas p q hs (by omega)
    have e : dlL p q = dls p q 0 := by unfold dlL; rw [h1]; rfl
    refine ⟨by rw [h1]; rfl, by rw [e, h2]; show _ = Value.tuple #[.string q, .bool true]; rw [← ba_eq q]; simp [resB], ?_⟩
    rw [e]
    exact dls_ok p q (by omega) (by omega) p.size 0 (by omega)
  · left
    refine ⟨by rw [deltas_no p q (.inl hs)]; rfl, ?_⟩
    simp
    omega
end Go.Proofs.Ytjahgknehamlpaa
namespace Go.Proofs.Ytjahgknehamlpaa
set_option linter.unusedVariables false
open Go.RowKit

set_option maxRecDepth 100000 in
set_option maxHeartbeats 1000000 in
theorem impl_PackGaps_any (A : Option Addr) (c : Nat) (l : List Int) (w : World) (h : Rd w w.heap.size 1 A l.length (flat fI l)) (hn : l.length ≤ 1048576) :
    Calls Try.prog 21 #[.slice A l.length c] w fun e w' => e = .returned (resB (packGaps l)) ∧ Below w.heap.size w w' := by
  by_cases hbig : 4000 < l.length
  · have HR := Lib.hid (packGaps_no l (okGaps_long l hbig))
    go_enter Try.func21, Try.ntmps21
    go_wp2
    go_ret2
    exact ⟨by rw [HR.out]; rfl, Below.refl _ _⟩
  · go_enter Try.func21, Try.ntmps21
    go_wp2
    go_loopw [4, 5, 7, 8, 14] (fun v la _ _ i wr => ∃ (k : Nat) (last : Int) (out : List UInt8), k ≤ l.length ∧ out.length ≤ 4 * k ∧ 0 ≤ last ∧ last ≤ 2000000 ∧ i = .int .i64 k ∧ la = .int .i64 last ∧ OwnB wr w.heap.size 5 v out ∧ Below w.heap.size w wr ∧ Hid (∀ j, (hj : j < k) → (hj' : j < l.length) → okGap l[j] = true) ∧ Hid (out ++ pgl last (l.drop k) = pgl 0 l))
      (fun _ _ _ _ i _ => l.length - (intOf i).toNat)
    case atStart => exact ⟨0, 0, [], Nat.zero_le _, by simp, by omega, by omega, rfl, rfl, OwnB.nil _ _ _, Below.refl _ _, Lib.hid (fun j hj => absurd hj (by omega)), Lib.hid rfl⟩
    case round =>
      obtain ⟨k, last, out, hk, hlen, hl0, hl1, rfl, rfl, hown, hbel, HA, HI⟩ := hrel
      have hsz := hbel.size
      by_cases hlt : k < l.length
      · obtain ⟨b, off, rfl, hbb, hc⟩ := (h.below hbel).at_ fI_len rfl k hlt
        have hc0 := hc 0 _ (by omega) rfl
        simp only [Nat.mul_one, Nat.add_zero] at hc0
        clear hc
        by_cases hok : okGap l[k] = true
        · have hgi := okGap_in _ hok
          have hlz := zig_lt (l[k] - last) (by omega) (by omega)
          have HP := Lib.hid (pgl_start l k last out _ hlt HI.out)
          have hvl := vb_len _ hlz
          have HA2 := Lib.hid (show ∀ j, (hj : j < k + 1) → (hj' : j < l.length) → okGap l[j] = true from fun j hj hj' => by
            rcases Nat.lt_or_ge j k with h1 | h1
            · exact HA.out j h1 hj'
            · obtain rfl : j = k := by omega
              exact hok)
          obtain ⟨g1, g2⟩ := hgi
          by_cases hneg : 2 * (l[k] - last) < 0
          all_goals
            have hz : _ = _ := (by first | exact zig_neg _ hneg | exact zig_pos _ hneg)
            go_wp2_with (first | (go_at_call 54; refine (within_any l[k] 1 2000000 _).mono ?_; rintro e w1 ⟨rfl, rfl⟩; rw [show inB l[k] 1 2000000 = true from hok]))
            go_loopw [4, 8] (fun v2 n wr' => ∃ (m : Nat) (out2 : List UInt8), n = .int .i64 m ∧ m < 4000001 ∧ OwnB wr' w.heap.size 5 v2 out2 ∧ Below w.heap.size w wr' ∧ Hid (out2 ++ vb m = out ++ vb (zig (l[k] - last)))) (fun _ n _ => (intOf n).toNat)
            case atStart => exact ⟨zig (l[k] - last), out, by rw [hz], hlz, hown, hbel, Lib.hid rfl⟩
            case round =>
              obtain ⟨m, out2, rfl, hm, hown2, hbel2, HD⟩ := hrel
              have hsz2 := hbel2.size
              have hl2 : out2.length ≤ 4 * k + 4 := by
                have := congrArg List.length HD.out
                simp only [List.length_append] at this
                omega
              by_cases hsm : m < 128
              · have HD2 := Lib.hid (vb_done m _ _ hsm HD.out)
                have hl3 := congrArg List.length HD2.out
                simp only [List.length_append, List.length_singleton] at hl3
                go_wp2_with (at_builtin; go_must (refine wpList_appL rfl _ _ _ rfl eltB _ out2 rfl hown2 _ _ [UInt8.ofNat m] 1 1 rfl (impl_cells1 m _ (by first | rfl | omega) (by omega)) rfl (by simp; omega) hsz2 ?_); intro v3 w3 hown3 hg3 hat3 hbl3)
                go_roundw
                case rel => exact ⟨k + 1, l[k], _, by omega, by simp; omega, by omega, by omega, by go_num, rfl, hown3, hbel2.trans hbl3, HA2, Lib.hid (by rw [HD2.out]; exact HP.out)⟩
                case measure => (simp [intOf] <;> omega)
              · have HD2 := Lib.hid (vb_step m _ _ hsm HD.out)
                have e1 : bits .and .i64 (m : Int) 127 = ((m % 128 : Nat) : Int) := by rw [← and127 m]; exact i64_and_nat m 127 (by omega) (by omega)
                have e2 := shr7 m
                have e3 := vb_lt m
                have e4 : m / 128 < m := by omega
                go_wp2_with (at_builtin; go_must (refine wpList_appL rfl _ _ _ rfl eltB _ out2 rfl hown2 _ _ [UInt8.ofNat (m % 128 + 128)] 1 1 rfl (impl_cells1 (m % 128 + 128) _ (by omega) (by omega)) rfl (by simp; omega) hsz2 ?_); intro v3 w3 hown3 hg3 hat3 hbl3)
                go_roundw
                case rel => exact ⟨m / 128, _, by go_num, by omega, hown3, hbel2.trans hbl3, HD2⟩
                case measure => (simp [intOf] <;> omega)
        · have HR := Lib.hid (packGaps_no l (okGaps_bad l k hlt (by simpa using hok)))
          go_wp2_with (first | (go_at_call 54; refine (within_any l[k] 1 2000000 _).mono ?_; rintro e w1 ⟨rfl, rfl⟩; rw [show inB l[k] 1 2000000 = false from by simpa [okGap] using hok]))
          go_ret2
          exact ⟨by rw [HR.out]; rfl, hbel⟩
      · have HR := Lib.hid (pgl_end l k last out _ hlt HI.out)
        have HY := Lib.hid (packGaps_yes l (okGaps_all l (by omega) (fun j hj => HA.out j (by omega) hj)))
        have hcv := run_b2s (P := Try.prog) (dst := 9) Try.underlying22 Try.underlying5 Try.underlying9 hown
        go_wp2
        go_ret2
        exact ⟨by rw [HY.out, ← HR.out]; rfl, hbel⟩
end Go.Proofs.Ytjahgknehamlpaa
namespace Go.Proofs.Ytjahgknehamlpaa
set_option linter.unusedVariables false
open Go.RowKit

theorem okGaps_eq (l : List Int) (h : ∀ k, (hk : k < l.length) → okGap l[k] = true) : okGaps l = decide (l.length ≤ 4000) := by
  by_cases hl : l.length ≤ 4000
  · rw [okGaps_all l hl h]; simp [hl]
  · rw [okGaps_long l (by omega)]; simp [hl]

end Go.Proofs.Ytjahgknehamlpaa
namespace Go.Proofs.Ytjahgknehamlpaa
set_option linter.unusedVariables false
open Go.RowKit

set_option maxRecDepth 100000 in
set_option maxHeartbeats 1000000 in
theorem impl_ApplyDeltas_any (s : ByteArray) (A : Option Addr) (c : Nat) (l : List DDelta) (w : World) (h : Rd w w.heap.size 2 A l.length (flat fDelta l)) (hn : l.length ≤ 1048576) (hs : s.size ≤ 1048576) (hok : ∀ x ∈ l, okDelta x) :
    Calls Try.prog 26 #[.string s, .slice A l.length c] w fun e w' => e = .returned (resB (apD s l)) ∧ Below w.heap.size w w' := by
  by_cases hbig : 4096 < s.size
  · have HR := Lib.hid (apD_big s l hbig)
    go_enter Try.func26, Try.ntmps26
    go_wp2
    go_ret2
    exact ⟨by rw [HR.out]; rfl, Below.refl _ _⟩
  · have HI0 := Lib.hid (apD_small s l hbig)
    have hsl : s.data.toList.length = s.size := by rw [Array.length_toList]; rfl
    have hcv := fun (W : World) => run_bytes_of_string (P := Try.prog) W 9 22 5 s Try.underlying9 Try.underlying22 Try.underlying5
    have hcap := grownCap_ge w s.size 0 5
    have hmk := MarkB.made (e := 5) w.drew s (grownCap w s.size 0 5)
    go_enter Try.func26, Try.ntmps26
    go_wp2
    generalize grownCap w s.size 0 5 = cap at hcap hmk ⊢
    go_loopw [7, 9, 17] (fun en _ i wr => ∃ (k at_ : Nat) (out : List UInt8), k ≤ l.length ∧ i = .int .i64 k ∧ en = .int .i64 at_ ∧ out.length = at_ ∧ at_ ≤ s.size ∧ MarkB wr w.heap.size 5 (out ++ seg s at_ s.size) ∧ Below w.heap.size w wr ∧ Hid (apG s (l.drop k) at_ out = apD s l)) (fun _ _ i _ => l.length - (intOf i).toNat)
    case atStart => exact ⟨0, 0, [], Nat.zero_le _, rfl, rfl, rfl, Nat.zero_le _, by rw [seg_all]; exact hmk, below_alloc (Below.refl _ w).drew _, HI0⟩
    case round =>
      obtain ⟨k, at_, out, hk, rfl, rfl, hol, hat, hm, hb, HI⟩ := hrel
      clear hmk hcv
      by_cases hlt : k < l.length
      · obtain ⟨b, off, rfl, hbb, hc⟩ := (h.below hb).at_ fDelta_len rfl k hlt
        have hc0 := hc 0 _ (by omega) rfl
        have hc1 := hc 1 _ (by omega) rfl
        clear hc
        simp only [← Nat.add_assoc, Nat.add_zero] at hc0 hc1
        by_cases h0 : l[k].f1.size = 0
        · have hR := Lib.hid (apG_bad s l k at_ out hlt (.inl h0) HI.out)
          obtain ⟨g1, g2⟩ := emp_yes _ h0
          go_wp2_with fail
          go_ret2
          exact ⟨by rw [hR.out]; rfl, (by repeat (first | exact Below.refl _ _ | refine below_step ?_ (by assumption) | assumption | refine Below.drew ?_ | refine below_drewN ?_ _ | refine below_alloc ?_ _ | refine Below.setCell ?_ (by simp; try omega) _))⟩
        · obtain ⟨g1, g2⟩ := emp_no _ h0
          have hsz : l[k].f1.size ≤ maxLen := (hok l[k] (List.getElem_mem hlt)).1
          unfold maxLen at hsz
          by_cases hin : inB l[k].f0 at_ ((s.size : Int) - l[k].f1.size) = true
          · have hR := Lib.hid (apG_go s l k at_ out hlt h0 hin HI.out)
            have hin2 := inB_in hin
            obtain ⟨p, hp⟩ : ∃ p : Nat, l[k].f0 = p := ⟨l[k].f0.toNat, by omega⟩
            obtain ⟨i1, i2⟩ := hin2
            rw [hp] at hc0 hin hR i1 i2
            rw [Int.toNat_natCast] at hR
            clear hp
            generalize hdd : l[k].f1 = d at *
            have hdl : d.data.toList.length = d.size := by rw [Array.length_toList]; rfl
            have hlen3 : (out ++ seg s at_ p ++ d.data.toList).length = p + d.size := by
              rw [List.length_append, List.length_append, seg_length s _ _ (by omega)]
              omega
            have j1 : (p : Int) < s.size := by omega
            have j2 : p < s.size := by omega
            have j5 : p ≤ s.size := by omega
            have j6 : s.size ≤ cap := by omega
            have j3 : ¬ cap = p := by omega
            have j4 : p + d.size ≤ s.size := by omega
            have hSP := apG_splice s d at_ p out hol (by omega) j4
            go_wp2_with (first | (go_at_call 54; go_must (refine (within_any (p : Int) at_ ((s.size : Int) - d.size) _).mono ?_; rintro e w1 ⟨rfl, rfl⟩; rw [hin])))
            have q0 : (wr.alloc (Obj.cells #[Value.int IntKind.i64 p, Value.string d] 90)).cell? ⟨wr.heap.size, 0, none⟩ = some (.int .i64 p) := by simp
            have q1 : (wr.alloc (Obj.cells #[Value.int IntKind.i64 p, Value.string d] 90)).cell? ⟨wr.heap.size, 1, none⟩ = some (.string d) := by simp
            have q2 : Below wr.heap.size wr (wr.alloc (Obj.cells #[Value.int IntKind.i64 p, Value.string d] 90)) := (Below.refl _ _).alloc (Nat.le_refl _) _
            have q3 := hm.lt
            generalize wr.alloc (Obj.cells #[Value.int IntKind.i64 p, Value.string d] 90) = wq at q0 q1 q2 ⊢
            replace hb := below_step hb q2
            replace hm := hm.below q2 q3
            generalize wr.heap.size = z at q0 q1 q2 q3 ⊢
            go_still_tail 6, (by kernel_rfl)
            change wpList _ _ _ _ _ wq.drew
            replace q0 : wq.drew.cell? ⟨z, 0, none⟩ = some (.int .i64 p) := q0
            replace q1 : wq.drew.cell? ⟨z, 1, none⟩ = some (.string d) := q1
            replace hm : MarkB wq.drew w.heap.size 5 (out ++ seg s at_ s.size) := hm
            replace hb := hb.drew
            generalize wq.drew = wd at q0 q1 hm hb ⊢
            refine wpList_copyM rfl _ _ _ _ rfl eltB hm p _ _ rfl d rfl (by rw [List.length_append, seg_length s _ _ (Nat.le_refl _)]; omega) (by omega) w.heap.size (Nat.le_refl _) ?_
            intro w3 hm3 hb3 hoth
            rw [hSP] at hm3
            replace hb := hb.trans hb3
            have c0 := (hoth ⟨z, 0, none⟩ (by show z ≠ _; omega)).trans q0
            have c1 := (hoth ⟨z, 1, none⟩ (by show z ≠ _; omega)).trans q1
            go_wp2
            go_roundw
            case rel => exact ⟨k + 1, p + d.size, out ++ seg s at_ p ++ d.data.toList, by omega, by go_num, by go_num, hlen3, j4, hm3, hb, hR⟩
            case measure => (simp [intOf] <;> omega)
          · have hR := Lib.hid (apG_bad s l k at_ out hlt (.inr (by simpa using hin)) HI.out)
            go_wp2_with (first | (go_at_call 54; go_must (refine (within_any l[k].f0 at_ ((s.size : Int) - l[k].f1.size) _).mono ?_; rintro e w1 ⟨rfl, rfl⟩; rw [show inB l[k].f0 at_ ((s.size : Int) - l[k].f1.size) = false from by simpa using hin])))
            go_ret2
            exact ⟨by rw [hR.out]; rfl, (by repeat (first | exact Below.refl _ _ | refine below_step ?_ (by assumption) | assumption | refine Below.drew ?_ | refine below_drewN ?_ _ | refine below_alloc ?_ _ | refine Below.setCell ?_ (by simp; try omega) _))⟩
      · have hR := Lib.hid (apG_end s l k at_ out hlt HI.out)
        have hcv := MarkB.b2s (P := Try.prog) (dst := 9) Try.underlying22 Try.underlying5 Try.underlying9 hm cap s.size (by rw [List.length_append, seg_length s _ _ (Nat.le_refl _)]; omega)
        go_wp2
        go_ret2
        exact ⟨by rw [hR.out]; rfl, hb⟩
end Go.Proofs.Ytjahgknehamlpaa
namespace Go.Proofs.Ytjahgknehamlpaa
set_option linter.unusedVariables false
open Go.RowKit

theorem bl_eq (l : List UInt8) (s : ByteArray) : ((⟨l.toArray⟩ : ByteArray).toList == s.toList) = (l == s.data.toList) := by
  rw [ByteArray.toList_eq, ByteArray.toList_eq]
theorem or_low (n m k : Nat) (hn : n < 2 ^ k) (hm : m * 2 ^ k < 9223372036854775808) (hk : k ≤ 62) : bits .or .i64 (n : Int) ((m * 2 ^ k : Nat) : Int) = ((n + m * 2 ^ k : Nat) : Int) := by
  have h1 : 2 ^ k ≤ 2 ^ 62 := Nat.pow_le_pow_right (by omega) hk
  have := i64_or_nat n (m * 2 ^ k) (by omega) hm
  have h2 := Nat.shiftLeft_add_eq_or_of_lt (i := k) hn m
  rw [Nat.shiftLeft_eq] at h2
  rw [Nat.or_comm, ← h2, Nat.add_comm] at this
  exact this
theorem tm2 (x : Nat) : (x : Int).tmod 2 = ((x % 2 : Nat) : Int) := rfl
theorem td2 (x : Nat) : (x : Int).tdiv 2 = ((x / 2 : Nat) : Int) := rfl
theorem td2n (x y : Nat) (h : x = 2 * y + 1) : (-((x : Int) + 1)).tdiv 2 = -((y : Int) + 1) := by
  rw [show -((x : Int) + 1) = 2 * (-((y : Int) + 1)) by omega]
  exact Int.mul_tdiv_cancel_left _ (by decide)
/-- The numbers so far; a number that has grown too long stands for no result. -/
def UgI (s : ByteArray) (f i n j : Nat) (last : Int) (out : List Int) : Prop :=
  (j ≤ 4 ∧ n < 128 ^ j ∧ ugG s f i n j last out = ug s) ∨ (j = 5 ∧ n < 128 ^ 5 ∧ 0 < i ∧ 128 ≤ bt s (i - 1) ∧ ug s = none)

set_option maxRecDepth 100000 in
set_option maxHeartbeats 4000000 in
theorem impl_UnpackGaps_any (s : ByteArray) (w : World) (hs : s.size ≤ 1048576) :
    Calls Try.prog 22 #[.string s] w fun e w' => ∃ v, e = .returned (.tuple #[v, .bool (ug s).isSome]) ∧ w'.ownsRow w.heap.size 2 1 v (ugL s).length (flat fI (ugL s)) ∧ Below w.heap.size w w' := by
  go_enter Try.func22, Try.ntmps22
  go_wp2
  go_loopw [4, 5, 6, 7, 8, 13] (fun v la nn sh _ ix wr => ∃ (f i n j : Nat) (last : Int) (out : List Int), i ≤ s.size ∧ s.size + 1 ≤ f + i ∧ ix = .int .i64 i ∧ la = .int .i64 last ∧ nn = .int .i64 n ∧ sh = .int .i64 (7 * j : Nat) ∧ out.length ≤ i ∧ -(34359738368 * i) ≤ last ∧ last ≤ 34359738368 * i ∧ wr.ownsRow w.heap.size 2 1 v out.length (flat fI out) ∧ Below w.heap.size w wr ∧ Hid (UgI s f i n j last out)) (fun _ _ _ _ _ ix _ => s.size - (intOf ix).toNat)
  case atStart => exact ⟨s.size + 1, 0, 0, 0, 0, [], by omega, by omega, rfl, rfl, rfl, rfl, by simp, by omega, by omega, World.ownsRow_nil _ _ _ _, Below.refl _ _, Lib.hid (.inl ⟨by omega, by decide, rfl⟩)⟩
  case round =>
    obtain ⟨f, i, n, j, last, out, hi, hf, rfl, rfl, rfl, rfl, hol, hl1, hl2, hown, hb, HI⟩ := hrel
    have hsz := hb.size
    by_cases hlt : i < s.size
    · have eb := bt_eq s i hlt
      have hbb := bt_lt s i
      rcases HI.out with ⟨hj, hn, hg⟩ | ⟨rfl, hn, h0, h1, hg⟩
      · obtain ⟨f, rfl⟩ : ∃ f', f = f' + 1 := ⟨f - 1, by omega⟩
        obtain ⟨m, hm⟩ : ∃ m, bt s i % 128 = m := ⟨_, rfl⟩
        have hm2 : m < 128 := by omega
        have e1 : bits .and .u8 ((bt s i : Nat) : Int) 127 = (m : Int) := by
          have := u8_and_nat (bt s i) 127 hbb (by omega)
          rw [and127, hm] at this
          exact this
        clear HI
        have hj5 : j = 0 ∨ j = 1 ∨ j = 2 ∨ j = 3 ∨ j = 4 := by omega
        clear hj
        rcases hj5 with rfl | rfl | rfl | rfl | rfl
        · have hn1 : n < 1 := by simpa using hn
          obtain ⟨x, hx⟩ : ∃ x, n + m * 1 = x := ⟨_, rfl⟩
          have e2 : bits .or .i64 (n : Int) (m : Int) = (x : Int) := by
            have := or_low n m 0 (by omega) (by omega) (by omega)
            rw [show n + m * 2 ^ 0 = x by omega] at this
            rw [← this]
            congr 1
            try simp
          have hx2 : x < 128 := by omega
          by_cases hc : 128 ≤ bt s i
          · have HN := Lib.hid (show UgI s f (i + 1) x 1 last out from .inl ⟨by omega, by simpa using hx2, by have := ug_more hg hlt hc (by omega); rw [hm, show n + m * 128 ^ 0 = x by simpa using hx] at this; exact this⟩)
            clear hg hn hm hx
            go_wp2
            go_roundw
            case rel => exact ⟨f, i + 1, x, 1, last, out, by omega, by omega, by go_num, rfl, by go_num, rfl, by omega, by omega, by omega, hown, hb, HN⟩
            case measure => (simp [intOf] <;> omega)
          · have hput := ug_put hg hlt hc x (by rw [hm]; simpa using hx)
            obtain ⟨y, hy⟩ : ∃ y, x / 2 = y := ⟨_, rfl⟩
            have t2 := td2 x
            rw [hy] at t2
            have hy2 : y < 17179869184 := by omega
            clear hg hn hm hx
            by_cases hp : x % 2 = 1
            · have t1 := tm2 x
              rw [show x % 2 = 1 by omega] at t1
              rw [show last + zag x = last - ((y : Int) + 1) from by rw [zag_odd hp, hy]; omega] at hput
              have HN := Lib.hid (show UgI s f (i + 1) 0 0 _ _ from .inl ⟨by omega, by decide, hput⟩)
              clear hput hp hy
              go_wp2_with (at_builtin; go_must (refine wpList_appF (f := fI) rfl _ _ _ rfl eltI (by omega) _ out rfl hown _ _ _ _ rfl rfl rfl (by intro u hu; simp only [fI, List.mem_cons, List.not_mem_nil, or_false] at hu; subst hu; rfl) (by omega) hsz ?_); intro v3 w3 hown3 hg3 hat3 hbl3)
              go_roundw
              case rel => exact ⟨f, i + 1, 0, 0, _, _, by omega, by omega, by go_num, rfl, rfl, rfl, by rw [List.length_append, List.length_singleton]; omega, by omega, by omega, hown3, hb.trans hbl3, HN⟩
              case measure => (simp [intOf] <;> omega)
            · have t1 := tm2 x
              rw [show x % 2 = 0 by omega] at t1
              rw [show last + zag x = last + (y : Int) from by rw [zag_even hp, hy]] at hput
              have HN := Lib.hid (show UgI s f (i + 1) 0 0 _ _ from .inl ⟨by omega, by decide, hput⟩)
              clear hput hp hy
              go_wp2_with (at_builtin; go_must (refine wpList_appF (f := fI) rfl _ _ _ rfl eltI (by omega) _ out rfl hown _ _ _ _ rfl rfl rfl (by intro u hu; simp only [fI, List.mem_cons, List.not_mem_nil, or_false] at hu; subst hu; rfl) (by omega) hsz ?_); intro v3 w3 hown3 hg3 hat3 hbl3)
              go_roundw
              case rel => exact ⟨f, i + 1, 0, 0, _, _, by omega, by omega, by go_num, rfl, rfl, rfl, by rw [List.length_append, List.length_singleton]; omega, by omega, by omega, hown3, hb.trans hbl3, HN⟩
              case measure => (simp [intOf] <;> omega)
        · have hn1 : n < 128 := by simpa using hn
          obtain ⟨x, hx⟩ : ∃ x, n + m * 128 = x := ⟨_, rfl⟩
          have e2 : bits .or .i64 (n : Int) ((m : Int) * 128) = (x : Int) := by
            have := or_low n m 7 (by omega) (by omega) (by omega)
            rw [show n + m * 2 ^ 7 = x by omega] at this
            rw [← this]
            congr 1
            try omega
          have hx2 : x < 16384 := by omega
          by_cases hc : 128 ≤ bt s i
          · have HN := Lib.hid (show UgI s f (i + 1) x 2 last out from .inl ⟨by omega, by simpa using hx2, by have := ug_more hg hlt hc (by omega); rw [hm, show n + m * 128 ^ 1 = x by simpa using hx] at this; exact this⟩)
            clear hg hn hm hx
            go_wp2
            go_roundw
            case rel => exact ⟨f, i + 1, x, 2, last, out, by omega, by omega, by go_num, rfl, by go_num, rfl, by omega, by omega, by omega, hown, hb, HN⟩
            case measure => (simp [intOf] <;> omega)
          · have hput := ug_put hg hlt hc x (by rw [hm]; simpa using hx)
            obtain ⟨y, hy⟩ : ∃ y, x / 2 = y := ⟨_, rfl⟩
            have t2 := td2 x
            rw [hy] at t2
            have hy2 : y < 17179869184 := by omega
            clear hg hn hm hx
            by_cases hp : x % 2 = 1
            · have t1 := tm2 x
              rw [show x % 2 = 1 by omega] at t1
              rw [show last + zag x = last - ((y : Int) + 1) from by rw [zag_odd hp, hy]; omega] at hput
              have HN := Lib.hid (show UgI s f (i + 1) 0 0 _ _ from .inl ⟨by omega, by decide, hput⟩)
              clear hput hp hy
              go_wp2_with (at_builtin; go_must (refine wpList_appF (f := fI) rfl _ _ _ rfl eltI (by omega) _ out rfl hown _ _ _ _ rfl rfl rfl (by intro u hu; simp only [fI, List.mem_cons, List.not_mem_nil, or_false] at hu; subst hu; rfl) (by omega) hsz ?_); intro v3 w3 hown3 hg3 hat3 hbl3)
              go_roundw
              case rel => exact ⟨f, i + 1, 0, 0, _, _, by omega, by omega, by go_num, rfl, rfl, rfl, by rw [List.length_append, List.length_singleton]; omega, by omega, by omega, hown3, hb.trans hbl3, HN⟩
              case measure => (simp [intOf] <;> omega)
            · have t1 := tm2 x
              rw [show x % 2 = 0 by omega] at t1
              rw [show last + zag x = last + (y : Int) from by rw [zag_even hp, hy]] at hput
              have HN := Lib.hid (show UgI s f (i + 1) 0 0 _ _ from .inl ⟨by omega, by decide, hput⟩)
              clear hput hp hy
              go_wp2_with (at_builtin; go_must (refine wpList_appF (f := fI) rfl _ _ _ rfl eltI (by omega) _ out rfl hown _ _ _ _ rfl rfl rfl (by intro u hu; simp only [fI, List.mem_cons, List.not_mem_nil, or_false] at hu; subst hu; rfl) (by omega) hsz ?_); intro v3 w3 hown3 hg3 hat3 hbl3)
              go_roundw
              case rel => exact ⟨f, i + 1, 0, 0, _, _, by omega, by omega, by go_num, rfl, rfl, rfl, by rw [List.length_append, List.length_singleton]; omega, by omega, by omega, hown3, hb.trans hbl3, HN⟩
              case measure => (simp [intOf] <;> omega)
        · have hn1 : n < 16384 := by simpa using hn
          obtain ⟨x, hx⟩ : ∃ x, n + m * 16384 = x := ⟨_, rfl⟩
          have e2 : bits .or .i64 (n : Int) ((m : Int) * 16384) = (x : Int) := by
            have := or_low n m 14 (by omega) (by omega) (by omega)
            rw [show n + m * 2 ^ 14 = x by omega] at this
            rw [← this]
            congr 1
            try omega
          have hx2 : x < 2097152 := by omega
          by_cases hc : 128 ≤ bt s i
          · have HN := Lib.hid (show UgI s f (i + 1) x 3 last out from .inl ⟨by omega, by simpa using hx2, by have := ug_more hg hlt hc (by omega); rw [hm, show n + m * 128 ^ 2 = x by simpa using hx] at this; exact this⟩)
            clear hg hn hm hx
            go_wp2
            go_roundw
            case rel => exact ⟨f, i + 1, x, 3, last, out, by omega, by omega, by go_num, rfl, by go_num, rfl, by omega, by omega, by omega, hown, hb, HN⟩
            case measure => (simp [intOf] <;> omega)
          · have hput := ug_put hg hlt hc x (by rw [hm]; simpa using hx)
            obtain ⟨y, hy⟩ : ∃ y, x / 2 = y := ⟨_, rfl⟩
            have t2 := td2 x
            rw [hy] at t2
            have hy2 : y < 17179869184 := by omega
            clear hg hn hm hx
            by_cases hp : x % 2 = 1
            · have t1 := tm2 x
              rw [show x % 2 = 1 by omega] at t1
              rw [show last + zag x = last - ((y : Int) + 1) from by rw [zag_odd hp, hy]; omega] at hput
              have HN := Lib.hid (show UgI s f (i + 1) 0 0 _ _ from .inl ⟨by omega, by decide, hput⟩)
              clear hput hp hy
              go_wp2_with (at_builtin; go_must (refine wpList_appF (f := fI) rfl _ _ _ rfl eltI (by omega) _ out rfl hown _ _ _ _ rfl rfl rfl (by intro u hu; simp only [fI, List.mem_cons, List.not_mem_nil, or_false] at hu; subst hu; rfl) (by omega) hsz ?_); intro v3 w3 hown3 hg3 hat3 hbl3)
              go_roundw
              case rel => exact ⟨f, i + 1, 0, 0, _, _, by omega, by omega, by go_num, rfl, rfl, rfl, by rw [List.length_append, List.length_singleton]; omega, by omega, by omega, hown3, hb.trans hbl3, HN⟩
              case measure => (simp [intOf] <;> omega)
            · have t1 := tm2 x
              rw [show x % 2 = 0 by omega] at t1
              rw [show last + zag x = last + (y : Int) from by rw [zag_even hp, hy]] at hput
              have HN := Lib.hid (show UgI s f (i + 1) 0 0 _ _ from .inl ⟨by omega, by decide, hput⟩)
              clear hput hp hy
              go_wp2_with (at_builtin; go_must (refine wpList_appF (f := fI) rfl _ _ _ rfl eltI (by omega) _ out rfl hown _ _ _ _ rfl rfl rfl (by intro u hu; simp only [fI, List.mem_cons, List.not_mem_nil, or_false] at hu; subst hu; rfl) (by omega) hsz ?_); intro v3 w3 hown3 hg3 hat3 hbl3)
              go_roundw
              case rel => exact ⟨f, i + 1, 0, 0, _, _, by omega, by omega, by go_num, rfl, rfl, rfl, by rw [List.length_append, List.length_singleton]; omega, by omega, by omega, hown3, hb.trans hbl3, HN⟩
              case measure => (simp [intOf] <;> omega)
        · have hn1 : n < 2097152 := by simpa using hn
          obtain ⟨x, hx⟩ : ∃ x, n + m * 2097152 = x := ⟨_, rfl⟩
          have e2 : bits .or .i64 (n : Int) ((m : Int) * 2097152) = (x : Int) := by
            have := or_low n m 21 (by omega) (by omega) (by omega)
            rw [show n + m * 2 ^ 21 = x by omega] at this
            rw [← this]
            congr 1
            try omega
          have hx2 : x < 268435456 := by omega
          by_cases hc : 128 ≤ bt s i
          · have HN := Lib.hid (show UgI s f (i + 1) x 4 last out from .inl ⟨by omega, by simpa using hx2, by have := ug_more hg hlt hc (by omega); rw [hm, show n + m * 128 ^ 3 = x by simpa using hx] at this; exact this⟩)
            clear hg hn hm hx
            go_wp2
            go_roundw
            case rel => exact ⟨f, i + 1, x, 4, last, out, by omega, by omega, by go_num, rfl, by go_num, rfl, by omega, by omega, by omega, hown, hb, HN⟩
            case measure => (simp [intOf] <;> omega)
          · have hput := ug_put hg hlt hc x (by rw [hm]; simpa using hx)
            obtain ⟨y, hy⟩ : ∃ y, x / 2 = y := ⟨_, rfl⟩
            have t2 := td2 x
            rw [hy] at t2
            have hy2 : y < 17179869184 := by omega
            clear hg hn hm hx
            by_cases hp : x % 2 = 1
            · have t1 := tm2 x
              rw [show x % 2 = 1 by omega] at t1
              rw [show last + zag x = last - ((y : Int) + 1) from by rw [zag_odd hp, hy]; omega] at hput
              have HN := Lib.hid (show UgI s f (i + 1) 0 0 _ _ from .inl ⟨by omega, by decide, hput⟩)
              clear hput hp hy
              go_wp2_with (at_builtin; go_must (refine wpList_appF (f := fI) rfl _ _ _ rfl eltI (by omega) _ out rfl hown _ _ _ _ rfl rfl rfl (by intro u hu; simp only [fI, List.mem_cons, List.not_mem_nil, or_false] at hu; subst hu; rfl) (by omega) hsz ?_); intro v3 w3 hown3 hg3 hat3 hbl3)
              go_roundw
              case rel => exact ⟨f, i + 1, 0, 0, _, _, by omega, by omega, by go_num, rfl, rfl, rfl, by rw [List.length_append, List.length_singleton]; omega, by omega, by omega, hown3, hb.trans hbl3, HN⟩
              case measure => (simp [intOf] <;> omega)
            · have t1 := tm2 x
              rw [show x % 2 = 0 by omega] at t1
              rw [show last + zag x = last + (y : Int) from by rw [zag_even hp, hy]] at hput
              have HN := Lib.hid (show UgI s f (i + 1) 0 0 _ _ from .inl ⟨by omega, by decide, hput⟩)
              clear hput hp hy
              go_wp2_with (at_builtin; go_must (refine wpList_appF (f := fI) rfl _ _ _ rfl eltI (by omega) _ out rfl hown _ _ _ _ rfl rfl rfl (by intro u hu; simp only [fI, List.mem_cons, List.not_mem_nil, or_false] at hu; subst hu; rfl) (by omega) hsz ?_); intro v3 w3 hown3 hg3 hat3 hbl3)
              go_roundw
              case rel => exact ⟨f, i + 1, 0, 0, _, _, by omega, by omega, by go_num, rfl, rfl, rfl, by rw [List.length_append, List.length_singleton]; omega, by omega, by omega, hown3, hb.trans hbl3, HN⟩
              case measure => (simp [intOf] <;> omega)
        · have hn1 : n < 268435456 := by simpa using hn
          obtain ⟨x, hx⟩ : ∃ x, n + m * 268435456 = x := ⟨_, rfl⟩
          have e2 : bits .or .i64 (n : Int) ((m : Int) * 268435456) = (x : Int) := by
            have := or_low n m 28 (by omega) (by omega) (by omega)
            rw [show n + m * 2 ^ 28 = x by omega] at this
            rw [← this]
            congr 1
            try omega
          have hx2 : x < 34359738368 := by omega
          by_cases hc : 128 ≤ bt s i
          · have HN := Lib.hid (show UgI s f (i + 1) x 5 last out from .inr ⟨rfl, by simpa using hx2, by omega, by simpa using hc, ug_stop hg hlt hc⟩)
            clear hg hn hm hx
            go_wp2
            go_roundw
            case rel => exact ⟨f, i + 1, x, 5, last, out, by omega, by omega, by go_num, rfl, by go_num, rfl, by omega, by omega, by omega, hown, hb, HN⟩
            case measure => (simp [intOf] <;> omega)
          · have hput := ug_put hg hlt hc x (by rw [hm]; simpa using hx)
            obtain ⟨y, hy⟩ : ∃ y, x / 2 = y := ⟨_, rfl⟩
            have t2 := td2 x
            rw [hy] at t2
            have hy2 : y < 17179869184 := by omega
            clear hg hn hm hx
            by_cases hp : x % 2 = 1
            · have t1 := tm2 x
              rw [show x % 2 = 1 by omega] at t1
              rw [show last + zag x = last - ((y : Int) + 1) from by rw [zag_odd hp, hy]; omega] at hput
              have HN := Lib.hid (show UgI s f (i + 1) 0 0 _ _ from .inl ⟨by omega, by decide, hput⟩)
              clear hput hp hy
              go_wp2_with (at_builtin; go_must (refine wpList_appF (f := fI) rfl _ _ _ rfl eltI (by omega) _ out rfl hown _ _ _ _ rfl rfl rfl (by intro u hu; simp only [fI, List.mem_cons, List.not_mem_nil, or_false] at hu; subst hu; rfl) (by omega) hsz ?_); intro v3 w3 hown3 hg3 hat3 hbl3)
              go_roundw
              case rel => exact ⟨f, i + 1, 0, 0, _, _, by omega, by omega, by go_num, rfl, rfl, rfl, by rw [List.length_append, List.length_singleton]; omega, by omega, by omega, hown3, hb.trans hbl3, HN⟩
              case measure => (simp [intOf] <;> omega)
            · have t1 := tm2 x
              rw [show x % 2 = 0 by omega] at t1
              rw [show last + zag x = last + (y : Int) from by rw [zag_even hp, hy]] at hput
              have HN := Lib.hid (show UgI s f (i + 1) 0 0 _ _ from .inl ⟨by omega, by decide, hput⟩)
              clear hput hp hy
              go_wp2_with (at_builtin; go_must (refine wpList_appF (f := fI) rfl _ _ _ rfl eltI (by omega) _ out rfl hown _ _ _ _ rfl rfl rfl (by intro u hu; simp only [fI, List.mem_cons, List.not_mem_nil, or_false] at hu; subst hu; rfl) (by omega) hsz ?_); intro v3 w3 hown3 hg3 hat3 hbl3)
              go_roundw
              case rel => exact ⟨f, i + 1, 0, 0, _, _, by omega, by omega, by go_num, rfl, rfl, rfl, by rw [List.length_append, List.length_singleton]; omega, by omega, by omega, hown3, hb.trans hbl3, HN⟩
              case measure => (simp [intOf] <;> omega)
      · have HR := Lib.hid hg
        clear hg HI
        go_wp2
        go_ret2
        exact ⟨_, by rw [HR.out]; rfl, by unfold ugL; rw [HR.out]; exact World.ownsRow_nil _ _ _ _, hb⟩
    · have hfin : ugFin s out = ug s := by
        rcases HI.out with ⟨hj, hn, hg⟩ | ⟨rfl, hn, h0, h1, hg⟩
        · obtain ⟨f, rfl⟩ : ∃ f', f = f' + 1 := ⟨f - 1, by omega⟩
          exact ug_end hg hlt
        · rw [hg, ugFin_half s out i (by omega) h0 h1]
      obtain ⟨A, c, rfl⟩ := own_form hown
      have hpg := impl_PackGaps_any A c out wr (RR.own hown) (by omega)
      cases hok : okGaps out
      · rw [packGaps_no out hok] at hpg
        have HR := Lib.hid (hfin.symm.trans (ugFin_bad hok))
        clear hfin HI
        go_wp2_with (go_at_call 21; refine hpg.mono ?_; unfold resB; rintro e w4 ⟨rfl, hx4⟩)
        go_ret2
        exact ⟨_, by rw [HR.out]; rfl, by unfold ugL; rw [HR.out]; exact World.ownsRow_nil _ _ _ _, below_step hb hx4⟩
      · rw [packGaps_yes out hok] at hpg
        cases hq : (pgl 0 out == s.data.toList)
        · have HR := Lib.hid (hfin.symm.trans (ugFin_no hok hq))
          rw [← ByteArray.toList_eq] at hq
          clear hfin HI
          go_wp2_with (go_at_call 21; refine hpg.mono ?_; unfold resB; rintro e w4 ⟨rfl, hx4⟩)
          go_ret2
          exact ⟨_, by rw [HR.out]; rfl, by unfold ugL; rw [HR.out]; exact World.ownsRow_nil _ _ _ _, below_step hb hx4⟩
        · have HR := Lib.hid (hfin.symm.trans (ugFin_yes hok hq))
          rw [← ByteArray.toList_eq] at hq
          clear hfin HI
          go_wp2_with (go_at_call 21; refine hpg.mono ?_; unfold resB; rintro e w4 ⟨rfl, hx4⟩)
          go_ret2
          exact ⟨_, by rw [HR.out]; rfl, by unfold ugL; rw [HR.out]; exact own_later hown hx4 (Nat.le_refl _), below_step hb hx4⟩
end Go.Proofs.Ytjahgknehamlpaa
namespace Go.Proofs.Ytjahgknehamlpaa
set_option linter.unusedVariables false
open Go.RowKit

theorem bc_rep (n : Nat) (x : UInt8) : bcells (List.replicate n x) = List.replicate n (Value.int .u8 (x.toNat : Int)) := by simp [bcells]
theorem rep_one {n : Nat} {v : Value} : ∀ u ∈ List.replicate n v, u = v := fun u hu => (List.mem_replicate.1 hu).2
theorem splice_rep {cur : List Value} {k m : Nat} {v : Value} (h : cur.take k = List.replicate k v) (hk : k + m ≤ cur.length) : (splice cur k (List.replicate m v)).take (k + m) = List.replicate (k + m) v := by
  have hl : (cur.take k).length = k := by rw [List.length_take]; omega
  unfold splice
  rw [List.take_append, hl, List.take_of_length_le (by rw [hl]; omega), h, Nat.add_sub_cancel_left, List.take_append, List.length_replicate, Nat.sub_self, List.take_zero, List.append_nil, List.take_of_length_le (by simp), List.replicate_append_replicate]
set_option maxRecDepth 100000 in
set_option maxHeartbeats 1000000 in
theorem Repeat1_any (x : UInt8) (n b c : Nat) (w : World) (hc : w.cell? ⟨b, 0, none⟩ = some (.int .u8 (x.toNat : Int))) (hb : b < w.heap.size) (h1 : 1 ≤ n) (hn : n ≤ 64) :
    Calls Try.prog 51 #[.slice (some ⟨b, 0, none⟩) 1 c, .int .i64 (n : Int)] w fun e w' => ∃ g, e = .returned (.slice (some ⟨g, 0, none⟩) n n) ∧ (∀ j, j < n → w'.cell? ⟨g, j, none⟩ = some (.int .u8 (x.toNat : Int))) ∧ w.heap.size ≤ g ∧ Below w.heap.size w w' := by
  have hmul : ∀ W, Calls Try.prog 78 #[.int .u64 1, .int .u64 (n : Int)] W fun e w' => e = .returned (.tuple #[.int .u64 0, .int .u64 (n : Int)]) ∧ W = w' := fun W => by
    have h := Try.bits_Mul 1 n (by decide) (by omega) W
    rw [show 1 * n / 18446744073709551616 = 0 by omega, show 1 * n % 18446744073709551616 = n by omega] at h
    exact h.mono fun _ _ ⟨a, b⟩ => ⟨a, b.symm⟩
  obtain ⟨cs, hrunM, hle, hmax⟩ := Lib.run_makeNoZero (P := Try.prog) w #[3] 22 5 Try.underlying22 n (by omega)
  have hcall : (callFunc 79 #[.int .i64 (n : Int)]).run Try.prog w = .ok (.value (.slice (some ⟨w.heap.size, 0, none⟩) n cs.size)) ((w.alloc (.cells cs 5)).drewN 2) := by
    rw [run_callFunc_extern Try.func79 (by kernel_rfl) (by kernel_rfl) (by kernel_rfl) (e := Extern.BytealgMakeNoZero.makeNoZero #[3] #[22]) (by kernel_rfl), hrunM]
    rfl
  clear hrunM
  have n0 : ¬ (n : Int) = 0 := by omega
  have n1 : ¬ (n : Int) < 0 := by omega
  have nz : ((n : Int) == 0) = false := by simp; omega
  have hwn : IntKind.u64.wrap (n : Int) = (n : Int) := IntWalk.u64_in _ (by omega)
  have hwi : IntKind.i64.wrap (n : Int) = (n : Int) := IntWalk.i64_in _ (by omega)
  have n2 : ¬ (9223372036854775807 : Int) < (n : Int) := by omega
  have n3 : ¬ (8192 : Int) < (n : Int) := by omega
  have i1 : (n : Int) ≤ (cs.size : Int) := by omega
  have W2 : ((w.alloc (.cells cs 5)).drewN 2).heap[w.heap.size]? = some (.cells cs.toList.toArray 5 (0, 0)) := by
    rw [Array.toArray_toList]
    exact heap_alloc_new w _
  have hbel : Below w.heap.size w ((w.alloc (.cells cs 5)).drewN 2) := below_drewN (below_alloc (Below.refl _ _) _) 2
  have hc2 : ((w.alloc (.cells cs 5)).drewN 2).cell? ⟨b, 0, none⟩ = some (.int .u8 (x.toNat : Int)) := (hbel.cell (p := ⟨b, 0, none⟩) hb).trans hc
  have hlen : cs.toList.length = cs.size := Array.length_toList
  have hmin1 : [Value.int .u8 (x.toNat : Int)].length = Nat.min 1 n := (Nat.min_eq_left h1).symm
  go_enter Try.func51, Try.ntmps51
  go_wp2_with (first
    | ((with_reducible show wpList _ _ _ (Oper.mk (some 60) _ _ _ _ _ :: _) _ _); go_must (refine wpList_copy_splice rfl _ _ 22 22 rfl 5 Try.underlying22 (by kernel_rfl) (some ⟨w.heap.size, 0, none⟩) (some ⟨b, 0, none⟩) n n 1 c rfl rfl w.heap.size 0 cs.toList 5 W2 [.int .u8 (x.toNat : Int)] hmin1 (fun _ => ⟨rfl, _, rfl, fun j v hj => by cases j with | zero => (simp at hj; subst hj; exact hc2) | succ j => simp at hj⟩) (by simp; omega) (by intro v hv; rw [List.mem_singleton] at hv; subst hv; rfl) w.heap.size w hbel (Nat.le_refl _) ?_); intro w3 hg3 hb3)
    | (go_at_call 78; refine (hmul _).mono ?_; rintro e w1 ⟨rfl, rfl⟩))
  have hs0 : (splice cs.toList 0 [Value.int .u8 (x.toNat : Int)]).length = cs.toList.length := length_splice _ _ _ (by simp; omega)
  have hr0 := splice_rep (cur := cs.toList) (k := 0) (m := 1) (v := .int .u8 (x.toNat : Int)) (by simp) (by omega)
  have HG3 := hg3.out
  generalize hcur0 : splice cs.toList 0 [Value.int .u8 (x.toNat : Int)] = cur0 at *
  rw [show List.replicate 1 (Value.int .u8 (x.toNat : Int)) = [Value.int .u8 (x.toNat : Int)] from rfl, hcur0] at hr0
  have HR0 := Lib.hid hr0
  have hcl0 : n ≤ cur0.length := by omega
  have hv1 : (Value.int .u8 (x.toNat : Int)).oneCell' = true := rfl
  generalize hv : Value.int .u8 (x.toNat : Int) = v at *
  have HVX := Lib.hid hv
  clear hv
  clear hg3 hr0 hcur0 hs0 hc2 W2 hbel
  go_loopw [10] (fun bp wr => ∃ (k : Nat) (cur : List Value), 1 ≤ k ∧ k ≤ n ∧ bp = .int .i64 (k : Int) ∧ wr.heap[w.heap.size]? = some (.cells cur.toArray 5 (0, 0)) ∧ n ≤ cur.length ∧ Hid (cur.take k = List.replicate k v) ∧ Below w.heap.size w wr) (fun bp _ => n - (intOf bp).toNat)
  case atStart => exact ⟨1, cur0, Nat.le_refl _, h1, rfl, HG3, hcl0, Lib.hid (HR0.out), hb3⟩
  case round =>
    clear HG3 hb3
    obtain ⟨k, cur, k1, kn, rfl, hcur, hcl, HT, hB⟩ := hrel
    have hcell : ∀ j, j < k → wr.cell? ⟨w.heap.size, j, none⟩ = some v := fun j hj => by
      rw [cell_of_row wr w.heap.size j cur.toArray 5 (0, 0) hcur]
      have h2 : (cur.take k)[j]? = some v := by rw [HT.out]; simp [hj]
      rw [List.getElem?_take, if_pos hj] at h2
      simpa using h2
    by_cases hlt : k < n
    · obtain ⟨m, hm⟩ : ∃ m, Nat.min k (n - k) = m := ⟨_, rfl⟩
      have hm2 : m ≤ k ∧ m ≤ n - k ∧ 1 ≤ m := by
        rw [← hm]
        refine ⟨Nat.min_le_left _ _, Nat.min_le_right _ _, ?_⟩
        exact Nat.le_min.2 ⟨k1, by omega⟩
      obtain ⟨m1, m2, m3⟩ := hm2
      have hlti : (k : Int) < (n : Int) := by omega
      have hmin : min (k : Int) (n : Int) = (k : Int) := by omega
      have hkni : (k : Int) ≤ (n : Int) := by omega
      have e1 : ¬ n = k := by omega
      have e2 : ¬ k = n := by omega
      have hwk : IntKind.i64.wrap ((k : Int) + (m : Int)) = ((k + m : Nat) : Int) := by rw [← Int.natCast_add]; exact IntWalk.i64_in _ (by omega)
      have hs1 : (splice cur k (List.replicate m v)).length = cur.length := length_splice _ _ _ (by rw [List.length_replicate]; omega)
      have hr1 := splice_rep (m := m) HT.out (by omega)
      have HS1 := Lib.hid hs1
      have HR1 := Lib.hid hr1
      have HM := Lib.hid hm
      have hcurd : wr.drew.heap[w.heap.size]? = some (.cells cur.toArray 5 (0, 0)) := hcur
      have hBd : Below w.heap.size w wr.drew := Below.drew hB
      have HK := Lib.hid (show k + m ≤ n ∧ k < k + m from ⟨by omega, by omega⟩)
      have hsrc : ∀ j u, (List.replicate m v)[j]? = some u → wr.drew.cell? ((⟨w.heap.size, 0, none⟩ : Addr).add j) = some u := fun j u hj => by
        have hjm : j < m := by have := (List.getElem?_eq_some_iff.1 hj).1; simpa using this
        have hu : u = v := by simpa [hjm] using hj.symm
        rw [hu]
        have h3 : (⟨w.heap.size, 0, none⟩ : Addr).add j = ⟨w.heap.size, j, none⟩ := by
          unfold Addr.add
          split
          · rename_i h0; rw [h0]
          · simp
        rw [h3]
        exact hcell j (by omega)
      have hnm : (List.replicate m v).length = Nat.min k (n - k) := by rw [List.length_replicate, HM.out]
      have hfit : k + (List.replicate m v).length ≤ cur.length := by rw [List.length_replicate]; omega
      have hone : ∀ u ∈ List.replicate m v, u.oneCell' = true := by intro u hu; rw [rep_one u hu]; exact hv1
      have hrun := run_copy_row (P := Try.prog) wr.drew 22 22 3 5 w.heap.size k (n - k) (n - k) ⟨w.heap.size, 0, none⟩ k n cur.toArray 5 (List.replicate m v) Try.underlying22 (by kernel_rfl) hcurd hnm hsrc (by simpa using hfit) hone
      have hset : (wr.drew.setRow w.heap.size (cur.toArray.toList.take k ++ List.replicate m v ++ cur.toArray.toList.drop (k + (List.replicate m v).length)).toArray).heap[w.heap.size]? = some (.cells (splice cur k (List.replicate m v)).toArray 5 (0, 0)) := by
        rw [setRow_heap wr.drew w.heap.size cur.toArray _ 5 _ hcurd]
        simp [splice]
      have hBs : Below w.heap.size w (wr.drew.setRow w.heap.size (cur.toArray.toList.take k ++ List.replicate m v ++ cur.toArray.toList.drop (k + (List.replicate m v).length)).toArray) := below_setRow hBd (Nat.le_refl _) _
      rw [List.length_replicate] at hrun hset hBs
      generalize wr.drew.setRow w.heap.size (cur.toArray.toList.take k ++ List.replicate m v ++ cur.toArray.toList.drop (k + m)).toArray = w4 at hrun hset hBs
      have HG4 := Lib.hid hset
      have HKW := Lib.hid hwk
      clear hs1 hr1 hm hsrc hnm hfit hone hset hcurd hBd hcur hcell
      go_wp2
      go_region_with (fail)
      all_goals
        simp only [Act.put, List.getElem_toArray, List.getElem_cons_succ, List.getElem_cons_zero, List.setIfInBounds_toArray, List.set_cons_succ, List.set_cons_zero]
        go_wp2
        go_roundw
        case rel => exact ⟨k + m, splice cur k (List.replicate m v), by omega, HK.out.1, by first | rfl | (simp; done), HG4.out, by rw [HS1.out]; exact hcl, Lib.hid HR1.out, hBs⟩
        case measure => (have := HK.out; simp [intOf]; omega)
    · obtain rfl : k = n := by omega
      go_wp2
      go_ret
      exact ⟨_, rfl, fun j hj => by rw [HVX.out]; exact hcell j hj, Nat.le_refl _, hB⟩
end Go.Proofs.Ytjahgknehamlpaa
namespace Go.Proofs.Ytjahgknehamlpaa
set_option linter.unusedVariables false
open Go.RowKit

theorem rep_src {w : World} {g n : Nat} {x : UInt8} (hcell : ∀ j, j < n → w.cell? ⟨g, j, none⟩ = some (.int .u8 (x.toNat : Int))) : Src Try.prog 1 22 (.slice (some ⟨g, 0, none⟩) n n) n (bcells (List.replicate n x)) w := by
  refine Src.ofSlice w Try.underlying22 ⟨g, 0, none⟩ n n _ (by simp [bcells]) ?_ ?_
  · intro j u hj
    rw [bc_rep] at hj
    have hjn : j < n := by have := (List.getElem?_eq_some_iff.1 hj).1; simpa using this
    have hu : u = .int .u8 (x.toNat : Int) := by simpa [hjn] using hj.symm
    have h3 : (⟨g, 0, none⟩ : Addr).add j = ⟨g, j, none⟩ := by
      unfold Addr.add
      split
      · rename_i h0; rw [h0]
      · simp
    rw [h3, hu]
    exact hcell j hjn
  · intro u hu
    rw [bc_rep] at hu
    rw [rep_one u hu]
    rfl
set_option maxRecDepth 100000 in
set_option maxHeartbeats 2000000 in
theorem impl_UnpackRuns_any (s : ByteArray) (w : World) (hs : s.size ≤ maxLen) :
    Calls Try.prog 18 #[.string s] w fun e w' => e = .returned (resB (ur s)) ∧ Below w.heap.size w w' := by
  unfold maxLen at hs
  by_cases hbig : 8192 < s.size
  · have HR := Lib.hid (ur_big s hbig)
    go_enter Try.func18, Try.ntmps18
    go_wp2
    go_ret2
    exact ⟨by rw [HR.out]; rfl, Below.refl _ _⟩
  · have HST := Lib.hid (ur_start s (by omega))
    go_enter Try.func18, Try.ntmps18
    go_wp2
    go_loopw [4, 5] (fun v i wr => ∃ (f at_ : Nat) (out : List UInt8), s.size + 1 ≤ f + at_ ∧ at_ ≤ s.size ∧ out.length ≤ 64 * at_ ∧ i = .int .i64 at_ ∧ OwnB wr w.heap.size 5 v out ∧ Below w.heap.size w wr ∧ Hid (urG s f at_ out = ur s))
      (fun _ i _ => s.size - (intOf i).toNat)
    case atStart => exact ⟨s.size + 1, 0, [], by omega, by omega, by simp, rfl, OwnB.nil _ _ _, Below.refl _ _, HST⟩
    case round =>
      obtain ⟨f, at_, out, hf, hat, hol, rfl, hown, hbel, HI⟩ := hrel
      obtain ⟨A, c, rfl⟩ := hown.form
      have hsz := hbel.size
      by_cases hlt : at_ < s.size
      · obtain ⟨f, rfl⟩ : ∃ f', f = f' + 1 := ⟨f - 1, by omega⟩
        have eat := bt_eq s at_ hlt
        have hb := bt_lt s at_
        by_cases hlit : bt s at_ < 64
        · by_cases h2 : at_ + bt s at_ + 2 ≤ s.size
          · have HN := Lib.hid (urG_go s f at_ _ out _ hlt HI.out (urStep_lit s at_ out hlit h2))
            have hsg := seg_length s (at_ + 1) (at_ + bt s at_ + 2) h2
            have HSG := Lib.hid hsg
            clear hsg
            go_wp2_with (at_builtin; go_must (refine wpList_appS rfl (.tmp 30) (.tmp 38) 22 9 rfl eltB Try.underlying9 _ out rfl hown _ rfl (by rw [ByteArray.size_extract]; omega) hsz ?_); intro v' w' hown' hg hat' hbl)
            go_roundw
            case rel => exact ⟨f, at_ + bt s at_ + 2, _, by omega, h2, (by rw [List.length_append]; have := HSG.out; unfold seg at this; omega), by go_num, hown', hbel.trans hbl, HN⟩
            case measure => (simp [intOf] <;> omega)
          · have HR := Lib.hid (urG_none s f at_ out hlt HI.out (urStep_lit_no s at_ out hlit h2))
            go_wp2
            go_ret2
            exact ⟨by rw [HR.out]; rfl, hbel⟩
        · by_cases h2 : bt s at_ ≤ 125 ∧ at_ + 1 < s.size
          · obtain ⟨h3, h4⟩ := h2
            have HN := Lib.hid (urG_go s f at_ _ out _ hlt HI.out (urStep_run s at_ out hlit h4 h3))
            have eat1 := bt_eq s (at_ + 1) h4
            have hx1 : (s.data.toList.getD (at_ + 1) 0).toNat = bt s (at_ + 1) := rfl
            obtain ⟨x, hx⟩ : ∃ x : UInt8, s.data.toList.getD (at_ + 1) 0 = x := ⟨_, rfl⟩
            rw [hx] at HN hx1
            obtain ⟨n, hn⟩ : ∃ n, bt s at_ - 61 = n := ⟨_, rfl⟩
            rw [hn] at HN
            have hn1 : 1 ≤ n := by omega
            have hn64 : n ≤ 64 := by omega
            have hwn : IntKind.i64.wrap ((bt s at_ : Int) - 61) = (n : Int) := by rw [show (bt s at_ : Int) - 61 = (n : Int) by omega]; exact IntWalk.i64_in _ (by omega)
            rw [← hx1] at eat1
            have hc0 : (wr.alloc (.cells #[.int .u8 (x.toNat : Int)] 5)).cell? ⟨wr.heap.size, 0, none⟩ = some (.int .u8 (x.toNat : Int)) := by simp [go_sem]
            have hrep := Repeat1_any x n wr.heap.size 1 (wr.alloc (.cells #[.int .u8 (x.toNat : Int)] 5)) hc0 (by simp) hn1 hn64
            have hown1 : OwnB (wr.alloc (.cells #[.int .u8 (x.toNat : Int)] 5)) _ _ _ _ := OwnB.alloc hown (.cells #[.int .u8 (x.toNat : Int)] 5)
            have hbel1 := below_alloc hbel (.cells #[.int .u8 (x.toNat : Int)] 5)
            have hol2 : out.length + n ≤ 1000000 := by omega
            have hol3 : (out ++ List.replicate n x).length ≤ 64 * (at_ + 2) := by rw [List.length_append, List.length_replicate]; omega
            have HOL := Lib.hid hol3
            clear hx hn hx1 hol3
            go_wp2_with (first
              | (at_builtin; go_must (refine wpList_app _ rfl (.tmp 58) (.tmp 66) 22 22 rfl w.heap.size 5 (.int .u8 0) 1 1 eltB _ out.length (bcells out) rfl hown2 _ n (bcells (List.replicate n x)) rfl hsrc (by unfold maxLen; omega) (by omega) hsz2 ?_); intro v8 w8 hown8 hg8 hat8; have hbl8 := below_of_own hown2 hsz2 hg8)
              | (go_at_call 51; refine hrep.mono ?_; clear hrep; rintro e w2 ⟨g, rfl, hcell, hgb, hx2⟩; have hown2 : World.ownsRow w2 w.heap.size 5 1 (.slice A out.length c) out.length (bcells out) := OwnB.later hown1 hx2 (Nat.le_refl _); have hbel2 := below_step hbel1 hx2; have hsz2 := hbel2.size; have hsrc : Src Try.prog 1 22 (.slice (some ⟨g, 0, none⟩) n n) n (bcells (List.replicate n x)) w2 := rep_src hcell))
            go_roundw
            case rel => exact ⟨f, at_ + 2, out ++ List.replicate n x, by omega, by omega, HOL.out, by go_num, by unfold OwnB; rw [bcells_append, List.length_append, List.length_replicate]; exact hown8, hbel2.trans hbl8, HN⟩
            case measure => (simp [intOf] <;> omega)
          · have HR := Lib.hid (urG_none s f at_ out hlt HI.out (urStep_run_no s at_ out hlit h2))
            by_cases h3 : bt s at_ ≤ 125
            all_goals
              have h4 : ¬ (bt s at_ ≤ 125 ∧ at_ + 1 < s.size) := h2
              go_wp2
              go_ret2
              exact ⟨by rw [HR.out]; rfl, hbel⟩
      · by_cases hlen : 4096 < out.length
        · have HR := Lib.hid (urG_end_no s f at_ out hlt HI.out hlen)
          go_wp2
          go_ret2
          exact ⟨by rw [HR.out]; rfl, hbel⟩
        · have HR := Lib.hid (urG_end s f at_ out hlt HI.out hlen)
          have hcv := run_b2s (P := Try.prog) (dst := 9) Try.underlying22 Try.underlying5 Try.underlying9 hown
          go_wp2
          go_ret2
          exact ⟨by rw [HR.out]; rfl, hbel⟩
end Go.Proofs.Ytjahgknehamlpaa
