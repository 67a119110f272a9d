/- Walks: ValidImage. -/
import Derived.Test.YtcoidpooghmppaaW32
import Derived.Test.YtcoidpooghmppaaW2
import Derived.Test.YtcoidpooghmppaaStep
import Derived.Test.YtcoidpooghmppaaSString
import Derived.Test.YtcoidpooghmppaaShelf2
namespace Go.Proofs.Ytcoidpooghmppaa
open Go.RowKit
set_option linter.unusedVariables false

def chrB (c : UInt8) : Bool := decide (32 ≤ c.toNat) && decide (c.toNat ≤ 126)
def noteB (s : ByteArray) : Bool := s.data.toList.all chrB && decide (1 ≤ s.size) && decide (s.size ≤ 40)
theorem chr_step (s : ByteArray) (k : Nat) (h : k < s.size) : (s.data.toList.drop k).all chrB = (chrB s[k] && (s.data.toList.drop (k + 1)).all chrB) := by
  rw [drop_cons s k h]; rfl
theorem chr_yes {s : ByteArray} {k : Nat} {h : k < s.size} {b : Bool} (he : (s.data.toList.drop k).all chrB = b) (h1 : 32 ≤ s[k].toNat) (h2 : s[k].toNat ≤ 126) : (s.data.toList.drop (k + 1)).all chrB = b := by
  rw [chr_step s k h] at he
  simpa [chrB, h1, h2] using he
theorem chr_no {s : ByteArray} {k : Nat} {h : k < s.size} (he : (s.data.toList.drop k).all chrB = s.data.toList.all chrB) (hc : chrB s[k] = false) : noteB s = false := by
  rw [chr_step s k h, hc, Bool.false_and] at he
  simp only [noteB, ← he, Bool.false_and]
theorem chr_end {s : ByteArray} {k : Nat} (hk : ¬ k < s.size) (he : (s.data.toList.drop k).all chrB = s.data.toList.all chrB) : noteB s = (decide (1 ≤ s.size) && decide (s.size ≤ 40)) := by
  rw [drop_end s k hk] at he
  simp only [noteB, ← he, List.all_nil, Bool.true_and]
theorem note_in {s : ByteArray} : (decide (1 ≤ s.size) && decide (s.size ≤ 40)) = inB (s.size : Int) 1 40 := by
  unfold inB
  rw [Bool.eq_iff_iff]
  simp only [Bool.and_eq_true, decide_eq_true_eq]
  omega
theorem empty_of (s : ByteArray) (h : s.size = 0) : s.toList.isEmpty = true := by
  rw [ByteArray.toList_eq]
  have : s.data.toList = [] := List.eq_nil_of_length_eq_zero (by simpa using h)
  rw [this]; rfl
theorem nonempty_of (s : ByteArray) (h : 0 < s.size) : s.toList.isEmpty = false := by
  rw [ByteArray.toList_eq]
  have := drop_cons s 0 h
  rw [List.drop_zero] at this
  rw [this]
  rfl

set_option maxRecDepth 100000 in
set_option maxHeartbeats 400000 in
theorem l13Note_any (s : ByteArray) (w : World) (hs : s.size ≤ maxLen) :
    Calls Try.prog 128 #[.string s] w fun e w' => e = .returned (.bool (noteB s)) ∧ w = w' := by
  unfold maxLen at hs
  have hin := fun W => l00In_any (s.size : Int) 1 40 W
  go_enter Try.func128, Try.ntmps128
  go_wp2
  go_loop [3] (fun i => ∃ k : Nat, k ≤ s.size ∧ i = .int .i64 k ∧ Hid ((s.data.toList.drop k).all chrB = s.data.toList.all chrB)) (fun i => s.size - (intOf i).toNat)
  case atStart => exact ⟨0, Nat.zero_le _, rfl, Lib.hid rfl⟩
  case round =>
    obtain ⟨k, hk, rfl, HS⟩ := hrel
    by_cases hlt : k < s.size
    · have hb := s[k].toNat_lt
      by_cases h1 : (s[k].toNat : Int) < 32
      · have HN := Lib.hid (chr_no (h := hlt) HS.out (by simp only [chrB, Bool.and_eq_false_iff, decide_eq_false_iff_not]; omega))
        go_wp2
        go_ret
        exact ⟨ret_bool HN.out.symm, rfl⟩
      by_cases h2 : 126 < (s[k].toNat : Int)
      · have HN := Lib.hid (chr_no (h := hlt) HS.out (by simp only [chrB, Bool.and_eq_false_iff, decide_eq_false_iff_not]; omega))
        go_wp2
        go_ret
        exact ⟨ret_bool HN.out.symm, rfl⟩
      have HN := Lib.hid (chr_yes (h := hlt) HS.out (by omega) (by omega))
      go_wp2
      go_round
      case rel => exact ⟨k + 1, by omega, by go_num, HN⟩
      case measure => simp [intOf]; omega
    · have HE := Lib.hid ((chr_end hlt HS.out).trans note_in)
      go_wp2_with (go_at_call 81; refine (hin _).mono ?_; rintro e w' ⟨rfl, rfl⟩)
      go_ret
      exact ⟨ret_bool HE.out.symm, rfl⟩

set_option maxRecDepth 100000 in
set_option maxHeartbeats 400000 in
theorem validNote_any (s : ByteArray) (w : World) (hs : s.size ≤ maxLen) :
    Calls Try.prog 96 #[.string s] w fun e w' => e = .returned (.bool (noteB s)) ∧ w = w' := by
  unfold maxLen at hs
  go_enter Try.func96, Try.ntmps96
  go_wp2
  go_loop [3, 6] (fun _ i => ∃ k : Nat, k ≤ s.size ∧ i = .int .i64 k ∧ Hid ((s.data.toList.drop k).all chrB = s.data.toList.all chrB)) (fun _ i => s.size - (intOf i).toNat)
  case atStart => exact ⟨0, Nat.zero_le _, rfl, Lib.hid rfl⟩
  case round =>
    obtain ⟨k, hk, rfl, HS⟩ := hrel
    by_cases hlt : k < s.size
    · have hb := s[k].toNat_lt
      by_cases h1 : (s[k].toNat : Int) < 32
      · have HN := Lib.hid (chr_no (h := hlt) HS.out (by simp only [chrB, Bool.and_eq_false_iff, decide_eq_false_iff_not]; omega))
        go_wp2
        go_ret
        exact ⟨ret_bool HN.out.symm, rfl⟩
      by_cases h2 : 126 < (s[k].toNat : Int)
      · have HN := Lib.hid (chr_no (h := hlt) HS.out (by simp only [chrB, Bool.and_eq_false_iff, decide_eq_false_iff_not]; omega))
        go_wp2
        go_ret
        exact ⟨ret_bool HN.out.symm, rfl⟩
      have HN := Lib.hid (chr_yes (h := hlt) HS.out (by omega) (by omega))
      go_wp2
      go_round
      case rel => exact ⟨k + 1, by omega, by go_num, HN⟩
      case measure => simp [intOf]; omega
    · have HE := Lib.hid (chr_end hlt HS.out)
      by_cases h0 : s.size = 0
      · have e1 := empty_of s h0
        have HE2 := Lib.hid (HE.out.trans (show (decide (1 ≤ s.size) && decide (s.size ≤ 40)) = false from by simp [h0]))
        clear h0
        go_wp2
        go_ret
        exact ⟨ret_bool HE2.out.symm, rfl⟩
      · have e1 := nonempty_of s (by omega)
        by_cases h40 : s.size ≤ 40
        · have HE2 := Lib.hid (HE.out.trans (show (decide (1 ≤ s.size) && decide (s.size ≤ 40)) = true from by simp only [Bool.and_eq_true, decide_eq_true_eq]; omega))
          have g : decide ((s.size : Int) ≤ 40) = true := by simp; omega
          go_wp2
          go_ret
          exact ⟨ret_bool HE2.out.symm, rfl⟩
        · have HE2 := Lib.hid (HE.out.trans (show (decide (1 ≤ s.size) && decide (s.size ≤ 40)) = false from by simp only [Bool.and_eq_false_iff, decide_eq_false_iff_not]; omega))
          have g : decide ((s.size : Int) ≤ 40) = false := by simp; omega
          go_wp2
          go_ret
          exact ⟨ret_bool HE2.out.symm, rfl⟩

def imB (d : Bool) (n : List ByteArray) : Bool := d && decide (n.length ≤ 8) && n.all noteB
theorem imB_1 {n : List ByteArray} : imB false n = false := by simp only [imB, Bool.false_and]
theorem imB_2 {d : Bool} {n : List ByteArray} (h : 8 < n.length) : imB d n = false := by
  have : decide (n.length ≤ 8) = false := by simp; omega
  simp only [imB, this, Bool.and_false, Bool.false_and]
theorem imB_3 {n : List ByteArray} (h : n.length ≤ 8) : imB true n = n.all noteB := by
  simp only [imB, decide_eq_true h, Bool.true_and]
theorem imB_4 {d : Bool} {n : List ByteArray} (h : n.all noteB = false) : imB d n = false := by
  simp only [imB, h, Bool.and_false]
theorem imB_5 {n : List ByteArray} (h : n.length ≤ 8) (g : n.all noteB = true) : imB true n = true := by
  rw [imB_3 h, g]
theorem notes_bad {n : List ByteArray} (k : Nat) (hk : k < n.length) (g : noteB n[k] = false) : n.all noteB = false := by
  rw [List.all_eq_false]
  exact ⟨n[k], List.getElem_mem hk, by simp [g]⟩
theorem notes_all {n : List ByteArray} (g : ∀ k, (hk : k < n.length) → noteB n[k] = true) : n.all noteB = true := by
  simp only [List.all_eq_true]
  intro x hx
  obtain ⟨k, hk, rfl⟩ := List.getElem_of_mem hx
  exact g k hk
theorem CP.disc6 {w : World} {g : Nat} {c h p s : Int} {v : Value} {r : List Value} (d : CP w g (.int .i64 c :: .int .i64 h :: .int .i64 p :: .int .i64 s :: v :: r)) : DP w g c h p s v :=
  ⟨d 0 (by simp), d 1 (by simp), d 2 (by simp), d 3 (by simp), d 4 (by simp)⟩

set_option maxRecDepth 100000 in
set_option maxHeartbeats 1000000 in
theorem l13Ok_any (g : Nat) (c h p s : Int) (A : Option Addr) (cp : Nat) (l : List DSector) (N : Option Addr) (q : Nat) (n : List ByteArray) (w : World)
    (hd : CP w g [.int .i64 c, .int .i64 h, .int .i64 p, .int .i64 s, .slice A l.length cp, .slice N n.length q])
    (hr : Rd w w.heap.size 2 A l.length (flat fSector l)) (hn : l.length ≤ 1048576) (hok : ∀ x ∈ l, okSector x) (kr : Rd w w.heap.size 1 N n.length (flat fS n)) (kn : n.length ≤ 1048576) (hkn : ∀ x ∈ n, x.size ≤ maxLen) :
    Calls Try.prog 93 #[.pointer (some ⟨g, 0, none⟩)] w fun e w' => e = .returned (.bool (imB (okD c h p s l) n)) ∧ Below w.heap.size w w' := by
  have hq := l12Ok_any g c h p s A cp l w hd.disc6 hr hn hok
  have d5 : (_ : Option Value) = some (.slice N n.length q) := hd 5 (by simp)
  generalize okD c h p s l = d at hq ⊢
  go_enter Try.func93, Try.ntmps93
  go_wp2
  go_loop [3] (fun i => ∃ k : Nat, k ≤ n.length ∧ i = .int .i64 k ∧ Hid (∀ j, (hj : j < k) → (hj' : j < n.length) → noteB n[j] = true)) (fun i => n.length - (intOf i).toNat)
  case atStart => exact ⟨0, Nat.zero_le _, rfl, Lib.hid (fun j hj => absurd hj (by omega))⟩
  case round =>
    obtain ⟨k, hk, rfl, HI⟩ := hrel
    by_cases hlt : k < n.length
    · obtain ⟨b, off, rfl, hbb, hc⟩ := kr.at_ fS_len rfl k hlt
      have hc0 := hc 0 _ (by omega) rfl
      clear hc
      simp only [Nat.mul_one, Nat.add_zero] at hc0
      have hkm : (k : Int) < (n.length : Int) := by omega
      have hnote := fun W => l13Note_any n[k] W (hkn _ (List.getElem_mem hlt))
      cases g1 : noteB n[k]
      · have HR := Lib.hid (imB_4 (d := d) (notes_bad k hlt g1))
        rw [g1] at hnote
        go_wp2_with (go_at_call 128; refine (hnote _).mono ?_; rintro e w' ⟨rfl, rfl⟩)
        go_ret
        exact ⟨ret_bool HR.out.symm, Below.refl _ _⟩
      · have HN := Lib.hid (show ∀ j, (hj : j < k + 1) → (hj' : j < n.length) → noteB n[j] = true from fun j hj hj' => by
          rcases Nat.lt_or_ge j k with h1 | h1
          · exact HI.out j h1 hj'
          · obtain rfl : j = k := by omega
            exact g1)
        rw [g1] at hnote
        go_wp2_with (go_at_call 128; refine (hnote _).mono ?_; rintro e w' ⟨rfl, rfl⟩)
        go_round
        case rel => exact ⟨k + 1, by omega, by go_num, HN⟩
        case measure => simp [intOf]; omega
    · have HA := Lib.hid (notes_all (fun j hj => HI.out j (by omega) hj))
      cases d
      · have HR := Lib.hid (imB_1 (n := n))
        go_wp2_with (go_at_call 79; refine hq.mono ?_; rintro e w' ⟨rfl, hx⟩; have d5' : (_ : Option Value) = some (.slice N n.length q) := hd.next hx 5 (by simp))
        go_ret
        exact ⟨ret_bool HR.out.symm, hx⟩
      by_cases h8 : n.length ≤ 8
      · have HR := Lib.hid (imB_5 h8 HA.out)
        have g8 : decide ((n.length : Int) ≤ 8) = true := by simp; omega
        go_wp2_with (go_at_call 79; refine hq.mono ?_; rintro e w' ⟨rfl, hx⟩; have d5' : (_ : Option Value) = some (.slice N n.length q) := hd.next hx 5 (by simp))
        go_ret
        exact ⟨ret_bool HR.out.symm, hx⟩
      · have HR := Lib.hid (imB_2 (d := true) (n := n) (by omega))
        have g8 : decide ((n.length : Int) ≤ 8) = false := by simp; omega
        go_wp2_with (go_at_call 79; refine hq.mono ?_; rintro e w' ⟨rfl, hx⟩; have d5' : (_ : Option Value) = some (.slice N n.length q) := hd.next hx 5 (by simp))
        go_ret
        exact ⟨ret_bool HR.out.symm, hx⟩

set_option maxRecDepth 100000 in
set_option maxHeartbeats 400000 in
theorem spec_ValidImage_any (c h p s : Int) (A : Option Addr) (cp : Nat) (l : List DSector) (N : Option Addr) (q : Nat) (n : List ByteArray) (w : World)
    (hr : Rd w w.heap.size 2 A l.length (flat fSector l)) (hn : l.length ≤ 1048576) (hok : ∀ x ∈ l, okSector x) (kr : Rd w w.heap.size 1 N n.length (flat fS n)) (kn : n.length ≤ 1048576) (hkn : ∀ x ∈ n, x.size ≤ maxLen) :
    Calls Try.prog 45 #[.agg #[.int .i64 c, .int .i64 h, .int .i64 p, .int .i64 s, .slice A l.length cp, .slice N n.length q]] w fun e w' => e = .returned (.bool (imB (okD c h p s l) n)) ∧ Below w.heap.size w w' := by
  go_enter Try.func45, Try.ntmps45
  go_wp2_with (go_at_call 93; refine (l13Ok_any w.heap.size c h p s A cp l N q n _ (CP.made w [.int .i64 c, .int .i64 h, .int .i64 p, .int .i64 s, .slice A l.length cp, .slice N n.length q] _) ((hr.below (by with_reducible repeat (first | exact Below.refl _ _ | assumption | refine below_step ?_ (by assumption) | refine Below.drew ?_ | refine below_drewN ?_ _ | refine below_alloc ?_ _ | refine Below.setCell ?_ (by simp; try omega) _))).more (by simp)) hn hok ((kr.below (by with_reducible repeat (first | exact Below.refl _ _ | assumption | refine below_step ?_ (by assumption) | refine Below.drew ?_ | refine below_drewN ?_ _ | refine below_alloc ?_ _ | refine Below.setCell ?_ (by simp; try omega) _))).more (by simp)) kn hkn).mono ?_; rintro e w1 ⟨rfl, hx⟩)
  go_ret
  exact ⟨rfl, (by with_reducible repeat (first | exact Below.refl _ _ | assumption | refine below_step ?_ (by assumption) | refine Below.drew ?_ | refine below_drewN ?_ _ | refine below_alloc ?_ _ | refine Below.setCell ?_ (by simp; try omega) _))⟩

/-- A string that has a length. -/
structure StrN where
  val : ByteArray
  le : val.size ≤ maxLen
instance : Inhabited StrN := ⟨⟨⟨#[]⟩, by decide⟩⟩
def strN (n : List ByteArray) (h : ∀ x ∈ n, x.size ≤ maxLen) : List StrN := n.attach.map fun x => ⟨x.1, h x.1 x.2⟩
theorem strN_len {n : List ByteArray} (h : ∀ x ∈ n, x.size ≤ maxLen) : (strN n h).length = n.length := by simp [strN]
theorem strN_any {n : List ByteArray} (h : ∀ x ∈ n, x.size ≤ maxLen) : (strN n h).any (fun x => !noteB x.val) = !n.all noteB := by
  rw [Bool.eq_iff_iff]
  simp only [strN, List.any_map, List.any_eq_true, Bool.not_eq_true', List.all_eq_false, Function.comp]
  constructor
  · rintro ⟨x, _, hx⟩
    exact ⟨x.1, x.2, by simp [hx]⟩
  · rintro ⟨x, hx, hg⟩
    exact ⟨⟨x, hx⟩, List.mem_attach _ _, by simpa using hg⟩
theorem strN_get {n : List ByteArray} (h : ∀ x ∈ n, x.size ≤ maxLen) (j : Nat) (hj : j < (strN n h).length) (hj' : j < n.length) : ((strN n h)[j]!).val = n[j] := by
  rw [getElem!_pos _ j hj]
  simp [strN]

set_option maxRecDepth 100000 in
set_option maxHeartbeats 400000 in
theorem notNote_any (s : ByteArray) (w : World) (hs : s.size ≤ maxLen) :
    Calls Try.prog 95 #[.string s] w fun e w' => e = .returned (.bool (!noteB s)) ∧ w = w' := by
  have hq := fun W => validNote_any s W hs
  cases g : noteB s
  all_goals
    rw [g] at hq
    go_enter Try.func95, Try.ntmps95
    go_wp2_with (go_at_call 96; refine (hq _).mono ?_; rintro e w' ⟨rfl, rfl⟩)
    go_ret
    exact ⟨rfl, rfl⟩
theorem containsNot_any (N : Option Addr) (c : Nat) (n : List ByteArray) (w : World) (B : Nat) (kr : Rd w B 1 N n.length (flat fS n)) (kn : n.length ≤ 1048576) (hkn : ∀ x ∈ n, x.size ≤ maxLen) :
    Calls Try.prog 94 #[.slice N n.length c, .func (.func 95) #[] #[]] w fun e w' => e = .returned (.bool (!n.all noteB)) ∧ ∃ q, w' = w.drewN q := by
  rcases Nat.eq_zero_or_pos n.length with h0 | h0
  · have hnil : n = [] := List.eq_nil_of_length_eq_zero h0
    subst hnil
    exact (Try.slices_ContainsFunc_empty (α := StrN) N c _ w).mono fun _ _ ⟨a, b⟩ => ⟨a, 0, b⟩
  · obtain ⟨b, off, rfl, _, hc⟩ := kr.2 h0
    have := Try.slices_ContainsFunc (α := StrN) (fun x => .string x.val) (fun x => !noteB x.val) 95 #[] (fun args w => by kernel_rfl) b off n.length c (strN n hkn) w (fun W x _ => (notNote_any x.val W x.le).mono fun _ _ ⟨a, b⟩ => ⟨a, 0, b.symm⟩) (by rw [strN_len]; omega) (by omega) (fun j hj => by
      have hj' : j < n.length := by rwa [strN_len] at hj
      have h1 : j < (flat fS n).length := by rw [flat_length fS 1 fS_len]; omega
      have h2 := flat_get fS 1 fS_len n j 0 hj' (by omega)
      simp only [Nat.mul_one, Nat.add_zero, fS, List.getElem?_cons_zero] at h2
      rw [hc j h1]
      rw [List.getElem?_eq_getElem h1] at h2
      rw [h2, strN_get hkn j hj hj'])
    rw [List.take_of_length_le (by rw [strN_len]; omega), strN_any] at this
    exact this

set_option maxRecDepth 100000 in
set_option maxHeartbeats 1000000 in
theorem impl_ValidImage_any (c h p s : Int) (A : Option Addr) (cp : Nat) (l : List DSector) (N : Option Addr) (q : Nat) (n : List ByteArray) (w : World)
    (hr : Rd w w.heap.size 2 A l.length (flat fSector l)) (hn : l.length ≤ 1048576) (hok : ∀ x ∈ l, okSector x) (kr : Rd w w.heap.size 1 N n.length (flat fS n)) (kn : n.length ≤ 1048576) (hkn : ∀ x ∈ n, x.size ≤ maxLen) :
    Calls Try.prog 47 #[.agg #[.int .i64 c, .int .i64 h, .int .i64 p, .int .i64 s, .slice A l.length cp, .slice N n.length q]] w fun e w' => e = .returned (.bool (imB (okD c h p s l) n)) ∧ Below w.heap.size w w' := by
  have hd := CP.made w [.int .i64 c, .int .i64 h, .int .i64 p, .int .i64 s, .slice A l.length cp, .slice N n.length q] 71
  have hb0 : Below w.heap.size w (w.alloc (.cells #[.int .i64 c, .int .i64 h, .int .i64 p, .int .i64 s, .slice A l.length cp, .slice N n.length q] 71)) := (by with_reducible repeat (first | exact Below.refl _ _ | assumption | refine below_step ?_ (by assumption) | refine Below.drew ?_ | refine below_drewN ?_ _ | refine below_alloc ?_ _ | refine Below.setCell ?_ (by simp; try omega) _))
  have hq := impl_ValidDisc_any c h p s A cp l _ ((hr.below hb0).more hb0.size) hn hok
  have hf := fun W kr => containsNot_any N q n W w.heap.size kr kn hkn
  generalize okD c h p s l = d at hq ⊢
  cases d
  · have HR := Lib.hid (imB_1 (n := n))
    go_enter Try.func47, Try.ntmps47
    go_wp2_with (go_at_call 84; refine hq.mono ?_; rintro e w1 ⟨rfl, hx⟩; have hB : Below w.heap.size w w1 := (by with_reducible repeat (first | exact Below.refl _ _ | assumption | refine below_step ?_ (by assumption) | refine Below.drew ?_ | refine below_drewN ?_ _ | refine below_alloc ?_ _ | refine Below.setCell ?_ (by simp; try omega) _)))
    go_ret
    exact ⟨ret_bool HR.out.symm, hB⟩
  by_cases h8 : n.length ≤ 8
  · have HR := Lib.hid (imB_3 h8)
    have g8 : decide ((n.length : Int) ≤ 8) = true := by simp; omega
    clear h8
    cases g : n.all noteB
    all_goals
      rw [g] at hf
      have HR2 := Lib.hid (HR.out.trans g)
      go_enter Try.func47, Try.ntmps47
      go_wp2_with (first
        | (go_at_call 84; refine hq.mono ?_; rintro e w1 ⟨rfl, hx⟩; have hB : Below w.heap.size w w1 := (by with_reducible repeat (first | exact Below.refl _ _ | assumption | refine below_step ?_ (by assumption) | refine Below.drew ?_ | refine below_drewN ?_ _ | refine below_alloc ?_ _ | refine Below.setCell ?_ (by simp; try omega) _)); have d5 : (_ : Option Value) = some (.slice N n.length q) := hd.next hx 5 (by simp))
        | (go_at_call 94; refine (hf _ (kr.below hB)).mono ?_; rintro e w2 ⟨rfl, z, rfl⟩))
      go_ret
      exact ⟨ret_bool HR2.out.symm, (by with_reducible repeat (first | exact Below.refl _ _ | assumption | refine below_step ?_ (by assumption) | refine Below.drew ?_ | refine below_drewN ?_ _ | refine below_alloc ?_ _ | refine Below.setCell ?_ (by simp; try omega) _))⟩
  · have HR := Lib.hid (imB_2 (d := true) (n := n) (by omega))
    have g8 : decide ((n.length : Int) ≤ 8) = false := by simp; omega
    go_enter Try.func47, Try.ntmps47
    go_wp2_with (go_at_call 84; refine hq.mono ?_; rintro e w1 ⟨rfl, hx⟩; have hB : Below w.heap.size w w1 := (by with_reducible repeat (first | exact Below.refl _ _ | assumption | refine below_step ?_ (by assumption) | refine Below.drew ?_ | refine below_drewN ?_ _ | refine below_alloc ?_ _ | refine Below.setCell ?_ (by simp; try omega) _)); have d5 : (_ : Option Value) = some (.slice N n.length q) := hd.next hx 5 (by simp))
    go_ret
    exact ⟨ret_bool HR.out.symm, hB⟩
end Go.Proofs.Ytcoidpooghmppaa
