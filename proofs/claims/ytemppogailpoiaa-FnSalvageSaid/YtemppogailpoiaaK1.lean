/- Walks: the texts TrS Put W76 Bld Bld2 Bld3 W110 W111 W112 W113 W114 W115 W116 CopyF EntM DcM W45 W46 W47 W117 DecM W118 as one text. -/
import Derived.Test.YtemppogailpoiaaW31
import Derived.Test.YtemppogailpoiaaStep
import Derived.Test.YtemppogailpoiaaW61
import Derived.Test.YtemppogailpoiaaMem5
import Derived.Test.YtemppogailpoiaaW32
import Derived.Test.YtemppogailpoiaaW2
import Derived.Test.YtemppogailpoiaaSString
import Derived.Test.YtemppogailpoiaaShelf2
import Derived.Shelf.Strings.Builder1
import Derived.Test.YtemppogailpoiaaShelf
import Derived.Shelf.Strings.BuilderK
import Derived.Test.YtemppogailpoiaaW7
import Derived.Test.YtemppogailpoiaaK4
import Derived.Test.YtemppogailpoiaaW70
import Derived.Test.YtemppogailpoiaaMem3
import Derived.Deep.RegionLaw
import Derived.Deep.QuietTactic
import Derived.Deep.RegionHeld3
import Derived.Laws.CopyRow
import Derived.Test.YtemppogailpoiaaSChunk
import Derived.Test.YtemppogailpoiaaUnpM
import Derived.Test.YtemppogailpoiaaMath
import Derived.Test.YtemppogailpoiaaW4
import Derived.Test.YtemppogailpoiaaW5
import Derived.Test.YtemppogailpoiaaW30
import Derived.Test.YtemppogailpoiaaQB
import Derived.Test.YtemppogailpoiaaW62
namespace Go.Proofs.Ytemppogailpoiaa
set_option linter.unusedVariables false
open Go.RowKit

set_option maxRecDepth 100000 in
set_option maxHeartbeats 1000000 in
theorem trackSectors_any (c h s : Int) (P t b off cp : Nat) (l : List DSector) (w : World) (ht : t * P + P ≤ l.length) (hn : l.length ≤ 128) (hP : P ≤ 8) (hP0 : 0 < P) (hcp : l.length ≤ cp) :
    Calls Try.prog 45 #[.agg #[.int .i64 c, .int .i64 h, .int .i64 (P : Int), .int .i64 s, .slice (some ⟨b, off, none⟩) l.length cp], .int .i64 (t : Int)] w fun e w' => e = .returned (.slice (some ⟨b, off + t * P * 2, none⟩) P (cp - t * P)) ∧ Below w.heap.size w w' := by
  obtain ⟨q, hq⟩ : ∃ q, t * P = q := ⟨_, rfl⟩
  have hq2 : (t + 1) * P = q + P := by rw [Nat.succ_mul, hq]
  have ht2 : t ≤ 128 := by
    have := Nat.le_mul_of_pos_right t hP0
    omega
  have hw1 : IntKind.i64.wrap ((t : Int) * (P : Int)) = (q : Int) := by rw [← hq, ← Int.natCast_mul]; exact IntWalk.i64_in _ (by omega)
  have hw2 : IntKind.i64.wrap ((t : Int) + 1) = ((t + 1 : Nat) : Int) := IntWalk.i64_in _ (by omega)
  have hw3 : IntKind.i64.wrap (((t + 1 : Nat) : Int) * (P : Int)) = ((q + P : Nat) : Int) := by rw [← hq2, Int.natCast_mul]; exact IntWalk.i64_in _ (by rw [← Int.natCast_mul, hq2]; omega)
  rw [hq] at ht ⊢
  clear hq hq2
  generalize t + 1 = t1 at *
  obtain ⟨r, hr⟩ : ∃ r, q + P = r := ⟨_, rfl⟩
  rw [hr] at ht hw3
  have hqr : q ≤ r := by omega
  have hqri : (q : Int) ≤ (r : Int) := by omega
  have hrn : (r : Int) ≤ (cp : Int) := by omega
  have hrn2 : r ≤ cp := by omega
  have hrl : (r : Int) ≤ (l.length : Int) := by omega
  have hsub : r - q = P := by omega
  have hqc : ¬ cp = q := by omega
  have hqc2 : ¬ q = cp := by omega
  have HS := Lib.hid hsub
  clear hr hsub
  go_enter Try.func45, Try.ntmps45
  go_wp2
  go_ret
  exact ⟨by rw [← HS.out]; rfl, (by with_reducible repeat (first | exact Below.refl _ _ | assumption | refine below_step ?_ (by assumption) | refine Below.drew ?_ | refine below_drewN ?_ _ | refine below_alloc ?_ _ | refine Below.setCell ?_ (by simp; try omega) _))⟩
end Go.Proofs.Ytemppogailpoiaa
namespace Go.Proofs.Ytemppogailpoiaa
set_option linter.unusedVariables false
open Go.RowKit

theorem BX.cp {w : World} {g : Nat} {t : TypeId} {vs : List Value} (h : BX w g t vs) : CP w g vs := fun j hj => h.cell j hj
theorem BB.put {w W : World} (h : BB w W) {a : Addr} (ha : w.heap.size ≤ a.block) (u : Value) : BB w (W.setCell a u) := Below.setCell h ha u
theorem OO.put {w : World} {base size n : Nat} {e : TypeId} {v : Value} {xs : List Value} (h : OO w base e size v n xs) {a : Addr} (ha : a.block < base) (u : Value) : OO (w.setCell a u) base e size v n xs := ownsRow_setCell_below h ha u
theorem OO.base {w : World} {base base' size n : Nat} {e : TypeId} {v : Value} {xs : List Value} (h : OO w base e size v n xs) (hb : base' ≤ base) : OO w base' e size v n xs := own_base h hb
theorem OO.putne {w : World} {base size n : Nat} {e : TypeId} {v : Value} {xs : List Value} (h : OO w base e size v n xs) {a : Addr} (ha : v.ownBlock ≠ some a.block) (u : Value) : OO (w.setCell a u) base e size v n xs := by
  obtain ⟨h1, h2⟩ := h
  refine ⟨h1, ?_⟩
  rcases h2 with h2 | ⟨g, cap, cur, hv, hg, hh, r⟩
  · exact .inl h2
  · refine .inr ⟨g, cap, cur, hv, hg, (Below.heap_setCell _ _ _ _ (fun e => ha ?_)).trans hh, r⟩
    subst hv
    rw [← e]
    rfl
theorem OO.ne_old {w' : World} {base size n g : Nat} {e : TypeId} {v : Value} {xs : List Value} (h : OO w' base e size v n xs) (hg : g < base) : v.ownBlock ≠ some g := fun hv => by
  have := (World.ownsRow.lt h g hv).1
  omega
end Go.Proofs.Ytemppogailpoiaa
namespace Go.Proofs.Ytemppogailpoiaa
set_option linter.unusedVariables false
open Go.RowKit

def chrB (c : UInt8) : Bool := decide (32 ≤ c.toNat) && decide (c.toNat ≤ 126)
def noteB (s : ByteArray) : Bool := s.data.toList.all chrB && decide (1 ≤ s.size) && decide (s.size ≤ 40)
theorem chr_step (s : ByteArray) (k : Nat) (h : k < s.size) : (s.data.toList.drop k).all chrB = (chrB s[k] && (s.data.toList.drop (k + 1)).all chrB) := by
  rw [drop_cons s k h]; rfl
theorem chr_yes {s : ByteArray} {k : Nat} {h : k < s.size} {b : Bool} (he : (s.data.toList.drop k).all chrB = b) (h1 : 32 ≤ s[k].toNat) (h2 : s[k].toNat ≤ 126) : (s.data.toList.drop (k + 1)).all chrB = b := by
  rw [chr_step s k h] at he
  simpa [chrB, h1, h2] using he
theorem chr_no {s : ByteArray} {k : Nat} {h : k < s.size} (he : (s.data.toList.drop k).all chrB = s.data.toList.all chrB) (hc : chrB s[k] = false) : noteB s = false := by
  rw [chr_step s k h, hc, Bool.false_and] at he
  simp only [noteB, ← he, Bool.false_and]
theorem chr_end {s : ByteArray} {k : Nat} (hk : ¬ k < s.size) (he : (s.data.toList.drop k).all chrB = s.data.toList.all chrB) : noteB s = (decide (1 ≤ s.size) && decide (s.size ≤ 40)) := by
  rw [drop_end s k hk] at he
  simp only [noteB, ← he, List.all_nil, Bool.true_and]
theorem note_in {s : ByteArray} : (decide (1 ≤ s.size) && decide (s.size ≤ 40)) = inB (s.size : Int) 1 40 := by
  unfold inB
  rw [Bool.eq_iff_iff]
  simp only [Bool.and_eq_true, decide_eq_true_eq]
  omega
theorem empty_of (s : ByteArray) (h : s.size = 0) : s.toList.isEmpty = true := by
  rw [ByteArray.toList_eq]
  have : s.data.toList = [] := List.eq_nil_of_length_eq_zero (by simpa using h)
  rw [this]; rfl
theorem nonempty_of (s : ByteArray) (h : 0 < s.size) : s.toList.isEmpty = false := by
  rw [ByteArray.toList_eq]
  have := drop_cons s 0 h
  rw [List.drop_zero] at this
  rw [this]
  rfl

set_option maxRecDepth 100000 in
set_option maxHeartbeats 400000 in
theorem l13Note_any (s : ByteArray) (w : World) (hs : s.size ≤ maxLen) :
    Calls Try.prog 49 #[.string s] w fun e w' => e = .returned (.bool (noteB s)) ∧ w = w' := by
  unfold maxLen at hs
  have hin := fun W => l00In_any (s.size : Int) 1 40 W
  go_enter Try.func49, Try.ntmps49
  go_wp2
  go_loop [3] (fun i => ∃ k : Nat, k ≤ s.size ∧ i = .int .i64 k ∧ Hid ((s.data.toList.drop k).all chrB = s.data.toList.all chrB)) (fun i => s.size - (intOf i).toNat)
  case atStart => exact ⟨0, Nat.zero_le _, rfl, Lib.hid rfl⟩
  case round =>
    obtain ⟨k, hk, rfl, HS⟩ := hrel
    by_cases hlt : k < s.size
    · have hb := s[k].toNat_lt
      by_cases h1 : (s[k].toNat : Int) < 32
      · have HN := Lib.hid (chr_no (h := hlt) HS.out (by simp only [chrB, Bool.and_eq_false_iff, decide_eq_false_iff_not]; omega))
        go_wp2
        go_ret
        exact ⟨ret_bool HN.out.symm, rfl⟩
      by_cases h2 : 126 < (s[k].toNat : Int)
      · have HN := Lib.hid (chr_no (h := hlt) HS.out (by simp only [chrB, Bool.and_eq_false_iff, decide_eq_false_iff_not]; omega))
        go_wp2
        go_ret
        exact ⟨ret_bool HN.out.symm, rfl⟩
      have HN := Lib.hid (chr_yes (h := hlt) HS.out (by omega) (by omega))
      go_wp2
      go_round
      case rel => exact ⟨k + 1, by omega, by go_num, HN⟩
      case measure => simp [intOf]; omega
    · have HE := Lib.hid ((chr_end hlt HS.out).trans note_in)
      go_wp2_with (go_at_call 68; refine (hin _).mono ?_; rintro e w' ⟨rfl, rfl⟩)
      go_ret
      exact ⟨ret_bool HE.out.symm, rfl⟩

set_option maxRecDepth 100000 in
set_option maxHeartbeats 400000 in
theorem validNote_any (s : ByteArray) (w : World) (hs : s.size ≤ maxLen) :
    Calls Try.prog 30 #[.string s] w fun e w' => e = .returned (.bool (noteB s)) ∧ w = w' := by
  unfold maxLen at hs
  go_enter Try.func30, Try.ntmps30
  go_wp2
  go_loop [3, 6] (fun _ i => ∃ k : Nat, k ≤ s.size ∧ i = .int .i64 k ∧ Hid ((s.data.toList.drop k).all chrB = s.data.toList.all chrB)) (fun _ i => s.size - (intOf i).toNat)
  case atStart => exact ⟨0, Nat.zero_le _, rfl, Lib.hid rfl⟩
  case round =>
    obtain ⟨k, hk, rfl, HS⟩ := hrel
    by_cases hlt : k < s.size
    · have hb := s[k].toNat_lt
      by_cases h1 : (s[k].toNat : Int) < 32
      · have HN := Lib.hid (chr_no (h := hlt) HS.out (by simp only [chrB, Bool.and_eq_false_iff, decide_eq_false_iff_not]; omega))
        go_wp2
        go_ret
        exact ⟨ret_bool HN.out.symm, rfl⟩
      by_cases h2 : 126 < (s[k].toNat : Int)
      · have HN := Lib.hid (chr_no (h := hlt) HS.out (by simp only [chrB, Bool.and_eq_false_iff, decide_eq_false_iff_not]; omega))
        go_wp2
        go_ret
        exact ⟨ret_bool HN.out.symm, rfl⟩
      have HN := Lib.hid (chr_yes (h := hlt) HS.out (by omega) (by omega))
      go_wp2
      go_round
      case rel => exact ⟨k + 1, by omega, by go_num, HN⟩
      case measure => simp [intOf]; omega
    · have HE := Lib.hid (chr_end hlt HS.out)
      by_cases h0 : s.size = 0
      · have e1 := empty_of s h0
        have HE2 := Lib.hid (HE.out.trans (show (decide (1 ≤ s.size) && decide (s.size ≤ 40)) = false from by simp [h0]))
        clear h0
        go_wp2
        go_ret
        exact ⟨ret_bool HE2.out.symm, rfl⟩
      · have e1 := nonempty_of s (by omega)
        by_cases h40 : s.size ≤ 40
        · have HE2 := Lib.hid (HE.out.trans (show (decide (1 ≤ s.size) && decide (s.size ≤ 40)) = true from by simp only [Bool.and_eq_true, decide_eq_true_eq]; omega))
          have g : decide ((s.size : Int) ≤ 40) = true := by simp; omega
          go_wp2
          go_ret
          exact ⟨ret_bool HE2.out.symm, rfl⟩
        · have HE2 := Lib.hid (HE.out.trans (show (decide (1 ≤ s.size) && decide (s.size ≤ 40)) = false from by simp only [Bool.and_eq_false_iff, decide_eq_false_iff_not]; omega))
          have g : decide ((s.size : Int) ≤ 40) = false := by simp; omega
          go_wp2
          go_ret
          exact ⟨ret_bool HE2.out.symm, rfl⟩

def imB (d : Bool) (n : List ByteArray) : Bool := d && decide (n.length ≤ 8) && n.all noteB
theorem imB_1 {n : List ByteArray} : imB false n = false := by simp only [imB, Bool.false_and]
theorem imB_2 {d : Bool} {n : List ByteArray} (h : 8 < n.length) : imB d n = false := by
  have : decide (n.length ≤ 8) = false := by simp; omega
  simp only [imB, this, Bool.and_false, Bool.false_and]
theorem imB_3 {n : List ByteArray} (h : n.length ≤ 8) : imB true n = n.all noteB := by
  simp only [imB, decide_eq_true h, Bool.true_and]
theorem imB_4 {d : Bool} {n : List ByteArray} (h : n.all noteB = false) : imB d n = false := by
  simp only [imB, h, Bool.and_false]
theorem imB_5 {n : List ByteArray} (h : n.length ≤ 8) (g : n.all noteB = true) : imB true n = true := by
  rw [imB_3 h, g]
theorem notes_bad {n : List ByteArray} (k : Nat) (hk : k < n.length) (g : noteB n[k] = false) : n.all noteB = false := by
  rw [List.all_eq_false]
  exact ⟨n[k], List.getElem_mem hk, by simp [g]⟩
theorem notes_all {n : List ByteArray} (g : ∀ k, (hk : k < n.length) → noteB n[k] = true) : n.all noteB = true := by
  simp only [List.all_eq_true]
  intro x hx
  obtain ⟨k, hk, rfl⟩ := List.getElem_of_mem hx
  exact g k hk
theorem CP.disc6 {w : World} {g : Nat} {c h p s : Int} {v : Value} {r : List Value} (d : CP w g (.int .i64 c :: .int .i64 h :: .int .i64 p :: .int .i64 s :: v :: r)) : DP w g c h p s v :=
  ⟨d 0 (by simp), d 1 (by simp), d 2 (by simp), d 3 (by simp), d 4 (by simp)⟩

set_option maxRecDepth 100000 in
set_option maxHeartbeats 1000000 in
theorem l13Ok_any (g : Nat) (c h p s : Int) (A : Option Addr) (cp : Nat) (l : List DSector) (N : Option Addr) (q : Nat) (n : List ByteArray) (w : World)
    (hd : CP w g [.int .i64 c, .int .i64 h, .int .i64 p, .int .i64 s, .slice A l.length cp, .slice N n.length q])
    (hr : Rd w w.heap.size 2 A l.length (flat fSector l)) (hn : l.length ≤ 1048576) (hok : ∀ x ∈ l, okSector x) (kr : Rd w w.heap.size 1 N n.length (flat fS n)) (kn : n.length ≤ 1048576) (hkn : ∀ x ∈ n, x.size ≤ maxLen) :
    Calls Try.prog 22 #[.pointer (some ⟨g, 0, none⟩)] w fun e w' => e = .returned (.bool (imB (okD c h p s l) n)) ∧ Below w.heap.size w w' := by
  have hq := l12Ok_any g c h p s A cp l w hd.disc6 hr hn hok
  have d5 : (_ : Option Value) = some (.slice N n.length q) := hd 5 (by simp)
  generalize okD c h p s l = d at hq ⊢
  go_enter Try.func22, Try.ntmps22
  go_wp2
  go_loop [3] (fun i => ∃ k : Nat, k ≤ n.length ∧ i = .int .i64 k ∧ Hid (∀ j, (hj : j < k) → (hj' : j < n.length) → noteB n[j] = true)) (fun i => n.length - (intOf i).toNat)
  case atStart => exact ⟨0, Nat.zero_le _, rfl, Lib.hid (fun j hj => absurd hj (by omega))⟩
  case round =>
    obtain ⟨k, hk, rfl, HI⟩ := hrel
    by_cases hlt : k < n.length
    · obtain ⟨b, off, rfl, hbb, hc⟩ := kr.at_ fS_len rfl k hlt
      have hc0 := hc 0 _ (by omega) rfl
      clear hc
      simp only [Nat.mul_one, Nat.add_zero] at hc0
      have hkm : (k : Int) < (n.length : Int) := by omega
      have hnote := fun W => l13Note_any n[k] W (hkn _ (List.getElem_mem hlt))
      cases g1 : noteB n[k]
      · have HR := Lib.hid (imB_4 (d := d) (notes_bad k hlt g1))
        rw [g1] at hnote
        go_wp2_with (go_at_call 49; refine (hnote _).mono ?_; rintro e w' ⟨rfl, rfl⟩)
        go_ret
        exact ⟨ret_bool HR.out.symm, Below.refl _ _⟩
      · have HN := Lib.hid (show ∀ j, (hj : j < k + 1) → (hj' : j < n.length) → noteB n[j] = true from fun j hj hj' => by
          rcases Nat.lt_or_ge j k with h1 | h1
          · exact HI.out j h1 hj'
          · obtain rfl : j = k := by omega
            exact g1)
        rw [g1] at hnote
        go_wp2_with (go_at_call 49; refine (hnote _).mono ?_; rintro e w' ⟨rfl, rfl⟩)
        go_round
        case rel => exact ⟨k + 1, by omega, by go_num, HN⟩
        case measure => simp [intOf]; omega
    · have HA := Lib.hid (notes_all (fun j hj => HI.out j (by omega) hj))
      cases d
      · have HR := Lib.hid (imB_1 (n := n))
        go_wp2_with (go_at_call 50; refine hq.mono ?_; rintro e w' ⟨rfl, hx⟩; have d5' : (_ : Option Value) = some (.slice N n.length q) := hd.next hx 5 (by simp))
        go_ret
        exact ⟨ret_bool HR.out.symm, hx⟩
      by_cases h8 : n.length ≤ 8
      · have HR := Lib.hid (imB_5 h8 HA.out)
        have g8 : decide ((n.length : Int) ≤ 8) = true := by simp; omega
        go_wp2_with (go_at_call 50; refine hq.mono ?_; rintro e w' ⟨rfl, hx⟩; have d5' : (_ : Option Value) = some (.slice N n.length q) := hd.next hx 5 (by simp))
        go_ret
        exact ⟨ret_bool HR.out.symm, hx⟩
      · have HR := Lib.hid (imB_2 (d := true) (n := n) (by omega))
        have g8 : decide ((n.length : Int) ≤ 8) = false := by simp; omega
        go_wp2_with (go_at_call 50; refine hq.mono ?_; rintro e w' ⟨rfl, hx⟩; have d5' : (_ : Option Value) = some (.slice N n.length q) := hd.next hx 5 (by simp))
        go_ret
        exact ⟨ret_bool HR.out.symm, hx⟩

set_option maxRecDepth 100000 in
set_option maxHeartbeats 400000 in
theorem spec_ValidImage_any (c h p s : Int) (A : Option Addr) (cp : Nat) (l : List DSector) (N : Option Addr) (q : Nat) (n : List ByteArray) (w : World)
    (hr : Rd w w.heap.size 2 A l.length (flat fSector l)) (hn : l.length ≤ 1048576) (hok : ∀ x ∈ l, okSector x) (kr : Rd w w.heap.size 1 N n.length (flat fS n)) (kn : n.length ≤ 1048576) (hkn : ∀ x ∈ n, x.size ≤ maxLen) :
    Calls Try.prog 8 #[.agg #[.int .i64 c, .int .i64 h, .int .i64 p, .int .i64 s, .slice A l.length cp, .slice N n.length q]] w fun e w' => e = .returned (.bool (imB (okD c h p s l) n)) ∧ Below w.heap.size w w' := by
  go_enter Try.func8, Try.ntmps8
  go_wp2_with (go_at_call 22; refine (l13Ok_any w.heap.size c h p s A cp l N q n _ (CP.made w [.int .i64 c, .int .i64 h, .int .i64 p, .int .i64 s, .slice A l.length cp, .slice N n.length q] _) ((hr.below (by with_reducible repeat (first | exact Below.refl _ _ | assumption | refine below_step ?_ (by assumption) | refine Below.drew ?_ | refine below_drewN ?_ _ | refine below_alloc ?_ _ | refine Below.setCell ?_ (by simp; try omega) _))).more (by simp)) hn hok ((kr.below (by with_reducible repeat (first | exact Below.refl _ _ | assumption | refine below_step ?_ (by assumption) | refine Below.drew ?_ | refine below_drewN ?_ _ | refine below_alloc ?_ _ | refine Below.setCell ?_ (by simp; try omega) _))).more (by simp)) kn hkn).mono ?_; rintro e w1 ⟨rfl, hx⟩)
  go_ret
  exact ⟨rfl, (by with_reducible repeat (first | exact Below.refl _ _ | assumption | refine below_step ?_ (by assumption) | refine Below.drew ?_ | refine below_drewN ?_ _ | refine below_alloc ?_ _ | refine Below.setCell ?_ (by simp; try omega) _))⟩

/-- A string that has a length. -/
structure StrN where
  val : ByteArray
  le : val.size ≤ maxLen
instance : Inhabited StrN := ⟨⟨⟨#[]⟩, by decide⟩⟩
def strN (n : List ByteArray) (h : ∀ x ∈ n, x.size ≤ maxLen) : List StrN := n.attach.map fun x => ⟨x.1, h x.1 x.2⟩
theorem strN_len {n : List ByteArray} (h : ∀ x ∈ n, x.size ≤ maxLen) : (strN n h).length = n.length := by simp [strN]
theorem strN_any {n : List ByteArray} (h : ∀ x ∈ n, x.size ≤ maxLen) : (strN n h).any (fun x => !noteB x.val) = !n.all noteB := by
  rw [Bool.eq_iff_iff]
  simp only [strN, List.any_map, List.any_eq_true, Bool.not_eq_true', List.all_eq_false, Function.comp]
  constructor
  · rintro ⟨x, _, hx⟩
    exact ⟨x.1, x.2, by simp [hx]⟩
  · rintro ⟨x, hx, hg⟩
    exact ⟨⟨x, hx⟩, List.mem_attach _ _, by simpa using hg⟩
theorem strN_get {n : List ByteArray} (h : ∀ x ∈ n, x.size ≤ maxLen) (j : Nat) (hj : j < (strN n h).length) (hj' : j < n.length) : ((strN n h)[j]!).val = n[j] := by
  rw [getElem!_pos _ j hj]
  simp [strN]

set_option maxRecDepth 100000 in
set_option maxHeartbeats 400000 in
theorem notNote_any (s : ByteArray) (w : World) (hs : s.size ≤ maxLen) :
    Calls Try.prog 41 #[.string s] w fun e w' => e = .returned (.bool (!noteB s)) ∧ w = w' := by
  have hq := fun W => validNote_any s W hs
  cases g : noteB s
  all_goals
    rw [g] at hq
    go_enter Try.func41, Try.ntmps41
    go_wp2_with (go_at_call 30; refine (hq _).mono ?_; rintro e w' ⟨rfl, rfl⟩)
    go_ret
    exact ⟨rfl, rfl⟩
theorem containsNot_any (N : Option Addr) (c : Nat) (n : List ByteArray) (w : World) (B : Nat) (kr : Rd w B 1 N n.length (flat fS n)) (kn : n.length ≤ 1048576) (hkn : ∀ x ∈ n, x.size ≤ maxLen) :
    Calls Try.prog 40 #[.slice N n.length c, .func (.func 41) #[] #[]] w fun e w' => e = .returned (.bool (!n.all noteB)) ∧ ∃ q, w' = w.drewN q := by
  rcases Nat.eq_zero_or_pos n.length with h0 | h0
  · have hnil : n = [] := List.eq_nil_of_length_eq_zero h0
    subst hnil
    exact (Try.slices_ContainsFunc_empty (α := StrN) N c _ w).mono fun _ _ ⟨a, b⟩ => ⟨a, 0, b⟩
  · obtain ⟨b, off, rfl, _, hc⟩ := kr.2 h0
    have := Try.slices_ContainsFunc (α := StrN) (fun x => .string x.val) (fun x => !noteB x.val) 41 #[] (fun args w => by kernel_rfl) b off n.length c (strN n hkn) w (fun W x _ => (notNote_any x.val W x.le).mono fun _ _ ⟨a, b⟩ => ⟨a, 0, b.symm⟩) (by rw [strN_len]; omega) (by omega) (fun j hj => by
      have hj' : j < n.length := by rwa [strN_len] at hj
      have h1 : j < (flat fS n).length := by rw [flat_length fS 1 fS_len]; omega
      have h2 := flat_get fS 1 fS_len n j 0 hj' (by omega)
      simp only [Nat.mul_one, Nat.add_zero, fS, List.getElem?_cons_zero] at h2
      rw [hc j h1]
      rw [List.getElem?_eq_getElem h1] at h2
      rw [h2, strN_get hkn j hj hj'])
    rw [List.take_of_length_le (by rw [strN_len]; omega), strN_any] at this
    exact this

set_option maxRecDepth 100000 in
set_option maxHeartbeats 1000000 in
theorem impl_ValidImage_any (c h p s : Int) (A : Option Addr) (cp : Nat) (l : List DSector) (N : Option Addr) (q : Nat) (n : List ByteArray) (w : World)
    (hr : Rd w w.heap.size 2 A l.length (flat fSector l)) (hn : l.length ≤ 1048576) (hok : ∀ x ∈ l, okSector x) (kr : Rd w w.heap.size 1 N n.length (flat fS n)) (kn : n.length ≤ 1048576) (hkn : ∀ x ∈ n, x.size ≤ maxLen) :
    Calls Try.prog 20 #[.agg #[.int .i64 c, .int .i64 h, .int .i64 p, .int .i64 s, .slice A l.length cp, .slice N n.length q]] w fun e w' => e = .returned (.bool (imB (okD c h p s l) n)) ∧ Below w.heap.size w w' := by
  have hd := CP.made w [.int .i64 c, .int .i64 h, .int .i64 p, .int .i64 s, .slice A l.length cp, .slice N n.length q] 29
  have hb0 : Below w.heap.size w (w.alloc (.cells #[.int .i64 c, .int .i64 h, .int .i64 p, .int .i64 s, .slice A l.length cp, .slice N n.length q] 29)) := (by with_reducible repeat (first | exact Below.refl _ _ | assumption | refine below_step ?_ (by assumption) | refine Below.drew ?_ | refine below_drewN ?_ _ | refine below_alloc ?_ _ | refine Below.setCell ?_ (by simp; try omega) _))
  have hq := impl_ValidDisc_any c h p s A cp l _ ((hr.below hb0).more hb0.size) hn hok
  have hf := fun W kr => containsNot_any N q n W w.heap.size kr kn hkn
  generalize okD c h p s l = d at hq ⊢
  cases d
  · have HR := Lib.hid (imB_1 (n := n))
    go_enter Try.func20, Try.ntmps20
    go_wp2_with (go_at_call 39; refine hq.mono ?_; rintro e w1 ⟨rfl, hx⟩; have hB : Below w.heap.size w w1 := (by with_reducible repeat (first | exact Below.refl _ _ | assumption | refine below_step ?_ (by assumption) | refine Below.drew ?_ | refine below_drewN ?_ _ | refine below_alloc ?_ _ | refine Below.setCell ?_ (by simp; try omega) _)))
    go_ret
    exact ⟨ret_bool HR.out.symm, hB⟩
  by_cases h8 : n.length ≤ 8
  · have HR := Lib.hid (imB_3 h8)
    have g8 : decide ((n.length : Int) ≤ 8) = true := by simp; omega
    clear h8
    cases g : n.all noteB
    all_goals
      rw [g] at hf
      have HR2 := Lib.hid (HR.out.trans g)
      go_enter Try.func20, Try.ntmps20
      go_wp2_with (first
        | (go_at_call 39; refine hq.mono ?_; rintro e w1 ⟨rfl, hx⟩; have hB : Below w.heap.size w w1 := (by with_reducible repeat (first | exact Below.refl _ _ | assumption | refine below_step ?_ (by assumption) | refine Below.drew ?_ | refine below_drewN ?_ _ | refine below_alloc ?_ _ | refine Below.setCell ?_ (by simp; try omega) _)); have d5 : (_ : Option Value) = some (.slice N n.length q) := hd.next hx 5 (by simp))
        | (go_at_call 40; refine (hf _ (kr.below hB)).mono ?_; rintro e w2 ⟨rfl, z, rfl⟩))
      go_ret
      exact ⟨ret_bool HR2.out.symm, (by with_reducible repeat (first | exact Below.refl _ _ | assumption | refine below_step ?_ (by assumption) | refine Below.drew ?_ | refine below_drewN ?_ _ | refine below_alloc ?_ _ | refine Below.setCell ?_ (by simp; try omega) _))⟩
  · have HR := Lib.hid (imB_2 (d := true) (n := n) (by omega))
    have g8 : decide ((n.length : Int) ≤ 8) = false := by simp; omega
    go_enter Try.func20, Try.ntmps20
    go_wp2_with (go_at_call 39; refine hq.mono ?_; rintro e w1 ⟨rfl, hx⟩; have hB : Below w.heap.size w w1 := (by with_reducible repeat (first | exact Below.refl _ _ | assumption | refine below_step ?_ (by assumption) | refine Below.drew ?_ | refine below_drewN ?_ _ | refine below_alloc ?_ _ | refine Below.setCell ?_ (by simp; try omega) _)); have d5 : (_ : Option Value) = some (.slice N n.length q) := hd.next hx 5 (by simp))
    go_ret
    exact ⟨ret_bool HR.out.symm, hB⟩
end Go.Proofs.Ytemppogailpoiaa
namespace Go.Proofs.Ytemppogailpoiaa
open Go.Shelf
def wsRen : Go.Shelf.Ren := ⟨fun | 166 => 42 | 240 => 77 | 276 => 88 | n => n, fun | 0 => 0 | 3 => 3 | 4 => 4 | 5 => 5 | 9 => 9 | 20 => 20 | 37 => 22 | 70 => 77 | 72 => 79 | 75 => 81 | 80 => 89 | 164 => 119 | n => n, fun | n => n⟩
theorem wsLays : Go.Proofs.Lays.n166 Try.prog wsRen := {
  mixed := by kernel_rfl
  f166 := Try.func42.trans (congrArg some (by kernel_rfl))
  f240 := Try.func77.trans (congrArg some (by kernel_rfl))
  f276 := Try.func88.trans (congrArg some (by kernel_rfl))
  t0 := Try.underlying0
  a0 := Try.isAgg0
  z0 := Try.sizeOf0
  v0 := Try.zeroValue0
  t3 := Try.underlying3
  a3 := Try.isAgg3
  z3 := Try.sizeOf3
  v3 := Try.zeroValue3
  t4 := Try.underlying4
  a4 := Try.isAgg4
  z4 := Try.sizeOf4
  v4 := Try.zeroValue4
  t9 := Try.underlying9
  a9 := Try.isAgg9
  z9 := Try.sizeOf9
  v9 := Try.zeroValue9
  t20 := Try.underlying20
  a20 := Try.isAgg20
  z20 := Try.sizeOf20
  v20 := Try.zeroValue20
  t37 := Try.underlying22
  a37 := Try.isAgg22
  z37 := Try.sizeOf22
  v37 := Try.zeroValue22
  t70 := Try.underlying77
  a70 := Try.isAgg77
  z70 := Try.sizeOf77
  v70 := Try.zeroValue77
  t72 := Try.underlying79
  a72 := Try.isAgg79
  z72 := Try.sizeOf79
  v72 := Try.zeroValue79
  t75 := Try.underlying81
  a75 := Try.isAgg81
  z75 := Try.sizeOf81
  v75 := Try.zeroValue81
  t164 := Try.underlying119
  a164 := Try.isAgg119
  z164 := Try.sizeOf119
  v164 := Try.zeroValue119 }
theorem wsExtra : Builder.Extra Try.prog wsRen := {
  sizeBuilder := by kernel_rfl
  liesBuilder := by kernel_rfl
  t5 := Try.underlying5
  a5 := Try.isAgg5
  z5 := Try.sizeOf5
  v5 := Try.zeroValue5
  infoByte := by kernel_rfl
  cellsByte := by kernel_rfl
  sizeByte := by kernel_rfl
  neB5 := by decide }
set_option linter.unusedVariables false
open Go.RowKit in
theorem WriteString_any (B b : Nat) (bs : List Value) (s : ByteArray) (w : World) (h : Lib.IsBuilder 79 5 B b bs w) (hlen : bs.length + s.size ≤ 140737488355328) (hBw : B ≤ w.heap.size) :
    Calls Try.prog 42 #[.pointer (some ⟨b, 0, none⟩), .string s] w fun e w' => e = .returned (.tuple #[.int .i64 s.size, .nilIface]) ∧ (Lib.BuilderAt 79 5 B b (.pointer (some ⟨b, 0, none⟩)) (bs ++ Lib.strCells s) w' ∧ Below B w w') :=
  Any.Builder_WriteString wsLays wsExtra B b bs s w h hlen hBw
end Go.Proofs.Ytemppogailpoiaa
namespace Go.Proofs.Ytemppogailpoiaa
open Go.Shelf
def wbRen : Go.Shelf.Ren := ⟨fun | 167 => 79 | 240 => 77 | 276 => 88 | n => n, fun | 0 => 0 | 3 => 3 | 4 => 4 | 5 => 5 | 9 => 9 | 20 => 20 | 37 => 22 | 70 => 77 | 72 => 79 | 75 => 81 | 80 => 89 | 164 => 119 | n => n, fun | n => n⟩
theorem wbLays : Go.Proofs.Lays.n167 Try.prog wbRen := {
  mixed := by kernel_rfl
  f167 := Try.func79.trans (congrArg some (by kernel_rfl))
  f240 := Try.func77.trans (congrArg some (by kernel_rfl))
  f276 := Try.func88.trans (congrArg some (by kernel_rfl))
  t0 := Try.underlying0
  a0 := Try.isAgg0
  z0 := Try.sizeOf0
  v0 := Try.zeroValue0
  t4 := Try.underlying4
  a4 := Try.isAgg4
  z4 := Try.sizeOf4
  v4 := Try.zeroValue4
  t5 := Try.underlying5
  a5 := Try.isAgg5
  z5 := Try.sizeOf5
  v5 := Try.zeroValue5
  t9 := Try.underlying9
  a9 := Try.isAgg9
  z9 := Try.sizeOf9
  v9 := Try.zeroValue9
  t20 := Try.underlying20
  a20 := Try.isAgg20
  z20 := Try.sizeOf20
  v20 := Try.zeroValue20
  t37 := Try.underlying22
  a37 := Try.isAgg22
  z37 := Try.sizeOf22
  v37 := Try.zeroValue22
  t70 := Try.underlying77
  a70 := Try.isAgg77
  z70 := Try.sizeOf77
  v70 := Try.zeroValue77
  t72 := Try.underlying79
  a72 := Try.isAgg79
  z72 := Try.sizeOf79
  v72 := Try.zeroValue79
  t75 := Try.underlying81
  a75 := Try.isAgg81
  z75 := Try.sizeOf81
  v75 := Try.zeroValue81
  t164 := Try.underlying119
  a164 := Try.isAgg119
  z164 := Try.sizeOf119
  v164 := Try.zeroValue119 }
theorem wbExtra : Builder.Extra Try.prog wbRen := {
  sizeBuilder := by kernel_rfl
  liesBuilder := by kernel_rfl
  t5 := Try.underlying5
  a5 := Try.isAgg5
  z5 := Try.sizeOf5
  v5 := Try.zeroValue5
  infoByte := by kernel_rfl
  cellsByte := by kernel_rfl
  sizeByte := by kernel_rfl
  neB5 := by decide }
set_option linter.unusedVariables false
open Go.RowKit in
theorem WriteByte_any (B b : Nat) (bs : List Value) (c : Int) (w : World) (h : Lib.IsBuilder 79 5 B b bs w) (hlen : bs.length + 1 ≤ 140737488355328) (hBw : B ≤ w.heap.size) :
    Calls Try.prog 79 #[.pointer (some ⟨b, 0, none⟩), .int .u8 c] w fun e w' => e = .returned .nilIface ∧ (Lib.BuilderAt 79 5 B b (.pointer (some ⟨b, 0, none⟩)) (bs ++ [.int .u8 c]) w' ∧ Below B w w') :=
  Any.Builder_WriteByte wbLays wbExtra B b bs c w h hlen hBw
end Go.Proofs.Ytemppogailpoiaa
namespace Go.Proofs.Ytemppogailpoiaa
open Go.Shelf Go.RowKit
theorem WriteByte_k (B b : Nat) (bs : List Value) (c : Int) (w : World) (h : Lib.IsBuilderF 79 5 B b bs w) (hlen : bs.length + 1 ≤ 140737488355328) (hBw : B ≤ w.heap.size) :
    Calls Try.prog 79 #[.pointer (some ⟨b, 0, none⟩), .int .u8 c] w fun e w' => e = .returned .nilIface ∧ (Lib.BuilderAtF 79 5 B b (.pointer (some ⟨b, 0, none⟩)) (bs ++ [.int .u8 c]) w' ∧ Below B w w' ∧ Lib.OthersKept 5 (some b) w w') :=
  Any.Builder_WriteByte_k wbLays wbExtra B b bs c w h hlen hBw
theorem WriteString_k (B b : Nat) (bs : List Value) (s : ByteArray) (w : World) (h : Lib.IsBuilderF 79 5 B b bs w) (hlen : bs.length + s.size ≤ 140737488355328) (hBw : B ≤ w.heap.size) :
    Calls Try.prog 42 #[.pointer (some ⟨b, 0, none⟩), .string s] w fun e w' => e = .returned (.tuple #[.int .i64 s.size, .nilIface]) ∧ (Lib.BuilderAtF 79 5 B b (.pointer (some ⟨b, 0, none⟩)) (bs ++ Lib.strCells s) w' ∧ Below B w w' ∧ Lib.OthersKept 5 (some b) w w') :=
  Any.Builder_WriteString_k wsLays wsExtra B b bs s w h hlen hBw
theorem OthersKept.bx {e : TypeId} {b g : Nat} {t : TypeId} {w w' : World} {xs : List Value} (h : Lib.OthersKept e (some b) w w') (F : BX w g t xs) (h1 : g ≠ b) (h2 : t ≠ e) : BX w' g t xs :=
  h g _ F (fun x => h1 (Option.some.inj x)) (fun c fz x => h2 (by injection x))
set_option maxHeartbeats 1000000 in
set_option maxRecDepth 100000 in
theorem String_at (B b : Nat) (l : List UInt8) (W0 w : World) (hw : Below W0.heap.size W0 w) (h : Lib.IsBuilderF 79 5 B b (Lib.byteCells l) W0) (h0 : l ≠ []) :
    Calls Try.prog 48 #[.pointer (some ⟨b, 0, none⟩)] w fun e w' => e = .returned (.string ⟨l.toArray⟩) ∧ Below B w w' ∧ ∀ k, W0.heap.size ≤ k → w'.heap[k]? = w.heap[k]? := by
  obtain ⟨p, hB, v, hbk, hown, hne⟩ : ∃ p, Lib.BuilderAtF 79 5 B b p (Lib.byteCells l) W0 := by
    rcases h with h | h
    · exact ⟨_, h⟩
    · exact ⟨_, h⟩
  have hl0 : l.length ≠ 0 := by simpa using h0
  rw [Lib.byteCells_length] at hown
  obtain ⟨g, cap, cur, fz, rfl, hbg, hg, hfz, hnc, hcm, hcs, htake⟩ : ∃ g cap cur fz, v = .slice (some ⟨g, 0, none⟩) l.length cap ∧ B ≤ g ∧ W0.heap[g]? = some (.cells cur 5 fz) ∧ fz.2 ≤ l.length * 1 ∧ l.length ≤ cap ∧ cap ≤ maxLen ∧ cur.size = cap * 1 ∧ cur.toList.take (l.length * 1) = Lib.byteCells l := by
    rcases hown.2 with ⟨_, hz⟩ | ⟨g, cap, cur, fz, hv, r⟩
    · exact absurd hz hl0
    · exact ⟨g, cap, cur, fz, hv, r⟩
  have hgl : g < W0.heap.size := (Array.getElem?_eq_some_iff.1 hg).1
  have hbl : b < W0.heap.size := (Array.getElem?_eq_some_iff.1 hbk).1
  replace hbk := (hw.block b hbl).trans hbk
  have hg0 := hg
  replace hg := (hw.block g hgl).trans hg
  have c1 : w.drew.cell? ⟨b, 1, none⟩ = some (.slice (some ⟨g, 0, none⟩) l.length cap) := by
    have : w.drew.heap[b]? = some (.cells #[p, .slice (some ⟨g, 0, none⟩) l.length cap] 79 (0, 0)) := hbk
    rw [Lib.cell_of_heap this]; rfl
  have hSD : (Builtin.unsafeSliceData_ #[22] 117 #[.slice (some ⟨g, 0, none⟩) l.length cap]).run Try.prog w.drew = .ok (.pointer (some ⟨g, 0, none⟩)) w.drew :=
    Lib.run_unsafeSliceData_row _ _ _ _ _ _ (by omega)
  have hUS : (Builtin.unsafeString_ #[117, 3] 9 #[.pointer (some ⟨g, 0, none⟩), .int .i64 l.length]).run Try.prog w.drew = .ok (.string ⟨l.toArray⟩) (w.drew.freeze ⟨g, 0, none⟩ l.length) := by
    refine Lib.run_unsafeString_row w.drew 117 3 9 5 Try.underlying117 wsExtra.cellsByte g cur.size (by have hg' : w.drew.heap[g]? = some (.cells cur 5 fz) := hg; simp [World.shape?, hg']) l h0 (by omega) (by unfold maxLen at hcm; omega) ?_
    intro j x hx
    have h1 := hown.cells (g := g) rfl j (.int .u8 x.toNat) (by simp [Lib.byteCells, hx])
    have h2 := hw.cell (p := (⟨g, 0, none⟩ : Addr).add j) (by simp only [Addr.add]; split <;> exact hgl)
    exact h2.trans h1
  have mixed := wsLays.mixed
  go_enter Try.func48, Try.ntmps48
  go_wp2
  go_region_o
  all_goals
    go_wp2
    go_ret
    refine ⟨rfl, Lib.below_freeze (Below.drew (Below.refl B w)) (p := ⟨g, 0, none⟩) hbg _, fun k hk => ?_⟩
    have hne : g ≠ k := by omega
    unfold World.freeze
    split
    · rfl
    · show (w.drew.heap.modify _ _)[k]? = _
      rw [Array.getElem?_modify, if_neg hne]
      rfl
end Go.Proofs.Ytemppogailpoiaa
namespace Go.Proofs.Ytemppogailpoiaa
set_option linter.unusedVariables false
open Go.RowKit

def byteB (n : Nat) : ByteArray := ⟨[UInt8.ofNat n].toArray⟩
def hdI (c h p s : Int) : ByteArray := ⟨#[80, 73, 1]⟩ ++ ⟨[UInt8.ofNat c.toNat, UInt8.ofNat h.toNat, UInt8.ofNat p.toNat, UInt8.ofNat s.toNat].toArray⟩
def trS (l : List DSector) (P t : Nat) : List DSector := (l.drop (t * P)).take P
/-- Whether a track has a sector that is not missing. -/
def nonE (ss : List DSector) : Bool := ss.any (fun x => !decide (x.f1 = 3))
def plB : List DSector → List UInt8
  | [] => []
  | x :: r => UInt8.ofNat x.f1.toNat :: (x.f0.data.toList ++ plB r)
def tkB (t : Nat) (ss : List DSector) : ByteArray := byteB t ++ ⟨(pbG ⟨(plB ss).toArray⟩ 0 0 []).toArray⟩
theorem hdI_size (c h p s : Int) : (hdI c h p s).size = 7 := rfl
set_option maxRecDepth 100000 in
set_option maxHeartbeats 1000000 in
theorem headerData_any (c h p s : Int) (v : Value) (w : World) (hc : 0 ≤ c ∧ c ≤ 255) (hh : 0 ≤ h ∧ h ≤ 255) (hp : 0 ≤ p ∧ p ≤ 255) (hs : 0 ≤ s ∧ s ≤ 255) :
    Calls Try.prog 43 #[.agg #[.int .i64 c, .int .i64 h, .int .i64 p, .int .i64 s, v]] w fun e w' => e = .returned (.string (hdI c h p s)) ∧ Below w.heap.size w w' := by
  have b0 : IntKind.u8.wrap c = c := IntWalk.u8_in _ (by omega)
  have n0 : ((UInt8.ofNat c.toNat).toNat : Int) = c := by rw [UInt8.toNat_ofNat']; omega
  have b1 : IntKind.u8.wrap h = h := IntWalk.u8_in _ (by omega)
  have n1 : ((UInt8.ofNat h.toNat).toNat : Int) = h := by rw [UInt8.toNat_ofNat']; omega
  have b2 : IntKind.u8.wrap p = p := IntWalk.u8_in _ (by omega)
  have n2 : ((UInt8.ofNat p.toNat).toNat : Int) = p := by rw [UInt8.toNat_ofNat']; omega
  have b3 : IntKind.u8.wrap s = s := IntWalk.u8_in _ (by omega)
  have n3 : ((UInt8.ofNat s.toNat).toNat : Int) = s := by rw [UInt8.toNat_ofNat']; omega
  have hlc : (#[Value.int .u8 c, .int .u8 h, .int .u8 p, .int .u8 s] : Array Value).toList = bcells [UInt8.ofNat c.toNat, UInt8.ofNat h.toNat, UInt8.ofNat p.toNat, UInt8.ofNat s.toNat] := by simp only [bcells, List.map_cons, List.map_nil, n0, n1, n2, n3]
  have hcv := run_b2s_lit (P := Try.prog) (dst := 9) Try.underlying22 Try.underlying5 Try.underlying9 (w.alloc (.cells #[.int .i64 c, .int .i64 h, .int .i64 p, .int .i64 s, v] 26)) [UInt8.ofNat c.toNat, UInt8.ofNat h.toNat, UInt8.ofNat p.toNat, UInt8.ofNat s.toNat] _ 4 hlc rfl (by simp [maxLen])
  rw [World.size_alloc] at hcv
  clear n0 n1 n2 n3 hlc
  go_enter Try.func43, Try.ntmps43
  go_wp2
  go_ret
  exact ⟨rfl, (by with_reducible repeat (first | exact Below.refl _ _ | assumption | refine below_step ?_ (by assumption) | refine Below.drew ?_ | refine below_drewN ?_ _ | refine below_alloc ?_ _ | refine Below.setCell ?_ (by simp; try omega) _))⟩
set_option maxRecDepth 100000 in
set_option maxHeartbeats 2000000 in
theorem l13Header_any (g : Nat) (c h p s : Int) (v : Value) (w : World) (hd : DP w g c h p s v) (hc : 0 ≤ c ∧ c ≤ 255) (hh : 0 ≤ h ∧ h ≤ 255) (hp : 0 ≤ p ∧ p ≤ 255) (hs : 0 ≤ s ∧ s ≤ 255) :
    Calls Try.prog 63 #[.pointer (some ⟨g, 0, none⟩)] w fun e w' => e = .returned (.agg #[.int .i64 1, .string (hdI c h p s)]) ∧ Below w.heap.size w w' := by
  have b0 : IntKind.u8.wrap c = c := IntWalk.u8_in _ (by omega)
  have n0 : ((UInt8.ofNat c.toNat).toNat : Int) = c := by rw [UInt8.toNat_ofNat']; omega
  have b1 : IntKind.u8.wrap h = h := IntWalk.u8_in _ (by omega)
  have n1 : ((UInt8.ofNat h.toNat).toNat : Int) = h := by rw [UInt8.toNat_ofNat']; omega
  have b2 : IntKind.u8.wrap p = p := IntWalk.u8_in _ (by omega)
  have n2 : ((UInt8.ofNat p.toNat).toNat : Int) = p := by rw [UInt8.toNat_ofNat']; omega
  have b3 : IntKind.u8.wrap s = s := IntWalk.u8_in _ (by omega)
  have n3 : ((UInt8.ofNat s.toNat).toNat : Int) = s := by rw [UInt8.toNat_ofNat']; omega
  have hlc : (#[Value.int .u8 1, .int .u8 c, .int .u8 h, .int .u8 p, .int .u8 s] : Array Value).toList = bcells [1, UInt8.ofNat c.toNat, UInt8.ofNat h.toNat, UInt8.ofNat p.toNat, UInt8.ofNat s.toNat] := by simp only [bcells, List.map_cons, List.map_nil, n0, n1, n2, n3]; rfl
  have HX := Lib.hid (show (⟨#[80, 73]⟩ ++ ⟨[1, UInt8.ofNat c.toNat, UInt8.ofNat h.toNat, UInt8.ofNat p.toNat, UInt8.ofNat s.toNat].toArray⟩ : ByteArray) = hdI c h p s from rfl)
  obtain ⟨S5, hS5⟩ : ∃ S, (⟨[1, UInt8.ofNat c.toNat, UInt8.ofNat h.toNat, UInt8.ofNat p.toNat, UInt8.ofNat s.toNat].toArray⟩ : ByteArray) = S := ⟨_, rfl⟩
  have k3 : S5.size = 5 := by rw [← hS5]; rfl
  have F := BX.made w 41 [.int .i64 0, .string ⟨#[]⟩]
  have hB : BB w (w.alloc (.cells #[.int .i64 0, .string ⟨#[]⟩] 41)) := (show Below w.heap.size w (w.alloc (.cells #[.int .i64 0, .string ⟨#[]⟩] 41)) from (by with_reducible repeat (first | exact Below.refl _ _ | assumption | refine below_step ?_ (by assumption) | refine Below.drew ?_ | refine below_drewN ?_ _ | refine below_alloc ?_ _ | refine Below.setCell ?_ (by simp; try omega) _)))
  have D0 := hd.next hB
  go_enter Try.func63, Try.ntmps63
  go_upto_region 1 with fail
  generalize w.alloc (.cells #[.int .i64 0, .string ⟨#[]⟩] 41) = w0 at *
  have hcv : (convert 22 9 (.slice (some ⟨w0.heap.size, 0, none⟩) 5 5)).run Try.prog (w0.alloc (.cells #[.int .u8 1, .int .u8 c, .int .u8 h, .int .u8 p, .int .u8 s] 5)).drew = .ok (.string S5) (w0.alloc (.cells #[.int .u8 1, .int .u8 c, .int .u8 h, .int .u8 p, .int .u8 s] 5)).drew := by
    rw [← hS5]
    exact run_b2s (P := Try.prog) (dst := 9) Try.underlying22 Try.underlying5 Try.underlying9 (OwnB.drewN (OwnB.lit (e := 5) (base := 0) w0 [1, UInt8.ofNat c.toNat, UInt8.ofNat h.toNat, UInt8.ofNat p.toNat, UInt8.ofNat s.toNat] _ hlc (Nat.zero_le _) (by simp [maxLen])) 1)
  rw [hS5] at HX
  clear n0 n1 n2 n3 hlc hS5
  have k2 : (⟨#[80, 73]⟩ : ByteArray).size = 2 := rfl
  obtain ⟨e0, e1, e2, e3, e4⟩ := D0.drewN 1
  replace e0 : w0.drew.cell? _ = _ := e0
  replace e1 : w0.drew.cell? _ = _ := e1
  replace e2 : w0.drew.cell? _ = _ := e2
  replace e3 : w0.drew.cell? _ = _ := e3
  replace F := BX.dr (F.al (.cells #[.int .u8 1, .int .u8 c, .int .u8 h, .int .u8 p, .int .u8 s] 5))
  replace hB : BB w _ := BB.dr (BB.al hB (.cells #[.int .u8 1, .int .u8 c, .int .u8 h, .int .u8 p, .int .u8 s] 5))
  have z0 : (_ : Option Value) = some (.int .i64 0) := F.cell 0 (by simp)
  have z1 : (_ : Option Value) = some (.string ⟨#[]⟩) := F.cell 1 (by simp)
  have hfz := fun j => F.free j
  have P := (F.put 0 (.int .i64 1)).put 1 (.string (⟨#[80, 73]⟩ ++ S5))
  have hBq := BB.put (a := ⟨w.heap.size, 1, none⟩) (BB.put (a := ⟨w.heap.size, 0, none⟩) hB (Nat.le_refl _) (.int .i64 1)) (Nat.le_refl _) (.string (⟨#[80, 73]⟩ ++ S5))
  have r0 : (((w0.alloc (.cells #[.int .u8 1, .int .u8 c, .int .u8 h, .int .u8 p, .int .u8 s] 5)).setCell ⟨w.heap.size, 0, none⟩ (.int .i64 1)).setCell ⟨w.heap.size, 1, none⟩ (.string (⟨#[80, 73]⟩ ++ S5))).drew.cell? ⟨w.heap.size, 0, none⟩ = some (.int .i64 1) := P.cell 0 (by simp)
  have r1 : (((w0.alloc (.cells #[.int .u8 1, .int .u8 c, .int .u8 h, .int .u8 p, .int .u8 s] 5)).setCell ⟨w.heap.size, 0, none⟩ (.int .i64 1)).setCell ⟨w.heap.size, 1, none⟩ (.string (⟨#[80, 73]⟩ ++ S5))).drew.cell? ⟨w.heap.size, 1, none⟩ = some (.string (⟨#[80, 73]⟩ ++ S5)) := P.cell 1 (by simp)
  have y1 : ((w0.alloc (.cells #[.int .u8 1, .int .u8 c, .int .u8 h, .int .u8 p, .int .u8 s] 5)).setCell ⟨w.heap.size, 0, none⟩ (.int .i64 1)).drew.cell? ⟨w.heap.size, 1, none⟩ = some (.string ⟨#[]⟩) := (F.put 0 (.int .i64 1)).cell 1 (by simp)
  have hfy : ∀ j, ((w0.alloc (.cells #[.int .u8 1, .int .u8 c, .int .u8 h, .int .u8 p, .int .u8 s] 5)).setCell ⟨w.heap.size, 0, none⟩ (.int .i64 1)).drew.frozen? ⟨w.heap.size, j, none⟩ = false := fun j => (F.put 0 (.int .i64 1)).free j
  go_region_law (fail)
  all_goals
    go_wp2
    refine bodyPost_ret (v := .agg #[.int .i64 1, .string (hdI c h p s)]) (by rw [← HX.out]; simp [results, Try.results63, go_sem, r0, r1]) rfl ⟨rfl, ?_⟩
    exact hBq
end Go.Proofs.Ytemppogailpoiaa
namespace Go.Proofs.Ytemppogailpoiaa
set_option linter.unusedVariables false
open Go.RowKit

def trQ (l : List DSector) (q P : Nat) : List DSector := (l.drop q).take P
theorem trQ_len {l : List DSector} {q P : Nat} (h : q + P ≤ l.length) : (trQ l q P).length = P := by simp [trQ]; omega
theorem trQ_get {l : List DSector} {q P k : Nat} (h : k < (trQ l q P).length) (h2 : q + k < l.length) : (trQ l q P)[k] = l[q + k] := by simp [trQ]
section
variable {ss : List DSector} {k : Nat} {R : Bool}
theorem non_next (h : k < ss.length) (g : ss[k].f1 = 3) (e : nonE (ss.drop k) = R) : nonE (ss.drop (k + 1)) = R := by
  rw [← e, List.drop_eq_getElem_cons h, nonE, nonE, List.any_cons, g]
  rfl
theorem non_yes (h : k < ss.length) (g : ¬ ss[k].f1 = 3) (e : nonE (ss.drop k) = R) : R = true := by
  rw [← e, List.drop_eq_getElem_cons h, nonE, List.any_cons, decide_eq_false g]
  rfl
theorem non_end (h : ¬ k < ss.length) (e : nonE (ss.drop k) = R) : R = false := by
  rw [← e, List.drop_eq_nil_of_le (by omega)]
  rfl
end
set_option maxRecDepth 100000 in
set_option maxHeartbeats 1000000 in
theorem l13Empty_any (g : Nat) (c h s : Int) (P t : Nat) (A : Option Addr) (cp : Nat) (l : List DSector) (w : World) (hd : DP w g c h (P : Int) s (.slice A l.length cp)) (hr : Rd w w.heap.size 2 A l.length (flat fSector l)) (ht : t * P + P ≤ l.length) (hn : l.length ≤ 128) (hP : P ≤ 8) :
    Calls Try.prog 64 #[.pointer (some ⟨g, 0, none⟩), .int .i64 (t : Int)] w fun e w' => e = .returned (.bool (!nonE (trS l P t))) ∧ Below w.heap.size w w' := by
  obtain ⟨q, hq⟩ : ∃ q, t * P = q := ⟨_, rfl⟩
  rw [show trS l P t = trQ l q P by rw [← hq]; rfl]
  have hqb : q ≤ 128 := by omega
  have hw1 : IntKind.i64.wrap ((t : Int) * (P : Int)) = (q : Int) := by rw [← hq, ← Int.natCast_mul]; exact IntWalk.i64_in _ (by omega)
  rw [hq] at ht
  clear hq
  have hlen := trQ_len ht
  have HL := Lib.hid hlen
  clear hlen
  go_enter Try.func64, Try.ntmps64
  go_wp2
  go_loopw [5] (fun i wr => ∃ k : Nat, k ≤ P ∧ i = .int .i64 k ∧ Below w.heap.size w wr ∧ Hid (nonE ((trQ l q P).drop k) = nonE (trQ l q P))) (fun i _ => P - (intOf i).toNat)
  case atStart => exact ⟨0, Nat.zero_le _, rfl, Below.refl _ _, Lib.hid rfl⟩
  case round =>
    obtain ⟨k, hk, rfl, hb, HI⟩ := hrel
    obtain ⟨d0, d1, d2, d3, d4⟩ := hd.next hb
    by_cases hlt : k < P
    · have hlti : (k : Int) < (P : Int) := by omega
      have hkl : k < (trQ l q P).length := by rw [HL.out]; exact hlt
      obtain ⟨j, hj⟩ : ∃ j, q + k = j := ⟨_, rfl⟩
      have hjl : j < l.length := by omega
      have hjli : (j : Int) < (l.length : Int) := by omega
      have hw2 : IntKind.i64.wrap ((q : Int) + (k : Int)) = (j : Int) := by rw [show (q : Int) + (k : Int) = ((q + k : Nat) : Int) by omega, hj]; exact IntWalk.i64_in _ (by omega)
      have hgk : (trQ l q P)[k] = l[j] := by subst hj; exact trQ_get hkl hjl
      obtain ⟨b, off, rfl, hbb, hc⟩ := hr.at_ fSector_len rfl j hjl
      have hc1 := hc 1 _ (by omega) rfl
      clear hc
      simp only [← Nat.add_assoc] at hc1
      replace hc1 := (hb.cell (p := ⟨b, off + j * 2 + 1, none⟩) hbb).trans hc1
      obtain ⟨st, hst⟩ : ∃ x, l[j].f1 = x := ⟨_, rfl⟩
      rw [hst] at hc1
      by_cases hx : st = 3
      · have HN := Lib.hid (non_next hkl (by rw [hgk, hst]; exact hx) HI.out)
        have hxb : (st != 3) = false := by rw [hx]; rfl
        clear hgk hst hx hj
        go_wp2_with fail
        go_quiet (fail)
        go_wp2
        go_roundw
        case rel => exact ⟨k + 1, by omega, by go_num, below_drewN hb nq, HN⟩
        case measure => (simp [intOf] <;> omega)
      · have HN := Lib.hid (non_yes hkl (by rw [hgk, hst]; exact hx) HI.out)
        have hxb : (st != 3) = true := by simpa using hx
        clear hgk hst hx hj
        go_wp2_with fail
        go_quiet (fail)
        go_wp2
        go_ret
        exact ⟨by rw [HN.out]; rfl, below_drewN hb nq⟩
    · have hlti : ¬ (k : Int) < (P : Int) := by omega
      have HN := Lib.hid (non_end (by rw [HL.out]; exact hlt) HI.out)
      go_wp2
      go_ret
      exact ⟨by rw [HN.out]; rfl, hb⟩
set_option maxHeartbeats 400000 in
theorem notMiss_any (d : ByteArray) (st : Int) (w : World) : Calls Try.prog 46 #[.agg #[.string d, .int .i64 st]] w fun e w' => e = .returned (.bool (!decide (st = 3))) ∧ Below w.heap.size w w' := by
  go_enter Try.func46, Try.ntmps46
  by_cases h : st = 3
  · have hx : (st != 3) = false := by rw [h]; rfl
    have HR := Lib.hid (show (!decide (st = 3)) = false by rw [h]; rfl)
    clear h
    go_wp2
    go_ret
    exact ⟨by rw [HR.out]; rfl, (by with_reducible repeat (first | exact Below.refl _ _ | assumption | refine below_step ?_ (by assumption) | refine Below.drew ?_ | refine below_drewN ?_ _ | refine below_alloc ?_ _ | refine Below.setCell ?_ (by simp; try omega) _))⟩
  · have hx : (st != 3) = true := by simpa using h
    have HR := Lib.hid (show (!decide (st = 3)) = true by rw [decide_eq_false h]; rfl)
    clear h
    go_wp2
    go_ret
    exact ⟨by rw [HR.out]; rfl, (by with_reducible repeat (first | exact Below.refl _ _ | assumption | refine below_step ?_ (by assumption) | refine Below.drew ?_ | refine below_drewN ?_ _ | refine below_alloc ?_ _ | refine Below.setCell ?_ (by simp; try omega) _))⟩
set_option maxRecDepth 100000 in
set_option maxHeartbeats 1000000 in
theorem indexSec_any (A : Option Addr) (cp : Nat) (ss : List DSector) (w : World) (hr : Rd w w.heap.size 2 A ss.length (flat fSector ss)) (hn : ss.length ≤ 1048576) :
    Calls Try.prog 78 #[.slice A ss.length cp, .func (.func 46) #[] #[]] w fun e w' => ∃ r : Int, e = .returned (.int .i64 r) ∧ decide (0 ≤ r) = nonE ss ∧ Below w.heap.size w w' := by
  have eg := fun args (W : World) => (show (callFunc 46 args).run Try.prog W = .ok (.enter 46 args) W from by kernel_rfl)
  go_enter Try.func78, Try.ntmps78
  go_wp2
  go_loopw [5, 8] (fun _ i wr => ∃ k : Nat, k ≤ ss.length ∧ i = .int .i64 k ∧ Below w.heap.size w wr ∧ Hid (nonE (ss.drop k) = nonE ss)) (fun _ i _ => ss.length - (intOf i).toNat)
  case atStart => exact ⟨0, Nat.zero_le _, rfl, Below.refl _ _, Lib.hid rfl⟩
  case round =>
    obtain ⟨k, hk, rfl, hb, HI⟩ := hrel
    by_cases hlt : k < ss.length
    · have hlti : (k : Int) < (ss.length : Int) := by omega
      obtain ⟨b, off, rfl, hbb, hc⟩ := (hr.below hb).at_ fSector_len rfl k hlt
      have hc0 := hc 0 _ (by omega) rfl
      have hc1 := hc 1 _ (by omega) rfl
      clear hc
      simp only [← Nat.add_assoc, Nat.add_zero] at hc0 hc1
      obtain ⟨st, hst⟩ : ∃ x, ss[k].f1 = x := ⟨_, rfl⟩
      obtain ⟨d, hdd⟩ : ∃ x, ss[k].f0 = x := ⟨_, rfl⟩
      rw [hst] at hc1
      rw [hdd] at hc0
      by_cases hx : st = 3
      · have HN := Lib.hid (non_next hlt (by rw [hst]; exact hx) HI.out)
        have HD := Lib.hid (show (!decide (st = 3)) = false by rw [hx]; rfl)
        clear hst hdd hx
        go_wp2_with (go_at_call 46; refine (notMiss_any d st _).mono ?_; rintro e w1 ⟨rfl, hx1⟩; rw [HD.out]; replace hb := below_step hb hx1)
        go_roundw
        case rel => exact ⟨k + 1, by omega, by go_num, hb, HN⟩
        case measure => (simp [intOf] <;> omega)
      · have HN := Lib.hid (non_yes hlt (by rw [hst]; exact hx) HI.out)
        have HD := Lib.hid (show (!decide (st = 3)) = true by rw [decide_eq_false hx]; rfl)
        clear hst hdd hx
        go_wp2_with (go_at_call 46; refine (notMiss_any d st _).mono ?_; rintro e w1 ⟨rfl, hx1⟩; rw [HD.out]; replace hb := below_step hb hx1)
        go_ret
        exact ⟨(k : Int), rfl, by rw [HN.out]; simp, hb⟩
    · have hlti : ¬ (k : Int) < (ss.length : Int) := by omega
      have HN := Lib.hid (non_end hlt HI.out)
      go_wp2
      go_ret
      exact ⟨-1, rfl, by rw [HN.out]; rfl, hb⟩
theorem containsSec_any (A : Option Addr) (cp : Nat) (ss : List DSector) (w : World) (hr : Rd w w.heap.size 2 A ss.length (flat fSector ss)) (hn : ss.length ≤ 1048576) :
    Calls Try.prog 44 #[.slice A ss.length cp, .func (.func 46) #[] #[]] w fun e w' => e = .returned (.bool (nonE ss)) ∧ Below w.heap.size w w' := by
  go_enter Try.func44, Try.ntmps44
  go_wp2_with (go_at_call 78; refine (indexSec_any A cp ss _ hr hn).mono ?_; rintro e w1 ⟨r, rfl, hr0, hx⟩; have hr1 : (decide (0 ≤ r)) = nonE ss := hr0)
  go_ret
  exact ⟨by rw [← hr1]; rfl, hx⟩
end Go.Proofs.Ytemppogailpoiaa
namespace Go.Proofs.Ytemppogailpoiaa
set_option linter.unusedVariables false
open Go.RowKit

theorem plq_step {ss : List DSector} {k : Nat} {out R : List UInt8} {d : ByteArray} {s : Nat} (h : k < ss.length) (hd : ss[k].f0 = d) (hs : ss[k].f1 = (s : Int)) (e : out ++ plB (ss.drop k) = R) : ((out ++ [UInt8.ofNat s]) ++ d.data.toList) ++ plB (ss.drop (k + 1)) = R := by
  rw [List.drop_eq_getElem_cons h, plB, hd, hs, Int.toNat_natCast] at e
  rw [← e]
  simp
theorem plq_end {ss : List DSector} {k : Nat} {out R : List UInt8} (h : ¬ k < ss.length) (e : out ++ plB (ss.drop k) = R) : out = R := by
  rw [List.drop_eq_nil_of_le (by omega), plB, List.append_nil] at e
  exact e
theorem pbG_len (s : ByteArray) : ∀ (f at_ from_ : Nat) (out : List UInt8), s.size - at_ ≤ f → from_ ≤ at_ → at_ ≤ s.size → (pbG s at_ from_ out).length ≤ out.length + 2 * (s.size - from_)
  | 0, at_, from_, out, hf, h1, h2 => by
    have he := pbG_end s at_ from_ out _ (by omega) rfl
    have hp := plL_len (seg s from_ s.size).length (seg s from_ s.size) (Nat.le_refl _)
    rw [seg_length s _ _ (Nat.le_refl _)] at hp
    rw [he, List.length_append]
    omega
  | f + 1, at_, from_, out, hf, h1, h2 => by
    by_cases h : at_ < s.size
    · obtain ⟨n, d⟩ : Nat × Nat := refer s at_
      rcases hnd : refer s at_ with ⟨n, d⟩
      by_cases h3 : n < 3
      · have := pbG_len s f (at_ + 1) from_ out (by omega) (by omega) (by omega)
        rw [pbG_skip s at_ from_ out _ h n d hnd h3 rfl] at this
        exact this
      · have hb := (refer_bd s at_).1
        rw [hnd] at hb
        have hb' : n ≤ min 130 (s.size - at_) := hb
        have := pbG_len s f (at_ + n) (at_ + n) ((out ++ plL (seg s from_ at_)) ++ [UInt8.ofNat (n + 125), UInt8.ofNat d]) (by omega) (Nat.le_refl _) (by omega)
        rw [pbG_ref s at_ from_ out _ h n d hnd h3 rfl] at this
        have hp := plL_len (seg s from_ at_).length (seg s from_ at_) (Nat.le_refl _)
        rw [seg_length s _ _ (by omega)] at hp
        rw [List.length_append, List.length_append] at this
        simp only [List.length_cons, List.length_nil] at this
        omega
    · have he := pbG_end s at_ from_ out _ h rfl
      have hp := plL_len (seg s from_ s.size).length (seg s from_ s.size) (Nat.le_refl _)
      rw [seg_length s _ _ (Nat.le_refl _)] at hp
      rw [he, List.length_append]
      omega
theorem trQ_rd {w : World} {B b off q P : Nat} {l : List DSector} (hr : Rd w B 2 (some ⟨b, off, none⟩) l.length (flat fSector l)) (h : q + P ≤ l.length) : Rd w B 2 (some ⟨b, off + q * 2, none⟩) P (flat fSector (trQ l q P)) := by
  have hlen := trQ_len h
  refine ⟨by rw [flat_length fSector 2 fSector_len, hlen], fun hP => ?_⟩
  obtain ⟨b', off', he, hb, hc⟩ := hr.2 (by omega)
  cases he
  refine ⟨b, off + q * 2, rfl, hb, fun j hj => ?_⟩
  have hj' : j < P * 2 := by rwa [flat_length fSector 2 fSector_len, hlen] at hj
  have h1 : q * 2 + j < (flat fSector l).length := by rw [flat_length fSector 2 fSector_len]; omega
  have h2 := hc (q * 2 + j) h1
  rw [← Nat.add_assoc] at h2
  rw [h2]
  have h3 := flat_get fSector 2 fSector_len (trQ l q P) (j / 2) (j % 2) (by rw [hlen]; omega) (Nat.mod_lt _ (by omega))
  have h4 := flat_get fSector 2 fSector_len l (q + j / 2) (j % 2) (by omega) (Nat.mod_lt _ (by omega))
  rw [trQ_get (by rw [hlen]; omega) (by omega)] at h3
  have e1 : j / 2 * 2 + j % 2 = j := by omega
  have e2 : (q + j / 2) * 2 + j % 2 = q * 2 + j := by omega
  rw [e1, List.getElem?_eq_getElem hj] at h3
  rw [e2, List.getElem?_eq_getElem h1, ← h3] at h4
  exact h4
theorem fin2 {W : World} {g : Nat} {t : TypeId} (F : BX W g t [.int .i64 0, .string ⟨#[]⟩]) (V : Value) :
    W.cell? ⟨g, 0, none⟩ = some (.int .i64 0) ∧ W.cell? ⟨g, 1, none⟩ = some (.string ⟨#[]⟩) ∧ (∀ j, W.frozen? ⟨g, j, none⟩ = false) ∧ (W.setCell ⟨g, 0, none⟩ (.int .i64 2)).cell? ⟨g, 1, none⟩ = some (.string ⟨#[]⟩) ∧
    (∀ j, (W.setCell ⟨g, 0, none⟩ (.int .i64 2)).frozen? ⟨g, j, none⟩ = false) ∧ ((W.setCell ⟨g, 0, none⟩ (.int .i64 2)).setCell ⟨g, 1, none⟩ V).cell? ⟨g, 0, none⟩ = some (.int .i64 2) ∧ ((W.setCell ⟨g, 0, none⟩ (.int .i64 2)).setCell ⟨g, 1, none⟩ V).cell? ⟨g, 1, none⟩ = some V := by
  have P := F.put 0 (.int .i64 2)
  have Q := P.put 1 V
  exact ⟨F.cell 0 (by simp), F.cell 1 (by simp), fun j => F.free j, P.cell 1 (by simp), fun j => P.free j, Q.cell 0 (by simp), Q.cell 1 (by simp)⟩
theorem BB.tr {w w1 w2 : World} (h : BB w w1) (h2 : Below (w.heap.size + 1) w1 w2) : BB w w2 := Below.trans h (h2.mono (by omega))
set_option maxRecDepth 100000 in
set_option maxHeartbeats 4000000 in
theorem l13Track_any (g : Nat) (c h s : Int) (P t : Nat) (A : Option Addr) (cp : Nat) (l : List DSector) (w : World) (hd : DP w g c h (P : Int) s (.slice A l.length cp)) (hr : Rd w w.heap.size 2 A l.length (flat fSector l)) (ht : t * P + P ≤ l.length) (hn : l.length ≤ 128) (hP : P ≤ 8) (ht8 : t < 256) (hsz : ∀ k, (hk : k < l.length) → l[k].f0.size ≤ 32 ∧ 0 ≤ l[k].f1 ∧ l[k].f1 ≤ 255) :
    Calls Try.prog 65 #[.pointer (some ⟨g, 0, none⟩), .int .i64 (t : Int)] w fun e w' => e = .returned (.agg #[.int .i64 2, .string (tkB t (trS l P t))]) ∧ Below w.heap.size w w' := by
  obtain ⟨q, hq⟩ : ∃ q, t * P = q := ⟨_, rfl⟩
  have hg := hd.lt
  rw [show trS l P t = trQ l q P by rw [← hq]; rfl]
  have hqb : q ≤ 128 := by omega
  have hw1 : IntKind.i64.wrap ((t : Int) * (P : Int)) = (q : Int) := by rw [← hq, ← Int.natCast_mul]; exact IntWalk.i64_in _ (by omega)
  rw [hq] at ht
  clear hq
  have HL := Lib.hid (trQ_len ht)
  have F := BX.made w 41 [.int .i64 0, .string ⟨#[]⟩]
  have hB : BB w (w.alloc (.cells #[.int .i64 0, .string ⟨#[]⟩] 41)) := (show Below w.heap.size w (w.alloc (.cells #[.int .i64 0, .string ⟨#[]⟩] 41)) from (by with_reducible repeat (first | exact Below.refl _ _ | assumption | refine below_step ?_ (by assumption) | refine Below.drew ?_ | refine below_drewN ?_ _ | refine below_alloc ?_ _ | refine Below.setCell ?_ (by simp; try omega) _)))
  go_enter Try.func65, Try.ntmps65
  go_wp2
  replace F := F.al (.cells #[] 5)
  replace hB : BB w _ := BB.al hB (.cells #[] 5)
  have ho := OwnB.lit (e := 5) (base := w.heap.size + 1) (w.alloc (.cells #[.int .i64 0, .string ⟨#[]⟩] 41)) [] #[] rfl (by simp) (by simp)
  rw [World.size_alloc] at ho
  go_loopw [5, 6] (fun v i wr => ∃ (k : Nat) (out : List UInt8), k ≤ P ∧ i = .int .i64 k ∧ out.length ≤ 33 * k ∧ OwnB wr (w.heap.size + 1) 5 v out ∧ BX wr w.heap.size 41 [.int .i64 0, .string ⟨#[]⟩] ∧ BB w wr ∧ Hid (out ++ plB ((trQ l q P).drop k) = plB (trQ l q P))) (fun _ i _ => P - (intOf i).toNat)
  case atStart => exact ⟨0, [], Nat.zero_le _, rfl, by simp, ho, F, hB, Lib.hid rfl⟩
  case round =>
    clear F hB ho
    obtain ⟨k, out, hk, rfl, hol, ho, F, hB, HI⟩ := hrel
    obtain ⟨A6, c6, rfl⟩ := ho.form
    have D := hd.next hB
    by_cases hlt : k < P
    · have hlti : (k : Int) < (P : Int) := by omega
      have hkl : k < (trQ l q P).length := by rw [HL.out]; exact hlt
      obtain ⟨j, hj⟩ : ∃ j, q + k = j := ⟨_, rfl⟩
      have hjl : j < l.length := by omega
      have hjli : (j : Int) < (l.length : Int) := by omega
      have hw2 : IntKind.i64.wrap ((q : Int) + (k : Int)) = (j : Int) := by rw [show (q : Int) + (k : Int) = ((q + k : Nat) : Int) by omega, hj]; exact IntWalk.i64_in _ (by omega)
      have hgk : (trQ l q P)[k] = l[j] := by subst hj; exact trQ_get hkl hjl
      obtain ⟨hz1, hz2, hz3⟩ := hsz j hjl
      obtain ⟨b2, off2, rfl, hb2, hc⟩ := hr.at_ fSector_len rfl j hjl
      have a1 := hc 0 _ (by omega) rfl
      have a2 := hc 1 _ (by omega) rfl
      clear hc
      simp only [← Nat.add_assoc, Nat.add_zero] at a1 a2
      obtain ⟨dat, hdat⟩ : ∃ x, l[j].f0 = x := ⟨_, rfl⟩
      obtain ⟨S, hS⟩ : ∃ S : Nat, l[j].f1 = (S : Int) := ⟨l[j].f1.toNat, by omega⟩
      rw [hdat] at a1 hz1
      rw [hS] at a2
      have hS256 : S < 256 := by omega
      have HN := Lib.hid (plq_step (d := dat) (s := S) hkl (by rw [hgk, hdat]) (by rw [hgk, hS]) HI.out)
      have hle : ((out ++ [UInt8.ofNat S]) ++ dat.data.toList).length = out.length + 1 + dat.size := by rw [List.length_append, List.length_append, Array.length_toList, List.length_singleton]; rfl
      have HLB := Lib.hid (show ((out ++ [UInt8.ofNat S]) ++ dat.data.toList).length ≤ 33 * (k + 1) by rw [hle]; omega)
      clear hle
      have hwS := wrap_byte S hS256
      have nS : ((UInt8.ofNat S).toNat : Int) = (S : Int) := by rw [UInt8.toNat_ofNat']; omega
      replace a1 := (hB.cell (p := ⟨b2, off2 + j * 2, none⟩) hb2).trans a1
      replace a2 := (hB.cell (p := ⟨b2, off2 + j * 2 + 1, none⟩) hb2).trans a2
      obtain ⟨-, -, a0, -, a3⟩ := id D
      clear hgk hj hdat hS hz2 hz3
      have n0 := World.new_ne wr _ a0
      have n1 := World.new_ne wr _ a1
      have n2 := World.new_ne wr _ a2
      have n3 := World.new_ne wr _ a3
      go_wp2_with fail
      go_region_held3 (fun W => W.cell? ⟨g, 2, none⟩ = some (.int .i64 (P : Int)) ∧ W.cell? ⟨b2, off2 + j * 2, none⟩ = some (.string dat) ∧ W.cell? ⟨b2, off2 + j * 2 + 1, none⟩ = some (.int .i64 (S : Int)) ∧ W.cell? ⟨g, 4, none⟩ = some (.slice (some ⟨b2, off2, none⟩) l.length cp)) (go_keep) (fail)
      go_upto_region 6 with fail
      clear n0 n1 n2 n3 a0 a1 a2 a3
      have hneS : (Value.slice A6 out.length c6).ownBlock ≠ some wr.heap.size := OO.ne_box (show OO _ _ _ _ _ _ _ from ho)
      have FS : BX (wr.alloc (.cells #[.string dat, .int .i64 (S : Int)] 46)).drew wr.heap.size 46 [.string dat, .int .i64 (S : Int)] := BX.made wr 46 [.string dat, .int .i64 (S : Int)]
      replace F := BX.dr (F.al (.cells #[.string dat, .int .i64 (S : Int)] 46))
      replace hB : BB w _ := BB.dr (BB.al hB (.cells #[.string dat, .int .i64 (S : Int)] 46))
      replace ho : OwnB _ _ _ _ _ := OwnB.drewN (OwnB.alloc ho (.cells #[.string dat, .int .i64 (S : Int)] 46)) 1
      replace ho : OwnB (wr.alloc (.cells #[.string dat, .int .i64 (S : Int)] 46)).drew _ _ _ _ := ho
      generalize wr.heap.size = GS at FS hneS ⊢
      generalize (wr.alloc (.cells #[.string dat, .int .i64 (S : Int)] 46)).drew = w9 at *
      have f0 : (_ : Option Value) = some (.string dat) := FS.cell 0 (by simp)
      have f1 : (_ : Option Value) = some (.int .i64 (S : Int)) := FS.cell 1 (by simp)
      have hbs : w.heap.size + 1 ≤ w9.heap.size := F.lt
      have hcs : (#[Value.int .u8 (S : Int)] : Array Value).toList = bcells [UInt8.ofNat S] := by simp only [bcells, List.map_cons, List.map_nil, nS]
      have hl1 : (out ++ [UInt8.ofNat S]).length + dat.size ≤ 1000000000 := by rw [List.length_append, List.length_singleton]; omega
      have hl0 : out.length + [UInt8.ofNat S].length ≤ 1000000000 := by rw [List.length_singleton]; omega
      go_wp2_with (first
        | (at_builtin; have := mk1; go_must (refine wpList_appS rfl _ _ 22 9 rfl eltB Try.underlying9 _ (out ++ [UInt8.ofNat S]) rfl ho1 _ rfl hl1 hbs1 ?_); intro v2 w11 ho2 hg2 hat2 hbl2; replace F := F.below hbl2 (show w.heap.size < w.heap.size + 1 by omega); replace hB : BB w _ := BB.tr hB hbl2; have mk2 := True.intro)
        | (at_builtin; go_must (refine wpList_appL rfl _ _ 22 rfl eltB _ out rfl ho _ _ [UInt8.ofNat S] 1 _ rfl hcs rfl hl0 hbs ?_); intro v1 w10 ho1 hg1 hat1 hbl1; clear f1 f0; replace F := F.below hbl1 (show w.heap.size < w.heap.size + 1 by omega); replace hB : BB w _ := BB.tr hB hbl1; have FC := CP.far (CP.al FS.cp _) hg1 hneS; have f0 : (_ : Option Value) = some (.string dat) := FC 0 (by simp); have hbs1 : w.heap.size + 1 ≤ w10.heap.size := F.lt; have mk1 := True.intro))
      go_roundw
      case rel => exact ⟨k + 1, _, by omega, by go_num, HLB.out, ho2, F, hB, HN⟩
      case measure => (simp [intOf] <;> omega)
    obtain rfl : k = P := by omega
    have HE := Lib.hid (plq_end (by rw [HL.out]; omega) HI.out)
    have hSs : (⟨out.toArray⟩ : ByteArray).size = out.length := by simp [ByteArray.size]
    have hpk := pbG_len ⟨out.toArray⟩ out.length 0 0 [] (by rw [hSs]; omega) (Nat.le_refl _) (Nat.zero_le _)
    have hcA := run_b2s (P := Try.prog) (dst := 9) Try.underlying22 Try.underlying5 Try.underlying9 (show OwnB wr.drew _ _ _ _ from OwnB.drewN ho 1)
    have hcB := run_b2s (P := Try.prog) (dst := 9) Try.underlying22 Try.underlying5 Try.underlying9 (show OwnB (wr.alloc (.cells #[.int .u8 (t : Int)] 5)).drew _ _ _ _ from OwnB.drewN (OwnB.alloc ho (.cells #[.int .u8 (t : Int)] 5)) 1)
    have hS4 : (⟨out.toArray⟩ : ByteArray).size ≤ 4096 := by rw [hSs]; omega
    have hpa := fun W => l14Pack_any ⟨out.toArray⟩ W hS4
    have HT := Lib.hid (show byteB t ++ ⟨(pbG ⟨out.toArray⟩ 0 0 []).toArray⟩ = tkB t (trQ l q k) by rw [tkB, ← HE.out])
    have hPs : (⟨(pbG ⟨out.toArray⟩ 0 0 []).toArray⟩ : ByteArray).size = (pbG ⟨out.toArray⟩ 0 0 []).length := by simp [ByteArray.size]
    have hpk2 : (pbG ⟨out.toArray⟩ 0 0 []).length ≤ 600 := by
      rw [hSs] at hpk
      simp only [List.length_nil] at hpk
      omega
    obtain ⟨PK, hPK⟩ : ∃ x, (⟨(pbG ⟨out.toArray⟩ 0 0 []).toArray⟩ : ByteArray) = x := ⟨_, rfl⟩
    rw [hPK] at hPs HT
    simp only [hPK] at hpa
    have hbig : ¬ 9223372036854775807 < 1 + PK.size := by rw [hPs]; omega
    clear hpk hpk2 hPs hPK
    obtain ⟨SS, hSS⟩ : ∃ x, (⟨out.toArray⟩ : ByteArray) = x := ⟨_, rfl⟩
    rw [hSS] at hcA hcB
    simp only [hSS] at hpa
    have kB : (⟨#[UInt8.ofNat t]⟩ : ByteArray).size = 1 := rfl
    have hwt := wrap_byte t ht8
    have hl0 := run_byte1_drew t ht8 wr
    clear hSs hS4 hSS hlt HI HL hol
    have hlti : ¬ (k : Int) < (k : Int) := by omega
    obtain ⟨-, -, d2, -, -⟩ := id D
    go_upto_region 8 with fail
    go_region_law (go_simp; first
      | (go_at_call 85; have con := hpa (wr.alloc (.cells #[.int .u8 (t : Int)] 5)).drew; (with_reducible refine con.mono ?_); clear con; rintro e w9 ⟨rfl, hx9⟩; have hl1 := run_byte1_call t ht8 wr w9 hx9; replace F := (BX.dr (F.al (.cells #[.int .u8 (t : Int)] 5))).below hx9 (BX.lt (BX.dr (F.al (.cells #[.int .u8 (t : Int)] 5)))); replace hB : BB w _ := BB.next (BB.dr (BB.al hB (.cells #[.int .u8 (t : Int)] 5))) hx9; clear hl0 hcA hcB; obtain ⟨z0, z1, hfz, y1, hfy, r0, r1⟩ := fin2 F (.string (⟨#[UInt8.ofNat t]⟩ ++ PK)); have hBq := BB.put (a := ⟨w.heap.size, 1, none⟩) (BB.put (a := ⟨w.heap.size, 0, none⟩) hB (Nat.le_refl _) (.int .i64 2)) (Nat.le_refl _) (.string (⟨#[UInt8.ofNat t]⟩ ++ PK)))
      | (go_at_call 85; have con := hpa wr.drew; (with_reducible refine con.mono ?_); clear con; rintro e w9 ⟨rfl, hx9⟩; have hl1 := run_byte1 t ht8 w9; have hl2 := run_byte1_drew t ht8 w9; replace F := ((BX.dr F).below hx9 (BX.lt (BX.dr F))).al (.cells #[.int .u8 (t : Int)] 5); replace hB : BB w _ := BB.al (BB.next (BB.dr hB) hx9) (.cells #[.int .u8 (t : Int)] 5); clear hl0 hcA hcB; obtain ⟨z0, z1, hfz, y1, hfy, r0, r1⟩ := fin2 F (.string (⟨#[UInt8.ofNat t]⟩ ++ PK)); have hBq := BB.put (a := ⟨w.heap.size, 1, none⟩) (BB.put (a := ⟨w.heap.size, 0, none⟩) hB (Nat.le_refl _) (.int .i64 2)) (Nat.le_refl _) (.string (⟨#[UInt8.ofNat t]⟩ ++ PK))))
    all_goals
      go_wp2
      refine bodyPost_ret (v := .agg #[.int .i64 2, .string (tkB t (trQ l q k))]) (by rw [← HT.out]; simp [results, Try.results65, go_sem, byteB, r0, r1]) rfl ⟨rfl, ?_⟩
      exact hBq
end Go.Proofs.Ytemppogailpoiaa
namespace Go.Proofs.Ytemppogailpoiaa
set_option linter.unusedVariables false
open Go.RowKit

def imT (l : List DSector) (P : Nat) : Nat → Nat → List UInt8
  | _, 0 => []
  | t, n + 1 => (if nonE (trS l P t) then (encB 2 (tkB t (trS l P t))).data.toList else []) ++ imT l P (t + 1) n
def imN : List ByteArray → List UInt8
  | [] => []
  | x :: r => (encB 3 x).data.toList ++ imN r
/-- The container of an image. -/
def imG (c h p s : Int) (l : List DSector) (n : List ByteArray) : ByteArray :=
  ⟨((encB 1 (hdI c h p s)).data.toList ++ (imT l p.toNat 0 (c * h).toNat ++ (imN n ++ (encB 4 ⟨#[]⟩).data.toList))).toArray⟩
theorem app_list (a b : ByteArray) : (a ++ b).data.toList = a.data.toList ++ b.data.toList := by
  rw [ByteArray.data_append, Array.toList_append]
theorem of_list {a : ByteArray} {l : List UInt8} (h : a.data.toList = l) : a = ⟨l.toArray⟩ := by
  subst h
  rfl
theorem encB_size (k : Nat) (s : ByteArray) : (encB k s).size = s.size + 5 := by
  rw [encB, headB, ByteArray.size_append, ByteArray.size_append, ByteArray.size_append]
  have h1 : (⟨[UInt8.ofNat k].toArray⟩ : ByteArray).size = 1 := rfl
  have h2 : ∀ m, (wordB m).size = 2 := fun m => rfl
  rw [h1, h2, h2]
  omega
theorem plB_len : ∀ ss : List DSector, (∀ x ∈ ss, x.f0.size ≤ 32) → (plB ss).length ≤ 33 * ss.length
  | [], _ => by simp [plB]
  | x :: r, h => by
    have h1 := plB_len r (fun y hy => h y (List.mem_cons_of_mem _ hy))
    have h2 : x.f0.data.toList.length ≤ 32 := by rw [Array.length_toList]; exact h x List.mem_cons_self
    simp only [plB, List.length_cons, List.length_append]
    omega
theorem tkB_size {ss : List DSector} (t : Nat) (h : ∀ x ∈ ss, x.f0.size ≤ 32) (hl : ss.length ≤ 8) : (tkB t ss).size ≤ 600 := by
  have h1 := plB_len ss h
  have h2 : (⟨(plB ss).toArray⟩ : ByteArray).size = (plB ss).length := by simp [ByteArray.size]
  have h3 := pbG_len ⟨(plB ss).toArray⟩ _ 0 0 [] (Nat.le_refl _) (Nat.le_refl _) (Nat.zero_le _)
  have h4 : (⟨(pbG ⟨(plB ss).toArray⟩ 0 0 []).toArray⟩ : ByteArray).size = (pbG ⟨(plB ss).toArray⟩ 0 0 []).length := by simp [ByteArray.size]
  have h5 : (byteB t).size = 1 := rfl
  rw [tkB, ByteArray.size_append, h4, h5]
  rw [h2] at h3
  simp only [List.length_nil] at h3
  omega
theorem trS_in {l : List DSector} {P t : Nat} (hP : P ≤ 8) (h : ∀ x ∈ l, x.f0.size ≤ 32) : (∀ x ∈ trS l P t, x.f0.size ≤ 32) ∧ (trS l P t).length ≤ 8 := by
  refine ⟨fun x hx => h x (List.mem_of_mem_drop (List.mem_of_mem_take hx)), ?_⟩
  rw [trS, List.length_take]
  omega
section
variable {l : List DSector} {P t m : Nat} {out : ByteArray} {R : List UInt8} {n : List ByteArray} {k : Nat}
theorem im_yes (g : nonE (trS l P t) = true) (e : out.data.toList ++ imT l P t (m + 1) = R) : (out ++ encB 2 (tkB t (trS l P t))).data.toList ++ imT l P (t + 1) m = R := by
  rw [imT, if_pos g] at e
  rw [app_list, List.append_assoc]
  exact e
theorem im_no (g : nonE (trS l P t) = false) (e : out.data.toList ++ imT l P t (m + 1) = R) : out.data.toList ++ imT l P (t + 1) m = R := by
  rw [imT, if_neg (by rw [g]; decide), List.nil_append] at e
  exact e
theorem im_note (h : k < n.length) (e : out.data.toList ++ imN (n.drop k) = R) : (out ++ encB 3 n[k]).data.toList ++ imN (n.drop (k + 1)) = R := by
  rw [List.drop_eq_getElem_cons h, imN] at e
  rw [app_list, List.append_assoc]
  exact e
theorem im_end (h : ¬ k < n.length) (e : out.data.toList ++ imN (n.drop k) = R) : out.data.toList = R := by
  rw [List.drop_eq_nil_of_le (by omega), imN, List.append_nil] at e
  exact e
end
set_option maxRecDepth 100000 in
set_option maxHeartbeats 4000000 in
theorem l13Image_any (g : Nat) (c h p s : Int) (A : Option Addr) (cp : Nat) (l : List DSector) (N : Option Addr) (q : Nat) (n : List ByteArray) (w : World) (hd : CP w g [.int .i64 c, .int .i64 h, .int .i64 p, .int .i64 s, .slice A l.length cp, .slice N n.length q]) (hr : Rd w w.heap.size 2 A l.length (flat fSector l)) (kr : Rd w w.heap.size 1 N n.length (flat fS n)) (hok : okD c h p s l = true) (hst : ∀ x ∈ l, 0 ≤ x.f1 ∧ x.f1 ≤ 255) (hn8 : n.length ≤ 8) (hn40 : ∀ x ∈ n, x.size ≤ 40) :
    Calls Try.prog 31 #[.pointer (some ⟨g, 0, none⟩)] w fun e w' => e = .returned (.string (imG c h p s l n)) ∧ Below w.heap.size w w' := by
  obtain ⟨hg, hl, hall⟩ := okD_geo hok
  obtain ⟨c1, c2, h1, h2, p1, p2, s1, s2⟩ := geoB_yes hg
  obtain ⟨m1, m2⟩ := prod2 c1 c2 h1 h2
  obtain ⟨q1, q2⟩ := prod3 m1 m2 p1 p2
  obtain ⟨nb, y1, y2, y3, y4⟩ := szB_nat s1 s2
  have hz32 : ∀ x ∈ l, x.f0.size ≤ 32 := by
    intro x hx
    obtain ⟨k, hk, rfl⟩ := List.getElem_of_mem hx
    have h5 := hall k hk
    have h6 : l[k].f0.size = (szB s).toNat := by
      unfold secX secB at h5
      simp only [Bool.and_eq_true, decide_eq_true_eq] at h5
      first | exact h5.1.1 | exact h5.1 | exact h5.1.1.1
    omega
  have hsz : ∀ k, (hk : k < l.length) → l[k].f0.size ≤ 32 ∧ 0 ≤ l[k].f1 ∧ l[k].f1 ≤ 255 := fun k hk => ⟨hz32 _ (List.getElem_mem hk), hst _ (List.getElem_mem hk)⟩
  obtain ⟨P, rfl⟩ : ∃ P : Nat, p = (P : Int) := ⟨p.toNat, by omega⟩
  obtain ⟨T, hT⟩ : ∃ T : Nat, c * h = (T : Int) := ⟨(c * h).toNat, by omega⟩
  have hNT : l.length = T * P := by rw [hT] at hl; omega
  have hl128 : l.length ≤ 128 := by omega
  have hT16 : T ≤ 16 := by omega
  have hP8 : P ≤ 8 := by omega
  have hwT : IntKind.i64.wrap (c * h) = (T : Int) := by rw [hT]; exact IntWalk.i64_in _ (by omega)
  have HIM := Lib.hid (show imG c h (P : Int) s l n = ⟨((encB 1 (hdI c h (P : Int) s)).data.toList ++ (imT l P 0 T ++ (imN n ++ (encB 4 ⟨#[]⟩).data.toList))).toArray⟩ by rw [imG, hT, Int.toNat_natCast, Int.toNat_natCast])
  have hhd := fun (g : Nat) (v : Value) W (d : DP W g c h (P : Int) s v) => l13Header_any g c h (P : Int) s v W d (by omega) (by omega) (by omega) (by omega)
  have h7 := hdI_size c h (P : Int) s
  have he1 := encB_size 1 (hdI c h (P : Int) s)
  have hen := fun W => l13Encode_any 1 (hdI c h (P : Int) s) W (by omega) (by omega)
  generalize hdI c h (P : Int) s = HD at *
  rw [h7] at he1
  generalize encB 1 HD = E1 at *
  have hB := BB.start w
  have HT := Lib.hid hT
  clear hg hl hall hok hT m1 m2 q1 q2 y1 y2 y3 y4 h7
  go_enter Try.func31, Try.ntmps31
  go_wp2_with (first
    | (go_at_call 34; refine (hen _).mono ?_; rintro e w2 ⟨rfl, hx2⟩; replace hB : BB w _ := BB.next hB hx2)
    | (go_at_call 63; refine (hhd g _ _ (CP.disc6 hd)).mono ?_; rintro e w1 ⟨rfl, hx1⟩; replace hB : BB w _ := BB.next hB hx1))
  clear hen hhd
  go_loopw [3, 4] (fun v i wr => ∃ (t : Nat) (out : ByteArray), t ≤ T ∧ v = .string out ∧ i = .int .i64 t ∧ out.size ≤ 10000 * (t + 1) ∧ BB w wr ∧ Hid (out.data.toList ++ imT l P t (T - t) = E1.data.toList ++ imT l P 0 T)) (fun _ i _ => T - (intOf i).toNat)
  case atStart => exact ⟨0, E1, Nat.zero_le _, rfl, rfl, by rw [he1]; omega, hB, Lib.hid rfl⟩
  case round =>
    clear hB
    obtain ⟨t, out, ht, rfl, rfl, hol, hB, HI⟩ := hrel
    have D6 := CP.disc6 (hd.next hB)
    obtain ⟨a0, a1, -, -, -⟩ := id D6
    by_cases hlt : t < T
    · have hlti : (t : Int) < (T : Int) := by omega
      obtain ⟨m, hm⟩ : ∃ m, T - t = m + 1 := ⟨T - t - 1, by omega⟩
      have hm2 : T - (t + 1) = m := by omega
      have htP : t * P + P ≤ l.length := by
        rw [hNT, ← Nat.succ_mul]
        exact Nat.mul_le_mul_right P hlt
      obtain ⟨hs1, hs2⟩ := trS_in (l := l) (P := P) (t := t) hP8 hz32
      have htk := tkB_size t hs1 hs2
      have htk2 := encB_size 2 (tkB t (trS l P t))
      have HI := HI.out
      rw [hm] at HI
      have hem := fun W (d : DP W g c h (P : Int) s _) rr => l13Empty_any g c h s P t A cp l W d rr htP hl128 hP8
      have htr := fun W (d : DP W g c h (P : Int) s _) rr => l13Track_any g c h s P t A cp l W d rr htP hl128 hP8 (by omega) hsz
      have hen := fun W => l13Encode_any 2 (tkB t (trS l P t)) W (by omega) (by omega)
      have hwt : IntKind.i64.wrap ((t : Int) + 1) = ((t + 1 : Nat) : Int) := IntWalk.i64_in _ (by omega)
      by_cases hne : nonE (trS l P t) = true
      · have HN := Lib.hid (im_yes hne HI)
        rw [hne] at hem
        simp only [Bool.not_true] at hem
        generalize encB 2 (tkB t (trS l P t)) = X at *
        generalize tkB t (trS l P t) = Y at *
        have hXs : (out ++ X).size ≤ 10000 * (t + 1 + 1) := by rw [ByteArray.size_append]; omega
        have hbig : ¬ 9223372036854775807 < out.size + X.size := by omega
        clear hne HI hs1 hs2 htk htk2 htP hm
        go_wp2_with fail
        go_quiet (fail)
        replace hB : BB w _ := BB.next hB (below_drewN (Below.refl _ _) nq)
        have D7 := CP.disc6 (hd.next hB)
        have hrr := (Rd.below hr hB).more hB.size
        generalize wr.drewN nq = wr at *
        clear D6 a0 a1
        go_wp2_with (first
          | (go_at_call 34; have := mk1; refine (hen _).mono ?_; rintro e w9 ⟨rfl, hx9⟩; replace hB : BB w _ := BB.next hB hx9; clear this)
          | (go_at_call 65; have := mk0; refine (htr _ D8 hr8).mono ?_; rintro e w8 ⟨rfl, hx8⟩; replace hB : BB w _ := BB.next hB hx8; have mk1 := True.intro)
          | (go_at_call 64; refine (hem _ D7 hrr).mono ?_; rintro e w7 ⟨rfl, hx7⟩; replace hB : BB w _ := BB.next hB hx7; have D8 := CP.disc6 (hd.next hB); have hr8 := (Rd.below hr hB).more hB.size; have mk0 := True.intro))
        go_roundw
        case rel => exact ⟨t + 1, out ++ X, by omega, rfl, by go_num, hXs, hB, by rw [hm2]; exact HN⟩
        case measure => (simp [intOf] <;> omega)
      · have hne : nonE (trS l P t) = false := by simpa using hne
        have HN := Lib.hid (im_no hne HI)
        rw [hne] at hem
        simp only [Bool.not_false] at hem
        generalize tkB t (trS l P t) = Y at *
        clear hne HI hs1 hs2 htk htk2 htP hm
        go_wp2_with fail
        go_quiet (fail)
        replace hB : BB w _ := BB.next hB (below_drewN (Below.refl _ _) nq)
        have D7 := CP.disc6 (hd.next hB)
        have hrr := (Rd.below hr hB).more hB.size
        generalize wr.drewN nq = wr at *
        clear D6 a0 a1
        go_wp2_with (first
          | (go_at_call 64; refine (hem _ D7 hrr).mono ?_; rintro e w7 ⟨rfl, hx7⟩; replace hB : BB w _ := BB.next hB hx7))
        go_roundw
        case rel => exact ⟨t + 1, out, by omega, rfl, by go_num, by omega, hB, by rw [hm2]; exact HN⟩
        case measure => (simp [intOf] <;> omega)
    · obtain rfl : t = T := by omega
      have HI := HI.out
      rw [Nat.sub_self, imT, List.append_nil] at HI
      have hlti : ¬ (t : Int) < (t : Int) := by omega
      have hos : out.size ≤ 200000 := by omega
      go_wp2_with fail
      go_quiet (fail)
      replace hB : BB w _ := BB.next hB (below_drewN (Below.refl _ _) nq)
      generalize wr.drewN nq = wr at *
      clear D6 a0 a1
      go_wp2_with fail
      go_loopw [3, 5] (fun v i wr => ∃ (k : Nat) (o2 : ByteArray), k ≤ n.length ∧ v = .string o2 ∧ i = .int .i64 k ∧ o2.size ≤ 200000 + 1000 * k ∧ BB w wr ∧ Hid (o2.data.toList ++ imN (n.drop k) = out.data.toList ++ imN n)) (fun _ i _ => n.length - (intOf i).toNat)
      case atStart => exact ⟨0, out, Nat.zero_le _, rfl, rfl, hos, hB, Lib.hid rfl⟩
      case round =>
        clear hB
        obtain ⟨k, o2, hk, rfl, rfl, hol2, hB, HI2⟩ := hrel
        have D := hd.next hB
        have d5 := D 5 (by simp)
        by_cases hlt : k < n.length
        · have hlti : (k : Int) < (n.length : Int) := by omega
          have hx40 := hn40 n[k] (List.getElem_mem hlt)
          have hXl := encB_size 3 n[k]
          have HN := Lib.hid (im_note hlt HI2.out)
          have hen := fun W => l13Encode_any 3 n[k] W (by omega) (by omega)
          generalize encB 3 n[k] = X at *
          obtain ⟨b, off, rfl, hbb, hc⟩ := kr.at_ fS_len rfl k hlt
          have hc0 := hc 0 _ (by omega) rfl
          clear hc
          simp only [Nat.mul_one, Nat.add_zero] at hc0
          replace hc0 := (hB.cell (p := ⟨b, off + k, none⟩) hbb).trans hc0
          have hXs : (o2 ++ X).size ≤ 200000 + 1000 * (k + 1) := by rw [ByteArray.size_append]; omega
          have hbig : ¬ 9223372036854775807 < o2.size + X.size := by omega
          clear HI HI2 hXl hx40
          generalize n[k] = xk at *
          go_wp2_with (go_at_call 34; refine (hen _).mono ?_; rintro e w9 ⟨rfl, hx9⟩; replace hB : BB w _ := BB.next hB hx9)
          go_roundw
          case rel => exact ⟨k + 1, o2 ++ X, by omega, rfl, by go_num, hXs, hB, HN⟩
          case measure => (simp [intOf] <;> omega)
        · have hlti : ¬ (k : Int) < (n.length : Int) := by omega
          have hen := fun W => l13Encode_any 4 ⟨#[]⟩ W (by omega) (by decide)
          have hXl := encB_size 4 ⟨#[]⟩
          have hq : o2.data.toList = E1.data.toList ++ imT l P 0 t ++ imN n := (im_end hlt HI2.out).trans (by rw [HI])
          have HR := Lib.hid (show o2 ++ encB 4 ⟨#[]⟩ = imG c h (P : Int) s l n by
            rw [HIM.out]
            refine of_list ?_
            rw [app_list, hq, List.append_assoc, List.append_assoc])
          have hk0 : (⟨#[]⟩ : ByteArray).size = 0 := rfl
          generalize encB 4 ⟨#[]⟩ = X at *
          have hbig : ¬ 9223372036854775807 < o2.size + X.size := by omega
          clear HI HI2 hXl hq HIM
          go_wp2_with (go_at_call 34; refine (hen _).mono ?_; rintro e w9 ⟨rfl, hx9⟩; replace hB : BB w _ := BB.next hB hx9)
          go_ret
          exact ⟨by rw [← HR.out]; rfl, hB⟩
end Go.Proofs.Ytemppogailpoiaa
namespace Go.Proofs.Ytemppogailpoiaa
set_option linter.unusedVariables false
open Go.RowKit

theorem run_byte1_at (k : Nat) (hk : k < 256) (w w1 : World) (hb : w1.heap[w.heap.size]? = (w.alloc (.cells #[.int .u8 (k : Int)] 5)).drew.heap[w.heap.size]?) :
    (convert 22 9 (.slice (some ⟨w.heap.size, 0, none⟩) 1 1)).run Try.prog w1 = .ok (.string ⟨[UInt8.ofNat k].toArray⟩) w1 := by
  have h1 : (UInt8.ofNat k).toNat = k := by rw [UInt8.toNat_ofNat']; omega
  have h0 : OwnB (w.alloc (.cells #[.int .u8 (k : Int)] 5)) 0 5 (.slice (some ⟨w.heap.size, 0, none⟩) 1 1) [UInt8.ofNat k] :=
    OwnB.lit w [UInt8.ofNat k] _ (by simp only [bcells, List.map_cons, List.map_nil, h1]) (Nat.zero_le _) (by simp [maxLen])
  have h2 : OwnB w1 0 5 (.slice (some ⟨w.heap.size, 0, none⟩) 1 1) [UInt8.ofNat k] := by
    rcases h0.2 with ⟨h, _⟩ | ⟨g, cap, cur, hv, hr⟩
    · cases h
    · obtain ⟨rfl, rfl⟩ : w.heap.size = g ∧ 1 = cap := by injection hv with a _ c; injection a with a; injection a with a; exact ⟨a, c⟩
      refine ⟨h0.1, .inr ⟨_, 1, cur, rfl, hr.1, ?_, hr.2.2⟩⟩
      rw [hb]
      exact hr.2.1
  exact run_b2s Try.underlying22 Try.underlying5 Try.underlying9 h2
theorem BuilderF_next {T e : TypeId} {B b : Nat} {p : Value} {bs : List Value} {w w' : World} (h : Lib.BuilderAtF T e B b p bs w) (hb : Below w.heap.size w w') : Lib.BuilderAtF T e B b p bs w' := by
  obtain ⟨h1, v, h2, h3, h4⟩ := h
  have hlt : b < w.heap.size := (Array.getElem?_eq_some_iff.1 h2).1
  refine ⟨h1, v, (hb.block b hlt).trans h2, ⟨h3.1, ?_⟩, h4⟩
  rcases h3.2 with h | ⟨g, cap, cur, fz, hv, hbg, hg, r⟩
  · exact .inl h
  · have hgl : g < w.heap.size := (Array.getElem?_eq_some_iff.1 hg).1
    exact .inr ⟨g, cap, cur, fz, hv, hbg, (hb.block g hgl).trans hg, r⟩
theorem IsBuilderF_next {T e : TypeId} {B b : Nat} {bs : List Value} {w w' : World} (h : Lib.IsBuilderF T e B b bs w) (hb : Below w.heap.size w w') : Lib.IsBuilderF T e B b bs w' := h.imp (fun h => BuilderF_next h hb) (fun h => BuilderF_next h hb)
theorem byteCells_one (out : List UInt8) (S : Nat) (h : S < 256) : Lib.byteCells (out ++ [UInt8.ofNat S]) = Lib.byteCells out ++ [.int .u8 (S : Int)] := by
  have h1 : (UInt8.ofNat S).toNat = S := by rw [UInt8.toNat_ofNat']; omega
  rw [Lib.byteCells_append]
  simp only [Lib.byteCells, List.map_cons, List.map_nil, h1]
set_option maxRecDepth 100000 in
set_option maxHeartbeats 4000000 in
theorem trackData_any (c h s : Int) (P t b off cp : Nat) (l : List DSector) (w : World) (hr : Rd w w.heap.size 2 (some ⟨b, off, none⟩) l.length (flat fSector l)) (ht : t * P + P ≤ l.length) (hn : l.length ≤ 128) (hP : P ≤ 8) (hP0 : 0 < P) (hcp : l.length ≤ cp) (ht8 : t < 256) (hsz : ∀ k, (hk : k < l.length) → l[k].f0.size ≤ 32 ∧ 0 ≤ l[k].f1 ∧ l[k].f1 ≤ 255) :
    Calls Try.prog 47 #[.agg #[.int .i64 c, .int .i64 h, .int .i64 (P : Int), .int .i64 s, .slice (some ⟨b, off, none⟩) l.length cp], .int .i64 (t : Int)] w fun e w' => e = .returned (.string (tkB t (trS l P t))) ∧ Below w.heap.size w w' := by
  have hts := fun W => trackSectors_any c h s P t b off cp l W ht hn hP hP0 hcp
  obtain ⟨q, hq⟩ : ∃ q, t * P = q := ⟨_, rfl⟩
  rw [show trS l P t = trQ l q P by rw [← hq]; rfl]
  have hqb : q ≤ 128 := by omega
  rw [hq] at ht
  simp only [hq] at hts
  clear hq
  have HL := Lib.hid (trQ_len ht)
  have hr1 := trQ_rd hr ht
  generalize off + q * 2 = off1 at *
  generalize cp - q = cp1 at *
  have hI0 := Lib.IsBuilderF.of (Lib.fresh_isBuilder 79 5 (w.alloc (.cells #[.int .i64 c, .int .i64 h, .int .i64 (P : Int), .int .i64 s, .slice (some ⟨b, off, none⟩) l.length cp] 26)))
  rw [World.size_alloc] at hI0
  have hB0 : BB w ((w.alloc (.cells #[.int .i64 c, .int .i64 h, .int .i64 (P : Int), .int .i64 s, .slice (some ⟨b, off, none⟩) l.length cp] 26)).alloc (.cells #[.pointer none, .slice none 0 0] 79)) := (show Below w.heap.size w ((w.alloc (.cells #[.int .i64 c, .int .i64 h, .int .i64 (P : Int), .int .i64 s, .slice (some ⟨b, off, none⟩) l.length cp] 26)).alloc (.cells #[.pointer none, .slice none 0 0] 79)) from (by with_reducible repeat (first | exact Below.refl _ _ | assumption | refine below_step ?_ (by assumption) | refine Below.drew ?_ | refine below_drewN ?_ _ | refine below_alloc ?_ _ | refine Below.setCell ?_ (by simp; try omega) _)))
  have hbs0 : w.heap.size + 1 < ((w.alloc (.cells #[.int .i64 c, .int .i64 h, .int .i64 (P : Int), .int .i64 s, .slice (some ⟨b, off, none⟩) l.length cp] 26)).alloc (.cells #[.pointer none, .slice none 0 0] 79)).heap.size := by simp
  go_enter Try.func47, Try.ntmps47
  go_wp2_with (go_at_call 45; refine (hts _).mono ?_; rintro e w3 ⟨rfl, hx3⟩; have hI := IsBuilderF_next hI0 hx3; have hB := BB.next hB0 hx3; have hbl : w.heap.size + 1 < w3.heap.size := Nat.lt_of_lt_of_le hbs0 hx3.size)
  clear hts hI0 hB0 hbs0 hx3
  go_loopw [7, 12] (fun _ i wr => ∃ (k : Nat) (out : List UInt8), k ≤ P ∧ i = .int .i64 k ∧ out.length ≤ 33 * k ∧ k ≤ out.length ∧ Lib.IsBuilderF 79 5 (w.heap.size + 1) (w.heap.size + 1) (Lib.byteCells out) wr ∧ BB w wr ∧ w.heap.size + 1 < wr.heap.size ∧ Hid (out ++ plB ((trQ l q P).drop k) = plB (trQ l q P))) (fun _ i _ => P - (intOf i).toNat)
  case atStart => exact ⟨0, [], Nat.zero_le _, rfl, by simp, Nat.zero_le _, hI, hB, hbl, Lib.hid rfl⟩
  case round =>
    clear hB hI hbl
    obtain ⟨k, out, hk, rfl, hol, hol2, hI, hB, hbl, HI⟩ := hrel
    by_cases hlt : k < P
    · have hlti : (k : Int) < (P : Int) := by omega
      have hkl : k < (trQ l q P).length := by rw [HL.out]; exact hlt
      obtain ⟨j, hj⟩ : ∃ j, q + k = j := ⟨_, rfl⟩
      have hjl : j < l.length := by omega
      have hgk : (trQ l q P)[k] = l[j] := by subst hj; exact trQ_get hkl hjl
      obtain ⟨hz1, hz2, hz3⟩ := hsz j hjl
      obtain ⟨b2, off2, he2, hb2, hc⟩ := hr1.at_ fSector_len HL.out.symm k hlt
      obtain ⟨rfl, rfl⟩ : b = b2 ∧ off1 = off2 := by injection he2 with a; injection a with a b; exact ⟨a, b⟩
      have a1 := hc 0 _ (by omega) rfl
      have a2 := hc 1 _ (by omega) rfl
      clear hc he2
      simp only [← Nat.add_assoc, Nat.add_zero] at a1 a2
      rw [hgk] at a1 a2
      obtain ⟨dat, hdat⟩ : ∃ x, l[j].f0 = x := ⟨_, rfl⟩
      obtain ⟨S, hS⟩ : ∃ S : Nat, l[j].f1 = (S : Int) := ⟨l[j].f1.toNat, by omega⟩
      rw [hdat] at a1 hz1
      rw [hS] at a2
      have hS256 : S < 256 := by omega
      have HN := Lib.hid (plq_step (d := dat) (s := S) hkl (by rw [hgk, hdat]) (by rw [hgk, hS]) HI.out)
      have hle : ((out ++ [UInt8.ofNat S]) ++ dat.data.toList).length = out.length + 1 + dat.size := by rw [List.length_append, List.length_append, Array.length_toList, List.length_singleton]; rfl
      have HLB := Lib.hid (show ((out ++ [UInt8.ofNat S]) ++ dat.data.toList).length ≤ 33 * (k + 1) ∧ k + 1 ≤ ((out ++ [UInt8.ofNat S]) ++ dat.data.toList).length by rw [hle]; omega)
      have hwS := wrap_byte S hS256
      replace a1 := (hB.cell (p := ⟨b, off1 + k * 2, none⟩) hb2).trans a1
      replace a2 := (hB.cell (p := ⟨b, off1 + k * 2 + 1, none⟩) hb2).trans a2
      have hl1 : (Lib.byteCells out).length + 1 ≤ 140737488355328 := by rw [Lib.byteCells_length]; omega
      have hl2 : (Lib.byteCells (out ++ [UInt8.ofNat S])).length + dat.size ≤ 140737488355328 := by rw [Lib.byteCells_length, List.length_append, List.length_singleton]; omega
      clear hgk hj hdat hS hz2 hz3 hle
      have FS : BX (wr.alloc (.cells #[.string dat, .int .i64 (S : Int)] 46)) wr.heap.size 46 [.string dat, .int .i64 (S : Int)] := BX.made wr 46 [.string dat, .int .i64 (S : Int)]
      have hI4 := IsBuilderF_next hI (below_alloc (Below.refl _ _) (.cells #[.string dat, .int .i64 (S : Int)] 46))
      have hB4 := BB.al hB (.cells #[.string dat, .int .i64 (S : Int)] 46)
      have hs4 : w.heap.size + 1 ≤ (wr.alloc (.cells #[.string dat, .int .i64 (S : Int)] 46)).heap.size := by rw [World.size_alloc]; omega
      have f1 : (_ : Option Value) = some (.int .i64 (S : Int)) := FS.cell 1 (by simp)
      go_wp2_with (first
        | (go_at_call 42; have := mk1; have con := WriteString_k _ _ _ dat _ hI5 hl2 hs5; (with_reducible refine con.mono ?_); rintro e w6 ⟨rfl, hI6, hx6, -⟩; have hB6 := BB.tr hB5 hx6; have hs6 := Nat.le_trans hs5' hx6.size; clear con)
        | (go_at_call 79; have con := WriteByte_k _ _ _ (S : Int) _ hI4 hl1 hs4; (with_reducible refine con.mono ?_); rintro e w5 ⟨rfl, hI5', hx5, ho5⟩; have hI5 : Lib.IsBuilderF _ _ _ _ (Lib.byteCells (out ++ [UInt8.ofNat S])) w5 := .inr (by rw [byteCells_one _ _ hS256]; exact hI5'); have hB5 := BB.tr hB4 hx5; have FS5 := OthersKept.bx ho5 FS (by omega) (by decide); have f0 : (_ : Option Value) = some (.string dat) := FS5.cell 0 (by simp); have hs5' : w.heap.size + 1 < w5.heap.size := Nat.lt_of_lt_of_le (by rw [World.size_alloc]; omega) hx5.size; have hs5 := Nat.le_of_lt hs5'; clear con hI5'; have mk1 := True.intro))
      go_roundw
      case rel => exact ⟨k + 1, _, by omega, by go_num, HLB.out.1, HLB.out.2, .inr (by rw [Lib.byteCells_append]; exact hI6), hB6, hs6, HN⟩
      case measure => (simp [intOf] <;> omega)
    obtain rfl : k = P := by omega
    have HE := Lib.hid (plq_end (by rw [HL.out]; omega) HI.out)
    have hout0 : out ≠ [] := by intro h0; rw [h0] at hol2; simp at hol2; omega
    have hSs : (⟨out.toArray⟩ : ByteArray).size = out.length := by simp [ByteArray.size]
    have hpk := pbG_len ⟨out.toArray⟩ out.length 0 0 [] (by rw [hSs]; omega) (Nat.le_refl _) (Nat.zero_le _)
    have hS4 : (⟨out.toArray⟩ : ByteArray).size ≤ 4096 := by rw [hSs]; omega
    have hpa := fun W => packBytes_any ⟨out.toArray⟩ W hS4
    have HT := Lib.hid (show byteB t ++ ⟨(pbG ⟨out.toArray⟩ 0 0 []).toArray⟩ = tkB t (trQ l q k) by rw [tkB, ← HE.out])
    have hPs : (⟨(pbG ⟨out.toArray⟩ 0 0 []).toArray⟩ : ByteArray).size = (pbG ⟨out.toArray⟩ 0 0 []).length := by simp [ByteArray.size]
    have hpk2 : (pbG ⟨out.toArray⟩ 0 0 []).length ≤ 600 := by
      rw [hSs] at hpk
      simp only [List.length_nil] at hpk
      omega
    obtain ⟨PK, hPK⟩ : ∃ x, (⟨(pbG ⟨out.toArray⟩ 0 0 []).toArray⟩ : ByteArray) = x := ⟨_, rfl⟩
    rw [hPK] at hPs HT
    simp only [hPK] at hpa
    have hbig : ¬ 9223372036854775807 < 1 + PK.size := by rw [hPs]; omega
    clear hpk hpk2 hPs hPK
    have hst := fun W hw => String_at (w.heap.size + 1) (w.heap.size + 1) out wr W hw hI hout0
    obtain ⟨SS, hSS⟩ : ∃ x, (⟨out.toArray⟩ : ByteArray) = x := ⟨_, rfl⟩
    simp only [hSS] at hpa hst
    have kB : (⟨#[UInt8.ofNat t]⟩ : ByteArray).size = 1 := rfl
    have hwt := wrap_byte t ht8
    have hl0 := run_byte1_drew t ht8 wr
    clear hSs hS4 hSS hlt HI HL hol hol2
    have hlti : ¬ (k : Int) < (k : Int) := by omega
    have hBA := BB.dr (BB.al hB (.cells #[.int .u8 (t : Int)] 5))
    have hBN := BB.dr hB
    have bA : Below wr.heap.size wr (wr.alloc (.cells #[.int .u8 (t : Int)] 5)).drew := Below.drew (below_alloc (Below.refl _ _) (.cells #[.int .u8 (t : Int)] 5))
    have bN : Below wr.heap.size wr wr.drew := Below.drew (Below.refl _ _)
    have hle1 : w.heap.size ≤ wr.heap.size := by omega
    go_upto_region 8 with fail
    go_region_law (go_simp; first
      | (go_at_call 48; have con := hst (wr.alloc (.cells #[.int .u8 (t : Int)] 5)).drew bA; (with_reducible refine con.mono ?_); clear con; rintro e w9 ⟨rfl, hx9, hk9⟩; have hl1 := run_byte1_at t ht8 wr w9 (hk9 wr.heap.size (Nat.le_refl _)); have hB9 := BB.tr hBA hx9; clear hl0; have m1 := True.intro)
      | (go_at_call 48; have con := hst wr.drew bN; (with_reducible refine con.mono ?_); clear con; rintro e w9 ⟨rfl, hx9, hk9⟩; have hl1 := run_byte1 t ht8 w9; have hB9 := BB.tr hBN hx9; clear hl0; have m2 := True.intro)
      | (go_at_call 80; have := m1; have con := hpa w9; (with_reducible refine con.mono ?_); clear con; rintro e w10 ⟨rfl, hx10⟩; have hl2 := run_byte1_at t ht8 wr w10 ((hx10.block wr.heap.size (Nat.lt_of_lt_of_le (by rw [World.size_drew, World.size_alloc]; omega) hx9.size)).trans (hk9 wr.heap.size (Nat.le_refl _))); have hB10 := BB.next hB9 hx10; clear hl1)
      | (go_at_call 80; have := m2; have con := hpa w9; (with_reducible refine con.mono ?_); clear con; rintro e w10 ⟨rfl, hx10⟩; have hl2 := run_byte1 t ht8 w10; have hB10 := BB.al (BB.next hB9 hx10) (.cells #[.int .u8 (t : Int)] 5); clear hl1)
      | (go_at_call 80; have := m2; have con := hpa (w9.alloc (.cells #[.int .u8 (t : Int)] 5)); (with_reducible refine con.mono ?_); clear con; rintro e w10 ⟨rfl, hx10⟩; have hl2 := run_byte1_at t ht8 w9 w10 (hx10.block w9.heap.size (by simp)); have hB10 := BB.next (BB.al hB9 (.cells #[.int .u8 (t : Int)] 5)) hx10; clear hl1))
    all_goals
      go_wp2
      go_ret
      exact ⟨by rw [← HT.out]; rfl, hB10⟩
end Go.Proofs.Ytemppogailpoiaa
namespace Go.Proofs.Ytemppogailpoiaa
set_option linter.unusedVariables false
open Go.RowKit

section
variable {l : List DSector} {P t m : Nat} {out R : List UInt8} {n : List ByteArray} {k : Nat}
theorem iml_yes (g : nonE (trS l P t) = true) (e : out ++ imT l P t (m + 1) = R) : (out ++ (encB 2 (tkB t (trS l P t))).data.toList) ++ imT l P (t + 1) m = R := by
  rw [imT, if_pos g] at e
  rw [List.append_assoc]
  exact e
theorem iml_no (g : nonE (trS l P t) = false) (e : out ++ imT l P t (m + 1) = R) : out ++ imT l P (t + 1) m = R := by
  rw [imT, if_neg (by rw [g]; decide), List.nil_append] at e
  exact e
theorem iml_note (h : k < n.length) (e : out ++ imN (n.drop k) = R) : (out ++ (encB 3 n[k]).data.toList) ++ imN (n.drop (k + 1)) = R := by
  rw [List.drop_eq_getElem_cons h, imN] at e
  rw [List.append_assoc]
  exact e
theorem iml_end (h : ¬ k < n.length) (e : out ++ imN (n.drop k) = R) : out = R := by
  rw [List.drop_eq_nil_of_le (by omega), imN, List.append_nil] at e
  exact e
end
theorem bytes_len (x : ByteArray) : x.data.toList.length = x.size := by rw [Array.length_toList]; rfl
theorem containsTrack_any (P t b off cp : Nat) (l : List DSector) (W : World) (hr : Rd W W.heap.size 2 (some ⟨b, off, none⟩) l.length (flat fSector l)) (ht : t * P + P ≤ l.length) (hP : P ≤ 8) :
    Calls Try.prog 44 #[.slice (some ⟨b, off + t * P * 2, none⟩) P (cp - t * P), .func (.func 46) #[] #[]] W fun e w' => e = .returned (.bool (nonE (trS l P t))) ∧ Below W.heap.size W w' := by
  have h := containsSec_any (some ⟨b, off + t * P * 2, none⟩) (cp - t * P) (trQ l (t * P) P) W (by rw [trQ_len ht]; exact trQ_rd hr ht) (by rw [trQ_len ht]; omega)
  rw [trQ_len ht] at h
  exact h
theorem okD_st {c h p s : Int} {l : List DSector} (g : okD c h p s l = true) : ∀ x ∈ l, 0 ≤ x.f1 ∧ x.f1 ≤ 255 := by
  obtain ⟨hg, hl, hall⟩ := okD_geo g
  intro x hx
  obtain ⟨k, hk, rfl⟩ := List.getElem_of_mem hx
  have h5 := hall k hk
  unfold secX secB inB at h5
  simp only [Bool.and_eq_true, decide_eq_true_eq] at h5
  omega
set_option maxRecDepth 100000 in
set_option maxHeartbeats 4000000 in
theorem encodeImage_any (c h p s : Int) (A : Option Addr) (cp : Nat) (l : List DSector) (N : Option Addr) (q : Nat) (n : List ByteArray) (w : World) (hr0 : RR w 2 A l.length (flat fSector l)) (kr0 : RR w 1 N n.length (flat fS n)) (hok : okD c h p s l = true) (hcp : l.length ≤ cp) (hn8 : n.length ≤ 8) (hn40 : ∀ x ∈ n, x.size ≤ 40) :
    Calls Try.prog 21 #[.agg #[.int .i64 c, .int .i64 h, .int .i64 p, .int .i64 s, .slice A l.length cp, .slice N n.length q]] w fun e w' => e = .returned (.string (imG c h p s l n)) ∧ Below w.heap.size w w' := by
  have hst := okD_st hok
  obtain ⟨hg, hl, hall⟩ := okD_geo hok
  obtain ⟨c1, c2, h1, h2, p1, p2, s1, s2⟩ := geoB_yes hg
  obtain ⟨m1, m2⟩ := prod2 c1 c2 h1 h2
  obtain ⟨q1, q2⟩ := prod3 m1 m2 p1 p2
  obtain ⟨nb, y1, y2, y3, y4⟩ := szB_nat s1 s2
  have hz32 : ∀ x ∈ l, x.f0.size ≤ 32 := by
    intro x hx
    obtain ⟨k, hk, rfl⟩ := List.getElem_of_mem hx
    have h5 := hall k hk
    have h6 : l[k].f0.size = (szB s).toNat := by
      unfold secX secB at h5
      simp only [Bool.and_eq_true, decide_eq_true_eq] at h5
      first | exact h5.1.1 | exact h5.1 | exact h5.1.1.1
    omega
  have hsz : ∀ k, (hk : k < l.length) → l[k].f0.size ≤ 32 ∧ 0 ≤ l[k].f1 ∧ l[k].f1 ≤ 255 := fun k hk => ⟨hz32 _ (List.getElem_mem hk), hst _ (List.getElem_mem hk)⟩
  obtain ⟨P, rfl⟩ : ∃ P : Nat, p = (P : Int) := ⟨p.toNat, by omega⟩
  obtain ⟨T, hT⟩ : ∃ T : Nat, c * h = (T : Int) := ⟨(c * h).toNat, by omega⟩
  have hNT : l.length = T * P := by rw [hT] at hl; omega
  have hl128 : l.length ≤ 128 := by omega
  have hT16 : T ≤ 16 := by omega
  have hP8 : P ≤ 8 := by omega
  have hwT : IntKind.i64.wrap (c * h) = (T : Int) := by rw [hT]; exact IntWalk.i64_in _ (by omega)
  have HIM := Lib.hid (show imG c h (P : Int) s l n = ⟨((encB 1 (hdI c h (P : Int) s)).data.toList ++ (imT l P 0 T ++ (imN n ++ (encB 4 ⟨#[]⟩).data.toList))).toArray⟩ by rw [imG, hT, Int.toNat_natCast, Int.toNat_natCast])
  have hP0 : 0 < P := by omega
  have hT0 : 0 < T := by omega
  obtain ⟨b, off, rfl, hbb⟩ : ∃ b off, A = some ⟨b, off, none⟩ ∧ b < w.heap.size := by
    obtain ⟨b, off, e, h1, -⟩ := hr0.2 (by rw [hNT]; exact Nat.mul_pos hT0 hP0)
    exact ⟨b, off, e, h1⟩
  have hhd := fun (v : Value) W => headerData_any c h (P : Int) s v W (by omega) (by omega) (by omega) (by omega)
  have h7 := hdI_size c h (P : Int) s
  have he1 := encB_size 1 (hdI c h (P : Int) s)
  have hen := fun W => encodeChunk_any 1 (hdI c h (P : Int) s) W (by omega) (by omega)
  generalize hdI c h (P : Int) s = HD at *
  rw [h7] at he1
  generalize encB 1 HD = E1 at *
  have HT := Lib.hid hT
  have HNT := Lib.hid hNT
  clear hg hl hall hok hT m1 m2 q1 q2 y1 y2 y3 y4 h7 hNT
  have F : BX ((w.alloc (.cells #[.int .i64 c, .int .i64 h, .int .i64 (P : Int), .int .i64 s, .slice (some ⟨b, off, none⟩) l.length cp, .slice N n.length q] 29)).alloc (.cells #[.pointer none, .slice none 0 0] 79)) w.heap.size 29 [.int .i64 c, .int .i64 h, .int .i64 (P : Int), .int .i64 s, .slice (some ⟨b, off, none⟩) l.length cp, .slice N n.length q] := BX.al (BX.made w 29 [.int .i64 c, .int .i64 h, .int .i64 (P : Int), .int .i64 s, .slice (some ⟨b, off, none⟩) l.length cp, .slice N n.length q]) (.cells #[.pointer none, .slice none 0 0] 79)
  have hB : BB w ((w.alloc (.cells #[.int .i64 c, .int .i64 h, .int .i64 (P : Int), .int .i64 s, .slice (some ⟨b, off, none⟩) l.length cp, .slice N n.length q] 29)).alloc (.cells #[.pointer none, .slice none 0 0] 79)) := (show Below w.heap.size w ((w.alloc (.cells #[.int .i64 c, .int .i64 h, .int .i64 (P : Int), .int .i64 s, .slice (some ⟨b, off, none⟩) l.length cp, .slice N n.length q] 29)).alloc (.cells #[.pointer none, .slice none 0 0] 79)) from (by with_reducible repeat (first | exact Below.refl _ _ | assumption | refine below_step ?_ (by assumption) | refine Below.drew ?_ | refine below_drewN ?_ _ | refine below_alloc ?_ _ | refine Below.setCell ?_ (by simp; try omega) _)))
  have hs : w.heap.size + 1 < ((w.alloc (.cells #[.int .i64 c, .int .i64 h, .int .i64 (P : Int), .int .i64 s, .slice (some ⟨b, off, none⟩) l.length cp, .slice N n.length q] 29)).alloc (.cells #[.pointer none, .slice none 0 0] 79)).heap.size := by simp
  have hI : Lib.IsBuilderF _ _ _ _ (Lib.byteCells []) _ := Lib.IsBuilderF.of (Lib.fresh_isBuilder 79 5 (w.alloc (.cells #[.int .i64 c, .int .i64 h, .int .i64 (P : Int), .int .i64 s, .slice (some ⟨b, off, none⟩) l.length cp, .slice N n.length q] 29)))
  rw [World.size_alloc] at hI
  have hlE : (Lib.byteCells []).length + E1.size ≤ 140737488355328 := by rw [Lib.byteCells_length, he1]; decide
  have a0 : ((w.alloc (.cells #[.int .i64 c, .int .i64 h, .int .i64 (P : Int), .int .i64 s, .slice (some ⟨b, off, none⟩) l.length cp, .slice N n.length q] 29)).alloc (.cells #[.pointer none, .slice none 0 0] 79)).cell? ⟨w.heap.size, 0, none⟩ = _ := F.cell 0 (by simp)
  go_enter Try.func21, Try.ntmps21
  go_wp2_with (first
    | (go_at_call 42; have con := WriteString_k _ _ _ E1 _ hI hlE (Nat.le_of_lt hs); (with_reducible refine con.mono ?_); clear con; rintro e w6 ⟨rfl, hI6, hx6, -⟩; replace F := F.below hx6 (Nat.lt_succ_self _); replace hB : BB w _ := BB.tr hB hx6; replace hI : Lib.IsBuilderF _ _ _ _ (Lib.byteCells ([] ++ E1.data.toList)) _ := .inr (by rw [Lib.byteCells_append]; exact hI6); replace hs := Nat.lt_of_lt_of_le hs hx6.size; rw [List.nil_append] at hI; have c0 : w6.cell? ⟨w.heap.size, 0, none⟩ = _ := F.cell 0 (by simp); have c1 : w6.cell? ⟨w.heap.size, 1, none⟩ = _ := F.cell 1 (by simp))
    | (go_at_call 27; refine (hen _).mono ?_; rintro e w2 ⟨rfl, hx2⟩; replace F := F.below hx2 (BX.lt F); replace hB : BB w _ := BB.next hB hx2; replace hI := IsBuilderF_next hI hx2; replace hs := Nat.lt_of_lt_of_le hs hx2.size)
    | (go_at_call 43; refine (hhd _ _).mono ?_; rintro e w1 ⟨rfl, hx1⟩; replace F := F.below hx1 (BX.lt F); replace hB : BB w _ := BB.next hB hx1; replace hI := IsBuilderF_next hI hx1; replace hs := Nat.lt_of_lt_of_le hs hx1.size))
  clear hen hhd hlE a0
  clear c0 c1
  go_loopw [4, 5, 20] (fun _ _ i wr => ∃ (t : Nat) (out : List UInt8), t ≤ T ∧ i = .int .i64 t ∧ out.length ≤ 10000 * (t + 1) ∧ Lib.IsBuilderF 79 5 (w.heap.size + 1) (w.heap.size + 1) (Lib.byteCells out) wr ∧ BX wr w.heap.size 29 [.int .i64 c, .int .i64 h, .int .i64 (P : Int), .int .i64 s, .slice (some ⟨b, off, none⟩) l.length cp, .slice N n.length q] ∧ BB w wr ∧ w.heap.size + 1 < wr.heap.size ∧ Hid (out ++ imT l P t (T - t) = E1.data.toList ++ imT l P 0 T)) (fun _ _ i _ => T - (intOf i).toNat)
  case atStart => exact ⟨0, E1.data.toList, Nat.zero_le _, rfl, by rw [bytes_len, he1]; omega, hI, F, hB, hs, Lib.hid rfl⟩
  case round =>
    clear F hB hI hs
    obtain ⟨t, out, ht, rfl, hol, hI, F, hB, hs, HI⟩ := hrel
    by_cases hlt : t < T
    · have hlti : (t : Int) < (T : Int) := by omega
      obtain ⟨m, hm⟩ : ∃ m, T - t = m + 1 := ⟨T - t - 1, by omega⟩
      have hm2 : T - (t + 1) = m := by omega
      have htP : t * P + P ≤ l.length := by
        rw [HNT.out, ← Nat.succ_mul]
        exact Nat.mul_le_mul_right P hlt
      obtain ⟨hs1, hs2⟩ := trS_in (l := l) (P := P) (t := t) hP8 hz32
      have htk := tkB_size t hs1 hs2
      have htk2 := encB_size 2 (tkB t (trS l P t))
      have HI := HI.out
      rw [hm] at HI
      have hts := fun W => trackSectors_any c h s P t b off cp l W htP hl128 hP8 hP0 hcp
      have hct := fun W rr => containsTrack_any P t b off cp l W rr htP hP8
      have htd := fun W rr => trackData_any c h s P t b off cp l W rr htP hl128 hP8 hP0 hcp (by omega) hsz
      have hen := fun W => encodeChunk_any 2 (tkB t (trS l P t)) W (by omega) (by omega)
      have hwt : IntKind.i64.wrap ((t : Int) + 1) = ((t + 1 : Nat) : Int) := IntWalk.i64_in _ (by omega)
      have hXl := bytes_len (encB 2 (tkB t (trS l P t)))
      generalize off + t * P * 2 = off2 at hts hct
      generalize cp - t * P = cp2 at hts hct
      have a0 : wr.cell? ⟨w.heap.size, 0, none⟩ = _ := F.cell 0 (by simp); have a1 : wr.cell? ⟨w.heap.size, 1, none⟩ = _ := F.cell 1 (by simp); have a2 : wr.cell? ⟨w.heap.size, 2, none⟩ = _ := F.cell 2 (by simp); have a3 : wr.cell? ⟨w.heap.size, 3, none⟩ = _ := F.cell 3 (by simp); have a4 : wr.cell? ⟨w.heap.size, 4, none⟩ = _ := F.cell 4 (by simp)
      by_cases hne : nonE (trS l P t) = true
      · have HN := Lib.hid (iml_yes hne HI)
        rw [hne] at hct
        generalize encB 2 (tkB t (trS l P t)) = X at *
        generalize tkB t (trS l P t) = Y at *
        have hXs : (out ++ X.data.toList).length ≤ 10000 * (t + 1 + 1) := by rw [List.length_append]; omega
        have hlE : (Lib.byteCells out).length + X.size ≤ 140737488355328 := by rw [Lib.byteCells_length]; omega
        clear hne HI hs1 hs2 htk htk2 htP hm hXl
        go_wp2_with (first
          | (go_at_call 42; have := mk1; have con := WriteString_k _ _ _ X _ hI hlE (Nat.le_of_lt hs); (with_reducible refine con.mono ?_); clear con; rintro e w6 ⟨rfl, hI6, hx6, -⟩; replace F := F.below hx6 (Nat.lt_succ_self _); replace hB : BB w _ := BB.tr hB hx6; replace hI : Lib.IsBuilderF _ _ _ _ (Lib.byteCells (out ++ X.data.toList)) _ := .inr (by rw [Lib.byteCells_append]; exact hI6); replace hs := Nat.lt_of_lt_of_le hs (Below.size hx6); clear this)
          | (go_at_call 27; have := mk0; refine (hen _).mono ?_; rintro e w5 ⟨rfl, hx5⟩; replace F := F.below hx5 (BX.lt F); replace hB : BB w _ := BB.next hB hx5; replace hI := IsBuilderF_next hI hx5; replace hs := Nat.lt_of_lt_of_le hs (Below.size hx5); have mk1 := True.intro; clear this)
          | (go_at_call 47; refine (htd _ (RR.back hr0 hB)).mono ?_; rintro e w4 ⟨rfl, hx4⟩; replace F := F.below hx4 (BX.lt F); replace hB : BB w _ := BB.next hB hx4; replace hI := IsBuilderF_next hI hx4; replace hs := Nat.lt_of_lt_of_le hs (Below.size hx4); have mk0 := True.intro)
          | (go_at_call 44; refine (hct _ (RR.back hr0 hB)).mono ?_; rintro e w3 ⟨rfl, hx3⟩; replace F := F.below hx3 (BX.lt F); replace hB : BB w _ := BB.next hB hx3; replace hI := IsBuilderF_next hI hx3; replace hs := Nat.lt_of_lt_of_le hs (Below.size hx3); replace a0 : w3.cell? ⟨w.heap.size, 0, none⟩ = _ := F.cell 0 (by simp); replace a1 : w3.cell? ⟨w.heap.size, 1, none⟩ = _ := F.cell 1 (by simp); replace a2 : w3.cell? ⟨w.heap.size, 2, none⟩ = _ := F.cell 2 (by simp); replace a3 : w3.cell? ⟨w.heap.size, 3, none⟩ = _ := F.cell 3 (by simp); replace a4 : w3.cell? ⟨w.heap.size, 4, none⟩ = _ := F.cell 4 (by simp))
          | (go_at_call 45; refine (hts _).mono ?_; rintro e w2 ⟨rfl, hx2⟩; replace F := F.below hx2 (BX.lt F); replace hB : BB w _ := BB.next hB hx2; replace hI := IsBuilderF_next hI hx2; replace hs := Nat.lt_of_lt_of_le hs (Below.size hx2)))
        go_roundw
        case rel => exact ⟨t + 1, out ++ X.data.toList, by omega, by go_num, hXs, hI, F, hB, hs, by rw [hm2]; exact HN⟩
        case measure => (simp [intOf] <;> omega)
      · have hne : nonE (trS l P t) = false := by simpa using hne
        have HN := Lib.hid (iml_no hne HI)
        rw [hne] at hct
        generalize tkB t (trS l P t) = Y at *
        clear hne HI hs1 hs2 htk htk2 htP hm hXl
        go_wp2_with (first
          | (go_at_call 44; refine (hct _ (RR.back hr0 hB)).mono ?_; rintro e w3 ⟨rfl, hx3⟩; replace F := F.below hx3 (BX.lt F); replace hB : BB w _ := BB.next hB hx3; replace hI := IsBuilderF_next hI hx3; replace hs := Nat.lt_of_lt_of_le hs (Below.size hx3))
          | (go_at_call 45; refine (hts _).mono ?_; rintro e w2 ⟨rfl, hx2⟩; replace F := F.below hx2 (BX.lt F); replace hB : BB w _ := BB.next hB hx2; replace hI := IsBuilderF_next hI hx2; replace hs := Nat.lt_of_lt_of_le hs (Below.size hx2)))
        go_roundw
        case rel => exact ⟨t + 1, out, by omega, by go_num, by omega, hI, F, hB, hs, by rw [hm2]; exact HN⟩
        case measure => (simp [intOf] <;> omega)
    · obtain rfl : t = T := by omega
      have HI := HI.out
      rw [Nat.sub_self, imT, List.append_nil] at HI
      have hlti : ¬ (t : Int) < (t : Int) := by omega
      have hos : out.length ≤ 200000 := by omega
      have a5 : wr.cell? ⟨w.heap.size, 5, none⟩ = _ := F.cell 5 (by simp)
      go_wp2_with fail
      clear a5
      go_loopw [7, 39] (fun _ i wr => ∃ (k : Nat) (o2 : List UInt8), k ≤ n.length ∧ i = .int .i64 k ∧ o2.length ≤ 200000 + 1000 * k ∧ Lib.IsBuilderF 79 5 (w.heap.size + 1) (w.heap.size + 1) (Lib.byteCells o2) wr ∧ BX wr w.heap.size 29 [.int .i64 c, .int .i64 h, .int .i64 (P : Int), .int .i64 s, .slice (some ⟨b, off, none⟩) l.length cp, .slice N n.length q] ∧ BB w wr ∧ w.heap.size + 1 < wr.heap.size ∧ Hid (o2 ++ imN (n.drop k) = out ++ imN n)) (fun _ i _ => n.length - (intOf i).toNat)
      case atStart => exact ⟨0, out, Nat.zero_le _, rfl, hos, hI, F, hB, hs, Lib.hid rfl⟩
      case round =>
        clear F hB hI hs
        obtain ⟨k, o2, hk, rfl, hol2, hI, F, hB, hs, HI2⟩ := hrel
        by_cases hlt : k < n.length
        · have hlti : (k : Int) < (n.length : Int) := by omega
          have hx40 := hn40 n[k] (List.getElem_mem hlt)
          have hXl := encB_size 3 n[k]
          have hXb := bytes_len (encB 3 n[k])
          have HN := Lib.hid (iml_note hlt HI2.out)
          have hen := fun W => encodeChunk_any 3 n[k] W (by omega) (by omega)
          generalize encB 3 n[k] = X at *
          obtain ⟨b3, off3, rfl, hbb3, hc⟩ := kr0.at_ fS_len rfl k hlt
          have hc0 := hc 0 _ (by omega) rfl
          clear hc
          simp only [Nat.mul_one, Nat.add_zero] at hc0
          replace hc0 := (hB.cell (p := ⟨b3, off3 + k, none⟩) hbb3).trans hc0
          have hXs : (o2 ++ X.data.toList).length ≤ 200000 + 1000 * (k + 1) := by rw [List.length_append]; omega
          have hlE : (Lib.byteCells o2).length + X.size ≤ 140737488355328 := by rw [Lib.byteCells_length]; omega
          clear HI HI2 hXl hx40 hXb
          generalize n[k] = xk at *
          go_wp2_with (first
            | (go_at_call 42; have con := WriteString_k _ _ _ X _ hI hlE (Nat.le_of_lt hs); (with_reducible refine con.mono ?_); clear con; rintro e w6 ⟨rfl, hI6, hx6, -⟩; replace F := F.below hx6 (Nat.lt_succ_self _); replace hB : BB w _ := BB.tr hB hx6; replace hI : Lib.IsBuilderF _ _ _ _ (Lib.byteCells (o2 ++ X.data.toList)) _ := .inr (by rw [Lib.byteCells_append]; exact hI6); replace hs := Nat.lt_of_lt_of_le hs (Below.size hx6))
            | (go_at_call 27; refine (hen _).mono ?_; rintro e w5 ⟨rfl, hx5⟩; replace F := F.below hx5 (BX.lt F); replace hB : BB w _ := BB.next hB hx5; replace hI := IsBuilderF_next hI hx5; replace hs := Nat.lt_of_lt_of_le hs (Below.size hx5)))
          go_roundw
          case rel => exact ⟨k + 1, o2 ++ X.data.toList, by omega, by go_num, hXs, hI, F, hB, hs, HN⟩
          case measure => (simp [intOf] <;> omega)
        · have hlti : ¬ (k : Int) < (n.length : Int) := by omega
          have hen := fun W => encodeChunk_any 4 ⟨#[]⟩ W (by omega) (by decide)
          have hXl := encB_size 4 ⟨#[]⟩
          have hq : o2 = E1.data.toList ++ imT l P 0 t ++ imN n := (iml_end hlt HI2.out).trans (by rw [HI])
          have HR := Lib.hid (show (⟨(o2 ++ (encB 4 ⟨#[]⟩).data.toList).toArray⟩ : ByteArray) = imG c h (P : Int) s l n by
            rw [HIM.out, hq, List.append_assoc, List.append_assoc])
          have hk0 : (⟨#[]⟩ : ByteArray).size = 0 := rfl
          generalize encB 4 ⟨#[]⟩ = X at *
          have hlE : (Lib.byteCells o2).length + X.size ≤ 140737488355328 := by rw [Lib.byteCells_length]; omega
          clear HI HI2 hXl hq HIM
          go_wp2_with (first
            | (go_at_call 48; have con := Try.Builder_String_any_f _ _ (o2 ++ X.data.toList) _ hI (Nat.le_of_lt hs); (with_reducible refine con.mono ?_); clear con; rintro e w9 ⟨rfl, hI9, hx9⟩; replace hB : BB w _ := BB.tr hB hx9)
            | (go_at_call 42; have con := WriteString_k _ _ _ X _ hI hlE (Nat.le_of_lt hs); (with_reducible refine con.mono ?_); clear con; rintro e w6 ⟨rfl, hI6, hx6, -⟩; replace F := F.below hx6 (Nat.lt_succ_self _); replace hB : BB w _ := BB.tr hB hx6; replace hI : Lib.IsBuilderF _ _ _ _ (Lib.byteCells (o2 ++ X.data.toList)) _ := .inr (by rw [Lib.byteCells_append]; exact hI6); replace hs := Nat.lt_of_lt_of_le hs (Below.size hx6))
            | (go_at_call 27; refine (hen _).mono ?_; rintro e w5 ⟨rfl, hx5⟩; replace F := F.below hx5 (BX.lt F); replace hB : BB w _ := BB.next hB hx5; replace hI := IsBuilderF_next hI hx5; replace hs := Nat.lt_of_lt_of_le hs (Below.size hx5)))
          go_ret
          exact ⟨by rw [← HR.out]; rfl, hB⟩
end Go.Proofs.Ytemppogailpoiaa
namespace Go.Proofs.Ytemppogailpoiaa
set_option linter.unusedVariables false
open Go.RowKit

/-- What EncodeImage returns. -/
def imR (c h p s : Int) (l : List DSector) (n : List ByteArray) : ByteArray := if imB (okD c h p s l) n = true then imG c h p s l n else ⟨#[]⟩
theorem imR_yes {c h p s : Int} {l : List DSector} {n : List ByteArray} (g : imB (okD c h p s l) n = true) : imR c h p s l n = imG c h p s l n := if_pos g
theorem imR_no {c h p s : Int} {l : List DSector} {n : List ByteArray} (g : imB (okD c h p s l) n = false) : imR c h p s l n = ⟨#[]⟩ := if_neg (by rw [g]; decide)
theorem imB_out {d : Bool} {n : List ByteArray} (g : imB d n = true) : d = true ∧ n.length ≤ 8 ∧ ∀ x ∈ n, x.size ≤ 40 := by
  simp only [imB, Bool.and_eq_true, decide_eq_true_eq] at g
  refine ⟨g.1.1, g.1.2, fun x hx => ?_⟩
  have h := List.all_eq_true.1 g.2 x hx
  simp only [noteB, Bool.and_eq_true, decide_eq_true_eq] at h
  exact h.2

set_option maxRecDepth 100000 in
set_option maxHeartbeats 1000000 in
theorem spec_EncodeImage_any (c h p s : Int) (A : Option Addr) (cp : Nat) (l : List DSector) (N : Option Addr) (q : Nat) (n : List ByteArray) (w : World)
    (hr : RR w 2 A l.length (flat fSector l)) (hn : l.length ≤ 1048576) (hok : ∀ x ∈ l, okSector x) (kr : RR w 1 N n.length (flat fS n)) (kn : n.length ≤ 1048576) (hkn : ∀ x ∈ n, x.size ≤ maxLen) :
    Calls Try.prog 14 #[.agg #[.int .i64 c, .int .i64 h, .int .i64 p, .int .i64 s, .slice A l.length cp, .slice N n.length q]] w fun e w' => e = .returned (.string (imR c h p s l n)) ∧ Below w.heap.size w w' := by
  have hd := CP.made w [.int .i64 c, .int .i64 h, .int .i64 p, .int .i64 s, .slice A l.length cp, .slice N n.length q] 29
  have hB : BB w (w.alloc (.cells #[.int .i64 c, .int .i64 h, .int .i64 p, .int .i64 s, .slice A l.length cp, .slice N n.length q] 29)) := (show Below w.heap.size w (w.alloc (.cells #[.int .i64 c, .int .i64 h, .int .i64 p, .int .i64 s, .slice A l.length cp, .slice N n.length q] 29)) from (by with_reducible repeat (first | exact Below.refl _ _ | assumption | refine below_step ?_ (by assumption) | refine Below.drew ?_ | refine below_drewN ?_ _ | refine below_alloc ?_ _ | refine Below.setCell ?_ (by simp; try omega) _)))
  have hq := l13Ok_any w.heap.size c h p s A cp l N q n _ hd ((Rd.below hr hB).more hB.size) hn hok ((Rd.below kr hB).more hB.size) kn hkn
  by_cases g : imB (okD c h p s l) n = true
  · obtain ⟨g1, g2, g3⟩ := imB_out g
    have HR := Lib.hid (imR_yes g)
    rw [g] at hq
    have him := fun W d hrr krr => l13Image_any w.heap.size c h p s A cp l N q n W d hrr krr g1 (okD_st g1) g2 g3
    clear g1 g2 g3 g
    go_enter Try.func14, Try.ntmps14
    go_wp2_with (first
      | (go_at_call 31; refine (him _ d1 ((Rd.below hr hB).more hB.size) ((Rd.below kr hB).more hB.size)).mono ?_; rintro e w2 ⟨rfl, hx2⟩; replace hB : BB w _ := BB.next hB hx2)
      | (go_at_call 22; refine hq.mono ?_; rintro e w1 ⟨rfl, hx1⟩; have d1 := hd.next hx1; replace hB : BB w _ := BB.next hB hx1))
    go_ret
    exact ⟨by rw [HR.out]; rfl, hB⟩
  · have g : imB (okD c h p s l) n = false := by simpa using g
    have HR := Lib.hid (imR_no g)
    rw [g] at hq
    clear g
    go_enter Try.func14, Try.ntmps14
    go_wp2_with (go_at_call 22; refine hq.mono ?_; rintro e w1 ⟨rfl, hx1⟩; replace hB : BB w _ := BB.next hB hx1)
    go_ret
    exact ⟨by rw [HR.out]; rfl, hB⟩

set_option maxRecDepth 100000 in
set_option maxHeartbeats 1000000 in
theorem impl_EncodeImage_any (c h p s : Int) (A : Option Addr) (cp : Nat) (l : List DSector) (N : Option Addr) (q : Nat) (n : List ByteArray) (w : World)
    (hr : RR w 2 A l.length (flat fSector l)) (hn : l.length ≤ 1048576) (hok : ∀ x ∈ l, okSector x) (kr : RR w 1 N n.length (flat fS n)) (kn : n.length ≤ 1048576) (hkn : ∀ x ∈ n, x.size ≤ maxLen) (hcp : l.length ≤ cp) :
    Calls Try.prog 7 #[.agg #[.int .i64 c, .int .i64 h, .int .i64 p, .int .i64 s, .slice A l.length cp, .slice N n.length q]] w fun e w' => e = .returned (.string (imR c h p s l n)) ∧ Below w.heap.size w w' := by
  have hq := fun W hrr krr => impl_ValidImage_any c h p s A cp l N q n W hrr hn hok krr kn hkn
  have hd := CP.made w [.int .i64 c, .int .i64 h, .int .i64 p, .int .i64 s, .slice A l.length cp, .slice N n.length q] 29
  have hB : BB w (w.alloc (.cells #[.int .i64 c, .int .i64 h, .int .i64 p, .int .i64 s, .slice A l.length cp, .slice N n.length q] 29)) := (show Below w.heap.size w (w.alloc (.cells #[.int .i64 c, .int .i64 h, .int .i64 p, .int .i64 s, .slice A l.length cp, .slice N n.length q] 29)) from (by with_reducible repeat (first | exact Below.refl _ _ | assumption | refine below_step ?_ (by assumption) | refine Below.drew ?_ | refine below_drewN ?_ _ | refine below_alloc ?_ _ | refine Below.setCell ?_ (by simp; try omega) _)))
  by_cases g : imB (okD c h p s l) n = true
  · obtain ⟨g1, g2, g3⟩ := imB_out g
    have HR := Lib.hid (imR_yes g)
    rw [g] at hq
    have him := fun W hrr krr => encodeImage_any c h p s A cp l N q n W hrr krr g1 hcp g2 g3
    clear g1 g2 g3 g
    go_enter Try.func7, Try.ntmps7
    go_wp2_with (first
      | (go_at_call 21; refine (him _ ((Rd.below hr hB).more hB.size) ((Rd.below kr hB).more hB.size)).mono ?_; rintro e w2 ⟨rfl, hx2⟩; replace hB : BB w _ := BB.next hB hx2)
      | (go_at_call 20; refine (hq _ ((Rd.below hr hB).more hB.size) ((Rd.below kr hB).more hB.size)).mono ?_; rintro e w1 ⟨rfl, hx1⟩; have d1 := hd.next hx1; have d1_0 : (_ : Option Value) = some (.int .i64 c) := d1 0 (by simp); have d1_1 : (_ : Option Value) = some (.int .i64 h) := d1 1 (by simp); have d1_2 : (_ : Option Value) = some (.int .i64 p) := d1 2 (by simp); have d1_3 : (_ : Option Value) = some (.int .i64 s) := d1 3 (by simp); have d1_4 : (_ : Option Value) = some (.slice A l.length cp) := d1 4 (by simp); have d1_5 : (_ : Option Value) = some (.slice N n.length q) := d1 5 (by simp); replace hB : BB w _ := BB.next hB hx1))
    go_ret
    exact ⟨by rw [HR.out]; rfl, hB⟩
  · have g : imB (okD c h p s l) n = false := by simpa using g
    have HR := Lib.hid (imR_no g)
    rw [g] at hq
    clear g
    go_enter Try.func7, Try.ntmps7
    go_wp2_with (go_at_call 20; refine (hq _ (RR.back hr hB) (RR.back kr hB)).mono ?_; rintro e w1 ⟨rfl, hx1⟩; replace hB : BB w _ := BB.next hB hx1)
    go_ret
    exact ⟨by rw [HR.out]; rfl, hB⟩
theorem own_cap {w : World} {base : Nat} {e : TypeId} {size n c : Nat} {A : Option Addr} {xs : List Value} (h : w.ownsRow base e size (.slice A n c) n xs) : n ≤ c := by
  rcases h.2 with ⟨_, rfl⟩ | ⟨g, cap, cur, hv, _, _, hle, _⟩
  · exact Nat.zero_le _
  · injection hv with _ _ h3
    rw [h3]
    exact hle
end Go.Proofs.Ytemppogailpoiaa
namespace Go.Proofs.Ytemppogailpoiaa
set_option linter.unusedVariables false
open Go.RowKit

section
variable {α : Type}
theorem flat_con (f : α → List Value) (x : α) (l : List α) : flat f (x :: l) = f x ++ flat f l := by simp [flat]
theorem flat_take (f : α → List Value) (size : Nat) (hf : ∀ x, (f x).length = size) : ∀ (l : List α) (q : Nat), flat f (l.take q) = (flat f l).take (q * size)
  | [], q => by simp [flat]
  | x :: l, 0 => by simp [flat]
  | x :: l, q + 1 => by
    have ih := flat_take f size hf l q
    rw [List.take_succ_cons, flat_con, flat_con, ih, Nat.succ_mul, List.take_append, hf, List.take_of_length_le (l := f x) (by rw [hf]; omega), Nat.add_sub_cancel]
theorem flat_drop (f : α → List Value) (size : Nat) (hf : ∀ x, (f x).length = size) : ∀ (l : List α) (q : Nat), flat f (l.drop q) = (flat f l).drop (q * size)
  | [], q => by simp [flat]
  | x :: l, 0 => by simp
  | x :: l, q + 1 => by
    have ih := flat_drop f size hf l q
    rw [List.drop_succ_cons, flat_con, ih, Nat.succ_mul, List.drop_append, hf, List.drop_of_length_le (l := f x) (by rw [hf]; omega), Nat.add_sub_cancel, List.nil_append]
end
/-- A list with another one laid over it. -/
def putT {α : Type} (l : List α) (q : Nat) (ss : List α) : List α := l.take q ++ ss ++ l.drop (q + ss.length)
theorem putT_len {α : Type} {l : List α} {q : Nat} {ss : List α} (h : q + ss.length ≤ l.length) : (putT l q ss).length = l.length := by
  simp only [putT, List.length_append, List.length_take, List.length_drop]
  omega
theorem putT_in {α : Type} {l : List α} {q : Nat} {ss : List α} {p : α → Prop} (h1 : ∀ x ∈ l, p x) (h2 : ∀ x ∈ ss, p x) : ∀ x ∈ putT l q ss, p x := by
  intro x hx
  simp only [putT, List.mem_append] at hx
  rcases hx with (hx | hx) | hx
  · exact h1 x (List.mem_of_mem_take hx)
  · exact h2 x hx
  · exact h1 x (List.mem_of_mem_drop hx)
theorem putT_nil {α : Type} (l : List α) (q : Nat) : putT l q [] = l := by simp [putT]
/-- One more element laid. -/
theorem putT_snoc {α : Type} {l : List α} {q : Nat} {ss : List α} (x : α) (h : q + ss.length < l.length) : (putT l q ss).set (q + ss.length) x = putT l q (ss ++ [x]) := by
  have hq : (l.take q).length = q := by rw [List.length_take]; omega
  unfold putT
  rw [List.set_append_right _ _ (by rw [List.length_append, hq]; omega), List.length_append, hq, Nat.sub_self]
  rw [show q + ss.length = q + ss.length from rfl, List.drop_eq_getElem_cons h, List.set_cons_zero, List.length_append, List.length_singleton]
  simp only [List.append_assoc, List.cons_append, List.nil_append]
  rw [Nat.add_assoc]

section
variable {P : Program} {w : World} {size bytes : Nat} {e : TypeId} {z : Value} {t : TypeId}
theorem run_copy_rowF (E : Elt P t e size bytes z) (sT ty : TypeId) (g o dLen dCap : Nat) (a : Addr) (sLen sCap : Nat) (cur : Array Value) (te : TypeId) (cs : List Value)
    (hg : w.heap[g]? = some (.cells cur te (0, 0))) (n : Nat) (hn : n = Nat.min sLen dLen) (hcs : cs.length = n * size)
    (hsrc : ∀ j v, cs[j]? = some v → w.cell? (a.add j) = some v) (hfit : o + cs.length ≤ cur.size) (h1 : ∀ v ∈ cs, v.oneCell' = true) :
    (Builtin.copy_ #[t, sT] ty #[.slice (some ⟨g, o, none⟩) dLen dCap, .slice (some a) sLen sCap]).run P w =
      .ok (goInt n) (w.setRow g (cur.toList.take o ++ cs ++ cur.toList.drop (o + cs.length)).toArray) := by
  obtain ⟨ht, ⟨i, hi, hz, hsize, hby⟩, hzs, hsz⟩ := E
  have hl := run_loadCells_list (P := P) w a cs hsrc
  have hst := run_storeCells_at P g o te cs 0 cur w hg (by simpa using hfit) h1
  subst hsize
  rw [hcs] at hl
  simp [Builtin.copy_, run_underlying ht, Builtin.lenOf, Builtin.firstCells, sizeOf, typeInfo, hi, ← hn, hl, hst]

theorem own_copy (E : Elt P t e size bytes z) {α : Type} {f : α → List Value} (hf : ∀ x, (f x).length = size) (h1 : ∀ x, ∀ u ∈ f x, u.oneCell' = true)
    {base cap N q p c dcap g b off B : Nat} (l ss : List α) (hl : N = l.length) (hpl : p = ss.length) (hp : 0 < p) (hq : q + p ≤ N)
    (ho : w.ownsRow base e size (.slice (some ⟨g, 0, none⟩) N cap) N (flat f l)) (hr : Rd w B size (some ⟨b, off, none⟩) p (flat f ss)) (sT ty : TypeId) :
    ∃ w', (Builtin.copy_ #[t, sT] ty #[.slice (some ⟨g, q * size, none⟩) p dcap, .slice (some ⟨b, off, none⟩) p c]).run P w = .ok (goInt p) w' ∧
      w'.ownsRow base e size (.slice (some ⟨g, 0, none⟩) N cap) N (flat f (putT l q ss)) ∧ w.grownBy w' (some g) := by
  obtain ⟨ho1, ho2⟩ := ho
  rcases ho2 with ⟨hv, h0⟩ | ⟨g', cap', cur, hv, hb, hh, hnc, hcm, hsz, htk⟩
  · cases hv
  obtain ⟨rfl, rfl⟩ : g = g' ∧ cap = cap' := by
    simp only [Value.slice.injEq, Option.some.injEq, Addr.mk.injEq, and_true, true_and] at hv
    exact hv
  obtain ⟨b', off', he, hbB, hc⟩ := hr.2 hp
  obtain ⟨rfl, rfl⟩ : b = b' ∧ off = off' := by
    simp only [Option.some.injEq, Addr.mk.injEq, and_true] at he
    exact he
  have hcl : (flat f ss).length = p * size := hr.1
  have hN : (q + p) * size ≤ N * size := Nat.mul_le_mul_right _ hq
  have hcap : N * size ≤ cap * size := Nat.mul_le_mul_right _ hnc
  rw [Nat.add_mul] at hN
  have hrun := run_copy_rowF (P := P) (w := w) E sT ty g (q * size) p dcap ⟨b, off, none⟩ p c cur e (flat f ss) hh p (by simp) hcl (fun j v hj => by
      have hlt : j < (flat f ss).length := (List.getElem?_eq_some_iff.1 hj).1
      have h2 := hc j hlt
      have h3 : (⟨b, off, none⟩ : Addr).add j = ⟨b, off + j, none⟩ := by
        unfold Addr.add
        split
        · rename_i h0; rw [h0]; rfl
        · rfl
      rw [h3, h2]
      rw [List.getElem?_eq_getElem hlt] at hj
      exact hj) (by omega) (fun u hu => by
      obtain ⟨x, _, hx⟩ := flat_list f ss u hu
      exact h1 x u hx)
  refine ⟨_, hrun, ⟨?_, .inr ⟨g, cap, _, rfl, hb, setRow_heap w g cur _ e _ hh, hnc, hcm, ?_, ?_⟩⟩, ⟨rfl, rfl, rfl, by simp [World.setRow], fun k _ hk => setRow_other w g k _ (fun e => hk (by rw [e]))⟩⟩
  · rw [flat_length f size hf, putT_len (by omega), hl]
  · simp only [List.size_toArray, List.length_append, List.length_take, List.length_drop, Array.length_toList]
    omega
  · have e1 : flat f (putT l q ss) = (flat f l).take (q * size) ++ flat f ss ++ (flat f l).drop (q * size + (flat f ss).length) := by
      unfold putT
      rw [flat_append, flat_append, flat_take f size hf, flat_drop f size hf, Nat.add_mul, hcl, hpl]
    rw [e1, ← htk]
    simp only [List.take_append, List.length_append, List.length_take, Array.length_toList, List.take_take]
    rw [show min (q * size) (N * size) = q * size by omega, show min (N * size) (q * size) = q * size by omega, show min (q * size) cur.size = q * size by omega]
    rw [List.take_of_length_le (l := flat f ss) (by omega), List.drop_take]

theorem wpList_copyF {ops : Array Oper} {rest : List Oper} {o : Oper} {a : Act} {Q : Exit → Act → World → Prop} (hgd : o.guard = none) (d s : Operand) (sT : TypeId)
    (ho : o.op = .call { callee := .builtin .copy, args := #[d, s], argTypes := #[t, sT] }) (E : Elt P t e size bytes z) {α : Type} {f : α → List Value} (hf : ∀ x, (f x).length = size) (h1 : ∀ x, ∀ u ∈ f x, u.oneCell' = true)
    {base cap N q p c dcap g b off B : Nat} (l ss : List α) (hl : N = l.length) (hpl : p = ss.length) (hp : 0 < p) (hq : q + p ≤ N)
    (hd : a.eval d = .slice (some ⟨g, q * size, none⟩) p dcap) (hs : a.eval s = .slice (some ⟨b, off, none⟩) p c)
    (hown : w.ownsRow base e size (.slice (some ⟨g, 0, none⟩) N cap) N (flat f l)) (hr : Rd w B size (some ⟨b, off, none⟩) p (flat f ss))
    (h : ∀ w', w'.ownsRow base e size (.slice (some ⟨g, 0, none⟩) N cap) N (flat f (putT l q ss)) → w.grownBy w' (some g) → wpList P ops Q rest (a.put o.dst (goInt p)) w') :
    wpList P ops Q (o :: rest) a w := by
  refine wpList_plain hgd fun K hK => ?_
  obtain ⟨w', hrun, h2, h3⟩ := own_copy (P := P) (w := w) (dcap := dcap) (c := c) E hf h1 l ss hl hpl hp hq hown hr sT o.type
  unfold Oper.wp
  simp only [execOp, ho, resolve, invoke, builtin, Sem.run_bind, Sem.run_pure, Result.andThen_ok, List.map_toArray, List.map_cons, List.map_nil, hd, hs, hrun]
  exact hK _ _ (h w' h2 h3)
theorem step_copyF {ops : Array Oper} {o : Oper} {a : Act} {K : Act → World → Prop} {Q : Exit → Act → World → Prop} {E0 : Prop} (hgd : o.guard = none) (d s : Operand) (sT : TypeId)
    (ho : o.op = .call { callee := .builtin .copy, args := #[d, s], argTypes := #[t, sT] }) (E : Elt P t e size bytes z) {α : Type} {f : α → List Value} (hf : ∀ x, (f x).length = size) (h1 : ∀ x, ∀ u ∈ f x, u.oneCell' = true)
    {base cap N q p c dcap g b off B : Nat} (l ss : List α) (hl : N = l.length) (hpl : p = ss.length) (hp : 0 < p) (hq : q + p ≤ N)
    (hd : a.eval d = .slice (some ⟨g, q * size, none⟩) p dcap) (hs : a.eval s = .slice (some ⟨b, off, none⟩) p c)
    (hown : w.ownsRow base e size (.slice (some ⟨g, 0, none⟩) N cap) N (flat f l)) (hr : Rd w B size (some ⟨b, off, none⟩) p (flat f ss))
    (h : ∀ w', w'.ownsRow base e size (.slice (some ⟨g, 0, none⟩) N cap) N (flat f (putT l q ss)) → w.grownBy w' (some g) → K (a.put o.dst (goInt p)) w') :
    if Region.wanted o (yielded ops a.tmps) = true then Oper.wp P o a w K Q else E0 := by
  have hw : Region.wanted o (yielded ops a.tmps) = true := by simp [Region.wanted, hgd]
  rw [if_pos hw]
  obtain ⟨w', hrun, h2, h3⟩ := own_copy (P := P) (w := w) (dcap := dcap) (c := c) E hf h1 l ss hl hpl hp hq hown hr sT o.type
  unfold Oper.wp
  simp only [execOp, ho, resolve, invoke, builtin, Sem.run_bind, Sem.run_pure, Result.andThen_ok, List.map_toArray, List.map_cons, List.map_nil, hd, hs, hrun]
  exact h w' h2 h3
end
end Go.Proofs.Ytemppogailpoiaa
namespace Go.Proofs.Ytemppogailpoiaa
set_option linter.unusedVariables false
open Go.RowKit

/-- A sector of the plain bytes of a track. -/
def secAt (Z : ByteArray) (nb k : Nat) : DSector := ⟨Z.extract (k * (nb + 1) + 1) (k * (nb + 1) + (nb + 1)), (bt Z (k * (nb + 1)) : Int)⟩
def secs (Z : ByteArray) (nb P : Nat) : List DSector := (List.range P).map (secAt Z nb)
theorem secs_len (Z : ByteArray) (nb P : Nat) : (secs Z nb P).length = P := by simp [secs]
theorem secs_snoc (Z : ByteArray) (nb P : Nat) : secs Z nb (P + 1) = secs Z nb P ++ [secAt Z nb P] := by simp [secs, List.range_succ]
theorem secs_get (Z : ByteArray) (nb P k : Nat) (h : k < (secs Z nb P).length) : (secs Z nb P)[k] = secAt Z nb k := by simp [secs]
/-- The sectors of a track's data, if they are as described. -/
def trk (T P nb : Nat) (s : Int) (d : ByteArray) : Option (List DSector) :=
  if d.size = 0 then none else if T ≤ bt d 0 then none else
  match unp (d.extract 1 d.size) with
  | none => none
  | some l => if l.length = (nb + 1) * P ∧ (secs ⟨l.toArray⟩ nb P).all (secX s) = true then some (secs ⟨l.toArray⟩ nb P) else none
section
variable {T P nb : Nat} {s : Int} {d : ByteArray}
theorem trk_0 (h : d.size = 0) : trk T P nb s d = none := by simp [trk, h]
theorem trk_1 (h0 : ¬ d.size = 0) (h : T ≤ bt d 0) : trk T P nb s d = none := by simp [trk, h0, h]
theorem trk_2 (h0 : ¬ d.size = 0) (h : ¬ T ≤ bt d 0) (h2 : unp (d.extract 1 d.size) = none) : trk T P nb s d = none := by
  unfold trk
  rw [if_neg h0, if_neg h, h2]
theorem trk_3 (h0 : ¬ d.size = 0) (h : ¬ T ≤ bt d 0) {l : List UInt8} (h2 : unp (d.extract 1 d.size) = some l) (h3 : ¬ l.length = (nb + 1) * P) : trk T P nb s d = none := by
  unfold trk
  rw [if_neg h0, if_neg h, h2]
  simp only
  rw [if_neg (fun x => h3 x.1)]
theorem trk_4 (h0 : ¬ d.size = 0) (h : ¬ T ≤ bt d 0) {l : List UInt8} (h2 : unp (d.extract 1 d.size) = some l) {k : Nat} (hk : k < P) (h3 : secX s (secAt ⟨l.toArray⟩ nb k) = false) : trk T P nb s d = none := by
  unfold trk
  rw [if_neg h0, if_neg h, h2]
  simp only
  rw [if_neg]
  rintro ⟨_, x⟩
  rw [List.all_eq_true] at x
  have := x (secAt ⟨l.toArray⟩ nb k) (by simp only [secs, List.mem_map, List.mem_range]; exact ⟨k, hk, rfl⟩)
  rw [h3] at this
  cases this
theorem trk_5 (h0 : ¬ d.size = 0) (h : ¬ T ≤ bt d 0) {l : List UInt8} (h2 : unp (d.extract 1 d.size) = some l) (h3 : l.length = (nb + 1) * P) (h4 : ∀ k, k < P → secX s (secAt ⟨l.toArray⟩ nb k) = true) : trk T P nb s d = some (secs ⟨l.toArray⟩ nb P) := by
  unfold trk
  rw [if_neg h0, if_neg h, h2]
  simp only
  rw [if_pos]
  refine ⟨h3, ?_⟩
  rw [List.all_eq_true]
  intro x hx
  simp only [secs, List.mem_map, List.mem_range] at hx
  obtain ⟨k, hk, rfl⟩ := hx
  exact h4 k hk
theorem trk_in {ss : List DSector} (h : trk T P nb s d = some ss) : ss.length = P ∧ ¬ d.size = 0 ∧ bt d 0 < T ∧ ∀ x ∈ ss, secX s x = true := by
  unfold trk at h
  split at h
  · cases h
  · split at h
    · cases h
    · split at h
      · cases h
      · split at h
        · rename_i h0 h1 _ _ _ h2
          cases h
          refine ⟨secs_len _ _ _, h0, by omega, ?_⟩
          exact List.all_eq_true.1 h2.2
        · cases h
end
/-- What a track's data make of the sectors. -/
def rtL (T P nb : Nat) (s : Int) (l : List DSector) (d : ByteArray) : List DSector := match trk T P nb s d with | some ss => putT l (bt d 0 * P) ss | none => l
theorem rtL_no {T P nb : Nat} {s : Int} {l : List DSector} {d : ByteArray} (h : trk T P nb s d = none) : rtL T P nb s l d = l := by simp [rtL, h]
theorem rtL_yes {T P nb : Nat} {s : Int} {l ss : List DSector} {d : ByteArray} (h : trk T P nb s d = some ss) : rtL T P nb s l d = putT l (bt d 0 * P) ss := by simp [rtL, h]
/-- What a chunk makes of the sectors. -/
def entL (T P nb : Nat) (s : Int) (l : List DSector) (x : DChunk) : List DSector := if x.f0 = 2 then rtL T P nb s l x.f1 else l
/-- What a chunk makes of the notes. -/
def entN (n : List ByteArray) (x : DChunk) : List ByteArray := if x.f0 = 3 ∧ noteB x.f1 = true ∧ n.length < 8 then n ++ [x.f1] else n
/-- Whether a chunk may stand where it stands. -/
def entB (T P nb : Nat) (s : Int) (n : List ByteArray) (x : DChunk) : Bool :=
  if x.f0 = 3 then noteB x.f1 && decide (n.length < 8) else decide (x.f0 = 2) && (trk T P nb s x.f1).isSome
section
variable {T P nb : Nat} {s : Int} {l : List DSector} {n : List ByteArray} {k : Int} {d : ByteArray}
theorem entL_no (h : ¬ k = 2) : entL T P nb s l ⟨k, d⟩ = l := by simp [entL, h]
theorem entL_yes (hk : k = 2) : entL T P nb s l ⟨k, d⟩ = rtL T P nb s l d := by simp [entL, hk]
theorem entN_no (h : ¬ k = 3) : entN n ⟨k, d⟩ = n := by simp [entN, h]
theorem entN_bad (h : noteB d = false) : entN n ⟨k, d⟩ = n := by simp [entN, h]
theorem entN_full (h : ¬ n.length < 8) : entN n ⟨k, d⟩ = n := by simp [entN, h]
theorem entN_yes (hk : k = 3) (h : noteB d = true) (h8 : n.length < 8) : entN n ⟨k, d⟩ = n ++ [d] := by simp [entN, h, hk, h8]
theorem rtL_in (h : ∀ x ∈ l, secX s x = true) (d : ByteArray) : ∀ y ∈ rtL T P nb s l d, secX s y = true := by
  unfold rtL
  split
  · rename_i ss hs
    exact putT_in h (trk_in hs).2.2.2
  · exact h
theorem rtL_len (hl : l.length = T * P) (d : ByteArray) : (rtL T P nb s l d).length = T * P := by
  unfold rtL
  split
  · rename_i ss hs
    obtain ⟨h1, h2, h3, h4⟩ := trk_in hs
    rw [putT_len, hl]
    rw [h1, hl, ← Nat.succ_mul]
    exact Nat.mul_le_mul_right P h3
  · exact hl
theorem entL_in (h : ∀ x ∈ l, secX s x = true) (x : DChunk) : ∀ y ∈ entL T P nb s l x, secX s y = true := by
  unfold entL
  split
  · exact rtL_in h _
  · exact h
theorem entL_len (hl : l.length = T * P) (x : DChunk) : (entL T P nb s l x).length = T * P := by
  unfold entL
  split
  · exact rtL_len hl _
  · exact hl
theorem entN_len (h : n.length ≤ 8) (x : DChunk) : (entN n x).length ≤ 8 := by
  unfold entN
  split
  · rw [List.length_append]
    simp only [List.length_singleton]
    omega
  · exact h
theorem entN_in (h : ∀ x ∈ n, noteB x = true) (x : DChunk) : ∀ y ∈ entN n x, noteB y = true := by
  unfold entN
  split
  · rename_i h1
    intro y hy
    rcases List.mem_append.1 hy with hy | hy
    · exact h y hy
    · rw [List.mem_singleton] at hy
      rw [hy]
      exact h1.2.1
  · exact h
end
theorem noteB_size {s : ByteArray} (h : noteB s = true) : 1 ≤ s.size ∧ s.size ≤ 40 := by
  simp only [noteB, Bool.and_eq_true, decide_eq_true_eq] at h
  exact ⟨h.1.2, h.2⟩
end Go.Proofs.Ytemppogailpoiaa
namespace Go.Proofs.Ytemppogailpoiaa
set_option linter.unusedVariables false
open Go.RowKit

def wd (t : ByteArray) (k : Nat) : Nat := bt t k * 256 + bt t (k + 1)
theorem wd_lt (t : ByteArray) (k : Nat) : wd t k < 65536 := by have := bt_lt t k; have := bt_lt t (k + 1); unfold wd; omega
theorem wd_or (a b : Nat) (hb : b < 256) : a * 256 ||| b = a * 256 + b := by
  have := Nat.shiftLeft_add_eq_or_of_lt (i := 8) (b := b) (by omega) a
  rw [Nat.shiftLeft_eq] at this
  exact this.symm
def dc (t : ByteArray) : Option (Nat × ByteArray × Nat) :=
  if t.size < 5 then none
  else if wd t 1 ≤ 8192 ∧ wd t 1 + 5 ≤ t.size then
    if okChunk (bt t 0 : Int) (t.extract 3 (wd t 1 + 3)) = true ∧ crcOf (t.extract 0 (wd t 1 + 3)) 65535 = wd t (wd t 1 + 3) then some (bt t 0, t.extract 3 (wd t 1 + 3), wd t 1 + 5) else none
  else none
theorem dc_1 {t : ByteArray} (h : t.size < 5) : dc t = none := if_pos h
theorem dc_2 {t : ByteArray} {n : Nat} (hn : wd t 1 = n) (h2 : ¬ (n ≤ 8192 ∧ n + 5 ≤ t.size)) : dc t = none := by
  subst hn
  unfold dc
  split
  · rfl
  · first | rfl | rw [if_neg h2]
theorem dc_3 {t : ByteArray} {n : Nat} (hn : wd t 1 = n) (h3 : ¬ (okChunk (bt t 0 : Int) (t.extract 3 (n + 3)) = true ∧ crcOf (t.extract 0 (n + 3)) 65535 = wd t (n + 3))) : dc t = none := by
  subst hn
  unfold dc
  split
  · rfl
  · split
    · first | rfl | rw [if_neg h3]
    · rfl
theorem dc_4 {t : ByteArray} {n : Nat} (hn : wd t 1 = n) (h : ¬ t.size < 5) (h2 : n ≤ 8192 ∧ n + 5 ≤ t.size) (h3 : okChunk (bt t 0 : Int) (t.extract 3 (n + 3)) = true ∧ crcOf (t.extract 0 (n + 3)) 65535 = wd t (n + 3)) : dc t = some (bt t 0, t.extract 3 (n + 3), n + 5) := by
  subst hn
  rw [dc, if_neg h, if_pos h2, if_pos h3]
theorem ext_size (s : ByteArray) (a : Nat) : (s.extract a s.size).size = s.size - a := by rw [ByteArray.size_extract]; omega
theorem ext_bt (s : ByteArray) (a k : Nat) (h : a + k < s.size) : bt (s.extract a s.size) k = bt s (a + k) := by
  have h1 : k < (s.extract a s.size).size := by rw [ext_size]; omega
  rw [← bt_eq _ k h1, ← bt_eq s (a + k) h]
  rw [ByteArray.getElem_extract]
theorem ext_ext (s : ByteArray) (a b c : Nat) (h : a + c ≤ s.size) : (s.extract a s.size).extract b c = s.extract (a + b) (a + c) := by
  rw [ByteArray.extract_extract]
  congr 1
  omega
/-- The chunk at a place. -/
def dcAt (s : ByteArray) (a : Nat) : Option (Nat × ByteArray × Nat) := dc (s.extract a s.size)
theorem dcAt_1 {s : ByteArray} {a : Nat} (h : s.size < a + 5) : dcAt s a = none := dc_1 (by rw [ext_size]; omega)
theorem ext_wd (s : ByteArray) (a k : Nat) (h : a + k + 1 < s.size) : wd (s.extract a s.size) k = wd s (a + k) := by
  unfold wd
  rw [ext_bt s a k (by omega), ext_bt s a (k + 1) (by omega)]
  rfl
theorem dcAt_2 {s : ByteArray} {a n : Nat} (h : a + 5 ≤ s.size) (hn : wd s (a + 1) = n) (h2 : ¬ (n ≤ 8192 ∧ a + 3 + n + 2 ≤ s.size)) : dcAt s a = none :=
  dc_2 (n := n) (by rw [ext_wd s a 1 (by omega)]; exact hn) (by rw [ext_size]; omega)
theorem dcAt_3 {s : ByteArray} {a n : Nat} (h : a + 5 ≤ s.size) (hn : wd s (a + 1) = n) (h2 : a + 3 + n + 2 ≤ s.size) (h3 : ¬ (okChunk (bt s a : Int) (s.extract (a + 3) (a + 3 + n)) = true ∧ crcOf (s.extract a (a + 3 + n)) 65535 = wd s (a + 3 + n))) : dcAt s a = none := by
  refine dc_3 (n := n) (by rw [ext_wd s a 1 (by omega)]; exact hn) ?_
  rw [ext_bt s a 0 (by omega), ext_ext s a 3 (n + 3) (by omega), ext_ext s a 0 (n + 3) (by omega), ext_wd s a (n + 3) (by omega)]
  rw [show a + (n + 3) = a + 3 + n by omega]
  exact h3
theorem dcAt_4 {s : ByteArray} {a n : Nat} (h : a + 5 ≤ s.size) (hn : wd s (a + 1) = n) (h1 : n ≤ 8192) (h2 : a + 3 + n + 2 ≤ s.size) (h3 : okChunk (bt s a : Int) (s.extract (a + 3) (a + 3 + n)) = true ∧ crcOf (s.extract a (a + 3 + n)) 65535 = wd s (a + 3 + n)) : dcAt s a = some (bt s a, s.extract (a + 3) (a + 3 + n), n + 5) := by
  have := dc_4 (t := s.extract a s.size) (n := n) (by rw [ext_wd s a 1 (by omega)]; exact hn) (by rw [ext_size]; omega) (by rw [ext_size]; omega) (by
    rw [ext_bt s a 0 (by omega), ext_ext s a 3 (n + 3) (by omega), ext_ext s a 0 (n + 3) (by omega), ext_wd s a (n + 3) (by omega)]
    rw [show a + (n + 3) = a + 3 + n by omega]
    exact h3)
  rw [ext_bt s a 0 (by omega), ext_ext s a 3 (n + 3) (by omega), show a + (n + 3) = a + 3 + n by omega] at this
  exact this
end Go.Proofs.Ytemppogailpoiaa
namespace Go.Proofs.Ytemppogailpoiaa
set_option linter.unusedVariables false
open Go.RowKit

theorem or_word (a b : Nat) (ha : a < 256) (hb : b < 256) : bits .or .i64 ((a : Int) * 256) (b : Int) = ((a * 256 + b : Nat) : Int) := by
  have := i64_or_nat (a * 256) b (by omega) (by omega)
  rw [wd_or a b hb] at this
  rw [← this]
  congr 1

set_option maxHeartbeats 400000 in
theorem l01Get_any (s : ByteArray) (k : Nat) (w : World) (hs : s.size ≤ 1048576) (hk : k + 1 < s.size) :
    Calls Try.prog 66 #[.string s, .int .i64 (k : Int)] w fun e w' => e = .returned (.int .i64 ((wd s k : Nat) : Int)) ∧ ∃ n, w' = w.drewN n := by
  have e0 := bt_eq s k (by omega)
  have e1 := bt_eq s (k + 1) hk
  have b0 := bt_lt s k
  have b1 := bt_lt s (k + 1)
  have hw : ((wd s k : Nat) : Int) = (bt s k : Int) * 256 + (bt s (k + 1) : Int) := by unfold wd; omega
  have HW := Lib.hid hw
  clear hw
  go_enter Try.func66, Try.ntmps66
  go_wp2_with fail
  go_quiet (fail)
  go_wp2
  go_ret
  exact ⟨ret_int (by rw [HW.out]), _, rfl⟩

set_option maxHeartbeats 400000 in
theorem GetWord_no (s : ByteArray) (w : World) (hs : s.size ≤ 1048576) (hk : s.size < 3) :
    Calls Try.prog 52 #[.string s, .int .i64 1] w fun e w' => e = .returned (.tuple #[.int .i64 0, .bool false]) ∧ ∃ n, w' = w.drewN n := by
  have hi : inB 1 0 ((s.size : Int) - 2) = false := by unfold inB; simp; omega
  go_enter Try.func52, Try.ntmps52
  go_wp2_with (go_at_call 54; refine (within_any _ _ _ _).mono ?_; rintro e w1 ⟨rfl, rfl⟩; rw [hi])
  go_ret2
  exact ⟨rfl, 0, rfl⟩
set_option maxHeartbeats 400000 in
theorem GetWord_yes (s : ByteArray) (w : World) (hs : s.size ≤ 1048576) (hk : ¬ s.size < 3) :
    Calls Try.prog 52 #[.string s, .int .i64 1] w fun e w' => e = .returned (.tuple #[.int .i64 ((wd s 1 : Nat) : Int), .bool true]) ∧ ∃ n, w' = w.drewN n := by
  have hi : inB 1 0 ((s.size : Int) - 2) = true := by unfold inB; simp; omega
  have e0 := bt_eq s 1 (by omega)
  have e1 := bt_eq s 2 (by omega)
  have b0 := bt_lt s 1
  have b1 := bt_lt s 2
  have ho := or_word (bt s 1) (bt s 2) b0 b1
  have hw : wd s 1 = bt s 1 * 256 + bt s 2 := rfl
  have HW := Lib.hid hw
  clear hw
  go_enter Try.func52, Try.ntmps52
  go_wp2_with (go_at_call 54; refine (within_any _ _ _ _).mono ?_; rintro e w1 ⟨rfl, rfl⟩; rw [hi])
  go_quiet (fail)
  go_wp2
  go_ret2
  exact ⟨by rw [HW.out]; rfl, _, rfl⟩
end Go.Proofs.Ytemppogailpoiaa
namespace Go.Proofs.Ytemppogailpoiaa
set_option linter.unusedVariables false
open Go.RowKit

theorem CP.made1d (w : World) (o : Obj) (k : Nat) (vs : List Value) (t : TypeId) : CP (((w.alloc o).drewN k).alloc (.cells vs.toArray t)) (w.heap.size + 1) vs := by
  have := CP.made ((w.alloc o).drewN k) vs t
  rwa [show ((w.alloc o).drewN k).heap.size = w.heap.size + 1 from World.size_alloc w o] at this
def rDc (r : Option (Nat × ByteArray × Nat)) : Ending :=
  match r with
  | none => .returned (.tuple #[.agg #[.int .i64 0, .string ⟨#[]⟩], .int .i64 0, .bool false])
  | some (k, d, m) => .returned (.tuple #[.agg #[.int .i64 k, .string d], .int .i64 m, .bool true])

set_option maxRecDepth 100000 in
set_option maxHeartbeats 1000000 in
theorem decodeChunk_any (s : ByteArray) (w : World) (hs : s.size ≤ 1048576) :
    Calls Try.prog 25 #[.string s] w fun e w' => e = rDc (dc s) ∧ Below w.heap.size w w' := by
  by_cases h3 : s.size < 3
  · have HR := Lib.hid (dc_1 (t := s) (by omega))
    go_enter Try.func25, Try.ntmps25
    go_wp2_with (go_at_call 52; refine (GetWord_no s _ hs h3).mono ?_; rintro e w1 ⟨rfl, k, rfl⟩)
    exact bodyPost_ret (v := .tuple #[.agg #[.int .i64 0, .string ⟨#[]⟩], .int .i64 0, .bool false]) (by simp [results, Try.results25, go_sem]) rfl ⟨by rw [HR.out]; rfl, (by with_reducible repeat (first | exact Below.refl _ _ | assumption | refine below_step ?_ (by assumption) | refine Below.drew ?_ | refine below_drewN ?_ _ | refine below_alloc ?_ _ | refine Below.setCell ?_ (by simp; try omega) _))⟩
  have hgw := fun W => GetWord_yes s W hs h3
  obtain ⟨n, hn⟩ : ∃ n, wd s 1 = n := ⟨_, rfl⟩
  have hn2 := wd_lt s 1
  rw [hn] at hgw hn2
  by_cases h8 : ¬ (n ≤ 8192 ∧ n + 5 ≤ s.size)
  · have HR := Lib.hid (dc_2 hn h8)
    clear hn
    by_cases h81 : 8192 < n
    · have g : (8192 : Int) < (n : Int) := by omega
      go_enter Try.func25, Try.ntmps25
      go_wp2_with (go_at_call 52; refine (hgw _).mono ?_; rintro e w1 ⟨rfl, k, rfl⟩)
      exact bodyPost_ret (v := .tuple #[.agg #[.int .i64 0, .string ⟨#[]⟩], .int .i64 0, .bool false]) (by simp [results, Try.results25, go_sem]) rfl ⟨by rw [HR.out]; rfl, (by with_reducible repeat (first | exact Below.refl _ _ | assumption | refine below_step ?_ (by assumption) | refine Below.drew ?_ | refine below_drewN ?_ _ | refine below_alloc ?_ _ | refine Below.setCell ?_ (by simp; try omega) _))⟩
    · have g : (n : Int) ≤ 8192 := by omega
      have g2 : (s.size : Int) < (n : Int) + 5 := by omega
      clear h8
      go_enter Try.func25, Try.ntmps25
      go_wp2_with (go_at_call 52; refine (hgw _).mono ?_; rintro e w1 ⟨rfl, k, rfl⟩)
      exact bodyPost_ret (v := .tuple #[.agg #[.int .i64 0, .string ⟨#[]⟩], .int .i64 0, .bool false]) (by simp [results, Try.results25, go_sem]) rfl ⟨by rw [HR.out]; rfl, (by with_reducible repeat (first | exact Below.refl _ _ | assumption | refine below_step ?_ (by assumption) | refine Below.drew ?_ | refine below_drewN ?_ _ | refine below_alloc ?_ _ | refine Below.setCell ?_ (by simp; try omega) _))⟩
  · obtain ⟨h81, h82⟩ : n ≤ 8192 ∧ n + 5 ≤ s.size := by omega
    clear h8
    have HN := Lib.hid hn
    clear hn
    have e0 := bt_eq s 0 (by omega)
    have b0 := bt_lt s 0
    obtain ⟨e, he⟩ : ∃ e : Nat, e = n + 3 := ⟨_, rfl⟩
    obtain ⟨e', he'⟩ : ∃ e' : Nat, e' = n + 4 := ⟨_, rfl⟩
    have f3 : IntKind.i64.wrap (3 + (n : Int)) = (e : Int) := by subst he; exact (IntWalk.i64_in _ (by omega)).trans (by omega)
    have f4 : IntKind.i64.wrap ((n : Int) + 3) = (e : Int) := by subst he; exact (IntWalk.i64_in _ (by omega)).trans (by omega)
    have f5 : IntKind.i64.wrap ((n : Int) + 4) = (e' : Int) := by subst he'; exact (IntWalk.i64_in _ (by omega)).trans (by omega)
    have f8 : IntKind.i64.wrap ((bt s 0 : Nat) : Int) = ((bt s 0 : Nat) : Int) := IntWalk.i64_in _ (by omega)
    have f0 : (0 : Int) ≤ (e : Int) := by omega
    have f1 : (3 : Int) ≤ (e : Int) := by omega
    have f2 : (e : Int) ≤ (s.size : Int) := by omega
    have f6 : e < s.size := by omega
    have f7 : e' < s.size := by omega
    have HE := Lib.hid he
    have HE' := Lib.hid he'
    clear he he'
    have hes : (s.extract 3 e).size ≤ maxLen := by rw [ByteArray.size_extract]; unfold maxLen; omega
    have hvc := fun W => impl_ValidChunk_any (bt s 0 : Int) (s.extract 3 e) W hes
    have hcc := fun W => crc16_any (s.extract 0 e) 65535 W (by rw [ByteArray.size_extract]; omega) (by omega)
    have e1 := bt_eq s e f6
    have e2 := bt_eq s e' f7
    have b1 := bt_lt s e
    have b2 := bt_lt s e'
    have ho := or_word (bt s e) (bt s e') b1 b2
    have hwd : bt s e * 256 + bt s e' = wd s e := by unfold wd; rw [show e' = e + 1 by have := HE.out; have := HE'.out; omega]
    rw [hwd] at ho
    have hw2 := wd_lt s e
    have HW := Lib.hid hwd
    clear hwd
    have HD3 := Lib.hid (fun (h5 : ¬ (okChunk (bt s 0 : Int) (s.extract 3 e) = true ∧ crcOf (s.extract 0 e) 65535 = wd s e)) => dc_3 (t := s) (n := n) HN.out (by rw [← HE.out]; exact h5))
    have HD4 := Lib.hid (fun (h5 : okChunk (bt s 0 : Int) (s.extract 3 e) = true ∧ crcOf (s.extract 0 e) 65535 = wd s e) => dc_4 (t := s) HN.out (by omega) ⟨h81, h82⟩ (by rw [← HE.out]; exact h5))
    cases hok : okChunk (bt s 0 : Int) (s.extract 3 e)
    · have HR := Lib.hid (HD3.out (fun h => by rw [hok] at h; cases h.1))
      rw [hok] at hvc
      go_enter Try.func25, Try.ntmps25
      go_wp2_with (go_at_call 52; refine (hgw _).mono ?_; rintro e w1 ⟨rfl, k, rfl⟩)
      go_region_held3 (fun W => Below w.heap.size w W) (first | exact (by with_reducible repeat (first | exact Below.refl _ _ | assumption | refine below_step ?_ (by assumption) | refine Below.drew ?_ | refine below_drewN ?_ _ | refine below_alloc ?_ _ | refine Below.setCell ?_ (by simp; try omega) _))) (fail)
      all_goals
        have D2 := ((CP.made w [.int .i64 0, .string ⟨#[]⟩] 41).dn (k + 1)).al (Obj.cells #[Value.int IntKind.i64 ((bt s 0 : Nat) : Int), Value.string (s.extract 3 e)] 41)
        have D7 := CP.made1d w (.cells #[.int .i64 0, .string ⟨#[]⟩] 41) (k + 1) [.int .i64 ((bt s 0 : Nat) : Int), .string (s.extract 3 e)] 41
        have hB : BB w (((w.alloc (Obj.cells #[Value.int IntKind.i64 0, Value.string ⟨#[]⟩] 41)).drewN (k + 1)).alloc (Obj.cells #[Value.int IntKind.i64 ((bt s 0 : Nat) : Int), Value.string (s.extract 3 e)] 41)) := show Below w.heap.size w _ from (by with_reducible repeat (first | exact Below.refl _ _ | assumption | refine below_step ?_ (by assumption) | refine Below.drew ?_ | refine below_drewN ?_ _ | refine below_alloc ?_ _ | refine Below.setCell ?_ (by simp; try omega) _))
        have F2 : ∀ j, (((w.alloc (Obj.cells #[Value.int IntKind.i64 0, Value.string ⟨#[]⟩] 41)).drewN (k + 1)).alloc (Obj.cells #[Value.int IntKind.i64 ((bt s 0 : Nat) : Int), Value.string (s.extract 3 e)] 41)).frozen? ⟨w.heap.size, j, none⟩ = false := by intro j; simp [go_sem]
        generalize (((w.alloc (Obj.cells #[Value.int IntKind.i64 0, Value.string ⟨#[]⟩] 41)).drewN (k + 1)).alloc (Obj.cells #[Value.int IntKind.i64 ((bt s 0 : Nat) : Int), Value.string (s.extract 3 e)] 41)) = wb at *
        have q0 : (_ : Option Value) = some (.int .i64 ((bt s 0 : Nat) : Int)) := D7 0 (by simp)
        have q1 : (_ : Option Value) = some (.string (s.extract 3 e)) := D7 1 (by simp)
        have G2 := D2
        have k0 := gw_cell q0
        have k1 := gw_cell q1
        have hvq := fun (p' : Regrown) => qb_below p' (hvc (Sort.grow (redrawn wb p'.d) p'.os))
        go_wp2_with fail
        refine wp_region_quiet_below (by kernel_rfl) (by kernel_rfl) ?_
        repeat (go_big_quiet_step ((with_reducible exact hvq _)))
        refine wpQuiet_nil ?_
        intro _ hw'
        obtain ⟨pq, hw''⟩ := hw'
        subst hw''
        have hx := gw_below wb pq
        generalize Sort.grow (redrawn wb pq.d) pq.os = w2 at hx ⊢
        replace D2 := D2.next hx
        replace D7 := D7.next hx
        replace hB := hB.next hx
        have z0 : (_ : Option Value) = some (.int .i64 0) := D2 0 (by simp)
        have z1 : (_ : Option Value) = some (.string ⟨#[]⟩) := D2 1 (by simp)
        have y0 : (_ : Option Value) = some (.int .i64 ((bt s 0 : Nat) : Int)) := D7 0 (by simp)
        have y1 : (_ : Option Value) = some (.string (s.extract 3 e)) := D7 1 (by simp)
        have F3 : ∀ j, w2.frozen? ⟨w.heap.size, j, none⟩ = false := fun j => (hx.frozen (p := ⟨w.heap.size, j, none⟩) (by have := hx.size; exact (cell_spot (G2 0 (by simp))).2)).trans (F2 j)
        go_wp2
        exact bodyPost_ret (v := .tuple #[.agg #[.int .i64 0, .string ⟨#[]⟩], .int .i64 0, .bool false]) (by simp [results, Try.results25, go_sem, World.cell?_setCell_other, z0, z1]) rfl ⟨by rw [HR.out]; rfl, Below.setCell (Below.setCell hB (Nat.le_refl _) _) (Nat.le_refl _) _⟩
    rw [hok] at hvc
    by_cases hcr : crcOf (s.extract 0 e) 65535 = wd s e
    · have HR := Lib.hid (HD4.out ⟨hok, hcr⟩)
      rw [hcr] at hcc
      clear hcr
      go_enter Try.func25, Try.ntmps25
      go_wp2_with (go_at_call 52; refine (hgw _).mono ?_; rintro e w1 ⟨rfl, k, rfl⟩)
      go_region_held3 (fun W => Below w.heap.size w W) (first | exact (by with_reducible repeat (first | exact Below.refl _ _ | assumption | refine below_step ?_ (by assumption) | refine Below.drew ?_ | refine below_drewN ?_ _ | refine below_alloc ?_ _ | refine Below.setCell ?_ (by simp; try omega) _))) (fail)
      all_goals
        have D2 := ((CP.made w [.int .i64 0, .string ⟨#[]⟩] 41).dn (k + 1)).al (Obj.cells #[Value.int IntKind.i64 ((bt s 0 : Nat) : Int), Value.string (s.extract 3 e)] 41)
        have D7 := CP.made1d w (.cells #[.int .i64 0, .string ⟨#[]⟩] 41) (k + 1) [.int .i64 ((bt s 0 : Nat) : Int), .string (s.extract 3 e)] 41
        have hB : BB w (((w.alloc (Obj.cells #[Value.int IntKind.i64 0, Value.string ⟨#[]⟩] 41)).drewN (k + 1)).alloc (Obj.cells #[Value.int IntKind.i64 ((bt s 0 : Nat) : Int), Value.string (s.extract 3 e)] 41)) := show Below w.heap.size w _ from (by with_reducible repeat (first | exact Below.refl _ _ | assumption | refine below_step ?_ (by assumption) | refine Below.drew ?_ | refine below_drewN ?_ _ | refine below_alloc ?_ _ | refine Below.setCell ?_ (by simp; try omega) _))
        have F2 : ∀ j, (((w.alloc (Obj.cells #[Value.int IntKind.i64 0, Value.string ⟨#[]⟩] 41)).drewN (k + 1)).alloc (Obj.cells #[Value.int IntKind.i64 ((bt s 0 : Nat) : Int), Value.string (s.extract 3 e)] 41)).frozen? ⟨w.heap.size, j, none⟩ = false := by intro j; simp [go_sem]
        generalize (((w.alloc (Obj.cells #[Value.int IntKind.i64 0, Value.string ⟨#[]⟩] 41)).drewN (k + 1)).alloc (Obj.cells #[Value.int IntKind.i64 ((bt s 0 : Nat) : Int), Value.string (s.extract 3 e)] 41)) = wb at *
        have q0 : (_ : Option Value) = some (.int .i64 ((bt s 0 : Nat) : Int)) := D7 0 (by simp)
        have q1 : (_ : Option Value) = some (.string (s.extract 3 e)) := D7 1 (by simp)
        have G2 := D2
        have k0 := gw_cell q0
        have k1 := gw_cell q1
        have hvq := fun (p' : Regrown) => qb_below p' (hvc (Sort.grow (redrawn wb p'.d) p'.os))
        have hcq := fun (p' : Regrown) => qb_same p' (hcc (Sort.grow (redrawn wb p'.d) p'.os))
        go_wp2_with fail
        refine wp_region_quiet_below (by kernel_rfl) (by kernel_rfl) ?_
        repeat (go_big_quiet_step ((first | with_reducible exact hvq _ | exact hcq _)))
        refine wpQuiet_nil ?_
        intro _ hw'
        obtain ⟨pq, hw''⟩ := hw'
        subst hw''
        have hx := gw_below wb pq
        generalize Sort.grow (redrawn wb pq.d) pq.os = w2 at hx ⊢
        replace D2 := D2.next hx
        replace D7 := D7.next hx
        replace hB := hB.next hx
        have z0 : (_ : Option Value) = some (.int .i64 0) := D2 0 (by simp)
        have z1 : (_ : Option Value) = some (.string ⟨#[]⟩) := D2 1 (by simp)
        have y0 : (_ : Option Value) = some (.int .i64 ((bt s 0 : Nat) : Int)) := D7 0 (by simp)
        have y1 : (_ : Option Value) = some (.string (s.extract 3 e)) := D7 1 (by simp)
        have F3 : ∀ j, w2.frozen? ⟨w.heap.size, j, none⟩ = false := fun j => (hx.frozen (p := ⟨w.heap.size, j, none⟩) (by have := hx.size; exact (cell_spot (G2 0 (by simp))).2)).trans (F2 j)
        go_wp2
        exact bodyPost_ret (v := .tuple #[.agg #[.int .i64 ((bt s 0 : Nat) : Int), .string (s.extract 3 e)], .int .i64 ((n + 5 : Nat) : Int), .bool true]) (by simp [results, Try.results25, go_sem, World.cell?_setCell_other, z0, z1]) rfl ⟨by rw [HR.out, ← HE.out]; rfl, Below.setCell (Below.setCell hB (Nat.le_refl _) _) (Nat.le_refl _) _⟩
    · have HR := Lib.hid (HD3.out (fun h => hcr h.2))
      have g1 : (((crcOf (s.extract 0 e) 65535 : Nat) : Int) != ((wd s e : Nat) : Int)) = true := by simp; omega
      generalize crcOf (s.extract 0 e) 65535 = y at *
      go_enter Try.func25, Try.ntmps25
      go_wp2_with (go_at_call 52; refine (hgw _).mono ?_; rintro e w1 ⟨rfl, k, rfl⟩)
      go_region_held3 (fun W => Below w.heap.size w W) (first | exact (by with_reducible repeat (first | exact Below.refl _ _ | assumption | refine below_step ?_ (by assumption) | refine Below.drew ?_ | refine below_drewN ?_ _ | refine below_alloc ?_ _ | refine Below.setCell ?_ (by simp; try omega) _))) (fail)
      all_goals
        have D2 := ((CP.made w [.int .i64 0, .string ⟨#[]⟩] 41).dn (k + 1)).al (Obj.cells #[Value.int IntKind.i64 ((bt s 0 : Nat) : Int), Value.string (s.extract 3 e)] 41)
        have D7 := CP.made1d w (.cells #[.int .i64 0, .string ⟨#[]⟩] 41) (k + 1) [.int .i64 ((bt s 0 : Nat) : Int), .string (s.extract 3 e)] 41
        have hB : BB w (((w.alloc (Obj.cells #[Value.int IntKind.i64 0, Value.string ⟨#[]⟩] 41)).drewN (k + 1)).alloc (Obj.cells #[Value.int IntKind.i64 ((bt s 0 : Nat) : Int), Value.string (s.extract 3 e)] 41)) := show Below w.heap.size w _ from (by with_reducible repeat (first | exact Below.refl _ _ | assumption | refine below_step ?_ (by assumption) | refine Below.drew ?_ | refine below_drewN ?_ _ | refine below_alloc ?_ _ | refine Below.setCell ?_ (by simp; try omega) _))
        have F2 : ∀ j, (((w.alloc (Obj.cells #[Value.int IntKind.i64 0, Value.string ⟨#[]⟩] 41)).drewN (k + 1)).alloc (Obj.cells #[Value.int IntKind.i64 ((bt s 0 : Nat) : Int), Value.string (s.extract 3 e)] 41)).frozen? ⟨w.heap.size, j, none⟩ = false := by intro j; simp [go_sem]
        generalize (((w.alloc (Obj.cells #[Value.int IntKind.i64 0, Value.string ⟨#[]⟩] 41)).drewN (k + 1)).alloc (Obj.cells #[Value.int IntKind.i64 ((bt s 0 : Nat) : Int), Value.string (s.extract 3 e)] 41)) = wb at *
        have q0 : (_ : Option Value) = some (.int .i64 ((bt s 0 : Nat) : Int)) := D7 0 (by simp)
        have q1 : (_ : Option Value) = some (.string (s.extract 3 e)) := D7 1 (by simp)
        have G2 := D2
        have k0 := gw_cell q0
        have k1 := gw_cell q1
        have hvq := fun (p' : Regrown) => qb_below p' (hvc (Sort.grow (redrawn wb p'.d) p'.os))
        have hcq := fun (p' : Regrown) => qb_same p' (hcc (Sort.grow (redrawn wb p'.d) p'.os))
        go_wp2_with fail
        refine wp_region_quiet_below (by kernel_rfl) (by kernel_rfl) ?_
        repeat (go_big_quiet_step ((first | with_reducible exact hvq _ | exact hcq _)))
        refine wpQuiet_nil ?_
        intro _ hw'
        obtain ⟨pq, hw''⟩ := hw'
        subst hw''
        have hx := gw_below wb pq
        generalize Sort.grow (redrawn wb pq.d) pq.os = w2 at hx ⊢
        replace D2 := D2.next hx
        replace D7 := D7.next hx
        replace hB := hB.next hx
        have z0 : (_ : Option Value) = some (.int .i64 0) := D2 0 (by simp)
        have z1 : (_ : Option Value) = some (.string ⟨#[]⟩) := D2 1 (by simp)
        have y0 : (_ : Option Value) = some (.int .i64 ((bt s 0 : Nat) : Int)) := D7 0 (by simp)
        have y1 : (_ : Option Value) = some (.string (s.extract 3 e)) := D7 1 (by simp)
        have F3 : ∀ j, w2.frozen? ⟨w.heap.size, j, none⟩ = false := fun j => (hx.frozen (p := ⟨w.heap.size, j, none⟩) (by have := hx.size; exact (cell_spot (G2 0 (by simp))).2)).trans (F2 j)
        go_wp2
        exact bodyPost_ret (v := .tuple #[.agg #[.int .i64 0, .string ⟨#[]⟩], .int .i64 0, .bool false]) (by simp [results, Try.results25, go_sem, World.cell?_setCell_other, z0, z1]) rfl ⟨by rw [HR.out]; rfl, Below.setCell (Below.setCell hB (Nat.le_refl _) _) (Nat.le_refl _) _⟩
end Go.Proofs.Ytemppogailpoiaa
namespace Go.Proofs.Ytemppogailpoiaa
set_option linter.unusedVariables false
open Go.RowKit

theorem eltChunk : Elt Try.prog 36 41 2 24 (.agg #[.int .i64 0, .string ByteArray.empty]) := Elt.mk' Try.underlying36 (by kernel_rfl) rfl (by decide)
def rDcAt (r : Option (Nat × ByteArray × Nat)) (a : Nat) : Ending :=
  match r with
  | none => .returned (.tuple #[.agg #[.int .i64 0, .string ⟨#[]⟩], .int .i64 (-1)])
  | some (k, d, m) => .returned (.tuple #[.agg #[.int .i64 k, .string d], .int .i64 ((a + m : Nat) : Int)])
theorem dcAt_le {s : ByteArray} {a k m : Nat} {d : ByteArray} (h : dcAt s a = some (k, d, m)) (ha : a ≤ s.size) : a + m ≤ s.size ∧ d.size ≤ s.size := by
  unfold dcAt dc at h
  split at h
  · cases h
  · split at h
    · rename_i h5 h8
      split at h
      · injection h with h
        injection h with h1 h
        injection h with h2 h3
        subst h2 h3
        rw [ext_size] at h8 h5
        refine ⟨by omega, ?_⟩
        rw [ByteArray.size_extract, ext_size]
        omega
      · cases h
    · cases h

set_option maxRecDepth 100000 in
set_option maxHeartbeats 1000000 in
theorem l13At_any (s : ByteArray) (a : Nat) (w : World) (hs : s.size ≤ 1048576) (ha : a ≤ s.size) :
    Calls Try.prog 32 #[.string s, .int .i64 (a : Int)] w fun e w' => e = rDcAt (dcAt s a) a ∧ Below w.heap.size w w' := by
  by_cases h5 : s.size < a + 5
  · have HR := Lib.hid (dcAt_1 h5)
    have g : (s.size : Int) < (a : Int) + 5 := by omega
    go_enter Try.func32, Try.ntmps32
    go_wp2
    exact bodyPost_ret (v := .tuple #[.agg #[.int .i64 0, .string ⟨#[]⟩], .int .i64 (-1)]) (by simp [results, Try.results32, go_sem]) rfl ⟨by rw [HR.out]; rfl, (by with_reducible repeat (first | exact Below.refl _ _ | assumption | refine below_step ?_ (by assumption) | refine Below.drew ?_ | refine below_drewN ?_ _ | refine below_alloc ?_ _ | refine Below.setCell ?_ (by simp; try omega) _))⟩
  have h5' : a + 5 ≤ s.size := by omega
  have g5 : ¬ (s.size : Int) < (a : Int) + 5 := by omega
  have e0 := bt_eq s a (by omega)
  have b0 := bt_lt s a
  have halt : a < s.size := by omega
  obtain ⟨n, hn⟩ : ∃ n, wd s (a + 1) = n := ⟨_, rfl⟩
  obtain ⟨a1, ha1⟩ : ∃ a1 : Nat, a1 = a + 1 := ⟨_, rfl⟩
  have hget := fun W => l01Get_any s a1 W hs (by omega)
  rw [ha1, hn] at hget
  rw [← ha1] at hget
  have hn2 := wd_lt s (a + 1)
  rw [hn] at hn2
  obtain ⟨e, he⟩ : ∃ e : Nat, e = a + 3 + n := ⟨_, rfl⟩
  have f8 : IntKind.i64.wrap ((bt s a : Nat) : Int) = ((bt s a : Nat) : Int) := IntWalk.i64_in _ (by omega)
  have f1 : IntKind.i64.wrap ((a : Int) + 1) = (a1 : Int) := by subst ha1; exact (IntWalk.i64_in _ (by omega)).trans (by omega)
  have f3 : IntKind.i64.wrap ((a : Int) + 3 + (n : Int)) = (e : Int) := by subst he; exact (IntWalk.i64_in _ (by omega)).trans (by omega)
  have hae : a ≤ e := by omega
  have he4 : e ≤ 10000000 := by omega
  have HN := Lib.hid hn
  have HE := Lib.hid he
  have HA1 := Lib.hid ha1
  clear hn ha1
  by_cases h8 : ¬ (n ≤ 8192 ∧ a + 3 + n + 2 ≤ s.size)
  · have HR := Lib.hid (dcAt_2 h5' HN.out h8)
    by_cases h81 : s.size < e + 2
    · have g1 : (s.size : Int) < (e : Int) + 2 := by omega
      clear he h8
      go_enter Try.func32, Try.ntmps32
      go_wp2_with (go_at_call 66; refine (hget _).mono ?_; rintro e w1 ⟨rfl, k, rfl⟩)
      exact bodyPost_ret (v := .tuple #[.agg #[.int .i64 0, .string ⟨#[]⟩], .int .i64 (-1)]) (by simp [results, Try.results32, go_sem]) rfl ⟨by rw [HR.out]; rfl, (by with_reducible repeat (first | exact Below.refl _ _ | assumption | refine below_step ?_ (by assumption) | refine Below.drew ?_ | refine below_drewN ?_ _ | refine below_alloc ?_ _ | refine Below.setCell ?_ (by simp; try omega) _))⟩
    · have g1 : ¬ (s.size : Int) < (e : Int) + 2 := by omega
      have g2 : (8192 : Int) < (n : Int) := by omega
      clear he h8
      go_enter Try.func32, Try.ntmps32
      go_wp2_with (go_at_call 66; refine (hget _).mono ?_; rintro e w1 ⟨rfl, k, rfl⟩)
      exact bodyPost_ret (v := .tuple #[.agg #[.int .i64 0, .string ⟨#[]⟩], .int .i64 (-1)]) (by simp [results, Try.results32, go_sem]) rfl ⟨by rw [HR.out]; rfl, (by with_reducible repeat (first | exact Below.refl _ _ | assumption | refine below_step ?_ (by assumption) | refine Below.drew ?_ | refine below_drewN ?_ _ | refine below_alloc ?_ _ | refine Below.setCell ?_ (by simp; try omega) _))⟩
  obtain ⟨h81, h82⟩ : n ≤ 8192 ∧ a + 3 + n + 2 ≤ s.size := by omega
  have g1 : ¬ (s.size : Int) < (e : Int) + 2 := by omega
  have g2 : ¬ (8192 : Int) < (n : Int) := by omega
  have hes : e ≤ s.size := by omega
  have hesi : (e : Int) ≤ (s.size : Int) := by omega
  have haei : (a : Int) ≤ (e : Int) := by omega
  obtain ⟨a3, ha3⟩ : ∃ a3 : Nat, a3 = a + 3 := ⟨_, rfl⟩
  have f4 : IntKind.i64.wrap ((a : Int) + 3) = (a3 : Int) := by subst ha3; exact (IntWalk.i64_in _ (by omega)).trans (by omega)
  have f5 : IntKind.i64.wrap ((a3 : Int) + (n : Int)) = (e : Int) := by subst ha3; exact (IntWalk.i64_in _ (by omega)).trans (by omega)
  have ha3e : (a3 : Int) ≤ (e : Int) := by omega
  have ha3n : a3 ≤ e := by omega
  have f6 : IntKind.i64.wrap ((e : Int) + 2) = (e : Int) + 2 := IntWalk.i64_in _ (by omega)
  have hcc := fun W => l01Crc_any (s.extract a e) 65535 W (by rw [ByteArray.size_extract]; omega) (by omega)
  have hgt := fun W => l01Get_any s e W hs (by omega)
  have hck := fun W => l13Chunk_any (bt s a : Int) (s.extract a3 e) W (by rw [ByteArray.size_extract]; unfold maxLen; omega)
  have HD3 := Lib.hid (fun (h : ¬ (okChunk (bt s a : Int) (s.extract a3 e) = true ∧ crcOf (s.extract a e) 65535 = wd s e)) => dcAt_3 h5' HN.out h82 (by rw [← HE.out, ← ha3]; exact h))
  have HD4 := Lib.hid (fun (h : okChunk (bt s a : Int) (s.extract a3 e) = true ∧ crcOf (s.extract a e) 65535 = wd s e) => dcAt_4 h5' HN.out h81 h82 (by rw [← HE.out, ← ha3]; exact h))
  have HA3 := Lib.hid ha3
  have hw2 := wd_lt s e
  have HE2 := Lib.hid (show e + 2 = a + (n + 5) by omega)
  clear ha3 he h8
  by_cases hcr : crcOf (s.extract a e) 65535 = wd s e
  case neg =>
    have HR := Lib.hid (HD3.out (fun h => hcr h.2))
    have g3 : (((crcOf (s.extract a e) 65535 : Nat) : Int) != ((wd s e : Nat) : Int)) = true := by simp; omega
    generalize crcOf (s.extract a e) 65535 = y at *
    generalize wd s e = y2 at *
    clear hcr
    go_enter Try.func32, Try.ntmps32
    go_wp2_with (first
      | (go_at_call 66; have := m1; refine (hgt _).mono ?_; rintro e w1 ⟨rfl, k2, rfl⟩)
      | (go_at_call 66; refine (hget _).mono ?_; rintro e w1 ⟨rfl, k, rfl⟩; have m1 := True.intro)
      | (go_at_call 67; refine (hcc _).mono ?_; rintro e w2 ⟨rfl, rfl⟩))
    exact bodyPost_ret (v := .tuple #[.agg #[.int .i64 0, .string ⟨#[]⟩], .int .i64 (-1)]) (by simp [results, Try.results32, go_sem]) rfl ⟨by rw [HR.out]; rfl, (by with_reducible repeat (first | exact Below.refl _ _ | assumption | refine below_step ?_ (by assumption) | refine Below.drew ?_ | refine below_drewN ?_ _ | refine below_alloc ?_ _ | refine Below.setCell ?_ (by simp; try omega) _))⟩
  case pos =>
    rw [hcr] at hcc
    have HCR := Lib.hid hcr
    clear hcr
    generalize wd s e = y2 at *
    cases hok : okChunk (bt s a : Int) (s.extract a3 e)
    · have HR := Lib.hid (HD3.out (fun h => by rw [hok] at h; cases h.1))
      rw [hok] at hck
      go_enter Try.func32, Try.ntmps32
      go_wp2_with (first
        | (go_at_call 66; have := m1; refine (hgt _).mono ?_; rintro e9 w1 ⟨rfl, k2, rfl⟩)
        | (go_at_call 66; refine (hget _).mono ?_; rintro e9 w1 ⟨rfl, k, rfl⟩; have m1 := True.intro)
        | (go_at_call 67; refine (hcc _).mono ?_; rintro e9 w2 ⟨rfl, rfl⟩)
        | (go_at_call 33; refine (hck _).mono ?_; rintro e9 w3 ⟨rfl, hx⟩; obtain ⟨hc, hf⟩ := bcell hx; have hB : Below w.heap.size w w3 := (by with_reducible repeat (first | exact Below.refl _ _ | assumption | refine below_step ?_ (by assumption) | refine Below.drew ?_ | refine below_drewN ?_ _ | refine below_alloc ?_ _ | refine Below.setCell ?_ (by simp; try omega) _)); have z0 : w3.cell? ⟨w.heap.size, 0, none⟩ = some (.int .i64 0) := (by rw [hc _ _ (by simp; try omega)]; simp [go_sem, World.cell?_setCell_other]); have z1 : w3.cell? ⟨w.heap.size, 1, none⟩ = some (.string ⟨#[]⟩) := (by rw [hc _ _ (by simp; try omega)]; simp [go_sem, World.cell?_setCell_other]); have y0 : w3.cell? ⟨w.heap.size + 1, 0, none⟩ = some (.int .i64 ((bt s a : Nat) : Int)) := (by rw [hc _ _ (by simp; try omega)]; simp [go_sem, World.cell?_setCell_other]); have y1 : w3.cell? ⟨w.heap.size + 1, 1, none⟩ = some (.string (s.extract a3 e)) := (by rw [hc _ _ (by simp; try omega)]; simp [go_sem]); have hfz : ∀ j, w3.frozen? ⟨w.heap.size, j, none⟩ = false := (by intro j; rw [hf _ _ (by simp; try omega)]; simp [go_sem])))
      exact bodyPost_ret (v := .tuple #[.agg #[.int .i64 0, .string ⟨#[]⟩], .int .i64 (-1)]) (by simp [results, Try.results32, go_sem, World.cell?_setCell_other, z0, z1]) rfl ⟨by rw [HR.out]; rfl, (by with_reducible repeat (first | exact Below.refl _ _ | assumption | refine below_step ?_ (by assumption) | refine Below.drew ?_ | refine below_drewN ?_ _ | refine below_alloc ?_ _ | refine Below.setCell ?_ (by simp; try omega) _))⟩
    · have HR := Lib.hid (HD4.out ⟨hok, HCR.out⟩)
      rw [hok] at hck
      go_enter Try.func32, Try.ntmps32
      go_wp2_with (first
        | (go_at_call 66; have := m1; refine (hgt _).mono ?_; rintro e9 w1 ⟨rfl, k2, rfl⟩)
        | (go_at_call 66; refine (hget _).mono ?_; rintro e9 w1 ⟨rfl, k, rfl⟩; have m1 := True.intro)
        | (go_at_call 67; refine (hcc _).mono ?_; rintro e9 w2 ⟨rfl, rfl⟩)
        | (go_at_call 33; refine (hck _).mono ?_; rintro e9 w3 ⟨rfl, hx⟩; obtain ⟨hc, hf⟩ := bcell hx; have hB : Below w.heap.size w w3 := (by with_reducible repeat (first | exact Below.refl _ _ | assumption | refine below_step ?_ (by assumption) | refine Below.drew ?_ | refine below_drewN ?_ _ | refine below_alloc ?_ _ | refine Below.setCell ?_ (by simp; try omega) _)); have z0 : w3.cell? ⟨w.heap.size, 0, none⟩ = some (.int .i64 0) := (by rw [hc _ _ (by simp; try omega)]; simp [go_sem, World.cell?_setCell_other]); have z1 : w3.cell? ⟨w.heap.size, 1, none⟩ = some (.string ⟨#[]⟩) := (by rw [hc _ _ (by simp; try omega)]; simp [go_sem, World.cell?_setCell_other]); have y0 : w3.cell? ⟨w.heap.size + 1, 0, none⟩ = some (.int .i64 ((bt s a : Nat) : Int)) := (by rw [hc _ _ (by simp; try omega)]; simp [go_sem, World.cell?_setCell_other]); have y1 : w3.cell? ⟨w.heap.size + 1, 1, none⟩ = some (.string (s.extract a3 e)) := (by rw [hc _ _ (by simp; try omega)]; simp [go_sem]); have hfz : ∀ j, w3.frozen? ⟨w.heap.size, j, none⟩ = false := (by intro j; rw [hf _ _ (by simp; try omega)]; simp [go_sem])))
      exact bodyPost_ret (v := .tuple #[.agg #[.int .i64 (bt s a : Nat), .string (s.extract a3 e)], .int .i64 ((e : Int) + 2)]) (by simp [results, Try.results32, go_sem, World.cell?_setCell_other, z0, z1]) rfl ⟨by rw [HR.out]; rw [← HE.out, ← HA3.out]; show Ending.returned (.tuple #[_, .int .i64 ((e : Int) + 2)]) = Ending.returned (.tuple #[_, .int .i64 ((a + (n + 5) : Nat) : Int)]); rw [← HE2.out]; rfl, (by with_reducible repeat (first | exact Below.refl _ _ | assumption | refine below_step ?_ (by assumption) | refine Below.drew ?_ | refine below_drewN ?_ _ | refine below_alloc ?_ _ | refine Below.setCell ?_ (by simp; try omega) _))⟩

/-- The chunks from a place on, and the place behind them. -/
def dkG (s : ByteArray) : Nat → Nat → List DChunk × Nat
  | 0, a => ([], a)
  | f + 1, a => match dcAt s a with
    | none => ([], a)
    | some (k, d, m) => (⟨(k : Int), d⟩ :: (dkG s f (a + m)).1, (dkG s f (a + m)).2)
theorem dkG_0 {s : ByteArray} {a : Nat} : dkG s 0 a = ([], a) := rfl
theorem dkG_no {s : ByteArray} {f a : Nat} (h : dcAt s a = none) : dkG s f a = ([], a) := by
  cases f with
  | zero => rfl
  | succ f => simp only [dkG, h]
theorem dkG_yes {s : ByteArray} {f a k m : Nat} {d : ByteArray} (h : dcAt s a = some (k, d, m)) : dkG s (f + 1) a = (⟨(k : Int), d⟩ :: (dkG s f (a + m)).1, (dkG s f (a + m)).2) := by
  simp only [dkG, h]
theorem dkG_len (s : ByteArray) : ∀ (f a : Nat), (dkG s f a).1.length ≤ f
  | 0, a => by simp [dkG]
  | f + 1, a => by
    cases h : dcAt s a with
    | none => rw [dkG_no h]; simp
    | some r =>
      obtain ⟨k, d, m⟩ := r
      rw [dkG_yes h]
      have := dkG_len s f (a + m)
      simp only [List.length_cons]
      omega
def dkL (s : ByteArray) : List DChunk := (dkG s 40 0).1
def dkN (s : ByteArray) : Nat := (dkG s 40 0).2
theorem dkL_len (s : ByteArray) : (dkL s).length ≤ 40 := dkG_len s 40 0
/-- What the loop holds on to. -/
def DkI (s : ByteArray) (out : List DChunk) (f a : Nat) : Prop := out ++ (dkG s f a).1 = dkL s ∧ (dkG s f a).2 = dkN s
theorem DkI.start (s : ByteArray) : DkI s [] 40 0 := ⟨rfl, rfl⟩
theorem DkI.next {s : ByteArray} {out : List DChunk} {f a k m : Nat} {d : ByteArray} (h : DkI s out (f + 1) a) (g : dcAt s a = some (k, d, m)) : DkI s (out ++ [⟨(k : Int), d⟩]) f (a + m) := by
  obtain ⟨h1, h2⟩ := h
  rw [dkG_yes g] at h1 h2
  exact ⟨by rw [List.append_assoc]; exact h1, h2⟩
theorem DkI.stop {s : ByteArray} {out : List DChunk} {f a : Nat} (h : DkI s out f a) (g : dkG s f a = ([], a)) : out = dkL s ∧ a = dkN s := by
  obtain ⟨h1, h2⟩ := h
  rw [g] at h1 h2
  exact ⟨by simpa using h1, h2⟩

set_option maxRecDepth 100000 in
set_option maxHeartbeats 1000000 in
theorem spec_DecodeChunks_any (s : ByteArray) (w : World) (hs : s.size ≤ 1048576) :
    Calls Try.prog 15 #[.string s] w fun e w' => ∃ v, e = .returned (.tuple #[v, .int .i64 (dkN s : Nat)]) ∧ w'.ownsRow w.heap.size 41 2 v (dkL s).length (flat fChunk (dkL s)) ∧ Below w.heap.size w w' := by
  have hI := DkI.start s
  go_enter Try.func15, Try.ntmps15
  go_wp2
  go_loopw [4, 5, 6, 7] (fun v i _ _ wr => ∃ (f a : Nat) (out : List DChunk), out.length + f = 40 ∧ a ≤ s.size ∧ i = .int .i64 a ∧ wr.ownsRow w.heap.size 41 2 v out.length (flat fChunk out) ∧ Below w.heap.size w wr ∧ Hid (DkI s out f a)) (fun _ i _ _ _ => s.size + 1 - (intOf i).toNat)
  case atStart => exact ⟨40, 0, [], rfl, Nat.zero_le _, rfl, own_lit0 _ _, (by with_reducible repeat (first | exact Below.refl _ _ | assumption | refine below_step ?_ (by assumption) | refine Below.drew ?_ | refine below_drewN ?_ _ | refine below_alloc ?_ _ | refine Below.setCell ?_ (by simp; try omega) _)), Lib.hid hI⟩
  case round =>
    obtain ⟨f, a, out, hf, ha, rfl, hown, hb, HI⟩ := hrel
    obtain ⟨A, cp, rfl⟩ := own_form hown
    have hsz := hb.size
    have hat := fun W => l13At_any s a W hs ha
    by_cases h40 : out.length < 40
    · have g40 : (out.length : Int) < 40 := by omega
      obtain ⟨f', rfl⟩ : ∃ f', f = f' + 1 := ⟨f - 1, by omega⟩
      rcases hdc : dcAt s a with _ | ⟨k, d, m⟩
      · obtain ⟨e1, e2⟩ := HI.out.stop (dkG_no hdc)
        have H1 := Lib.hid e1
        have H2 := Lib.hid e2
        rw [hdc] at hat
        simp only [rDcAt] at hat
        clear e1 e2 hdc
        go_wp2_with (go_at_call 32; refine (hat _).mono ?_; rintro e w1 ⟨rfl, hx⟩; replace hown : OO _ _ _ _ _ _ _ := OO.next hown hx; replace hb := below_step hb hx)
        go_ret2
        exact ⟨_, by rw [← H2.out]; rfl, by rw [← H1.out]; exact World.ownsRow.alloc (OOf hown) _, (by with_reducible repeat (first | exact Below.refl _ _ | assumption | refine below_step ?_ (by assumption) | refine Below.drew ?_ | refine below_drewN ?_ _ | refine below_alloc ?_ _ | refine Below.setCell ?_ (by simp; try omega) _))⟩
      · obtain ⟨l1, l2⟩ := dcAt_le hdc ha
        have HN := Lib.hid (HI.out.next hdc)
        rw [hdc] at hat
        simp only [rDcAt] at hat
        have hm : 1 ≤ m := by
          unfold dcAt dc at hdc
          split at hdc
          · cases hdc
          · split at hdc
            · split at hdc
              · injection hdc with hdc
                injection hdc with h1 hdc
                injection hdc with h2 h3
                omega
              · cases hdc
            · cases hdc
        obtain ⟨a', ha'⟩ : ∃ a', a' = a + m := ⟨_, rfl⟩
        rw [← ha'] at hat HN
        have hpos : ¬ ((a' : Int) < 0) := by omega
        clear hdc
        go_wp2_with (first
          | (go_at_call 32; refine (hat _).mono ?_; rintro e w1 ⟨rfl, hx⟩; replace hown : OO _ _ _ _ _ _ _ := OO.al (OO.next hown hx) (.cells #[.int .i64 k, .string d] 41); replace hb := below_alloc (below_step hb hx) (.cells #[.int .i64 k, .string d] 41))
          | (at_builtin; go_must (refine wpList_appF (f := fChunk) rfl _ _ _ rfl eltChunk (by omega) _ out rfl (OOf hown) _ _ ⟨(k : Int), d⟩ _ (by rw [World.size_alloc]; rfl) rfl rfl (by intro u hu; simp only [fChunk, List.mem_cons, List.not_mem_nil, or_false] at hu; rcases hu with rfl | rfl <;> rfl) (by omega) hb.size ?_); intro v3 w3 hown3 hg3 hat3 hbl3))
        go_roundw
        case rel => exact ⟨f', a', _, by rw [List.length_append, List.length_singleton]; omega, by omega, by go_num, hown3, hb.trans hbl3, HN⟩
        case measure => (simp [intOf] <;> omega)
    · have g40 : ¬ (out.length : Int) < 40 := by omega
      obtain rfl : f = 0 := by omega
      obtain ⟨e1, e2⟩ := HI.out.stop dkG_0
      have H1 := Lib.hid e1
      have H2 := Lib.hid e2
      clear e1 e2
      go_wp2
      go_ret2
      exact ⟨_, by rw [← H2.out]; rfl, by rw [← H1.out]; exact hown, hb⟩

set_option maxRecDepth 100000 in
set_option maxHeartbeats 1000000 in
theorem impl_DecodeChunks_any (s : ByteArray) (w : World) (hs : s.size ≤ 1048576) :
    Calls Try.prog 11 #[.string s] w fun e w' => ∃ v, e = .returned (.tuple #[v, .int .i64 (dkN s : Nat)]) ∧ w'.ownsRow w.heap.size 41 2 v (dkL s).length (flat fChunk (dkL s)) ∧ Below w.heap.size w w' := by
  have hI := DkI.start s
  go_enter Try.func11, Try.ntmps11
  go_wp2
  go_loopw [4, 5, 6, 7, 8] (fun v i _ _ _ wr => ∃ (f a : Nat) (out : List DChunk), out.length + f = 40 ∧ a ≤ s.size ∧ i = .int .i64 a ∧ wr.ownsRow w.heap.size 41 2 v out.length (flat fChunk out) ∧ Below w.heap.size w wr ∧ Hid (DkI s out f a)) (fun _ i _ _ _ _ => s.size + 1 - (intOf i).toNat)
  case atStart => exact ⟨40, 0, [], rfl, Nat.zero_le _, rfl, World.ownsRow_nil _ _ _ _, (by with_reducible repeat (first | exact Below.refl _ _ | assumption | refine below_step ?_ (by assumption) | refine Below.drew ?_ | refine below_drewN ?_ _ | refine below_alloc ?_ _ | refine Below.setCell ?_ (by simp; try omega) _)), Lib.hid hI⟩
  case round =>
    obtain ⟨f, a, out, hf, ha, rfl, hown, hb, HI⟩ := hrel
    obtain ⟨A, cp, rfl⟩ := own_form hown
    have hsz := hb.size
    have hai : (a : Int) ≤ (s.size : Int) := by omega
    have hat := fun W => decodeChunk_any (s.extract a s.size) W (by rw [ext_size]; omega)
    rw [show dc (s.extract a s.size) = dcAt s a from rfl] at hat
    by_cases h40 : out.length < 40
    · have g40 : (out.length : Int) < 40 := by omega
      obtain ⟨f', rfl⟩ : ∃ f', f = f' + 1 := ⟨f - 1, by omega⟩
      rcases hdc : dcAt s a with _ | ⟨k, d, m⟩
      · obtain ⟨e1, e2⟩ := HI.out.stop (dkG_no hdc)
        have H1 := Lib.hid e1
        have H2 := Lib.hid e2
        rw [hdc] at hat
        simp only [rDc] at hat
        clear e1 e2 hdc
        go_wp2_with (go_at_call 25; refine (hat _).mono ?_; rintro e w1 ⟨rfl, hx⟩; replace hown : OO _ _ _ _ _ _ _ := OO.next hown hx; replace hb := below_step hb hx)
        go_ret2
        exact ⟨_, by rw [← H2.out]; rfl, by rw [← H1.out]; exact World.ownsRow.alloc (OOf hown) _, (by with_reducible repeat (first | exact Below.refl _ _ | assumption | refine below_step ?_ (by assumption) | refine Below.drew ?_ | refine below_drewN ?_ _ | refine below_alloc ?_ _ | refine Below.setCell ?_ (by simp; try omega) _))⟩
      · obtain ⟨l1, l2⟩ := dcAt_le hdc ha
        have HN := Lib.hid (HI.out.next hdc)
        rw [hdc] at hat
        simp only [rDc] at hat
        have hm : 1 ≤ m := by
          unfold dcAt dc at hdc
          split at hdc
          · cases hdc
          · split at hdc
            · split at hdc
              · injection hdc with hdc
                injection hdc with h1 hdc
                injection hdc with h2 h3
                omega
              · cases hdc
            · cases hdc
        clear hdc
        go_wp2_with (first
          | (go_at_call 25; refine (hat _).mono ?_; rintro e w1 ⟨rfl, hx⟩; replace hown : OO _ _ _ _ _ _ _ := OO.al (OO.next hown hx) (.cells #[.int .i64 k, .string d] 41); replace hb := below_alloc (below_step hb hx) (.cells #[.int .i64 k, .string d] 41))
          | (at_builtin; go_must (refine wpList_appF (f := fChunk) rfl _ _ _ rfl eltChunk (by omega) _ out rfl (OOf hown) _ _ ⟨(k : Int), d⟩ _ (by rw [World.size_alloc]; rfl) rfl rfl (by intro u hu; simp only [fChunk, List.mem_cons, List.not_mem_nil, or_false] at hu; rcases hu with rfl | rfl <;> rfl) (by omega) hb.size ?_); intro v3 w3 hown3 hg3 hat3 hbl3))
        go_roundw
        case rel => exact ⟨f', a + m, _, by rw [List.length_append, List.length_singleton]; omega, by omega, by go_num, hown3, hb.trans hbl3, HN⟩
        case measure => (simp [intOf] <;> omega)
    · have g40 : ¬ (out.length : Int) < 40 := by omega
      obtain rfl : f = 0 := by omega
      obtain ⟨e1, e2⟩ := HI.out.stop dkG_0
      have H1 := Lib.hid e1
      have H2 := Lib.hid e2
      clear e1 e2
      go_wp2
      go_ret2
      exact ⟨_, by rw [← H2.out]; rfl, by rw [← H1.out]; exact hown, hb⟩
end Go.Proofs.Ytemppogailpoiaa
namespace Go.Proofs.Ytemppogailpoiaa
set_option linter.unusedVariables false
open Go.RowKit

/-- The data of a header. -/
def hdB (t : ByteArray) : Bool := decide (t.size = 7) && decide (t.extract 0 3 = ⟨#[80, 73, 1]⟩) && geoB (bt t 3 : Int) (bt t 4 : Int) (bt t 5 : Int) (bt t 6 : Int)
theorem hd_1 {t : ByteArray} (h : t.size ≠ 7) : hdB t = false := by simp [hdB, h]
theorem hd_2 {t : ByteArray} (h : t.extract 0 3 ≠ ⟨#[80, 73, 1]⟩) : hdB t = false := by simp [hdB, h]
theorem hd_3 {t : ByteArray} (h : geoB (bt t 3 : Int) (bt t 4 : Int) (bt t 5 : Int) (bt t 6 : Int) = false) : hdB t = false := by simp [hdB, h]
theorem hd_yes {t : ByteArray} (h : hdB t = true) : t.size = 7 ∧ t.extract 0 3 = ⟨#[80, 73, 1]⟩ ∧ geoB (bt t 3 : Int) (bt t 4 : Int) (bt t 5 : Int) (bt t 6 : Int) = true := by
  unfold hdB at h
  simp only [Bool.and_eq_true, decide_eq_true_eq] at h
  exact ⟨h.1.1, h.1.2, h.2⟩
theorem pre_mag (t : ByteArray) : Lib.hasPrefix t.data.toList [80, 73, 1] = decide (t.extract 0 3 = ⟨#[80, 73, 1]⟩) := by
  have h1 : (t.extract 0 3).data.toList = t.data.toList.take 3 := by simp [ByteArray.data_extract]
  rw [Lib.hasPrefix, Bool.eq_iff_iff, List.isPrefixOf_iff_prefix, decide_eq_true_iff, List.prefix_iff_eq_take]
  constructor
  · intro h
    apply ByteArray.ext
    apply Array.toList_inj.1
    rw [h1]
    exact h.symm
  · intro h
    rw [h] at h1
    exact h1
theorem cut_yes {t : ByteArray} (h : t.extract 0 3 = ⟨#[80, 73, 1]⟩) (h7 : 3 ≤ t.size) : (⟨(Lib.trimPrefix t.data.toList [80, 73, 1]).toArray⟩ : ByteArray) = t.extract 3 t.size := by
  have h1 := pre_mag t
  rw [decide_eq_true h] at h1
  rw [Lib.trimPrefix, if_pos h1]
  apply ByteArray.ext
  apply Array.toList_inj.1
  have h2 : t.data.size = t.size := rfl
  simp only [ByteArray.data_extract, Array.toList_extract, List.extract_eq_drop_take']
  rw [List.take_of_length_le (by rw [Array.length_toList]; omega)]
  rfl
theorem CutPrefix_yes (t : ByteArray) (h : t.extract 0 3 = ⟨#[80, 73, 1]⟩) (h3 : 3 ≤ t.size) (W : World) :
    Calls Try.prog 56 #[.string t, .string ⟨#[80, 73, 1]⟩] W fun e w' => e = .returned (.tuple #[.string (t.extract 3 t.size), .bool true]) ∧ w' = W := by
  have h1 := Try.strings_CutPrefix t ⟨#[80, 73, 1]⟩ W
  have h2 := pre_mag t
  rw [decide_eq_true h] at h2
  have h4 := cut_yes h h3
  simp only at h1
  rw [h4, h2] at h1
  exact h1
theorem CutPrefix_no (t : ByteArray) (h : ¬ t.extract 0 3 = ⟨#[80, 73, 1]⟩) (W : World) :
    Calls Try.prog 56 #[.string t, .string ⟨#[80, 73, 1]⟩] W fun e w' => e = .returned (.tuple #[.string t, .bool false]) ∧ w' = W := by
  have h1 := Try.strings_CutPrefix t ⟨#[80, 73, 1]⟩ W
  have h2 := pre_mag t
  rw [decide_eq_false h] at h2
  have h4 : (⟨(Lib.trimPrefix t.data.toList [80, 73, 1]).toArray⟩ : ByteArray) = t := by
    rw [Lib.trimPrefix, if_neg (by rw [h2]; decide)]
  simp only at h1
  rw [h4, h2] at h1
  exact h1

set_option maxRecDepth 100000 in
set_option maxHeartbeats 1000000 in
theorem readHeader_no (t : ByteArray) (w : World) (ht : t.size ≤ maxLen) (hh : hdB t = false) :
    Calls Try.prog 28 #[.string t] w fun e w' => e = .returned (.tuple #[.agg #[.int .i64 0, .int .i64 0, .int .i64 0, .int .i64 0, .slice none 0 0], .bool false]) ∧ Below w.heap.size w w' := by
  unfold maxLen at ht
  by_cases h3 : t.extract 0 3 = ⟨#[80, 73, 1]⟩
  · have h33 : 3 ≤ t.size := by
      have : (t.extract 0 3).size = 3 := by rw [h3]; rfl
      rw [ByteArray.size_extract] at this
      omega
    have hcp := CutPrefix_yes t h3 h33
    have hsz := ext_size t 3
    have hbt := fun k hk => ext_bt t 3 k hk
    by_cases h7 : t.size = 7
    · have hg : geoB (bt t 3 : Int) (bt t 4 : Int) (bt t 5 : Int) (bt t 6 : Int) = false := by
        cases hg : geoB (bt t 3 : Int) (bt t 4 : Int) (bt t 5 : Int) (bt t 6 : Int)
        · rfl
        · rw [hdB, hg, decide_eq_true h7, decide_eq_true h3] at hh
          cases hh
      generalize t.extract 3 t.size = R at hcp hsz hbt
      have hR : R.size = 4 := by omega
      have b0 := hbt 0 (by omega)
      have b1 := hbt 1 (by omega)
      have b2 := hbt 2 (by omega)
      have b3 := hbt 3 (by omega)
      rw [show 3 + 0 = 3 from rfl] at b0
      rw [show 3 + 1 = 4 from rfl] at b1
      rw [show 3 + 2 = 5 from rfl] at b2
      rw [show 3 + 3 = 6 from rfl] at b3
      have e0 := (bt_eq R 0 (by rw [hR]; decide)).trans b0
      have e1 := (bt_eq R 1 (by rw [hR]; decide)).trans b1
      have e2 := (bt_eq R 2 (by rw [hR]; decide)).trans b2
      have e3 := (bt_eq R 3 (by rw [hR]; decide)).trans b3
      have l0 := bt_lt t 3
      have l1 := bt_lt t 4
      have l2 := bt_lt t 5
      have l3 := bt_lt t 6
      generalize bt t 3 = x0 at *
      generalize bt t 4 = x1 at *
      generalize bt t 5 = x2 at *
      generalize bt t 6 = x3 at *
      clear hbt hsz h3 h33 hh b0 b1 b2 b3
      have hw0 : IntKind.i64.wrap (x0 : Int) = (x0 : Int) := IntWalk.i64_in _ (by omega)
      have hw1 : IntKind.i64.wrap (x1 : Int) = (x1 : Int) := IntWalk.i64_in _ (by omega)
      have hw2 : IntKind.i64.wrap (x2 : Int) = (x2 : Int) := IntWalk.i64_in _ (by omega)
      have hw3 : IntKind.i64.wrap (x3 : Int) = (x3 : Int) := IntWalk.i64_in _ (by omega)
      have hgeo := fun W => isGeometry_any (x0 : Int) (x1 : Int) (x2 : Int) (x3 : Int) W
      rw [hg] at hgeo
      go_enter Try.func28, Try.ntmps28
      go_wp2_with (go_at_call 56; refine (hcp _).mono ?_; rintro e w1 ⟨rfl, rfl⟩)
      go_quiet ((go_at_call 57; exact quiet_left (hgeo _)))
      go_wp2
      refine bodyPost_ret (v := .tuple #[.agg #[.int .i64 0, .int .i64 0, .int .i64 0, .int .i64 0, .slice none 0 0], .bool false]) (by simp [results, Try.results28, go_sem]) rfl ⟨rfl, (by with_reducible repeat (first | exact Below.refl _ _ | assumption | refine below_step ?_ (by assumption) | refine Below.drew ?_ | refine below_drewN ?_ _ | refine below_alloc ?_ _ | refine Below.setCell ?_ (by simp; try omega) _))⟩
    · have hR : ¬ (t.extract 3 t.size).size = 4 := by omega
      generalize t.extract 3 t.size = R at *
      have hR2 : ¬ (R.size : Int) = 4 := by omega
      clear hbt hsz h3 hh
      go_enter Try.func28, Try.ntmps28
      go_wp2_with (go_at_call 56; refine (hcp _).mono ?_; rintro e w1 ⟨rfl, rfl⟩)
      go_quiet (fail)
      go_wp2
      refine bodyPost_ret (v := .tuple #[.agg #[.int .i64 0, .int .i64 0, .int .i64 0, .int .i64 0, .slice none 0 0], .bool false]) (by simp [results, Try.results28, go_sem]) rfl ⟨rfl, (by with_reducible repeat (first | exact Below.refl _ _ | assumption | refine below_step ?_ (by assumption) | refine Below.drew ?_ | refine below_drewN ?_ _ | refine below_alloc ?_ _ | refine Below.setCell ?_ (by simp; try omega) _))⟩
  · have hcp := CutPrefix_no t h3
    clear h3 hh
    go_enter Try.func28, Try.ntmps28
    go_wp2_with (go_at_call 56; refine (hcp _).mono ?_; rintro e w1 ⟨rfl, rfl⟩)
    go_quiet (fail)
    go_wp2
    refine bodyPost_ret (v := .tuple #[.agg #[.int .i64 0, .int .i64 0, .int .i64 0, .int .i64 0, .slice none 0 0], .bool false]) (by simp [results, Try.results28, go_sem]) rfl ⟨rfl, (by with_reducible repeat (first | exact Below.refl _ _ | assumption | refine below_step ?_ (by assumption) | refine Below.drew ?_ | refine below_drewN ?_ _ | refine below_alloc ?_ _ | refine Below.setCell ?_ (by simp; try omega) _))⟩

set_option maxRecDepth 100000 in
set_option maxHeartbeats 1000000 in
theorem readHeader_yes (t : ByteArray) (w : World) (hh : hdB t = true) :
    Calls Try.prog 28 #[.string t] w fun e w' => ∃ v, e = .returned (.tuple #[.agg #[.int .i64 (bt t 3 : Int), .int .i64 (bt t 4 : Int), .int .i64 (bt t 5 : Int), .int .i64 (bt t 6 : Int), v], .bool true]) ∧ w'.ownsRow w.heap.size 46 2 v (newS (bt t 3 : Int) (bt t 4 : Int) (bt t 5 : Int) (bt t 6 : Int)).length (flat fSector (newS (bt t 3 : Int) (bt t 4 : Int) (bt t 5 : Int) (bt t 6 : Int))) ∧ Below w.heap.size w w' := by
  obtain ⟨h7, h3, hg⟩ := hd_yes hh
  have hcp := CutPrefix_yes t h3 (by omega)
  have hsz := ext_size t 3
  have hbt := fun k hk => ext_bt t 3 k hk
  generalize t.extract 3 t.size = R at hcp hsz hbt
  have hR : R.size = 4 := by omega
  have b0 := hbt 0 (by omega)
  have b1 := hbt 1 (by omega)
  have b2 := hbt 2 (by omega)
  have b3 := hbt 3 (by omega)
  rw [show 3 + 0 = 3 from rfl] at b0
  rw [show 3 + 1 = 4 from rfl] at b1
  rw [show 3 + 2 = 5 from rfl] at b2
  rw [show 3 + 3 = 6 from rfl] at b3
  have e0 := (bt_eq R 0 (by rw [hR]; decide)).trans b0
  have l0 := bt_lt t 3
  have e1 := (bt_eq R 1 (by rw [hR]; decide)).trans b1
  have l1 := bt_lt t 4
  have e2 := (bt_eq R 2 (by rw [hR]; decide)).trans b2
  have l2 := bt_lt t 5
  have e3 := (bt_eq R 3 (by rw [hR]; decide)).trans b3
  have l3 := bt_lt t 6
  generalize bt t 3 = x0 at *
  generalize bt t 4 = x1 at *
  generalize bt t 5 = x2 at *
  generalize bt t 6 = x3 at *
  have hw0 : IntKind.i64.wrap (x0 : Int) = (x0 : Int) := IntWalk.i64_in _ (by omega)
  have hw1 : IntKind.i64.wrap (x1 : Int) = (x1 : Int) := IntWalk.i64_in _ (by omega)
  have hw2 : IntKind.i64.wrap (x2 : Int) = (x2 : Int) := IntWalk.i64_in _ (by omega)
  have hw3 : IntKind.i64.wrap (x3 : Int) = (x3 : Int) := IntWalk.i64_in _ (by omega)
  clear hbt hsz h3 hh b0 b1 b2 b3
  have hgeo := fun W => isGeometry_any (x0 : Int) (x1 : Int) (x2 : Int) (x3 : Int) W
  rw [hg] at hgeo
  have hnew := fun W => newDisc_any (x0 : Int) (x1 : Int) (x2 : Int) (x3 : Int) W hg
  generalize newS (x0 : Int) (x1 : Int) (x2 : Int) (x3 : Int) = l at hnew ⊢
  have B0 := BX.made w 26 [.int .i64 0, .int .i64 0, .int .i64 0, .int .i64 0, .slice none 0 0]
  have hB : BB w (w.alloc (.cells #[.int .i64 0, .int .i64 0, .int .i64 0, .int .i64 0, .slice none 0 0] 26)) := (show Below w.heap.size w (w.alloc (.cells #[.int .i64 0, .int .i64 0, .int .i64 0, .int .i64 0, .slice none 0 0] 26)) from (by with_reducible repeat (first | exact Below.refl _ _ | assumption | refine below_step ?_ (by assumption) | refine Below.drew ?_ | refine below_drewN ?_ _ | refine below_alloc ?_ _ | refine Below.setCell ?_ (by simp; try omega) _)))
  go_enter Try.func28, Try.ntmps28
  go_wp2_with (go_at_call 56; refine (hcp _).mono ?_; rintro e w1 ⟨rfl, rfl⟩)
  generalize w.alloc (.cells #[.int .i64 0, .int .i64 0, .int .i64 0, .int .i64 0, .slice none 0 0] 26) = w2 at *
  go_quiet ((go_at_call 57; exact quiet_left (hgeo _)))
  replace B0 : BX (w2.drewN nq) _ _ _ := B0
  replace hB : BB w (w2.drewN nq) := BB.dn hB nq
  generalize w2.drewN nq = w3 at *
  go_wp2
  refine wp_region_still_tail 12 (by kernel_rfl) (by kernel_rfl) ?_
  simp only [List.take_succ_cons, List.take_zero, List.drop_succ_cons, List.drop_zero]
  repeat still_step
  refine wpStill_nil ?_
  change wpList _ _ _ _ _ w3.drew
  replace B0 : BX w3.drew _ _ _ := B0
  replace hB : BB w _ := BB.dr hB
  generalize w3.drew = w4 at *
  go_wp2_with (go_at_call 58; refine (hnew _).mono ?_; rintro e w1 ⟨v, rfl, hown, hx⟩; obtain ⟨A, cp, rfl⟩ := own_form hown; replace hown := own_base (base' := w.heap.size + 1) hown B0.lt; replace B0 := B0.below hx B0.lt; replace hB : Below w.heap.size w w1 := BB.next hB hx; have y0 : (_ : Option Value) = some (.int .i64 0) := B0.cell 0 (by simp); have y1 : (_ : Option Value) = some (.int .i64 0) := B0.cell 1 (by simp); have y2 : (_ : Option Value) = some (.int .i64 0) := B0.cell 2 (by simp); have y3 : (_ : Option Value) = some (.int .i64 0) := B0.cell 3 (by simp); have y4 : (_ : Option Value) = some (.slice none 0 0) := B0.cell 4 (by simp); have hfz := fun j => B0.free j)
  refine bodyPost_ret (v := .tuple #[.agg #[.int .i64 (x0 : Int), .int .i64 (x1 : Int), .int .i64 (x2 : Int), .int .i64 (x3 : Int), .slice A l.length cp], .bool true]) (by simp [results, Try.results28, go_sem, World.cell?_setCell_other, y0, y1, y2, y3, y4]) rfl ⟨_, rfl, ?_, ?_⟩
  · refine own_base (base := w.heap.size + 1) ?_ (by omega)
    exact ownsRow_setCell_below (ownsRow_setCell_below (ownsRow_setCell_below (ownsRow_setCell_below (ownsRow_setCell_below hown (by simp) _) (by simp) _) (by simp) _) (by simp) _) (by simp) _
  · exact (by with_reducible repeat (first | exact Below.refl _ _ | assumption | refine below_step ?_ (by assumption) | refine Below.drew ?_ | refine below_drewN ?_ _ | refine below_alloc ?_ _ | refine Below.setCell ?_ (by simp; try omega) _))
end Go.Proofs.Ytemppogailpoiaa
namespace Go.Proofs.Ytemppogailpoiaa
set_option linter.unusedVariables false
open Go.RowKit

/-- An image. -/
structure Im where
  c : Int
  h : Int
  p : Int
  s : Int
  l : List DSector
  n : List ByteArray
def im0 : Im := ⟨0, 0, 0, 0, [], []⟩
/-- The chunks between header and end enter an image, one after the other. -/
def decG (T P nb : Nat) (s : Int) : List DChunk → List DSector → List ByteArray → Option (List DSector × List ByteArray)
  | [], l, n => some (l, n)
  | x :: r, l, n => if entB T P nb s n x = true then decG T P nb s r (entL T P nb s l x) (entN n x) else none
section
variable {T P nb : Nat} {s : Int} {M : List DChunk} {l : List DSector} {n : List ByteArray} {k : Nat} {R : Option (List DSector × List ByteArray)}
theorem decG_yes (h : k < M.length) (g : entB T P nb s n M[k] = true) (e : decG T P nb s (M.drop k) l n = R) : decG T P nb s (M.drop (k + 1)) (entL T P nb s l M[k]) (entN n M[k]) = R := by
  rw [List.drop_eq_getElem_cons h, decG, if_pos g] at e
  exact e
theorem decG_no (h : k < M.length) (g : entB T P nb s n M[k] = false) (e : decG T P nb s (M.drop k) l n = R) : R = none := by
  rw [List.drop_eq_getElem_cons h, decG, if_neg (by rw [g]; decide)] at e
  exact e.symm
theorem decG_end (h : ¬ k < M.length) (e : decG T P nb s (M.drop k) l n = R) : R = some (l, n) := by
  rw [List.drop_eq_nil_of_le (by omega), decG] at e
  exact e.symm
end
/-- The chunks between the first and the last. -/
def mid (L : List DChunk) : List DChunk := (L.drop 1).take (L.length - 2)
theorem mid_len {L : List DChunk} : (mid L).length = L.length - 2 := by simp [mid]; omega
theorem mid_get {L : List DChunk} {k : Nat} (h : k < (mid L).length) (h2 : 1 + k < L.length) : (mid L)[k] = L[1 + k] := by
  have h3 : 1 + k = k + 1 := Nat.add_comm _ _
  simp [mid, h3]
/-- Number of tracks, sectors of a track and bytes of a sector that a header names. -/
def hdT (d : ByteArray) : Nat := bt d 3 * bt d 4
def hdP (d : ByteArray) : Nat := bt d 5
def hdS (d : ByteArray) : Int := (bt d 6 : Int)
def hdNb (d : ByteArray) : Nat := (szB (hdS d)).toNat
def hdL (d : ByteArray) : List DSector := newS (bt d 3 : Int) (bt d 4 : Int) (bt d 5 : Int) (bt d 6 : Int)
/-- The image behind a header. -/
def bodyOf (d : ByteArray) (M : List DChunk) : Option Im := (decG (hdT d) (hdP d) (hdNb d) (hdS d) M (hdL d) []).map fun r => ⟨(bt d 3 : Int), (bt d 4 : Int), (bt d 5 : Int), (bt d 6 : Int), r.1, r.2⟩
/-- The image of a well-formed list of chunks. -/
def imgOf (L : List DChunk) : Option Im :=
  if h : 2 ≤ L.length then
    if (L[0].f0 = 1 ∧ hdB L[0].f1 = true) ∧ (L[L.length - 1].f0 = 4 ∧ L[L.length - 1].f1.size = 0) then bodyOf L[0].f1 (mid L) else none
  else none
theorem imgOf_1 {L : List DChunk} (h : ¬ 2 ≤ L.length) : imgOf L = none := by simp [imgOf, h]
theorem imgOf_2 {L : List DChunk} (h : 2 ≤ L.length) (g : ¬ (L[0].f0 = 1 ∧ hdB L[0].f1 = true)) : imgOf L = none := by
  unfold imgOf
  rw [dif_pos h, if_neg (fun x => g x.1)]
theorem imgOf_3 {L : List DChunk} (h : 2 ≤ L.length) (g : ¬ (L[L.length - 1].f0 = 4 ∧ L[L.length - 1].f1.size = 0)) : imgOf L = none := by
  unfold imgOf
  rw [dif_pos h, if_neg (fun x => g x.2)]
theorem imgOf_4 {L : List DChunk} (h : 2 ≤ L.length) (g1 : L[0].f0 = 1) (g2 : hdB L[0].f1 = true) (g3 : L[L.length - 1].f0 = 4) (g4 : L[L.length - 1].f1.size = 0) : imgOf L = bodyOf L[0].f1 (mid L) := by
  unfold imgOf
  rw [dif_pos h, if_pos ⟨⟨g1, g2⟩, g3, g4⟩]
/-- What a header's numbers are good for. -/
theorem hd_nums {d : ByteArray} (h : hdB d = true) : (bt d 3 : Int) * (bt d 4 : Int) = (hdT d : Int) ∧ hdT d ≤ 16 ∧ 0 < hdP d ∧ hdP d ≤ 8 ∧ 0 ≤ hdS d ∧ hdS d ≤ 2 ∧ szB (hdS d) = (hdNb d : Int) ∧ hdNb d ≤ 32 ∧ (hdL d).length = hdT d * hdP d ∧ (bt d 5 : Int) = (hdP d : Int) ∧ (bt d 6 : Int) = hdS d ∧ geoB (bt d 3 : Int) (bt d 4 : Int) (hdP d : Int) (hdS d) = true ∧ d.size = 7 ∧ 0 < hdT d := by
  obtain ⟨h7, h3, hg⟩ := hd_yes h
  obtain ⟨c1, c2, h1, h2, p1, p2, s1, s2⟩ := geoB_yes hg
  obtain ⟨m1, m2⟩ := prod2 c1 c2 h1 h2
  obtain ⟨nb, z1, z2, z3, z4⟩ := szB_nat s1 s2
  have e1 : (bt d 3 : Int) * (bt d 4 : Int) = (hdT d : Int) := by rw [hdT, Int.natCast_mul]
  refine ⟨e1, by omega, ?_, ?_, ?_, ?_, ?_, ?_, ?_, rfl, rfl, hg, h7, by omega⟩
  · unfold hdP; omega
  · unfold hdP; omega
  · exact s1
  · exact s2
  · rw [hdNb, hdS, z4, z1]
  · rw [hdNb, hdS, z4]; exact z2
  · rw [hdL, newS_len, secN, e1, hdP, ← Int.natCast_mul, Int.toNat_natCast]
/-- The image and the code of a container. -/
def decR (s : ByteArray) : Option Im := if 8192 < s.size then none else if dkN s = s.size then imgOf (dkL s) else none
def decC (s : ByteArray) : Int := if 8192 < s.size then 5 else if dkN s = s.size then (if (imgOf (dkL s)).isSome then 0 else 7) else 8
def imD (r : Option Im) : Im := r.getD im0
theorem dec_1 {s : ByteArray} (h : 8192 < s.size) : decR s = none ∧ decC s = 5 := ⟨by simp [decR, h], by simp [decC, h]⟩
theorem dec_2 {s : ByteArray} (h : ¬ 8192 < s.size) (g : ¬ dkN s = s.size) : decR s = none ∧ decC s = 8 := ⟨by simp [decR, h, g], by simp [decC, h, g]⟩
theorem dec_3 {s : ByteArray} (h : ¬ 8192 < s.size) (g : dkN s = s.size) (i : imgOf (dkL s) = none) : decR s = none ∧ decC s = 7 := by
  refine ⟨?_, ?_⟩
  · unfold decR; rw [if_neg h, if_pos g, i]
  · unfold decC; rw [if_neg h, if_pos g, i]; rfl
theorem dec_4 {s : ByteArray} (h : ¬ 8192 < s.size) (g : dkN s = s.size) {x : Im} (i : imgOf (dkL s) = some x) : decR s = some x ∧ decC s = 0 := by
  refine ⟨?_, ?_⟩
  · unfold decR; rw [if_neg h, if_pos g, i]
  · unfold decC; rw [if_neg h, if_pos g, i]; rfl
theorem dkG_in (s : ByteArray) : ∀ (f a : Nat), a ≤ s.size → ∀ x ∈ (dkG s f a).1, x.f1.size ≤ s.size
  | 0, a, _, x, hx => by simp [dkG] at hx
  | f + 1, a, ha, x, hx => by
    cases hd : dcAt s a with
    | none => rw [dkG_no hd] at hx; simp at hx
    | some y =>
      obtain ⟨k, d, m⟩ := y
      obtain ⟨h1, h2⟩ := dcAt_le hd ha
      rw [dkG_yes hd] at hx
      rcases List.mem_cons.1 hx with rfl | hx
      · exact h2
      · exact dkG_in s f (a + m) h1 x hx
theorem dkL_in (s : ByteArray) : ∀ x ∈ dkL s, x.f1.size ≤ s.size := dkG_in s 40 0 (Nat.zero_le _)
/-- Images that are built are valid in size. -/
theorem decG_in {T P nb : Nat} {s : Int} : ∀ (M : List DChunk) (l : List DSector) (n : List ByteArray) (r : List DSector × List ByteArray), decG T P nb s M l n = some r → l.length = T * P → (∀ x ∈ l, secX s x = true) → n.length ≤ 8 → (∀ x ∈ n, noteB x = true) → r.1.length = T * P ∧ (∀ x ∈ r.1, secX s x = true) ∧ r.2.length ≤ 8 ∧ ∀ x ∈ r.2, noteB x = true
  | [], l, n, r, h, h1, h2, h3, h4 => by
    rw [decG] at h
    cases h
    exact ⟨h1, h2, h3, h4⟩
  | x :: M, l, n, r, h, h1, h2, h3, h4 => by
    rw [decG] at h
    split at h
    · exact decG_in M _ _ r h (entL_len h1 x) (entL_in h2 x) (entN_len h3 x) (entN_in h4 x)
    · cases h
theorem own_capD {w : World} {base : Nat} {e : TypeId} {size n c : Nat} {A : Option Addr} {xs : List Value} (h : w.ownsRow base e size (.slice A n c) n xs) : n ≤ c := by
  rcases h.2 with ⟨_, h0⟩ | ⟨g, cap, cur, hv, _, _, h1, _⟩
  · omega
  · cases hv
    exact h1
theorem row_cells {w : World} {base : Nat} {e : TypeId} {g cap : Nat} {L : List DChunk} (h : w.ownsRow base e 2 (.slice (some ⟨g, 0, none⟩) L.length cap) L.length (flat fChunk L)) (k : Nat) (hk : k < L.length) : w.cell? ⟨g, k * 2, none⟩ = some (.int .i64 L[k].f0) ∧ w.cell? ⟨g, k * 2 + 1, none⟩ = some (.string L[k].f1) := by
  have h1 := World.ownsRow.cellAt h (k * 2) (by omega)
  have h2 := flat_get fChunk 2 fChunk_len L k 0 hk (by omega)
  have h3 := World.ownsRow.cellAt h (k * 2 + 1) (by omega)
  have h4 := flat_get fChunk 2 fChunk_len L k 1 hk (by omega)
  rw [h1, h3]
  simp only [Nat.add_zero] at h2
  exact ⟨by rw [h2]; rfl, by rw [h4]; rfl⟩
theorem str_some2 {d : ByteArray} (h : ¬ d.size = 0) : (d.toList != []) = true := by
  have : (d.toList == []) = false := by
    rw [beq_eq_false_iff_ne]
    intro e
    apply h
    rw [ByteArray.toList_eq] at e
    have := congrArg List.length e
    simpa using this
  rw [bne, this]
  rfl
end Go.Proofs.Ytemppogailpoiaa
namespace Go.Proofs.Ytemppogailpoiaa
set_option linter.unusedVariables false
open Go.RowKit

theorem mag_no {s : ByteArray} (h : ¬ s = ⟨#[80, 73, 1]⟩) : (s.toList == [80, 73, 1]) = false := by
  rw [ByteArray.toList_eq, beq_eq_false_iff_ne]
  intro e
  apply h
  apply ByteArray.ext
  apply Array.toList_inj.1
  exact e
end Go.Proofs.Ytemppogailpoiaa
