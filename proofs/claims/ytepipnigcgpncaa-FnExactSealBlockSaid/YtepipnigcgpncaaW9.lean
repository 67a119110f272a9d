/- Walks: sealed blocks. -/
import Derived.Test.YtepipnigcgpncaaW2
import Derived.Test.YtepipnigcgpncaaMem2
namespace Go.Proofs.Ytepipnigcgpncaa
open Go.RowKit
set_option linter.unusedVariables false

def sum8 : List UInt8 → UInt8
  | [] => 0
  | b :: l => b + sum8 l
def sealL (l : List UInt8) : List UInt8 := (l.set 1 0).set 1 (0 - sum8 (l.set 1 0))
theorem add8 (a b : UInt8) : ((a + b).toNat : Int) = ((a.toNat : Int) + b.toNat) % 256 := by
  rw [UInt8.toNat_add]; omega
theorem neg8 (a : UInt8) : ((0 - a).toNat : Int) = (-(a.toNat : Int)) % 256 := by
  rw [UInt8.toNat_sub]
  have := a.toNat_lt
  have h0 : (0 : UInt8).toNat = 0 := rfl
  rw [h0]
  omega
theorem sum8_step (l : List UInt8) (k : Nat) (h : k < l.length) (x R : UInt8) (hr : x + sum8 (l.drop k) = R) : (x + l[k]) + sum8 (l.drop (k + 1)) = R := by
  rw [List.drop_eq_getElem_cons h, sum8] at hr
  rw [UInt8.add_assoc]
  exact hr

set_option maxHeartbeats 400000 in
theorem byteSum_any (g c : Nat) (l : List UInt8) (w : World) (h : MarkB w g 5 l) (hl : l.length ≤ 1048576) :
    Calls Try.prog 80 #[.slice (some ⟨g, 0, none⟩) l.length c] w fun e w' => e = .returned (.int .u8 (sum8 l).toNat) ∧ w = w' := by
  go_enter Try.func80, Try.ntmps80
  go_wp2
  go_loop [3, 5, 8] (fun t _ i => ∃ (k : Nat) (x : UInt8), k ≤ l.length ∧ i = .int .i64 k ∧ t = .int .u8 (x.toNat : Int) ∧ Hid (x + sum8 (l.drop k) = sum8 l)) (fun _ _ i => l.length - (intOf i).toNat)
  case atStart => exact ⟨0, 0, Nat.zero_le _, rfl, rfl, Lib.hid (by simp)⟩
  case round =>
    obtain ⟨k, x, hk, rfl, rfl, HS⟩ := hrel
    by_cases hlt : k < l.length
    · have hcell := h.cell k hlt
      have hx := x.toNat_lt
      have hb := l[k].toNat_lt
      go_wp2
      go_round
      case rel => exact ⟨k + 1, x + l[k], by omega, by go_num, congrArg (Value.int .u8) (by rw [add8]), Lib.hid (sum8_step l k hlt x _ HS.out)⟩
      case measure => (simp [intOf] <;> omega)
    · have h2 : x = sum8 l := by have := HS.out; rw [List.drop_eq_nil_of_le (by omega)] at this; simpa [sum8] using this
      have H2 := Lib.hid h2
      clear h2
      go_wp2
      go_ret
      exact ⟨ret_int (by rw [← H2.out]), rfl⟩

set_option maxHeartbeats 400000 in
theorem seal_any (g c : Nat) (l : List UInt8) (w : World) (h : MarkB w g 5 l) (hl : l.length = 32) (n : Nat) (hn : n = 32) :
    Calls Try.prog 57 #[.slice (some ⟨g, 0, none⟩) n c] w fun e w' => e = .returned (.tuple #[]) ∧ MarkB w' g 5 (sealL l) ∧ Below g w w' := by
  subst hn
  have c1 := h.cell 1 (by omega)
  have f1 := h.free 1 (by omega)
  have m1 := h.set_ 1 0 0 rfl
  have hl1 : (l.set 1 0).length = 32 := by simpa using hl
  have c2 := m1.cell 1 (by omega)
  have f2 := m1.free 1 (by omega)
  have hsum := (sum8 (l.set 1 0)).toNat_lt
  go_enter Try.func57, Try.ntmps57
  go_wp2_with (go_at_call 80; rw [← hl1]; refine (byteSum_any g c (l.set 1 0) _ m1 (by omega)).mono ?_; rintro e w' ⟨rfl, rfl⟩)
  go_end0
  exact ⟨rfl, m1.set_ 1 _ _ (neg8 _).symm, (by repeat (first | exact Below.refl _ _ | refine below_step ?_ (by assumption) | assumption | refine Below.drew ?_ | refine below_drewN ?_ _ | refine below_alloc ?_ _ | refine Below.setCell ?_ (by simp; try omega) _))⟩

set_option maxHeartbeats 400000 in
theorem l18Seal_any (g c : Nat) (l : List UInt8) (w : World) (h : MarkB w g 5 l) (hl : l.length = 32) (n : Nat) (hn : n = 32) :
    Calls Try.prog 56 #[.slice (some ⟨g, 0, none⟩) n c] w fun e w' => e = .returned (.string ⟨(sealL l).toArray⟩) ∧ Below g w w' := by
  subst hn
  have c1 := h.cell 1 (by omega)
  have f1 := h.free 1 (by omega)
  have m1 := h.set_ 1 0 0 rfl
  have hb1 : Below g w (w.setCell ⟨g, 1, none⟩ (.int .u8 0)) := (by repeat (first | exact Below.refl _ _ | refine below_step ?_ (by assumption) | assumption | refine Below.drew ?_ | refine below_drewN ?_ _ | refine below_alloc ?_ _ | refine Below.setCell ?_ (by simp; try omega) _))
  have hl1 : (l.set 1 0).length = 32 := by simpa using hl
  have hS : Hid (sealL l = (l.set 1 0).set 1 (0 - sum8 (l.set 1 0))) := Lib.hid rfl
  go_enter Try.func56, Try.ntmps56
  go_wp2
  generalize w.setCell ⟨g, 1, none⟩ (.int .u8 0) = w1 at m1 hb1 ⊢
  generalize l.set 1 0 = l1 at m1 hl1 hS
  clear c1 f1
  have hll := Lib.hid hl1
  clear hl1
  go_loop [3, 4] (fun t i => ∃ (k : Nat) (x : UInt8), k ≤ 32 ∧ i = .int .i64 k ∧ t = .int .u8 (x.toNat : Int) ∧ Hid (x + sum8 (l1.drop k) = sum8 l1)) (fun _ i => 32 - (intOf i).toNat)
  case atStart => exact ⟨0, 0, by omega, rfl, rfl, Lib.hid (by simp)⟩
  case round =>
    obtain ⟨k, x, hk, rfl, rfl, HS⟩ := hrel
    by_cases hlt : k < 32
    · have hlt1 : k < l1.length := by rw [hll.out]; exact hlt
      have hcell := m1.cell k hlt1
      have hx := x.toNat_lt
      have hb := l1[k].toNat_lt
      go_wp2
      go_round
      case rel => exact ⟨k + 1, x + l1[k], by omega, by go_num, congrArg (Value.int .u8) (by rw [add8]), Lib.hid (sum8_step l1 k hlt1 x _ HS.out)⟩
      case measure => (simp [intOf] <;> omega)
    · have h2 : x = sum8 l1 := by have := HS.out; rw [List.drop_eq_nil_of_le (by rw [hll.out]; omega)] at this; simpa [sum8] using this
      have c2 := m1.cell 1 (by rw [hll.out]; omega)
      have f2 := m1.free 1 (by rw [hll.out]; omega)
      have hx := x.toNat_lt
      have m2 := m1.set_ 1 (0 - x) _ (neg8 x).symm
      have hcv := MarkB.b2s (P := Try.prog) (dst := 9) Try.underlying62 Try.underlying5 Try.underlying9 m2 c 32 (by rw [List.length_set, hll.out])
      have H2 := Lib.hid h2
      clear h2
      go_wp2
      go_ret
      exact ⟨congrArg (fun q : List UInt8 => Ending.returned (.string ⟨q.toArray⟩)) (by rw [hS.out, H2.out]; simp), hb1.setCell (p := ⟨g, 1, none⟩) (Nat.le_refl g) _⟩

def sealS (s : ByteArray) : ByteArray := if s.size = 32 then ⟨(sealL s.data.toList).toArray⟩ else ByteArray.empty
theorem sealS_no (s : ByteArray) (h : ¬ s.size = 32) : sealS s = ByteArray.empty := if_neg h
theorem sealS_yes (s : ByteArray) (h : s.size = 32) : sealS s = ⟨(sealL s.data.toList).toArray⟩ := if_pos h
theorem ret_str {a b : ByteArray} (h : a = b) : Ending.returned (.string a) = .returned (.string b) := by rw [h]

set_option maxHeartbeats 400000 in
theorem spec_SealBlock_any (s : ByteArray) (w : World) (hs : s.size ≤ 1048576) :
    Calls Try.prog 21 #[.string s] w fun e w' => e = .returned (.string (sealS s)) ∧ Below w.heap.size w w' := by
  by_cases h : s.size = 32
  · have hn : ((s.size : Int) != 32) = false := by rw [h]; rfl
    have H := Lib.hid h
    have HY := Lib.hid (sealS_yes s h)
    have hll : s.data.toList.length = 32 := by simpa using h
    have HL := Lib.hid hll
    clear h hll
    have hcv := fun (W : World) => run_bytes_of_string (P := Try.prog) W 9 62 5 s Try.underlying9 Try.underlying62 Try.underlying5
    go_enter Try.func21, Try.ntmps21
    go_wp2_with (go_at_call 56; refine (l18Seal_any w.heap.size _ s.data.toList _ (MarkB.made w.drew s _) HL.out _ H.out).mono ?_; rintro e w1 ⟨rfl, hb⟩)
    go_ret
    exact ⟨ret_str HY.out.symm, (below_alloc (Below.refl _ w).drew _).trans hb⟩
  · have hn : ((s.size : Int) != 32) = true := by simp; omega
    have HN := Lib.hid (sealS_no s h)
    clear h
    go_enter Try.func21, Try.ntmps21
    go_wp2
    go_ret
    exact ⟨ret_str HN.out.symm, Below.refl _ _⟩

set_option maxHeartbeats 400000 in
theorem impl_SealBlock_any (s : ByteArray) (w : World) (hs : s.size ≤ 1048576) :
    Calls Try.prog 22 #[.string s] w fun e w' => e = .returned (.string (sealS s)) ∧ Below w.heap.size w w' := by
  by_cases h : s.size = 32
  · have hn : ((s.size : Int) != 32) = false := by rw [h]; rfl
    have H := Lib.hid h
    have HY := Lib.hid (sealS_yes s h)
    have hll : s.data.toList.length = 32 := by simpa using h
    have HL := Lib.hid hll
    have HN := Lib.hid (show s.size = (sealL s.data.toList).length by simp [sealL])
    clear h hll
    have hcv := fun (W : World) => run_bytes_of_string (P := Try.prog) W 9 62 5 s Try.underlying9 Try.underlying62 Try.underlying5
    go_enter Try.func22, Try.ntmps22
    go_wp2_with (go_at_call 57; refine (seal_any w.heap.size _ s.data.toList _ (MarkB.made w.drew s _) HL.out _ H.out).mono ?_; rintro e w1 ⟨rfl, hm, hb⟩; have hcv2 := MarkB.b2s (P := Try.prog) (dst := 9) Try.underlying62 Try.underlying5 Try.underlying9 hm (grownCap w s.size 0 5) s.size HN.out)
    go_ret
    exact ⟨ret_str HY.out.symm, (below_alloc (Below.refl _ w).drew _).trans hb⟩
  · have hn : ((s.size : Int) != 32) = true := by simp; omega
    have HN := Lib.hid (sealS_no s h)
    clear h
    go_enter Try.func22, Try.ntmps22
    go_wp2
    go_ret
    exact ⟨ret_str HN.out.symm, Below.refl _ _⟩
end Go.Proofs.Ytepipnigcgpncaa
