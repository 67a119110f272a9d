/- Walks: the texts SStrM SImage SImgM as one text. -/
import Derived.Test.YtjjcedodjoieoaaSString
import Derived.Test.YtjjcedodjoieoaaMark
import Derived.Deep.RegionHeld3
import Derived.Test.YtjjcedodjoieoaaSDisc
import Derived.Test.YtjjcedodjoieoaaOpen
import Derived.Test.YtjjcedodjoieoaaStep
namespace Go.Proofs.Ytjjcedodjoieoaa
open Go.RowKit Go.ChangeShapes Go.WideShapes Go.Deep

def mksString (k m : Nat) : List ByteArray := (List.range m).map fun i => mtxt (k + i)
theorem mksString_len (k m : Nat) : (mksString k m).length = m := by simp [mksString]
theorem mksString_succ (k m : Nat) : mksString k (m + 1) = mksString k m ++ [mtxt (k + m)] := by simp [mksString, List.range_succ]
theorem mksString_get (k m i : Nat) (h : i < (mksString k m).length) : (mksString k m)[i] = mtxt (k + i) := by simp [mksString]
theorem mksString_put (k m : Nat) (l : List ByteArray) (h : m < l.length) : (flat fS (mksString k m ++ l.drop m)).set m (.string (mtxt (k + m))) = flat fS (mksString k (m + 1) ++ l.drop (m + 1)) := by
  have := flat_put fS 1 fS_len (mksString k m) (l.drop (m + 1)) l[m] (mtxt (k + m))
  rw [mksString_len, Nat.mul_one] at this
  rw [List.drop_eq_getElem_cons h, mksString_succ, List.append_assoc]
  exact this
set_option maxRecDepth 100000 in
set_option maxHeartbeats 1000000 in
theorem markStringS_any (A : Option Addr) (c k : Nat) (l : List ByteArray) (w : World) (base : Nat) (h : w.ownsRow base 9 1 (.slice A l.length c) l.length (flat fS l)) (hk1 : 1 ≤ k) (hk2 : k ≤ 10000000000) (hl : l.length ≤ 10000000000) :
    Calls Try.prog 30 #[.slice A l.length c, .int .i64 (k : Int)] w fun e w' => e = .returned (.int .i64 ((k + 1 * l.length : Nat) : Int)) ∧ w'.ownsRow base 9 1 (.slice A l.length c) l.length (flat fS (mksString k l.length)) ∧ w.grownBy w' (Value.slice A l.length c).ownBlock := by
  go_enter Try.func30, Try.ntmps30
  go_wp2
  go_loopw [1, 5] (fun kk i wr => ∃ m q : Nat, m ≤ l.length ∧ k + m = q ∧ i = .int .i64 m ∧ kk = .int .i64 q ∧ wr.ownsRow base 9 1 (.slice A l.length c) l.length (flat fS (mksString k m ++ l.drop m)) ∧ w.grownBy wr (Value.slice A l.length c).ownBlock) (fun _ i _ => l.length - (intOf i).toNat)
  case atStart => exact ⟨0, k, Nat.zero_le _, by omega, rfl, rfl, h, World.grownBy.refl _ _⟩
  case round =>
    obtain ⟨m, q, hm, hq, rfl, rfl, ho, hg⟩ := hrel
    by_cases hlt : m < l.length
    · obtain ⟨g, cap, hv⟩ := Go.Joins.ownsRow_form ho (by omega)
      cases hv
      have hput := mksString_put k m l hlt
      rw [hq] at hput
      have hm0 := fun W => markText_any q W (by omega) (by omega)
      go_wp2_with (go_at_call 73; refine (hm0 _).mono ?_; rintro e w10 ⟨rfl, hx⟩; replace hg := hg.trans (only_of_below hx _); replace ho := own_later ho hx (Nat.le_refl _); obtain ⟨u0, hu0⟩ := own_some ho m (by omega); have hz0 := World.ownsRow.frozenAt ho m)
      go_roundw
      case rel =>
        refine ⟨m + 1, q + 1, by omega, by omega, by go_num, by go_num, ?_, hg.trans (World.ownsRow.stored ho _ _).2⟩
        rw [← hput]
        exact (World.ownsRow.stored ho _ _).1
      case measure => (simp [intOf] <;> omega)
    · obtain rfl : m = l.length := by omega
      rw [List.drop_length, List.append_nil] at ho
      go_wp2
      go_ret
      exact ⟨ret_int (by omega), ho, hg⟩
set_option maxRecDepth 100000 in
set_option maxHeartbeats 1000000 in
theorem heldStringS_any (A : Option Addr) (c k n : Nat) (w : World) (h : Rd w w.heap.size 1 A n (flat fS (mksString k n))) (hk1 : 1 ≤ k) (hk2 : k ≤ 10000000000) (hl : n ≤ 10000000000) :
    Calls Try.prog 32 #[.slice A n c, .int .i64 (k : Int)] w fun e w' => e = .returned (.int .i64 ((k + 1 * n : Nat) : Int)) ∧ Below w.heap.size w w' := by
  go_enter Try.func32, Try.ntmps32
  go_wp2
  go_loopw [1, 5] (fun kk i wr => ∃ i' q : Nat, i' ≤ n ∧ k + i' = q ∧ i = .int .i64 i' ∧ kk = .int .i64 q ∧ Below w.heap.size w wr) (fun _ i _ => n - (intOf i).toNat)
  case atStart => exact ⟨0, k, Nat.zero_le _, by omega, rfl, rfl, Below.refl _ _⟩
  case round =>
    obtain ⟨i, q, hi, hq, rfl, rfl, hb⟩ := hrel
    by_cases hlt : i < n
    · obtain ⟨b, off, rfl, hbb, hc⟩ := h.at_ fS_len (mksString_len k n).symm i hlt
      have hc0 := hc 0 (.string (mtxt q)) (by omega) (by rw [mksString_get, hq]; rfl)
      clear hc
      simp only [Nat.mul_one, Nat.add_zero] at hc0
      have hm0 := fun W => markText_any q W (by omega) (by omega)
      obtain ⟨hcb, hfb⟩ := bcell hb
      have hr0 := (hb.cell (p := ⟨b, off + i, none⟩) hbb).trans hc0
      go_wp2_with fail
      go_region_held3 (fun W => Below w.heap.size w W ∧ W.cell? ⟨b, off + i, none⟩ = some (.string (mtxt q))) (first | exact keepS hc0 hbb (Below.drew hb) | exact keepS hc0 hbb (below_step (Below.drew hb) hx)) (first | (go_at_call 73; refine (hm0 _).mono ?_; rintro e w0 ⟨rfl, hx⟩))
      replace hb := below_step (Below.drew hb) hx
      clear hcb hfb
      obtain ⟨hcb, hfb⟩ := bcell hb
      go_wp2
      go_roundw
      case rel => exact ⟨i + 1, q + 1, by omega, by omega, by go_num, by go_num, hb⟩
      case measure => (simp [intOf] <;> omega)
    · obtain rfl : i = n := by omega
      go_wp2
      go_ret
      exact ⟨ret_int (by omega), hb⟩
end Go.Proofs.Ytjjcedodjoieoaa
namespace Go.Proofs.Ytjjcedodjoieoaa
open Go.RowKit Go.ChangeShapes Go.WideShapes Go.Deep

def tzImage (l4 : List DSector) (l5 : List ByteArray) : List Nat := tzDisc l4 ++ tzString l5
set_option maxRecDepth 100000 in
set_option maxHeartbeats 600000 in
theorem eqImage_any (a0 : Int) (a1 : Int) (a2 : Int) (a3 : Int) (A4 B4 : Option Addr) (c4 d4 : Nat) (l4 : List DSector) (A5 B5 : Option Addr) (c5 d5 : Nat) (l5 : List ByteArray) (w : World) (h4 : Rd w w.heap.size 2 A4 l4.length (flat fSector l4)) (g4 : Rd w w.heap.size 2 B4 l4.length (flat fSector l4)) (h5 : Rd w w.heap.size 1 A5 l5.length (flat fS l5)) (g5 : Rd w w.heap.size 1 B5 l5.length (flat fS l5)) (hn4 : l4.length ≤ 1048576) (hn5 : l5.length ≤ 1048576) :
    Calls Try.prog 9 #[.agg #[.int .i64 a0, .int .i64 a1, .int .i64 a2, .int .i64 a3, .slice A4 l4.length c4, .slice A5 l5.length c5], .agg #[.int .i64 a0, .int .i64 a1, .int .i64 a2, .int .i64 a3, .slice B4 l4.length d4, .slice B5 l5.length d5]] w fun e w' => e = .returned (.bool true) ∧ Below w.heap.size w w' := by
  go_enter Try.func9, Try.ntmps9
  go_wp2_with (first
    | (go_at_call 28; have := mk1; refine (eqStringS_any A5 B5 c5 d5 l5 _ ((h5.below (by with_reducible repeat (first | exact Below.refl _ _ | assumption | refine below_step ?_ (by assumption) | refine Below.drew ?_ | refine below_drewN ?_ _ | refine below_alloc ?_ _ | refine Below.setCell ?_ (by simp; try omega) _))).more (by first | omega | (simp; done) | (simp; omega))) ((g5.below (by with_reducible repeat (first | exact Below.refl _ _ | assumption | refine below_step ?_ (by assumption) | refine Below.drew ?_ | refine below_drewN ?_ _ | refine below_alloc ?_ _ | refine Below.setCell ?_ (by simp; try omega) _))).more (by first | omega | (simp; done) | (simp; omega))) hn5).mono ?_; rintro e w2 ⟨rfl, hx2⟩; obtain ⟨hc2, hf2⟩ := bcell hx2; have hs2 : w.heap.size + 2 ≤ w2.heap.size := (by have := hx2.size; first | omega | (simp at this; omega)); have mk2 := True.intro)
    | (go_at_call 20; refine (eqDisc_any a0 a1 a2 a3 A4 B4 c4 d4 l4 _ ((h4.below (by with_reducible repeat (first | exact Below.refl _ _ | assumption | refine below_step ?_ (by assumption) | refine Below.drew ?_ | refine below_drewN ?_ _ | refine below_alloc ?_ _ | refine Below.setCell ?_ (by simp; try omega) _))).more (by first | omega | (simp; done) | (simp; omega))) ((g4.below (by with_reducible repeat (first | exact Below.refl _ _ | assumption | refine below_step ?_ (by assumption) | refine Below.drew ?_ | refine below_drewN ?_ _ | refine below_alloc ?_ _ | refine Below.setCell ?_ (by simp; try omega) _))).more (by first | omega | (simp; done) | (simp; omega))) hn4).mono ?_; rintro e w1 ⟨rfl, hx1⟩; obtain ⟨hc1, hf1⟩ := bcell hx1; have hs1 : w.heap.size + 2 ≤ w1.heap.size := (by have := hx1.size; first | omega | (simp at this; omega)); have mk1 := True.intro))
  go_ret
  exact ⟨rfl, (by with_reducible repeat (first | exact Below.refl _ _ | assumption | refine below_step ?_ (by assumption) | refine Below.drew ?_ | refine below_drewN ?_ _ | refine below_alloc ?_ _ | refine Below.setCell ?_ (by simp; try omega) _))⟩

end Go.Proofs.Ytjjcedodjoieoaa
namespace Go.Proofs.Ytjjcedodjoieoaa
open Go.RowKit
set_option linter.unusedVariables false

set_option maxRecDepth 100000 in
set_option maxHeartbeats 1000000 in
theorem markImage_any (a0 a1 a2 a3 : Int) (A4 : Option Addr) (c4 : Nat) (l4 : List DSector) (A7 : Option Addr) (c7 : Nat) (l7 : List ByteArray) (k : Nat) (w : World) (base : Nat)
    (h4 : w.ownsRow base 90 2 (.slice A4 l4.length c4) l4.length (flat fSector l4)) (h7 : w.ownsRow base 9 1 (.slice A7 l7.length c7) l7.length (flat fS l7))
    (hne : (Value.slice A4 l4.length c4).ownBlock = none ∨ (Value.slice A4 l4.length c4).ownBlock ≠ (Value.slice A7 l7.length c7).ownBlock) (hk1 : 1 ≤ k) (hk2 : k ≤ 1000000000) (hl4 : l4.length ≤ 1000000000) (hl7 : l7.length ≤ 1000000000) :
    Calls Try.prog 10 #[.agg #[.int .i64 a0, .int .i64 a1, .int .i64 a2, .int .i64 a3, .slice A4 l4.length c4, .slice A7 l7.length c7], .int .i64 (k : Int)] w fun e w' => e = .returned (.int .i64 ((k + 2 * l4.length + 1 * l7.length : Nat) : Int)) ∧
      ∃ w1, w.grownBy w1 (Value.slice A4 l4.length c4).ownBlock ∧ w1.grownBy w' (Value.slice A7 l7.length c7).ownBlock ∧ w'.ownsRow base 90 2 (.slice A4 l4.length c4) l4.length (flat fSector (mksSector k l4.length)) ∧ w'.ownsRow base 9 1 (.slice A7 l7.length c7) l7.length (flat fS (mksString (k + 2 * l4.length) l7.length)) := by
  have D := CP.made w [.int .i64 a0, .int .i64 a1, .int .i64 a2, .int .i64 a3, .slice A4 l4.length c4, .slice A7 l7.length c7] 27
  have e0 := World.ownsRow.alloc h4 (.cells #[.int .i64 a0, .int .i64 a1, .int .i64 a2, .int .i64 a3, .slice A4 l4.length c4, .slice A7 l7.length c7] 27)
  have e7 := World.ownsRow.alloc h7 (.cells #[.int .i64 a0, .int .i64 a1, .int .i64 a2, .int .i64 a3, .slice A4 l4.length c4, .slice A7 l7.length c7] 27)
  have nb := OO.ne_box h4
  have hq := markDisc_any a0 a1 a2 a3 A4 c4 l4 k _ base e0 hk1 (by omega) (by omega)
  obtain ⟨k2, hk3⟩ : ∃ k2 : Nat, k2 = k + 2 * l4.length := ⟨_, rfl⟩
  rw [← hk3] at hq ⊢
  have hk4 : 1 ≤ k2 := by omega
  have hk5 : k2 ≤ 10000000000 := by omega
  clear hk3
  go_enter Try.func10, Try.ntmps10
  go_wp2_with (first
    | (go_at_call 29; refine hq.mono ?_; rintro e w1 ⟨rfl, on4, hg⟩; replace D := CP.far D hg nb; have d5 : (_ : Option Value) = some (.slice A7 l7.length c7) := D 5 (by simp); replace e7 : OO _ _ _ _ _ _ _ := World.ownsRow.kept e7 hg (ne_flip hne))
    | (go_at_call 30; refine (markStringS_any A7 c7 k2 l7 _ base (OOf e7) hk4 hk5 (by omega)).mono ?_; rintro e w2 ⟨rfl, on7, hg2⟩))
  go_ret
  exact ⟨ret_int (by omega), w1, ⟨hg.os, hg.tape, hg.output, Nat.le_trans (by simp) hg.size, fun j hj hne2 => (hg.block j (by simp; omega) hne2).trans (Below.heap_alloc w _ j hj)⟩, hg2, World.ownsRow.kept on4 hg2 hne, on7⟩

set_option maxRecDepth 100000 in
set_option maxHeartbeats 1000000 in
theorem heldImage_any (a0 a1 a2 a3 : Int) (A4 : Option Addr) (c4 n4 : Nat) (A7 : Option Addr) (c7 n7 k : Nat) (w : World) (h4 : RR w 2 A4 n4 (flat fSector (mksSector k n4))) (h7 : RR w 1 A7 n7 (flat fS (mksString (k + 2 * n4) n7))) (hk1 : 1 ≤ k) (hk2 : k ≤ 1000000000) (hl4 : n4 ≤ 1000000000) (hl7 : n7 ≤ 1000000000) :
    Calls Try.prog 11 #[.agg #[.int .i64 a0, .int .i64 a1, .int .i64 a2, .int .i64 a3, .slice A4 n4 c4, .slice A7 n7 c7], .int .i64 (k : Int)] w fun e w' => e = .returned (.int .i64 ((k + 2 * n4 + 1 * n7 : Nat) : Int)) ∧ Below w.heap.size w w' := by
  have D := CP.made w [.int .i64 a0, .int .i64 a1, .int .i64 a2, .int .i64 a3, .slice A4 n4 c4, .slice A7 n7 c7] 27
  have hB := BB.start w
  have hq := heldDisc_any a0 a1 a2 a3 A4 c4 k n4 _ (h4.al (.cells #[.int .i64 a0, .int .i64 a1, .int .i64 a2, .int .i64 a3, .slice A4 n4 c4, .slice A7 n7 c7] 27)) hk1 (by omega) (by omega)
  obtain ⟨k2, hk3⟩ : ∃ k2 : Nat, k2 = k + 2 * n4 := ⟨_, rfl⟩
  rw [← hk3] at hq h7 ⊢
  have hk4 : 1 ≤ k2 := by omega
  have hk5 : k2 ≤ 10000000000 := by omega
  have hk6 : ¬ ((k2 : Int) < 0) := by omega
  have hk7 : ¬ ((k2 : Int) + (n7 : Int) < 0) := by omega
  clear hk3
  go_enter Try.func11, Try.ntmps11
  go_wp2_with (first
    | (go_at_call 31; refine hq.mono ?_; rintro e w1 ⟨rfl, hx⟩; replace D := D.next hx; have d5 : (_ : Option Value) = some (.slice A7 n7 c7) := D 5 (by simp); replace h7 := (h7.al _).next hx; replace hB := (hB.al _).next hx)
    | (go_at_call 32; refine (heldStringS_any A7 c7 k2 n7 _ h7 hk4 hk5 (by omega)).mono ?_; rintro e w2 ⟨rfl, hx2⟩; replace hB := hB.next hx2))
  go_ret
  exact ⟨ret_int (by omega), hB⟩
end Go.Proofs.Ytjjcedodjoieoaa
