/- Walks of laws' helpers: a device is marked and looked at again. -/
import Derived.Test.YtipkckoejkmhfaaSInt64
import Derived.Test.YtipkckoejkmhfaaSDevice
import Derived.Test.YtipkckoejkmhfaaSDisc
namespace Go.Proofs.Ytipkckoejkmhfaa
open Go.RowKit
set_option linter.unusedVariables false

set_option maxRecDepth 100000 in
set_option maxHeartbeats 1000000 in
theorem markInt64S_cap (A : Option Addr) (c c0 k : Nat) (l : List Int) (w : World) (base : Nat) (h : w.ownsRow base 2 1 (.slice A l.length c0) l.length (flat fI l)) (hk1 : 1 ≤ k) (hk2 : k ≤ 10000000000) (hl : l.length ≤ 10000000000) :
    Calls Try.prog 23 #[.slice A l.length c, .int .i64 (k : Int)] w fun e w' => e = .returned (.int .i64 ((k + 1 * l.length : Nat) : Int)) ∧ w'.ownsRow base 2 1 (.slice A l.length c0) l.length (flat fI (mksInt64 k l.length)) ∧ w.grownBy w' (Value.slice A l.length c0).ownBlock := by
  go_enter Try.func23, Try.ntmps23
  go_wp2
  go_loopw [1, 5] (fun kk i wr => ∃ m q : Nat, m ≤ l.length ∧ k + m = q ∧ i = .int .i64 m ∧ kk = .int .i64 q ∧ wr.ownsRow base 2 1 (.slice A l.length c0) l.length (flat fI (mksInt64 k m ++ l.drop m)) ∧ w.grownBy wr (Value.slice A l.length c0).ownBlock) (fun _ i _ => l.length - (intOf i).toNat)
  case atStart => exact ⟨0, k, Nat.zero_le _, by omega, rfl, rfl, h, World.grownBy.refl _ _⟩
  case round =>
    obtain ⟨m, q, hm, hq, rfl, rfl, ho, hg⟩ := hrel
    by_cases hlt : m < l.length
    · obtain ⟨g, cap, hv⟩ := Go.Joins.ownsRow_form ho (by omega)
      cases hv
      have hput := mksInt64_put k m l hlt
      rw [hq] at hput
      obtain ⟨u0, hu0⟩ := own_some ho m (by omega)
      have hz0 := World.ownsRow.frozenAt ho m
      go_wp2
      go_roundw
      case rel =>
        refine ⟨m + 1, q + 1, by omega, by omega, by go_num, by go_num, ?_, hg.trans (World.ownsRow.stored ho _ _).2⟩
        rw [← hput]
        exact (World.ownsRow.stored ho _ _).1
      case measure => (simp [intOf] <;> omega)
    · obtain rfl : m = l.length := by omega
      rw [List.drop_length, List.append_nil] at ho
      go_wp2
      go_ret
      exact ⟨ret_int (by omega), ho, hg⟩

set_option maxRecDepth 100000 in
set_option maxHeartbeats 1000000 in
theorem markDevice_cap (a0 a1 a2 a3 : Int) (A4 : Option Addr) (c4 : Nat) (l4 : List DSector) (a5 a6 : Int) (A7 : Option Addr) (c7 c0 : Nat) (l7 : List Int) (k : Nat) (w : World) (base : Nat)
    (h4 : w.ownsRow base 90 2 (.slice A4 l4.length c4) l4.length (flat fSector l4)) (h7 : w.ownsRow base 2 1 (.slice A7 l7.length c0) l7.length (flat fI l7))
    (hne : (Value.slice A4 l4.length c4).ownBlock = none ∨ (Value.slice A4 l4.length c4).ownBlock ≠ (Value.slice A7 l7.length c0).ownBlock) (hk1 : 1 ≤ k) (hk2 : k ≤ 1000000000) (hl4 : l4.length ≤ 1000000000) (hl7 : l7.length ≤ 1000000000) :
    Calls Try.prog 30 #[.agg #[.int .i64 a0, .int .i64 a1, .int .i64 a2, .int .i64 a3, .slice A4 l4.length c4, .int .i64 a5, .int .i64 a6, .slice A7 l7.length c7], .int .i64 (k : Int)] w fun e w' => e = .returned (.int .i64 ((k + 2 * l4.length + 1 * l7.length : Nat) : Int)) ∧
      ∃ w1, w.grownBy w1 (Value.slice A4 l4.length c4).ownBlock ∧ w1.grownBy w' (Value.slice A7 l7.length c0).ownBlock ∧ w'.ownsRow base 90 2 (.slice A4 l4.length c4) l4.length (flat fSector (mksSector k l4.length)) ∧ w'.ownsRow base 2 1 (.slice A7 l7.length c0) l7.length (flat fI (mksInt64 (k + 2 * l4.length) l7.length)) := by
  have D := CP.made w [.int .i64 a0, .int .i64 a1, .int .i64 a2, .int .i64 a3, .slice A4 l4.length c4, .int .i64 a5, .int .i64 a6, .slice A7 l7.length c7] 57
  have e0 := World.ownsRow.alloc h4 (.cells #[.int .i64 a0, .int .i64 a1, .int .i64 a2, .int .i64 a3, .slice A4 l4.length c4, .int .i64 a5, .int .i64 a6, .slice A7 l7.length c7] 57)
  have e7 := World.ownsRow.alloc h7 (.cells #[.int .i64 a0, .int .i64 a1, .int .i64 a2, .int .i64 a3, .slice A4 l4.length c4, .int .i64 a5, .int .i64 a6, .slice A7 l7.length c7] 57)
  have nb := OO.ne_box h4
  have hq := markDisc_any a0 a1 a2 a3 A4 c4 l4 k _ base e0 hk1 (by omega) (by omega)
  obtain ⟨k2, hk3⟩ : ∃ k2 : Nat, k2 = k + 2 * l4.length := ⟨_, rfl⟩
  rw [← hk3] at hq ⊢
  have hk4 : 1 ≤ k2 := by omega
  have hk5 : k2 ≤ 10000000000 := by omega
  clear hk3
  go_enter Try.func30, Try.ntmps30
  go_wp2_with (first
    | (go_at_call 56; refine hq.mono ?_; rintro e w1 ⟨rfl, on4, hg⟩; replace D := CP.far D hg nb; have d7 : (_ : Option Value) = some (.slice A7 l7.length c7) := D 7 (by simp); replace e7 : OO _ _ _ _ _ _ _ := World.ownsRow.kept e7 hg (ne_flip hne))
    | (go_at_call 23; refine (markInt64S_cap A7 c7 c0 k2 l7 _ base (OOf e7) hk4 hk5 (by omega)).mono ?_; rintro e w2 ⟨rfl, on7, hg2⟩))
  go_ret
  exact ⟨ret_int (by omega), w1, ⟨hg.os, hg.tape, hg.output, Nat.le_trans (by simp) hg.size, fun j hj hne2 => (hg.block j (by simp; omega) hne2).trans (Below.heap_alloc w _ j hj)⟩, hg2, World.ownsRow.kept on4 hg2 hne, on7⟩

end Go.Proofs.Ytipkckoejkmhfaa
