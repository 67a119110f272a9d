/- Walks of laws' helpers: an image is marked and looked at again. -/
import Derived.Test.YtjjcedodjoieoaaSStrM
import Derived.Test.YtjjcedodjoieoaaSImage
import Derived.Test.YtjjcedodjoieoaaSDisc
namespace Go.Proofs.Ytjjcedodjoieoaa
open Go.RowKit
set_option linter.unusedVariables false

set_option maxRecDepth 100000 in
set_option maxHeartbeats 1000000 in
theorem markImage_any (a0 a1 a2 a3 : Int) (A4 : Option Addr) (c4 : Nat) (l4 : List DSector) (A7 : Option Addr) (c7 : Nat) (l7 : List ByteArray) (k : Nat) (w : World) (base : Nat)
    (h4 : w.ownsRow base 90 2 (.slice A4 l4.length c4) l4.length (flat fSector l4)) (h7 : w.ownsRow base 9 1 (.slice A7 l7.length c7) l7.length (flat fS l7))
    (hne : (Value.slice A4 l4.length c4).ownBlock = none ∨ (Value.slice A4 l4.length c4).ownBlock ≠ (Value.slice A7 l7.length c7).ownBlock) (hk1 : 1 ≤ k) (hk2 : k ≤ 1000000000) (hl4 : l4.length ≤ 1000000000) (hl7 : l7.length ≤ 1000000000) :
    Calls Try.prog 10 #[.agg #[.int .i64 a0, .int .i64 a1, .int .i64 a2, .int .i64 a3, .slice A4 l4.length c4, .slice A7 l7.length c7], .int .i64 (k : Int)] w fun e w' => e = .returned (.int .i64 ((k + 2 * l4.length + 1 * l7.length : Nat) : Int)) ∧
      ∃ w1, w.grownBy w1 (Value.slice A4 l4.length c4).ownBlock ∧ w1.grownBy w' (Value.slice A7 l7.length c7).ownBlock ∧ w'.ownsRow base 90 2 (.slice A4 l4.length c4) l4.length (flat fSector (mksSector k l4.length)) ∧ w'.ownsRow base 9 1 (.slice A7 l7.length c7) l7.length (flat fS (mksString (k + 2 * l4.length) l7.length)) := by
  have D := CP.made w [.int .i64 a0, .int .i64 a1, .int .i64 a2, .int .i64 a3, .slice A4 l4.length c4, .slice A7 l7.length c7] 27
  have e0 := World.ownsRow.alloc h4 (.cells #[.int .i64 a0, .int .i64 a1, .int .i64 a2, .int .i64 a3, .slice A4 l4.length c4, .slice A7 l7.length c7] 27)
  have e7 := World.ownsRow.alloc h7 (.cells #[.int .i64 a0, .int .i64 a1, .int .i64 a2, .int .i64 a3, .slice A4 l4.length c4, .slice A7 l7.length c7] 27)
  have nb := OO.ne_box h4
  have hq := markDisc_any a0 a1 a2 a3 A4 c4 l4 k _ base e0 hk1 (by omega) (by omega)
  obtain ⟨k2, hk3⟩ : ∃ k2 : Nat, k2 = k + 2 * l4.length := ⟨_, rfl⟩
  rw [← hk3] at hq ⊢
  have hk4 : 1 ≤ k2 := by omega
  have hk5 : k2 ≤ 10000000000 := by omega
  clear hk3
  go_enter Try.func10, Try.ntmps10
  go_wp2_with (first
    | (go_at_call 29; refine hq.mono ?_; rintro e w1 ⟨rfl, on4, hg⟩; replace D := CP.far D hg nb; have d5 : (_ : Option Value) = some (.slice A7 l7.length c7) := D 5 (by simp); replace e7 : OO _ _ _ _ _ _ _ := World.ownsRow.kept e7 hg (ne_flip hne))
    | (go_at_call 30; refine (markStringS_any A7 c7 k2 l7 _ base (OOf e7) hk4 hk5 (by omega)).mono ?_; rintro e w2 ⟨rfl, on7, hg2⟩))
  go_ret
  exact ⟨ret_int (by omega), w1, ⟨hg.os, hg.tape, hg.output, Nat.le_trans (by simp) hg.size, fun j hj hne2 => (hg.block j (by simp; omega) hne2).trans (Below.heap_alloc w _ j hj)⟩, hg2, World.ownsRow.kept on4 hg2 hne, on7⟩

set_option maxRecDepth 100000 in
set_option maxHeartbeats 1000000 in
theorem heldImage_any (a0 a1 a2 a3 : Int) (A4 : Option Addr) (c4 n4 : Nat) (A7 : Option Addr) (c7 n7 k : Nat) (w : World) (h4 : RR w 2 A4 n4 (flat fSector (mksSector k n4))) (h7 : RR w 1 A7 n7 (flat fS (mksString (k + 2 * n4) n7))) (hk1 : 1 ≤ k) (hk2 : k ≤ 1000000000) (hl4 : n4 ≤ 1000000000) (hl7 : n7 ≤ 1000000000) :
    Calls Try.prog 11 #[.agg #[.int .i64 a0, .int .i64 a1, .int .i64 a2, .int .i64 a3, .slice A4 n4 c4, .slice A7 n7 c7], .int .i64 (k : Int)] w fun e w' => e = .returned (.int .i64 ((k + 2 * n4 + 1 * n7 : Nat) : Int)) ∧ Below w.heap.size w w' := by
  have D := CP.made w [.int .i64 a0, .int .i64 a1, .int .i64 a2, .int .i64 a3, .slice A4 n4 c4, .slice A7 n7 c7] 27
  have hB := BB.start w
  have hq := heldDisc_any a0 a1 a2 a3 A4 c4 k n4 _ (h4.al (.cells #[.int .i64 a0, .int .i64 a1, .int .i64 a2, .int .i64 a3, .slice A4 n4 c4, .slice A7 n7 c7] 27)) hk1 (by omega) (by omega)
  obtain ⟨k2, hk3⟩ : ∃ k2 : Nat, k2 = k + 2 * n4 := ⟨_, rfl⟩
  rw [← hk3] at hq h7 ⊢
  have hk4 : 1 ≤ k2 := by omega
  have hk5 : k2 ≤ 10000000000 := by omega
  have hk6 : ¬ ((k2 : Int) < 0) := by omega
  have hk7 : ¬ ((k2 : Int) + (n7 : Int) < 0) := by omega
  clear hk3
  go_enter Try.func11, Try.ntmps11
  go_wp2_with (first
    | (go_at_call 31; refine hq.mono ?_; rintro e w1 ⟨rfl, hx⟩; replace D := D.next hx; have d5 : (_ : Option Value) = some (.slice A7 n7 c7) := D 5 (by simp); replace h7 := (h7.al _).next hx; replace hB := (hB.al _).next hx)
    | (go_at_call 32; refine (heldStringS_any A7 c7 k2 n7 _ h7 hk4 hk5 (by omega)).mono ?_; rintro e w2 ⟨rfl, hx2⟩; replace hB := hB.next hx2))
  go_ret
  exact ⟨ret_int (by omega), hB⟩
end Go.Proofs.Ytjjcedodjoieoaa
