/- Walks: LayoutOf, LinkAt. -/
import Derived.Test.YtipkckoejkmhfaaW98
namespace Go.Proofs.Ytipkckoejkmhfaa
open Go.RowKit
set_option linter.unusedVariables false

def loN (ok : Bool) (v : Nat) : Int := if ok then (v : Int) else 0
def okC (l : List ByteArray) : Bool := decide (chC l = 0)
set_option maxRecDepth 100000 in
set_option maxHeartbeats 1000000 in
theorem spec_LayoutOf_any (A : Option Addr) (cp : Nat) (l : List ByteArray) (w : World) (h : Rd w w.heap.size 1 A l.length (flat fS l)) (hn : l.length ≤ 1048576) :
    Calls Try.prog 9 #[.slice A l.length cp] w fun e w' => e = .returned (.tuple #[.agg #[.int .i64 (loN (okC l) (l.length)), .int .i64 (loN (okC l) (s0 l)), .int .i64 (loN (okC l) (chE l.length)), .int .i64 (loN (okC l) (chD l.length (s0 l))), .int .i64 (loN (okC l) (chX l.length (s0 l)))], .int .i64 (chC l)]) ∧ Below w.heap.size w w' := by
  have F := BX.made w 25 [.int .i64 0, .int .i64 0, .int .i64 0, .int .i64 0, .int .i64 0]
  have hB : BB w (w.alloc (.cells #[.int .i64 0, .int .i64 0, .int .i64 0, .int .i64 0, .int .i64 0] 25)) := (show Below w.heap.size w (w.alloc (.cells #[.int .i64 0, .int .i64 0, .int .i64 0, .int .i64 0, .int .i64 0] 25)) from (by with_reducible repeat (first | exact Below.refl _ _ | assumption | refine below_step ?_ (by assumption) | refine Below.drew ?_ | refine below_drewN ?_ _ | refine below_alloc ?_ _ | refine Below.setCell ?_ (by simp; try omega) _)))
  have hop := l16Open_any A cp l (w.alloc (.cells #[.int .i64 0, .int .i64 0, .int .i64 0, .int .i64 0, .int .i64 0] 25)) ((h.below hB).more (Below.size hB)) hn
  by_cases hc : chC l = 0
  · have hok : okC l = true := decide_eq_true hc
    rw [hok, hc]
    rw [hc] at hop
    clear hok hc
    simp only [loN, if_true]
    generalize chE l.length = E at *
    generalize chD l.length (s0 l) = D at *
    generalize chX l.length (s0 l) = X at *
    generalize s0 l = s at *
    go_enter Try.func9, Try.ntmps9
    go_wp2_with (go_at_call 32; refine hop.mono ?_; rintro e w2 ⟨pv, rfl, hx, hyes, -⟩; obtain ⟨g, a, c, rfl, D0, -⟩ := hyes rfl; replace F := F.below hx F.lt; replace hB : BB w _ := BB.next hB hx; have d_0 : (_ : Option Value) = some (.int .i64 (l.length : Int)) := D0 0 (by simp); have d_1 : (_ : Option Value) = some (.int .i64 (s : Int)) := D0 1 (by simp); have d_2 : (_ : Option Value) = some (.int .i64 (E : Int)) := D0 2 (by simp); have d_3 : (_ : Option Value) = some (.int .i64 (D : Int)) := D0 3 (by simp); have d_4 : (_ : Option Value) = some (.int .i64 (X : Int)) := D0 4 (by simp); have z_0 : (_ : Option Value) = some (.int .i64 0) := F.cell 0 (by simp); have z_1 : (_ : Option Value) = some (.int .i64 0) := F.cell 1 (by simp); have z_2 : (_ : Option Value) = some (.int .i64 0) := F.cell 2 (by simp); have z_3 : (_ : Option Value) = some (.int .i64 0) := F.cell 3 (by simp); have z_4 : (_ : Option Value) = some (.int .i64 0) := F.cell 4 (by simp); have hfz := fun j => F.free j; have P := (((((F.put 0 (.int .i64 (l.length : Int))).put 1 (.int .i64 (s : Int))).put 2 (.int .i64 (E : Int))).put 3 (.int .i64 (D : Int))).put 4 (.int .i64 (X : Int))); have hBq := (BB.put (a := ⟨w.heap.size, 4, none⟩) (BB.put (a := ⟨w.heap.size, 3, none⟩) (BB.put (a := ⟨w.heap.size, 2, none⟩) (BB.put (a := ⟨w.heap.size, 1, none⟩) (BB.put (a := ⟨w.heap.size, 0, none⟩) hB (Nat.le_refl _) (.int .i64 (l.length : Int))) (Nat.le_refl _) (.int .i64 (s : Int))) (Nat.le_refl _) (.int .i64 (E : Int))) (Nat.le_refl _) (.int .i64 (D : Int))) (Nat.le_refl _) (.int .i64 (X : Int))); have r_0 : (_ : Option Value) = some (.int .i64 (l.length : Int)) := P.cell 0 (by simp); have r_1 : (_ : Option Value) = some (.int .i64 (s : Int)) := P.cell 1 (by simp); have r_2 : (_ : Option Value) = some (.int .i64 (E : Int)) := P.cell 2 (by simp); have r_3 : (_ : Option Value) = some (.int .i64 (D : Int)) := P.cell 3 (by simp); have r_4 : (_ : Option Value) = some (.int .i64 (X : Int)) := P.cell 4 (by simp))
    refine bodyPost_ret (v := .tuple #[.agg #[.int .i64 (l.length : Int), .int .i64 (s : Int), .int .i64 (E : Int), .int .i64 (D : Int), .int .i64 (X : Int)], .int .i64 0]) (by simp [results, Try.results9, go_sem, r_0, r_1, r_2, r_3, r_4]) rfl ⟨rfl, ?_⟩
    exact hBq
  · have hok : okC l = false := decide_eq_false hc
    rw [hok]
    simp only [loN, Bool.false_eq_true, if_false]
    generalize chC l = code at *
    have hcb : (code != 0) = true := by simpa using hc
    go_enter Try.func9, Try.ntmps9
    go_wp2_with (go_at_call 32; refine hop.mono ?_; rintro e w2 ⟨pv, rfl, hx, -, hno⟩; obtain rfl := hno hc; replace F := F.below hx F.lt; replace hB : BB w _ := BB.next hB hx; have z_0 : (_ : Option Value) = some (.int .i64 0) := F.cell 0 (by simp); have z_1 : (_ : Option Value) = some (.int .i64 0) := F.cell 1 (by simp); have z_2 : (_ : Option Value) = some (.int .i64 0) := F.cell 2 (by simp); have z_3 : (_ : Option Value) = some (.int .i64 0) := F.cell 3 (by simp); have z_4 : (_ : Option Value) = some (.int .i64 0) := F.cell 4 (by simp); have hfz := fun j => F.free j)
    have hBw : Below w.heap.size w w2 := hB
    refine bodyPost_ret (v := .tuple #[.agg #[.int .i64 0, .int .i64 0, .int .i64 0, .int .i64 0, .int .i64 0], .int .i64 code]) (by simp [results, Try.results9, go_sem, World.cell?_setCell_other, z_0, z_1, z_2, z_3, z_4]) rfl ⟨rfl, ?_⟩
    exact (by with_reducible repeat (first | exact Below.refl _ _ | assumption | refine below_step ?_ (by assumption) | refine Below.drew ?_ | refine below_drewN ?_ _ | refine below_alloc ?_ _ | refine Below.setCell ?_ (by simp; try omega) _))
set_option maxRecDepth 100000 in
set_option maxHeartbeats 1000000 in
theorem impl_LayoutOf_any (A : Option Addr) (cp : Nat) (l : List ByteArray) (w : World) (h : Rd w w.heap.size 1 A l.length (flat fS l)) (hn : l.length ≤ 1048576) (hcp : l.length ≤ cp) :
    Calls Try.prog 11 #[.slice A l.length cp] w fun e w' => e = .returned (.tuple #[.agg #[.int .i64 (loN (okC l) (l.length)), .int .i64 (loN (okC l) (s0 l)), .int .i64 (loN (okC l) (chE l.length)), .int .i64 (loN (okC l) (chD l.length (s0 l))), .int .i64 (loN (okC l) (chX l.length (s0 l)))], .int .i64 (chC l)]) ∧ Below w.heap.size w w' := by
  have F := BX.made w 25 [.int .i64 0, .int .i64 0, .int .i64 0, .int .i64 0, .int .i64 0]
  have hB : BB w (w.alloc (.cells #[.int .i64 0, .int .i64 0, .int .i64 0, .int .i64 0, .int .i64 0] 25)) := (show Below w.heap.size w (w.alloc (.cells #[.int .i64 0, .int .i64 0, .int .i64 0, .int .i64 0, .int .i64 0] 25)) from (by with_reducible repeat (first | exact Below.refl _ _ | assumption | refine below_step ?_ (by assumption) | refine Below.drew ?_ | refine below_drewN ?_ _ | refine below_alloc ?_ _ | refine Below.setCell ?_ (by simp; try omega) _)))
  have hop := openChains_any A cp l (w.alloc (.cells #[.int .i64 0, .int .i64 0, .int .i64 0, .int .i64 0, .int .i64 0] 25)) ((h.below hB).more (Below.size hB)) hn hcp
  by_cases hc : chC l = 0
  · have hok : okC l = true := decide_eq_true hc
    rw [hok, hc]
    rw [hc] at hop
    clear hok hc
    simp only [loN, if_true]
    generalize chE l.length = E at *
    generalize chD l.length (s0 l) = D at *
    generalize chX l.length (s0 l) = X at *
    generalize s0 l = s at *
    go_enter Try.func11, Try.ntmps11
    go_wp2_with (go_at_call 33; refine hop.mono ?_; rintro e w2 ⟨pv, rfl, hx, hyes, -⟩; obtain ⟨g, a, c, rfl, D0, -⟩ := hyes rfl; replace F := F.below hx F.lt; replace hB : BB w _ := BB.next hB hx; have d_0 : (_ : Option Value) = some (.int .i64 (l.length : Int)) := D0 0 (by simp); have d_1 : (_ : Option Value) = some (.int .i64 (s : Int)) := D0 1 (by simp); have d_2 : (_ : Option Value) = some (.int .i64 (E : Int)) := D0 2 (by simp); have d_3 : (_ : Option Value) = some (.int .i64 (D : Int)) := D0 3 (by simp); have d_4 : (_ : Option Value) = some (.int .i64 (X : Int)) := D0 4 (by simp); have z_0 : (_ : Option Value) = some (.int .i64 0) := F.cell 0 (by simp); have z_1 : (_ : Option Value) = some (.int .i64 0) := F.cell 1 (by simp); have z_2 : (_ : Option Value) = some (.int .i64 0) := F.cell 2 (by simp); have z_3 : (_ : Option Value) = some (.int .i64 0) := F.cell 3 (by simp); have z_4 : (_ : Option Value) = some (.int .i64 0) := F.cell 4 (by simp); have hfz := fun j => F.free j; have P := (((((F.put 0 (.int .i64 (l.length : Int))).put 1 (.int .i64 (s : Int))).put 2 (.int .i64 (E : Int))).put 3 (.int .i64 (D : Int))).put 4 (.int .i64 (X : Int))); have hBq := (BB.put (a := ⟨w.heap.size, 4, none⟩) (BB.put (a := ⟨w.heap.size, 3, none⟩) (BB.put (a := ⟨w.heap.size, 2, none⟩) (BB.put (a := ⟨w.heap.size, 1, none⟩) (BB.put (a := ⟨w.heap.size, 0, none⟩) hB (Nat.le_refl _) (.int .i64 (l.length : Int))) (Nat.le_refl _) (.int .i64 (s : Int))) (Nat.le_refl _) (.int .i64 (E : Int))) (Nat.le_refl _) (.int .i64 (D : Int))) (Nat.le_refl _) (.int .i64 (X : Int))); have r_0 : (_ : Option Value) = some (.int .i64 (l.length : Int)) := P.cell 0 (by simp); have r_1 : (_ : Option Value) = some (.int .i64 (s : Int)) := P.cell 1 (by simp); have r_2 : (_ : Option Value) = some (.int .i64 (E : Int)) := P.cell 2 (by simp); have r_3 : (_ : Option Value) = some (.int .i64 (D : Int)) := P.cell 3 (by simp); have r_4 : (_ : Option Value) = some (.int .i64 (X : Int)) := P.cell 4 (by simp))
    refine bodyPost_ret (v := .tuple #[.agg #[.int .i64 (l.length : Int), .int .i64 (s : Int), .int .i64 (E : Int), .int .i64 (D : Int), .int .i64 (X : Int)], .int .i64 0]) (by simp [results, Try.results11, go_sem, r_0, r_1, r_2, r_3, r_4]) rfl ⟨rfl, ?_⟩
    exact hBq
  · have hok : okC l = false := decide_eq_false hc
    rw [hok]
    simp only [loN, Bool.false_eq_true, if_false]
    generalize chC l = code at *
    have hcb : (code != 0) = true := by simpa using hc
    go_enter Try.func11, Try.ntmps11
    go_wp2_with (go_at_call 33; refine hop.mono ?_; rintro e w2 ⟨pv, rfl, hx, -, hno⟩; obtain rfl := hno hc; replace F := F.below hx F.lt; replace hB : BB w _ := BB.next hB hx; have z_0 : (_ : Option Value) = some (.int .i64 0) := F.cell 0 (by simp); have z_1 : (_ : Option Value) = some (.int .i64 0) := F.cell 1 (by simp); have z_2 : (_ : Option Value) = some (.int .i64 0) := F.cell 2 (by simp); have z_3 : (_ : Option Value) = some (.int .i64 0) := F.cell 3 (by simp); have z_4 : (_ : Option Value) = some (.int .i64 0) := F.cell 4 (by simp); have hfz := fun j => F.free j)
    have hBw : Below w.heap.size w w2 := hB
    refine bodyPost_ret (v := .tuple #[.agg #[.int .i64 0, .int .i64 0, .int .i64 0, .int .i64 0, .int .i64 0], .int .i64 code]) (by simp [results, Try.results11, go_sem, World.cell?_setCell_other, z_0, z_1, z_2, z_3, z_4]) rfl ⟨rfl, ?_⟩
    exact (by with_reducible repeat (first | exact Below.refl _ _ | assumption | refine below_step ?_ (by assumption) | refine Below.drew ?_ | refine below_drewN ?_ _ | refine below_alloc ?_ _ | refine Below.setCell ?_ (by simp; try omega) _))
end Go.Proofs.Ytipkckoejkmhfaa
