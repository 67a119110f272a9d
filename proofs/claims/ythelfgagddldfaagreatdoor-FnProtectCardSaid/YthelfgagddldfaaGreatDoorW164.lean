/- Walks: one field of a sector. -/
import Derived.Test.YthelfgagddldfaaGreatDoorW161
namespace Go.Proofs.YthelfgagddldfaaGreatDoor
open Go.RowKit
set_option linter.unusedVariables false

set_option maxRecDepth 100000 in
set_option maxHeartbeats 1000000 in
theorem l11Sector2_any (b o : Nat) (x : Int) (w : World) (hx1 : 0 ≤ x) (hx2 : x ≤ 255) (h0 : w.cell? ⟨b, o, none⟩ = some (.int .i64 x)) (hf : w.frozen? ⟨b, o, none⟩ = false) :
    Calls Tryz.prog 52 #[.pointer (some ⟨b, o, none⟩), .int .i64 2] w fun e w' => e = .returned (.tuple #[]) ∧ w' = w.setCell ⟨b, o, none⟩ (.int .i64 (255 - x)) := by
  have hwr : IntKind.i64.wrap (255 - x) = 255 - x := IntWalk.i64_in _ (by omega)
  go_enter Tryz.func52, Tryz.ntmps52
  go_wp2
  exact bodyPost_end (v := .tuple #[]) (by simp [results, Tryz.results52, go_sem]) rfl ⟨rfl, rfl⟩

set_option maxRecDepth 100000 in
set_option maxHeartbeats 1000000 in
theorem l11Sector3_any (b o : Nat) (x : Bool) (w : World) (h0 : w.cell? ⟨b, o + 6, none⟩ = some (.bool x)) (hf : w.frozen? ⟨b, o + 6, none⟩ = false) :
    Calls Tryz.prog 52 #[.pointer (some ⟨b, o, none⟩), .int .i64 3] w fun e w' => e = .returned (.tuple #[]) ∧ w' = w.setCell ⟨b, o + 6, none⟩ (.bool true) := by
  go_enter Tryz.func52, Tryz.ntmps52
  go_wp2
  exact bodyPost_end (v := .tuple #[]) (by simp [results, Tryz.results52, go_sem]) rfl ⟨rfl, rfl⟩

set_option maxRecDepth 100000 in
set_option maxHeartbeats 1000000 in
theorem l11Sector4_any (b o : Nat) (x : Bool) (w : World) (h0 : w.cell? ⟨b, o + 7, none⟩ = some (.bool x)) (hf : w.frozen? ⟨b, o + 7, none⟩ = false) :
    Calls Tryz.prog 52 #[.pointer (some ⟨b, o, none⟩), .int .i64 4] w fun e w' => e = .returned (.tuple #[]) ∧ w' = w.setCell ⟨b, o + 7, none⟩ (.bool true) := by
  go_enter Tryz.func52, Tryz.ntmps52
  go_wp2
  exact bodyPost_end (v := .tuple #[]) (by simp [results, Tryz.results52, go_sem]) rfl ⟨rfl, rfl⟩

set_option maxRecDepth 100000 in
set_option maxHeartbeats 1000000 in
theorem l11Sector0_any (b o : Nat) (x : Bool) (k : Int) (w : World) (hk2 : k ≠ 2) (hk3 : k ≠ 3) (hk4 : k ≠ 4) (h0 : w.cell? ⟨b, o + 5, none⟩ = some (.bool x)) (hf : w.frozen? ⟨b, o + 5, none⟩ = false) :
    Calls Tryz.prog 52 #[.pointer (some ⟨b, o, none⟩), .int .i64 k] w fun e w' => e = .returned (.tuple #[]) ∧ w' = w.setCell ⟨b, o + 5, none⟩ (.bool true) := by
  have e2 : ((k == 2) : Bool) = false := by simpa using hk2
  have e3 : ((k == 3) : Bool) = false := by simpa using hk3
  have e4 : ((k == 4) : Bool) = false := by simpa using hk4
  go_enter Tryz.func52, Tryz.ntmps52
  go_wp2
  exact bodyPost_end (v := .tuple #[]) (by simp [results, Tryz.results52, go_sem]) rfl ⟨rfl, rfl⟩
end Go.Proofs.YthelfgagddldfaaGreatDoor
