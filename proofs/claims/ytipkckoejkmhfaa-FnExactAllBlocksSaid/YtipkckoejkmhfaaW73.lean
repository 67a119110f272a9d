/- Walks: ReadDeviceBlock. -/
import Derived.Test.YtipkckoejkmhfaaW72
import Derived.Deep.RegionHeld3
namespace Go.Proofs.Ytipkckoejkmhfaa
open Go.RowKit
set_option linter.unusedVariables false

def rdB (st : Int) : Bool := decide (st = 1) || decide (st = 4)
def rdD (ok : Bool) (l : List DSector) (m : List Int) (b : Int) : ByteArray × Int :=
  if ok then (if inB b 0 ((m.length : Int) - 1) then (if rdB (l.getD (m.getD b.toNat 0).toNat noSec).f1 then ((l.getD (m.getD b.toNat 0).toNat noSec).f0, 0) else (⟨#[]⟩, 10)) else (⟨#[]⟩, 2)) else (⟨#[]⟩, 1)
theorem rdD_1 {l : List DSector} {m : List Int} {b : Int} : rdD false l m b = (⟨#[]⟩, 1) := rfl
theorem rdD_2 {l : List DSector} {m : List Int} {b : Int} (h : inB b 0 ((m.length : Int) - 1) = false) : rdD true l m b = (⟨#[]⟩, 2) := by simp [rdD, h]
theorem rdD_3 {l : List DSector} {m : List Int} {B X : Nat} (h : inB (B : Int) 0 ((m.length : Int) - 1) = true) (hb : B < m.length) (hx : m[B] = (X : Int)) (hX : X < l.length) (g : rdB l[X].f1 = false) : rdD true l m B = (⟨#[]⟩, 10) := by
  simp [rdD, h, hb, hx, hX, g]
theorem rdD_4 {l : List DSector} {m : List Int} {B X : Nat} (h : inB (B : Int) 0 ((m.length : Int) - 1) = true) (hb : B < m.length) (hx : m[B] = (X : Int)) (hX : X < l.length) (g : rdB l[X].f1 = true) : rdD true l m B = (l[X].f0, 0) := by
  simp [rdD, h, hb, hx, hX, g]
set_option maxRecDepth 100000 in
set_option maxHeartbeats 1000000 in
theorem l15Readable_any (d : ByteArray) (st : Int) (w : World) : Calls Try.prog 46 #[.agg #[.string d, .int .i64 st]] w fun e w' => e = .returned (.bool (rdB st)) ∧ Below w.heap.size w w' := by
  by_cases h1 : st = 1
  · have HR := Lib.hid (show rdB st = true by simp [rdB, h1])
    subst h1
    go_enter Try.func46, Try.ntmps46
    go_wp2
    go_ret
    exact ⟨ret_bool HR.out.symm, (by with_reducible repeat (first | exact Below.refl _ _ | assumption | refine below_step ?_ (by assumption) | refine Below.drew ?_ | refine below_drewN ?_ _ | refine below_alloc ?_ _ | refine Below.setCell ?_ (by simp; try omega) _))⟩
  have c1 : (st == 1) = false := by simp [h1]
  by_cases h4 : st = 4
  · have HR := Lib.hid (show rdB st = true by simp [rdB, h4])
    subst h4
    go_enter Try.func46, Try.ntmps46
    go_wp2
    go_ret
    exact ⟨ret_bool HR.out.symm, (by with_reducible repeat (first | exact Below.refl _ _ | assumption | refine below_step ?_ (by assumption) | refine Below.drew ?_ | refine below_drewN ?_ _ | refine below_alloc ?_ _ | refine Below.setCell ?_ (by simp; try omega) _))⟩
  have HR := Lib.hid (show rdB st = false by simp [rdB, h1, h4])
  have c4 : (st == 4) = false := by simp [h4]
  go_enter Try.func46, Try.ntmps46
  go_wp2
  go_ret
  exact ⟨ret_bool HR.out.symm, (by with_reducible repeat (first | exact Below.refl _ _ | assumption | refine below_step ?_ (by assumption) | refine Below.drew ?_ | refine below_drewN ?_ _ | refine below_alloc ?_ _ | refine Below.setCell ?_ (by simp; try omega) _))⟩
set_option maxRecDepth 100000 in
set_option maxHeartbeats 1000000 in
theorem isRead_any (d : ByteArray) (st : Int) (w : World) : Calls Try.prog 52 #[.agg #[.string d, .int .i64 st]] w fun e w' => e = .returned (.bool (rdB st)) ∧ Below w.heap.size w w' := by
  by_cases h1 : st = 1
  · have HR := Lib.hid (show rdB st = true by simp [rdB, h1])
    subst h1
    go_enter Try.func52, Try.ntmps52
    go_wp2
    go_ret
    exact ⟨ret_bool HR.out.symm, (by with_reducible repeat (first | exact Below.refl _ _ | assumption | refine below_step ?_ (by assumption) | refine Below.drew ?_ | refine below_drewN ?_ _ | refine below_alloc ?_ _ | refine Below.setCell ?_ (by simp; try omega) _))⟩
  have c1 : (st == 1) = false := by simp [h1]
  by_cases h4 : st = 4
  · have HR := Lib.hid (show rdB st = true by simp [rdB, h4])
    subst h4
    go_enter Try.func52, Try.ntmps52
    go_wp2
    go_ret
    exact ⟨ret_bool HR.out.symm, (by with_reducible repeat (first | exact Below.refl _ _ | assumption | refine below_step ?_ (by assumption) | refine Below.drew ?_ | refine below_drewN ?_ _ | refine below_alloc ?_ _ | refine Below.setCell ?_ (by simp; try omega) _))⟩
  have HR := Lib.hid (show rdB st = false by simp [rdB, h1, h4])
  have c4 : (st == 4) = false := by simp [h4]
  go_enter Try.func52, Try.ntmps52
  go_wp2
  go_ret
  exact ⟨ret_bool HR.out.symm, (by with_reducible repeat (first | exact Below.refl _ _ | assumption | refine below_step ?_ (by assumption) | refine Below.drew ?_ | refine below_drewN ?_ _ | refine below_alloc ?_ _ | refine Below.setCell ?_ (by simp; try omega) _))⟩
end Go.Proofs.Ytipkckoejkmhfaa
