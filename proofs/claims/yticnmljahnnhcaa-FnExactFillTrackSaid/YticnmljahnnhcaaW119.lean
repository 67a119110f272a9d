/- Walks: the data of a track enter a disc (impl). -/
import Derived.Test.YticnmljahnnhcaaEntM
import Derived.Test.YticnmljahnnhcaaW10
import Derived.Test.YticnmljahnnhcaaW60
import Derived.Test.YticnmljahnnhcaaTrS
import Derived.Test.YticnmljahnnhcaaQB
import Derived.Test.YticnmljahnnhcaaPut
namespace Go.Proofs.Yticnmljahnnhcaa
open Go.RowKit
set_option linter.unusedVariables false

set_option maxHeartbeats 400000 in
theorem hasTrack_any (c h s : Int) (P T t : Nat) (A : Option Addr) (n cp : Nat) (w : World) (hT : c * h = (T : Int)) (hT16 : T ≤ 128) :
    Calls Try.prog 97 #[.agg #[.int .i64 c, .int .i64 h, .int .i64 (P : Int), .int .i64 s, .slice A n cp], .int .i64 (t : Int)] w fun e w' => e = .returned (.bool (decide (t < T))) ∧ Below w.heap.size w w' := by
  have hw : IntKind.i64.wrap (c * h) = (T : Int) := by rw [hT]; exact IntWalk.i64_in _ (by omega)
  have hw2 : IntKind.i64.wrap ((T : Int) - 1) = (T : Int) - 1 := IntWalk.i64_in _ (by omega)
  have hin : inB (t : Int) 0 ((T : Int) - 1) = decide (t < T) := by
    unfold inB
    rw [decide_eq_true (show (0 : Int) ≤ (t : Int) by omega), Bool.true_and]
    apply decide_eq_decide.2
    omega
  have HI := Lib.hid hin
  clear hT hin
  go_enter Try.func97, Try.ntmps97
  go_wp2_with (go_at_call 64; refine (within_any _ _ _ _).mono ?_; rintro e w1 ⟨rfl, rfl⟩)
  go_ret
  exact ⟨by rw [HI.out]; rfl, (by with_reducible repeat (first | exact Below.refl _ _ | assumption | refine below_step ?_ (by assumption) | refine Below.drew ?_ | refine below_drewN ?_ _ | refine below_alloc ?_ _ | refine Below.setCell ?_ (by simp; try omega) _))⟩

theorem oneSector (x : DSector) : ∀ u ∈ fSector x, u.oneCell' = true := by
  intro u hu
  simp only [fSector, List.mem_cons, List.not_mem_nil, or_false] at hu
  rcases hu with rfl | rfl <;> rfl
theorem str_empty {d : ByteArray} (h : d.size = 0) : d = ⟨#[]⟩ := by
  apply ByteArray.ext
  exact Array.eq_empty_of_size_eq_zero h
theorem str_some {d : ByteArray} (h : ¬ d.size = 0) : (d.toList == []) = false := by
  rw [beq_eq_false_iff_ne]
  intro e
  apply h
  rw [ByteArray.toList_eq] at e
  have := congrArg List.length e
  simpa using this
theorem FillC.at_ {w : World} {g N m : Nat} {e : TypeId} {xs : List Value} (h : FillC w g e N xs m) {j : Nat} {v : Value} (hj : j < m) (hx : xs[j]? = some v) : w.cell? ⟨g, j, none⟩ = some v := by
  obtain ⟨cs, hg, hs, hc⟩ := h
  rw [cell_of_row w g j cs e (0, 0) hg, hc j hj, hx]

end Go.Proofs.Yticnmljahnnhcaa
