/- Walks: whether a list has a number. -/
import Derived.Test.YtbobehieaaaleaaDoorW31
namespace Go.Proofs.YtbobehieaaaleaaDoor
open Go.RowKit
set_option linter.unusedVariables false

/-- Whether a list has a number. -/
def hasB (m : List Int) (x : Int) : Bool := m.contains x
theorem has_next {m : List Int} {x : Int} {k : Nat} {R : Bool} (h : k < m.length) (hs : hasB (m.drop k) x = R) (g : ¬ m[k] = x) : hasB (m.drop (k + 1)) x = R := by
  rw [← hs, hasB, hasB, List.drop_eq_getElem_cons h, List.contains_cons, beq_false_of_ne (fun e => g e.symm), Bool.false_or]
theorem has_yes {m : List Int} {x : Int} {k : Nat} {R : Bool} (h : k < m.length) (hs : hasB (m.drop k) x = R) (g : m[k] = x) : R = true := by
  rw [← hs, hasB, List.drop_eq_getElem_cons h, List.contains_cons, g, beq_self_eq_true, Bool.true_or]
theorem has_no {m : List Int} {x : Int} {k : Nat} {R : Bool} (h : ¬ k < m.length) (hs : hasB (m.drop k) x = R) : R = false := by
  rw [← hs, hasB, List.drop_eq_nil_of_le (by omega)]
  rfl
set_option maxRecDepth 100000 in
set_option maxHeartbeats 400000 in
theorem l00Has_any (N : Option Addr) (q : Nat) (m : List Int) (x : Int) (w : World) (kr : Rd w w.heap.size 1 N m.length (flat fI m)) (kn : m.length ≤ 1048576) :
    Calls Tryd.prog 57 #[.slice N m.length q, .int .i64 x] w fun e w' => e = .returned (.bool (hasB m x)) ∧ w = w' := by
  go_enter Tryd.func57, Tryd.ntmps57
  go_wp2
  go_loop [5] (fun i => ∃ k : Nat, k ≤ m.length ∧ i = .int .i64 k ∧ Hid (hasB (m.drop k) x = hasB m x)) (fun i => m.length - (intOf i).toNat)
  case atStart => exact ⟨0, Nat.zero_le _, rfl, Lib.hid rfl⟩
  case round =>
    obtain ⟨k, hk, rfl, HS⟩ := hrel
    by_cases hlt : k < m.length
    · have hlti : (k : Int) < (m.length : Int) := by omega
      obtain ⟨bb, off, rfl, hbb, hc⟩ := kr.at_ fI_len rfl k hlt
      have hc0 := hc 0 _ (by omega) rfl
      clear hc
      simp only [Nat.mul_one, Nat.add_zero] at hc0
      by_cases hx : m[k] = x
      · have HN := Lib.hid (has_yes hlt HS.out hx)
        have hx2 : (m[k] == x) = true := by simp [hx]
        go_wp2
        go_ret
        exact ⟨ret_bool HN.out.symm, rfl⟩
      · have HN := Lib.hid (has_next hlt HS.out hx)
        have hx2 : (m[k] == x) = false := by simp [hx]
        go_wp2
        go_round
        case rel => exact ⟨k + 1, by omega, by go_num, HN⟩
        case measure => simp [intOf]; omega
    · have HE := Lib.hid (has_no hlt HS.out)
      have hlti : ¬ (k : Int) < (m.length : Int) := by omega
      go_wp2
      go_ret
      exact ⟨ret_bool HE.out.symm, rfl⟩

end Go.Proofs.YtbobehieaaaleaaDoor
