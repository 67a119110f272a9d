/- Walks: DeltasOf of impl. -/
import Derived.Test.YtepipnigcgpncaaDifM
import Derived.Test.YtepipnigcgpncaaMem5
import Derived.Test.YtepipnigcgpncaaW14
namespace Go.Proofs.Ytepipnigcgpncaa
open Go.RowKit
set_option linter.unusedVariables false

theorem own_drew1 {w : World} {base : Nat} {e : TypeId} {size n : Nat} {v : Value} {xs : List Value} (h : w.ownsRow base e size v n xs) (a : Nat) : (w.drewN a).ownsRow base e size v n xs := h

set_option maxRecDepth 100000 in
set_option maxHeartbeats 1000000 in
theorem deltasOf_any (a b : ByteArray) (w : World) (hs : a.size = b.size) (hs2 : a.size ≤ 4096) :
    Calls Try.prog 72 #[.string a, .string b] w fun e w' => ∃ v, e = .returned v ∧ w'.ownsRow w.heap.size 72 2 v (dls a b 0).length (flat fDelta (dls a b 0)) ∧ Below w.heap.size w w' := by
  go_enter Try.func72, Try.ntmps72
  go_wp2
  go_loopw [5, 6, 7] (fun v i _ wr => ∃ (p : Nat) (out : List DDelta), p ≤ a.size + 1 ∧ out.length ≤ p ∧ i = .int .i64 p ∧ wr.ownsRow w.heap.size 72 2 v out.length (flat fDelta out) ∧ Below w.heap.size w wr ∧ Hid (out ++ dls a b p = dls a b 0)) (fun _ i _ _ => a.size + 1 - (intOf i).toNat)
  case atStart => exact ⟨0, [], by omega, by simp, rfl, World.ownsRow_nil _ _ _ _, Below.refl _ _, Lib.hid rfl⟩
  case round =>
    obtain ⟨p, out, hp, hol, rfl, hown, hb, HI⟩ := hrel
    have hsz := hb.size
    by_cases hlt : p < a.size
    · go_wp2
      go_loopw [7] (fun j wr' => ∃ n q : Nat, p + n ≤ a.size ∧ j = .int .i64 n ∧ wr' = wr.drewN q ∧ Hid (n + dif a b (p + n) = dif a b p)) (fun j _ => a.size - (intOf j).toNat)
      case atStart => exact ⟨0, 0, by omega, rfl, rfl, Lib.hid (by simp)⟩
      case round =>
        obtain ⟨n, q, hn, rfl, rfl, HL⟩ := hrel
        have hi2 : (0 : Int) ≤ (p : Int) + n := by omega
        by_cases hl2 : p + n < a.size
        · have ea := bt_eq a (p + n) hl2
          have eb := bt_eq b (p + n) (by omega)
          have hba := bt_lt a (p + n)
          have hbb := bt_lt b (p + n)
          have hi1 : (p : Int) + n < a.size := by omega
          have hi3 : (p : Int) + n < b.size := by omega
          by_cases heq : bt a (p + n) = bt b (p + n)
          · have HD := Lib.hid (show n = dif a b p by have := dif_eq a b (p + n) heq; have h2 := HL.out; omega)
            have g1 : (((bt a (p + n) : Nat) : Int) != ((bt b (p + n) : Nat) : Int)) = false := by simp; omega
            have g2 : (bt a (p + n) != bt b (p + n)) = false := by simp; omega
            have g3 : (((bt a (p + n) : Nat) : Int) == ((bt b (p + n) : Nat) : Int)) = true := by simp; omega
            have g4 : (bt a (p + n) == bt b (p + n)) = true := by simp; omega
            clear heq
            have hw1 : IntKind.i64.wrap ((p : Int) + n) = (p : Int) + n := IntWalk.i64_in _ (by omega)
            have hw3 : ((p : Int) + n).toNat = p + n := by omega
            by_cases hn0 : n = 0
            · have HN := Lib.hid (dls_none a b p out _ hlt (by have := HD.out; omega) HI.out)
              have gn : decide ((0 : Int) < (n : Int)) = false := by simp; omega
              have gn2 : decide (0 < n) = false := by simp; omega
              have gn3 : ¬ 0 < n := by omega
              clear hn0
              go_wp2_with fail
              go_quiet (fail)
              clear hw1 hw3
              go_wp2
              go_roundw
              case rel => exact ⟨p + 1, out, by omega, by omega, by go_num, own_drew1 hown _, (by repeat (first | exact Below.refl _ _ | refine below_step ?_ (by assumption) | assumption | refine Below.drew ?_ | refine below_drewN ?_ _ | refine below_alloc ?_ _ | refine Below.setCell ?_ (by simp; try omega) _)), HN⟩
              case measure => (simp [intOf] <;> omega)
            · have HN := Lib.hid (dls_some a b p n out _ hlt (by omega) HD.out HI.out)
              have gn : (0 : Int) < (n : Int) := by omega
              have gn2 : 0 < n := by omega
              have hpn : p + n ≤ b.size := by omega
              go_wp2_with (first
                | fail
                | (at_builtin; refine wpList_appF rfl _ _ _ rfl eltDelta (by omega) _ out rfl (own_drew1 hown _) _ _ ⟨(p : Int), b.extract p (p + n)⟩ _ rfl rfl rfl (by intro u hu; simp only [fDelta, List.mem_cons, List.not_mem_nil, or_false] at hu; rcases hu with rfl | rfl <;> rfl) (by omega) hsz ?_; intro v3 w3 hown3 hg3 hat3 hbl3))
              go_quiet (fail)
              clear hw1 hw3
              go_wp2_with (first
                | fail
                | (at_builtin; refine wpList_appF rfl _ _ _ rfl eltDelta (by omega) _ out rfl (own_drew1 hown _) _ _ ⟨(p : Int), b.extract p (p + n)⟩ _ rfl rfl rfl (by intro u hu; simp only [fDelta, List.mem_cons, List.not_mem_nil, or_false] at hu; rcases hu with rfl | rfl <;> rfl) (by omega) hsz ?_; intro v3 w3 hown3 hg3 hat3 hbl3))
              go_roundw
              case rel => exact ⟨p + n + 1, _, by omega, by simp; omega, by go_num, hown3, (below_drewN hb _).trans hbl3, HN⟩
              case measure => (simp [intOf] <;> omega)
          · have HN := Lib.hid (show (n + 1) + dif a b (p + (n + 1)) = dif a b p by have := dif_yes a b (p + n) hl2 heq; have h2 := HL.out; rw [show p + (n + 1) = p + n + 1 by omega]; omega)
            have g1 : (((bt a (p + n) : Nat) : Int) != ((bt b (p + n) : Nat) : Int)) = true := by simp; omega
            have g2 : (bt a (p + n) != bt b (p + n)) = true := by simp; omega
            have g3 : (((bt a (p + n) : Nat) : Int) == ((bt b (p + n) : Nat) : Int)) = false := by simp; omega
            have g4 : (bt a (p + n) == bt b (p + n)) = false := by simp; omega
            clear heq
            have hw1 : IntKind.i64.wrap ((p : Int) + n) = (p : Int) + n := IntWalk.i64_in _ (by omega)
            have hw3 : ((p : Int) + n).toNat = p + n := by omega
            go_wp2_with fail
            go_quiet (fail)
            clear hw1 hw3
            go_wp2
            go_roundw
            case rel => exact ⟨n + 1, _, by omega, by go_num, rfl, HN⟩
            case measure => (simp [intOf] <;> omega)
        · have HD := Lib.hid (show n = dif a b p by have := dif_end a b (p + n) hl2; have h2 := HL.out; omega)
          have g3 : decide ((p : Int) + n < a.size) = false := by simp; omega
          have g4 : decide ((p : Int) + n < b.size) = false := by simp; omega
          have hw1 : IntKind.i64.wrap ((p : Int) + n) = (p : Int) + n := IntWalk.i64_in _ (by omega)
          have hw3 : ((p : Int) + n).toNat = p + n := by omega
          by_cases hn0 : n = 0
          · have HN := Lib.hid (dls_none a b p out _ hlt (by have := HD.out; omega) HI.out)
            have gn : decide ((0 : Int) < (n : Int)) = false := by simp; omega
            have gn2 : decide (0 < n) = false := by simp; omega
            have gn3 : ¬ 0 < n := by omega
            clear hn0
            go_wp2_with fail
            go_quiet (fail)
            clear hw1 hw3
            go_wp2
            go_roundw
            case rel => exact ⟨p + 1, out, by omega, by omega, by go_num, own_drew1 hown _, (by repeat (first | exact Below.refl _ _ | refine below_step ?_ (by assumption) | assumption | refine Below.drew ?_ | refine below_drewN ?_ _ | refine below_alloc ?_ _ | refine Below.setCell ?_ (by simp; try omega) _)), HN⟩
            case measure => (simp [intOf] <;> omega)
          · have HN := Lib.hid (dls_some a b p n out _ hlt (by omega) HD.out HI.out)
            have gn : (0 : Int) < (n : Int) := by omega
            have gn2 : 0 < n := by omega
            have hpn : p + n ≤ b.size := by omega
            go_wp2_with (first
              | fail
              | (at_builtin; refine wpList_appF rfl _ _ _ rfl eltDelta (by omega) _ out rfl (own_drew1 hown _) _ _ ⟨(p : Int), b.extract p (p + n)⟩ _ rfl rfl rfl (by intro u hu; simp only [fDelta, List.mem_cons, List.not_mem_nil, or_false] at hu; rcases hu with rfl | rfl <;> rfl) (by omega) hsz ?_; intro v3 w3 hown3 hg3 hat3 hbl3))
            go_quiet (fail)
            clear hw1 hw3
            go_wp2_with (first
              | fail
              | (at_builtin; refine wpList_appF rfl _ _ _ rfl eltDelta (by omega) _ out rfl (own_drew1 hown _) _ _ ⟨(p : Int), b.extract p (p + n)⟩ _ rfl rfl rfl (by intro u hu; simp only [fDelta, List.mem_cons, List.not_mem_nil, or_false] at hu; rcases hu with rfl | rfl <;> rfl) (by omega) hsz ?_; intro v3 w3 hown3 hg3 hat3 hbl3))
            go_roundw
            case rel => exact ⟨p + n + 1, _, by omega, by simp; omega, by go_num, hown3, (below_drewN hb _).trans hbl3, HN⟩
            case measure => (simp [intOf] <;> omega)
    · have HR := Lib.hid (dls_end a b p out _ hlt HI.out)
      go_wp2
      go_ret
      exact ⟨_, rfl, by rw [← HR.out]; exact hown, hb⟩
end Go.Proofs.Ytepipnigcgpncaa
