/- Walks: decimals and texts cut at blanks (spec). -/
import Derived.Test.YtjcghghhpmghhaaDoorR1
import Derived.Deep.RegionLaw
import Derived.Deep.DeepCutAuto
namespace Go.Proofs.YtjcghghhpmghhaaDoor
open Go.RowKit Go.Lib

theorem bl_len (t : ByteArray) : t.data.toList.length = t.size := by rw [Array.length_toList]; rfl
theorem bl_get (t : ByteArray) (k : Nat) (h : k < t.size) : t.data.toList[k]'(by rw [bl_len]; exact h) = t[k] := rfl
theorem str_nilR (t : ByteArray) : (t.toList == []) = decide (t.size = 0) := by
  rw [ByteArray.toList_eq]
  cases h : decide (t.size = 0)
  · rw [decide_eq_false_iff_not] at h
    rw [beq_eq_false_iff_ne]
    intro e
    have h9 := bl_len t
    rw [e] at h9
    exact h h9.symm
  · rw [decide_eq_true_eq] at h
    have h9 := bl_len t
    rw [h] at h9
    rw [List.eq_nil_of_length_eq_zero h9]
    rfl
theorem cells_dig (d : Nat) (hd : d < 256) : (#[Value.int .u8 (d : Int)] : Array Value).toList = bcells [UInt8.ofNat d] := by
  simp [bcells, u8_of hd]
theorem run_one (d : Nat) (hd : d < 256) (w : World) :
    (convert 44 9 (.slice (some ⟨w.heap.size, 0, none⟩) 1 1)).run Tryd.prog (w.alloc (.cells #[.int .u8 (d : Int)] 5)) =
      .ok (.string ⟨[UInt8.ofNat d].toArray⟩) (w.alloc (.cells #[.int .u8 (d : Int)] 5)) :=
  run_b2s_lit Tryd.underlying44 Tryd.underlying5 Tryd.underlying9 w [UInt8.ofNat d] _ 1 (cells_dig d hd) rfl (by simp [maxLen])
theorem cv_cell {W : World} {b d : Nat} (hd : d < 256) (h : W.cell? ⟨b, 0, none⟩ = some (.int .u8 (d : Int))) : (convert 44 9 (.slice (some ⟨b, 0, none⟩) 1 1)).run Tryd.prog W = .ok (.string ⟨[UInt8.ofNat d].toArray⟩) W :=
  run_convert_bytes_back W 44 9 5 ⟨b, 0, none⟩ 1 [UInt8.ofNat d] Tryd.underlying44 Tryd.underlying5 Tryd.underlying9 (by
    intro j hj
    have hj0 : j = 0 := by simp at hj; omega
    subst hj0
    show W.cell? ((⟨b, 0, none⟩ : Addr).add 0) = _
    rw [show (⟨b, 0, none⟩ : Addr).add 0 = ⟨b, 0, none⟩ from rfl, h]
    simp [u8_of hd])
theorem run_oneS {d : Nat} {S : ByteArray} (hd : d < 256) (hS : (⟨[UInt8.ofNat d].toArray⟩ : ByteArray) = S) (w : World) :
    (convert 44 9 (.slice (some ⟨w.heap.size, 0, none⟩) 1 1)).run Tryd.prog (w.alloc (.cells #[.int .u8 (d : Int)] 5)) = .ok (.string S) (w.alloc (.cells #[.int .u8 (d : Int)] 5)) := by
  rw [← hS]
  exact run_one d hd w
theorem run_oneD {d : Nat} {S : ByteArray} (hd : d < 256) (hS : (⟨[UInt8.ofNat d].toArray⟩ : ByteArray) = S) (w : World) :
    (convert 44 9 (.slice (some ⟨w.heap.size, 0, none⟩) 1 1)).run Tryd.prog (World.drew (w.alloc (.cells #[.int .u8 (d : Int)] 5))) = .ok (.string S) (World.drew (w.alloc (.cells #[.int .u8 (d : Int)] 5))) := by
  rw [← hS]
  exact cv_cell hd (by simp)
theorem one_after {d : Nat} {S : ByteArray} {w W : World} (hd : d < 256) (hS : (⟨[UInt8.ofNat d].toArray⟩ : ByteArray) = S) (hx : Below (World.drew (w.alloc (.cells #[.int .u8 (d : Int)] 5))).heap.size (World.drew (w.alloc (.cells #[.int .u8 (d : Int)] 5))) W) :
    (convert 44 9 (.slice (some ⟨w.heap.size, 0, none⟩) 1 1)).run Tryd.prog W = .ok (.string S) W := by
  rw [← hS]
  refine cv_cell hd ((Below.cell hx (p := ⟨w.heap.size, 0, none⟩) ?_).trans ?_)
  · show w.heap.size < (w.alloc (.cells #[.int .u8 (d : Int)] 5)).heap.size
    rw [World.size_alloc]
    omega
  · show (w.alloc (.cells #[.int .u8 (d : Int)] 5)).cell? ⟨w.heap.size, 0, none⟩ = _
    simp
theorem app_arr (a b : List UInt8) : (⟨a.toArray⟩ : ByteArray) ++ ⟨b.toArray⟩ = ⟨(a ++ b).toArray⟩ := by
  apply ByteArray.ext
  simp
set_option maxRecDepth 100000 in
set_option maxHeartbeats 4000000 in
theorem l01Dec_any (n : Nat) : n < 10000000 → ∀ w : World, Calls Tryd.prog 26 #[.int .i64 (n : Int)] w fun e w' => e = .returned (.string ⟨(decDigits n).toArray⟩) ∧ Below w.heap.size w w' := by
  induction n using Nat.strongRecOn with
  | _ n ih =>
    intro hn w
    have hneg : ¬ (n : Int) < 0 := by omega
    by_cases h : n < 10
    · have hi : (n : Int) < 10 := by omega
      have hw1 : IntKind.i64.wrap (48 + (n : Int)) = ((48 + n : Nat) : Int) := by rw [IntWalk.i64_in _ (by omega)]; omega
      obtain ⟨d, hd⟩ : ∃ d, 48 + n = d := ⟨_, rfl⟩
      have hdl : d < 256 := by omega
      have hw2 : IntKind.u8.wrap (d : Int) = (d : Int) := IntWalk.u8_in _ (by omega)
      have HR := Lib.hid (show decDigits n = [UInt8.ofNat d] by rw [dd_small h, hd])
      rw [hd] at hw1
      have hcv := run_one d hdl w
      clear hd ih
      go_enter Tryd.func26, Tryd.ntmps26
      go_wp2
      go_ret
      exact ⟨by rw [HR.out]; rfl, (by with_reducible repeat (first | exact Below.refl _ _ | assumption | refine below_step ?_ (by assumption) | refine Below.drew ?_ | refine below_drewN ?_ _ | refine below_alloc ?_ _ | refine Below.setCell ?_ (by simp; try omega) _))⟩
    · have hi : ¬ (n : Int) < 10 := by omega
      have hcon := ih (n / 10) (by omega) (by omega)
      have HR := Lib.hid (dd_big h)
      have hq : Int.tdiv (n : Int) 10 = ((n / 10 : Nat) : Int) := by
        rw [Int.tdiv_eq_ediv_of_nonneg (by omega)]
        omega
      have hr : Int.tmod (n : Int) 10 = ((n % 10 : Nat) : Int) := by
        rw [Int.tmod_eq_emod_of_nonneg (by omega)]
        omega
      obtain ⟨q, hqe⟩ : ∃ q, n / 10 = q := ⟨_, rfl⟩
      obtain ⟨r, hre⟩ : ∃ r, n % 10 = r := ⟨_, rfl⟩
      rw [hqe] at hcon hq HR
      rw [hre] at hr HR
      have hr10 : r < 10 := by omega
      have hw0 : IntKind.i64.wrap (q : Int) = (q : Int) := IntWalk.i64_in _ (by omega)
      have hw1 : IntKind.i64.wrap (48 + (r : Int)) = ((48 + r : Nat) : Int) := by rw [IntWalk.i64_in _ (by omega)]; omega
      obtain ⟨d, hd⟩ : ∃ d, 48 + r = d := ⟨_, rfl⟩
      rw [hd] at hw1 HR
      have hdl : d < 256 := by omega
      have hw2 : IntKind.u8.wrap (d : Int) = (d : Int) := IntWalk.u8_in _ (by omega)
      have hsz : (decDigits q).length ≤ 7 := dd_len 6 q (by simp; omega)
      obtain ⟨Q, hQ⟩ : ∃ Q : ByteArray, (⟨(decDigits q).toArray⟩ : ByteArray) = Q := ⟨_, rfl⟩
      have hQs : Q.size ≤ 7 := by
        rw [← hQ]
        show (decDigits q).toArray.size ≤ 7
        rw [List.size_toArray]
        exact hsz
      obtain ⟨S, hS⟩ : ∃ S : ByteArray, (⟨[UInt8.ofNat d].toArray⟩ : ByteArray) = S := ⟨_, rfl⟩
      have hSs : S.size = 1 := by rw [← hS]; rfl
      have hsum : ¬ 9223372036854775807 < Q.size + S.size := by omega
      have hsumI : ¬ (9223372036854775807 : Int) < (Q.size : Int) + (S.size : Int) := by omega
      have HQ := Lib.hid (show Q ++ S = ⟨(decDigits n).toArray⟩ by rw [← hQ, ← hS, app_arr, HR.out])
      have HS := Lib.hid hS
      have s_0 := run_oneD hdl hS w
      clear hSs hS
      rw [hQ] at hcon
      clear hd hre hqe hsz hQ ih HR
      go_enter Tryd.func26, Tryd.ntmps26
      go_upto_region 5 with fail
      go_region_law (first | (go_simp; (go_at_call 26; (with_reducible refine (hcon _).mono ?_); rintro e w3 ⟨rfl, hx3⟩; have s_b := run_oneS hdl HS.out w3; (try have s_a := one_after hdl HS.out hx3))))
      all_goals
        go_wp2
        go_ret
        exact ⟨by rw [← HQ.out]; rfl, (by with_reducible repeat (first | exact Below.refl _ _ | assumption | refine below_step ?_ (by assumption) | refine Below.drew ?_ | refine below_drewN ?_ _ | refine below_alloc ?_ _ | refine Below.setCell ?_ (by simp; try omega) _))⟩
end Go.Proofs.YtjcghghhpmghhaaDoor
