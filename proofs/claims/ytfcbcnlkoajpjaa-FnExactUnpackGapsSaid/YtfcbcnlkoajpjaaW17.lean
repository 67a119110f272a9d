/- Walks: PackGaps of spec. -/
import Derived.Test.YtfcbcnlkoajpjaaW16
namespace Go.Proofs.Ytfcbcnlkoajpjaa
open Go.RowKit
set_option linter.unusedVariables false

theorem okGaps_eq (l : List Int) (h : ∀ k, (hk : k < l.length) → okGap l[k] = true) : okGaps l = decide (l.length ≤ 4000) := by
  by_cases hl : l.length ≤ 4000
  · rw [okGaps_all l hl h]; simp [hl]
  · rw [okGaps_long l (by omega)]; simp [hl]

set_option maxHeartbeats 1000000 in
theorem l14Gaps_any (A : Option Addr) (c : Nat) (l : List Int) (w : World) (B : Nat) (h : Rd w B 1 A l.length (flat fI l)) (hn : l.length ≤ 1048576) :
    Calls Try.prog 64 #[.slice A l.length c] w fun e w' => e = .returned (.bool (okGaps l)) ∧ w = w' := by
  go_enter Try.func64, Try.ntmps64
  go_wp2
  go_loop [3] (fun i => ∃ k : Nat, k ≤ l.length ∧ i = .int .i64 k ∧ Hid (∀ j, (hj : j < k) → (hj' : j < l.length) → okGap l[j] = true)) (fun i => l.length - (intOf i).toNat)
  case atStart => exact ⟨0, Nat.zero_le _, rfl, Lib.hid (fun j hj => absurd hj (by omega))⟩
  case round =>
    obtain ⟨k, hk, rfl, HA⟩ := hrel
    by_cases hlt : k < l.length
    · obtain ⟨b, off, rfl, hbb, hc⟩ := h.at_ fI_len rfl k hlt
      have hc0 := hc 0 _ (by omega) rfl
      simp only [Nat.mul_one, Nat.add_zero] at hc0
      clear hc
      by_cases hok : okGap l[k] = true
      · have HA2 := Lib.hid (show ∀ j, (hj : j < k + 1) → (hj' : j < l.length) → okGap l[j] = true from fun j hj hj' => by
          rcases Nat.lt_or_ge j k with h1 | h1
          · exact HA.out j h1 hj'
          · obtain rfl : j = k := by omega
            exact hok)
        go_wp2_with (first | (go_at_call 90; refine (l00In_any l[k] 1 2000000 _).mono ?_; rintro e w1 ⟨rfl, rfl⟩; rw [show inB l[k] 1 2000000 = true from hok]))
        go_round
        case rel => exact ⟨k + 1, by omega, by go_num, HA2⟩
        case measure => (simp [intOf] <;> omega)
      · have HR := Lib.hid (okGaps_bad l k hlt (by simpa using hok))
        go_wp2_with (first | (go_at_call 90; refine (l00In_any l[k] 1 2000000 _).mono ?_; rintro e w1 ⟨rfl, rfl⟩; rw [show inB l[k] 1 2000000 = false from by simpa [okGap] using hok]))
        go_ret
        exact ⟨ret_bool (by rw [HR.out]), rfl⟩
    · have HR := Lib.hid (okGaps_eq l (fun j hj => HA.out j (by omega) hj))
      go_wp2
      go_ret
      exact ⟨ret_bool (by rw [HR.out]; simp; omega), rfl⟩

set_option maxRecDepth 100000 in
set_option maxHeartbeats 1000000 in
theorem l14PackGaps_any (A : Option Addr) (c : Nat) (l : List Int) (w : World) (h : Rd w w.heap.size 1 A l.length (flat fI l)) (hok0 : okGaps l = true) :
    Calls Try.prog 65 #[.slice A l.length c] w fun e w' => e = .returned (.string ⟨(pgl 0 l).toArray⟩) ∧ Below w.heap.size w w' := by
  obtain ⟨hll, hall⟩ := okGaps_in l hok0
  have HA := Lib.hid hall
  clear hall hok0
  go_enter Try.func65, Try.ntmps65
  go_wp2
  go_loopw [3, 4, 5, 6] (fun v la i _ wr => ∃ (k : Nat) (last : Int) (out : List UInt8), k ≤ l.length ∧ out.length ≤ 4 * k ∧ 0 ≤ last ∧ last ≤ 2000000 ∧ i = .int .i64 k ∧ la = .int .i64 last ∧ OwnB wr w.heap.size 5 v out ∧ Below w.heap.size w wr ∧ Hid (out ++ pgl last (l.drop k) = pgl 0 l))
    (fun _ _ i _ _ => l.length - (intOf i).toNat)
  case atStart => exact ⟨0, 0, [], Nat.zero_le _, by simp, by omega, by omega, rfl, rfl, OwnB.lit w [] #[] rfl (Nat.le_refl _) (by simp), below_alloc (Below.refl _ _) _, Lib.hid rfl⟩
  case round =>
    obtain ⟨k, last, out, hk, hlen, hl0, hl1, rfl, rfl, hown, hbel, HI⟩ := hrel
    have hsz := hbel.size
    by_cases hlt : k < l.length
    · obtain ⟨b, off, rfl, hbb, hc⟩ := h.at_ fI_len rfl k hlt
      have hc0 := hc 0 _ (by omega) rfl
      simp only [Nat.mul_one, Nat.add_zero] at hc0
      clear hc
      have hcr := (hbel.cell (p := ⟨b, off + k, none⟩) hbb).trans hc0
      have hgi := okGap_in _ (HA.out k hlt)
      have hlz := zig_lt (l[k] - last) (by omega) (by omega)
      have HP := Lib.hid (pgl_start l k last out _ hlt HI.out)
      have hvl := vb_len _ hlz
      obtain ⟨g1, g2⟩ := hgi
      by_cases hneg : 2 * (l[k] - last) < 0
      all_goals
        have hz : _ = _ := (by first | exact zig_neg _ hneg | exact zig_pos _ hneg)
        go_wp2
        go_loopw [3, 6] (fun v2 n wr' => ∃ (m : Nat) (out2 : List UInt8), n = .int .i64 m ∧ m < 4000001 ∧ OwnB wr' w.heap.size 5 v2 out2 ∧ Below w.heap.size w wr' ∧ Hid (out2 ++ vb m = out ++ vb (zig (l[k] - last)))) (fun _ n _ => (intOf n).toNat)
        case atStart => exact ⟨zig (l[k] - last), out, by rw [hz], hlz, hown, hbel, Lib.hid rfl⟩
        case round =>
          obtain ⟨m, out2, rfl, hm, hown2, hbel2, HD⟩ := hrel
          have hsz2 := hbel2.size
          have hl2 : out2.length ≤ 4 * k + 4 := by
            have := congrArg List.length HD.out
            simp only [List.length_append] at this
            omega
          by_cases hsm : m < 128
          · have HD2 := Lib.hid (vb_done m _ _ hsm HD.out)
            have hl3 := congrArg List.length HD2.out
            simp only [List.length_append, List.length_singleton] at hl3
            go_wp2_with (at_builtin; go_must (refine wpList_appL rfl _ _ _ rfl eltB _ out2 rfl hown2 _ _ [UInt8.ofNat m] 1 1 rfl (impl_cells1 m _ (by first | rfl | omega) (by omega)) rfl (by simp; omega) hsz2 ?_); intro v3 w3 hown3 hg3 hat3 hbl3; have hc3 := ((hbel2.trans hbl3).cell (p := ⟨b, off + k, none⟩) hbb).trans hc0)
            go_roundw
            case rel => exact ⟨k + 1, l[k], _, by omega, by simp; omega, by omega, by omega, by go_num, rfl, hown3, hbel2.trans hbl3, Lib.hid (by rw [HD2.out]; exact HP.out)⟩
            case measure => (simp [intOf] <;> omega)
          · have HD2 := Lib.hid (vb_step m _ _ hsm HD.out)
            have e3 := vb_lt m
            have e4 : m / 128 < m := by omega
            go_wp2_with (at_builtin; go_must (refine wpList_appL rfl _ _ _ rfl eltB _ out2 rfl hown2 _ _ [UInt8.ofNat (m % 128 + 128)] 1 1 rfl (impl_cells1 (m % 128 + 128) _ (by omega) (by omega)) rfl (by simp; omega) hsz2 ?_); intro v3 w3 hown3 hg3 hat3 hbl3)
            go_roundw
            case rel => exact ⟨m / 128, _, by go_num, by omega, hown3, hbel2.trans hbl3, HD2⟩
            case measure => (simp [intOf] <;> omega)
    · have HR := Lib.hid (pgl_end l k last out _ hlt HI.out)
      have hcv := run_b2s (P := Try.prog) (dst := 9) Try.underlying83 Try.underlying5 Try.underlying9 hown
      go_wp2
      go_ret
      exact ⟨congrArg (fun o : List UInt8 => Ending.returned (.string ⟨o.toArray⟩)) HR.out, hbel⟩

end Go.Proofs.Ytfcbcnlkoajpjaa
