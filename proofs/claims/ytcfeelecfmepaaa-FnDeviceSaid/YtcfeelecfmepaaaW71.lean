/- Walks: valid devices (impl). -/
import Derived.Test.YtcfeelecfmepaaaW70
import Derived.Test.YtcfeelecfmepaaaW32
import Derived.Test.YtcfeelecfmepaaaShelf2
namespace Go.Proofs.Ytcfeelecfmepaaa
open Go.RowKit
set_option linter.unusedVariables false

theorem flatI_get (m : List Int) (j : Nat) (h : j < m.length) : (flat fI m)[j]? = some (.int .i64 m[j]) := by
  have := flat_get fI 1 fI_len m j 0 h (by omega)
  simpa [fI] using this
theorem contains_rd (N : Option Addr) (c : Nat) (m : List Int) (k : Nat) (x : Int) (w : World) (B : Nat) (kr : Rd w B 1 N m.length (flat fI m)) (hk : k ≤ m.length) (hm : m.length ≤ 1048576) :
    Calls Try.prog 28 #[.slice N k c, .int .i64 x] w fun e w' => e = .returned (.bool ((m.take k).contains x)) ∧ w' = w := by
  rcases Nat.eq_zero_or_pos k with rfl | h0
  · rw [List.take_zero]
    exact Try.slices_Contains_int_empty N c x w
  · obtain ⟨b, off, rfl, _, hc⟩ := kr.2 (by omega)
    refine Try.slices_Contains_int b off k c m x w hk (by omega) (fun j hj => ?_)
    have h1 : j < (flat fI m).length := by rw [flat_length fI 1 fI_len]; omega
    rw [hc j h1]
    have h2 := flatI_get m j hj
    rw [List.getElem?_eq_getElem h1] at h2
    rw [h2]
    simp [List.getD, hj]

set_option maxRecDepth 100000 in
set_option maxHeartbeats 400000 in
theorem size_int_any (A : Option Addr) (n cp : Nat) (w : World) : Calls Try.prog 36 #[.slice A n cp] w fun e w' => e = .returned (.int .i64 (n : Int)) ∧ w = w' := by
  go_enter Try.func36, Try.ntmps36
  go_wp2
  go_ret
  exact ⟨rfl, rfl⟩

set_option maxRecDepth 100000 in
set_option maxHeartbeats 1000000 in
theorem impl_ValidDevice_any (c h p s : Int) (A : Option Addr) (cp : Nat) (l : List DSector) (k r : Int) (N : Option Addr) (q : Nat) (m : List Int) (w : World)
    (hr : Rd w w.heap.size 2 A l.length (flat fSector l)) (hn : l.length ≤ 1048576) (hok : ∀ x ∈ l, okSector x) (kr : Rd w w.heap.size 1 N m.length (flat fI m)) (kn : m.length ≤ 1048576) (hqc : m.length ≤ q) :
    Calls Try.prog 24 #[.agg #[.int .i64 c, .int .i64 h, .int .i64 p, .int .i64 s, .slice A l.length cp, .int .i64 k, .int .i64 r, .slice N m.length q]] w fun e w' => e = .returned (.bool (okV (okD c h p s l) l.length k r m)) ∧ Below w.heap.size w w' := by
  have hsz := fun W => size_sector_any A l.length cp W
  have hq0 := fun (W : World) h1 => impl_ValidDisc_any c h p s A cp l W h1 hn hok
  generalize okD c h p s l = d at hq0 ⊢
  have hr1 := hr.below (BB.al (BB.start w) (.cells #[.int .i64 c, .int .i64 h, .int .i64 p, .int .i64 s, .slice A l.length cp, .int .i64 k, .int .i64 r, .slice N m.length q] 29))
  have hd := CP.made w [.int .i64 c, .int .i64 h, .int .i64 p, .int .i64 s, .slice A l.length cp, .int .i64 k, .int .i64 r, .slice N m.length q] 29
  obtain ⟨wb, hwb⟩ : ∃ wb, wb = w.alloc (.cells #[.int .i64 c, .int .i64 h, .int .i64 p, .int .i64 s, .slice A l.length cp, .int .i64 k, .int .i64 r, .slice N m.length q] 29) := ⟨_, rfl⟩
  have hb0 : Below w.heap.size w wb := by rw [hwb]; exact (by with_reducible repeat (first | exact Below.refl _ _ | assumption | refine below_step ?_ (by assumption) | refine Below.drew ?_ | refine below_drewN ?_ _ | refine below_alloc ?_ _ | refine Below.setCell ?_ (by simp; try omega) _))
  have hs0 : w.heap.size < wb.heap.size := by rw [hwb, World.size_alloc]; omega
  replace hd : CP wb w.heap.size [.int .i64 c, .int .i64 h, .int .i64 p, .int .i64 s, .slice A l.length cp, .int .i64 k, .int .i64 r, .slice N m.length q] := by rw [hwb]; exact hd
  replace hr := (hr.below hb0).more (Nat.le_of_lt hs0)
  replace kr := (kr.below hb0).more (Nat.le_of_lt hs0)
  clear hr1
  have hq := fun (p' : Regrown) => qb_below p' (hq0 (Sort.grow (redrawn wb p'.d) p'.os) (hr.gw p'))
  have HW := Lib.hid hwb
  clear hwb hq0
  have hall : ∀ j (hj : j < 8), wb.cell? ⟨w.heap.size, j, none⟩ = some ([Value.int .i64 c, .int .i64 h, .int .i64 p, .int .i64 s, .slice A l.length cp, .int .i64 k, .int .i64 r, .slice N m.length q][j]'(by simpa using hj)) := fun j hj => hd j (by simpa using hj)
  have d0 : (_ : Option Value) = some (.int .i64 c) := hd 0 (by simp)
  have d1 : (_ : Option Value) = some (.int .i64 h) := hd 1 (by simp)
  have d2 : (_ : Option Value) = some (.int .i64 p) := hd 2 (by simp)
  have d3 : (_ : Option Value) = some (.int .i64 s) := hd 3 (by simp)
  have d4 : (_ : Option Value) = some (.slice A l.length cp) := hd 4 (by simp)
  have d5 : (_ : Option Value) = some (.int .i64 k) := hd 5 (by simp)
  have d6 : (_ : Option Value) = some (.int .i64 r) := hd 6 (by simp)
  have d7 : (_ : Option Value) = some (.slice N m.length q) := hd 7 (by simp)
  have k0 := gw_cell d0
  have k1 := gw_cell d1
  have k2 := gw_cell d2
  have k3 := gw_cell d3
  have k4 := gw_cell d4
  have k5 := gw_cell d5
  have k6 := gw_cell d6
  have k7 := gw_cell d7
  clear hall
  have hk1q := fun (p' : Regrown) => qb_same p' (within_any k 0 7 (Sort.grow (redrawn wb p'.d) p'.os))
  have hk2q := fun (p' : Regrown) => qb_same p' (within_any r 0 ((l.length : Int) - 1) (Sort.grow (redrawn wb p'.d) p'.os))
  have hk3q := fun (p' : Regrown) => qb_same p' (size_int_any N m.length q (Sort.grow (redrawn wb p'.d) p'.os))
  generalize l.length = n at *
  cases d
  · have HR := Lib.hid (okV_1 (N := n) (k := k) (r := r) (m := m))
    go_enter Try.func24, Try.ntmps24
    go_wp2_with (go_at_call 39; refine (hsz _).mono ?_; rintro e w1 ⟨rfl, rfl⟩; rw [← HW.out])
    refine wp_region_quiet_below (by kernel_rfl) (by kernel_rfl) ?_
    repeat (go_big_quiet_step ((first | with_reducible exact hq _ | with_reducible exact hk1q _ | with_reducible exact hk2q _ | with_reducible exact hk3q _)))
    refine wpQuiet_nil ?_
    intro _ hw'
    obtain ⟨pq, hw''⟩ := hw'
    subst hw''
    have hb := gw_below wb pq
    generalize Sort.grow (redrawn wb pq.d) pq.os = w2 at hb ⊢
    go_wp2
    go_ret
    exact ⟨ret_bool HR.out.symm, hb0.trans (hb.mono (Nat.le_of_lt hs0))⟩
  cases g1 : inB k 0 7
  · rw [g1] at hk1q
    have HR := Lib.hid (okV_2 (d := true) (N := n) (r := r) (m := m) g1)
    go_enter Try.func24, Try.ntmps24
    go_wp2_with (go_at_call 39; refine (hsz _).mono ?_; rintro e w1 ⟨rfl, rfl⟩; rw [← HW.out])
    refine wp_region_quiet_below (by kernel_rfl) (by kernel_rfl) ?_
    repeat (go_big_quiet_step ((first | with_reducible exact hq _ | with_reducible exact hk1q _ | with_reducible exact hk2q _ | with_reducible exact hk3q _)))
    refine wpQuiet_nil ?_
    intro _ hw'
    obtain ⟨pq, hw''⟩ := hw'
    subst hw''
    have hb := gw_below wb pq
    generalize Sort.grow (redrawn wb pq.d) pq.os = w2 at hb ⊢
    go_wp2
    go_ret
    exact ⟨ret_bool HR.out.symm, hb0.trans (hb.mono (Nat.le_of_lt hs0))⟩
  rw [g1] at hk1q
  cases g2 : inB r 0 ((n : Int) - 1)
  · rw [g2] at hk2q
    have HR := Lib.hid (okV_3 (d := true) (k := k) (m := m) g2)
    go_enter Try.func24, Try.ntmps24
    go_wp2_with (go_at_call 39; refine (hsz _).mono ?_; rintro e w1 ⟨rfl, rfl⟩; rw [← HW.out])
    refine wp_region_quiet_below (by kernel_rfl) (by kernel_rfl) ?_
    repeat (go_big_quiet_step ((first | with_reducible exact hq _ | with_reducible exact hk1q _ | with_reducible exact hk2q _ | with_reducible exact hk3q _)))
    refine wpQuiet_nil ?_
    intro _ hw'
    obtain ⟨pq, hw''⟩ := hw'
    subst hw''
    have hb := gw_below wb pq
    generalize Sort.grow (redrawn wb pq.d) pq.os = w2 at hb ⊢
    go_wp2
    go_ret
    exact ⟨ret_bool HR.out.symm, hb0.trans (hb.mono (Nat.le_of_lt hs0))⟩
  rw [g2] at hk2q
  obtain ⟨r0, r1⟩ := inB_yes g2
  have hsub : IntKind.i64.wrap ((n : Int) - r) = (n : Int) - r := IntWalk.i64_in _ (by omega)
  by_cases g3 : ((m.length : Nat) : Int) = (n : Int) - r
  case neg =>
    have g4 : (((m.length : Nat) : Int) != (n : Int) - r) = true := by simp [g3]
    have HR := Lib.hid (okV_4 (d := true) (k := k) g3)
    go_enter Try.func24, Try.ntmps24
    go_wp2_with (go_at_call 39; refine (hsz _).mono ?_; rintro e w1 ⟨rfl, rfl⟩; rw [← HW.out])
    refine wp_region_quiet_below (by kernel_rfl) (by kernel_rfl) ?_
    repeat (go_big_quiet_step ((first | with_reducible exact hq _ | with_reducible exact hk1q _ | with_reducible exact hk2q _ | with_reducible exact hk3q _)))
    refine wpQuiet_nil ?_
    intro _ hw'
    obtain ⟨pq, hw''⟩ := hw'
    subst hw''
    have hb := gw_below wb pq
    generalize Sort.grow (redrawn wb pq.d) pq.os = w2 at hb ⊢
    go_wp2
    go_ret
    exact ⟨ret_bool HR.out.symm, hb0.trans (hb.mono (Nat.le_of_lt hs0))⟩
  have HR := Lib.hid (okV_5 g1 g2 g3)
  have g4 : (((m.length : Nat) : Int) != (n : Int) - r) = false := by simp [g3]
  clear g3
  go_enter Try.func24, Try.ntmps24
  go_wp2_with (go_at_call 39; refine (hsz _).mono ?_; rintro e w1 ⟨rfl, rfl⟩; rw [← HW.out])
  refine wp_region_quiet_below (by kernel_rfl) (by kernel_rfl) ?_
  repeat (go_big_quiet_step ((first | with_reducible exact hq _ | with_reducible exact hk1q _ | with_reducible exact hk2q _ | with_reducible exact hk3q _)))
  refine wpQuiet_nil ?_
  intro _ hw'
  obtain ⟨pq, hw''⟩ := hw'
  subst hw''
  have hb := gw_below wb pq
  replace hd := hd.next hb
  replace kr := (kr.below hb).more hb.size
  have hs2 := hb.size
  generalize Sort.grow (redrawn wb pq.d) pq.os = w2 at hb hd kr hs2 ⊢
  clear d0 d1 d2 d3 d4 d5 d6 d7 k0 k1 k2 k3 k4 k5 k6 k7 hq hk1q hk2q hk3q hr
  have d7 : (_ : Option Value) = some (.slice N m.length q) := hd 7 (by simp)
  go_wp2_with fail
  go_loopw [4, 5, 41] (fun _ _ i wr => ∃ k : Nat, k ≤ m.length ∧ i = .int .i64 k ∧ wr = w2 ∧ Hid (mapB n (m.take 0) (m.drop 0) = mapB n (m.take k) (m.drop k))) (fun _ _ i _ => m.length - (intOf i).toNat)
  case atStart => exact ⟨0, Nat.zero_le _, rfl, rfl, Lib.hid rfl⟩
  case round =>
    obtain ⟨k, hk, rfl, rfl, HI⟩ := hrel
    by_cases hlt : k < m.length
    · obtain ⟨b, off, rfl, hbb, hc⟩ := kr.at_ fI_len rfl k hlt
      have hc0 := hc 0 _ (by omega) rfl
      clear hc
      simp only [Nat.mul_one, Nat.add_zero] at hc0
      have hkm : (k : Int) < (m.length : Int) := by omega
      have hk3 := fun W => within_any m[k] 0 ((n : Int) - 1) W
      have hk4 := fun c => contains_rd (some ⟨b, off, none⟩) c m k m[k] wr _ kr hk kn
      have hq1 : k ≤ q := by omega
      have hq2 : ¬ q = 0 := by omega
      have HM := Lib.hid (mapB_3 (n := n) k hlt)
      have HB1 := Lib.hid (mapB_1 (n := n) k hlt)
      have HB2 := Lib.hid (mapB_2 (n := n) k hlt)
      generalize m[k] = x at hc0 hk3 hk4 HM HB1 HB2
      cases g5 : inB x 0 ((n : Int) - 1)
      · have HS := Lib.hid (HR.out.trans (HI.out.trans (HB1.out g5)))
        rw [g5] at hk3
        go_wp2_with (go_at_call 35; refine (hk3 _).mono ?_; rintro e w3 ⟨rfl, rfl⟩)
        go_ret
        exact ⟨ret_bool HS.out.symm, hb0.trans (hb.mono (Nat.le_of_lt hs0))⟩
      rw [g5] at hk3
      cases g6 : (m.take k).contains x
      · rw [g6] at hk4
        have HN := Lib.hid (HI.out.trans (HM.out g5 g6))
        go_wp2_with (first | (go_at_call 35; refine (hk3 _).mono ?_; rintro e w3 ⟨rfl, rfl⟩) | (go_at_call 28; refine (hk4 _).mono ?_; rintro e w3 ⟨rfl, rfl⟩))
        go_roundw
        case rel => exact ⟨k + 1, by omega, by go_num, by trivial, HN⟩
        case measure => (simp [intOf] <;> omega)
      · rw [g6] at hk4
        have HS := Lib.hid (HR.out.trans (HI.out.trans (HB2.out g6)))
        go_wp2_with (first | (go_at_call 35; refine (hk3 _).mono ?_; rintro e w3 ⟨rfl, rfl⟩) | (go_at_call 28; refine (hk4 _).mono ?_; rintro e w3 ⟨rfl, rfl⟩))
        go_ret
        exact ⟨ret_bool HS.out.symm, hb0.trans (hb.mono (Nat.le_of_lt hs0))⟩
    · have HS := Lib.hid (HR.out.trans (HI.out.trans (mapB_end (n := n) k (by omega))))
      go_wp2
      go_ret
      exact ⟨ret_bool HS.out.symm, hb0.trans (hb.mono (Nat.le_of_lt hs0))⟩
  end Go.Proofs.Ytcfeelecfmepaaa
