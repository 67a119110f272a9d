/- Walks: a disk of chains: its blocks and its header. -/
import Derived.Test.YtbobehieaaaleaaGreatDoorW91
import Derived.Test.YtbobehieaaaleaaGreatDoorW89
import Derived.Test.YtbobehieaaaleaaGreatDoorQB
import Derived.Test.YtbobehieaaaleaaGreatDoorSString
namespace Go.Proofs.YtbobehieaaaleaaGreatDoor
open Go.RowKit
set_option linter.unusedVariables false

theorem Rd.of_bx {w : World} {g : Nat} {t : TypeId} {xs : List Value} (h : BX w g t xs) : Rd w w.heap.size 1 (some ⟨g, 0, none⟩) xs.length xs :=
  ⟨by simp, fun _ => ⟨g, 0, rfl, h.lt, fun j hj => by simpa using h.cell j hj⟩⟩
theorem has_one (s : Nat) : hasB [8, 16, 32] (s : Int) = oneOf s := by
  have h8 : decide (s = 8) = decide ((s : Int) = 8) := by rw [Bool.eq_iff_iff]; simp; omega
  have h16 : decide (s = 16) = decide ((s : Int) = 16) := by rw [Bool.eq_iff_iff]; simp; omega
  have h32 : decide (s = 32) = decide ((s : Int) = 32) := by rw [Bool.eq_iff_iff]; simp; omega
  rw [hasB, oneOf, h8, h16, h32]
  simp [Bool.or_assoc]
theorem size_string_any (A : Option Addr) (n cp : Nat) (w : World) : Calls Tryz.prog 25 #[.slice A n cp] w fun e w' => e = .returned (.int .i64 (n : Int)) ∧ w = w' := by
  go_enter Tryz.func25, Tryz.ntmps25
  go_wp2
  go_ret
  exact ⟨rfl, rfl⟩
set_option maxRecDepth 100000 in
set_option maxHeartbeats 1000000 in
theorem isBlocks_any (A : Option Addr) (cp : Nat) (l : List ByteArray) (w : World) (h : Rd w w.heap.size 1 A l.length (flat fS l)) (hn : l.length ≤ 1048576) :
    Calls Tryz.prog 23 #[.slice A l.length cp, .int .i64 8] w fun e w' => e = .returned (.bool (blkB l)) ∧ w = w' := by
  have hsz := fun W => size_string_any A l.length cp W
  have hwi := fun W => within_any (l.length : Int) 8 128 W
  cases hin : inB (l.length : Int) 8 128
  · have HR := Lib.hid (blk_1 hin)
    rw [hin] at hwi
    go_enter Tryz.func23, Tryz.ntmps23
    go_wp2_with (first
      | (go_at_call 25; refine (hsz _).mono ?_; rintro e w9 ⟨rfl, rfl⟩)
      | (go_at_call 41; refine (hwi _).mono ?_; rintro e w9 ⟨rfl, rfl⟩))
    go_ret
    exact ⟨ret_bool HR.out.symm, rfl⟩
  obtain ⟨n0, n1⟩ := inB_yes hin
  have hpos : 0 < l.length := by omega
  have hposi : (0 : Int) < (l.length : Int) := by omega
  rw [hin] at hwi
  have HIN := Lib.hid hin
  have HS0 := Lib.hid (s0_eq hpos)
  clear hin
  obtain ⟨b, off, rfl, hbb, hc⟩ := h.at_ fS_len rfl 0 hpos
  have hc0 := hc 0 _ (by omega) rfl
  clear hc
  simp only [Nat.zero_mul, Nat.add_zero] at hc0
  obtain ⟨b0, hb0⟩ : ∃ x, l[0] = x := ⟨_, rfl⟩
  have HB0 := Lib.hid hb0
  rw [hb0] at hc0
  clear hb0
  go_enter Tryz.func23, Tryz.ntmps23
  go_wp2_with (first
    | (go_at_call 25; refine (hsz _).mono ?_; rintro e w9 ⟨rfl, rfl⟩)
    | (go_at_call 41; refine (hwi _).mono ?_; rintro e w9 ⟨rfl, rfl⟩))
  clear hc0
  go_loop [7, 19] (fun _ i => ∃ k : Nat, k ≤ l.length ∧ i = .int .i64 k ∧ Hid (∀ j, (hj : j < k) → (hj' : j < l.length) → l[j].size = s0 l)) (fun _ i => l.length - (intOf i).toNat)
  case atStart => exact ⟨0, Nat.zero_le _, rfl, Lib.hid (fun j hj => absurd hj (by omega))⟩
  case round =>
    obtain ⟨k, hk, rfl, HI⟩ := hrel
    by_cases hlt : k < l.length
    · have hlti : (k : Int) < (l.length : Int) := by omega
      obtain ⟨b', off', hbo, hbb', hc⟩ := h.at_ fS_len rfl k hlt
      cases hbo
      have hc0 := hc 0 _ (by omega) rfl
      clear hc
      simp only [Nat.mul_one, Nat.add_zero] at hc0
      obtain ⟨bk, hbk⟩ : ∃ x, l[k] = x := ⟨_, rfl⟩
      rw [hbk] at hc0
      by_cases hx : bk.size = b0.size
      · have HN := Lib.hid (show ∀ j, (hj : j < k + 1) → (hj' : j < l.length) → l[j].size = s0 l from fun j hj hj' => by
          by_cases he : j = k
          · subst he
            rw [HS0.out, HB0.out, hbk, hx]
          · exact HI.out j (by omega) hj')
        have hxb : ((bk.size : Int) != (b0.size : Int)) = false := by simp; omega
        clear hbk hx
        go_wp2
        go_round
        case rel => exact ⟨k + 1, by omega, by go_num, HN⟩
        case measure => simp [intOf]; omega
      · have HR := Lib.hid (blk_3 hlt (by rw [HS0.out, HB0.out, hbk]; exact hx))
        have hxb : ((bk.size : Int) != (b0.size : Int)) = true := by simp; omega
        clear hbk hx
        go_wp2
        go_ret
        exact ⟨ret_bool HR.out.symm, rfl⟩
    · have HE := Lib.hid (blk_4 HIN.out (fun j hj => HI.out j (by omega) hj))
      have hlti : ¬ (k : Int) < (l.length : Int) := by omega
      have HO := Lib.hid (show oneOf (s0 l) = oneOf b0.size by rw [HS0.out, HB0.out])
      clear HI hsz hwi
      by_cases q8 : b0.size = 8
      · have HR := Lib.hid (show oneOf b0.size = true by rw [q8]; rfl)
        have r8 : ((b0.size : Int) == 8) = true := by simp; omega
        clear q8
        go_wp2
        go_ret
        exact ⟨ret_bool (by rw [HE.out, HO.out, HR.out]), rfl⟩
      have r8 : ((b0.size : Int) == 8) = false := by simp; omega
      by_cases q16 : b0.size = 16
      · have HR := Lib.hid (show oneOf b0.size = true by rw [q16]; rfl)
        have r16 : ((b0.size : Int) == 16) = true := by simp; omega
        clear q8 q16
        go_wp2
        go_ret
        exact ⟨ret_bool (by rw [HE.out, HO.out, HR.out]), rfl⟩
      have r16 : ((b0.size : Int) == 16) = false := by simp; omega
      by_cases q32 : b0.size = 32
      · have HR := Lib.hid (show oneOf b0.size = true by rw [q32]; rfl)
        have r32 : ((b0.size : Int) == 32) = true := by simp; omega
        clear q8 q16 q32
        go_wp2
        go_ret
        exact ⟨ret_bool (by rw [HE.out, HO.out, HR.out]), rfl⟩
      have r32 : ((b0.size : Int) == 32) = false := by simp; omega
      have HR := Lib.hid (show oneOf b0.size = false by simp [oneOf, q8, q16, q32])
      clear q8 q16 q32
      go_wp2
      go_ret
      exact ⟨ret_bool (by rw [HE.out, HO.out, HR.out]), rfl⟩
set_option maxRecDepth 100000 in
set_option maxHeartbeats 1000000 in
theorem l16Shape_any (b s : Nat) (w : World) :
    Calls Tryz.prog 18 #[.int .i64 (b : Int), .int .i64 (s : Int)] w fun e w' => e = .returned (.bool (inB (b : Int) 8 128 && oneOf s)) ∧ Below w.heap.size w w' := by
  have hwi := fun W => l00In_any (b : Int) 8 128 W
  cases hin : inB (b : Int) 8 128
  · rw [hin] at hwi
    go_enter Tryz.func18, Tryz.ntmps18
    go_wp2_with (go_at_call 35; refine (hwi _).mono ?_; rintro e w9 ⟨rfl, rfl⟩)
    go_ret
    exact ⟨rfl, (by with_reducible repeat (first | exact Below.refl _ _ | assumption | refine below_step ?_ (by assumption) | refine Below.drew ?_ | refine below_drewN ?_ _ | refine below_alloc ?_ _ | refine Below.setCell ?_ (by simp; try omega) _))⟩
  rw [hin] at hwi
  have FL := BX.made w 2 [.int .i64 8, .int .i64 16, .int .i64 32]
  have hh := l00Has_any (some ⟨w.heap.size, 0, none⟩) 3 [8, 16, 32] (s : Int) (w.alloc (.cells #[.int .i64 8, .int .i64 16, .int .i64 32] 2)) (Rd.of_bx FL) (by decide)
  rw [has_one] at hh
  go_enter Tryz.func18, Tryz.ntmps18
  go_wp2_with (first
    | (go_at_call 36; refine hh.mono ?_; rintro e w9 ⟨rfl, rfl⟩)
    | (go_at_call 35; refine (hwi _).mono ?_; rintro e w9 ⟨rfl, rfl⟩))
  go_ret
  exact ⟨rfl, (by with_reducible repeat (first | exact Below.refl _ _ | assumption | refine below_step ?_ (by assumption) | refine Below.drew ?_ | refine below_drewN ?_ _ | refine below_alloc ?_ _ | refine Below.setCell ?_ (by simp; try omega) _))⟩
set_option maxRecDepth 100000 in
set_option maxHeartbeats 1000000 in
theorem chainHeader_any (b s : Nat) (d x : Int) (w : World) (hb : b ≤ 128) (h6 : 6 ≤ s) (hs : s ≤ 32) :
    Calls Tryz.prog 26 #[.agg #[.int .i64 (b : Int), .int .i64 (s : Int), .int .i64 (chE b : Int), .int .i64 d, .int .i64 x]] w fun e w' => e = .returned (.string (hdS b s)) ∧ Below w.heap.size w w' := by
  have hE := chE_le b
  have hcv := run_two b (chE b) (by omega) (by omega) (w.alloc (.cells #[.int .i64 (b : Int), .int .i64 (s : Int), .int .i64 (chE b : Int), .int .i64 d, .int .i64 x] 33))
  rw [World.size_alloc] at hcv
  have hw1 : IntKind.u8.wrap (b : Int) = (b : Int) := IntWalk.u8_in _ (by omega)
  have hw2 : IntKind.u8.wrap (chE b : Int) = (chE b : Int) := IntWalk.u8_in _ (by omega)
  have hlt : crcOf (hd4 b) 65535 < 65536 := crcOf_lt _ _ (by omega)
  have H4 := Lib.hid (show (⟨#[67, 72]⟩ ++ ⟨[UInt8.ofNat b, UInt8.ofNat (chE b)].toArray⟩ : ByteArray) = hd4 b from rfl)
  have H6 := Lib.hid (show hd4 b ++ wordB (crcOf (hd4 b) 65535) ++ zerosB (s - 6) = hdS b s from rfl)
  have h4 := hd4_size b
  have hws : IntKind.i64.wrap ((s : Int) - 6) = ((s - 6 : Nat) : Int) := by rw [show (s : Int) - 6 = ((s - 6 : Nat) : Int) by omega]; exact i_nat _ (by omega)
  have hz6 : s - 6 ≤ 1000000 := by omega
  have F := BX.made w 33 [.int .i64 (b : Int), .int .i64 (s : Int), .int .i64 (chE b : Int), .int .i64 d, .int .i64 x]
  generalize hd4 b = S4 at *
  have hq1 := fun (W : World) => (show Calls Tryz.prog 44 #[.string S4, .int .i64 65535] W fun e w' => e = .returned (.int .i64 ((crcOf S4 65535 : Nat) : Int)) ∧ W = w' from crc16_any S4 65535 W (by omega) (by omega))
  generalize crcOf S4 65535 = cv at *
  have h2 : (wordB cv).size = 2 := rfl
  have hz2 := zerosB_size (s - 6)
  generalize chE b = E at *
  generalize s - 6 = z at *
  go_enter Tryz.func26, Tryz.ntmps26
  go_upto_region 2 with fail
  rw [H4.out]
  replace F := F.al (.cells #[.int .u8 (b : Int), .int .u8 (E : Int)] 5)
  have hB : Below w.heap.size w ((w.alloc (.cells #[.int .i64 (b : Int), .int .i64 (s : Int), .int .i64 (E : Int), .int .i64 d, .int .i64 x] 33)).alloc (.cells #[.int .u8 (b : Int), .int .u8 (E : Int)] 5)) := (by with_reducible repeat (first | exact Below.refl _ _ | assumption | refine below_step ?_ (by assumption) | refine Below.drew ?_ | refine below_drewN ?_ _ | refine below_alloc ?_ _ | refine Below.setCell ?_ (by simp; try omega) _))
  generalize (w.alloc (.cells #[.int .i64 (b : Int), .int .i64 (s : Int), .int .i64 (E : Int), .int .i64 d, .int .i64 x] 33)).alloc (.cells #[.int .u8 (b : Int), .int .u8 (E : Int)] 5) = w1 at *
  have k1 := gw_cell (show w1.cell? ⟨w.heap.size, 1, none⟩ = some (.int .i64 (s : Int)) from F.cell 1 (by simp))
  have q1 := fun (p' : Regrown) => qb_same p' (hq1 (Sort.grow (redrawn w1 p'.d) p'.os))
  have q2 := fun (p' : Regrown) => qb_below p' (PutWord_any cv (Sort.grow (redrawn w1 p'.d) p'.os) hlt)
  have q3 := fun (p' : Regrown) => qb_below p' (zeros_any z (Sort.grow (redrawn w1 p'.d) p'.os) hz6)
  refine wp_region_quiet_below (by kernel_rfl) (by kernel_rfl) ?_
  repeat (go_big_quiet_step ((first | with_reducible exact q1 _ | with_reducible exact q2 _ | with_reducible exact q3 _)))
  refine wpQuiet_nil ?_
  intro _ hw'
  obtain ⟨pq, hw''⟩ := hw'
  subst hw''
  have hb6 := gw_below w1 pq
  generalize Sort.grow (redrawn w1 pq.d) pq.os = w6 at hb6 ⊢
  go_wp2
  go_ret
  exact ⟨by rw [← H6.out]; rfl, below_step hB hb6⟩
end Go.Proofs.YtbobehieaaaleaaGreatDoor
