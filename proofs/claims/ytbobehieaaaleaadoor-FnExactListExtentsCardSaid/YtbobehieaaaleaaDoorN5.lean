/- Walks: the texts W96 W97 W98 W99 W105 W106 W107 W108 as one text. -/
import Derived.Test.YtbobehieaaaleaaDoorW91
import Derived.Test.YtbobehieaaaleaaDoorW89
import Derived.Test.YtbobehieaaaleaaDoorQB
import Derived.Test.YtbobehieaaaleaaDoorSString
import Derived.Test.YtbobehieaaaleaaDoorShelf
import Derived.Deep.RegionHeld3
import Derived.Deep.RegionLaw
import Derived.Deep.DeepCutAuto
import Derived.Test.YtbobehieaaaleaaDoorMem2
import Derived.Test.YtbobehieaaaleaaDoorMem3
import Derived.Test.YtbobehieaaaleaaDoorPut
import Derived.Deep.QuietTactic
namespace Go.Proofs.YtbobehieaaaleaaDoor
set_option linter.unusedVariables false
open Go.RowKit

theorem Rd.of_bx {w : World} {g : Nat} {t : TypeId} {xs : List Value} (h : BX w g t xs) : Rd w w.heap.size 1 (some ⟨g, 0, none⟩) xs.length xs :=
  ⟨by simp, fun _ => ⟨g, 0, rfl, h.lt, fun j hj => by simpa using h.cell j hj⟩⟩
theorem has_one (s : Nat) : hasB [8, 16, 32] (s : Int) = oneOf s := by
  have h8 : decide (s = 8) = decide ((s : Int) = 8) := by rw [Bool.eq_iff_iff]; simp; omega
  have h16 : decide (s = 16) = decide ((s : Int) = 16) := by rw [Bool.eq_iff_iff]; simp; omega
  have h32 : decide (s = 32) = decide ((s : Int) = 32) := by rw [Bool.eq_iff_iff]; simp; omega
  rw [hasB, oneOf, h8, h16, h32]
  simp [Bool.or_assoc]
theorem size_string_any (A : Option Addr) (n cp : Nat) (w : World) : Calls Tryd.prog 37 #[.slice A n cp] w fun e w' => e = .returned (.int .i64 (n : Int)) ∧ w = w' := by
  go_enter Tryd.func37, Tryd.ntmps37
  go_wp2
  go_ret
  exact ⟨rfl, rfl⟩
set_option maxRecDepth 100000 in
set_option maxHeartbeats 1000000 in
theorem isBlocks_any (A : Option Addr) (cp : Nat) (l : List ByteArray) (w : World) (h : Rd w w.heap.size 1 A l.length (flat fS l)) (hn : l.length ≤ 1048576) :
    Calls Tryd.prog 35 #[.slice A l.length cp, .int .i64 8] w fun e w' => e = .returned (.bool (blkB l)) ∧ w = w' := by
  have hsz := fun W => size_string_any A l.length cp W
  have hwi := fun W => within_any (l.length : Int) 8 128 W
  cases hin : inB (l.length : Int) 8 128
  · have HR := Lib.hid (blk_1 hin)
    rw [hin] at hwi
    go_enter Tryd.func35, Tryd.ntmps35
    go_wp2_with (first
      | (go_at_call 37; refine (hsz _).mono ?_; rintro e w9 ⟨rfl, rfl⟩)
      | (go_at_call 19; refine (hwi _).mono ?_; rintro e w9 ⟨rfl, rfl⟩))
    go_ret
    exact ⟨ret_bool HR.out.symm, rfl⟩
  obtain ⟨n0, n1⟩ := inB_yes hin
  have hpos : 0 < l.length := by omega
  have hposi : (0 : Int) < (l.length : Int) := by omega
  rw [hin] at hwi
  have HIN := Lib.hid hin
  have HS0 := Lib.hid (s0_eq hpos)
  clear hin
  obtain ⟨b, off, rfl, hbb, hc⟩ := h.at_ fS_len rfl 0 hpos
  have hc0 := hc 0 _ (by omega) rfl
  clear hc
  simp only [Nat.zero_mul, Nat.add_zero] at hc0
  obtain ⟨b0, hb0⟩ : ∃ x, l[0] = x := ⟨_, rfl⟩
  have HB0 := Lib.hid hb0
  rw [hb0] at hc0
  clear hb0
  go_enter Tryd.func35, Tryd.ntmps35
  go_wp2_with (first
    | (go_at_call 37; refine (hsz _).mono ?_; rintro e w9 ⟨rfl, rfl⟩)
    | (go_at_call 19; refine (hwi _).mono ?_; rintro e w9 ⟨rfl, rfl⟩))
  clear hc0
  go_loop [7, 19] (fun _ i => ∃ k : Nat, k ≤ l.length ∧ i = .int .i64 k ∧ Hid (∀ j, (hj : j < k) → (hj' : j < l.length) → l[j].size = s0 l)) (fun _ i => l.length - (intOf i).toNat)
  case atStart => exact ⟨0, Nat.zero_le _, rfl, Lib.hid (fun j hj => absurd hj (by omega))⟩
  case round =>
    obtain ⟨k, hk, rfl, HI⟩ := hrel
    by_cases hlt : k < l.length
    · have hlti : (k : Int) < (l.length : Int) := by omega
      obtain ⟨b', off', hbo, hbb', hc⟩ := h.at_ fS_len rfl k hlt
      cases hbo
      have hc0 := hc 0 _ (by omega) rfl
      clear hc
      simp only [Nat.mul_one, Nat.add_zero] at hc0
      obtain ⟨bk, hbk⟩ : ∃ x, l[k] = x := ⟨_, rfl⟩
      rw [hbk] at hc0
      by_cases hx : bk.size = b0.size
      · have HN := Lib.hid (show ∀ j, (hj : j < k + 1) → (hj' : j < l.length) → l[j].size = s0 l from fun j hj hj' => by
          by_cases he : j = k
          · subst he
            rw [HS0.out, HB0.out, hbk, hx]
          · exact HI.out j (by omega) hj')
        have hxb : ((bk.size : Int) != (b0.size : Int)) = false := by simp; omega
        clear hbk hx
        go_wp2
        go_round
        case rel => exact ⟨k + 1, by omega, by go_num, HN⟩
        case measure => simp [intOf]; omega
      · have HR := Lib.hid (blk_3 hlt (by rw [HS0.out, HB0.out, hbk]; exact hx))
        have hxb : ((bk.size : Int) != (b0.size : Int)) = true := by simp; omega
        clear hbk hx
        go_wp2
        go_ret
        exact ⟨ret_bool HR.out.symm, rfl⟩
    · have HE := Lib.hid (blk_4 HIN.out (fun j hj => HI.out j (by omega) hj))
      have hlti : ¬ (k : Int) < (l.length : Int) := by omega
      have HO := Lib.hid (show oneOf (s0 l) = oneOf b0.size by rw [HS0.out, HB0.out])
      clear HI hsz hwi
      by_cases q8 : b0.size = 8
      · have HR := Lib.hid (show oneOf b0.size = true by rw [q8]; rfl)
        have r8 : ((b0.size : Int) == 8) = true := by simp; omega
        clear q8
        go_wp2
        go_ret
        exact ⟨ret_bool (by rw [HE.out, HO.out, HR.out]), rfl⟩
      have r8 : ((b0.size : Int) == 8) = false := by simp; omega
      by_cases q16 : b0.size = 16
      · have HR := Lib.hid (show oneOf b0.size = true by rw [q16]; rfl)
        have r16 : ((b0.size : Int) == 16) = true := by simp; omega
        clear q8 q16
        go_wp2
        go_ret
        exact ⟨ret_bool (by rw [HE.out, HO.out, HR.out]), rfl⟩
      have r16 : ((b0.size : Int) == 16) = false := by simp; omega
      by_cases q32 : b0.size = 32
      · have HR := Lib.hid (show oneOf b0.size = true by rw [q32]; rfl)
        have r32 : ((b0.size : Int) == 32) = true := by simp; omega
        clear q8 q16 q32
        go_wp2
        go_ret
        exact ⟨ret_bool (by rw [HE.out, HO.out, HR.out]), rfl⟩
      have r32 : ((b0.size : Int) == 32) = false := by simp; omega
      have HR := Lib.hid (show oneOf b0.size = false by simp [oneOf, q8, q16, q32])
      clear q8 q16 q32
      go_wp2
      go_ret
      exact ⟨ret_bool (by rw [HE.out, HO.out, HR.out]), rfl⟩
set_option maxRecDepth 100000 in
set_option maxHeartbeats 1000000 in
theorem l16Shape_any (b s : Nat) (w : World) :
    Calls Tryd.prog 30 #[.int .i64 (b : Int), .int .i64 (s : Int)] w fun e w' => e = .returned (.bool (inB (b : Int) 8 128 && oneOf s)) ∧ Below w.heap.size w w' := by
  have hwi := fun W => l00In_any (b : Int) 8 128 W
  cases hin : inB (b : Int) 8 128
  · rw [hin] at hwi
    go_enter Tryd.func30, Tryd.ntmps30
    go_wp2_with (go_at_call 16; refine (hwi _).mono ?_; rintro e w9 ⟨rfl, rfl⟩)
    go_ret
    exact ⟨rfl, (by with_reducible repeat (first | exact Below.refl _ _ | assumption | refine below_step ?_ (by assumption) | refine Below.drew ?_ | refine below_drewN ?_ _ | refine below_alloc ?_ _ | refine Below.setCell ?_ (by simp; try omega) _))⟩
  rw [hin] at hwi
  have FL := BX.made w 2 [.int .i64 8, .int .i64 16, .int .i64 32]
  have hh := l00Has_any (some ⟨w.heap.size, 0, none⟩) 3 [8, 16, 32] (s : Int) (w.alloc (.cells #[.int .i64 8, .int .i64 16, .int .i64 32] 2)) (Rd.of_bx FL) (by decide)
  rw [has_one] at hh
  go_enter Tryd.func30, Tryd.ntmps30
  go_wp2_with (first
    | (go_at_call 57; refine hh.mono ?_; rintro e w9 ⟨rfl, rfl⟩)
    | (go_at_call 16; refine (hwi _).mono ?_; rintro e w9 ⟨rfl, rfl⟩))
  go_ret
  exact ⟨rfl, (by with_reducible repeat (first | exact Below.refl _ _ | assumption | refine below_step ?_ (by assumption) | refine Below.drew ?_ | refine below_drewN ?_ _ | refine below_alloc ?_ _ | refine Below.setCell ?_ (by simp; try omega) _))⟩
set_option maxRecDepth 100000 in
set_option maxHeartbeats 1000000 in
theorem chainHeader_any (b s : Nat) (d x : Int) (w : World) (hb : b ≤ 128) (h6 : 6 ≤ s) (hs : s ≤ 32) :
    Calls Tryd.prog 38 #[.agg #[.int .i64 (b : Int), .int .i64 (s : Int), .int .i64 (chE b : Int), .int .i64 d, .int .i64 x]] w fun e w' => e = .returned (.string (hdS b s)) ∧ Below w.heap.size w w' := by
  have hE := chE_le b
  have hcv := run_two b (chE b) (by omega) (by omega) (w.alloc (.cells #[.int .i64 (b : Int), .int .i64 (s : Int), .int .i64 (chE b : Int), .int .i64 d, .int .i64 x] 40))
  rw [World.size_alloc] at hcv
  have hw1 : IntKind.u8.wrap (b : Int) = (b : Int) := IntWalk.u8_in _ (by omega)
  have hw2 : IntKind.u8.wrap (chE b : Int) = (chE b : Int) := IntWalk.u8_in _ (by omega)
  have hlt : crcOf (hd4 b) 65535 < 65536 := crcOf_lt _ _ (by omega)
  have H4 := Lib.hid (show (⟨#[67, 72]⟩ ++ ⟨[UInt8.ofNat b, UInt8.ofNat (chE b)].toArray⟩ : ByteArray) = hd4 b from rfl)
  have H6 := Lib.hid (show hd4 b ++ wordB (crcOf (hd4 b) 65535) ++ zerosB (s - 6) = hdS b s from rfl)
  have h4 := hd4_size b
  have hws : IntKind.i64.wrap ((s : Int) - 6) = ((s - 6 : Nat) : Int) := by rw [show (s : Int) - 6 = ((s - 6 : Nat) : Int) by omega]; exact i_nat _ (by omega)
  have hz6 : s - 6 ≤ 1000000 := by omega
  have F := BX.made w 40 [.int .i64 (b : Int), .int .i64 (s : Int), .int .i64 (chE b : Int), .int .i64 d, .int .i64 x]
  generalize hd4 b = S4 at *
  have hq1 := fun (W : World) => (show Calls Tryd.prog 64 #[.string S4, .int .i64 65535] W fun e w' => e = .returned (.int .i64 ((crcOf S4 65535 : Nat) : Int)) ∧ W = w' from crc16_any S4 65535 W (by omega) (by omega))
  generalize crcOf S4 65535 = cv at *
  have h2 : (wordB cv).size = 2 := rfl
  have hz2 := zerosB_size (s - 6)
  generalize chE b = E at *
  generalize s - 6 = z at *
  go_enter Tryd.func38, Tryd.ntmps38
  go_upto_region 2 with fail
  rw [H4.out]
  replace F := F.al (.cells #[.int .u8 (b : Int), .int .u8 (E : Int)] 5)
  have hB : Below w.heap.size w ((w.alloc (.cells #[.int .i64 (b : Int), .int .i64 (s : Int), .int .i64 (E : Int), .int .i64 d, .int .i64 x] 40)).alloc (.cells #[.int .u8 (b : Int), .int .u8 (E : Int)] 5)) := (by with_reducible repeat (first | exact Below.refl _ _ | assumption | refine below_step ?_ (by assumption) | refine Below.drew ?_ | refine below_drewN ?_ _ | refine below_alloc ?_ _ | refine Below.setCell ?_ (by simp; try omega) _))
  generalize (w.alloc (.cells #[.int .i64 (b : Int), .int .i64 (s : Int), .int .i64 (E : Int), .int .i64 d, .int .i64 x] 40)).alloc (.cells #[.int .u8 (b : Int), .int .u8 (E : Int)] 5) = w1 at *
  have k1 := gw_cell (show w1.cell? ⟨w.heap.size, 1, none⟩ = some (.int .i64 (s : Int)) from F.cell 1 (by simp))
  have q1 := fun (p' : Regrown) => qb_same p' (hq1 (Sort.grow (redrawn w1 p'.d) p'.os))
  have q2 := fun (p' : Regrown) => qb_below p' (PutWord_any cv (Sort.grow (redrawn w1 p'.d) p'.os) hlt)
  have q3 := fun (p' : Regrown) => qb_below p' (zeros_any z (Sort.grow (redrawn w1 p'.d) p'.os) hz6)
  refine wp_region_quiet_below (by kernel_rfl) (by kernel_rfl) ?_
  repeat (go_big_quiet_step ((first | with_reducible exact q1 _ | with_reducible exact q2 _ | with_reducible exact q3 _)))
  refine wpQuiet_nil ?_
  intro _ hw'
  obtain ⟨pq, hw''⟩ := hw'
  subst hw''
  have hb6 := gw_below w1 pq
  generalize Sort.grow (redrawn w1 pq.d) pq.os = w6 at hb6 ⊢
  go_wp2
  go_ret
  exact ⟨by rw [← H6.out]; rfl, below_step hB hb6⟩
end Go.Proofs.YtbobehieaaaleaaDoor
namespace Go.Proofs.YtbobehieaaaleaaDoor
set_option linter.unusedVariables false
open Go.RowKit

theorem hdB_eq {l : List ByteArray} {b0 : ByteArray} {s : Nat} (hh : l.headD ⟨#[]⟩ = b0) (hs : s0 l = s) : hdB l = decide (b0 = hdS l.length s) := by rw [hdB, hh, hs]
theorem str_eq (a b : ByteArray) : (a.toList == b.toList) = decide (a = b) := by
  by_cases h : a = b
  · subst h
    simp
  · rw [decide_eq_false h]
    apply beq_false_of_ne
    intro e
    rw [ByteArray.toList_eq, ByteArray.toList_eq] at e
    exact h (by
      obtain ⟨⟨x⟩⟩ := a
      obtain ⟨⟨y⟩⟩ := b
      have : x = y := e
      rw [this])
theorem join_nil : ∀ l : List ByteArray, Lib.join (l.map (·.data.toList)) [] = jn l
  | [] => rfl
  | [a] => by simp [Lib.join, jn]
  | a :: b :: t => by
    have := join_nil (b :: t)
    simp only [List.map_cons] at this ⊢
    rw [show ∀ (x y : List UInt8) (r : List (List UInt8)), Lib.join (x :: y :: r) [] = x ++ Lib.join (y :: r) [] from fun x y r => by simp [Lib.join, List.intercalate], this]
    simp [jn]
theorem Rd.of_mark {w : World} {g : Nat} {e : TypeId} {l : List UInt8} (h : MarkB w g e l) : Rd w w.heap.size 1 (some ⟨g, 0, none⟩) l.length (bcells l) :=
  ⟨by rw [bcells_length, Nat.mul_one], fun _ => ⟨g, 0, rfl, h.lt, fun j hj => by
    have hj' : j < l.length := by rwa [bcells_length] at hj
    rw [Nat.zero_add, h.cell j hj']
    simp [bcells]⟩⟩
set_option maxRecDepth 100000 in
set_option maxHeartbeats 2000000 in
theorem openChains_any (A : Option Addr) (cp : Nat) (l : List ByteArray) (w : World) (h : Rd w w.heap.size 1 A l.length (flat fS l)) (hn : l.length ≤ 1048576) (hcp : l.length ≤ cp) :
    Calls Tryd.prog 18 #[.slice A l.length cp] w fun e w' => ∃ pv, e = .returned (.tuple #[pv, .int .i64 (chC l)]) ∧ Below w.heap.size w w' ∧ (chC l = 0 → ∃ (g : Nat) (a : Option Addr) (c : Nat), pv = .pointer (some ⟨g, 0, none⟩) ∧ CP w' g [.int .i64 (l.length : Int), .int .i64 (s0 l : Int), .int .i64 (chE l.length : Int), .int .i64 (chD l.length (s0 l) : Int), .int .i64 (chX l.length (s0 l) : Int), .slice a (jn l).length c] ∧ Rd w' w'.heap.size 1 a (jn l).length (bcells (jn l))) ∧ (chC l ≠ 0 → pv = .pointer none) := by
  have hib := isBlocks_any A cp l w h hn
  cases hbk : blkB l
  · rw [hbk] at hib
    have HR := Lib.hid (chC_1 hbk)
    clear hbk
    go_enter Tryd.func18, Tryd.ntmps18
    go_wp2_with (go_at_call 35; refine hib.mono ?_; rintro e w9 ⟨rfl, rfl⟩)
    (try simp only [Exit.inBlock, Exit.then]); refine bodyPost_ret (results_tmp2 rfl _ _ _) rfl ?_
    exact ⟨.pointer none, by rw [HR.out]; rfl, Below.refl _ _, fun e => absurd (HR.out.symm.trans e) (by decide), fun _ => rfl⟩
  rw [hbk] at hib
  obtain ⟨n8, n128, s3, hall⟩ := blk_yes hbk
  have hpos : 0 < l.length := by omega
  have hposi : (0 : Int) < (l.length : Int) := by omega
  obtain ⟨b, off, rfl, hbb, hc⟩ := h.at_ fS_len rfl 0 hpos
  have hc0 := hc 0 _ (by omega) rfl
  clear hc
  simp only [Nat.zero_mul, Nat.add_zero] at hc0
  obtain ⟨b0, hb0⟩ : ∃ x, l[0] = x := ⟨_, rfl⟩
  have hs0 : s0 l = b0.size := by rw [s0_eq hpos, hb0]
  have hhd : l.headD ⟨#[]⟩ = b0 := by rw [head_eq hpos, hb0]
  rw [hb0] at hc0
  rw [hs0] at s3 hall ⊢
  clear hb0
  have h6 : 6 ≤ b0.size := by omega
  have h32 : b0.size ≤ 32 := by omega
  have hlay := fun W => chainLayout_any l.length b0.size W n128 (by omega) h32
  have hdr := fun (d x : Int) W => chainHeader_any l.length b0.size d x W n128 h6 h32
  have HDB := Lib.hid (hdB_eq hhd hs0)
  have HBK := Lib.hid hbk
  have HJ := Lib.hid (show Lib.join (l.map (·.data.toList)) (⟨#[]⟩ : ByteArray).data.toList = jn l from join_nil l)
  have hjl : (jn l).length ≤ 4096 := by
    rw [jn_len l b0.size hall]
    have := Nat.mul_le_mul n128 h32
    omega
  obtain ⟨H, hH⟩ : ∃ H, hdS l.length b0.size = H := ⟨_, rfl⟩
  rw [hH] at hdr HDB
  clear hbk hhd hs0 hall s3 hH
  generalize chE l.length = E at *
  generalize chD l.length b0.size = D at *
  generalize chX l.length b0.size = X at *
  have hsz := fun W => size_string_any (some ⟨b, off, none⟩) l.length cp W
  go_enter Tryd.func18, Tryd.ntmps18
  go_upto_region 3 with (go_at_call 35; refine hib.mono ?_; rintro e w9 ⟨rfl, rfl⟩)
  clear hib
  go_cut [4] (fun p wx => ∃ (g : Nat), p = .pointer (some ⟨g, 0, none⟩) ∧ BB w wx ∧ CP wx g [.int .i64 (l.length : Int), .int .i64 (b0.size : Int), .int .i64 (E : Int), .int .i64 (D : Int), .int .i64 (X : Int)])
  case first =>
    have hB := BB.start w
    have s_B := hB.dr
    have t_B := fun (o : Obj) => (BB.al hB o).dr
    have s_0 : (_ : Option Value) = some (.string b0) := (hB.dr).cell hbb |>.trans hc0
    have t_0 := fun (o : Obj) => (show (_ : Option Value) = some (.string b0) from ((BB.al hB o).dr).cell hbb |>.trans hc0)
    go_region_held3 (fun W => BB w W ∧ W.cell? ⟨b, off, none⟩ = some (.string b0)) (refine ⟨?_, ?_⟩ <;> first | with_reducible assumption | with_reducible exact t_B _ | with_reducible exact t_0 _) (first
      | (go_at_call 37; refine (hsz _).mono ?_; rintro e w9 ⟨rfl, rfl⟩)
      | (go_at_call 36; have con := hlay w.drew; (with_reducible refine con.mono ?_); clear con; rintro e w3 ⟨rfl, hx3⟩; clear s_B t_B s_0 t_0; replace hB : BB w _ := BB.next (hB.dr) hx3; have s_B := hB; have t_B := fun (o : Obj) => BB.al hB o; have s_0 : (_ : Option Value) = some (.string b0) := (hB).cell hbb |>.trans hc0; have t_0 := fun (o : Obj) => (show (_ : Option Value) = some (.string b0) from (BB.al hB o).cell hbb |>.trans hc0))
      | (go_at_call 36; have con := fun (o : Obj) => hlay (w.alloc o).drew; (with_reducible refine (con _).mono ?_); clear con; rintro e w3 ⟨rfl, hx3⟩; clear s_B t_B s_0 t_0; have F : BX ((w.alloc (.cells #[.int .i64 0, .int .i64 0, .int .i64 0, .int .i64 0, .int .i64 0] 40)).drew) w.heap.size 40 [.int .i64 0, .int .i64 0, .int .i64 0, .int .i64 0, .int .i64 0] := BX.made w 40 [.int .i64 0, .int .i64 0, .int .i64 0, .int .i64 0, .int .i64 0]; replace F := F.below hx3 (by simp); replace hB : BB w _ := BB.next ((BB.al hB _).dr) hx3; have s_B := hB; have t_B := fun (o : Obj) => BB.al hB o; have s_0 : (_ : Option Value) = some (.string b0) := (hB).cell hbb |>.trans hc0; have t_0 := fun (o : Obj) => (show (_ : Option Value) = some (.string b0) from (BB.al hB o).cell hbb |>.trans hc0); have z_0 : (_ : Option Value) = some (.int .i64 0) := F.cell 0 (by simp); have z_1 : (_ : Option Value) = some (.int .i64 0) := F.cell 1 (by simp); have z_2 : (_ : Option Value) = some (.int .i64 0) := F.cell 2 (by simp); have z_3 : (_ : Option Value) = some (.int .i64 0) := F.cell 3 (by simp); have z_4 : (_ : Option Value) = some (.int .i64 0) := F.cell 4 (by simp); have hfz := fun j => F.free j; have P8 := (((((F.put 0 (.int .i64 (l.length : Int))).put 1 (.int .i64 (b0.size : Int))).put 2 (.int .i64 (E : Int))).put 3 (.int .i64 (D : Int))).put 4 (.int .i64 (X : Int))); have hBq := (((((hB.put (a := ⟨w.heap.size, 0, none⟩) (Nat.le_refl _) (.int .i64 (l.length : Int))).put (a := ⟨w.heap.size, 1, none⟩) (Nat.le_refl _) (.int .i64 (b0.size : Int))).put (a := ⟨w.heap.size, 2, none⟩) (Nat.le_refl _) (.int .i64 (E : Int))).put (a := ⟨w.heap.size, 3, none⟩) (Nat.le_refl _) (.int .i64 (D : Int))).put (a := ⟨w.heap.size, 4, none⟩) (Nat.le_refl _) (.int .i64 (X : Int))); have u_0 : (_ : Option Value) = some (.string b0) := (Below.cell hBq hbb).trans hc0; have mf := True.intro))
    all_goals
      go_wp2_with fail
      go_meet
      first
        | (have := mf; exact ⟨w.heap.size, rfl, hBq, BX.cp P8⟩)
        | exact ⟨w3.heap.size, rfl, hB.al _, CP.made w3 [.int .i64 (l.length : Int), .int .i64 (b0.size : Int), .int .i64 (E : Int), .int .i64 (D : Int), .int .i64 (X : Int)] 40⟩
  case rest =>
    obtain ⟨g, rfl, hB, D0⟩ := hcut
    have k0 := gw_cell (show wc.cell? ⟨b, off, none⟩ = some (.string b0) from (hB.cell hbb).trans hc0)
    have k1 := gw_cell (show wc.cell? ⟨g, 0, none⟩ = some (.int .i64 (l.length : Int)) from D0 0 (by simp))
    have k2 := gw_cell (show wc.cell? ⟨g, 1, none⟩ = some (.int .i64 (b0.size : Int)) from D0 1 (by simp))
    have k3 := gw_cell (show wc.cell? ⟨g, 2, none⟩ = some (.int .i64 (E : Int)) from D0 2 (by simp))
    have k4 := gw_cell (show wc.cell? ⟨g, 3, none⟩ = some (.int .i64 (D : Int)) from D0 3 (by simp))
    have k5 := gw_cell (show wc.cell? ⟨g, 4, none⟩ = some (.int .i64 (X : Int)) from D0 4 (by simp))
    have hq := fun (p' : Regrown) => qb_below p' (hdr (D : Int) (X : Int) (Sort.grow (redrawn wc p'.d) p'.os))
    go_wp2_with fail
    refine wp_region_quiet_below (by kernel_rfl) (by kernel_rfl) ?_
    repeat (go_big_quiet_step ((first | with_reducible exact hq _)))
    refine wpQuiet_nil ?_
    intro _ hw'
    obtain ⟨pq, hw''⟩ := hw'
    subst hw''
    have hb6 := gw_below wc pq
    generalize Sort.grow (redrawn wc pq.d) pq.os = w6 at hb6 ⊢
    clear hq k0 k1 k2 k3 k4 k5 hdr hlay hsz
    replace D0 := D0.next hb6
    replace hB : BB w _ := BB.next hB hb6
    cases hh : (b0.toList == H.toList)
    · have hhn : (b0.toList != H.toList) = true := by rw [bne, hh]; rfl
      have HR := Lib.hid (chC_2 HBK.out (by rw [HDB.out, ← str_eq, hh]))
      clear hh
      go_wp2
      (try simp only [Exit.inBlock, Exit.then]); refine bodyPost_ret (results_tmp2 rfl _ _ _) rfl ?_
      exact ⟨.pointer none, by rw [HR.out]; rfl, hB, fun e => absurd (HR.out.symm.trans e) (by decide), fun _ => rfl⟩
    have hhn : (b0.toList != H.toList) = false := by rw [bne, hh]; rfl
    have HR := Lib.hid (chC_3 HBK.out (by rw [HDB.out, ← str_eq, hh]))
    clear hh
    have hbk2 : b < w6.heap.size := Nat.lt_of_lt_of_le hbb (Below.size hB)
    have hcl : ∀ (j : Nat) (x : ByteArray), l[j]? = some x → w6.drew.cell? ⟨b, off + j, none⟩ = some (.string x) := by
      intro j x hx
      obtain ⟨hj, rfl⟩ := List.getElem?_eq_some_iff.1 hx
      obtain ⟨b', off', he, hb', hc⟩ := h.at_ fS_len rfl j hj
      cases he
      have h1 := hc 0 _ (by omega) rfl
      simp only [Nat.mul_one, Nat.add_zero] at h1
      exact (Below.cell (BB.dr hB) (p := ⟨b, off + j, none⟩) hbb).trans h1
    have con : Calls Tryd.prog 39 #[.slice (some ⟨b, off, none⟩) l.length cp, .string ⟨#[]⟩] w6.drew fun e w' => e = .returned (.string ⟨(jn l).toArray⟩) ∧ Below w6.drew.heap.size w6.drew w' := by
      rw [← HJ.out]
      exact Tryd.strings_Join b off cp l ⟨#[]⟩ w6.drew hcl hbk2 (by omega) hcp (by rw [HJ.out]; omega)
    have hJd : (⟨(jn l).toArray⟩ : ByteArray).data.toList = jn l := rfl
    generalize (⟨(jn l).toArray⟩ : ByteArray) = J at con hJd
    have hJs : J.size = (jn l).length := by rw [← hJd, Array.length_toList]; rfl
    have HJD := Lib.hid hJd
    have hJb : J.size ≤ 4096 := by omega
    have HJS := Lib.hid hJs
    clear hJd hJs hcl
    have hcv := fun (W : World) => run_bytes_of_string (P := Tryd.prog) W 9 41 5 J Tryd.underlying9 Tryd.underlying41 Tryd.underlying5
    go_wp2_with fail
    have s_0 : (_ : Option Value) = some (.int .i64 (l.length : Int)) := (D0.dr) 0 (by simp)
    have s_1 : (_ : Option Value) = some (.int .i64 (b0.size : Int)) := (D0.dr) 1 (by simp)
    have s_2 : (_ : Option Value) = some (.int .i64 (E : Int)) := (D0.dr) 2 (by simp)
    have s_3 : (_ : Option Value) = some (.int .i64 (D : Int)) := (D0.dr) 3 (by simp)
    have s_4 : (_ : Option Value) = some (.int .i64 (X : Int)) := (D0.dr) 4 (by simp)
    have t_0 := fun (o : Obj) => (show (_ : Option Value) = some (.int .i64 (l.length : Int)) from ((CP.al D0 o).dr) 0 (by simp))
    have t_1 := fun (o : Obj) => (show (_ : Option Value) = some (.int .i64 (b0.size : Int)) from ((CP.al D0 o).dr) 1 (by simp))
    have t_2 := fun (o : Obj) => (show (_ : Option Value) = some (.int .i64 (E : Int)) from ((CP.al D0 o).dr) 2 (by simp))
    have t_3 := fun (o : Obj) => (show (_ : Option Value) = some (.int .i64 (D : Int)) from ((CP.al D0 o).dr) 3 (by simp))
    have t_4 := fun (o : Obj) => (show (_ : Option Value) = some (.int .i64 (X : Int)) from ((CP.al D0 o).dr) 4 (by simp))
    have u_0 := fun (o o2 : Obj) => (show (_ : Option Value) = some (.int .i64 (l.length : Int)) from ((CP.al (CP.al D0 o) o2).dr) 0 (by simp))
    have u_1 := fun (o o2 : Obj) => (show (_ : Option Value) = some (.int .i64 (b0.size : Int)) from ((CP.al (CP.al D0 o) o2).dr) 1 (by simp))
    have u_2 := fun (o o2 : Obj) => (show (_ : Option Value) = some (.int .i64 (E : Int)) from ((CP.al (CP.al D0 o) o2).dr) 2 (by simp))
    have u_3 := fun (o o2 : Obj) => (show (_ : Option Value) = some (.int .i64 (D : Int)) from ((CP.al (CP.al D0 o) o2).dr) 3 (by simp))
    have u_4 := fun (o o2 : Obj) => (show (_ : Option Value) = some (.int .i64 (X : Int)) from ((CP.al (CP.al D0 o) o2).dr) 4 (by simp))
    go_region_law (go_simp; (go_at_call 39; refine con.mono ?_; rintro e w7 ⟨rfl, hx7⟩; clear s_0 t_0 u_0 s_1 t_1 u_1 s_2 t_2 u_2 s_3 t_3 u_3 s_4 t_4 u_4; replace D0 := D0.dr.next hx7; replace hB : BB w _ := BB.next (BB.dr hB) hx7; have s_0 : (_ : Option Value) = some (.int .i64 (l.length : Int)) := (D0.dr) 0 (by simp); have s_1 : (_ : Option Value) = some (.int .i64 (b0.size : Int)) := (D0.dr) 1 (by simp); have s_2 : (_ : Option Value) = some (.int .i64 (E : Int)) := (D0.dr) 2 (by simp); have s_3 : (_ : Option Value) = some (.int .i64 (D : Int)) := (D0.dr) 3 (by simp); have s_4 : (_ : Option Value) = some (.int .i64 (X : Int)) := (D0.dr) 4 (by simp); have t_0 := fun (o : Obj) => (show (_ : Option Value) = some (.int .i64 (l.length : Int)) from ((CP.al D0 o).dr) 0 (by simp)); have t_1 := fun (o : Obj) => (show (_ : Option Value) = some (.int .i64 (b0.size : Int)) from ((CP.al D0 o).dr) 1 (by simp)); have t_2 := fun (o : Obj) => (show (_ : Option Value) = some (.int .i64 (E : Int)) from ((CP.al D0 o).dr) 2 (by simp)); have t_3 := fun (o : Obj) => (show (_ : Option Value) = some (.int .i64 (D : Int)) from ((CP.al D0 o).dr) 3 (by simp)); have t_4 := fun (o : Obj) => (show (_ : Option Value) = some (.int .i64 (X : Int)) from ((CP.al D0 o).dr) 4 (by simp)); have u_0 := fun (o o2 : Obj) => (show (_ : Option Value) = some (.int .i64 (l.length : Int)) from ((CP.al (CP.al D0 o) o2).dr) 0 (by simp)); have u_1 := fun (o o2 : Obj) => (show (_ : Option Value) = some (.int .i64 (b0.size : Int)) from ((CP.al (CP.al D0 o) o2).dr) 1 (by simp)); have u_2 := fun (o o2 : Obj) => (show (_ : Option Value) = some (.int .i64 (E : Int)) from ((CP.al (CP.al D0 o) o2).dr) 2 (by simp)); have u_3 := fun (o o2 : Obj) => (show (_ : Option Value) = some (.int .i64 (D : Int)) from ((CP.al (CP.al D0 o) o2).dr) 3 (by simp)); have u_4 := fun (o o2 : Obj) => (show (_ : Option Value) = some (.int .i64 (X : Int)) from ((CP.al (CP.al D0 o) o2).dr) 4 (by simp)); have v_0 : (_ : Option Value) = some (.int .i64 (l.length : Int)) := D0 0 (by simp); have v_1 : (_ : Option Value) = some (.int .i64 (b0.size : Int)) := D0 1 (by simp); have v_2 : (_ : Option Value) = some (.int .i64 (E : Int)) := D0 2 (by simp); have v_3 : (_ : Option Value) = some (.int .i64 (D : Int)) := D0 3 (by simp); have v_4 : (_ : Option Value) = some (.int .i64 (X : Int)) := D0 4 (by simp)))
    all_goals
      go_wp2
      (try simp only [Exit.inBlock, Exit.then]); refine bodyPost_ret (results_tmp2 rfl _ _ _) rfl ?_
      have hBw : Below w.heap.size w w7 := hB
      have hmk := MarkB.made (e := 5) w7 J (grownCap w7 J.size 0 5)
      have hlt := hmk.lt
      refine ⟨.pointer (some ⟨w7.heap.size + 1, 0, none⟩), by rw [HR.out]; rfl, ?_, fun _ => ⟨w7.heap.size + 1, some ⟨w7.heap.size, 0, none⟩, grownCap w7 J.size 0 5, rfl, ?_, ?_⟩, fun e => absurd HR.out e⟩
      · exact (by with_reducible repeat (first | exact Below.refl _ _ | assumption | refine below_step ?_ (by assumption) | refine Below.drew ?_ | refine below_drewN ?_ _ | refine below_alloc ?_ _ | refine Below.setCell ?_ (by simp; try omega) _))
      · rw [← HJS.out]
        have hcp := CP.made (w7.alloc (.cells (bytesRow J (grownCap w7 J.size 0 5)) 5 ((bytesRow J (grownCap w7 J.size 0 5)).size, (bytesRow J (grownCap w7 J.size 0 5)).size + 1))) [.int .i64 (l.length : Int), .int .i64 (b0.size : Int), .int .i64 (E : Int), .int .i64 (D : Int), .int .i64 (X : Int), .slice (some ⟨w7.heap.size, 0, none⟩) J.size (grownCap w7 J.size 0 5)] 50
        rw [World.size_alloc] at hcp
        exact hcp.dr
      · have hrd := Rd.of_mark ((hmk.below (below_alloc (Below.refl (w7.alloc (.cells (bytesRow J (grownCap w7 J.size 0 5)) 5 ((bytesRow J (grownCap w7 J.size 0 5)).size, (bytesRow J (grownCap w7 J.size 0 5)).size + 1))).heap.size _) (.cells #[.int .i64 (l.length : Int), .int .i64 (b0.size : Int), .int .i64 (E : Int), .int .i64 (D : Int), .int .i64 (X : Int), .slice (some ⟨w7.heap.size, 0, none⟩) J.size (grownCap w7 J.size 0 5)] 50)) hlt))
        rw [HJD.out] at hrd
        exact hrd
end Go.Proofs.YtbobehieaaaleaaDoor
namespace Go.Proofs.YtbobehieaaaleaaDoor
set_option linter.unusedVariables false
open Go.RowKit

section
variable {P : Program} {w : World} {base : Nat} {e : TypeId} {v : Value} {l : List UInt8}
theorem step_appS {ops : Array Oper} {o : Oper} {a : Act} {K : Act → World → Prop} {Q : Exit → Act → World → Prop} {E0 : Prop} (hgd : o.guard = none) (s x : Operand) (t tx : TypeId)
    (ho : o.op = .call { callee := .builtin .append, args := #[s, x], argTypes := #[t, tx] }) (E : Elt P t e 1 1 (.int .u8 0)) (htx : P.underlying tx = some .string)
    (v : Value) (l : List UInt8) (hsv : a.eval s = v) (hown : OwnB w base e v l) (str : ByteArray) (hx : a.eval x = .string str)
    (hsz : l.length + str.size ≤ 1000000000) (hbase : base ≤ w.heap.size)
    (h : ∀ v' w', OwnB w' base e v' (l ++ str.data.toList) → Below base w w' → K (a.put o.dst v') w') :
    if Region.wanted o (yielded ops a.tmps) = true then Oper.wp P o a w K Q else E0 := by
  have hw : Region.wanted o (yielded ops a.tmps) = true := by simp [Region.wanted, hgd]
  rw [if_pos hw]
  obtain ⟨v', w', hr, h2, h3, h5⟩ := run_append_src (P := P) w base t tx o.type e (.int .u8 0) 1 1 E v l.length (bcells l) hown (.string str) str.size (byteCells str) (Src.ofString w htx str) (by unfold maxLen; omega) (by omega) hbase
  unfold Oper.wp execOp
  simp only [ho, resolve, invoke, builtin, Sem.run_bind, Sem.run_pure, Result.andThen_ok, List.map_toArray, List.map_cons, List.map_nil, hsv, hx, hr]
  refine h _ _ ?_ (below_of_grown hown hbase h3)
  have hl : (l ++ str.data.toList).length = l.length + str.size := by rw [List.length_append, Array.length_toList]; rfl
  unfold OwnB
  rw [hl, bcells_append, ← byteCells_eq]
  exact h2
end
theorem blk_5 {l : List ByteArray} {s : Nat} (hs : s0 l = s) (h : (inB (l.length : Int) 8 128 && oneOf s) = false) : blkB l = false := by
  rw [blkB, hs, h, Bool.false_and]
theorem blk_6 {l : List ByteArray} {s : Nat} (hs : s0 l = s) (h : (inB (l.length : Int) 8 128 && oneOf s) = true) (h3 : ∀ k, (hk : k < l.length) → l[k].size = s) : blkB l = true := by
  have h' := h
  rw [Bool.and_eq_true] at h'
  rw [blk_4 h'.1 (fun j hj => by rw [hs]; exact h3 j hj), hs]
  exact h'.2
set_option maxRecDepth 100000 in
set_option maxHeartbeats 2000000 in
theorem l16Open_any (A : Option Addr) (cp : Nat) (l : List ByteArray) (w : World) (h : Rd w w.heap.size 1 A l.length (flat fS l)) (hn : l.length ≤ 1048576) :
    Calls Tryd.prog 15 #[.slice A l.length cp] w fun e w' => ∃ pv, e = .returned (.tuple #[pv, .int .i64 (chC l)]) ∧ Below w.heap.size w w' ∧ (chC l = 0 → ∃ (g : Nat) (a : Option Addr) (c : Nat), pv = .pointer (some ⟨g, 0, none⟩) ∧ CP w' g [.int .i64 (l.length : Int), .int .i64 (s0 l : Int), .int .i64 (chE l.length : Int), .int .i64 (chD l.length (s0 l) : Int), .int .i64 (chX l.length (s0 l) : Int), .slice a (jn l).length c] ∧ Rd w' w'.heap.size 1 a (jn l).length (bcells (jn l))) ∧ (chC l ≠ 0 → pv = .pointer none) := by
  by_cases h0 : l.length = 0
  · have HR := Lib.hid (chC_1 (l := l) (blk_1 (by rw [h0]; rfl)))
    have q0 : ((l.length : Int) == 0) = true := by rw [h0]; rfl
    clear h0
    go_enter Tryd.func15, Tryd.ntmps15
    go_wp2
    (try simp only [Exit.inBlock, Exit.then]); refine bodyPost_ret (results_tmp2 rfl _ _ _) rfl ?_
    exact ⟨.pointer none, by rw [HR.out]; rfl, (by with_reducible repeat (first | exact Below.refl _ _ | assumption | refine below_step ?_ (by assumption) | refine Below.drew ?_ | refine below_drewN ?_ _ | refine below_alloc ?_ _ | refine Below.setCell ?_ (by simp; try omega) _)), fun e => absurd (HR.out.symm.trans e) (by decide), fun _ => rfl⟩
  have hpos : 0 < l.length := by omega
  have hposi : (0 : Int) < (l.length : Int) := by omega
  have q0 : ((l.length : Int) == 0) = false := beq_false_of_ne (by omega)
  obtain ⟨b, off, rfl, hbb, hc⟩ := h.at_ fS_len rfl 0 hpos
  have hc0 := hc 0 _ (by omega) rfl
  clear hc
  simp only [Nat.zero_mul, Nat.add_zero] at hc0
  obtain ⟨b0, hb0⟩ : ∃ x, l[0] = x := ⟨_, rfl⟩
  have hs0 : s0 l = b0.size := by rw [s0_eq hpos, hb0]
  have hhd : l.headD ⟨#[]⟩ = b0 := by rw [head_eq hpos, hb0]
  have hjh := fun k => jn_head l hpos k
  rw [hb0] at hc0 hjh
  rw [hs0]
  clear h0
  have F := BX.made w 43 [.int .i64 0, .int .i64 0, .int .i64 0, .int .i64 0, .int .i64 0, .slice none 0 0]
  have hB : BB w (w.alloc (.cells #[.int .i64 0, .int .i64 0, .int .i64 0, .int .i64 0, .int .i64 0, .slice none 0 0] 43)) := (show Below w.heap.size w (w.alloc (.cells #[.int .i64 0, .int .i64 0, .int .i64 0, .int .i64 0, .int .i64 0, .slice none 0 0] 43)) from (by with_reducible repeat (first | exact Below.refl _ _ | assumption | refine below_step ?_ (by assumption) | refine Below.drew ?_ | refine below_drewN ?_ _ | refine below_alloc ?_ _ | refine Below.setCell ?_ (by simp; try omega) _)))
  have ho0 : OwnB (w.alloc (.cells #[.int .i64 0, .int .i64 0, .int .i64 0, .int .i64 0, .int .i64 0, .slice none 0 0] 43)) (w.heap.size + 1) 5 (.slice none 0 0) [] := OwnB.nil _ _ _
  have c0 := (hB.cell (p := ⟨b, off, none⟩) hbb).trans hc0
  have hsh := fun W => l16Shape_any l.length b0.size W
  cases hS : (inB (l.length : Int) 8 128 && oneOf b0.size)
  · have HR := Lib.hid (chC_1 (blk_5 hs0 hS))
    rw [hS] at hsh
    clear hS
    go_enter Tryd.func15, Tryd.ntmps15
    go_wp2_with (go_at_call 30; refine (hsh _).mono ?_; rintro e w2 ⟨rfl, hx2⟩)
    (try simp only [Exit.inBlock, Exit.then]); refine bodyPost_ret (results_tmp2 rfl _ _ _) rfl ?_
    have hBw : Below w.heap.size w w2 := BB.next hB hx2
    exact ⟨.pointer none, by rw [HR.out]; rfl, hBw, fun e => absurd (HR.out.symm.trans e) (by decide), fun _ => rfl⟩
  rw [hS] at hsh
  have hS2 := hS
  rw [Bool.and_eq_true] at hS2
  obtain ⟨n8, n128⟩ := inB_yes hS2.1
  have s3 := oneOf_yes hS2.2
  clear hS2
  have h6 : 6 ≤ b0.size := by omega
  have h32 : b0.size ≤ 32 := by omega
  have hn128 : l.length ≤ 128 := by omega
  clear s3 n8 n128
  have HS := Lib.hid hS
  clear hS
  have HDB := Lib.hid (hdB_eq hhd hs0)
  have hlay := fun W => l16Sizes_any l.length b0.size W hn128 (by omega) h32
  have hhead := fun (d x : Int) W => l16Head_any l.length b0.size d x W hn128
  obtain ⟨H, hH⟩ : ∃ H, hdS l.length b0.size = H := ⟨_, rfl⟩
  obtain ⟨S6, hS6⟩ : ∃ S, hd6 l.length = S := ⟨_, rfl⟩
  have hHs : H.size = b0.size := by rw [← hH]; exact hdS_size _ _ h6
  have h6s : S6.size = 6 := by rw [← hS6]; exact hd6_size _
  have hlo : ∀ (k : Nat) (hk : k < S6.size) (h : k < H.size), H[k] = S6[k] := by
    subst hH hS6
    exact fun k hk h => hdS_lo _ _ k h6 (by rwa [hd6_size] at hk) h
  have hhi : ∀ (k : Nat) (hk : ¬ k < S6.size) (h : k < H.size), H[k] = 0 := by
    subst hH hS6
    exact fun k hk h => hdS_hi _ _ k (by rwa [hd6_size] at hk) h
  rw [hH] at HDB
  rw [hS6] at hhead
  have HHS := Lib.hid hHs
  have H6S := Lib.hid h6s
  clear hH hS6 hHs h6s
  generalize chE l.length = E at *
  generalize chD l.length b0.size = D at *
  generalize chX l.length b0.size = X at *
  go_enter Tryd.func15, Tryd.ntmps15
  go_wp2_with (go_at_call 30; refine (hsh _).mono ?_; rintro e w2 ⟨rfl, hx2⟩; replace F := F.below hx2 F.lt; replace hB : BB w _ := BB.next hB hx2; replace ho0 := ho0.later hx2 (Nat.le_refl _))
  clear c0 hsh
  go_loopw [5] (fun i wr => ∃ (k : Nat) (v : Value), k ≤ l.length ∧ i = .int .i64 k ∧ BX wr w.heap.size 43 [.int .i64 0, .int .i64 0, .int .i64 0, .int .i64 0, .int .i64 0, v] ∧ OwnB wr (w.heap.size + 1) 5 v (jn (l.take k)) ∧ (jn (l.take k)).length ≤ 32 * k ∧ Hid (∀ j, (hj : j < k) → (hj' : j < l.length) → l[j].size = b0.size) ∧ BB w wr) (fun i _ => l.length - (intOf i).toNat)
  case atStart => exact ⟨0, _, Nat.zero_le _, rfl, F, ho0, by simp [jn], Lib.hid (fun j hj => absurd hj (by omega)), hB⟩
  case round =>
    clear F hB ho0
    obtain ⟨k, v, hk, rfl, F, ho, hlen, HI, hB⟩ := hrel
    by_cases hlt : k < l.length
    · have hlti : (k : Int) < (l.length : Int) := by omega
      obtain ⟨b', off', hbo, hbb', hc⟩ := h.at_ fS_len rfl k hlt
      cases hbo
      have hck := hc 0 _ (by omega) rfl
      clear hc
      simp only [Nat.mul_one, Nat.add_zero] at hck
      obtain ⟨bk, hbk⟩ : ∃ x, l[k] = x := ⟨_, rfl⟩
      rw [hbk] at hck
      have ck := (hB.cell (p := ⟨b, off + k, none⟩) hbb).trans hck
      have c0 := (hB.cell (p := ⟨b, off, none⟩) hbb).trans hc0
      by_cases hx : bk.size = b0.size
      rotate_left
      · have HR := Lib.hid (chC_1 (blk_3 hlt (by rw [hs0, hbk]; exact hx)))
        have hxb : ((bk.size : Int) != (b0.size : Int)) = true := by simp; omega
        clear hbk hx
        go_wp2_with fail
        go_quiet (fail)
        have hBw : Below w.heap.size w (wr.drewN nq) := below_drewN hB nq
        go_wp2
        (try simp only [Exit.inBlock, Exit.then]); refine bodyPost_ret (results_tmp2 rfl _ _ _) rfl ?_
        exact ⟨.pointer none, by rw [HR.out]; rfl, hBw, fun e => absurd (HR.out.symm.trans e) (by decide), fun _ => rfl⟩
      have hxb : ((bk.size : Int) != (b0.size : Int)) = false := by simp; omega
      have HN := Lib.hid (show ∀ j, (hj : j < k + 1) → (hj' : j < l.length) → l[j].size = b0.size from fun j hj hj' => by
        by_cases he : j = k
        · subst he
          rw [hbk, hx]
        · exact HI.out j (by omega) hj')
      have hsn := jn_snoc l k hlt
      rw [hbk] at hsn
      have hlb : (jn (l.take k)).length + bk.size ≤ 32 * (k + 1) := by omega
      have HLB := Lib.hid (show (jn (l.take (k + 1))).length ≤ 32 * (k + 1) by rw [hsn, List.length_append, Array.length_toList]; exact hlb)
      have HSN := Lib.hid hsn
      have hlb2 : (jn (l.take k)).length + bk.size ≤ 1000000000 := by omega
      clear hbk hx hsn hlb hlen
      go_wp2_with fail
      go_quiet (fail)
      replace F := BX.dn F nq
      replace ho := OwnB.drewN ho nq
      replace hB : BB w _ := below_drewN hB nq
      clear ck c0
      generalize wr.drewN nq = w4 at F ho hB ⊢
      generalize jn (l.take k) = out at ho hlb2 HSN
      have ck := (hB.cell (p := ⟨b, off + k, none⟩) hbb).trans hck
      replace ck : w4.drew.cell? ⟨b, off + k, none⟩ = _ := ck
      replace F := BX.dr F
      replace hB : BB w _ := BB.dr hB
      replace ho : OwnB w4.drew _ _ _ _ := OwnB.drewN ho 1
      have f5 : (_ : Option Value) = some v := F.cell 5 (by simp)
      have hbs : w.heap.size + 1 ≤ w4.drew.heap.size := F.lt
      have HLL := Lib.hid (show out.length + bk.size = (out ++ bk.data.toList).length by rw [List.length_append, Array.length_toList]; rfl)
      go_wp2_with fail
      go_region_law (refine step_appS rfl (.tmp 44) (.tmp 48) 41 9 rfl eltB Tryd.underlying9 _ out (by rfl) ho bk (by rfl) hlb2 hbs ?_; intro v5 w5 ho5 hbl5; obtain ⟨A5, c5, rfl⟩ := OwnB.form ho5; replace ho5 : OwnB w5 (w.heap.size + 1) 5 (.slice A5 (out.length + bk.size) c5) (out ++ bk.data.toList) := (by rw [HLL.out]; exact ho5); clear f5 ck; replace F := F.below hbl5 (by omega); replace hB : BB w _ := Below.trans hB (hbl5.mono (by omega)); have f5 : (_ : Option Value) = some v := F.cell 5 (by simp); have hfz := fun j => F.free j)
      all_goals
        go_wp2
        go_roundw
        case rel => exact ⟨k + 1, _, by omega, by go_num, F.put 5 _, by rw [HSN.out]; exact OO.put (a := ⟨w.heap.size, 5, none⟩) (show OO _ _ _ _ _ _ _ from ho5) (show w.heap.size < w.heap.size + 1 by omega) _, HLB.out, HN, BB.put hB (Nat.le_refl _) _⟩
        case measure => (simp [intOf] <;> omega)
    obtain rfl : k = l.length := by omega
    rw [List.take_length] at ho hlen
    have hbk := blk_6 hs0 HS.out (fun j hj => HI.out j hj hj)
    obtain ⟨A9, c9, rfl⟩ := ho.form
    have hjl : b0.size ≤ (jn l).length := by
      rw [jn_len l b0.size (fun x hx => by
        obtain ⟨j, hj, rfl⟩ := List.getElem_of_mem hx
        exact HI.out j hj hj)]
      exact Nat.le_mul_of_pos_left _ hpos
    have HBK := Lib.hid hbk
    clear hbk hlt
    have c0 := (hB.cell (p := ⟨b, off, none⟩) hbb).trans hc0
    have hlq : ¬ (l.length : Int) < (l.length : Int) := by omega
    go_upto_region 11 with (go_at_call 31; refine (hlay _).mono ?_; rintro e w6 ⟨rfl, hx6⟩; replace F := F.below hx6 F.lt; replace hB : BB w _ := BB.next hB hx6; replace ho := ho.later hx6 (Nat.le_refl _); have z_0 : (_ : Option Value) = some (.int .i64 0) := F.cell 0 (by simp); have z_1 : (_ : Option Value) = some (.int .i64 0) := F.cell 1 (by simp); have z_2 : (_ : Option Value) = some (.int .i64 0) := F.cell 2 (by simp); have z_3 : (_ : Option Value) = some (.int .i64 0) := F.cell 3 (by simp); have z_4 : (_ : Option Value) = some (.int .i64 0) := F.cell 4 (by simp); have z_5 : (_ : Option Value) = some (.slice A9 (jn l).length c9) := F.cell 5 (by simp); have hfz := fun j => F.free j; have P := (((((F.put 0 (.int .i64 (l.length : Int))).put 1 (.int .i64 (b0.size : Int))).put 2 (.int .i64 (E : Int))).put 3 (.int .i64 (D : Int))).put 4 (.int .i64 (X : Int))); have hoq := (OO.put (a := ⟨w.heap.size, 4, none⟩) (OO.put (a := ⟨w.heap.size, 3, none⟩) (OO.put (a := ⟨w.heap.size, 2, none⟩) (OO.put (a := ⟨w.heap.size, 1, none⟩) (OO.put (a := ⟨w.heap.size, 0, none⟩) (show OO _ _ _ _ _ _ _ from ho) (show w.heap.size < w.heap.size + 1 by omega) (.int .i64 (l.length : Int))) (show w.heap.size < w.heap.size + 1 by omega) (.int .i64 (b0.size : Int))) (show w.heap.size < w.heap.size + 1 by omega) (.int .i64 (E : Int))) (show w.heap.size < w.heap.size + 1 by omega) (.int .i64 (D : Int))) (show w.heap.size < w.heap.size + 1 by omega) (.int .i64 (X : Int))); have hBq := (BB.put (a := ⟨w.heap.size, 4, none⟩) (BB.put (a := ⟨w.heap.size, 3, none⟩) (BB.put (a := ⟨w.heap.size, 2, none⟩) (BB.put (a := ⟨w.heap.size, 1, none⟩) (BB.put (a := ⟨w.heap.size, 0, none⟩) hB (Nat.le_refl _) (.int .i64 (l.length : Int))) (Nat.le_refl _) (.int .i64 (b0.size : Int))) (Nat.le_refl _) (.int .i64 (E : Int))) (Nat.le_refl _) (.int .i64 (D : Int))) (Nat.le_refl _) (.int .i64 (X : Int))); have mk1 := True.intro)
    clear F hB ho hfz mk1 hx6 c0 z_0 z_1 z_2 z_3 z_4 z_5
    generalize (((((w6.setCell ⟨w.heap.size, 0, none⟩ (.int .i64 (l.length : Int))).setCell ⟨w.heap.size, 1, none⟩ (.int .i64 (b0.size : Int))).setCell ⟨w.heap.size, 2, none⟩ (.int .i64 (E : Int))).setCell ⟨w.heap.size, 3, none⟩ (.int .i64 (D : Int))).setCell ⟨w.heap.size, 4, none⟩ (.int .i64 (X : Int))) = w6' at *
    have q_0 : (_ : Option Value) = some (.int .i64 (l.length : Int)) := P.cell 0 (by simp)
    have q_1 : (_ : Option Value) = some (.int .i64 (b0.size : Int)) := P.cell 1 (by simp)
    have q_2 : (_ : Option Value) = some (.int .i64 (E : Int)) := P.cell 2 (by simp)
    have q_3 : (_ : Option Value) = some (.int .i64 (D : Int)) := P.cell 3 (by simp)
    have q_4 : (_ : Option Value) = some (.int .i64 (X : Int)) := P.cell 4 (by simp)
    have q_5 : (_ : Option Value) = some (.slice A9 (jn l).length c9) := P.cell 5 (by simp)
    have mk1 := True.intro
    go_wp2_with (go_at_call 32; have := mk1; refine (hhead _ _ _).mono ?_; rintro e w7 ⟨rfl, hx7⟩; replace P := P.below hx7 P.lt; replace hBq : BB w _ := BB.next hBq hx7; replace hoq : OwnB w7 _ _ _ _ := OwnB.later hoq hx7 (Nat.le_refl _))
    clear hhead hlay mk1 q_0 q_1 q_2 q_3 q_4 q_5
    go_loop [7, 8] (fun i _ => ∃ k : Nat, k ≤ b0.size ∧ i = .int .i64 k ∧ Hid (eqF b0 H k = hdB l)) (fun i _ => b0.size - (intOf i).toNat)
    case atStart => exact ⟨0, Nat.zero_le _, rfl, Lib.hid (by rw [eqF_0, HDB.out])⟩
    case round =>
      obtain ⟨k, hk, rfl, HE⟩ := hrel
      have p1 : (_ : Option Value) = some (.int .i64 (b0.size : Int)) := P.cell 1 (by simp)
      have p5 : (_ : Option Value) = some (.slice A9 (jn l).length c9) := P.cell 5 (by simp)
      by_cases hlt : k < b0.size
      · have hlti : (k : Int) < (b0.size : Int) := by omega
        have hltH : k < H.size := by have := HHS.out; omega
        have hkj : k < (jn l).length := by omega
        have hkji : (k : Int) < ((jn l).length : Int) := by omega
        obtain ⟨g9, cap9, hv9, hbg, hg9, hc9⟩ := OwnB.at_ hoq k hkj
        cases hv9
        have hgk : (jn l)[k] = b0[k] := by
          have h1 := hjh k hlt
          rw [List.getElem?_eq_getElem hkj] at h1
          injection h1
        rw [hgk] at hc9
        have HH := Lib.hid hgk
        clear hgk
        by_cases hk6 : k < S6.size
        · have hk6i : (k : Int) < (S6.size : Int) := by omega
          have e1 := hlo k hk6 hltH
          by_cases hx : b0[k] = S6[k]
          · have HN := Lib.hid (eqF_step hlt hltH HE.out (by rw [e1]; exact hx))
            have hxb : ((b0[k].toNat : Int) != (S6[k].toNat : Int)) = false := by rw [hx]; simp
            clear hx e1
            go_wp2
            go_round
            case rel => exact ⟨k + 1, by omega, by go_num, HN⟩
            case measure => simp [intOf]; omega
          · have HR := Lib.hid (chC_2 HBK.out (eqF_no hlt hltH HE.out (by rw [e1]; exact hx)))
            have hxb : ((b0[k].toNat : Int) != (S6[k].toNat : Int)) = true := by
              rw [bne_iff_ne]
              intro e
              exact hx (UInt8.toNat_inj.1 (by omega))
            clear hx e1
            have hBw : Below w.heap.size w w7 := hBq
            go_wp2
            (try simp only [Exit.inBlock, Exit.then]); refine bodyPost_ret (results_tmp2 rfl _ _ _) rfl ?_
            exact ⟨.pointer none, by rw [HR.out]; rfl, hBw, fun e => absurd (HR.out.symm.trans e) (by decide), fun _ => rfl⟩
        · have hk6i : ¬ (k : Int) < (S6.size : Int) := by omega
          have e1 := hhi k hk6 hltH
          by_cases hx : b0[k] = 0
          · have HN := Lib.hid (eqF_step hlt hltH HE.out (by rw [e1]; exact hx))
            have hxb : ((b0[k].toNat : Int) != 0) = false := by rw [hx]; simp
            clear hx e1
            go_wp2
            go_round
            case rel => exact ⟨k + 1, by omega, by go_num, HN⟩
            case measure => simp [intOf]; omega
          · have HR := Lib.hid (chC_2 HBK.out (eqF_no hlt hltH HE.out (by rw [e1]; exact hx)))
            have hxb : ((b0[k].toNat : Int) != 0) = true := by
              rw [bne_iff_ne]
              intro e
              exact hx (UInt8.toNat_inj.1 (by simpa using e))
            clear hx e1
            have hBw : Below w.heap.size w w7 := hBq
            go_wp2
            (try simp only [Exit.inBlock, Exit.then]); refine bodyPost_ret (results_tmp2 rfl _ _ _) rfl ?_
            exact ⟨.pointer none, by rw [HR.out]; rfl, hBw, fun e => absurd (HR.out.symm.trans e) (by decide), fun _ => rfl⟩
      · have hlti : ¬ (k : Int) < (b0.size : Int) := by omega
        have HR := Lib.hid (chC_3 HBK.out (eqF_end hlt (by have := HHS.out; omega) HE.out))
        have hBw : Below w.heap.size w w7 := hBq
        go_wp2
        (try simp only [Exit.inBlock, Exit.then]); refine bodyPost_ret (results_tmp2 rfl _ _ _) rfl ?_
        refine ⟨_, by rw [HR.out]; rfl, hBw, fun _ => ?_, fun e => absurd HR.out e⟩
        first
          | exact ⟨w.heap.size, A9, c9, rfl, P.cp, Rd.of_own hoq⟩
          | exact ⟨w.heap.size, rfl, A9, ⟨c9, P.cp⟩, Rd.of_own hoq⟩
end Go.Proofs.YtbobehieaaaleaaDoor
namespace Go.Proofs.YtbobehieaaaleaaDoor
set_option linter.unusedVariables false
open Go.RowKit

def loN (ok : Bool) (v : Nat) : Int := if ok then (v : Int) else 0
def okC (l : List ByteArray) : Bool := decide (chC l = 0)
end Go.Proofs.YtbobehieaaaleaaDoor
namespace Go.Proofs.YtbobehieaaaleaaDoor
set_option linter.unusedVariables false
open Go.RowKit

def ex5 (b s : Nat) : ByteArray := ⟨#[69, 88]⟩ ++ ⟨[UInt8.ofNat b, UInt8.ofNat s, UInt8.ofNat (b / 4)].toArray⟩
def exS (b s : Nat) : ByteArray := ex5 b s ++ zerosB (s - 5)
def exD (b s : Nat) : Nat := 1 + (b / 4 * 16 + s - 1) / s
def exB (l : List ByteArray) : Bool := blkB l && decide (l.headD ⟨#[]⟩ = exS l.length (s0 l))
theorem ex5_size (b s : Nat) : (ex5 b s).size = 5 := rfl
theorem bcells_set (l : List UInt8) (j : Nat) (x : UInt8) : (bcells l).set j (.int .u8 (x.toNat : Int)) = bcells (l.set j x) := by simp [bcells, List.map_set]
theorem exS_row (b s : Nat) (h : 8 ≤ s) : (⟨((((((List.replicate s (0 : UInt8)).set 0 69).set 1 88).set 2 (UInt8.ofNat b)).set 3 (UInt8.ofNat s)).set 4 (UInt8.ofNat (b / 4))).toArray⟩ : ByteArray) = exS b s := by
  obtain ⟨z, hz⟩ : ∃ z, s = z + 5 := ⟨s - 5, by omega⟩
  have h1 : s - 5 = z := by omega
  have h2 : List.replicate s (0 : UInt8) = 0 :: 0 :: 0 :: 0 :: 0 :: List.replicate z 0 := by rw [hz]; rfl
  have h3 : ((((((List.replicate s (0 : UInt8)).set 0 69).set 1 88).set 2 (UInt8.ofNat b)).set 3 (UInt8.ofNat s)).set 4 (UInt8.ofNat (b / 4))) = 69 :: 88 :: UInt8.ofNat b :: UInt8.ofNat s :: UInt8.ofNat (b / 4) :: List.replicate z 0 := by rw [h2]; rfl
  rw [h3, exS, h1]
  rfl
theorem run_three (b s e : Nat) (hb : b < 256) (hs : s < 256) (he : e < 256) (w : World) :
    (convert 41 9 (.slice (some ⟨w.heap.size, 0, none⟩) 3 3)).run Tryd.prog (w.alloc (.cells #[.int .u8 (b : Int), .int .u8 (s : Int), .int .u8 (e : Int)] 5)) =
      .ok (.string ⟨[UInt8.ofNat b, UInt8.ofNat s, UInt8.ofNat e].toArray⟩) (w.alloc (.cells #[.int .u8 (b : Int), .int .u8 (s : Int), .int .u8 (e : Int)] 5)) :=
  run_b2s_lit Tryd.underlying41 Tryd.underlying5 Tryd.underlying9 w [UInt8.ofNat b, UInt8.ofNat s, UInt8.ofNat e] _ 3 (by
    have h1 : (UInt8.ofNat b).toNat = b := by rw [UInt8.toNat_ofNat']; omega
    have h2 : (UInt8.ofNat s).toNat = s := by rw [UInt8.toNat_ofNat']; omega
    have h3 : (UInt8.ofNat e).toNat = e := by rw [UInt8.toNat_ofNat']; omega
    simp only [bcells, List.map_cons, List.map_nil, h1, h2, h3]) rfl (by simp [maxLen])
set_option maxHeartbeats 400000 in
theorem l17Size_any (s : Nat) (w : World) : Calls Tryd.prog 45 #[.int .i64 (s : Int)] w fun e w' => e = .returned (.bool (oneOf s)) ∧ w = w' := by
  by_cases q8 : s = 8
  · have HR := Lib.hid (show oneOf s = true by rw [q8]; rfl)
    have r8 : ((s : Int) == 8) = true := by rw [q8]; rfl
    clear q8
    go_enter Tryd.func45, Tryd.ntmps45
    go_wp2
    go_ret
    exact ⟨ret_bool HR.out.symm, rfl⟩
  have r8 : ((s : Int) == 8) = false := beq_false_of_ne (by omega)
  by_cases q16 : s = 16
  · have HR := Lib.hid (show oneOf s = true by rw [q16]; rfl)
    have r16 : ((s : Int) == 16) = true := by rw [q16]; rfl
    clear q8 q16
    go_enter Tryd.func45, Tryd.ntmps45
    go_wp2
    go_ret
    exact ⟨ret_bool HR.out.symm, rfl⟩
  have r16 : ((s : Int) == 16) = false := beq_false_of_ne (by omega)
  by_cases q32 : s = 32
  · have HR := Lib.hid (show oneOf s = true by rw [q32]; rfl)
    have r32 : ((s : Int) == 32) = true := by rw [q32]; rfl
    clear q8 q16 q32
    go_enter Tryd.func45, Tryd.ntmps45
    go_wp2
    go_ret
    exact ⟨ret_bool HR.out.symm, rfl⟩
  have r32 : ((s : Int) == 32) = false := beq_false_of_ne (by omega)
  have HR := Lib.hid (show oneOf s = false by simp [oneOf, q8, q16, q32])
  clear q8 q16 q32
  go_enter Tryd.func45, Tryd.ntmps45
  go_wp2
  go_ret
  exact ⟨ret_bool HR.out.symm, rfl⟩
set_option maxRecDepth 100000 in
set_option maxHeartbeats 1000000 in
theorem l17Data_any (b s : Nat) (w : World) (hb : b ≤ 128) (h0 : 0 < s) (hs : s ≤ 32) :
    Calls Tryd.prog 47 #[.int .i64 (b : Int), .int .i64 (s : Int)] w fun e w' => e = .returned (.int .i64 (exD b s : Int)) ∧ w = w' := by
  obtain ⟨E, hE⟩ : ∃ E, b / 4 = E := ⟨_, rfl⟩
  have hE32 : E ≤ 32 := by omega
  have hdv : (b : Int) / 4 = (E : Int) := by omega
  have hdt : (b : Int).tdiv 4 = (E : Int) := by rw [← hE]; rfl
  have w1 : IntKind.i64.wrap ((E : Int) * 16) = ((E * 16 : Nat) : Int) := by rw [show (E : Int) * 16 = ((E * 16 : Nat) : Int) by omega]; exact i_nat _ (by omega)
  obtain ⟨c2, hc2⟩ : ∃ c, (E * 16 + s - 1) / s = c := ⟨_, rfl⟩
  have hc2b : c2 ≤ 600 := by rw [← hc2]; exact Nat.le_trans (Nat.div_le_self _ _) (by omega)
  have w3 : IntKind.i64.wrap (1 + (c2 : Int)) = ((1 + c2 : Nat) : Int) := by rw [show 1 + (c2 : Int) = ((1 + c2 : Nat) : Int) by omega]; exact i_nat _ (by omega)
  have hED : exD b s = 1 + c2 := by rw [exD, hE, hc2]
  rw [hED]
  have a3 : IntKind.i64.wrap (((E * 16 : Nat) : Int) + (s : Int)) = ((E * 16 + s : Nat) : Int) := by rw [show ((E * 16 : Nat) : Int) + (s : Int) = ((E * 16 + s : Nat) : Int) by clear w1 w3; omega]; exact i_nat _ (by clear w1 w3; omega)
  have a4 : IntKind.i64.wrap (((E * 16 + s : Nat) : Int) - 1) = ((E * 16 + s - 1 : Nat) : Int) := by rw [show ((E * 16 + s : Nat) : Int) - 1 = ((E * 16 + s - 1 : Nat) : Int) by clear w1 w3 a3; omega]; exact i_nat _ (by clear w1 w3 a3; omega)
  have a6 := qdiv (E * 16 + s - 1) s
  have a8 : IntKind.i64.wrap (c2 : Int) = (c2 : Int) := i_nat _ (by clear w1 w3 a3 a4 a6; omega)
  have aE : IntKind.i64.wrap (E : Int) = (E : Int) := i_nat _ (by clear w1 w3 a3 a4 a6; omega)
  rw [hc2] at a6
  have e0 : ¬ (s : Int) = 0 := by clear w1 w3 a3 a4 a6; omega
  have e1 : ¬ s = 0 := by clear w1 w3 a3 a4 a6; omega
  have e2 : ((s : Int) == 0) = false := beq_false_of_ne e0
  generalize 1 + c2 = X at w3 ⊢
  generalize E * 16 + s - 1 = T3 at a4 a6
  generalize E * 16 + s = T4 at a3 a4
  generalize E * 16 = E12 at w1 a3
  clear hE hc2 hED hc2b hE32
  go_enter Tryd.func47, Tryd.ntmps47
  go_wp2
  go_ret
  exact ⟨rfl, rfl⟩
set_option maxRecDepth 100000 in
set_option maxHeartbeats 1000000 in
theorem extentLayout_any (b s : Nat) (w : World) (hb : b ≤ 128) (h0 : 0 < s) (hs : s ≤ 32) :
    Calls Tryd.prog 52 #[.int .i64 (b : Int), .int .i64 (s : Int)] w fun e w' => e = .returned (.agg #[.int .i64 (b : Int), .int .i64 (s : Int), .int .i64 (b / 4 : Nat), .int .i64 (exD b s : Int)]) ∧ Below w.heap.size w w' := by
  obtain ⟨E, hE⟩ : ∃ E, b / 4 = E := ⟨_, rfl⟩
  have hE32 : E ≤ 32 := by omega
  have hdv : (b : Int) / 4 = (E : Int) := by omega
  have hdt : (b : Int).tdiv 4 = (E : Int) := by rw [← hE]; rfl
  have w1 : IntKind.i64.wrap ((E : Int) * 16) = ((E * 16 : Nat) : Int) := by rw [show (E : Int) * 16 = ((E * 16 : Nat) : Int) by omega]; exact i_nat _ (by omega)
  obtain ⟨c2, hc2⟩ : ∃ c, (E * 16 + s - 1) / s = c := ⟨_, rfl⟩
  have hc2b : c2 ≤ 600 := by rw [← hc2]; exact Nat.le_trans (Nat.div_le_self _ _) (by omega)
  have w3 : IntKind.i64.wrap (1 + (c2 : Int)) = ((1 + c2 : Nat) : Int) := by rw [show 1 + (c2 : Int) = ((1 + c2 : Nat) : Int) by omega]; exact i_nat _ (by omega)
  have hED : exD b s = 1 + c2 := by rw [exD, hE, hc2]
  rw [hED]
  rw [hE]
  have hcA := fun W => ceiling_any (E * 16) s W (by omega) (by omega) h0
  rw [hc2] at hcA
  have aE : IntKind.i64.wrap (E : Int) = (E : Int) := i_nat _ (by clear w1 w3; omega)
  have F := BX.made w 52 [.int .i64 0, .int .i64 0, .int .i64 0, .int .i64 0]
  have hB : BB w (w.alloc (.cells #[.int .i64 0, .int .i64 0, .int .i64 0, .int .i64 0] 52)) := (show Below w.heap.size w (w.alloc (.cells #[.int .i64 0, .int .i64 0, .int .i64 0, .int .i64 0] 52)) from (by with_reducible repeat (first | exact Below.refl _ _ | assumption | refine below_step ?_ (by assumption) | refine Below.drew ?_ | refine below_drewN ?_ _ | refine below_alloc ?_ _ | refine Below.setCell ?_ (by simp; try omega) _)))
  generalize 1 + c2 = X at w3 ⊢
  generalize E * 16 = E12 at w1 hcA
  have P := ((((F.put 0 (.int .i64 (b : Int))).put 1 (.int .i64 (s : Int))).put 2 (.int .i64 (E : Int))).put 3 (.int .i64 (X : Int)))
  have hBq := (BB.put (a := ⟨w.heap.size, 3, none⟩) (BB.put (a := ⟨w.heap.size, 2, none⟩) (BB.put (a := ⟨w.heap.size, 1, none⟩) (BB.put (a := ⟨w.heap.size, 0, none⟩) hB (Nat.le_refl _) (.int .i64 (b : Int))) (Nat.le_refl _) (.int .i64 (s : Int))) (Nat.le_refl _) (.int .i64 (E : Int))) (Nat.le_refl _) (.int .i64 (X : Int)))
  have r0 : (_ : Option Value) = some (.int .i64 (b : Int)) := P.cell 0 (by simp)
  have r1 : (_ : Option Value) = some (.int .i64 (s : Int)) := P.cell 1 (by simp)
  have r2 : (_ : Option Value) = some (.int .i64 (E : Int)) := P.cell 2 (by simp)
  have r3 : (_ : Option Value) = some (.int .i64 (X : Int)) := P.cell 3 (by simp)
  clear hE hc2 hED hc2b hE32
  go_enter Tryd.func52, Tryd.ntmps52
  go_wp2_with (go_at_call 62; refine (hcA _).mono ?_; rintro e w9 ⟨rfl, rfl⟩)
  first
    | exact bodyPost_ret (v := .agg #[.int .i64 (b : Int), .int .i64 (s : Int), .int .i64 (E : Int), .int .i64 (X : Int)]) (by simp [results, Tryd.results52, go_sem, r0, r1, r2, r3]) rfl ⟨rfl, hBq⟩
    | exact bodyPost_ret (v := .agg #[.int .i64 (b : Int), .int .i64 (s : Int), .int .i64 (E : Int), .int .i64 (X : Int)]) (by simp [results, Tryd.results52, go_sem]) rfl ⟨rfl, (by with_reducible repeat (first | exact Below.refl _ _ | assumption | refine below_step ?_ (by assumption) | refine Below.drew ?_ | refine below_drewN ?_ _ | refine below_alloc ?_ _ | refine Below.setCell ?_ (by simp; try omega) _))⟩
set_option maxRecDepth 100000 in
set_option maxHeartbeats 1000000 in
theorem l17Head_any (b s : Nat) (w : World) (hb : b ≤ 128) (h8 : 8 ≤ s) (hs : s ≤ 32) :
    Calls Tryd.prog 46 #[.int .i64 (b : Int), .int .i64 (s : Int)] w fun e w' => e = .returned (.string (exS b s)) ∧ Below w.heap.size w w' := by
  have HX := Lib.hid (exS_row b s h8)
  obtain ⟨E, hE⟩ : ∃ E, b / 4 = E := ⟨_, rfl⟩
  have hE32 : E ≤ 32 := by omega
  have hdv : (b : Int) / 4 = (E : Int) := by omega
  have hdt : (b : Int).tdiv 4 = (E : Int) := by rw [← hE]; rfl
  rw [hE] at HX
  have hmk := fun W => eltB.make s (by omega) (by omega) W
  simp only [Nat.mul_one, show (Value.int .u8 0).cells = #[Value.int .u8 0] from rfl] at hmk
  have b1 : IntKind.u8.wrap (b : Int) = (b : Int) := IntWalk.u8_in _ (by omega)
  have b2 : IntKind.u8.wrap (s : Int) = (s : Int) := IntWalk.u8_in _ (by omega)
  have b3 : IntKind.u8.wrap (E : Int) = (E : Int) := IntWalk.u8_in _ (by omega)
  have aE : IntKind.i64.wrap (E : Int) = (E : Int) := i_nat _ (by omega)
  have n1 : ((UInt8.ofNat b).toNat : Int) = (b : Int) := by rw [UInt8.toNat_ofNat']; omega
  have n2 : ((UInt8.ofNat s).toNat : Int) = (s : Int) := by rw [UInt8.toNat_ofNat']; omega
  have n3 : ((UInt8.ofNat E).toNat : Int) = (E : Int) := by rw [UInt8.toNat_ofNat']; omega
  have j0 : (0 : Int) < (s : Int) := by omega
  have j1 : (1 : Int) < (s : Int) := by omega
  have j2 : (2 : Int) < (s : Int) := by omega
  have j3 : (3 : Int) < (s : Int) := by omega
  have j4 : (4 : Int) < (s : Int) := by omega
  have ho := OwnB.lit (e := 5) (base := w.heap.size) w (List.replicate s (0 : UInt8)) (madeCells #[Value.int .u8 0] s) (made_bytes s) (Nat.le_refl _) (by simp [maxLen]; omega)
  rw [List.length_replicate] at ho
  have hB : BB w (w.alloc (.cells (madeCells #[Value.int .u8 0] s) 5)) := (show Below w.heap.size w (w.alloc (.cells (madeCells #[Value.int .u8 0] s) 5)) from (by with_reducible repeat (first | exact Below.refl _ _ | assumption | refine below_step ?_ (by assumption) | refine Below.drew ?_ | refine below_drewN ?_ _ | refine below_alloc ?_ _ | refine Below.setCell ?_ (by simp; try omega) _)))
  go_enter Tryd.func46, Tryd.ntmps46
  go_upto_region 2 with fail
  clear hmk
  generalize w.alloc (.cells (madeCells #[Value.int .u8 0] s) 5) = w1 at *
  generalize hG : w.heap.size = G at ho ⊢
  have hle : w.heap.size ≤ G := Nat.le_of_eq hG
  have HG := Lib.hid hG
  clear hG
  have h1 : OO w1 G 5 1 (.slice (some ⟨G, 0, none⟩) s s) s (bcells (List.replicate s (0 : UInt8))) := by
    have := ho
    unfold OwnB at this
    rwa [List.length_replicate] at this
  clear ho
  obtain ⟨u0, hu0⟩ := own_some (OOf h1) 0 (by omega)
  have hz0 := World.ownsRow.frozenAt (OOf h1) 0
  have h2 : OO _ _ _ _ _ _ _ := (World.ownsRow.stored (OOf h1) 0 (.int .u8 69)).1
  obtain ⟨u1, hu1⟩ := own_some (OOf h2) 1 (by omega)
  have hz1 := World.ownsRow.frozenAt (OOf h2) 1
  have h3 : OO _ _ _ _ _ _ _ := (World.ownsRow.stored (OOf h2) 1 (.int .u8 88)).1
  obtain ⟨u2, hu2⟩ := own_some (OOf h3) 2 (by omega)
  have hz2 := World.ownsRow.frozenAt (OOf h3) 2
  have h4 : OO _ _ _ _ _ _ _ := (World.ownsRow.stored (OOf h3) 2 (.int .u8 (b : Int))).1
  obtain ⟨u3, hu3⟩ := own_some (OOf h4) 3 (by omega)
  have hz3 := World.ownsRow.frozenAt (OOf h4) 3
  have h5 : OO _ _ _ _ _ _ _ := (World.ownsRow.stored (OOf h4) 3 (.int .u8 (s : Int))).1
  obtain ⟨u4, hu4⟩ := own_some (OOf h5) 4 (by omega)
  have hz4 := World.ownsRow.frozenAt (OOf h5) 4
  have h6 : OO _ _ _ _ _ _ _ := (World.ownsRow.stored (OOf h5) 4 (.int .u8 (E : Int))).1
  have e5 : (((((bcells (List.replicate s (0 : UInt8))).set 0 (.int .u8 69)).set 1 (.int .u8 88)).set 2 (.int .u8 (b : Int))).set 3 (.int .u8 (s : Int))).set 4 (.int .u8 (E : Int)) = bcells ((((((List.replicate s (0 : UInt8)).set 0 69).set 1 88).set 2 (UInt8.ofNat b)).set 3 (UInt8.ofNat s)).set 4 (UInt8.ofNat E)) := by
    rw [← n1, ← n2, ← n3, show (Value.int .u8 69) = .int .u8 ((69 : UInt8).toNat : Int) from rfl, show (Value.int .u8 88) = .int .u8 ((88 : UInt8).toNat : Int) from rfl, bcells_set, bcells_set, bcells_set, bcells_set, bcells_set]
  have h6' : OwnB (((((w1.setCell ⟨G, 0, none⟩ (.int .u8 69)).setCell ⟨G, 1, none⟩ (.int .u8 88)).setCell ⟨G, 2, none⟩ (.int .u8 (b : Int))).setCell ⟨G, 3, none⟩ (.int .u8 (s : Int))).setCell ⟨G, 4, none⟩ (.int .u8 (E : Int))) G 5 (.slice (some ⟨G, 0, none⟩) s s) ((((((List.replicate s (0 : UInt8)).set 0 69).set 1 88).set 2 (UInt8.ofNat b)).set 3 (UInt8.ofNat s)).set 4 (UInt8.ofNat E)) := by
    unfold OwnB
    rw [← e5, show (((((((List.replicate s (0 : UInt8)).set 0 69).set 1 88).set 2 (UInt8.ofNat b)).set 3 (UInt8.ofNat s)).set 4 (UInt8.ofNat E))).length = s by simp]
    exact h6
  have hcv := run_b2s (P := Tryd.prog) (dst := 9) Tryd.underlying41 Tryd.underlying5 Tryd.underlying9 h6'
  rw [HX.out] at hcv
  have hBq := (BB.put (a := ⟨G, 4, none⟩) (BB.put (a := ⟨G, 3, none⟩) (BB.put (a := ⟨G, 2, none⟩) (BB.put (a := ⟨G, 1, none⟩) (BB.put (a := ⟨G, 0, none⟩) hB hle (.int .u8 69)) hle (.int .u8 88)) hle (.int .u8 (b : Int))) hle (.int .u8 (s : Int))) hle (.int .u8 (E : Int)))
  clear n1 n2 n3 e5 h6 h6' hB hE hE32
  go_wp2
  go_ret
  exact ⟨rfl, by have h9 := hBq; unfold BB at h9; rwa [HG.out] at h9⟩
end Go.Proofs.YtbobehieaaaleaaDoor
namespace Go.Proofs.YtbobehieaaaleaaDoor
set_option linter.unusedVariables false
open Go.RowKit

set_option maxRecDepth 100000 in
set_option maxHeartbeats 8000000 in
theorem extentHeader_any (b s : Nat) (x : Int) (w : World) (hb : b ≤ 128) (h8 : 8 ≤ s) (hs : s ≤ 32) :
    Calls Tryd.prog 53 #[.agg #[.int .i64 (b : Int), .int .i64 (s : Int), .int .i64 (b / 4 : Nat), .int .i64 x]] w fun e w' => e = .returned (.string (exS b s)) ∧ Below w.heap.size w w' := by
  obtain ⟨E, hE⟩ : ∃ E, b / 4 = E := ⟨_, rfl⟩
  have H6 := Lib.hid (show (⟨#[69, 88]⟩ ++ ⟨[UInt8.ofNat b, UInt8.ofNat s, UInt8.ofNat (b / 4)].toArray⟩ : ByteArray) ++ zerosB (s - 5) = exS b s from rfl)
  have hE32 : E ≤ 32 := by omega
  rw [hE] at H6 ⊢
  clear hE
  have b1 : IntKind.u8.wrap (b : Int) = (b : Int) := IntWalk.u8_in _ (by omega)
  have b2 : IntKind.u8.wrap (s : Int) = (s : Int) := IntWalk.u8_in _ (by omega)
  have b3 : IntKind.u8.wrap (E : Int) = (E : Int) := IntWalk.u8_in _ (by omega)
  have hws : IntKind.i64.wrap ((s : Int) - 5) = ((s - 5 : Nat) : Int) := by rw [show (s : Int) - 5 = ((s - 5 : Nat) : Int) by omega]; exact i_nat _ (by omega)
  have hz2 := zerosB_size (s - 5)
  have hz6 : s - 5 ≤ 1000000 := by omega
  generalize s - 5 = z at *
  have hlc : (#[Value.int .u8 (b : Int), .int .u8 (s : Int), .int .u8 (E : Int)] : Array Value).toList = bcells [UInt8.ofNat b, UInt8.ofNat s, UInt8.ofNat E] := by
    have n1 : ((UInt8.ofNat b).toNat : Int) = (b : Int) := by rw [UInt8.toNat_ofNat']; omega
    have n2 : ((UInt8.ofNat s).toNat : Int) = (s : Int) := by rw [UInt8.toNat_ofNat']; omega
    have n3 : ((UInt8.ofNat E).toNat : Int) = (E : Int) := by rw [UInt8.toNat_ofNat']; omega
    simp only [bcells, List.map_cons, List.map_nil, n1, n2, n3]
  have HLC := Lib.hid hlc
  clear hlc
  have D0 := CP.made w [.int .i64 (b : Int), .int .i64 (s : Int), .int .i64 (E : Int), .int .i64 x] 52
  have hB : BB w (w.alloc (.cells #[.int .i64 (b : Int), .int .i64 (s : Int), .int .i64 (E : Int), .int .i64 x] 52)) := (show Below w.heap.size w (w.alloc (.cells #[.int .i64 (b : Int), .int .i64 (s : Int), .int .i64 (E : Int), .int .i64 x] 52)) from (by with_reducible repeat (first | exact Below.refl _ _ | assumption | refine below_step ?_ (by assumption) | refine Below.drew ?_ | refine below_drewN ?_ _ | refine below_alloc ?_ _ | refine Below.setCell ?_ (by simp; try omega) _)))
  have hbig : ¬ 9223372036854775807 < 5 + z := by omega
  have k2 : (⟨#[69, 88]⟩ : ByteArray).size = 2 := rfl
  have k3 : (⟨#[UInt8.ofNat b, UInt8.ofNat s, UInt8.ofNat E]⟩ : ByteArray).size = 3 := rfl
  have k5 : (⟨#[69, 88]⟩ ++ ⟨#[UInt8.ofNat b, UInt8.ofNat s, UInt8.ofNat E]⟩ : ByteArray).size = 5 := rfl
  go_enter Tryd.func53, Tryd.ntmps53
  go_upto_region 1 with fail
  generalize w.alloc (.cells #[.int .i64 (b : Int), .int .i64 (s : Int), .int .i64 (E : Int), .int .i64 x] 52) = w0 at *
  have hL := fun (W : World) => OwnB.lit (e := 5) (base := 0) W [UInt8.ofNat b, UInt8.ofNat s, UInt8.ofNat E] _ HLC.out (Nat.zero_le _) (by simp [maxLen])
  have hcv0 := run_b2s (P := Tryd.prog) (dst := 9) Tryd.underlying41 Tryd.underlying5 Tryd.underlying9 (OwnB.drewN (hL w0) 1)
  replace hcv0 : (convert 41 9 (.slice (some ⟨w0.heap.size, 0, none⟩) 3 3)).run Tryd.prog (w0.alloc (.cells #[.int .u8 (b : Int), .int .u8 (s : Int), .int .u8 (E : Int)] 5)).drew = .ok (.string ⟨[UInt8.ofNat b, UInt8.ofNat s, UInt8.ofNat E].toArray⟩) (w0.alloc (.cells #[.int .u8 (b : Int), .int .u8 (s : Int), .int .u8 (E : Int)] 5)).drew := hcv0
  have f0 := (show (_ : Option Value) = some (.int .i64 (b : Int)) from D0.dr 0 (by simp))
  have f1 := (show (_ : Option Value) = some (.int .i64 (s : Int)) from D0.dr 1 (by simp))
  have f2 := (show (_ : Option Value) = some (.int .i64 (E : Int)) from D0.dr 2 (by simp))
  have t0 := fun (o : Obj) => (show (_ : Option Value) = some (.int .i64 (b : Int)) from (CP.al D0 o).dr 0 (by simp))
  have t1 := fun (o : Obj) => (show (_ : Option Value) = some (.int .i64 (s : Int)) from (CP.al D0 o).dr 1 (by simp))
  have t2 := fun (o : Obj) => (show (_ : Option Value) = some (.int .i64 (E : Int)) from (CP.al D0 o).dr 2 (by simp))
  go_region_law (go_simp; first | (go_at_call 65; refine (zeros_any z w0.drew hz6).mono ?_; rintro e w9 ⟨rfl, hx9⟩; clear f0 t0 f1 t1 f2 t2; replace D0 := D0.dr.next hx9; replace hB : BB w _ := BB.next (BB.dr hB) hx9; have hcv1 := run_b2s (P := Tryd.prog) (dst := 9) Tryd.underlying41 Tryd.underlying5 Tryd.underlying9 (OwnB.drewN (hL w9) 1); replace hcv1 : (convert 41 9 (.slice (some ⟨w9.heap.size, 0, none⟩) 3 3)).run Tryd.prog (w9.alloc (.cells #[.int .u8 (b : Int), .int .u8 (s : Int), .int .u8 (E : Int)] 5)).drew = .ok (.string ⟨[UInt8.ofNat b, UInt8.ofNat s, UInt8.ofNat E].toArray⟩) (w9.alloc (.cells #[.int .u8 (b : Int), .int .u8 (s : Int), .int .u8 (E : Int)] 5)).drew := hcv1; have hcv2 : (convert 41 9 (.slice (some ⟨w9.heap.size, 0, none⟩) 3 3)).run Tryd.prog (w9.alloc (.cells #[.int .u8 (b : Int), .int .u8 (s : Int), .int .u8 (E : Int)] 5)) = .ok (.string ⟨[UInt8.ofNat b, UInt8.ofNat s, UInt8.ofNat E].toArray⟩) (w9.alloc (.cells #[.int .u8 (b : Int), .int .u8 (s : Int), .int .u8 (E : Int)] 5)) := run_b2s (P := Tryd.prog) (dst := 9) Tryd.underlying41 Tryd.underlying5 Tryd.underlying9 (hL w9); have v0 := (show (_ : Option Value) = some (.int .i64 (b : Int)) from D0 0 (by simp)); have v1 := (show (_ : Option Value) = some (.int .i64 (s : Int)) from D0 1 (by simp)); have v2 := (show (_ : Option Value) = some (.int .i64 (E : Int)) from D0 2 (by simp)); have y0 := fun (o : Obj) => (show (_ : Option Value) = some (.int .i64 (b : Int)) from (CP.al D0 o) 0 (by simp)); have y1 := fun (o : Obj) => (show (_ : Option Value) = some (.int .i64 (s : Int)) from (CP.al D0 o) 1 (by simp)); have y2 := fun (o : Obj) => (show (_ : Option Value) = some (.int .i64 (E : Int)) from (CP.al D0 o) 2 (by simp)); have k0 := fun (o : Obj) => (show (_ : Option Value) = some (.int .i64 (b : Int)) from (CP.al D0 o).dr 0 (by simp)); have k1 := fun (o : Obj) => (show (_ : Option Value) = some (.int .i64 (s : Int)) from (CP.al D0 o).dr 1 (by simp)); have k2 := fun (o : Obj) => (show (_ : Option Value) = some (.int .i64 (E : Int)) from (CP.al D0 o).dr 2 (by simp))) | (go_at_call 65; refine (zeros_any z (w0.alloc (.cells #[.int .u8 (b : Int), .int .u8 (s : Int), .int .u8 (E : Int)] 5)).drew hz6).mono ?_; rintro e w9 ⟨rfl, hx9⟩; clear f0 t0 f1 t1 f2 t2; have hcv1 := run_b2s (P := Tryd.prog) (dst := 9) Tryd.underlying41 Tryd.underlying5 Tryd.underlying9 (OwnB.later (OwnB.drewN (hL w0) 1) hx9 (Nat.le_refl _)); replace hcv1 : (convert 41 9 (.slice (some ⟨w0.heap.size, 0, none⟩) 3 3)).run Tryd.prog w9 = .ok (.string ⟨[UInt8.ofNat b, UInt8.ofNat s, UInt8.ofNat E].toArray⟩) w9 := hcv1; replace D0 := (CP.al D0 _).dr.next hx9; replace hB : BB w _ := BB.next (BB.al hB _).dr hx9; have v0 := (show (_ : Option Value) = some (.int .i64 (b : Int)) from D0 0 (by simp)); have v1 := (show (_ : Option Value) = some (.int .i64 (s : Int)) from D0 1 (by simp)); have v2 := (show (_ : Option Value) = some (.int .i64 (E : Int)) from D0 2 (by simp))))
  all_goals
    go_wp2
    go_ret
    have hBw : Below w.heap.size w w9 := hB
    exact ⟨by rw [← H6.out]; rfl, (by with_reducible repeat (first | exact Below.refl _ _ | assumption | refine below_step ?_ (by assumption) | refine Below.drew ?_ | refine below_drewN ?_ _ | refine below_alloc ?_ _ | refine Below.setCell ?_ (by simp; try omega) _))⟩
end Go.Proofs.YtbobehieaaaleaaDoor
namespace Go.Proofs.YtbobehieaaaleaaDoor
set_option linter.unusedVariables false
open Go.RowKit

theorem ex_1 {l : List ByteArray} (h : blkB l = false) : exB l = false := by simp [exB, h]
theorem ex_2 {l : List ByteArray} {b0 H : ByteArray} {s : Nat} (hh : l.headD ⟨#[]⟩ = b0) (hs : s0 l = s) (hH : exS l.length s = H) (hb : blkB l = true) : exB l = decide (b0 = H) := by rw [exB, hb, hh, hs, hH, Bool.true_and]
set_option maxRecDepth 100000 in
set_option maxHeartbeats 2000000 in
theorem openExtents_any (A : Option Addr) (cp : Nat) (l : List ByteArray) (w : World) (h : Rd w w.heap.size 1 A l.length (flat fS l)) (hn : l.length ≤ 1048576) (hcp : l.length ≤ cp)
    (HDR : ∀ (b s : Nat) (x : Int) (w : World) (_ : b ≤ 128) (_ : 8 ≤ s) (_ : s ≤ 32), Calls Tryd.prog 53 #[.agg #[.int .i64 (b : Int), .int .i64 (s : Int), .int .i64 (b / 4 : Nat), .int .i64 x]] w fun e w' => e = .returned (.string (exS b s)) ∧ Below w.heap.size w w') :
    Calls Tryd.prog 25 #[.slice A l.length cp] w fun e w' => ∃ pv, e = .returned (.tuple #[pv, .bool (exB l)]) ∧ Below w.heap.size w w' ∧ (exB l = true → ∃ (g : Nat) (a : Option Addr) (c : Nat), pv = .pointer (some ⟨g, 0, none⟩) ∧ CP w' g [.int .i64 (l.length : Int), .int .i64 (s0 l : Int), .int .i64 (l.length / 4 : Nat), .int .i64 (exD l.length (s0 l) : Int), .slice a (jn l).length c] ∧ Rd w' w'.heap.size 1 a (jn l).length (bcells (jn l)) ∧ (jn l).length ≤ c) ∧ (exB l = false → pv = .pointer none) := by
  have hib := isBlocks_any A cp l w h hn
  cases hbk : blkB l
  · rw [hbk] at hib
    have HR := Lib.hid (ex_1 hbk)
    clear hbk
    go_enter Tryd.func25, Tryd.ntmps25
    go_wp2_with (go_at_call 35; refine hib.mono ?_; rintro e w9 ⟨rfl, rfl⟩)
    (try simp only [Exit.inBlock, Exit.then]); refine bodyPost_ret (results_tmp2 rfl _ _ _) rfl ?_
    exact ⟨.pointer none, by rw [HR.out]; rfl, Below.refl _ _, fun e => absurd (HR.out.symm.trans e) (by decide), fun _ => rfl⟩
  rw [hbk] at hib
  obtain ⟨n8, n128, s3, hall⟩ := blk_yes hbk
  have hpos : 0 < l.length := by omega
  have hposi : (0 : Int) < (l.length : Int) := by omega
  obtain ⟨b, off, rfl, hbb, hc⟩ := h.at_ fS_len rfl 0 hpos
  have hc0 := hc 0 _ (by omega) rfl
  clear hc
  simp only [Nat.zero_mul, Nat.add_zero] at hc0
  obtain ⟨b0, hb0⟩ : ∃ x, l[0] = x := ⟨_, rfl⟩
  have hs0 : s0 l = b0.size := by rw [s0_eq hpos, hb0]
  have hhd : l.headD ⟨#[]⟩ = b0 := by rw [head_eq hpos, hb0]
  rw [hb0] at hc0
  rw [hs0] at s3 hall ⊢
  clear hb0
  have h6 : 8 ≤ b0.size := by omega
  have h32 : b0.size ≤ 32 := by omega
  have hlay := fun W => extentLayout_any l.length b0.size W n128 (by omega) h32
  have hdr := fun (x : Int) W => HDR l.length b0.size x W n128 h6 h32
  have HJ := Lib.hid (show Lib.join (l.map (·.data.toList)) (⟨#[]⟩ : ByteArray).data.toList = jn l from join_nil l)
  have hjl : (jn l).length ≤ 4096 := by
    rw [jn_len l b0.size hall]
    have := Nat.mul_le_mul n128 h32
    omega
  obtain ⟨H, hH⟩ : ∃ H, exS l.length b0.size = H := ⟨_, rfl⟩
  have HDB := Lib.hid (ex_2 hhd hs0 hH hbk)
  rw [hH] at hdr
  clear hbk hhd hs0 hall s3 hH HDR
  generalize l.length / 4 = E at *
  generalize exD l.length b0.size = X at *
  have hsz := fun W => size_string_any (some ⟨b, off, none⟩) l.length cp W
  go_enter Tryd.func25, Tryd.ntmps25
  go_upto_region 3 with (go_at_call 35; refine hib.mono ?_; rintro e w9 ⟨rfl, rfl⟩)
  clear hib
  go_cut [4] (fun p wx => ∃ (g : Nat), p = .pointer (some ⟨g, 0, none⟩) ∧ BB w wx ∧ CP wx g [.int .i64 (l.length : Int), .int .i64 (b0.size : Int), .int .i64 (E : Int), .int .i64 (X : Int)])
  case first =>
    have hB := BB.start w
    have s_B := hB.dr
    have t_B := fun (o : Obj) => (BB.al hB o).dr
    have s_0 : (_ : Option Value) = some (.string b0) := (hB.dr).cell hbb |>.trans hc0
    have t_0 := fun (o : Obj) => (show (_ : Option Value) = some (.string b0) from ((BB.al hB o).dr).cell hbb |>.trans hc0)
    go_region_held3 (fun W => BB w W ∧ W.cell? ⟨b, off, none⟩ = some (.string b0)) (refine ⟨?_, ?_⟩ <;> first | with_reducible assumption | with_reducible exact t_B _ | with_reducible exact t_0 _) (first
      | (go_at_call 37; refine (hsz _).mono ?_; rintro e w9 ⟨rfl, rfl⟩)
      | (go_at_call 52; have con := hlay w.drew; (with_reducible refine con.mono ?_); clear con; rintro e w3 ⟨rfl, hx3⟩; clear s_B t_B s_0 t_0; replace hB : BB w _ := BB.next (hB.dr) hx3; have s_B := hB; have t_B := fun (o : Obj) => BB.al hB o; have s_0 : (_ : Option Value) = some (.string b0) := (hB).cell hbb |>.trans hc0; have t_0 := fun (o : Obj) => (show (_ : Option Value) = some (.string b0) from (BB.al hB o).cell hbb |>.trans hc0))
      | (go_at_call 52; have con := fun (o : Obj) => hlay (w.alloc o).drew; (with_reducible refine (con _).mono ?_); clear con; rintro e w3 ⟨rfl, hx3⟩; clear s_B t_B s_0 t_0; have F : BX ((w.alloc (.cells #[.int .i64 0, .int .i64 0, .int .i64 0, .int .i64 0] 52)).drew) w.heap.size 52 [.int .i64 0, .int .i64 0, .int .i64 0, .int .i64 0] := BX.made w 52 [.int .i64 0, .int .i64 0, .int .i64 0, .int .i64 0]; replace F := F.below hx3 (by simp); replace hB : BB w _ := BB.next ((BB.al hB _).dr) hx3; have s_B := hB; have t_B := fun (o : Obj) => BB.al hB o; have s_0 : (_ : Option Value) = some (.string b0) := (hB).cell hbb |>.trans hc0; have t_0 := fun (o : Obj) => (show (_ : Option Value) = some (.string b0) from (BB.al hB o).cell hbb |>.trans hc0); have z_0 : (_ : Option Value) = some (.int .i64 0) := F.cell 0 (by simp); have z_1 : (_ : Option Value) = some (.int .i64 0) := F.cell 1 (by simp); have z_2 : (_ : Option Value) = some (.int .i64 0) := F.cell 2 (by simp); have z_3 : (_ : Option Value) = some (.int .i64 0) := F.cell 3 (by simp); have hfz := fun j => F.free j; have P8 := ((((F.put 0 (.int .i64 (l.length : Int))).put 1 (.int .i64 (b0.size : Int))).put 2 (.int .i64 (E : Int))).put 3 (.int .i64 (X : Int))); have hBq := ((((hB.put (a := ⟨w.heap.size, 0, none⟩) (Nat.le_refl _) (.int .i64 (l.length : Int))).put (a := ⟨w.heap.size, 1, none⟩) (Nat.le_refl _) (.int .i64 (b0.size : Int))).put (a := ⟨w.heap.size, 2, none⟩) (Nat.le_refl _) (.int .i64 (E : Int))).put (a := ⟨w.heap.size, 3, none⟩) (Nat.le_refl _) (.int .i64 (X : Int))); have u_0 : (_ : Option Value) = some (.string b0) := (Below.cell hBq hbb).trans hc0; have mf := True.intro))
    all_goals
      go_wp2_with fail
      go_meet
      first
        | (have := mf; exact ⟨w.heap.size, rfl, hBq, BX.cp P8⟩)
        | exact ⟨w3.heap.size, rfl, hB.al _, CP.made w3 [.int .i64 (l.length : Int), .int .i64 (b0.size : Int), .int .i64 (E : Int), .int .i64 (X : Int)] 52⟩
  case rest =>
    obtain ⟨g, rfl, hB, D0⟩ := hcut
    have k0 := gw_cell (show wc.cell? ⟨b, off, none⟩ = some (.string b0) from (hB.cell hbb).trans hc0)
    have k1 := gw_cell (show wc.cell? ⟨g, 0, none⟩ = some (.int .i64 (l.length : Int)) from D0 0 (by simp))
    have k2 := gw_cell (show wc.cell? ⟨g, 1, none⟩ = some (.int .i64 (b0.size : Int)) from D0 1 (by simp))
    have k3 := gw_cell (show wc.cell? ⟨g, 2, none⟩ = some (.int .i64 (E : Int)) from D0 2 (by simp))
    have k4 := gw_cell (show wc.cell? ⟨g, 3, none⟩ = some (.int .i64 (X : Int)) from D0 3 (by simp))
    have hq := fun (p' : Regrown) => qb_below p' (hdr (X : Int) (Sort.grow (redrawn wc p'.d) p'.os))
    go_wp2_with fail
    refine wp_region_quiet_below (by kernel_rfl) (by kernel_rfl) ?_
    repeat (go_big_quiet_step ((first | with_reducible exact hq _)))
    refine wpQuiet_nil ?_
    intro _ hw'
    obtain ⟨pq, hw''⟩ := hw'
    subst hw''
    have hb6 := gw_below wc pq
    generalize Sort.grow (redrawn wc pq.d) pq.os = w6 at hb6 ⊢
    clear hq k0 k1 k2 k3 k4 hdr hlay hsz
    replace D0 := D0.next hb6
    replace hB : BB w _ := BB.next hB hb6
    cases hh : (b0.toList == H.toList)
    · have hhn : (b0.toList != H.toList) = true := by rw [bne, hh]; rfl
      have HR := Lib.hid (HDB.out.trans ((str_eq b0 H).symm.trans hh))
      clear hh
      go_wp2
      (try simp only [Exit.inBlock, Exit.then]); refine bodyPost_ret (results_tmp2 rfl _ _ _) rfl ?_
      exact ⟨.pointer none, by rw [HR.out]; rfl, hB, fun e => absurd (HR.out.symm.trans e) (by decide), fun _ => rfl⟩
    have hhn : (b0.toList != H.toList) = false := by rw [bne, hh]; rfl
    have HR := Lib.hid (HDB.out.trans ((str_eq b0 H).symm.trans hh))
    clear hh
    have hbk2 : b < w6.heap.size := Nat.lt_of_lt_of_le hbb (Below.size hB)
    have hcl : ∀ (j : Nat) (x : ByteArray), l[j]? = some x → w6.drew.cell? ⟨b, off + j, none⟩ = some (.string x) := by
      intro j x hx
      obtain ⟨hj, rfl⟩ := List.getElem?_eq_some_iff.1 hx
      obtain ⟨b', off', he, hb', hc⟩ := h.at_ fS_len rfl j hj
      cases he
      have h1 := hc 0 _ (by omega) rfl
      simp only [Nat.mul_one, Nat.add_zero] at h1
      exact (Below.cell (BB.dr hB) (p := ⟨b, off + j, none⟩) hbb).trans h1
    have con : Calls Tryd.prog 39 #[.slice (some ⟨b, off, none⟩) l.length cp, .string ⟨#[]⟩] w6.drew fun e w' => e = .returned (.string ⟨(jn l).toArray⟩) ∧ Below w6.drew.heap.size w6.drew w' := by
      rw [← HJ.out]
      exact Tryd.strings_Join b off cp l ⟨#[]⟩ w6.drew hcl hbk2 (by omega) hcp (by rw [HJ.out]; omega)
    have hJd : (⟨(jn l).toArray⟩ : ByteArray).data.toList = jn l := rfl
    generalize (⟨(jn l).toArray⟩ : ByteArray) = J at con hJd
    have hJs : J.size = (jn l).length := by rw [← hJd, Array.length_toList]; rfl
    have HJD := Lib.hid hJd
    have hJb : J.size ≤ 4096 := by omega
    have HJS := Lib.hid hJs
    clear hJd hJs hcl
    have hcv := fun (W : World) => run_bytes_of_string (P := Tryd.prog) W 9 41 5 J Tryd.underlying9 Tryd.underlying41 Tryd.underlying5
    go_wp2_with fail
    have s_0 : (_ : Option Value) = some (.int .i64 (l.length : Int)) := (D0.dr) 0 (by simp)
    have s_1 : (_ : Option Value) = some (.int .i64 (b0.size : Int)) := (D0.dr) 1 (by simp)
    have s_2 : (_ : Option Value) = some (.int .i64 (E : Int)) := (D0.dr) 2 (by simp)
    have s_3 : (_ : Option Value) = some (.int .i64 (X : Int)) := (D0.dr) 3 (by simp)
    have t_0 := fun (o : Obj) => (show (_ : Option Value) = some (.int .i64 (l.length : Int)) from ((CP.al D0 o).dr) 0 (by simp))
    have t_1 := fun (o : Obj) => (show (_ : Option Value) = some (.int .i64 (b0.size : Int)) from ((CP.al D0 o).dr) 1 (by simp))
    have t_2 := fun (o : Obj) => (show (_ : Option Value) = some (.int .i64 (E : Int)) from ((CP.al D0 o).dr) 2 (by simp))
    have t_3 := fun (o : Obj) => (show (_ : Option Value) = some (.int .i64 (X : Int)) from ((CP.al D0 o).dr) 3 (by simp))
    have u_0 := fun (o o2 : Obj) => (show (_ : Option Value) = some (.int .i64 (l.length : Int)) from ((CP.al (CP.al D0 o) o2).dr) 0 (by simp))
    have u_1 := fun (o o2 : Obj) => (show (_ : Option Value) = some (.int .i64 (b0.size : Int)) from ((CP.al (CP.al D0 o) o2).dr) 1 (by simp))
    have u_2 := fun (o o2 : Obj) => (show (_ : Option Value) = some (.int .i64 (E : Int)) from ((CP.al (CP.al D0 o) o2).dr) 2 (by simp))
    have u_3 := fun (o o2 : Obj) => (show (_ : Option Value) = some (.int .i64 (X : Int)) from ((CP.al (CP.al D0 o) o2).dr) 3 (by simp))
    go_region_law (go_simp; (go_at_call 39; refine con.mono ?_; rintro e w7 ⟨rfl, hx7⟩; clear s_0 t_0 u_0 s_1 t_1 u_1 s_2 t_2 u_2 s_3 t_3 u_3; replace D0 := D0.dr.next hx7; replace hB : BB w _ := BB.next (BB.dr hB) hx7; have s_0 : (_ : Option Value) = some (.int .i64 (l.length : Int)) := (D0.dr) 0 (by simp); have s_1 : (_ : Option Value) = some (.int .i64 (b0.size : Int)) := (D0.dr) 1 (by simp); have s_2 : (_ : Option Value) = some (.int .i64 (E : Int)) := (D0.dr) 2 (by simp); have s_3 : (_ : Option Value) = some (.int .i64 (X : Int)) := (D0.dr) 3 (by simp); have t_0 := fun (o : Obj) => (show (_ : Option Value) = some (.int .i64 (l.length : Int)) from ((CP.al D0 o).dr) 0 (by simp)); have t_1 := fun (o : Obj) => (show (_ : Option Value) = some (.int .i64 (b0.size : Int)) from ((CP.al D0 o).dr) 1 (by simp)); have t_2 := fun (o : Obj) => (show (_ : Option Value) = some (.int .i64 (E : Int)) from ((CP.al D0 o).dr) 2 (by simp)); have t_3 := fun (o : Obj) => (show (_ : Option Value) = some (.int .i64 (X : Int)) from ((CP.al D0 o).dr) 3 (by simp)); have u_0 := fun (o o2 : Obj) => (show (_ : Option Value) = some (.int .i64 (l.length : Int)) from ((CP.al (CP.al D0 o) o2).dr) 0 (by simp)); have u_1 := fun (o o2 : Obj) => (show (_ : Option Value) = some (.int .i64 (b0.size : Int)) from ((CP.al (CP.al D0 o) o2).dr) 1 (by simp)); have u_2 := fun (o o2 : Obj) => (show (_ : Option Value) = some (.int .i64 (E : Int)) from ((CP.al (CP.al D0 o) o2).dr) 2 (by simp)); have u_3 := fun (o o2 : Obj) => (show (_ : Option Value) = some (.int .i64 (X : Int)) from ((CP.al (CP.al D0 o) o2).dr) 3 (by simp)); have v_0 : (_ : Option Value) = some (.int .i64 (l.length : Int)) := D0 0 (by simp); have v_1 : (_ : Option Value) = some (.int .i64 (b0.size : Int)) := D0 1 (by simp); have v_2 : (_ : Option Value) = some (.int .i64 (E : Int)) := D0 2 (by simp); have v_3 : (_ : Option Value) = some (.int .i64 (X : Int)) := D0 3 (by simp)))
    all_goals
      go_wp2
      (try simp only [Exit.inBlock, Exit.then]); refine bodyPost_ret (results_tmp2 rfl _ _ _) rfl ?_
      have hBw : Below w.heap.size w w7 := hB
      have hmk := MarkB.made (e := 5) w7 J (grownCap w7 J.size 0 5)
      have hlt := hmk.lt
      refine ⟨.pointer (some ⟨w7.heap.size + 1, 0, none⟩), by rw [HR.out]; rfl, ?_, fun _ => ⟨w7.heap.size + 1, some ⟨w7.heap.size, 0, none⟩, grownCap w7 J.size 0 5, rfl, ?_, ?_, by rw [← HJS.out]; exact grownCap_ge w7 J.size 0 5⟩, fun e => absurd (HR.out.symm.trans e) (by decide)⟩
      · exact (by with_reducible repeat (first | exact Below.refl _ _ | assumption | refine below_step ?_ (by assumption) | refine Below.drew ?_ | refine below_drewN ?_ _ | refine below_alloc ?_ _ | refine Below.setCell ?_ (by simp; try omega) _))
      · rw [← HJS.out]
        have hcp := CP.made (w7.alloc (.cells (bytesRow J (grownCap w7 J.size 0 5)) 5 ((bytesRow J (grownCap w7 J.size 0 5)).size, (bytesRow J (grownCap w7 J.size 0 5)).size + 1))) [.int .i64 (l.length : Int), .int .i64 (b0.size : Int), .int .i64 (E : Int), .int .i64 (X : Int), .slice (some ⟨w7.heap.size, 0, none⟩) J.size (grownCap w7 J.size 0 5)] 95
        rw [World.size_alloc] at hcp
        exact hcp.dr
      · have hrd := Rd.of_mark ((hmk.below (below_alloc (Below.refl (w7.alloc (.cells (bytesRow J (grownCap w7 J.size 0 5)) 5 ((bytesRow J (grownCap w7 J.size 0 5)).size, (bytesRow J (grownCap w7 J.size 0 5)).size + 1))).heap.size _) (.cells #[.int .i64 (l.length : Int), .int .i64 (b0.size : Int), .int .i64 (E : Int), .int .i64 (X : Int), .slice (some ⟨w7.heap.size, 0, none⟩) J.size (grownCap w7 J.size 0 5)] 95)) hlt))
        rw [HJD.out] at hrd
        exact hrd
end Go.Proofs.YtbobehieaaaleaaDoor
namespace Go.Proofs.YtbobehieaaaleaaDoor
set_option linter.unusedVariables false
open Go.RowKit

theorem ex_3 {l : List ByteArray} {s : Nat} (hs : s0 l = s) (h : oneOf s = false) : exB l = false := ex_1 (blk_2 (by rw [hs]; exact h))
set_option maxRecDepth 100000 in
set_option maxHeartbeats 2000000 in
theorem l17On_any (A : Option Addr) (cp : Nat) (l : List ByteArray) (w : World) (h : Rd w w.heap.size 1 A l.length (flat fS l)) (hn : l.length ≤ 1048576) :
    Calls Tryd.prog 21 #[.slice A l.length cp] w fun e w' => e = .returned (.tuple #[.agg #[.int .i64 (loN (exB l) (l.length)), .int .i64 (loN (exB l) (s0 l)), .int .i64 (loN (exB l) (l.length / 4)), .int .i64 (loN (exB l) (exD l.length (s0 l)))], .bool (exB l)]) ∧ Below w.heap.size w w' := by
  have F := BX.made w 52 [.int .i64 0, .int .i64 0, .int .i64 0, .int .i64 0]
  have hB : BB w (w.alloc (.cells #[.int .i64 0, .int .i64 0, .int .i64 0, .int .i64 0] 52)) := (show Below w.heap.size w (w.alloc (.cells #[.int .i64 0, .int .i64 0, .int .i64 0, .int .i64 0] 52)) from (by with_reducible repeat (first | exact Below.refl _ _ | assumption | refine below_step ?_ (by assumption) | refine Below.drew ?_ | refine below_drewN ?_ _ | refine below_alloc ?_ _ | refine Below.setCell ?_ (by simp; try omega) _)))
  have hwi := fun W => l00In_any (l.length : Int) 8 128 W
  have z0 : (_ : Option Value) = some (.int .i64 0) := F.cell 0 (by simp)
  have z1 : (_ : Option Value) = some (.int .i64 0) := F.cell 1 (by simp)
  have z2 : (_ : Option Value) = some (.int .i64 0) := F.cell 2 (by simp)
  have z3 : (_ : Option Value) = some (.int .i64 0) := F.cell 3 (by simp)
  have hfz := fun j => F.free j
  cases hin : inB (l.length : Int) 8 128
  · have HR := Lib.hid (ex_1 (blk_1 hin))
    rw [hin] at hwi
    clear hin
    go_enter Tryd.func21, Tryd.ntmps21
    go_wp2_with (go_at_call 16; refine (hwi _).mono ?_; rintro e w9 ⟨rfl, rfl⟩)
    refine bodyPost_ret (v := .tuple #[.agg #[.int .i64 0, .int .i64 0, .int .i64 0, .int .i64 0], .bool false]) (by simp [results, Tryd.results21, go_sem, z0, z1, z2, z3]) rfl ⟨by rw [HR.out]; rfl, ?_⟩
    exact (by with_reducible repeat (first | exact Below.refl _ _ | assumption | refine below_step ?_ (by assumption) | refine Below.drew ?_ | refine below_drewN ?_ _ | refine below_alloc ?_ _ | refine Below.setCell ?_ (by simp; try omega) _))
  obtain ⟨n8, n128⟩ := inB_yes hin
  have hpos : 0 < l.length := by omega
  have hposi : (0 : Int) < (l.length : Int) := by omega
  have hn128 : l.length ≤ 128 := by omega
  rw [hin] at hwi
  obtain ⟨b, off, rfl, hbb, hc⟩ := h.at_ fS_len rfl 0 hpos
  have hc0 := hc 0 _ (by omega) rfl
  clear hc
  simp only [Nat.zero_mul, Nat.add_zero] at hc0
  obtain ⟨b0, hb0⟩ : ∃ x, l[0] = x := ⟨_, rfl⟩
  have hs0 : s0 l = b0.size := by rw [s0_eq hpos, hb0]
  have hhd : l.headD ⟨#[]⟩ = b0 := by rw [head_eq hpos, hb0]
  rw [hb0] at hc0
  rw [hs0]
  clear hb0 n8 n128
  have c0 := (hB.cell (p := ⟨b, off, none⟩) hbb).trans hc0
  have hsz := fun W => l17Size_any b0.size W
  cases hS : oneOf b0.size
  · have HR := Lib.hid (ex_3 hs0 hS)
    rw [hS] at hsz
    clear hin hS
    go_enter Tryd.func21, Tryd.ntmps21
    go_wp2_with (first | (go_at_call 45; refine (hsz _).mono ?_; rintro e w9 ⟨rfl, rfl⟩) | (go_at_call 16; refine (hwi _).mono ?_; rintro e w9 ⟨rfl, rfl⟩))
    refine bodyPost_ret (v := .tuple #[.agg #[.int .i64 0, .int .i64 0, .int .i64 0, .int .i64 0], .bool false]) (by simp [results, Tryd.results21, go_sem, z0, z1, z2, z3]) rfl ⟨by rw [HR.out]; rfl, ?_⟩
    exact (by with_reducible repeat (first | exact Below.refl _ _ | assumption | refine below_step ?_ (by assumption) | refine Below.drew ?_ | refine below_drewN ?_ _ | refine below_alloc ?_ _ | refine Below.setCell ?_ (by simp; try omega) _))
  rw [hS] at hsz
  have s3 := oneOf_yes hS
  have h8 : 8 ≤ b0.size := by omega
  have h32 : b0.size ≤ 32 := by omega
  have HS := Lib.hid (show (inB (l.length : Int) 8 128 && oneOf b0.size) = true by rw [hin, hS]; rfl)
  clear hin hS s3
  have hdr := fun W => l17Head_any l.length b0.size W hn128 h8 h32
  have hda := fun W => l17Data_any l.length b0.size W hn128 (by omega) h32
  obtain ⟨H, hH⟩ : ∃ H, exS l.length b0.size = H := ⟨_, rfl⟩
  rw [hH] at hdr
  have HDB := Lib.hid (fun hb => ex_2 hhd hs0 hH hb)
  have HS0 := Lib.hid hs0
  clear hH hs0 hhd
  obtain ⟨E, hE⟩ : ∃ E, l.length / 4 = E := ⟨_, rfl⟩
  have hdv : (l.length : Int) / 4 = (E : Int) := by omega
  have hdt : (l.length : Int).tdiv 4 = (E : Int) := by rw [← hE]; rfl
  have aE : IntKind.i64.wrap (E : Int) = (E : Int) := i_nat _ (by omega)
  rw [hE]
  clear hE
  generalize exD l.length b0.size = X at *
  go_enter Tryd.func21, Tryd.ntmps21
  go_wp2_with (first | (go_at_call 45; refine (hsz _).mono ?_; rintro e w9 ⟨rfl, rfl⟩) | (go_at_call 16; refine (hwi _).mono ?_; rintro e w9 ⟨rfl, rfl⟩))
  clear hsz hwi
  go_loop [6] (fun i => ∃ k : Nat, k ≤ l.length ∧ i = .int .i64 k ∧ Hid (∀ j, (hj : j < k) → (hj' : j < l.length) → l[j].size = b0.size)) (fun i => l.length - (intOf i).toNat)
  case atStart => exact ⟨0, Nat.zero_le _, rfl, Lib.hid (fun j hj => absurd hj (by omega))⟩
  case round =>
    obtain ⟨k, hk, rfl, HI⟩ := hrel
    by_cases hlt : k < l.length
    · have hlti : (k : Int) < (l.length : Int) := by omega
      obtain ⟨b', off', hbo, hbb', hc⟩ := h.at_ fS_len rfl k hlt
      cases hbo
      have hck := hc 0 _ (by omega) rfl
      clear hc
      simp only [Nat.mul_one, Nat.add_zero] at hck
      obtain ⟨bk, hbk⟩ : ∃ x, l[k] = x := ⟨_, rfl⟩
      rw [hbk] at hck
      have ck := (hB.cell (p := ⟨b, off + k, none⟩) hbb).trans hck
      by_cases hx : bk.size = b0.size
      · have HN := Lib.hid (show ∀ j, (hj : j < k + 1) → (hj' : j < l.length) → l[j].size = b0.size from fun j hj hj' => by
          by_cases he : j = k
          · subst he
            rw [hbk, hx]
          · exact HI.out j (by omega) hj')
        have hxb : ((bk.size : Int) != (b0.size : Int)) = false := by simp; omega
        clear hbk hx
        go_wp2
        go_round
        case rel => exact ⟨k + 1, by omega, by go_num, HN⟩
        case measure => simp [intOf]; omega
      · have HR := Lib.hid (ex_1 (blk_3 hlt (by rw [HS0.out, hbk]; exact hx)))
        have hxb : ((bk.size : Int) != (b0.size : Int)) = true := by simp; omega
        clear hbk hx
        go_wp2
        refine bodyPost_ret (v := .tuple #[.agg #[.int .i64 0, .int .i64 0, .int .i64 0, .int .i64 0], .bool false]) (by simp [results, Tryd.results21, go_sem, z0, z1, z2, z3]) rfl ⟨by rw [HR.out]; rfl, ?_⟩
        exact (by with_reducible repeat (first | exact Below.refl _ _ | assumption | refine below_step ?_ (by assumption) | refine Below.drew ?_ | refine below_drewN ?_ _ | refine below_alloc ?_ _ | refine Below.setCell ?_ (by simp; try omega) _))
    have hlti : ¬ (k : Int) < (l.length : Int) := by omega
    have hbk := blk_6 HS0.out HS.out (fun j hj => HI.out j (by omega) hj)
    have HDX := Lib.hid (HDB.out hbk)
    clear hbk
    go_wp2_with fail
    have F' := F
    have hB' := hB
    generalize w.alloc (.cells #[.int .i64 0, .int .i64 0, .int .i64 0, .int .i64 0] 52) = w1 at F' hB' c0 ⊢
    clear F hB z0 z1 z2 z3 hfz
    have k0 := gw_cell c0
    have hq := fun (p' : Regrown) => qb_below p' (hdr (Sort.grow (redrawn w1 p'.d) p'.os))
    refine wp_region_quiet_below (by kernel_rfl) (by kernel_rfl) ?_
    repeat (go_big_quiet_step ((first | with_reducible exact hq _)))
    refine wpQuiet_nil ?_
    intro _ hw'
    obtain ⟨pq, hw''⟩ := hw'
    subst hw''
    have hb6 := gw_below w1 pq
    generalize Sort.grow (redrawn w1 pq.d) pq.os = w6 at hb6 ⊢
    have F := F'.below hb6 F'.lt
    have hB : BB w w6 := BB.next hB' hb6
    clear hq k0 hdr F' hB' hb6
    have z0 : (_ : Option Value) = some (.int .i64 0) := F.cell 0 (by simp)
    have z1 : (_ : Option Value) = some (.int .i64 0) := F.cell 1 (by simp)
    have z2 : (_ : Option Value) = some (.int .i64 0) := F.cell 2 (by simp)
    have z3 : (_ : Option Value) = some (.int .i64 0) := F.cell 3 (by simp)
    have hfz := fun j => F.free j
    cases hh : (b0.toList == H.toList)
    · have hhn : (b0.toList != H.toList) = true := by rw [bne, hh]; rfl
      have HR := Lib.hid (HDX.out.trans ((str_eq b0 H).symm.trans hh))
      clear hh
      have hBw : Below w.heap.size w w6 := hB
      go_wp2
      refine bodyPost_ret (v := .tuple #[.agg #[.int .i64 0, .int .i64 0, .int .i64 0, .int .i64 0], .bool false]) (by simp [results, Tryd.results21, go_sem, z0, z1, z2, z3]) rfl ⟨by rw [HR.out]; rfl, ?_⟩
      exact (by with_reducible repeat (first | exact Below.refl _ _ | assumption | refine below_step ?_ (by assumption) | refine Below.drew ?_ | refine below_drewN ?_ _ | refine below_alloc ?_ _ | refine Below.setCell ?_ (by simp; try omega) _))
    have hhn : (b0.toList != H.toList) = false := by rw [bne, hh]; rfl
    have HR := Lib.hid (HDX.out.trans ((str_eq b0 H).symm.trans hh))
    clear hh
    have P := ((((F.put 0 (.int .i64 (l.length : Int))).put 1 (.int .i64 (b0.size : Int))).put 2 (.int .i64 (E : Int))).put 3 (.int .i64 (X : Int)))
    have hBq := (BB.put (a := ⟨w.heap.size, 3, none⟩) (BB.put (a := ⟨w.heap.size, 2, none⟩) (BB.put (a := ⟨w.heap.size, 1, none⟩) (BB.put (a := ⟨w.heap.size, 0, none⟩) hB (Nat.le_refl _) (.int .i64 (l.length : Int))) (Nat.le_refl _) (.int .i64 (b0.size : Int))) (Nat.le_refl _) (.int .i64 (E : Int))) (Nat.le_refl _) (.int .i64 (X : Int)))
    have r0 : (_ : Option Value) = some (.int .i64 (l.length : Int)) := P.cell 0 (by simp)
    have r1 : (_ : Option Value) = some (.int .i64 (b0.size : Int)) := P.cell 1 (by simp)
    have r2 : (_ : Option Value) = some (.int .i64 (E : Int)) := P.cell 2 (by simp)
    have r3 : (_ : Option Value) = some (.int .i64 (X : Int)) := P.cell 3 (by simp)
    go_wp2_with (go_at_call 47; refine (hda _).mono ?_; rintro e w9 ⟨rfl, rfl⟩)
    refine bodyPost_ret (v := .tuple #[.agg #[.int .i64 (l.length : Int), .int .i64 (b0.size : Int), .int .i64 (E : Int), .int .i64 (X : Int)], .bool true]) (by simp [results, Tryd.results21, go_sem, r0, r1, r2, r3]) rfl ⟨by rw [HR.out]; rfl, hBq⟩
end Go.Proofs.YtbobehieaaaleaaDoor
