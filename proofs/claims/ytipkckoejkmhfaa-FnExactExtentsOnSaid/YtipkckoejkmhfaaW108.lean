/- Walks: ExtentsOn. -/
import Derived.Test.YtipkckoejkmhfaaW107
import Derived.Test.YtipkckoejkmhfaaW98
import Derived.Test.YtipkckoejkmhfaaQB
namespace Go.Proofs.Ytipkckoejkmhfaa
open Go.RowKit
set_option linter.unusedVariables false

theorem ex_3 {l : List ByteArray} {s : Nat} (hs : s0 l = s) (h : oneOf s = false) : exB l = false := ex_1 (blk_2 (by rw [hs]; exact h))
set_option maxRecDepth 100000 in
set_option maxHeartbeats 2000000 in
theorem l17On_any (A : Option Addr) (cp : Nat) (l : List ByteArray) (w : World) (h : Rd w w.heap.size 1 A l.length (flat fS l)) (hn : l.length ≤ 1048576) :
    Calls Try.prog 38 #[.slice A l.length cp] w fun e w' => e = .returned (.tuple #[.agg #[.int .i64 (loN (exB l) (l.length)), .int .i64 (loN (exB l) (s0 l)), .int .i64 (loN (exB l) (l.length / 4)), .int .i64 (loN (exB l) (exD l.length (s0 l)))], .bool (exB l)]) ∧ Below w.heap.size w w' := by
  have F := BX.made w 36 [.int .i64 0, .int .i64 0, .int .i64 0, .int .i64 0]
  have hB : BB w (w.alloc (.cells #[.int .i64 0, .int .i64 0, .int .i64 0, .int .i64 0] 36)) := (show Below w.heap.size w (w.alloc (.cells #[.int .i64 0, .int .i64 0, .int .i64 0, .int .i64 0] 36)) from (by with_reducible repeat (first | exact Below.refl _ _ | assumption | refine below_step ?_ (by assumption) | refine Below.drew ?_ | refine below_drewN ?_ _ | refine below_alloc ?_ _ | refine Below.setCell ?_ (by simp; try omega) _)))
  have hwi := fun W => l00In_any (l.length : Int) 8 128 W
  have z0 : (_ : Option Value) = some (.int .i64 0) := F.cell 0 (by simp)
  have z1 : (_ : Option Value) = some (.int .i64 0) := F.cell 1 (by simp)
  have z2 : (_ : Option Value) = some (.int .i64 0) := F.cell 2 (by simp)
  have z3 : (_ : Option Value) = some (.int .i64 0) := F.cell 3 (by simp)
  have hfz := fun j => F.free j
  cases hin : inB (l.length : Int) 8 128
  · have HR := Lib.hid (ex_1 (blk_1 hin))
    rw [hin] at hwi
    clear hin
    go_enter Try.func38, Try.ntmps38
    go_wp2_with (go_at_call 34; refine (hwi _).mono ?_; rintro e w9 ⟨rfl, rfl⟩)
    refine bodyPost_ret (v := .tuple #[.agg #[.int .i64 0, .int .i64 0, .int .i64 0, .int .i64 0], .bool false]) (by simp [results, Try.results38, go_sem, z0, z1, z2, z3]) rfl ⟨by rw [HR.out]; rfl, ?_⟩
    exact (by with_reducible repeat (first | exact Below.refl _ _ | assumption | refine below_step ?_ (by assumption) | refine Below.drew ?_ | refine below_drewN ?_ _ | refine below_alloc ?_ _ | refine Below.setCell ?_ (by simp; try omega) _))
  obtain ⟨n8, n128⟩ := inB_yes hin
  have hpos : 0 < l.length := by omega
  have hposi : (0 : Int) < (l.length : Int) := by omega
  have hn128 : l.length ≤ 128 := by omega
  rw [hin] at hwi
  obtain ⟨b, off, rfl, hbb, hc⟩ := h.at_ fS_len rfl 0 hpos
  have hc0 := hc 0 _ (by omega) rfl
  clear hc
  simp only [Nat.zero_mul, Nat.add_zero] at hc0
  obtain ⟨b0, hb0⟩ : ∃ x, l[0] = x := ⟨_, rfl⟩
  have hs0 : s0 l = b0.size := by rw [s0_eq hpos, hb0]
  have hhd : l.headD ⟨#[]⟩ = b0 := by rw [head_eq hpos, hb0]
  rw [hb0] at hc0
  rw [hs0]
  clear hb0 n8 n128
  have c0 := (hB.cell (p := ⟨b, off, none⟩) hbb).trans hc0
  have hsz := fun W => l17Size_any b0.size W
  cases hS : oneOf b0.size
  · have HR := Lib.hid (ex_3 hs0 hS)
    rw [hS] at hsz
    clear hin hS
    go_enter Try.func38, Try.ntmps38
    go_wp2_with (first | (go_at_call 65; refine (hsz _).mono ?_; rintro e w9 ⟨rfl, rfl⟩) | (go_at_call 34; refine (hwi _).mono ?_; rintro e w9 ⟨rfl, rfl⟩))
    refine bodyPost_ret (v := .tuple #[.agg #[.int .i64 0, .int .i64 0, .int .i64 0, .int .i64 0], .bool false]) (by simp [results, Try.results38, go_sem, z0, z1, z2, z3]) rfl ⟨by rw [HR.out]; rfl, ?_⟩
    exact (by with_reducible repeat (first | exact Below.refl _ _ | assumption | refine below_step ?_ (by assumption) | refine Below.drew ?_ | refine below_drewN ?_ _ | refine below_alloc ?_ _ | refine Below.setCell ?_ (by simp; try omega) _))
  rw [hS] at hsz
  have s3 := oneOf_yes hS
  have h8 : 8 ≤ b0.size := by omega
  have h32 : b0.size ≤ 32 := by omega
  have HS := Lib.hid (show (inB (l.length : Int) 8 128 && oneOf b0.size) = true by rw [hin, hS]; rfl)
  clear hin hS s3
  have hdr := fun W => l17Head_any l.length b0.size W hn128 h8 h32
  have hda := fun W => l17Data_any l.length b0.size W hn128 (by omega) h32
  obtain ⟨H, hH⟩ : ∃ H, exS l.length b0.size = H := ⟨_, rfl⟩
  rw [hH] at hdr
  have HDB := Lib.hid (fun hb => ex_2 hhd hs0 hH hb)
  have HS0 := Lib.hid hs0
  clear hH hs0 hhd
  obtain ⟨E, hE⟩ : ∃ E, l.length / 4 = E := ⟨_, rfl⟩
  have hdv : (l.length : Int) / 4 = (E : Int) := by omega
  have hdt : (l.length : Int).tdiv 4 = (E : Int) := by rw [← hE]; rfl
  have aE : IntKind.i64.wrap (E : Int) = (E : Int) := i_nat _ (by omega)
  rw [hE]
  clear hE
  generalize exD l.length b0.size = X at *
  go_enter Try.func38, Try.ntmps38
  go_wp2_with (first | (go_at_call 65; refine (hsz _).mono ?_; rintro e w9 ⟨rfl, rfl⟩) | (go_at_call 34; refine (hwi _).mono ?_; rintro e w9 ⟨rfl, rfl⟩))
  clear hsz hwi
  go_loop [6] (fun i => ∃ k : Nat, k ≤ l.length ∧ i = .int .i64 k ∧ Hid (∀ j, (hj : j < k) → (hj' : j < l.length) → l[j].size = b0.size)) (fun i => l.length - (intOf i).toNat)
  case atStart => exact ⟨0, Nat.zero_le _, rfl, Lib.hid (fun j hj => absurd hj (by omega))⟩
  case round =>
    obtain ⟨k, hk, rfl, HI⟩ := hrel
    by_cases hlt : k < l.length
    · have hlti : (k : Int) < (l.length : Int) := by omega
      obtain ⟨b', off', hbo, hbb', hc⟩ := h.at_ fS_len rfl k hlt
      cases hbo
      have hck := hc 0 _ (by omega) rfl
      clear hc
      simp only [Nat.mul_one, Nat.add_zero] at hck
      obtain ⟨bk, hbk⟩ : ∃ x, l[k] = x := ⟨_, rfl⟩
      rw [hbk] at hck
      have ck := (hB.cell (p := ⟨b, off + k, none⟩) hbb).trans hck
      by_cases hx : bk.size = b0.size
      · have HN := Lib.hid (show ∀ j, (hj : j < k + 1) → (hj' : j < l.length) → l[j].size = b0.size from fun j hj hj' => by
          by_cases he : j = k
          · subst he
            rw [hbk, hx]
          · exact HI.out j (by omega) hj')
        have hxb : ((bk.size : Int) != (b0.size : Int)) = false := by simp; omega
        clear hbk hx
        go_wp2
        go_round
        case rel => exact ⟨k + 1, by omega, by go_num, HN⟩
        case measure => simp [intOf]; omega
      · have HR := Lib.hid (ex_1 (blk_3 hlt (by rw [HS0.out, hbk]; exact hx)))
        have hxb : ((bk.size : Int) != (b0.size : Int)) = true := by simp; omega
        clear hbk hx
        go_wp2
        refine bodyPost_ret (v := .tuple #[.agg #[.int .i64 0, .int .i64 0, .int .i64 0, .int .i64 0], .bool false]) (by simp [results, Try.results38, go_sem, z0, z1, z2, z3]) rfl ⟨by rw [HR.out]; rfl, ?_⟩
        exact (by with_reducible repeat (first | exact Below.refl _ _ | assumption | refine below_step ?_ (by assumption) | refine Below.drew ?_ | refine below_drewN ?_ _ | refine below_alloc ?_ _ | refine Below.setCell ?_ (by simp; try omega) _))
    have hlti : ¬ (k : Int) < (l.length : Int) := by omega
    have hbk := blk_6 HS0.out HS.out (fun j hj => HI.out j (by omega) hj)
    have HDX := Lib.hid (HDB.out hbk)
    clear hbk
    go_wp2_with fail
    have F' := F
    have hB' := hB
    generalize w.alloc (.cells #[.int .i64 0, .int .i64 0, .int .i64 0, .int .i64 0] 36) = w1 at F' hB' c0 ⊢
    clear F hB z0 z1 z2 z3 hfz
    have k0 := gw_cell c0
    have hq := fun (p' : Regrown) => qb_below p' (hdr (Sort.grow (redrawn w1 p'.d) p'.os))
    refine wp_region_quiet_below (by kernel_rfl) (by kernel_rfl) ?_
    repeat (go_big_quiet_step ((first | with_reducible exact hq _)))
    refine wpQuiet_nil ?_
    intro _ hw'
    obtain ⟨pq, hw''⟩ := hw'
    subst hw''
    have hb6 := gw_below w1 pq
    generalize Sort.grow (redrawn w1 pq.d) pq.os = w6 at hb6 ⊢
    have F := F'.below hb6 F'.lt
    have hB : BB w w6 := BB.next hB' hb6
    clear hq k0 hdr F' hB' hb6
    have z0 : (_ : Option Value) = some (.int .i64 0) := F.cell 0 (by simp)
    have z1 : (_ : Option Value) = some (.int .i64 0) := F.cell 1 (by simp)
    have z2 : (_ : Option Value) = some (.int .i64 0) := F.cell 2 (by simp)
    have z3 : (_ : Option Value) = some (.int .i64 0) := F.cell 3 (by simp)
    have hfz := fun j => F.free j
    cases hh : (b0.toList == H.toList)
    · have hhn : (b0.toList != H.toList) = true := by rw [bne, hh]; rfl
      have HR := Lib.hid (HDX.out.trans ((str_eq b0 H).symm.trans hh))
      clear hh
      have hBw : Below w.heap.size w w6 := hB
      go_wp2
      refine bodyPost_ret (v := .tuple #[.agg #[.int .i64 0, .int .i64 0, .int .i64 0, .int .i64 0], .bool false]) (by simp [results, Try.results38, go_sem, z0, z1, z2, z3]) rfl ⟨by rw [HR.out]; rfl, ?_⟩
      exact (by with_reducible repeat (first | exact Below.refl _ _ | assumption | refine below_step ?_ (by assumption) | refine Below.drew ?_ | refine below_drewN ?_ _ | refine below_alloc ?_ _ | refine Below.setCell ?_ (by simp; try omega) _))
    have hhn : (b0.toList != H.toList) = false := by rw [bne, hh]; rfl
    have HR := Lib.hid (HDX.out.trans ((str_eq b0 H).symm.trans hh))
    clear hh
    have P := ((((F.put 0 (.int .i64 (l.length : Int))).put 1 (.int .i64 (b0.size : Int))).put 2 (.int .i64 (E : Int))).put 3 (.int .i64 (X : Int)))
    have hBq := (BB.put (a := ⟨w.heap.size, 3, none⟩) (BB.put (a := ⟨w.heap.size, 2, none⟩) (BB.put (a := ⟨w.heap.size, 1, none⟩) (BB.put (a := ⟨w.heap.size, 0, none⟩) hB (Nat.le_refl _) (.int .i64 (l.length : Int))) (Nat.le_refl _) (.int .i64 (b0.size : Int))) (Nat.le_refl _) (.int .i64 (E : Int))) (Nat.le_refl _) (.int .i64 (X : Int)))
    have r0 : (_ : Option Value) = some (.int .i64 (l.length : Int)) := P.cell 0 (by simp)
    have r1 : (_ : Option Value) = some (.int .i64 (b0.size : Int)) := P.cell 1 (by simp)
    have r2 : (_ : Option Value) = some (.int .i64 (E : Int)) := P.cell 2 (by simp)
    have r3 : (_ : Option Value) = some (.int .i64 (X : Int)) := P.cell 3 (by simp)
    go_wp2_with (go_at_call 67; refine (hda _).mono ?_; rintro e w9 ⟨rfl, rfl⟩)
    refine bodyPost_ret (v := .tuple #[.agg #[.int .i64 (l.length : Int), .int .i64 (b0.size : Int), .int .i64 (E : Int), .int .i64 (X : Int)], .bool true]) (by simp [results, Try.results38, go_sem, r0, r1, r2, r3]) rfl ⟨by rw [HR.out]; rfl, hBq⟩
set_option maxRecDepth 100000 in
set_option maxHeartbeats 1000000 in
theorem spec_ExtentsOn_any (A : Option Addr) (cp : Nat) (l : List ByteArray) (w : World) (h : Rd w w.heap.size 1 A l.length (flat fS l)) (hn : l.length ≤ 1048576) :
    Calls Try.prog 16 #[.slice A l.length cp] w fun e w' => e = .returned (.tuple #[.agg #[.int .i64 (loN (exB l) (l.length)), .int .i64 (loN (exB l) (s0 l)), .int .i64 (loN (exB l) (l.length / 4)), .int .i64 (loN (exB l) (exD l.length (s0 l)))], .int .i64 (if exB l then 0 else 7)]) ∧ Below w.heap.size w w' := by
  have F := BX.made w 36 [.int .i64 0, .int .i64 0, .int .i64 0, .int .i64 0]
  have hB : BB w (w.alloc (.cells #[.int .i64 0, .int .i64 0, .int .i64 0, .int .i64 0] 36)) := (show Below w.heap.size w (w.alloc (.cells #[.int .i64 0, .int .i64 0, .int .i64 0, .int .i64 0] 36)) from (by with_reducible repeat (first | exact Below.refl _ _ | assumption | refine below_step ?_ (by assumption) | refine Below.drew ?_ | refine below_drewN ?_ _ | refine below_alloc ?_ _ | refine Below.setCell ?_ (by simp; try omega) _)))
  have hop := l17On_any A cp l (w.alloc (.cells #[.int .i64 0, .int .i64 0, .int .i64 0, .int .i64 0] 36)) ((h.below hB).more (Below.size hB)) hn
  cases hex : exB l
  · rw [hex] at hop
    simp only [loN, Bool.false_eq_true, if_false] at hop ⊢
    clear hex
    go_enter Try.func16, Try.ntmps16
    go_upto_region 2 with (go_at_call 38; refine hop.mono ?_; rintro e w2 ⟨rfl, hx⟩; replace F := F.below hx F.lt; replace hB : BB w _ := BB.next hB hx; have mk1 := True.intro)
    have G0 := BX.made w2 36 [.int .i64 0, .int .i64 0, .int .i64 0, .int .i64 0]
    replace F := F.al (.cells #[.int .i64 0, .int .i64 0, .int .i64 0, .int .i64 0] 36)
    replace hB : BB w _ := BB.al hB (.cells #[.int .i64 0, .int .i64 0, .int .i64 0, .int .i64 0] 36)
    generalize hG : w2.heap.size = G at G0 ⊢
    generalize w2.alloc (.cells #[.int .i64 0, .int .i64 0, .int .i64 0, .int .i64 0] 36) = w3 at *
    clear hG
    have g0 : (_ : Option Value) = some (.int .i64 0) := G0.cell 0 (by simp)
    have g1 : (_ : Option Value) = some (.int .i64 0) := G0.cell 1 (by simp)
    have g2 : (_ : Option Value) = some (.int .i64 0) := G0.cell 2 (by simp)
    have g3 : (_ : Option Value) = some (.int .i64 0) := G0.cell 3 (by simp)
    have z_0 : (_ : Option Value) = some (.int .i64 0) := F.cell 0 (by simp)
    have z_1 : (_ : Option Value) = some (.int .i64 0) := F.cell 1 (by simp)
    have z_2 : (_ : Option Value) = some (.int .i64 0) := F.cell 2 (by simp)
    have z_3 : (_ : Option Value) = some (.int .i64 0) := F.cell 3 (by simp)
    have hfz := fun j => F.free j
    have P := ((((F.put 0 (.int .i64 0)).put 1 (.int .i64 0)).put 2 (.int .i64 0)).put 3 (.int .i64 0))
    have hBq := (BB.put (a := ⟨w.heap.size, 3, none⟩) (BB.put (a := ⟨w.heap.size, 2, none⟩) (BB.put (a := ⟨w.heap.size, 1, none⟩) (BB.put (a := ⟨w.heap.size, 0, none⟩) hB (Nat.le_refl _) (.int .i64 0)) (Nat.le_refl _) (.int .i64 0)) (Nat.le_refl _) (.int .i64 0)) (Nat.le_refl _) (.int .i64 0))
    have r_0 : (_ : Option Value) = some (.int .i64 0) := P.cell 0 (by simp)
    have r_1 : (_ : Option Value) = some (.int .i64 0) := P.cell 1 (by simp)
    have r_2 : (_ : Option Value) = some (.int .i64 0) := P.cell 2 (by simp)
    have r_3 : (_ : Option Value) = some (.int .i64 0) := P.cell 3 (by simp)
    have hBw : Below w.heap.size w w3 := hB
    go_wp2
    refine bodyPost_ret (v := .tuple #[.agg #[.int .i64 0, .int .i64 0, .int .i64 0, .int .i64 0], .int .i64 7]) (by simp [results, Try.results16, go_sem, World.cell?_setCell_other, z_0, z_1, z_2, z_3]) rfl ⟨rfl, ?_⟩
    exact (by with_reducible repeat (first | exact Below.refl _ _ | assumption | refine below_step ?_ (by assumption) | refine Below.drew ?_ | refine below_drewN ?_ _ | refine below_alloc ?_ _ | refine Below.setCell ?_ (by simp; try omega) _))
  rw [hex] at hop
  simp only [loN, if_true] at hop ⊢
  clear hex
  generalize exD l.length (s0 l) = X at *
  generalize s0 l = s at *
  generalize l.length / 4 = E at *
  go_enter Try.func16, Try.ntmps16
  go_upto_region 2 with (go_at_call 38; refine hop.mono ?_; rintro e w2 ⟨rfl, hx⟩; replace F := F.below hx F.lt; replace hB : BB w _ := BB.next hB hx; have mk1 := True.intro)
  have G0 := BX.made w2 36 [.int .i64 (l.length : Int), .int .i64 (s : Int), .int .i64 (E : Int), .int .i64 (X : Int)]
  replace F := F.al (.cells #[.int .i64 (l.length : Int), .int .i64 (s : Int), .int .i64 (E : Int), .int .i64 (X : Int)] 36)
  replace hB : BB w _ := BB.al hB (.cells #[.int .i64 (l.length : Int), .int .i64 (s : Int), .int .i64 (E : Int), .int .i64 (X : Int)] 36)
  generalize hG : w2.heap.size = G at G0 ⊢
  generalize w2.alloc (.cells #[.int .i64 (l.length : Int), .int .i64 (s : Int), .int .i64 (E : Int), .int .i64 (X : Int)] 36) = w3 at *
  clear hG
  have g0 : (_ : Option Value) = some (.int .i64 (l.length : Int)) := G0.cell 0 (by simp)
  have g1 : (_ : Option Value) = some (.int .i64 (s : Int)) := G0.cell 1 (by simp)
  have g2 : (_ : Option Value) = some (.int .i64 (E : Int)) := G0.cell 2 (by simp)
  have g3 : (_ : Option Value) = some (.int .i64 (X : Int)) := G0.cell 3 (by simp)
  have z_0 : (_ : Option Value) = some (.int .i64 0) := F.cell 0 (by simp)
  have z_1 : (_ : Option Value) = some (.int .i64 0) := F.cell 1 (by simp)
  have z_2 : (_ : Option Value) = some (.int .i64 0) := F.cell 2 (by simp)
  have z_3 : (_ : Option Value) = some (.int .i64 0) := F.cell 3 (by simp)
  have hfz := fun j => F.free j
  have P := ((((F.put 0 (.int .i64 (l.length : Int))).put 1 (.int .i64 (s : Int))).put 2 (.int .i64 (E : Int))).put 3 (.int .i64 (X : Int)))
  have hBq := (BB.put (a := ⟨w.heap.size, 3, none⟩) (BB.put (a := ⟨w.heap.size, 2, none⟩) (BB.put (a := ⟨w.heap.size, 1, none⟩) (BB.put (a := ⟨w.heap.size, 0, none⟩) hB (Nat.le_refl _) (.int .i64 (l.length : Int))) (Nat.le_refl _) (.int .i64 (s : Int))) (Nat.le_refl _) (.int .i64 (E : Int))) (Nat.le_refl _) (.int .i64 (X : Int)))
  have r_0 : (_ : Option Value) = some (.int .i64 (l.length : Int)) := P.cell 0 (by simp)
  have r_1 : (_ : Option Value) = some (.int .i64 (s : Int)) := P.cell 1 (by simp)
  have r_2 : (_ : Option Value) = some (.int .i64 (E : Int)) := P.cell 2 (by simp)
  have r_3 : (_ : Option Value) = some (.int .i64 (X : Int)) := P.cell 3 (by simp)
  have hBw : Below w.heap.size w w3 := hB
  go_wp2
  refine bodyPost_ret (v := .tuple #[.agg #[.int .i64 (l.length : Int), .int .i64 (s : Int), .int .i64 (E : Int), .int .i64 (X : Int)], .int .i64 0]) (by simp [results, Try.results16, go_sem, r_0, r_1, r_2, r_3]) rfl ⟨rfl, ?_⟩
  exact hBq
set_option maxRecDepth 100000 in
set_option maxHeartbeats 1000000 in
theorem impl_ExtentsOn_any (A : Option Addr) (cp : Nat) (l : List ByteArray) (w : World) (h : Rd w w.heap.size 1 A l.length (flat fS l)) (hn : l.length ≤ 1048576) (hcp : l.length ≤ cp) (HDR : ∀ (b s : Nat) (x : Int) (w : World) (_ : b ≤ 128) (_ : 8 ≤ s) (_ : s ≤ 32), Calls Try.prog 69 #[.agg #[.int .i64 (b : Int), .int .i64 (s : Int), .int .i64 (b / 4 : Nat), .int .i64 x]] w fun e w' => e = .returned (.string (exS b s)) ∧ Below w.heap.size w w') :
    Calls Try.prog 17 #[.slice A l.length cp] w fun e w' => e = .returned (.tuple #[.agg #[.int .i64 (loN (exB l) (l.length)), .int .i64 (loN (exB l) (s0 l)), .int .i64 (loN (exB l) (l.length / 4)), .int .i64 (loN (exB l) (exD l.length (s0 l)))], .int .i64 (if exB l then 0 else 7)]) ∧ Below w.heap.size w w' := by
  have F := BX.made w 36 [.int .i64 0, .int .i64 0, .int .i64 0, .int .i64 0]
  have hB : BB w (w.alloc (.cells #[.int .i64 0, .int .i64 0, .int .i64 0, .int .i64 0] 36)) := (show Below w.heap.size w (w.alloc (.cells #[.int .i64 0, .int .i64 0, .int .i64 0, .int .i64 0] 36)) from (by with_reducible repeat (first | exact Below.refl _ _ | assumption | refine below_step ?_ (by assumption) | refine Below.drew ?_ | refine below_drewN ?_ _ | refine below_alloc ?_ _ | refine Below.setCell ?_ (by simp; try omega) _)))
  have hop := openExtents_any A cp l (w.alloc (.cells #[.int .i64 0, .int .i64 0, .int .i64 0, .int .i64 0] 36)) ((h.below hB).more (Below.size hB)) hn hcp HDR
  cases hex : exB l
  · rw [hex] at hop
    simp only [loN, Bool.false_eq_true, if_false] at hop ⊢
    clear hex
    go_enter Try.func17, Try.ntmps17
    go_wp2_with (go_at_call 39; refine hop.mono ?_; rintro e w2 ⟨pv, rfl, hx, -, hno⟩; obtain rfl := hno (by first | trivial | rfl); replace F := F.below hx F.lt; replace hB : BB w _ := BB.next hB hx; have z_0 : (_ : Option Value) = some (.int .i64 0) := F.cell 0 (by simp); have z_1 : (_ : Option Value) = some (.int .i64 0) := F.cell 1 (by simp); have z_2 : (_ : Option Value) = some (.int .i64 0) := F.cell 2 (by simp); have z_3 : (_ : Option Value) = some (.int .i64 0) := F.cell 3 (by simp); have hfz := fun j => F.free j)
    have hBw : Below w.heap.size w w2 := hB
    refine bodyPost_ret (v := .tuple #[.agg #[.int .i64 0, .int .i64 0, .int .i64 0, .int .i64 0], .int .i64 7]) (by simp [results, Try.results17, go_sem, World.cell?_setCell_other, z_0, z_1, z_2, z_3]) rfl ⟨rfl, ?_⟩
    exact (by with_reducible repeat (first | exact Below.refl _ _ | assumption | refine below_step ?_ (by assumption) | refine Below.drew ?_ | refine below_drewN ?_ _ | refine below_alloc ?_ _ | refine Below.setCell ?_ (by simp; try omega) _))
  rw [hex] at hop
  simp only [loN, if_true] at hop ⊢
  clear hex
  generalize exD l.length (s0 l) = X at *
  generalize s0 l = s at *
  generalize l.length / 4 = E at *
  go_enter Try.func17, Try.ntmps17
  go_wp2_with (go_at_call 39; refine hop.mono ?_; rintro e w2 ⟨pv, rfl, hx, hyes, -⟩; obtain ⟨g, a, c, rfl, D0, -⟩ := hyes (by first | trivial | rfl); replace F := F.below hx F.lt; replace hB : BB w _ := BB.next hB hx; have d_0 : (_ : Option Value) = some (.int .i64 (l.length : Int)) := D0 0 (by simp); have d_1 : (_ : Option Value) = some (.int .i64 (s : Int)) := D0 1 (by simp); have d_2 : (_ : Option Value) = some (.int .i64 (E : Int)) := D0 2 (by simp); have d_3 : (_ : Option Value) = some (.int .i64 (X : Int)) := D0 3 (by simp); have z_0 : (_ : Option Value) = some (.int .i64 0) := F.cell 0 (by simp); have z_1 : (_ : Option Value) = some (.int .i64 0) := F.cell 1 (by simp); have z_2 : (_ : Option Value) = some (.int .i64 0) := F.cell 2 (by simp); have z_3 : (_ : Option Value) = some (.int .i64 0) := F.cell 3 (by simp); have hfz := fun j => F.free j; have P := ((((F.put 0 (.int .i64 (l.length : Int))).put 1 (.int .i64 (s : Int))).put 2 (.int .i64 (E : Int))).put 3 (.int .i64 (X : Int))); have hBq := (BB.put (a := ⟨w.heap.size, 3, none⟩) (BB.put (a := ⟨w.heap.size, 2, none⟩) (BB.put (a := ⟨w.heap.size, 1, none⟩) (BB.put (a := ⟨w.heap.size, 0, none⟩) hB (Nat.le_refl _) (.int .i64 (l.length : Int))) (Nat.le_refl _) (.int .i64 (s : Int))) (Nat.le_refl _) (.int .i64 (E : Int))) (Nat.le_refl _) (.int .i64 (X : Int))); have r_0 : (_ : Option Value) = some (.int .i64 (l.length : Int)) := P.cell 0 (by simp); have r_1 : (_ : Option Value) = some (.int .i64 (s : Int)) := P.cell 1 (by simp); have r_2 : (_ : Option Value) = some (.int .i64 (E : Int)) := P.cell 2 (by simp); have r_3 : (_ : Option Value) = some (.int .i64 (X : Int)) := P.cell 3 (by simp))
  refine bodyPost_ret (v := .tuple #[.agg #[.int .i64 (l.length : Int), .int .i64 (s : Int), .int .i64 (E : Int), .int .i64 (X : Int)], .int .i64 0]) (by simp [results, Try.results17, go_sem, r_0, r_1, r_2, r_3]) rfl ⟨rfl, ?_⟩
  exact hBq
end Go.Proofs.Ytipkckoejkmhfaa
