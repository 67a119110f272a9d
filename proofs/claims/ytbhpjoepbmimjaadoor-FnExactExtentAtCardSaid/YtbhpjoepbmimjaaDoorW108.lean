/- Walks: ExtentsOn. -/
import Derived.Test.YtbhpjoepbmimjaaDoorW107
import Derived.Test.YtbhpjoepbmimjaaDoorW98
import Derived.Test.YtbhpjoepbmimjaaDoorQB
namespace Go.Proofs.YtbhpjoepbmimjaaDoor
open Go.RowKit
set_option linter.unusedVariables false

theorem ex_3 {l : List ByteArray} {s : Nat} (hs : s0 l = s) (h : oneOf s = false) : exB l = false := ex_1 (blk_2 (by rw [hs]; exact h))
set_option maxRecDepth 100000 in
set_option maxHeartbeats 2000000 in
theorem l17On_any (A : Option Addr) (cp : Nat) (l : List ByteArray) (w : World) (h : Rd w w.heap.size 1 A l.length (flat fS l)) (hn : l.length ≤ 1048576) :
    Calls Tryd.prog 27 #[.slice A l.length cp] w fun e w' => e = .returned (.tuple #[.agg #[.int .i64 (loN (exB l) (l.length)), .int .i64 (loN (exB l) (s0 l)), .int .i64 (loN (exB l) (l.length / 4)), .int .i64 (loN (exB l) (exD l.length (s0 l)))], .bool (exB l)]) ∧ Below w.heap.size w w' := by
  have F := BX.made w 59 [.int .i64 0, .int .i64 0, .int .i64 0, .int .i64 0]
  have hB : BB w (w.alloc (.cells #[.int .i64 0, .int .i64 0, .int .i64 0, .int .i64 0] 59)) := (show Below w.heap.size w (w.alloc (.cells #[.int .i64 0, .int .i64 0, .int .i64 0, .int .i64 0] 59)) from (by with_reducible repeat (first | exact Below.refl _ _ | assumption | refine below_step ?_ (by assumption) | refine Below.drew ?_ | refine below_drewN ?_ _ | refine below_alloc ?_ _ | refine Below.setCell ?_ (by simp; try omega) _)))
  have hwi := fun W => l00In_any (l.length : Int) 8 128 W
  have z0 : (_ : Option Value) = some (.int .i64 0) := F.cell 0 (by simp)
  have z1 : (_ : Option Value) = some (.int .i64 0) := F.cell 1 (by simp)
  have z2 : (_ : Option Value) = some (.int .i64 0) := F.cell 2 (by simp)
  have z3 : (_ : Option Value) = some (.int .i64 0) := F.cell 3 (by simp)
  have hfz := fun j => F.free j
  cases hin : inB (l.length : Int) 8 128
  · have HR := Lib.hid (ex_1 (blk_1 hin))
    rw [hin] at hwi
    clear hin
    go_enter Tryd.func27, Tryd.ntmps27
    go_wp2_with (go_at_call 22; refine (hwi _).mono ?_; rintro e w9 ⟨rfl, rfl⟩)
    refine bodyPost_ret (v := .tuple #[.agg #[.int .i64 0, .int .i64 0, .int .i64 0, .int .i64 0], .bool false]) (by simp [results, Tryd.results27, go_sem, z0, z1, z2, z3]) rfl ⟨by rw [HR.out]; rfl, ?_⟩
    exact (by with_reducible repeat (first | exact Below.refl _ _ | assumption | refine below_step ?_ (by assumption) | refine Below.drew ?_ | refine below_drewN ?_ _ | refine below_alloc ?_ _ | refine Below.setCell ?_ (by simp; try omega) _))
  obtain ⟨n8, n128⟩ := inB_yes hin
  have hpos : 0 < l.length := by omega
  have hposi : (0 : Int) < (l.length : Int) := by omega
  have hn128 : l.length ≤ 128 := by omega
  rw [hin] at hwi
  obtain ⟨b, off, rfl, hbb, hc⟩ := h.at_ fS_len rfl 0 hpos
  have hc0 := hc 0 _ (by omega) rfl
  clear hc
  simp only [Nat.zero_mul, Nat.add_zero] at hc0
  obtain ⟨b0, hb0⟩ : ∃ x, l[0] = x := ⟨_, rfl⟩
  have hs0 : s0 l = b0.size := by rw [s0_eq hpos, hb0]
  have hhd : l.headD ⟨#[]⟩ = b0 := by rw [head_eq hpos, hb0]
  rw [hb0] at hc0
  rw [hs0]
  clear hb0 n8 n128
  have c0 := (hB.cell (p := ⟨b, off, none⟩) hbb).trans hc0
  have hsz := fun W => l17Size_any b0.size W
  cases hS : oneOf b0.size
  · have HR := Lib.hid (ex_3 hs0 hS)
    rw [hS] at hsz
    clear hin hS
    go_enter Tryd.func27, Tryd.ntmps27
    go_wp2_with (first | (go_at_call 55; refine (hsz _).mono ?_; rintro e w9 ⟨rfl, rfl⟩) | (go_at_call 22; refine (hwi _).mono ?_; rintro e w9 ⟨rfl, rfl⟩))
    refine bodyPost_ret (v := .tuple #[.agg #[.int .i64 0, .int .i64 0, .int .i64 0, .int .i64 0], .bool false]) (by simp [results, Tryd.results27, go_sem, z0, z1, z2, z3]) rfl ⟨by rw [HR.out]; rfl, ?_⟩
    exact (by with_reducible repeat (first | exact Below.refl _ _ | assumption | refine below_step ?_ (by assumption) | refine Below.drew ?_ | refine below_drewN ?_ _ | refine below_alloc ?_ _ | refine Below.setCell ?_ (by simp; try omega) _))
  rw [hS] at hsz
  have s3 := oneOf_yes hS
  have h8 : 8 ≤ b0.size := by omega
  have h32 : b0.size ≤ 32 := by omega
  have HS := Lib.hid (show (inB (l.length : Int) 8 128 && oneOf b0.size) = true by rw [hin, hS]; rfl)
  clear hin hS s3
  have hdr := fun W => l17Head_any l.length b0.size W hn128 h8 h32
  have hda := fun W => l17Data_any l.length b0.size W hn128 (by omega) h32
  obtain ⟨H, hH⟩ : ∃ H, exS l.length b0.size = H := ⟨_, rfl⟩
  rw [hH] at hdr
  have HDB := Lib.hid (fun hb => ex_2 hhd hs0 hH hb)
  have HS0 := Lib.hid hs0
  clear hH hs0 hhd
  obtain ⟨E, hE⟩ : ∃ E, l.length / 4 = E := ⟨_, rfl⟩
  have hdv : (l.length : Int) / 4 = (E : Int) := by omega
  have hdt : (l.length : Int).tdiv 4 = (E : Int) := by rw [← hE]; rfl
  have aE : IntKind.i64.wrap (E : Int) = (E : Int) := i_nat _ (by omega)
  rw [hE]
  clear hE
  generalize exD l.length b0.size = X at *
  go_enter Tryd.func27, Tryd.ntmps27
  go_wp2_with (first | (go_at_call 55; refine (hsz _).mono ?_; rintro e w9 ⟨rfl, rfl⟩) | (go_at_call 22; refine (hwi _).mono ?_; rintro e w9 ⟨rfl, rfl⟩))
  clear hsz hwi
  go_loop [6] (fun i => ∃ k : Nat, k ≤ l.length ∧ i = .int .i64 k ∧ Hid (∀ j, (hj : j < k) → (hj' : j < l.length) → l[j].size = b0.size)) (fun i => l.length - (intOf i).toNat)
  case atStart => exact ⟨0, Nat.zero_le _, rfl, Lib.hid (fun j hj => absurd hj (by omega))⟩
  case round =>
    obtain ⟨k, hk, rfl, HI⟩ := hrel
    by_cases hlt : k < l.length
    · have hlti : (k : Int) < (l.length : Int) := by omega
      obtain ⟨b', off', hbo, hbb', hc⟩ := h.at_ fS_len rfl k hlt
      cases hbo
      have hck := hc 0 _ (by omega) rfl
      clear hc
      simp only [Nat.mul_one, Nat.add_zero] at hck
      obtain ⟨bk, hbk⟩ : ∃ x, l[k] = x := ⟨_, rfl⟩
      rw [hbk] at hck
      have ck := (hB.cell (p := ⟨b, off + k, none⟩) hbb).trans hck
      by_cases hx : bk.size = b0.size
      · have HN := Lib.hid (show ∀ j, (hj : j < k + 1) → (hj' : j < l.length) → l[j].size = b0.size from fun j hj hj' => by
          by_cases he : j = k
          · subst he
            rw [hbk, hx]
          · exact HI.out j (by omega) hj')
        have hxb : ((bk.size : Int) != (b0.size : Int)) = false := by simp; omega
        clear hbk hx
        go_wp2
        go_round
        case rel => exact ⟨k + 1, by omega, by go_num, HN⟩
        case measure => simp [intOf]; omega
      · have HR := Lib.hid (ex_1 (blk_3 hlt (by rw [HS0.out, hbk]; exact hx)))
        have hxb : ((bk.size : Int) != (b0.size : Int)) = true := by simp; omega
        clear hbk hx
        go_wp2
        refine bodyPost_ret (v := .tuple #[.agg #[.int .i64 0, .int .i64 0, .int .i64 0, .int .i64 0], .bool false]) (by simp [results, Tryd.results27, go_sem, z0, z1, z2, z3]) rfl ⟨by rw [HR.out]; rfl, ?_⟩
        exact (by with_reducible repeat (first | exact Below.refl _ _ | assumption | refine below_step ?_ (by assumption) | refine Below.drew ?_ | refine below_drewN ?_ _ | refine below_alloc ?_ _ | refine Below.setCell ?_ (by simp; try omega) _))
    have hlti : ¬ (k : Int) < (l.length : Int) := by omega
    have hbk := blk_6 HS0.out HS.out (fun j hj => HI.out j (by omega) hj)
    have HDX := Lib.hid (HDB.out hbk)
    clear hbk
    go_wp2_with fail
    have F' := F
    have hB' := hB
    generalize w.alloc (.cells #[.int .i64 0, .int .i64 0, .int .i64 0, .int .i64 0] 59) = w1 at F' hB' c0 ⊢
    clear F hB z0 z1 z2 z3 hfz
    have k0 := gw_cell c0
    have hq := fun (p' : Regrown) => qb_below p' (hdr (Sort.grow (redrawn w1 p'.d) p'.os))
    refine wp_region_quiet_below (by kernel_rfl) (by kernel_rfl) ?_
    repeat (go_big_quiet_step ((first | with_reducible exact hq _)))
    refine wpQuiet_nil ?_
    intro _ hw'
    obtain ⟨pq, hw''⟩ := hw'
    subst hw''
    have hb6 := gw_below w1 pq
    generalize Sort.grow (redrawn w1 pq.d) pq.os = w6 at hb6 ⊢
    have F := F'.below hb6 F'.lt
    have hB : BB w w6 := BB.next hB' hb6
    clear hq k0 hdr F' hB' hb6
    have z0 : (_ : Option Value) = some (.int .i64 0) := F.cell 0 (by simp)
    have z1 : (_ : Option Value) = some (.int .i64 0) := F.cell 1 (by simp)
    have z2 : (_ : Option Value) = some (.int .i64 0) := F.cell 2 (by simp)
    have z3 : (_ : Option Value) = some (.int .i64 0) := F.cell 3 (by simp)
    have hfz := fun j => F.free j
    cases hh : (b0.toList == H.toList)
    · have hhn : (b0.toList != H.toList) = true := by rw [bne, hh]; rfl
      have HR := Lib.hid (HDX.out.trans ((str_eq b0 H).symm.trans hh))
      clear hh
      have hBw : Below w.heap.size w w6 := hB
      go_wp2
      refine bodyPost_ret (v := .tuple #[.agg #[.int .i64 0, .int .i64 0, .int .i64 0, .int .i64 0], .bool false]) (by simp [results, Tryd.results27, go_sem, z0, z1, z2, z3]) rfl ⟨by rw [HR.out]; rfl, ?_⟩
      exact (by with_reducible repeat (first | exact Below.refl _ _ | assumption | refine below_step ?_ (by assumption) | refine Below.drew ?_ | refine below_drewN ?_ _ | refine below_alloc ?_ _ | refine Below.setCell ?_ (by simp; try omega) _))
    have hhn : (b0.toList != H.toList) = false := by rw [bne, hh]; rfl
    have HR := Lib.hid (HDX.out.trans ((str_eq b0 H).symm.trans hh))
    clear hh
    have P := ((((F.put 0 (.int .i64 (l.length : Int))).put 1 (.int .i64 (b0.size : Int))).put 2 (.int .i64 (E : Int))).put 3 (.int .i64 (X : Int)))
    have hBq := (BB.put (a := ⟨w.heap.size, 3, none⟩) (BB.put (a := ⟨w.heap.size, 2, none⟩) (BB.put (a := ⟨w.heap.size, 1, none⟩) (BB.put (a := ⟨w.heap.size, 0, none⟩) hB (Nat.le_refl _) (.int .i64 (l.length : Int))) (Nat.le_refl _) (.int .i64 (b0.size : Int))) (Nat.le_refl _) (.int .i64 (E : Int))) (Nat.le_refl _) (.int .i64 (X : Int)))
    have r0 : (_ : Option Value) = some (.int .i64 (l.length : Int)) := P.cell 0 (by simp)
    have r1 : (_ : Option Value) = some (.int .i64 (b0.size : Int)) := P.cell 1 (by simp)
    have r2 : (_ : Option Value) = some (.int .i64 (E : Int)) := P.cell 2 (by simp)
    have r3 : (_ : Option Value) = some (.int .i64 (X : Int)) := P.cell 3 (by simp)
    go_wp2_with (go_at_call 57; refine (hda _).mono ?_; rintro e w9 ⟨rfl, rfl⟩)
    refine bodyPost_ret (v := .tuple #[.agg #[.int .i64 (l.length : Int), .int .i64 (b0.size : Int), .int .i64 (E : Int), .int .i64 (X : Int)], .bool true]) (by simp [results, Tryd.results27, go_sem, r0, r1, r2, r3]) rfl ⟨by rw [HR.out]; rfl, hBq⟩
end Go.Proofs.YtbhpjoepbmimjaaDoor
