/- Walks: ValidDisc. -/
import Derived.Test.YtemppogailpoiaaW31
namespace Go.Proofs.Ytemppogailpoiaa
open Go.RowKit
set_option linter.unusedVariables false

set_option maxRecDepth 100000 in
set_option maxHeartbeats 400000 in
theorem size_sector_any (A : Option Addr) (n cp : Nat) (w : World) : Calls Try.prog 75 #[.slice A n cp] w fun e w' => e = .returned (.int .i64 (n : Int)) ∧ w = w' := by
  go_enter Try.func75, Try.ntmps75
  go_wp2
  go_ret
  exact ⟨rfl, rfl⟩

set_option maxRecDepth 100000 in
set_option maxHeartbeats 1000000 in
theorem impl_ValidDisc_any (c h p s : Int) (A : Option Addr) (cp : Nat) (l : List DSector) (w : World) (hr : Rd w w.heap.size 2 A l.length (flat fSector l)) (hn : l.length ≤ 1048576) (hok : ∀ x ∈ l, okSector x) :
    Calls Try.prog 39 #[.agg #[.int .i64 c, .int .i64 h, .int .i64 p, .int .i64 s, .slice A l.length cp]] w fun e w' => e = .returned (.bool (okD c h p s l)) ∧ Below w.heap.size w w' := by
  have hsz := fun W => size_sector_any A l.length cp W
  cases hg : geoB c h p s
  · have HR := Lib.hid (okD_1 (l := l) hg)
    go_enter Try.func39, Try.ntmps39
    go_wp2_with fail
    go_quiet ((go_at_call 57; exact quiet_left (isGeometry_any _ _ _ _ _)))
    simp only [hg]
    go_wp2
    go_ret
    exact ⟨ret_bool HR.out.symm, (by repeat (first | exact Below.refl _ _ | refine below_step ?_ (by assumption) | assumption | refine Below.drew ?_ | refine below_drewN ?_ _ | refine below_alloc ?_ _ | refine Below.setCell ?_ (by simp; try omega) _))⟩
  · obtain ⟨c1, c2, h1, h2, p1, p2, s1, s2⟩ := geoB_yes hg
    obtain ⟨m1, m2⟩ := prod2 c1 c2 h1 h2
    obtain ⟨q1, q2⟩ := prod3 m1 m2 p1 p2
    have hw1 : wrap64 (c * h) = c * h := IntWalk.wrap64_in _ ⟨by omega, by omega⟩
    have hw2 : wrap64 (c * h * p) = c * h * p := IntWalk.wrap64_in _ ⟨by omega, by omega⟩
    by_cases hl : (l.length : Int) = c * h * p
    · obtain ⟨nb, z1, z2, z3, z4⟩ := szB_nat s1 s2
      have Hz1 := Lib.hid z1
      have HZ := Lib.hid z4
      clear z1 z4
      have HA := Lib.hid (fun g => okD_all (c := c) (h := h) (p := p) (s := s) (l := l) hg hl g)
      have HB := Lib.hid (fun k hk g => okD_bad (c := c) (h := h) (p := p) (s := s) (l := l) k hk g)
      have gl : (((l.length : Nat) : Int) != c * h * p) = false := by simp [hl]
      clear hl
      go_enter Try.func39, Try.ntmps39
      go_wp2_with fail
      go_quiet ((first | (go_at_call 57; exact quiet_left (isGeometry_any _ _ _ _ _)) | (go_at_call 75; exact quiet_left (hsz _))))
      simp only [hg]
      go_wp2_with fail
      have hd := (DP.made w c h p s (.slice A l.length cp) 26).drewN nq
      have hb0 : Below w.heap.size w ((w.alloc (Obj.cells #[Value.int .i64 c, Value.int .i64 h, Value.int .i64 p, Value.int .i64 s, Value.slice A l.length cp] 26)).drewN nq) := (by with_reducible repeat (first | exact Below.refl _ _ | assumption | refine below_step ?_ (by assumption) | refine Below.drew ?_ | refine below_drewN ?_ _ | refine below_alloc ?_ _ | refine Below.setCell ?_ (by simp; try omega) _))
      have hs0 : w.heap.size < ((w.alloc (Obj.cells #[Value.int .i64 c, Value.int .i64 h, Value.int .i64 p, Value.int .i64 s, Value.slice A l.length cp] 26)).drewN nq).heap.size := hd.lt
      generalize ((w.alloc (Obj.cells #[Value.int .i64 c, Value.int .i64 h, Value.int .i64 p, Value.int .i64 s, Value.slice A l.length cp] 26)).drewN nq) = wb at *
      replace hr := (hr.below hb0).more (Nat.le_of_lt hs0)
      obtain ⟨d0, d1, d2, d3, d4⟩ := id hd
      go_wp2_with fail
      go_loopw [4, 32] (fun _ i wr => ∃ k : Nat, k ≤ l.length ∧ i = .int .i64 k ∧ Below wb.heap.size wb wr ∧ Hid (∀ j, (hj : j < k) → (hj' : j < l.length) → secX s l[j] = true)) (fun _ i _ => l.length - (intOf i).toNat)
      case atStart => exact ⟨0, Nat.zero_le _, rfl, Below.refl _ _, Lib.hid (fun j hj => absurd hj (by omega))⟩
      case round =>
        obtain ⟨k, hk, rfl, hb, HI⟩ := hrel
        obtain ⟨e0, e1, e2, e3, e4⟩ := hd.below hb hs0
        have hs1 := hb.size
        have hs2 : w.heap.size < wr.heap.size := by omega
        have f3 : ∀ o, (wr.alloc o).cell? ⟨w.heap.size, 3, none⟩ = some (.int .i64 s) := fun o => (World.cell?_alloc_lt wr o ⟨w.heap.size, 3, none⟩ hs2).trans e3
        by_cases hlt : k < l.length
        · obtain ⟨b, off, rfl, hbb, hc⟩ := (hr.below hb).at_ fSector_len rfl k hlt
          have hokk := hok l[k] (List.getElem_mem hlt)
          have hc0 := hc 0 _ (by omega) rfl
          have hc1 := hc 1 _ (by omega) rfl
          clear hc
          simp only [← Nat.add_assoc, Nat.add_zero] at hc0 hc1
          cases hs : secX s l[k]
          · have HR := Lib.hid (HB.out k hlt hs)
            have HS := Lib.hid (show secB l[k].f0 l[k].f1 nb = false from by rw [← HZ.out]; exact hs)
            clear hs
            go_wp2_with (go_at_call 62; go_must (refine (validSector_any l[k].f0 l[k].f1 s nb _ hokk.1 s1 s2 Hz1.out (by omega)).mono ?_); rintro e w1 ⟨rfl, hx⟩; rw [HS.out]; replace hb := below_step (below_alloc hb _) hx)
            go_ret
            exact ⟨ret_bool HR.out.symm, hb0.trans (hb.mono (Nat.le_of_lt hs0))⟩
          · have HN := Lib.hid (show ∀ j, (hj : j < k + 1) → (hj' : j < l.length) → secX s l[j] = true from fun j hj hj' => by
              rcases Nat.lt_or_ge j k with h1 | h1
              · exact HI.out j h1 hj'
              · obtain rfl : j = k := by omega
                exact hs)
            have HS := Lib.hid (show secB l[k].f0 l[k].f1 nb = true from by rw [← HZ.out]; exact hs)
            clear hs
            go_wp2_with (go_at_call 62; go_must (refine (validSector_any l[k].f0 l[k].f1 s nb _ hokk.1 s1 s2 Hz1.out (by omega)).mono ?_); rintro e w1 ⟨rfl, hx⟩; rw [HS.out]; replace hb := below_step (below_alloc hb _) hx)
            go_roundw
            case rel => exact ⟨k + 1, by omega, by go_num, hb, HN⟩
            case measure => (simp [intOf] <;> omega)
        · have HR := Lib.hid (HA.out (fun j hj => HI.out j (by omega) hj))
          go_wp2
          go_ret
          exact ⟨ret_bool HR.out.symm, hb0.trans (hb.mono (Nat.le_of_lt hs0))⟩
    · have HR := Lib.hid (okD_2 (s := s) hl)
      have gl : (((l.length : Nat) : Int) != c * h * p) = true := by simp [hl]
      clear hl
      go_enter Try.func39, Try.ntmps39
      go_wp2_with fail
      go_quiet ((first | (go_at_call 57; exact quiet_left (isGeometry_any _ _ _ _ _)) | (go_at_call 75; exact quiet_left (hsz _))))
      simp only [hg]
      go_wp2
      go_ret
      exact ⟨ret_bool HR.out.symm, (by repeat (first | exact Below.refl _ _ | refine below_step ?_ (by assumption) | assumption | refine Below.drew ?_ | refine below_drewN ?_ _ | refine below_alloc ?_ _ | refine Below.setCell ?_ (by simp; try omega) _))⟩
end Go.Proofs.Ytemppogailpoiaa
