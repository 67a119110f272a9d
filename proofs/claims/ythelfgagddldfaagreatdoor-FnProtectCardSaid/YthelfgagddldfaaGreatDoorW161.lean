/- Walks: valid descriptions of tracks. -/
import Derived.Test.YthelfgagddldfaaGreatDoorW160
namespace Go.Proofs.YthelfgagddldfaaGreatDoor
open Go.RowKit
set_option linter.unusedVariables false

set_option maxRecDepth 100000 in
set_option maxHeartbeats 8000000 in
set_option linter.unusedSimpArgs false in
theorem l08Parts_any (g : Nat) (f gp : Int) (A : Option Addr) (cx : Nat) (xs : List DSectorSpec) (w : World) (hd : BX w g 26 [.int .i64 f, .int .i64 gp, .slice A xs.length cx]) (hr : Rd w w.heap.size 8 A xs.length (flat fSectorSpec xs)) (hxn : xs.length ≤ 1048576) :
    Calls Tryz.prog 61 #[.pointer (some ⟨g, 0, none⟩)] w fun e w' => e = .returned (.bool (tsB f gp xs)) ∧ Below w.heap.size w w' := by
  have d0 : (_ : Option Value) = some (.int .i64 f) := hd.cell 0 (by simp)
  have d1 : (_ : Option Value) = some (.int .i64 gp) := hd.cell 1 (by simp)
  have d2 : (_ : Option Value) = some (.slice A xs.length cx) := hd.cell 2 (by simp)
  have h0 := fun W => l07Format_any f W
  have h1 := fun W => l00In_any gp 1 20 W
  cases g1 : inB f 1 3
  · rw [g1] at h0
    have HR := Lib.hid (ts_1 (xs := xs) (g := gp) g1)
    go_enter Tryz.func61, Tryz.ntmps61
    go_wp2_with (go_at_call 75; (with_reducible refine (h0 _).mono ?_); rintro e w1 ⟨rfl, rfl⟩)
    go_ret
    exact ⟨by rw [HR.out] <;> rfl, (by repeat (first | exact Below.refl _ _ | refine below_step ?_ (by assumption) | assumption | refine Below.drew ?_ | refine below_drewN ?_ _ | refine below_alloc ?_ _ | refine Below.setCell ?_ (by simp; try omega) _))⟩
  rw [g1] at h0
  cases g2 : inB gp 1 20
  · rw [g2] at h1
    have HR := Lib.hid (ts_2 (xs := xs) (f := f) g2)
    go_enter Tryz.func61, Tryz.ntmps61
    go_wp2_with (first | (go_at_call 75; (with_reducible refine (h0 _).mono ?_); rintro e w1 ⟨rfl, rfl⟩) | (go_at_call 62; (with_reducible refine (h1 _).mono ?_); rintro e w2 ⟨rfl, rfl⟩))
    go_ret
    exact ⟨by rw [HR.out] <;> rfl, (by repeat (first | exact Below.refl _ _ | refine below_step ?_ (by assumption) | assumption | refine Below.drew ?_ | refine below_drewN ?_ _ | refine below_alloc ?_ _ | refine Below.setCell ?_ (by simp; try omega) _))⟩
  rw [g2] at h1
  by_cases h8 : xs.length ≤ 8
  case neg =>
    have HR := Lib.hid (ts_3 (f := f) (g := gp) h8)
    have h8i : (8 : Int) < (xs.length : Int) := by omega
    go_enter Tryz.func61, Tryz.ntmps61
    go_wp2_with (first | (go_at_call 75; (with_reducible refine (h0 _).mono ?_); rintro e w1 ⟨rfl, rfl⟩) | (go_at_call 62; (with_reducible refine (h1 _).mono ?_); rintro e w2 ⟨rfl, rfl⟩))
    go_ret
    exact ⟨by rw [HR.out] <;> rfl, (by repeat (first | exact Below.refl _ _ | refine below_step ?_ (by assumption) | assumption | refine Below.drew ?_ | refine below_drewN ?_ _ | refine below_alloc ?_ _ | refine Below.setCell ?_ (by simp; try omega) _))⟩
  have HT := Lib.hid (ts_4 g1 g2 h8)
  have h8i : ¬ (8 : Int) < (xs.length : Int) := by omega
  clear g1 g2
  go_enter Tryz.func61, Tryz.ntmps61
  go_wp2_with (first | (go_at_call 75; (with_reducible refine (h0 _).mono ?_); rintro e w1 ⟨rfl, rfl⟩) | (go_at_call 62; (with_reducible refine (h1 _).mono ?_); rintro e w2 ⟨rfl, rfl⟩))
  go_loopw [3] (fun i wr => ∃ k : Nat, k ≤ xs.length ∧ i = .int .i64 k ∧ Below w.heap.size w wr ∧ Hid ((xs.drop k).all ssB = tsB f gp xs)) (fun i _ => xs.length - (intOf i).toNat)
  case atStart => exact ⟨0, Nat.zero_le _, rfl, Below.refl _ _, Lib.hid HT.out.symm⟩
  case round =>
    obtain ⟨k, hk, rfl, hb, HI⟩ := hrel
    clear d0 d1 d2
    have hdr := hd.below hb hd.lt
    have d0 : (_ : Option Value) = some (.int .i64 f) := hdr.cell 0 (by simp)
    have d1 : (_ : Option Value) = some (.int .i64 gp) := hdr.cell 1 (by simp)
    have d2 : (_ : Option Value) = some (.slice A xs.length cx) := hdr.cell 2 (by simp)
    by_cases hlt : k < xs.length
    · have hlti : (k : Int) < (xs.length : Int) := by omega
      obtain ⟨bx, ox, rfl, hbx, hc⟩ := (hr.below hb).at_ fSectorSpec_len rfl k hlt
      have x0 := hc 0 _ (by omega) rfl
      have x1 := hc 1 _ (by omega) rfl
      have x2 := hc 2 _ (by omega) rfl
      have x3 := hc 3 _ (by omega) rfl
      have x4 := hc 4 _ (by omega) rfl
      have x5 := hc 5 _ (by omega) rfl
      have x6 := hc 6 _ (by omega) rfl
      have x7 := hc 7 _ (by omega) rfl
      clear hc
      simp only [← Nat.add_assoc, Nat.add_zero] at x0 x1 x2 x3 x4 x5 x6 x7
      obtain ⟨a0, ha0⟩ : ∃ x, xs[k].f0 = x := ⟨_, rfl⟩
      rw [ha0] at x0
      obtain ⟨a1, ha1⟩ : ∃ x, xs[k].f1 = x := ⟨_, rfl⟩
      rw [ha1] at x1
      obtain ⟨a2, ha2⟩ : ∃ x, xs[k].f2 = x := ⟨_, rfl⟩
      rw [ha2] at x2
      obtain ⟨a3, ha3⟩ : ∃ x, xs[k].f3 = x := ⟨_, rfl⟩
      rw [ha3] at x3
      obtain ⟨a4, ha4⟩ : ∃ x, xs[k].f4 = x := ⟨_, rfl⟩
      rw [ha4] at x4
      obtain ⟨a5, ha5⟩ : ∃ x, xs[k].f5 = x := ⟨_, rfl⟩
      rw [ha5] at x5
      obtain ⟨a6, ha6⟩ : ∃ x, xs[k].f6 = x := ⟨_, rfl⟩
      rw [ha6] at x6
      obtain ⟨a7, ha7⟩ : ∃ x, xs[k].f7 = x := ⟨_, rfl⟩
      rw [ha7] at x7
      have hfe : ssB ⟨a0, a1, a2, a3, a4, a5, a6, a7⟩ = ssB xs[k] := by rw [← ha0, ← ha1, ← ha2, ← ha3, ← ha4, ← ha5, ← ha6, ← ha7]
      have hv := l08Sector_any a0 a1 a2 a3 a4 a5 a6 a7 bx (ox + k * 8) wr x0 x1 x2 x3 x4 x5 x6 x7
      rw [hfe] at hv
      clear hfe ha0 ha1 ha2 ha3 ha4 ha5 ha6 ha7
      cases hfo : ssB xs[k]
      · rw [hfo] at hv
        have HR := Lib.hid (sa_no hlt hfo HI.out)
        go_wp2_with (go_at_call 76; (with_reducible refine hv.mono ?_); rintro e w3 ⟨rfl, hx3⟩; have hb3 : Below w.heap.size w w3 := hb.trans (hx3.mono hb.size))
        go_ret
        exact ⟨by rw [HR.out] <;> rfl, hb3⟩
      rw [hfo] at hv
      have HN := Lib.hid (sa_yes hlt hfo HI.out)
      go_wp2_with (go_at_call 76; (with_reducible refine hv.mono ?_); rintro e w3 ⟨rfl, hx3⟩; have hb3 : Below w.heap.size w w3 := hb.trans (hx3.mono hb.size))
      go_roundw
      case rel => exact ⟨k + 1, by omega, by go_num, hb3, HN⟩
      case measure => (simp [intOf] <;> omega)
    obtain rfl : k = xs.length := by omega
    have HE := Lib.hid (sa_end (Nat.le_refl _) HI.out)
    go_wp2
    go_ret
    exact ⟨by rw [HE.out] <;> rfl, hb⟩

set_option maxRecDepth 100000 in
set_option maxHeartbeats 8000000 in
set_option linter.unusedSimpArgs false in
theorem impl_ValidTrackSpec_any (f gp : Int) (A : Option Addr) (cx : Nat) (xs : List DSectorSpec) (w : World) (hr : Rd w w.heap.size 8 A xs.length (flat fSectorSpec xs)) (hxn : xs.length ≤ 1048576) :
    Calls Tryz.prog 20 #[.agg #[.int .i64 f, .int .i64 gp, .slice A xs.length cx]] w fun e w' => e = .returned (.bool (tsB f gp xs)) ∧ Below w.heap.size w w' := by
  have hd := BX.made w 26 [.int .i64 f, .int .i64 gp, .slice A xs.length cx]
  have hb0 : Below w.heap.size w (w.alloc (.cells #[.int .i64 f, .int .i64 gp, .slice A xs.length cx] 26)) := (by repeat (first | exact Below.refl _ _ | refine below_step ?_ (by assumption) | assumption | refine Below.drew ?_ | refine below_drewN ?_ _ | refine below_alloc ?_ _ | refine Below.setCell ?_ (by simp; try omega) _))
  have d0 : (_ : Option Value) = some (.int .i64 f) := hd.cell 0 (by simp)
  have d1 : (_ : Option Value) = some (.int .i64 gp) := hd.cell 1 (by simp)
  have d2 : (_ : Option Value) = some (.slice A xs.length cx) := hd.cell 2 (by simp)
  have h0 := fun W => isFormat_any f W
  have h1 := fun W => within_any gp 1 20 W
  cases g1 : inB f 1 3
  · rw [g1] at h0
    have HR := Lib.hid (ts_1 (xs := xs) (g := gp) g1)
    go_enter Tryz.func20, Tryz.ntmps20
    go_wp2_with (go_at_call 38; (with_reducible refine (h0 _).mono ?_); rintro e w1 ⟨rfl, rfl⟩)
    go_ret
    exact ⟨by rw [HR.out] <;> rfl, (by repeat (first | exact Below.refl _ _ | refine below_step ?_ (by assumption) | assumption | refine Below.drew ?_ | refine below_drewN ?_ _ | refine below_alloc ?_ _ | refine Below.setCell ?_ (by simp; try omega) _))⟩
  rw [g1] at h0
  cases g2 : inB gp 1 20
  · rw [g2] at h1
    have HR := Lib.hid (ts_2 (xs := xs) (f := f) g2)
    go_enter Tryz.func20, Tryz.ntmps20
    go_wp2_with (first | (go_at_call 38; (with_reducible refine (h0 _).mono ?_); rintro e w1 ⟨rfl, rfl⟩) | (go_at_call 19; (with_reducible refine (h1 _).mono ?_); rintro e w2 ⟨rfl, rfl⟩))
    go_ret
    exact ⟨by rw [HR.out] <;> rfl, (by repeat (first | exact Below.refl _ _ | refine below_step ?_ (by assumption) | assumption | refine Below.drew ?_ | refine below_drewN ?_ _ | refine below_alloc ?_ _ | refine Below.setCell ?_ (by simp; try omega) _))⟩
  rw [g2] at h1
  by_cases h8 : xs.length ≤ 8
  case neg =>
    have HR := Lib.hid (ts_3 (f := f) (g := gp) h8)
    have h8i : (8 : Int) < (xs.length : Int) := by omega
    go_enter Tryz.func20, Tryz.ntmps20
    go_wp2_with (first | (go_at_call 38; (with_reducible refine (h0 _).mono ?_); rintro e w1 ⟨rfl, rfl⟩) | (go_at_call 19; (with_reducible refine (h1 _).mono ?_); rintro e w2 ⟨rfl, rfl⟩))
    go_ret
    exact ⟨by rw [HR.out] <;> rfl, (by repeat (first | exact Below.refl _ _ | refine below_step ?_ (by assumption) | assumption | refine Below.drew ?_ | refine below_drewN ?_ _ | refine below_alloc ?_ _ | refine Below.setCell ?_ (by simp; try omega) _))⟩
  have HT := Lib.hid (ts_4 g1 g2 h8)
  have h8i : ¬ (8 : Int) < (xs.length : Int) := by omega
  clear g1 g2
  go_enter Tryz.func20, Tryz.ntmps20
  go_wp2_with (first | (go_at_call 38; (with_reducible refine (h0 _).mono ?_); rintro e w1 ⟨rfl, rfl⟩) | (go_at_call 19; (with_reducible refine (h1 _).mono ?_); rintro e w2 ⟨rfl, rfl⟩))
  go_loopw [24] (fun i wr => ∃ k : Nat, k ≤ xs.length ∧ i = .int .i64 k ∧ Below w.heap.size w wr ∧ BX wr w.heap.size 26 [.int .i64 f, .int .i64 gp, .slice A xs.length cx] ∧ Hid ((xs.drop k).all ssB = tsB f gp xs)) (fun i _ => xs.length - (intOf i).toNat)
  case atStart => exact ⟨0, Nat.zero_le _, rfl, hb0, hd, Lib.hid HT.out.symm⟩
  case round =>
    obtain ⟨k, hk, rfl, hb, hdr, HI⟩ := hrel
    clear d0 d1 d2
    have d0 : (_ : Option Value) = some (.int .i64 f) := hdr.cell 0 (by simp)
    have d1 : (_ : Option Value) = some (.int .i64 gp) := hdr.cell 1 (by simp)
    have d2 : (_ : Option Value) = some (.slice A xs.length cx) := hdr.cell 2 (by simp)
    by_cases hlt : k < xs.length
    · have hlti : (k : Int) < (xs.length : Int) := by omega
      obtain ⟨bx, ox, rfl, hbx, hc⟩ := (hr.below hb).at_ fSectorSpec_len rfl k hlt
      have x0 := hc 0 _ (by omega) rfl
      have x1 := hc 1 _ (by omega) rfl
      have x2 := hc 2 _ (by omega) rfl
      have x3 := hc 3 _ (by omega) rfl
      have x4 := hc 4 _ (by omega) rfl
      have x5 := hc 5 _ (by omega) rfl
      have x6 := hc 6 _ (by omega) rfl
      have x7 := hc 7 _ (by omega) rfl
      clear hc
      simp only [← Nat.add_assoc, Nat.add_zero] at x0 x1 x2 x3 x4 x5 x6 x7
      obtain ⟨a0, ha0⟩ : ∃ x, xs[k].f0 = x := ⟨_, rfl⟩
      rw [ha0] at x0
      obtain ⟨a1, ha1⟩ : ∃ x, xs[k].f1 = x := ⟨_, rfl⟩
      rw [ha1] at x1
      obtain ⟨a2, ha2⟩ : ∃ x, xs[k].f2 = x := ⟨_, rfl⟩
      rw [ha2] at x2
      obtain ⟨a3, ha3⟩ : ∃ x, xs[k].f3 = x := ⟨_, rfl⟩
      rw [ha3] at x3
      obtain ⟨a4, ha4⟩ : ∃ x, xs[k].f4 = x := ⟨_, rfl⟩
      rw [ha4] at x4
      obtain ⟨a5, ha5⟩ : ∃ x, xs[k].f5 = x := ⟨_, rfl⟩
      rw [ha5] at x5
      obtain ⟨a6, ha6⟩ : ∃ x, xs[k].f6 = x := ⟨_, rfl⟩
      rw [ha6] at x6
      obtain ⟨a7, ha7⟩ : ∃ x, xs[k].f7 = x := ⟨_, rfl⟩
      rw [ha7] at x7
      have hfe : ssB ⟨a0, a1, a2, a3, a4, a5, a6, a7⟩ = ssB xs[k] := by rw [← ha0, ← ha1, ← ha2, ← ha3, ← ha4, ← ha5, ← ha6, ← ha7]
      have hv := fun W => impl_ValidSectorSpec_any a0 a1 a2 a3 a4 a5 a6 a7 W
      rw [hfe] at hv
      have FF := BX.made wr 41 [.int .i64 a0, .int .i64 a1, .int .i64 a2, .int .i64 a3, .string a4, .bool a5, .bool a6, .bool a7]
      have y0 : (_ : Option Value) = some (.int .i64 a0) := FF.cell 0 (by simp)
      have y1 : (_ : Option Value) = some (.int .i64 a1) := FF.cell 1 (by simp)
      have y2 : (_ : Option Value) = some (.int .i64 a2) := FF.cell 2 (by simp)
      have y3 : (_ : Option Value) = some (.int .i64 a3) := FF.cell 3 (by simp)
      have y4 : (_ : Option Value) = some (.string a4) := FF.cell 4 (by simp)
      have y5 : (_ : Option Value) = some (.bool a5) := FF.cell 5 (by simp)
      have y6 : (_ : Option Value) = some (.bool a6) := FF.cell 6 (by simp)
      have y7 : (_ : Option Value) = some (.bool a7) := FF.cell 7 (by simp)
      clear hfe ha0 ha1 ha2 ha3 ha4 ha5 ha6 ha7
      cases hfo : ssB xs[k]
      · rw [hfo] at hv
        have HR := Lib.hid (sa_no hlt hfo HI.out)
        go_wp2_with (go_at_call 39; refine (hv _).mono ?_; rintro e w3 ⟨rfl, hx3⟩; have hbq : Below wr.heap.size wr w3 := (below_alloc (Below.refl _ _) _).trans (hx3.mono (by rw [World.size_alloc]; omega)); have hb3 : Below w.heap.size w w3 := hb.trans (hbq.mono hb.size); have hd3 := hdr.below hbq hdr.lt)
        go_ret
        exact ⟨by rw [HR.out] <;> rfl, hb3⟩
      rw [hfo] at hv
      have HN := Lib.hid (sa_yes hlt hfo HI.out)
      go_wp2_with (go_at_call 39; refine (hv _).mono ?_; rintro e w3 ⟨rfl, hx3⟩; have hbq : Below wr.heap.size wr w3 := (below_alloc (Below.refl _ _) _).trans (hx3.mono (by rw [World.size_alloc]; omega)); have hb3 : Below w.heap.size w w3 := hb.trans (hbq.mono hb.size); have hd3 := hdr.below hbq hdr.lt)
      go_roundw
      case rel => exact ⟨k + 1, by omega, by go_num, hb3, hd3, HN⟩
      case measure => (simp [intOf] <;> omega)
    obtain rfl : k = xs.length := by omega
    have HE := Lib.hid (sa_end (Nat.le_refl _) HI.out)
    go_wp2
    go_ret
    exact ⟨by rw [HE.out] <;> rfl, hb⟩
theorem spec_ValidTrackSpec_any (f gp : Int) (A : Option Addr) (cx : Nat) (xs : List DSectorSpec) (w : World) (hr : Rd w w.heap.size 8 A xs.length (flat fSectorSpec xs)) (hxn : xs.length ≤ 1048576) :
    Calls Tryz.prog 48 #[.agg #[.int .i64 f, .int .i64 gp, .slice A xs.length cx]] w fun e w' => e = .returned (.bool (tsB f gp xs)) ∧ Below w.heap.size w w' := by
  have hb0 : Below w.heap.size w (w.alloc (.cells #[.int .i64 f, .int .i64 gp, .slice A xs.length cx] 26)) := (by repeat (first | exact Below.refl _ _ | refine below_step ?_ (by assumption) | assumption | refine Below.drew ?_ | refine below_drewN ?_ _ | refine below_alloc ?_ _ | refine Below.setCell ?_ (by simp; try omega) _))
  have hq := l08Parts_any w.heap.size f gp A cx xs _ (BX.made w 26 [.int .i64 f, .int .i64 gp, .slice A xs.length cx]) ((hr.below hb0).more hb0.size) hxn
  go_enter Tryz.func48, Tryz.ntmps48
  go_wp2_with (go_at_call 61; (with_reducible refine hq.mono ?_); rintro e w1 ⟨rfl, hx1⟩)
  go_ret
  exact ⟨rfl, (by repeat (first | exact Below.refl _ _ | refine below_step ?_ (by assumption) | assumption | refine Below.drew ?_ | refine below_drewN ?_ _ | refine below_alloc ?_ _ | refine Below.setCell ?_ (by simp; try omega) _))⟩
end Go.Proofs.YthelfgagddldfaaGreatDoor
