/- Walks: the draw of a sector that is put. -/
import Derived.Test.YticnmljahnnhcaaD5
namespace Go.Proofs.Yticnmljahnnhcaa
open Go.RowKit
set_option linter.unusedVariables false

theorem N_of (s : Int) (h1 : -1 ≤ s) (h2 : s ≤ 3) : ∃ N : Nat, 8 ≤ N ∧ N ≤ 32 ∧ ((0 ≤ s ∧ s ≤ 2 ∧ inB s 0 2 = true ∧ szB s = (N : Int)) ∨ (inB s 0 2 = false ∧ N = 8)) := by
  by_cases h : 0 ≤ s ∧ s ≤ 2
  · obtain ⟨NB, hnb, hnb32, hnb8, _⟩ := szB_nat h.1 h.2
    exact ⟨NB, hnb8, hnb32, .inl ⟨h.1, h.2, by simp only [inB, Bool.and_eq_true, decide_eq_true_eq]; exact h, hnb⟩⟩
  · refine ⟨8, by omega, by omega, .inr ⟨?_, rfl⟩⟩
    cases hi : inB s 0 2
    · rfl
    · simp only [inB, Bool.and_eq_true, decide_eq_true_eq] at hi
      exact absurd hi h
set_option maxRecDepth 100000 in
set_option maxHeartbeats 8000000 in
theorem drawPutSector_any (A : Option Addr) (n cc : Nat) (l : List UInt8) (w : World) (hn : l.length = n) (hr : Rd w w.heap.size 1 A n (flat fU l)) (hn2 : n ≤ maxLen) :
    Calls Try.prog 15 #[.slice A n cc] w fun e w' => ∃ (c h p s k st : Int) (dat : ByteArray) (L : List DSector) (v : Value), e = .returned (.tuple #[.agg #[.int .i64 c, .int .i64 h, .int .i64 p, .int .i64 s, v], .int .i64 k, .agg #[.string dat, .int .i64 st]]) ∧ (0 ≤ c ∧ c ≤ 9) ∧ (1 ≤ h ∧ h ≤ 2) ∧ (1 ≤ p ∧ p ≤ 5) ∧ (-1 ≤ s ∧ s ≤ 3) ∧ (-1 ≤ k ∧ k ≤ 131) ∧ (0 ≤ st ∧ st ≤ 5) ∧ dat.size ≤ 40 ∧ w'.ownsRow w.heap.size 39 2 v L.length (flat fSector L) ∧ (0 < L.length ∧ L.length ≤ 129) ∧ (∀ x ∈ L, x.f0.size ≤ 40 ∧ 0 ≤ x.f1 ∧ x.f1 ≤ 5) ∧ Below w.heap.size w w' := by
  have F0 := (BX.made w 26 [.int .i64 0, .int .i64 0, .int .i64 0, .int .i64 0, .slice none 0 0]).al (.cells #[.string ⟨#[]⟩, .int .i64 0] 39)
  have F1 := BX.made1 w (.cells #[.int .i64 0, .int .i64 0, .int .i64 0, .int .i64 0, .slice none 0 0] 26) 39 [.string ⟨#[]⟩, .int .i64 0]
  have hb0 : Below w.heap.size w ((w.alloc (.cells #[.int .i64 0, .int .i64 0, .int .i64 0, .int .i64 0, .slice none 0 0] 26)).alloc (.cells #[.string ⟨#[]⟩, .int .i64 0] 39)) := (by repeat (first | exact Below.refl _ _ | refine below_step ?_ (by assumption) | assumption | refine Below.drew ?_ | refine below_drewN ?_ _ | refine below_alloc ?_ _ | refine Below.setCell ?_ (by simp; try omega) _))
  have hs0 : w.heap.size + 2 ≤ ((w.alloc (.cells #[.int .i64 0, .int .i64 0, .int .i64 0, .int .i64 0, .slice none 0 0] 26)).alloc (.cells #[.string ⟨#[]⟩, .int .i64 0] 39)).heap.size := by rw [World.size_alloc, World.size_alloc]; omega
  go_enter Try.func15, Try.ntmps15
  go_wp2_with (first
    | (go_at_call 59; (with_reducible refine bt.mono ?_); rintro e w2 ⟨c, h, p, s, L, v, rfl, hc, hh, hp, hs, O2, hLn, hLok, S2, hg2⟩; obtain ⟨b, vc, rfl, hbb0, hbb1⟩ := World.ownsRow.form O2 hLn.1; have hb2 := below_step2 hb1 (below_gr hg2 hw1 (by omega)); replace F0 := BX.past F0 hg2 hzg; replace F1 := BX.past F1 hg2 hzg1; have FD := BX.made w2 26 [.int .i64 c, .int .i64 h, .int .i64 p, .int .i64 s, .slice (some ⟨b, 0, none⟩) L.length vc]; have S3 := S2.al (.cells #[.int .i64 c, .int .i64 h, .int .i64 p, .int .i64 s, .slice (some ⟨b, 0, none⟩) L.length vc] 26); have O3 := OO.al O2 (.cells #[.int .i64 c, .int .i64 h, .int .i64 p, .int .i64 s, .slice (some ⟨b, 0, none⟩) L.length vc] 26); replace F0 := F0.al (.cells #[.int .i64 c, .int .i64 h, .int .i64 p, .int .i64 s, .slice (some ⟨b, 0, none⟩) L.length vc] 26); replace F1 := F1.al (.cells #[.int .i64 c, .int .i64 h, .int .i64 p, .int .i64 s, .slice (some ⟨b, 0, none⟩) L.length vc] 26); have hbg : b ≠ g := (by omega); have hDg : w2.heap.size ≠ g := (by have := S2.lt; omega); have hl2 : w.heap.size ≤ w2.heap.size := hb2.size; have hb3 : Below w.heap.size w (w2.alloc (.cells #[.int .i64 c, .int .i64 h, .int .i64 p, .int .i64 s, .slice (some ⟨b, 0, none⟩) L.length vc] 26)) := hb2.alloc hl2 _; have d3 : (_ : Option Value) = some (.int .i64 s) := FD.cell 3 (by simp))
    | (go_at_call 58; (with_reducible refine (from_any A n cc _).mono ?_); rintro e w1 ⟨g, rfl, hg0, S1, hx1⟩; have hb1 := hb0.trans (hx1.mono (by omega)); replace F0 := F0.below hx1 F0.lt; replace F1 := F1.below hx1 F1.lt; have hgl := S1.lt; have hr1 := hr.below hb1; have hw1 := hb1.size; have hzg : w.heap.size ≠ g := (by omega); have hzg1 : w.heap.size + 1 ≠ g := (by omega); have bt := bent_any 9 g n cc 0 w.heap.size A l w1 S1 hn hr1 (by omega) hw1 (by omega) hn2 (by decide)))
  obtain ⟨N, hN8, hN32, hNs⟩ := N_of s hs.1 hs.2
  have hin := fun W => l00In_any s 0 2 W
  generalize (w2.alloc (.cells #[.int .i64 c, .int .i64 h, .int .i64 p, .int .i64 s, .slice (some ⟨b, 0, none⟩) L.length vc] 26)) = w3 at FD S3 O3 F0 F1 hb3 d3 ⊢
  have hD2 : w2.heap.size < w3.heap.size := FD.lt
  have hbw : b < w3.heap.size := by omega
  have hwD : w.heap.size + 1 < w2.heap.size := by omega
  generalize w2.heap.size = GD at FD hDg d3 hD2 hwD ⊢
  have hwl : w.heap.size + 1 < w3.heap.size := F1.lt
  have dd := drawData_any N g n cc _ w.heap.size A l w3 S3 hn (hr.below hb3) (by omega) hb3.size (by omega) hn2 (by omega)
  rcases hNs with ⟨s0, s2, hi, hNe⟩ | ⟨hi, hN8e⟩
  · have lb := fun W => l12Bytes_any s s0 s2 W
    rw [hNe] at lb
    rw [hi] at hin
    go_wp2_with (first
      | (go_at_call 74; (with_reducible refine on.mono ?_); rintro e w7 ⟨z, rfl, S7, hg7⟩; replace FD := BX.past FD hg7 hDg; replace F0 := BX.past F0 hg7 hzg; replace F1 := BX.past F1 hg7 hzg1; replace O3 := OO.past O3 hg7 hbg; replace FX := BX.past FX hg7 hXg; have hb7 : Below w.heap.size w w7 := below_step2 hb5 (below_gr hg7 hb5.size (by omega)); have x0 : (_ : Option Value) = some (.string dat) := FX.cell 0 (by simp); have x1 : (_ : Option Value) = some (.int .i64 st) := FX.cell 1 (by simp); have hfx := fun j => FX.free j; obtain ⟨D8, hD8⟩ : ∃ D8, dat ++ (⟨#[121]⟩ : ByteArray) = D8 := ⟨_, rfl⟩; have hds : D8.size ≤ 40 := (by rw [← hD8, ByteArray.size_append]; show dat.size + 1 ≤ 40; omega); have hno : ¬ 9223372036854775807 < dat.size + 1 := (by omega))
      | (go_at_call 61; (with_reducible refine p6.mono ?_); rintro e w5 ⟨st, rfl, hst0, hst1, S5, hg5⟩; replace FD := (BX.past FD hg5 hDg).al (.cells #[.string dat, .int .i64 st] 39); replace F0 := (BX.past F0 hg5 hzg).al (.cells #[.string dat, .int .i64 st] 39); replace F1 := (BX.past F1 hg5 hzg1).al (.cells #[.string dat, .int .i64 st] 39); replace O3 := OO.al (OO.past O3 hg5 hbg) (.cells #[.string dat, .int .i64 st] 39); have FX := BX.made w5 39 [.string dat, .int .i64 st]; have hb5 : Below w.heap.size w (w5.alloc (.cells #[.string dat, .int .i64 st] 39)) := (below_step2 hb4 (below_gr hg5 hb4.size (by omega))).alloc (Nat.le_trans hb4.size hg5.size) _; have S6 := S5.al (.cells #[.string dat, .int .i64 st] 39); have hXg : w5.heap.size ≠ g := (by have := S5.lt; omega); have hXD : GD < w5.heap.size := (by have := hg5.size; omega); have hXb : b < w5.heap.size := (by have := hg5.size; have := hg4.size; omega); have hXw : w.heap.size + 1 < w5.heap.size := (by have := hg5.size; have := hg4.size; omega); have hXD2 : GD ≠ w5.heap.size := (by omega); have hDw0 : w.heap.size ≠ GD := (by omega); have hDw1 : w.heap.size + 1 ≠ GD := (by omega); have hXw0 : w.heap.size ≠ w5.heap.size := (by omega); have hXw1 : w.heap.size + 1 ≠ w5.heap.size := (by omega); have hXb2 : b ≠ w5.heap.size := (by omega); have on := one_any 9 g n cc _ w.heap.size A l (w5.alloc (.cells #[.string dat, .int .i64 st] 39)) S6 hn (hr.below hb5) (by omega) hb5.size (by omega) hn2 (by decide))
      | (go_at_call 73; (with_reducible refine dd.mono ?_); rintro e w4 ⟨dat, rfl, hdat, S4, hg4⟩; replace FD := BX.past FD hg4 hDg; replace F0 := BX.past F0 hg4 hzg; replace F1 := BX.past F1 hg4 hzg1; replace O3 := OO.past O3 hg4 hbg; have hb4 : Below w.heap.size w w4 := below_step2 hb3 (below_gr hg4 hb3.size (by omega)); have hD4 := FD.lt; have p6 := pick_any 6 g n cc _ w.heap.size A l w4 S4 hn (hr.below hb4) (by omega) hb4.size (by omega) hn2 (by omega))
      | (go_at_call 72; refine (lb _).mono ?_; rintro e w9 ⟨rfl, rfl⟩)
      | (go_at_call 71; refine (hin _).mono ?_; rintro e w9 ⟨rfl, rfl⟩))
    all_goals clear hin lb dd p6 on
    · have hb8 : Below w.heap.size w (w7.setCell ⟨w5.heap.size, 0, none⟩ (.string D8)) := Below.setCell hb7 (p := ⟨w5.heap.size, 0, none⟩) (by show w.heap.size ≤ w5.heap.size; omega) _
      clear x0 x1
      replace FX := FX.put 0 (.string D8)
      replace FD := FD.far (a := ⟨w5.heap.size, 0, none⟩) hXD2 (.string D8)
      replace F0 := F0.far (a := ⟨w5.heap.size, 0, none⟩) hXw0 (.string D8)
      replace F1 := F1.far (a := ⟨w5.heap.size, 0, none⟩) hXw1 (.string D8)
      have O8 := OO.putne O3 (a := ⟨w5.heap.size, 0, none⟩) (fun e => hXb2 (Option.some.inj e)) (.string D8)
      have S8 := SR.grown S7 (grownBy_set0 w7 w5.heap.size 0 (.string D8)) (fun e => hXg (Option.some.inj e))
      clear hD8 hno
      generalize (w7.setCell ⟨w5.heap.size, 0, none⟩ (.string D8)) = w8 at FD F0 F1 FX O8 S8 hb8 ⊢
      generalize w5.heap.size = GX at FD F0 F1 FX hXg hXD hXD2 hXw hXw0 hXw1 ⊢
      have k0 : (_ : Option Value) = some (.int .i64 c) := FD.cell 0 (by simp)
      have k1 : (_ : Option Value) = some (.int .i64 h) := FD.cell 1 (by simp)
      have k2 : (_ : Option Value) = some (.int .i64 p) := FD.cell 2 (by simp)
      have k3 : (_ : Option Value) = some (.int .i64 s) := FD.cell 3 (by simp)
      have k4 : (_ : Option Value) = some (.slice (some ⟨b, 0, none⟩) L.length vc) := FD.cell 4 (by simp)
      have x0 : (_ : Option Value) = some (.string D8) := FX.cell 0 (by simp)
      have x1 : (_ : Option Value) = some (.int .i64 st) := FX.cell 1 (by simp)
      have hl8 : w.heap.size ≤ w8.heap.size := hb8.size
      have hwLL : IntKind.i64.wrap ((L.length : Int) + 2) = (L.length : Int) + 2 := IntWalk.i64_in _ (by omega)
      have pk := pick_any ((L.length : Int) + 2) g n cc _ w.heap.size A l w8.drew (SR.dr S8) hn (rd_dr (hr.below hb8)) (by omega) hl8 (by omega) hn2 (by omega)
      go_region_held3 (fun W => W.cell? ⟨GD, 0, none⟩ = some (.int .i64 c) ∧ W.cell? ⟨GD, 1, none⟩ = some (.int .i64 h) ∧ W.cell? ⟨GD, 2, none⟩ = some (.int .i64 p) ∧ W.cell? ⟨GD, 3, none⟩ = some (.int .i64 s) ∧ W.cell? ⟨GD, 4, none⟩ = some (.slice (some ⟨b, 0, none⟩) L.length vc) ∧ W.cell? ⟨GX, 0, none⟩ = some (.string D8) ∧ W.cell? ⟨GX, 1, none⟩ = some (.int .i64 st)) (first | with_reducible exact ⟨k0, k1, k2, k3, k4, x0, x1⟩ | with_reducible exact ⟨r0, r1, r2, r3, r4, q0, q1⟩ | go_keep) (first | (go_at_call 61; (with_reducible refine pk.mono ?_); rintro e w9 ⟨kk, rfl, hk0, hk1, S9, hg9⟩; have FD9 := BX.past (BX.drx FD) hg9 hDg; have F09 := BX.past (BX.drx F0) hg9 hzg; have F19 := BX.past (BX.drx F1) hg9 hzg1; have FX9 := BX.past (BX.drx FX) hg9 hXg; have O9 := OO.past (OO.dr O8) hg9 hbg; have r0 : (_ : Option Value) = some (.int .i64 c) := FD9.cell 0 (by simp); have r1 : (_ : Option Value) = some (.int .i64 h) := FD9.cell 1 (by simp); have r2 : (_ : Option Value) = some (.int .i64 p) := FD9.cell 2 (by simp); have r3 : (_ : Option Value) = some (.int .i64 s) := FD9.cell 3 (by simp); have r4 : (_ : Option Value) = some (.slice (some ⟨b, 0, none⟩) L.length vc) := FD9.cell 4 (by simp); have q0 : (_ : Option Value) = some (.string D8) := FX9.cell 0 (by simp); have q1 : (_ : Option Value) = some (.int .i64 st) := FX9.cell 1 (by simp); have y0 : (_ : Option Value) = some (.int .i64 0) := F09.cell 0 (by simp); have y1 : (_ : Option Value) = some (.int .i64 0) := F09.cell 1 (by simp); have y2 : (_ : Option Value) = some (.int .i64 0) := F09.cell 2 (by simp); have y3 : (_ : Option Value) = some (.int .i64 0) := F09.cell 3 (by simp); have y4 : (_ : Option Value) = some (.slice none 0 0) := F09.cell 4 (by simp); have u0 : (_ : Option Value) = some (.string ⟨#[]⟩) := F19.cell 0 (by simp); have u1 : (_ : Option Value) = some (.int .i64 0) := F19.cell 1 (by simp); have hfy := fun j => F09.free j; have hfu := fun j => F19.free j; have hwr : IntKind.i64.wrap (kk - 1) = kk - 1 := IntWalk.i64_in _ (by omega)))
      have hb9 : Below w.heap.size w w9 := below_step2 (Below.drew hb8) (below_gr hg9 hl8 (by omega))
      go_wp2
      refine bodyPost_ret (v := .tuple #[.agg #[.int .i64 c, .int .i64 h, .int .i64 p, .int .i64 s, .slice (some ⟨b, 0, none⟩) L.length vc], .int .i64 (kk - 1), .agg #[.string D8, .int .i64 st]]) (by simp [results, Try.results15, go_sem, World.cell?_setCell_other, y0, y1, y2, y3, y4, u0, u1]) rfl ⟨c, h, p, s, kk - 1, st, D8, L, _, rfl, hc, hh, hp, hs, by omega, by omega, hds, ?_, hLn, hLok, (by with_reducible repeat (first | exact Below.refl _ _ | assumption | refine below_step ?_ (by assumption) | refine Below.drew ?_ | refine below_drewN ?_ _ | refine below_alloc ?_ _ | refine Below.setCell ?_ (by simp; try omega) _))⟩
      have hz1 : w.heap.size < w1.heap.size := by omega
      have hz2 : w.heap.size + 1 < w1.heap.size := by omega
      exact own_base (OO.put (OO.put (OO.put (OO.put (OO.put (OO.put (OO.put O9 hz1 _) hz1 _) hz1 _) hz1 _) hz1 _) hz2 _) hz2 _) (Nat.le_of_lt hz1)
    · have O8 := O3
      have S8 := S7
      have hb8 := hb7
      clear x0 x1 hD8 hds hno
      generalize w7 = w8 at FD F0 F1 FX O8 S8 hb8 ⊢
      generalize w5.heap.size = GX at FD F0 F1 FX hXg hXD hXD2 hXw hXw0 hXw1 ⊢
      have k0 : (_ : Option Value) = some (.int .i64 c) := FD.cell 0 (by simp)
      have k1 : (_ : Option Value) = some (.int .i64 h) := FD.cell 1 (by simp)
      have k2 : (_ : Option Value) = some (.int .i64 p) := FD.cell 2 (by simp)
      have k3 : (_ : Option Value) = some (.int .i64 s) := FD.cell 3 (by simp)
      have k4 : (_ : Option Value) = some (.slice (some ⟨b, 0, none⟩) L.length vc) := FD.cell 4 (by simp)
      have x0 : (_ : Option Value) = some (.string dat) := FX.cell 0 (by simp)
      have x1 : (_ : Option Value) = some (.int .i64 st) := FX.cell 1 (by simp)
      have hl8 : w.heap.size ≤ w8.heap.size := hb8.size
      have hwLL : IntKind.i64.wrap ((L.length : Int) + 2) = (L.length : Int) + 2 := IntWalk.i64_in _ (by omega)
      have pk := pick_any ((L.length : Int) + 2) g n cc _ w.heap.size A l w8.drew (SR.dr S8) hn (rd_dr (hr.below hb8)) (by omega) hl8 (by omega) hn2 (by omega)
      go_region_held3 (fun W => W.cell? ⟨GD, 0, none⟩ = some (.int .i64 c) ∧ W.cell? ⟨GD, 1, none⟩ = some (.int .i64 h) ∧ W.cell? ⟨GD, 2, none⟩ = some (.int .i64 p) ∧ W.cell? ⟨GD, 3, none⟩ = some (.int .i64 s) ∧ W.cell? ⟨GD, 4, none⟩ = some (.slice (some ⟨b, 0, none⟩) L.length vc) ∧ W.cell? ⟨GX, 0, none⟩ = some (.string dat) ∧ W.cell? ⟨GX, 1, none⟩ = some (.int .i64 st)) (first | with_reducible exact ⟨k0, k1, k2, k3, k4, x0, x1⟩ | with_reducible exact ⟨r0, r1, r2, r3, r4, q0, q1⟩ | go_keep) (first | (go_at_call 61; (with_reducible refine pk.mono ?_); rintro e w9 ⟨kk, rfl, hk0, hk1, S9, hg9⟩; have FD9 := BX.past (BX.drx FD) hg9 hDg; have F09 := BX.past (BX.drx F0) hg9 hzg; have F19 := BX.past (BX.drx F1) hg9 hzg1; have FX9 := BX.past (BX.drx FX) hg9 hXg; have O9 := OO.past (OO.dr O8) hg9 hbg; have r0 : (_ : Option Value) = some (.int .i64 c) := FD9.cell 0 (by simp); have r1 : (_ : Option Value) = some (.int .i64 h) := FD9.cell 1 (by simp); have r2 : (_ : Option Value) = some (.int .i64 p) := FD9.cell 2 (by simp); have r3 : (_ : Option Value) = some (.int .i64 s) := FD9.cell 3 (by simp); have r4 : (_ : Option Value) = some (.slice (some ⟨b, 0, none⟩) L.length vc) := FD9.cell 4 (by simp); have q0 : (_ : Option Value) = some (.string dat) := FX9.cell 0 (by simp); have q1 : (_ : Option Value) = some (.int .i64 st) := FX9.cell 1 (by simp); have y0 : (_ : Option Value) = some (.int .i64 0) := F09.cell 0 (by simp); have y1 : (_ : Option Value) = some (.int .i64 0) := F09.cell 1 (by simp); have y2 : (_ : Option Value) = some (.int .i64 0) := F09.cell 2 (by simp); have y3 : (_ : Option Value) = some (.int .i64 0) := F09.cell 3 (by simp); have y4 : (_ : Option Value) = some (.slice none 0 0) := F09.cell 4 (by simp); have u0 : (_ : Option Value) = some (.string ⟨#[]⟩) := F19.cell 0 (by simp); have u1 : (_ : Option Value) = some (.int .i64 0) := F19.cell 1 (by simp); have hfy := fun j => F09.free j; have hfu := fun j => F19.free j; have hwr : IntKind.i64.wrap (kk - 1) = kk - 1 := IntWalk.i64_in _ (by omega)))
      have hb9 : Below w.heap.size w w9 := below_step2 (Below.drew hb8) (below_gr hg9 hl8 (by omega))
      go_wp2
      refine bodyPost_ret (v := .tuple #[.agg #[.int .i64 c, .int .i64 h, .int .i64 p, .int .i64 s, .slice (some ⟨b, 0, none⟩) L.length vc], .int .i64 (kk - 1), .agg #[.string dat, .int .i64 st]]) (by simp [results, Try.results15, go_sem, World.cell?_setCell_other, y0, y1, y2, y3, y4, u0, u1]) rfl ⟨c, h, p, s, kk - 1, st, dat, L, _, rfl, hc, hh, hp, hs, by omega, by omega, by omega, ?_, hLn, hLok, (by with_reducible repeat (first | exact Below.refl _ _ | assumption | refine below_step ?_ (by assumption) | refine Below.drew ?_ | refine below_drewN ?_ _ | refine below_alloc ?_ _ | refine Below.setCell ?_ (by simp; try omega) _))⟩
      have hz1 : w.heap.size < w1.heap.size := by omega
      have hz2 : w.heap.size + 1 < w1.heap.size := by omega
      exact own_base (OO.put (OO.put (OO.put (OO.put (OO.put (OO.put (OO.put O9 hz1 _) hz1 _) hz1 _) hz1 _) hz1 _) hz2 _) hz2 _) (Nat.le_of_lt hz1)
  · rw [hi] at hin
    have h8 : (N : Int) = 8 := by omega
    rw [h8] at dd
    go_wp2_with (first
      | (go_at_call 74; (with_reducible refine on.mono ?_); rintro e w7 ⟨z, rfl, S7, hg7⟩; replace FD := BX.past FD hg7 hDg; replace F0 := BX.past F0 hg7 hzg; replace F1 := BX.past F1 hg7 hzg1; replace O3 := OO.past O3 hg7 hbg; replace FX := BX.past FX hg7 hXg; have hb7 : Below w.heap.size w w7 := below_step2 hb5 (below_gr hg7 hb5.size (by omega)); have x0 : (_ : Option Value) = some (.string dat) := FX.cell 0 (by simp); have x1 : (_ : Option Value) = some (.int .i64 st) := FX.cell 1 (by simp); have hfx := fun j => FX.free j; obtain ⟨D8, hD8⟩ : ∃ D8, dat ++ (⟨#[121]⟩ : ByteArray) = D8 := ⟨_, rfl⟩; have hds : D8.size ≤ 40 := (by rw [← hD8, ByteArray.size_append]; show dat.size + 1 ≤ 40; omega); have hno : ¬ 9223372036854775807 < dat.size + 1 := (by omega))
      | (go_at_call 61; (with_reducible refine p6.mono ?_); rintro e w5 ⟨st, rfl, hst0, hst1, S5, hg5⟩; replace FD := (BX.past FD hg5 hDg).al (.cells #[.string dat, .int .i64 st] 39); replace F0 := (BX.past F0 hg5 hzg).al (.cells #[.string dat, .int .i64 st] 39); replace F1 := (BX.past F1 hg5 hzg1).al (.cells #[.string dat, .int .i64 st] 39); replace O3 := OO.al (OO.past O3 hg5 hbg) (.cells #[.string dat, .int .i64 st] 39); have FX := BX.made w5 39 [.string dat, .int .i64 st]; have hb5 : Below w.heap.size w (w5.alloc (.cells #[.string dat, .int .i64 st] 39)) := (below_step2 hb4 (below_gr hg5 hb4.size (by omega))).alloc (Nat.le_trans hb4.size hg5.size) _; have S6 := S5.al (.cells #[.string dat, .int .i64 st] 39); have hXg : w5.heap.size ≠ g := (by have := S5.lt; omega); have hXD : GD < w5.heap.size := (by have := hg5.size; omega); have hXb : b < w5.heap.size := (by have := hg5.size; have := hg4.size; omega); have hXw : w.heap.size + 1 < w5.heap.size := (by have := hg5.size; have := hg4.size; omega); have hXD2 : GD ≠ w5.heap.size := (by omega); have hDw0 : w.heap.size ≠ GD := (by omega); have hDw1 : w.heap.size + 1 ≠ GD := (by omega); have hXw0 : w.heap.size ≠ w5.heap.size := (by omega); have hXw1 : w.heap.size + 1 ≠ w5.heap.size := (by omega); have hXb2 : b ≠ w5.heap.size := (by omega); have on := one_any 9 g n cc _ w.heap.size A l (w5.alloc (.cells #[.string dat, .int .i64 st] 39)) S6 hn (hr.below hb5) (by omega) hb5.size (by omega) hn2 (by decide))
      | (go_at_call 73; (with_reducible refine dd.mono ?_); rintro e w4 ⟨dat, rfl, hdat, S4, hg4⟩; replace FD := BX.past FD hg4 hDg; replace F0 := BX.past F0 hg4 hzg; replace F1 := BX.past F1 hg4 hzg1; replace O3 := OO.past O3 hg4 hbg; have hb4 : Below w.heap.size w w4 := below_step2 hb3 (below_gr hg4 hb3.size (by omega)); have hD4 := FD.lt; have p6 := pick_any 6 g n cc _ w.heap.size A l w4 S4 hn (hr.below hb4) (by omega) hb4.size (by omega) hn2 (by omega))
      | (go_at_call 71; refine (hin _).mono ?_; rintro e w9 ⟨rfl, rfl⟩))
    all_goals clear hin dd p6 on
    · have hb8 : Below w.heap.size w (w7.setCell ⟨w5.heap.size, 0, none⟩ (.string D8)) := Below.setCell hb7 (p := ⟨w5.heap.size, 0, none⟩) (by show w.heap.size ≤ w5.heap.size; omega) _
      clear x0 x1
      replace FX := FX.put 0 (.string D8)
      replace FD := FD.far (a := ⟨w5.heap.size, 0, none⟩) hXD2 (.string D8)
      replace F0 := F0.far (a := ⟨w5.heap.size, 0, none⟩) hXw0 (.string D8)
      replace F1 := F1.far (a := ⟨w5.heap.size, 0, none⟩) hXw1 (.string D8)
      have O8 := OO.putne O3 (a := ⟨w5.heap.size, 0, none⟩) (fun e => hXb2 (Option.some.inj e)) (.string D8)
      have S8 := SR.grown S7 (grownBy_set0 w7 w5.heap.size 0 (.string D8)) (fun e => hXg (Option.some.inj e))
      clear hD8 hno
      generalize (w7.setCell ⟨w5.heap.size, 0, none⟩ (.string D8)) = w8 at FD F0 F1 FX O8 S8 hb8 ⊢
      generalize w5.heap.size = GX at FD F0 F1 FX hXg hXD hXD2 hXw hXw0 hXw1 ⊢
      have k0 : (_ : Option Value) = some (.int .i64 c) := FD.cell 0 (by simp)
      have k1 : (_ : Option Value) = some (.int .i64 h) := FD.cell 1 (by simp)
      have k2 : (_ : Option Value) = some (.int .i64 p) := FD.cell 2 (by simp)
      have k3 : (_ : Option Value) = some (.int .i64 s) := FD.cell 3 (by simp)
      have k4 : (_ : Option Value) = some (.slice (some ⟨b, 0, none⟩) L.length vc) := FD.cell 4 (by simp)
      have x0 : (_ : Option Value) = some (.string D8) := FX.cell 0 (by simp)
      have x1 : (_ : Option Value) = some (.int .i64 st) := FX.cell 1 (by simp)
      have hl8 : w.heap.size ≤ w8.heap.size := hb8.size
      have hwLL : IntKind.i64.wrap ((L.length : Int) + 2) = (L.length : Int) + 2 := IntWalk.i64_in _ (by omega)
      have pk := pick_any ((L.length : Int) + 2) g n cc _ w.heap.size A l w8.drew (SR.dr S8) hn (rd_dr (hr.below hb8)) (by omega) hl8 (by omega) hn2 (by omega)
      go_region_held3 (fun W => W.cell? ⟨GD, 0, none⟩ = some (.int .i64 c) ∧ W.cell? ⟨GD, 1, none⟩ = some (.int .i64 h) ∧ W.cell? ⟨GD, 2, none⟩ = some (.int .i64 p) ∧ W.cell? ⟨GD, 3, none⟩ = some (.int .i64 s) ∧ W.cell? ⟨GD, 4, none⟩ = some (.slice (some ⟨b, 0, none⟩) L.length vc) ∧ W.cell? ⟨GX, 0, none⟩ = some (.string D8) ∧ W.cell? ⟨GX, 1, none⟩ = some (.int .i64 st)) (first | with_reducible exact ⟨k0, k1, k2, k3, k4, x0, x1⟩ | with_reducible exact ⟨r0, r1, r2, r3, r4, q0, q1⟩ | go_keep) (first | (go_at_call 61; (with_reducible refine pk.mono ?_); rintro e w9 ⟨kk, rfl, hk0, hk1, S9, hg9⟩; have FD9 := BX.past (BX.drx FD) hg9 hDg; have F09 := BX.past (BX.drx F0) hg9 hzg; have F19 := BX.past (BX.drx F1) hg9 hzg1; have FX9 := BX.past (BX.drx FX) hg9 hXg; have O9 := OO.past (OO.dr O8) hg9 hbg; have r0 : (_ : Option Value) = some (.int .i64 c) := FD9.cell 0 (by simp); have r1 : (_ : Option Value) = some (.int .i64 h) := FD9.cell 1 (by simp); have r2 : (_ : Option Value) = some (.int .i64 p) := FD9.cell 2 (by simp); have r3 : (_ : Option Value) = some (.int .i64 s) := FD9.cell 3 (by simp); have r4 : (_ : Option Value) = some (.slice (some ⟨b, 0, none⟩) L.length vc) := FD9.cell 4 (by simp); have q0 : (_ : Option Value) = some (.string D8) := FX9.cell 0 (by simp); have q1 : (_ : Option Value) = some (.int .i64 st) := FX9.cell 1 (by simp); have y0 : (_ : Option Value) = some (.int .i64 0) := F09.cell 0 (by simp); have y1 : (_ : Option Value) = some (.int .i64 0) := F09.cell 1 (by simp); have y2 : (_ : Option Value) = some (.int .i64 0) := F09.cell 2 (by simp); have y3 : (_ : Option Value) = some (.int .i64 0) := F09.cell 3 (by simp); have y4 : (_ : Option Value) = some (.slice none 0 0) := F09.cell 4 (by simp); have u0 : (_ : Option Value) = some (.string ⟨#[]⟩) := F19.cell 0 (by simp); have u1 : (_ : Option Value) = some (.int .i64 0) := F19.cell 1 (by simp); have hfy := fun j => F09.free j; have hfu := fun j => F19.free j; have hwr : IntKind.i64.wrap (kk - 1) = kk - 1 := IntWalk.i64_in _ (by omega)))
      have hb9 : Below w.heap.size w w9 := below_step2 (Below.drew hb8) (below_gr hg9 hl8 (by omega))
      go_wp2
      refine bodyPost_ret (v := .tuple #[.agg #[.int .i64 c, .int .i64 h, .int .i64 p, .int .i64 s, .slice (some ⟨b, 0, none⟩) L.length vc], .int .i64 (kk - 1), .agg #[.string D8, .int .i64 st]]) (by simp [results, Try.results15, go_sem, World.cell?_setCell_other, y0, y1, y2, y3, y4, u0, u1]) rfl ⟨c, h, p, s, kk - 1, st, D8, L, _, rfl, hc, hh, hp, hs, by omega, by omega, hds, ?_, hLn, hLok, (by with_reducible repeat (first | exact Below.refl _ _ | assumption | refine below_step ?_ (by assumption) | refine Below.drew ?_ | refine below_drewN ?_ _ | refine below_alloc ?_ _ | refine Below.setCell ?_ (by simp; try omega) _))⟩
      have hz1 : w.heap.size < w1.heap.size := by omega
      have hz2 : w.heap.size + 1 < w1.heap.size := by omega
      exact own_base (OO.put (OO.put (OO.put (OO.put (OO.put (OO.put (OO.put O9 hz1 _) hz1 _) hz1 _) hz1 _) hz1 _) hz2 _) hz2 _) (Nat.le_of_lt hz1)
    · have O8 := O3
      have S8 := S7
      have hb8 := hb7
      clear x0 x1 hD8 hds hno
      generalize w7 = w8 at FD F0 F1 FX O8 S8 hb8 ⊢
      generalize w5.heap.size = GX at FD F0 F1 FX hXg hXD hXD2 hXw hXw0 hXw1 ⊢
      have k0 : (_ : Option Value) = some (.int .i64 c) := FD.cell 0 (by simp)
      have k1 : (_ : Option Value) = some (.int .i64 h) := FD.cell 1 (by simp)
      have k2 : (_ : Option Value) = some (.int .i64 p) := FD.cell 2 (by simp)
      have k3 : (_ : Option Value) = some (.int .i64 s) := FD.cell 3 (by simp)
      have k4 : (_ : Option Value) = some (.slice (some ⟨b, 0, none⟩) L.length vc) := FD.cell 4 (by simp)
      have x0 : (_ : Option Value) = some (.string dat) := FX.cell 0 (by simp)
      have x1 : (_ : Option Value) = some (.int .i64 st) := FX.cell 1 (by simp)
      have hl8 : w.heap.size ≤ w8.heap.size := hb8.size
      have hwLL : IntKind.i64.wrap ((L.length : Int) + 2) = (L.length : Int) + 2 := IntWalk.i64_in _ (by omega)
      have pk := pick_any ((L.length : Int) + 2) g n cc _ w.heap.size A l w8.drew (SR.dr S8) hn (rd_dr (hr.below hb8)) (by omega) hl8 (by omega) hn2 (by omega)
      go_region_held3 (fun W => W.cell? ⟨GD, 0, none⟩ = some (.int .i64 c) ∧ W.cell? ⟨GD, 1, none⟩ = some (.int .i64 h) ∧ W.cell? ⟨GD, 2, none⟩ = some (.int .i64 p) ∧ W.cell? ⟨GD, 3, none⟩ = some (.int .i64 s) ∧ W.cell? ⟨GD, 4, none⟩ = some (.slice (some ⟨b, 0, none⟩) L.length vc) ∧ W.cell? ⟨GX, 0, none⟩ = some (.string dat) ∧ W.cell? ⟨GX, 1, none⟩ = some (.int .i64 st)) (first | with_reducible exact ⟨k0, k1, k2, k3, k4, x0, x1⟩ | with_reducible exact ⟨r0, r1, r2, r3, r4, q0, q1⟩ | go_keep) (first | (go_at_call 61; (with_reducible refine pk.mono ?_); rintro e w9 ⟨kk, rfl, hk0, hk1, S9, hg9⟩; have FD9 := BX.past (BX.drx FD) hg9 hDg; have F09 := BX.past (BX.drx F0) hg9 hzg; have F19 := BX.past (BX.drx F1) hg9 hzg1; have FX9 := BX.past (BX.drx FX) hg9 hXg; have O9 := OO.past (OO.dr O8) hg9 hbg; have r0 : (_ : Option Value) = some (.int .i64 c) := FD9.cell 0 (by simp); have r1 : (_ : Option Value) = some (.int .i64 h) := FD9.cell 1 (by simp); have r2 : (_ : Option Value) = some (.int .i64 p) := FD9.cell 2 (by simp); have r3 : (_ : Option Value) = some (.int .i64 s) := FD9.cell 3 (by simp); have r4 : (_ : Option Value) = some (.slice (some ⟨b, 0, none⟩) L.length vc) := FD9.cell 4 (by simp); have q0 : (_ : Option Value) = some (.string dat) := FX9.cell 0 (by simp); have q1 : (_ : Option Value) = some (.int .i64 st) := FX9.cell 1 (by simp); have y0 : (_ : Option Value) = some (.int .i64 0) := F09.cell 0 (by simp); have y1 : (_ : Option Value) = some (.int .i64 0) := F09.cell 1 (by simp); have y2 : (_ : Option Value) = some (.int .i64 0) := F09.cell 2 (by simp); have y3 : (_ : Option Value) = some (.int .i64 0) := F09.cell 3 (by simp); have y4 : (_ : Option Value) = some (.slice none 0 0) := F09.cell 4 (by simp); have u0 : (_ : Option Value) = some (.string ⟨#[]⟩) := F19.cell 0 (by simp); have u1 : (_ : Option Value) = some (.int .i64 0) := F19.cell 1 (by simp); have hfy := fun j => F09.free j; have hfu := fun j => F19.free j; have hwr : IntKind.i64.wrap (kk - 1) = kk - 1 := IntWalk.i64_in _ (by omega)))
      have hb9 : Below w.heap.size w w9 := below_step2 (Below.drew hb8) (below_gr hg9 hl8 (by omega))
      go_wp2
      refine bodyPost_ret (v := .tuple #[.agg #[.int .i64 c, .int .i64 h, .int .i64 p, .int .i64 s, .slice (some ⟨b, 0, none⟩) L.length vc], .int .i64 (kk - 1), .agg #[.string dat, .int .i64 st]]) (by simp [results, Try.results15, go_sem, World.cell?_setCell_other, y0, y1, y2, y3, y4, u0, u1]) rfl ⟨c, h, p, s, kk - 1, st, dat, L, _, rfl, hc, hh, hp, hs, by omega, by omega, by omega, ?_, hLn, hLok, (by with_reducible repeat (first | exact Below.refl _ _ | assumption | refine below_step ?_ (by assumption) | refine Below.drew ?_ | refine below_drewN ?_ _ | refine below_alloc ?_ _ | refine Below.setCell ?_ (by simp; try omega) _))⟩
      have hz1 : w.heap.size < w1.heap.size := by omega
      have hz2 : w.heap.size + 1 < w1.heap.size := by omega
      exact own_base (OO.put (OO.put (OO.put (OO.put (OO.put (OO.put (OO.put O9 hz1 _) hz1 _) hz1 _) hz1 _) hz1 _) hz2 _) hz2 _) (Nat.le_of_lt hz1)
end Go.Proofs.Yticnmljahnnhcaa
