/- Walks: the texts D3v W79s D15 FxM D16 D17 D18 D19 as one text. -/
import Derived.Test.YtcfeelecfmepaaaI1
import Derived.Test.YtcfeelecfmepaaaI4
import Derived.Test.YtcfeelecfmepaaaSInt64
namespace Go.Proofs.Ytcfeelecfmepaaa
set_option linter.unusedVariables false
open Go.RowKit

def okS (s : Int) (x : DSector) : Prop := (x.f0.size ≤ 32 ∧ 1 ≤ x.f1 ∧ x.f1 ≤ 4) ∧ secX s x = true
theorem setV_ok (L : List DSector) (k : Nat) (d : ByteArray) (st s : Int) (h : ∀ x ∈ L, okS s x) (hd : (d.size : Int) = szB s) (hd2 : d.size ≤ 32) (hst : st ∈ [1, 1, 1, 2, 4]) : ∀ x ∈ L.set k ⟨d, st⟩, okS s x := by
  intro x hx
  rcases List.mem_or_eq_of_mem_set hx with hx | rfl
  · exact h x hx
  · simp at hst
    refine ⟨⟨hd2, by simp; omega, by simp; omega⟩, ?_⟩
    unfold secX
    exact sec_3 (by show d.size = (szB s).toNat; omega) (by simp only [inB, Bool.and_eq_true, decide_eq_true_eq]; omega) (by show ¬ st = 3; omega)
theorem newSV_ok (c h p s : Int) (h0 : 0 ≤ s) (h2 : s ≤ 2) : ∀ x ∈ newS c h p s, okS s x := by
  intro x hx
  refine ⟨newS_ok c h p s h0 h2 x hx, ?_⟩
  rw [newS, List.mem_replicate] at hx
  rw [hx.2]
  unfold secX miss
  rw [sec_4 (zerosB_size _) (by decide) rfl]
  simp
set_option maxRecDepth 100000 in
set_option maxHeartbeats 4000000 in
theorem drawSmallV_any (g n cc N B : Nat) (A : Option Addr) (l : List UInt8) (w : World) (S : SR w g A n cc N) (hn : l.length = n) (hr : Rd w B 1 A n (flat fU l)) (hBg : B ≤ g) (hB : B ≤ w.heap.size) (hN : N ≤ 700000000) (hn2 : n ≤ maxLen) :
    Calls Try.prog 29 #[.pointer (some ⟨g, 0, none⟩)] w fun e w' => ∃ (c h p s : Int) (L : List DSector) (v : Value), e = .returned (.agg #[.int .i64 c, .int .i64 h, .int .i64 p, .int .i64 s, v]) ∧ (1 ≤ c ∧ c ≤ 3) ∧ (1 ≤ h ∧ h ≤ 2) ∧ (1 ≤ p ∧ p ≤ 5) ∧ (0 ≤ s ∧ s ≤ 2) ∧ w'.ownsRow w.heap.size 53 2 v L.length (flat fSector L) ∧ L.length = (newS c h p s).length ∧ (∀ x ∈ L, okS s x) ∧ SR w' g A n cc (N + 20000) ∧ w.grownBy w' (some g) := by
  have hgl := S.lt
  have F0 := BX.made w 26 [.int .i64 0, .int .i64 0, .int .i64 0, .int .i64 0, .slice none 0 0]
  have S0 := S.al (.cells #[.int .i64 0, .int .i64 0, .int .i64 0, .int .i64 0, .slice none 0 0] 26)
  have hg0 : w.grownBy (w.alloc (.cells #[.int .i64 0, .int .i64 0, .int .i64 0, .int .i64 0, .slice none 0 0] 26)) (some g) := World.grownBy_alloc w _ _
  have hs0 : w.heap.size + 1 ≤ (w.alloc (.cells #[.int .i64 0, .int .i64 0, .int .i64 0, .int .i64 0, .slice none 0 0] 26)).heap.size := by rw [World.size_alloc]; omega
  go_enter Try.func29, Try.ntmps29
  go_wp2_with (first
    | (go_at_call 44; have hgeo : geoB (1 + x1) (1 + x2) (1 + x3) x4 = true := (by simp only [geoB, inB, Bool.and_eq_true, decide_eq_true_eq]; omega); have nw := l12New_any (1 + x1) (1 + x2) (1 + x3) x4 w4 hgeo; (with_reducible refine nw.mono ?_); rintro e w5 ⟨v, rfl, hown, hbl⟩; obtain ⟨b, vc, rfl, hb0, hb1⟩ := World.ownsRow.form hown (hpos _ _ _ _ hgeo).1)
    | (go_at_call 19; (have := m3; have pk := pick_any 3 g n cc _ B A l w3 S3 hn (grown_rd hr hg3 hBg hB) hBg (Nat.le_trans hB hg3.size) (by omega) hn2 (by decide); with_reducible refine pk.mono ?_; rintro e w4 ⟨x4, rfl, a4, b4, S4, hg4⟩; replace F0 := F0.grown hg4 (fun e => (by have := Option.some.inj e; omega)); replace hg4 := gr_trans hg3 hg4; have m4 := True.intro))
    | (go_at_call 19; (have := m2; have pk := pick_any 5 g n cc _ B A l w2 S2 hn (grown_rd hr hg2 hBg hB) hBg (Nat.le_trans hB hg2.size) (by omega) hn2 (by decide); with_reducible refine pk.mono ?_; rintro e w3 ⟨x3, rfl, a3, b3, S3, hg3⟩; have hw3 : IntKind.i64.wrap (1 + x3) = 1 + x3 := IntWalk.i64_in _ (by omega); replace F0 := F0.grown hg3 (fun e => (by have := Option.some.inj e; omega)); replace hg3 := gr_trans hg2 hg3; have m3 := True.intro))
    | (go_at_call 19; (have := m1; have pk := pick_any 2 g n cc _ B A l w1 S1 hn (grown_rd hr hg1 hBg hB) hBg (Nat.le_trans hB hg1.size) (by omega) hn2 (by decide); with_reducible refine pk.mono ?_; rintro e w2 ⟨x2, rfl, a2, b2, S2, hg2⟩; have hw2 : IntKind.i64.wrap (1 + x2) = 1 + x2 := IntWalk.i64_in _ (by omega); replace F0 := F0.grown hg2 (fun e => (by have := Option.some.inj e; omega)); replace hg2 := gr_trans hg1 hg2; have m2 := True.intro))
    | (go_at_call 19; (have pk := pick_any 3 g n cc _ B A l (w.alloc (.cells #[.int .i64 0, .int .i64 0, .int .i64 0, .int .i64 0, .slice none 0 0] 26)) S0 hn (grown_rd hr hg0 hBg hB) hBg (Nat.le_trans hB hg0.size) (by omega) hn2 (by decide); with_reducible refine pk.mono ?_; rintro e w1 ⟨x1, rfl, a1, b1, S1, hg1⟩; have hw1 : IntKind.i64.wrap (1 + x1) = 1 + x1 := IntWalk.i64_in _ (by omega); replace F0 := F0.grown hg1 (fun e => (by have := Option.some.inj e; omega)); replace hg1 := gr_trans hg0 hg1; have m1 := True.intro)))
  have hQ := hpos _ _ _ _ hgeo
  obtain ⟨c, hc⟩ : ∃ c, 1 + x1 = c := ⟨_, rfl⟩
  obtain ⟨h, hh⟩ : ∃ h, 1 + x2 = h := ⟨_, rfl⟩
  obtain ⟨p, hp⟩ : ∃ p, 1 + x3 = p := ⟨_, rfl⟩
  rw [hc, hh, hp] at hQ hown ⊢
  have hOK : ∀ x ∈ newS c h p x4, okS x4 x := newSV_ok c h p x4 a4 (by omega)
  have HL0 := Lib.hid (show (newS c h p x4).length = (newS c h p x4).length from rfl)
  obtain ⟨L0, hL0⟩ : ∃ L0, newS c h p x4 = L0 := ⟨_, rfl⟩
  rw [hL0] at hQ hown hOK ⊢
  obtain ⟨Q, hQe⟩ : ∃ Q, L0.length = Q := ⟨_, rfl⟩
  rw [hQe] at hQ hown ⊢
  have hg5 : w.grownBy w5 (some g) := gr_below hg4 (hbl.mono hg4.size)
  have S5 := S4.below hbl (Nat.lt_of_lt_of_le hgl hg4.size)
  have hlt4 := F0.lt
  replace F0 := F0.below hbl F0.lt
  have h45 := hbl.size
  have h4 := hg4.size
  have hbD : b < w5.heap.size := hb1
  have FD := BX.made w5 26 [.int .i64 c, .int .i64 h, .int .i64 p, .int .i64 x4, .slice (some ⟨b, 0, none⟩) Q vc]
  have S6 := S5.al (.cells #[.int .i64 c, .int .i64 h, .int .i64 p, .int .i64 x4, .slice (some ⟨b, 0, none⟩) Q vc] 26)
  have F6 := F0.al (.cells #[.int .i64 c, .int .i64 h, .int .i64 p, .int .i64 x4, .slice (some ⟨b, 0, none⟩) Q vc] 26)
  have O6 := OO.al hown (.cells #[.int .i64 c, .int .i64 h, .int .i64 p, .int .i64 x4, .slice (some ⟨b, 0, none⟩) Q vc] 26)
  have hg6 : w.grownBy (w5.alloc (.cells #[.int .i64 c, .int .i64 h, .int .i64 p, .int .i64 x4, .slice (some ⟨b, 0, none⟩) Q vc] 26)) (some g) := gr_trans hg5 (World.grownBy_alloc w5 _ _)
  obtain ⟨D, hD⟩ : ∃ D, w5.heap.size = D := ⟨_, rfl⟩
  rw [hD] at FD hbD ⊢
  generalize (w5.alloc (.cells #[.int .i64 c, .int .i64 h, .int .i64 p, .int .i64 x4, .slice (some ⟨b, 0, none⟩) Q vc] 26)) = w6 at FD S6 F6 O6 hg6 ⊢
  go_loopw [7] (fun i wr => ∃ (k : Nat) (L : List DSector), i = .int .i64 (k : Int) ∧ k ≤ Q ∧ L.length = Q ∧ OO wr w4.heap.size 53 2 (.slice (some ⟨b, 0, none⟩) Q vc) Q (flat fSector L) ∧ BX wr D 26 [.int .i64 c, .int .i64 h, .int .i64 p, .int .i64 x4, .slice (some ⟨b, 0, none⟩) Q vc] ∧ BX wr w.heap.size 26 [.int .i64 0, .int .i64 0, .int .i64 0, .int .i64 0, .slice none 0 0] ∧ SR wr g A n cc (N + 8 + 110 * k) ∧ w.grownBy wr (some g) ∧ Hid (∀ x ∈ L, okS x4 x)) (fun i _ => Q - (intOf i).toNat)
  case atStart => exact ⟨0, L0, rfl, Nat.zero_le _, hQe, O6, FD, F6, S6.more (by omega), hg6, Lib.hid hOK⟩
  case round =>
    obtain ⟨k, L, rfl, hk, hL, O, FD, F0, S, hg, HO⟩ := hrel
    have f3 : (_ : Option Value) = some (.int .i64 x4) := FD.cell 3 (by simp)
    have f4 : (_ : Option Value) = some (.slice (some ⟨b, 0, none⟩) Q vc) := FD.cell 4 (by simp)
    by_cases hlt : k < Q
    · have hd : decide ((k : Int) < (Q : Int)) = true := decide_eq_true (by omega)
      have on := one_any 8 g n cc _ B A l wr S hn (grown_rd hr hg hBg hB) hBg (Nat.le_trans hB hg.size) (by omega) hn2 (by decide)
      obtain ⟨NB, hnb, hnb32, _, _⟩ := szB_nat a4 (by omega)
      have lb := fun W => l12Bytes_any x4 a4 (by omega) W
      rw [hnb] at lb
      have hbg : b ≠ g := by omega
      have hDg : D ≠ g := by omega
      have hwg : w.heap.size ≠ g := by omega
      have hbD2 : b ≠ D := by omega
      have hbw : b ≠ w.heap.size := by omega
      have j0 : k * 2 < Q * 2 := by omega
      have j1 : k * 2 + 1 < Q * 2 := by omega
      go_wp2_with (go_at_call 18; (with_reducible refine on.mono ?_); rintro e w7 ⟨z, rfl, S7, hg7⟩; have O7 := OO.past O hg7 hbg; have FD7 := BX.past FD hg7 hDg; have F07 := BX.past F0 hg7 hwg; have k3 : (_ : Option Value) = some (.int .i64 x4) := FD7.cell 3 (by simp); have k4 : (_ : Option Value) = some (.slice (some ⟨b, 0, none⟩) Q vc) := FD7.cell 4 (by simp); have hg77 := gr_trans hg hg7)
      · go_roundw
        case rel => exact ⟨k + 1, L, by go_num, hlt, hL, O7, FD7, F07, S7.more (by omega), hg77, HO⟩
        case measure => (simp [intOf] <;> omega)
      · go_region_law (go_simp; first
          | (go_at_call 16; refine (lb _).mono ?_; rintro e w8 ⟨rfl, rfl⟩)
          | (go_at_call 17; have dd := drawData_any NB g n cc _ B A l w7.drew S7.dr hn (grown_rd hr (only_drew hg77) hBg hB) hBg (Nat.le_trans hB hg77.size) (by omega) hn2 (by omega); refine dd.mono ?_; rintro e w8 ⟨d, rfl, hd8, S8, hg8⟩; have O8 := OO.past (OO.dr O7) hg8 hbg; have FD8 := BX.past (BX.drx FD7) hg8 hDg; have F08 := BX.past (BX.drx F07) hg8 hwg; have q4 : (_ : Option Value) = some (.slice (some ⟨b, 0, none⟩) Q vc) := FD8.cell 4 (by simp); obtain ⟨u0, hu0⟩ := own_some O8 (k * 2) j0; have hz0 := World.ownsRow.frozenAt O8 (k * 2)))
        all_goals
          have hs9 := World.ownsRow.stored O8 (k * 2) (.string d)
          have O9 := hs9.1
          have FD9 := FD8.grown hs9.2 (fun e => hbD2 (Option.some.inj e))
          have F09 := F08.grown hs9.2 (fun e => hbw (Option.some.inj e))
          have S9 := S8.grown hs9.2 (fun e => hbg (Option.some.inj e))
          have hg9 := gr_own (gr_trans (only_drew hg77) hg8) hs9.2 (fun j e => by have := Option.some.inj (show some b = some j from e); omega)
          clear hs9
          generalize (w8.setCell ⟨b, k * 2, none⟩ (.string d)) = w9 at O9 FD9 F09 S9 hg9 ⊢
          have k4 : (_ : Option Value) = some (.slice (some ⟨b, 0, none⟩) Q vc) := FD9.cell 4 (by simp)
          have k5 := fun (o : Obj) => (show (_ : Option Value) = some (.slice (some ⟨b, 0, none⟩) Q vc) from (BX.al FD9 o).cell 4 (by simp))
          have hlt9 := S9.lt
          have b9 : b < w9.heap.size := (World.ownsRow.lt O9 b rfl).2
          have hB9 := Nat.le_trans hB hg9.size
          have am := among_any [1, 1, 1, 2, 4] w9.heap.size 5 5 rfl g n cc _ B A l (w9.alloc (.cells #[.int .i64 1, .int .i64 1, .int .i64 1, .int .i64 2, .int .i64 4] 2)).drew (SR.dr (S9.al _)) hn (rd_dr ((grown_rd hr hg9 hBg hB).alloc hB9 _)) hBg (by show B ≤ (w9.alloc _).heap.size; rw [World.size_alloc]; exact Nat.le_succ_of_le hB9) (by omega) hn2 (by decide) (by decide) (CP.dr (CP.made w9 [.int .i64 1, .int .i64 1, .int .i64 1, .int .i64 2, .int .i64 4] 2)) (by omega)
          go_wp2
          go_region_law (go_simp; (go_at_call 32; (with_reducible refine am.mono ?_); rintro e w10 ⟨st, rfl, hst, S10, hg10⟩; have O10 := OO.past (OO.dr (OO.al O9 _)) hg10 hbg; have FD10 := BX.past (BX.drx (BX.al FD9 _)) hg10 hDg; have F010 := BX.past (BX.drx (BX.al F09 _)) hg10 hwg; have r4 : (_ : Option Value) = some (.slice (some ⟨b, 0, none⟩) Q vc) := FD10.cell 4 (by simp); obtain ⟨u1, hu1⟩ := own_some O10 (k * 2 + 1) j1; have hz1 := World.ownsRow.frozenAt O10 (k * 2 + 1)))
          all_goals
            have hs11 := World.ownsRow.stored O10 (k * 2 + 1) (.int .i64 st)
            have O11 := hs11.1
            have FD11 := FD10.grown hs11.2 (fun e => hbD2 (Option.some.inj e))
            have F011 := F010.grown hs11.2 (fun e => hbw (Option.some.inj e))
            have S11 := S10.grown hs11.2 (fun e => hbg (Option.some.inj e))
            have hg11 := gr_own (gr_trans (only_drew (gr_trans hg9 (World.grownBy_alloc w9 _ _))) hg10) hs11.2 (fun j e => by have := Option.some.inj (show some b = some j from e); omega)
            have hPL := setS L k (by omega) ⟨d, st⟩
            go_wp2
            go_roundw
            case rel => exact ⟨k + 1, L.set k ⟨d, st⟩, by go_num, hlt, by rw [List.length_set]; exact hL, by rw [← hPL]; exact O11, FD11, F011, S11.more (by omega), hg11, Lib.hid (setV_ok L k d st x4 HO.out (by rw [hd8]; exact hnb.symm) (by omega) hst)⟩
            case measure => (simp [intOf] <;> omega)
    · have hd : decide ((k : Int) < (Q : Int)) = false := decide_eq_false (by omega)
      obtain rfl : k = Q := by omega
      have f0 : (_ : Option Value) = some (.int .i64 c) := FD.cell 0 (by simp)
      have f1 : (_ : Option Value) = some (.int .i64 h) := FD.cell 1 (by simp)
      have f2 : (_ : Option Value) = some (.int .i64 p) := FD.cell 2 (by simp)
      have z0 : (_ : Option Value) = some (.int .i64 0) := F0.cell 0 (by simp)
      have z1 : (_ : Option Value) = some (.int .i64 0) := F0.cell 1 (by simp)
      have z2 : (_ : Option Value) = some (.int .i64 0) := F0.cell 2 (by simp)
      have z3 : (_ : Option Value) = some (.int .i64 0) := F0.cell 3 (by simp)
      have z4 : (_ : Option Value) = some (.slice none 0 0) := F0.cell 4 (by simp)
      have hfz := fun j => F0.free j
      go_wp2
      refine bodyPost_ret (v := .agg #[.int .i64 c, .int .i64 h, .int .i64 p, .int .i64 x4, .slice (some ⟨b, 0, none⟩) k vc]) (by simp [results, Try.results29, go_sem, World.cell?_setCell_other, z0, z1, z2, z3, z4]) rfl ⟨c, h, p, x4, L, _, rfl, by omega, by omega, by omega, by omega, ?_, ?_, HO.out, ?_, ?_⟩
      · rw [hL]
        have O' : wr.ownsRow w4.heap.size 53 2 (.slice (some ⟨b, 0, none⟩) k vc) k (flat fSector L) := O
        refine own_base (base := w4.heap.size) ?_ (by omega)
        with_reducible repeat (first | exact O' | refine ownsRow_setCell_below ?_ (by simp; try omega) _)
      · rw [hL, ← hQe, ← hL0]
      · refine SR.more (N := N + 8 + 110 * k) ?_ (by omega)
        have hx : ∀ (W : World) (j : Nat) (u : Value), SR W g A n cc (N + 8 + 110 * k) → SR (W.setCell ⟨w.heap.size, j, none⟩ u) g A n cc (N + 8 + 110 * k) := fun W j u h => h.grown (grownBy_set0 W w.heap.size j u) (fun e => by have := Option.some.inj e; omega)
        exact hx _ _ _ (hx _ _ _ (hx _ _ _ (hx _ _ _ (hx _ _ _ S))))
      · have hx : ∀ (W : World) (j : Nat) (u : Value), w.grownBy W (some g) → w.grownBy (W.setCell ⟨w.heap.size, j, none⟩ u) (some g) := fun W j u h => only_setCell h (.inr (Nat.le_refl _)) u
        exact hx _ _ _ (hx _ _ _ (hx _ _ _ (hx _ _ _ (hx _ _ _ hg))))
end Go.Proofs.Ytcfeelecfmepaaa
namespace Go.Proofs.Ytcfeelecfmepaaa
set_option linter.unusedVariables false
open Go.RowKit

set_option maxRecDepth 100000 in
set_option maxHeartbeats 2000000 in
theorem spec_NewDevice_one (c h p s : Int) (A : Option Addr) (cp : Nat) (l : List DSector) (k r : Int) (w : World) (hr : Rd w w.heap.size 2 A l.length (flat fSector l)) (hn : l.length ≤ 1048576) (hok : ∀ x ∈ l, okSector x) :
    Calls Try.prog 30 #[.agg #[.int .i64 c, .int .i64 h, .int .i64 p, .int .i64 s, .slice A l.length cp], .int .i64 k, .int .i64 r] w fun e w' => ∃ (v4 : Value) (A7 : Option Addr) (c7 : Nat), e = .returned (.tuple #[.agg #[.int .i64 (ptN (nvOk (okD c h p s l) k r l.length) c), .int .i64 (ptN (nvOk (okD c h p s l) k r l.length) h), .int .i64 (ptN (nvOk (okD c h p s l) k r l.length) p), .int .i64 (ptN (nvOk (okD c h p s l) k r l.length) s), v4, .int .i64 (ptN (nvOk (okD c h p s l) k r l.length) k), .int .i64 (ptN (nvOk (okD c h p s l) k r l.length) r), .slice A7 (nvM (nvOk (okD c h p s l) k r l.length) c h p k r l.length).length c7], .int .i64 (nvC (okD c h p s l) k r l.length)]) ∧ w'.ownsRow w.heap.size 53 2 v4 (nvL (nvOk (okD c h p s l) k r l.length) l).length (flat fSector (nvL (nvOk (okD c h p s l) k r l.length) l)) ∧ w'.ownsRow w.heap.size 2 1 (.slice A7 (nvM (nvOk (okD c h p s l) k r l.length) c h p k r l.length).length c7) (nvM (nvOk (okD c h p s l) k r l.length) c h p k r l.length).length (flat fI (nvM (nvOk (okD c h p s l) k r l.length) c h p k r l.length)) ∧ (v4.ownBlock = none ∨ v4.ownBlock ≠ (Value.slice A7 (nvM (nvOk (okD c h p s l) k r l.length) c h p k r l.length).length c7).ownBlock) ∧ Below w.heap.size w w' := by
  have F3 := (BX.made w 26 [.int .i64 c, .int .i64 h, .int .i64 p, .int .i64 s, .slice A l.length cp]).al (.cells #[.int .i64 0, .int .i64 0, .int .i64 0, .int .i64 0, .slice none 0 0, .int .i64 0, .int .i64 0, .slice none 0 0] 29)
  have F6 := BX.made1 w (.cells #[.int .i64 c, .int .i64 h, .int .i64 p, .int .i64 s, .slice A l.length cp] 26) 29 [.int .i64 0, .int .i64 0, .int .i64 0, .int .i64 0, .slice none 0 0, .int .i64 0, .int .i64 0, .slice none 0 0]
  obtain ⟨wb, hwb⟩ : ∃ wb, wb = (w.alloc (.cells #[.int .i64 c, .int .i64 h, .int .i64 p, .int .i64 s, .slice A l.length cp] 26)).alloc (.cells #[.int .i64 0, .int .i64 0, .int .i64 0, .int .i64 0, .slice none 0 0, .int .i64 0, .int .i64 0, .slice none 0 0] 29) := ⟨_, rfl⟩
  rw [← hwb] at F3 F6
  have hb0 : Below w.heap.size w wb := by rw [hwb]; exact (by with_reducible repeat (first | exact Below.refl _ _ | assumption | refine below_step ?_ (by assumption) | refine Below.drew ?_ | refine below_drewN ?_ _ | refine below_alloc ?_ _ | refine Below.setCell ?_ (by simp; try omega) _))
  have hs0 : w.heap.size + 1 < wb.heap.size := F6.lt
  have hrb := (hr.below hb0).more hb0.size
  have DP3 : DP wb w.heap.size c h p s (.slice A l.length cp) := ⟨F3.cell 0 (by simp), F3.cell 1 (by simp), F3.cell 2 (by simp), F3.cell 3 (by simp), F3.cell 4 (by simp)⟩
  have HW := Lib.hid hwb
  clear hwb
  have hq := l12Ok_any w.heap.size c h p s A cp l wb DP3 hrb hn hok
  have hin1 := fun W => l00In_any k 0 7 W
  have hin2 := fun W => l00In_any r 0 ((l.length : Int) - 1) W
  cases hd : okD c h p s l
  · rw [hd] at hq
    have HR := Lib.hid (nv_1 (k := k) (r := r) (N := l.length))
    go_enter Try.func30, Try.ntmps30
    go_wp2_with (first
          | (go_at_call 42; rw [← HW.out]; refine hq.mono ?_; rintro e w2 ⟨rfl, hx⟩; replace F3 := F3.below hx F3.lt; replace F6 := F6.below hx F6.lt; have hB : Below w.heap.size w w2 := hb0.trans (hx.mono (by omega)); have e0 : (_ : Option Value) = some (.int .i64 c) := F3.cell 0 (by simp); have e1 : (_ : Option Value) = some (.int .i64 h) := F3.cell 1 (by simp); have e2 : (_ : Option Value) = some (.int .i64 p) := F3.cell 2 (by simp); have e3 : (_ : Option Value) = some (.int .i64 s) := F3.cell 3 (by simp); have e4 : (_ : Option Value) = some (.slice A l.length cp) := F3.cell 4 (by simp); have z0 : (_ : Option Value) = some (.int .i64 0) := F6.cell 0 (by simp); have z1 : (_ : Option Value) = some (.int .i64 0) := F6.cell 1 (by simp); have z2 : (_ : Option Value) = some (.int .i64 0) := F6.cell 2 (by simp); have z3 : (_ : Option Value) = some (.int .i64 0) := F6.cell 3 (by simp); have z4 : (_ : Option Value) = some (.slice none 0 0) := F6.cell 4 (by simp); have z5 : (_ : Option Value) = some (.int .i64 0) := F6.cell 5 (by simp); have z6 : (_ : Option Value) = some (.int .i64 0) := F6.cell 6 (by simp); have z7 : (_ : Option Value) = some (.slice none 0 0) := F6.cell 7 (by simp); have hfz := fun j => F6.free j; have hs2 := F6.lt))
    refine bodyPost_ret (v := .tuple #[.agg #[.int .i64 0, .int .i64 0, .int .i64 0, .int .i64 0, .slice none 0 0, .int .i64 0, .int .i64 0, .slice none 0 0], .int .i64 1]) (by simp [results, Try.results30, go_sem, World.cell?_setCell_other, z0, z1, z2, z3, z4, z5, z6, z7]) rfl ⟨.slice none 0 0, none, 0, by rw [HR.out.1, HR.out.2]; rfl, ?_, ?_, .inl rfl, ?_⟩
    · rw [HR.out.1]; exact World.ownsRow_nil _ _ _ _
    · rw [HR.out.1]; exact World.ownsRow_nil _ _ _ _
    · exact (by with_reducible repeat (first | exact Below.refl _ _ | assumption | refine below_step ?_ (by assumption) | refine Below.drew ?_ | refine below_drewN ?_ _ | refine below_alloc ?_ _ | refine Below.setCell ?_ (by simp; try omega) _))
  rw [hd] at hq
  cases g1 : inB k 0 7
  · rw [g1] at hin1
    clear hd
    have HR := Lib.hid (nv_2 (r := r) (N := l.length) g1)
    go_enter Try.func30, Try.ntmps30
    go_wp2_with (first
          | (go_at_call 15; have := mk1; refine (hin2 _).mono ?_; rintro e w9 ⟨rfl, rfl⟩)
          | (go_at_call 15; refine (hin1 _).mono ?_; rintro e w9 ⟨rfl, rfl⟩; have mk1 := True.intro)
          | (go_at_call 42; rw [← HW.out]; refine hq.mono ?_; rintro e w2 ⟨rfl, hx⟩; replace F3 := F3.below hx F3.lt; replace F6 := F6.below hx F6.lt; have hB : Below w.heap.size w w2 := hb0.trans (hx.mono (by omega)); have e0 : (_ : Option Value) = some (.int .i64 c) := F3.cell 0 (by simp); have e1 : (_ : Option Value) = some (.int .i64 h) := F3.cell 1 (by simp); have e2 : (_ : Option Value) = some (.int .i64 p) := F3.cell 2 (by simp); have e3 : (_ : Option Value) = some (.int .i64 s) := F3.cell 3 (by simp); have e4 : (_ : Option Value) = some (.slice A l.length cp) := F3.cell 4 (by simp); have z0 : (_ : Option Value) = some (.int .i64 0) := F6.cell 0 (by simp); have z1 : (_ : Option Value) = some (.int .i64 0) := F6.cell 1 (by simp); have z2 : (_ : Option Value) = some (.int .i64 0) := F6.cell 2 (by simp); have z3 : (_ : Option Value) = some (.int .i64 0) := F6.cell 3 (by simp); have z4 : (_ : Option Value) = some (.slice none 0 0) := F6.cell 4 (by simp); have z5 : (_ : Option Value) = some (.int .i64 0) := F6.cell 5 (by simp); have z6 : (_ : Option Value) = some (.int .i64 0) := F6.cell 6 (by simp); have z7 : (_ : Option Value) = some (.slice none 0 0) := F6.cell 7 (by simp); have hfz := fun j => F6.free j; have hs2 := F6.lt))
    refine bodyPost_ret (v := .tuple #[.agg #[.int .i64 0, .int .i64 0, .int .i64 0, .int .i64 0, .slice none 0 0, .int .i64 0, .int .i64 0, .slice none 0 0], .int .i64 2]) (by simp [results, Try.results30, go_sem, World.cell?_setCell_other, z0, z1, z2, z3, z4, z5, z6, z7]) rfl ⟨.slice none 0 0, none, 0, by rw [HR.out.1, HR.out.2]; rfl, ?_, ?_, .inl rfl, ?_⟩
    · rw [HR.out.1]; exact World.ownsRow_nil _ _ _ _
    · rw [HR.out.1]; exact World.ownsRow_nil _ _ _ _
    · exact (by with_reducible repeat (first | exact Below.refl _ _ | assumption | refine below_step ?_ (by assumption) | refine Below.drew ?_ | refine below_drewN ?_ _ | refine below_alloc ?_ _ | refine Below.setCell ?_ (by simp; try omega) _))
  rw [g1] at hin1
  cases g2 : inB r 0 ((l.length : Int) - 1)
  · rw [g2] at hin2
    clear hd
    have HR := Lib.hid (nv_3 (k := k) (N := l.length) g2)
    go_enter Try.func30, Try.ntmps30
    go_wp2_with (first
          | (go_at_call 15; have := mk1; refine (hin2 _).mono ?_; rintro e w9 ⟨rfl, rfl⟩)
          | (go_at_call 15; refine (hin1 _).mono ?_; rintro e w9 ⟨rfl, rfl⟩; have mk1 := True.intro)
          | (go_at_call 42; rw [← HW.out]; refine hq.mono ?_; rintro e w2 ⟨rfl, hx⟩; replace F3 := F3.below hx F3.lt; replace F6 := F6.below hx F6.lt; have hB : Below w.heap.size w w2 := hb0.trans (hx.mono (by omega)); have e0 : (_ : Option Value) = some (.int .i64 c) := F3.cell 0 (by simp); have e1 : (_ : Option Value) = some (.int .i64 h) := F3.cell 1 (by simp); have e2 : (_ : Option Value) = some (.int .i64 p) := F3.cell 2 (by simp); have e3 : (_ : Option Value) = some (.int .i64 s) := F3.cell 3 (by simp); have e4 : (_ : Option Value) = some (.slice A l.length cp) := F3.cell 4 (by simp); have z0 : (_ : Option Value) = some (.int .i64 0) := F6.cell 0 (by simp); have z1 : (_ : Option Value) = some (.int .i64 0) := F6.cell 1 (by simp); have z2 : (_ : Option Value) = some (.int .i64 0) := F6.cell 2 (by simp); have z3 : (_ : Option Value) = some (.int .i64 0) := F6.cell 3 (by simp); have z4 : (_ : Option Value) = some (.slice none 0 0) := F6.cell 4 (by simp); have z5 : (_ : Option Value) = some (.int .i64 0) := F6.cell 5 (by simp); have z6 : (_ : Option Value) = some (.int .i64 0) := F6.cell 6 (by simp); have z7 : (_ : Option Value) = some (.slice none 0 0) := F6.cell 7 (by simp); have hfz := fun j => F6.free j; have hs2 := F6.lt))
    refine bodyPost_ret (v := .tuple #[.agg #[.int .i64 0, .int .i64 0, .int .i64 0, .int .i64 0, .slice none 0 0, .int .i64 0, .int .i64 0, .slice none 0 0], .int .i64 2]) (by simp [results, Try.results30, go_sem, World.cell?_setCell_other, z0, z1, z2, z3, z4, z5, z6, z7]) rfl ⟨.slice none 0 0, none, 0, by rw [HR.out.1, HR.out.2]; rfl, ?_, ?_, .inl rfl, ?_⟩
    · rw [HR.out.1]; exact World.ownsRow_nil _ _ _ _
    · rw [HR.out.1]; exact World.ownsRow_nil _ _ _ _
    · exact (by with_reducible repeat (first | exact Below.refl _ _ | assumption | refine below_step ?_ (by assumption) | refine Below.drew ?_ | refine below_drewN ?_ _ | refine below_alloc ?_ _ | refine Below.setCell ?_ (by simp; try omega) _))
  rw [g2] at hin2
  have HR := Lib.hid (nv_4 (N := l.length) g1 g2)
  obtain ⟨k0, k1⟩ := inB_yes g1
  obtain ⟨r0, r1⟩ := inB_yes g2
  obtain ⟨K, rfl⟩ : ∃ K : Nat, k = (K : Int) := ⟨k.toNat, by omega⟩
  obtain ⟨R, rfl⟩ : ∃ R : Nat, r = (R : Int) := ⟨r.toNat, by omega⟩
  have hgeo := okD_geo hd
  obtain ⟨c1, c2, h1, h2, p1, p2, s1, s2⟩ := geoB_yes hgeo.1
  obtain ⟨m1, m2⟩ := prod2 c1 c2 h1 h2
  obtain ⟨P, rfl⟩ : ∃ P : Nat, p = (P : Int) := ⟨p.toNat, by omega⟩
  obtain ⟨T, hT⟩ : ∃ T : Nat, c * h = (T : Int) := ⟨(c * h).toNat, by omega⟩
  have hNT : l.length = T * P := by
    have := hgeo.2.1
    rw [hT] at this
    omega
  obtain ⟨m, hm⟩ : ∃ m : Nat, m = l.length - R := ⟨_, rfl⟩
  have hmpos : 0 < m := by omega
  have hml : m ≤ l.length := by omega
  have hRl : R ≤ l.length := by omega
  have hsub : IntKind.i64.wrap ((l.length : Int) - (R : Int)) = (m : Int) := (IntWalk.i64_in _ (by omega)).trans (by omega)
  have HM := Lib.hid (show nvM true c h (P : Int) (K : Int) (R : Int) l.length = (ordT P K T).take m by
    unfold nvM
    rw [if_pos rfl, hT, Int.toNat_natCast, Int.toNat_natCast, Int.toNat_natCast, show ((l.length : Int) - (R : Int)).toNat = m by omega])
  have HOL := Lib.hid (show (ordT P K T).length = l.length by rw [ordT_len, hNT])
  have HTL := Lib.hid (show ((ordT P K T).take m).length = m by rw [List.length_take, HOL.out]; omega)
  have hord := fun (W : World) (hd : DP W w.heap.size c h (P : Int) s (.slice A l.length cp)) => l15Order_any w.heap.size c h s (.slice A l.length cp) T P K W hd hT (by omega) (by omega) (by omega) (by omega)
  have hpos : 0 < l.length := by omega
  clear hd hgeo hT hNT hm c1 c2 h1 h2 m1 m2 s1 s2 k0 g1 g2
  go_enter Try.func30, Try.ntmps30
  have HL2 := Lib.hid (ordT_len P K T)
  go_wp2_with (first
        | (go_at_call 15; have := mk1; refine (hin2 _).mono ?_; rintro e w9 ⟨rfl, rfl⟩)
        | (go_at_call 15; refine (hin1 _).mono ?_; rintro e w9 ⟨rfl, rfl⟩; have mk1 := True.intro)
        | (go_at_call 46; refine (hord _ ⟨F3.cell 0 (by simp), F3.cell 1 (by simp), F3.cell 2 (by simp), F3.cell 3 (by simp), F3.cell 4 (by simp)⟩).mono ?_; rintro e w5 ⟨v5, rfl, hown5, hx5⟩; obtain ⟨g5, c5, hv⟩ := Go.Joins.ownsRow_form hown5 (by rw [HOL.out]; exact hpos); cases hv; have hlt5 := World.ownsRow.lt hown5 g5 rfl; have hcap := own_capN hown5; clear e0 e1 e2 e3 e4 z0 z1 z2 z3 z4 z5 z6 z7 hfz; replace F3 := F3.below hx5 F3.lt; replace F6 := F6.below hx5 F6.lt; replace hB := below_step hB hx5; replace ho4 := own_later ho4 hx5 (Nat.le_refl _); have e0 : (_ : Option Value) = some (.int .i64 c) := F3.cell 0 (by simp); have e1 : (_ : Option Value) = some (.int .i64 h) := F3.cell 1 (by simp); have e2 : (_ : Option Value) = some (.int .i64 (P : Int)) := F3.cell 2 (by simp); have e3 : (_ : Option Value) = some (.int .i64 s) := F3.cell 3 (by simp); have e4 : (_ : Option Value) = some (.slice A l.length cp) := F3.cell 4 (by simp); have z0 : (_ : Option Value) = some (.int .i64 0) := F6.cell 0 (by simp); have z1 : (_ : Option Value) = some (.int .i64 0) := F6.cell 1 (by simp); have z2 : (_ : Option Value) = some (.int .i64 0) := F6.cell 2 (by simp); have z3 : (_ : Option Value) = some (.int .i64 0) := F6.cell 3 (by simp); have z4 : (_ : Option Value) = some (.slice none 0 0) := F6.cell 4 (by simp); have z5 : (_ : Option Value) = some (.int .i64 0) := F6.cell 5 (by simp); have z6 : (_ : Option Value) = some (.int .i64 0) := F6.cell 6 (by simp); have z7 : (_ : Option Value) = some (.slice none 0 0) := F6.cell 7 (by simp); have hfz := fun j => F6.free j; have hq1 : m ≤ c5 := (by have := HOL.out; omega); have hq2 : ¬ c5 = 0 := (by omega))
        | (go_at_call 45; refine (l12Own_any w.heap.size c h (P : Int) s A cp l _ ⟨F3.cell 0 (by simp), F3.cell 1 (by simp), F3.cell 2 (by simp), F3.cell 3 (by simp), F3.cell 4 (by simp)⟩ ((hr.below hB).more hB.size) hn).mono ?_; rintro e w4 ⟨v4, rfl, hown4, hx4⟩; obtain ⟨g4, c4, hv⟩ := Go.Joins.ownsRow_form hown4 hpos; cases hv; have hlt4 := World.ownsRow.lt hown4 g4 rfl; clear e0 e1 e2 e3 e4 z0 z1 z2 z3 z4 z5 z6 z7 hfz; replace F3 := F3.below hx4 F3.lt; replace F6 := F6.below hx4 F6.lt; replace hB := below_step hB hx4; have e0 : (_ : Option Value) = some (.int .i64 c) := F3.cell 0 (by simp); have e1 : (_ : Option Value) = some (.int .i64 h) := F3.cell 1 (by simp); have e2 : (_ : Option Value) = some (.int .i64 (P : Int)) := F3.cell 2 (by simp); have e3 : (_ : Option Value) = some (.int .i64 s) := F3.cell 3 (by simp); have e4 : (_ : Option Value) = some (.slice A l.length cp) := F3.cell 4 (by simp); have z0 : (_ : Option Value) = some (.int .i64 0) := F6.cell 0 (by simp); have z1 : (_ : Option Value) = some (.int .i64 0) := F6.cell 1 (by simp); have z2 : (_ : Option Value) = some (.int .i64 0) := F6.cell 2 (by simp); have z3 : (_ : Option Value) = some (.int .i64 0) := F6.cell 3 (by simp); have z4 : (_ : Option Value) = some (.slice none 0 0) := F6.cell 4 (by simp); have z5 : (_ : Option Value) = some (.int .i64 0) := F6.cell 5 (by simp); have z6 : (_ : Option Value) = some (.int .i64 0) := F6.cell 6 (by simp); have z7 : (_ : Option Value) = some (.slice none 0 0) := F6.cell 7 (by simp); have hfz := fun j => F6.free j; have ho4 := hown4)
        | (go_at_call 42; rw [← HW.out]; refine hq.mono ?_; rintro e w2 ⟨rfl, hx⟩; replace F3 := F3.below hx F3.lt; replace F6 := F6.below hx F6.lt; have hB : Below w.heap.size w w2 := hb0.trans (hx.mono (by omega)); have e0 : (_ : Option Value) = some (.int .i64 c) := F3.cell 0 (by simp); have e1 : (_ : Option Value) = some (.int .i64 h) := F3.cell 1 (by simp); have e2 : (_ : Option Value) = some (.int .i64 (P : Int)) := F3.cell 2 (by simp); have e3 : (_ : Option Value) = some (.int .i64 s) := F3.cell 3 (by simp); have e4 : (_ : Option Value) = some (.slice A l.length cp) := F3.cell 4 (by simp); have z0 : (_ : Option Value) = some (.int .i64 0) := F6.cell 0 (by simp); have z1 : (_ : Option Value) = some (.int .i64 0) := F6.cell 1 (by simp); have z2 : (_ : Option Value) = some (.int .i64 0) := F6.cell 2 (by simp); have z3 : (_ : Option Value) = some (.int .i64 0) := F6.cell 3 (by simp); have z4 : (_ : Option Value) = some (.slice none 0 0) := F6.cell 4 (by simp); have z5 : (_ : Option Value) = some (.int .i64 0) := F6.cell 5 (by simp); have z6 : (_ : Option Value) = some (.int .i64 0) := F6.cell 6 (by simp); have z7 : (_ : Option Value) = some (.slice none 0 0) := F6.cell 7 (by simp); have hfz := fun j => F6.free j; have hs2 := F6.lt))
  refine bodyPost_ret (v := .tuple #[.agg #[.int .i64 c, .int .i64 h, .int .i64 (P : Int), .int .i64 s, .slice (some ⟨g4, 0, none⟩) l.length c4, .int .i64 (K : Int), .int .i64 (R : Int), .slice (some ⟨g5, 0, none⟩) m c5], .int .i64 0]) (by simp [results, Try.results30, go_sem, World.cell?_setCell_other, z0, z1, z2, z3, z4, z5, z6, z7]) rfl ⟨_, some ⟨g5, 0, none⟩, c5, by rw [HR.out.1, HR.out.2, HM.out, HTL.out]; rfl, ?_, ?_, ?_, ?_⟩
  · rw [HR.out.1, show nvL true l = l from rfl]
    have ho := own_base (base' := w.heap.size + 1 + 1) ho4 (by omega)
    refine own_base (base := w.heap.size + 1 + 1) ?_ (by omega)
    with_reducible repeat (first | exact ho | refine ownsRow_setCell_below ?_ (by simp; try omega) _)
  · rw [HR.out.1, HM.out, HTL.out, ← flatI_take]
    have hoo : World.ownsRow _ _ _ _ (.slice (some ⟨g5, 0, none⟩) m c5) m _ := own_take (k := m) (by have h9 := hown5; rw [HOL.out] at h9; exact h9) hml
    have ho := own_base (base' := w.heap.size + 1 + 1) hoo (by omega)
    refine own_base (base := w.heap.size + 1 + 1) ?_ (by omega)
    with_reducible repeat (first | exact ho | refine ownsRow_setCell_below ?_ (by simp; try omega) _)
  · right
    intro e
    injection e with e
    have : g4 = g5 := e
    omega
  · exact (by with_reducible repeat (first | exact Below.refl _ _ | assumption | refine below_step ?_ (by assumption) | refine Below.drew ?_ | refine below_drewN ?_ _ | refine below_alloc ?_ _ | refine Below.setCell ?_ (by simp; try omega) _))
end Go.Proofs.Ytcfeelecfmepaaa
namespace Go.Proofs.Ytcfeelecfmepaaa
set_option linter.unusedVariables false
open Go.RowKit

theorem okD_small {c h p s : Int} {L : List DSector} (hc : 1 ≤ c ∧ c ≤ 3) (hh : 1 ≤ h ∧ h ≤ 2) (hp : 1 ≤ p ∧ p ≤ 5) (hs : 0 ≤ s ∧ s ≤ 2) (hL : L.length = (newS c h p s).length) (hok : ∀ x ∈ L, okS s x) : geoB c h p s = true ∧ okD c h p s L = true ∧ 0 < L.length ∧ L.length ≤ 128 := by
  have hg : geoB c h p s = true := by simp only [geoB, inB, Bool.and_eq_true, decide_eq_true_eq]; omega
  have hq := hpos c h p s hg
  refine ⟨hg, okD_all hg ?_ (fun k hk => (hok _ (List.getElem_mem hk)).2), by omega, by omega⟩
  obtain ⟨c1, c2, h1, h2, p1, p2, s1, s2⟩ := geoB_yes hg
  obtain ⟨m1, m2⟩ := prod2 c1 c2 h1 h2
  obtain ⟨q1, q2⟩ := prod3 m1 m2 p1 p2
  rw [hL, newS_len, secN]
  omega
set_option maxHeartbeats 1000000 in
theorem newDevS_any (c h p s : Int) (A : Option Addr) (cp : Nat) (L : List DSector) (k r : Int) (w : World) (hr : Rd w w.heap.size 2 A L.length (flat fSector L)) (hd : okD c h p s L = true) (hok : ∀ x ∈ L, okSector x) (hL0 : 0 < L.length) (hL : L.length ≤ 128) (hk : 0 ≤ k ∧ k ≤ 3) (hr0 : 0 ≤ r ∧ r ≤ 2) :
    Calls Try.prog 30 #[.agg #[.int .i64 c, .int .i64 h, .int .i64 p, .int .i64 s, .slice A L.length cp], .int .i64 k, .int .i64 r] w fun e w' =>
      (∃ (bL cL bM cM : Nat) (M : List Int), e = .returned (.tuple #[.agg #[.int .i64 c, .int .i64 h, .int .i64 p, .int .i64 s, .slice (some ⟨bL, 0, none⟩) L.length cL, .int .i64 k, .int .i64 r, .slice (some ⟨bM, 0, none⟩) M.length cM], .int .i64 0]) ∧ w'.ownsRow w.heap.size 53 2 (.slice (some ⟨bL, 0, none⟩) L.length cL) L.length (flat fSector L) ∧ w'.ownsRow w.heap.size 2 1 (.slice (some ⟨bM, 0, none⟩) M.length cM) M.length (flat fI M) ∧ bL ≠ bM ∧ 0 < M.length ∧ M.length ≤ 128 ∧ Below w.heap.size w w')
      ∨ (∃ (A4 : Option Addr) (c4 : Nat) (A7 : Option Addr) (c7 : Nat), 0 < r ∧ e = .returned (.tuple #[.agg #[.int .i64 0, .int .i64 0, .int .i64 0, .int .i64 0, .slice A4 0 c4, .int .i64 0, .int .i64 0, .slice A7 0 c7], .int .i64 2]) ∧ Below w.heap.size w w') := by
  have nd := spec_NewDevice_one c h p s A cp L k r w hr (by omega) hok
  have g1 : inB k 0 7 = true := by simp only [inB, Bool.and_eq_true, decide_eq_true_eq]; omega
  rw [hd] at nd
  cases g2 : inB r 0 ((L.length : Int) - 1)
  · obtain ⟨n1, n2⟩ := nv_3 (k := k) (N := L.length) g2
    rw [n1, n2] at nd
    refine nd.mono ?_
    rintro e w' ⟨v4, A7, c7, rfl, R4, R7, hne, hx⟩
    obtain ⟨A4, c4, rfl⟩ := own_form R4
    have hr1 : 0 < r := by
      by_cases h0 : r = 0
      · exfalso
        subst h0
        have : inB 0 0 ((L.length : Int) - 1) = true := by simp only [inB, Bool.and_eq_true, decide_eq_true_eq]; omega
        rw [this] at g2
        cases g2
      · omega
    exact .inr ⟨A4, c4, A7, c7, hr1, rfl, hx⟩
  · obtain ⟨n1, n2⟩ := nv_4 (N := L.length) g1 g2
    rw [n1, n2] at nd
    obtain ⟨hV, hml, _, _, _⟩ := newDev_law hd n1
    have hrr := inB_yes g2
    generalize nvM true c h p k r L.length = M at nd hV hml
    refine nd.mono ?_
    rintro e w' ⟨v4, A7, c7, rfl, R4, R7, hne, hx⟩
    left
    obtain ⟨bL, cL, rfl, hb0, hb1⟩ := World.ownsRow.form R4 (show 0 < (nvL true L).length from hL0)
    obtain ⟨bM, cM, hv, hb2, hb3⟩ := World.ownsRow.form R7 (show 0 < M.length by omega)
    injection hv with hA _ hc
    subst hA hc
    refine ⟨bL, cL, bM, c7, M, rfl, R4, R7, ?_, by omega, by omega, hx⟩
    intro e
    subst e
    rcases hne with hne | hne
    · cases hne
    · exact hne rfl
end Go.Proofs.Ytcfeelecfmepaaa
namespace Go.Proofs.Ytcfeelecfmepaaa
set_option linter.unusedVariables false
open Go.RowKit

theorem oneI (x : Int) : ∀ u ∈ fI x, u.oneCell' = true := by
  intro u hu
  simp only [fI, List.mem_cons, List.not_mem_nil, or_false] at hu
  subst hu
  rfl
theorem cellsI (x : Int) : (#[Value.int .i64 x] : Array Value).toList = fI x := rfl
theorem flatI_set : ∀ (L : List Int) (k : Nat) (x : Int), (flat fI L).set k (.int .i64 x) = flat fI (L.set k x)
  | [], _, _ => rfl
  | _ :: _, 0, _ => rfl
  | a :: L, k + 1, x => by
    show .int .i64 a :: (flat fI L).set k (.int .i64 x) = .int .i64 a :: flat fI (L.set k x)
    rw [flatI_set L k x]
end Go.Proofs.Ytcfeelecfmepaaa
namespace Go.Proofs.Ytcfeelecfmepaaa
set_option linter.unusedVariables false
open Go.RowKit

set_option maxHeartbeats 1000000 in
theorem replS_any (c h p s : Int) (A : Option Addr) (cp : Nat) (L : List DSector) (k r : Int) (N : Option Addr) (q : Nat) (m : List Int) (b : Int) (w : World) (hr : Rd w w.heap.size 2 A L.length (flat fSector L)) (hL0 : 0 < L.length) (hL : L.length ≤ 200) (hok : ∀ x ∈ L, okSector x) (kr : Rd w w.heap.size 1 N m.length (flat fI m)) (hm0 : 0 < m.length) (hm : m.length ≤ 200) (hqc : m.length ≤ q) :
    Calls Try.prog 31 #[.agg #[.int .i64 c, .int .i64 h, .int .i64 p, .int .i64 s, .slice A L.length cp, .int .i64 k, .int .i64 r, .slice N m.length q], .int .i64 b] w fun e w' =>
      (∃ (bL cL bM cM : Nat) (L2 : List DSector) (M2 : List Int), e = .returned (.tuple #[.agg #[.int .i64 c, .int .i64 h, .int .i64 p, .int .i64 s, .slice (some ⟨bL, 0, none⟩) L2.length cL, .int .i64 k, .int .i64 r, .slice (some ⟨bM, 0, none⟩) M2.length cM], .int .i64 0]) ∧ w'.ownsRow w.heap.size 53 2 (.slice (some ⟨bL, 0, none⟩) L2.length cL) L2.length (flat fSector L2) ∧ w'.ownsRow w.heap.size 2 1 (.slice (some ⟨bM, 0, none⟩) M2.length cM) M2.length (flat fI M2) ∧ bL ≠ bM ∧ L2.length = L.length ∧ M2.length = m.length ∧ (∀ x ∈ L2, okSector x) ∧ Below w.heap.size w w')
      ∨ (∃ (A4 : Option Addr) (c4 : Nat) (A7 : Option Addr) (c7 : Nat) (x : Int), x ≠ 0 ∧ e = .returned (.tuple #[.agg #[.int .i64 0, .int .i64 0, .int .i64 0, .int .i64 0, .slice A4 0 c4, .int .i64 0, .int .i64 0, .slice A7 0 c7], .int .i64 x]) ∧ Below w.heap.size w w') := by
  have rb := spec_ReplaceBlock_any c h p s A cp L k r N q m b w hr (by omega) hok kr (by omega) hqc
  generalize hfr : frB (ordT p.toNat k.toNat (c * h).toNat) m = fr at rb
  cases hv : rpOk (okV (okD c h p s L) L.length k r m) m.length b fr
  · have hx : rpC (okV (okD c h p s L) L.length k r m) m.length b fr ≠ 0 := by
      unfold rpOk at hv
      unfold rpC
      cases g1 : okV (okD c h p s L) L.length k r m <;> cases g2 : inB b 0 ((m.length : Int) - 1) <;> cases g3 : fr.isSome <;> simp_all
    rw [hv] at rb
    refine rb.mono ?_
    rintro e w' ⟨v4, v7, rfl, R4, R7, hne, hxx⟩
    obtain ⟨A4, c4, rfl⟩ := own_form R4
    obtain ⟨A7, c7, rfl⟩ := own_form R7
    exact .inr ⟨A4, c4, A7, c7, _, hx, rfl, hxx⟩
  · have hv' := hv
    simp only [rpOk, Bool.and_eq_true] at hv'
    obtain ⟨⟨hV, hb⟩, hf⟩ := hv'
    obtain ⟨f, rfl⟩ := Option.isSome_iff_exists.1 hf
    obtain ⟨h1, h2, h3, h4, h5, h6, h7, h8⟩ := dv_ok hV
    obtain ⟨nb, hnb, hn32, _, hnt⟩ := szB_nat h4.1 h4.2
    have hx : rpC (okV (okD c h p s L) L.length k r m) m.length b (some f) = 0 := by simp [rpC, hV, hb]
    rw [hv, hx] at rb
    have eL : (rpL true L m b (some f) (zerosB (szB s).toNat)).length = L.length := by simp [rpL]
    have eM : (rpM true m b (some f)).length = m.length := by simp [rpM]
    have okL : ∀ x ∈ rpL true L m b (some f) (zerosB (szB s).toNat), okSector x := by
      intro x hx
      simp only [rpL, if_true] at hx
      rcases List.mem_or_eq_of_mem_set hx with hx | rfl
      · exact hok x hx
      · obtain ⟨hb1, hb2⟩ := inB_yes hb
        have hB : b.toNat < m.length := by omega
        obtain ⟨X, hX, hXl⟩ := map_at h3 hB
        have e1 : L.getD (m.getD b.toNat 0).toNat noSec = L[X] := by
          rw [show m.getD b.toNat 0 = (X : Int) by simp [hB, hX], Int.toNat_natCast, getD_nat L hXl]
        have o1 := hok L[X] (List.getElem_mem hXl)
        have hz : (zerosB (szB s).toNat).size ≤ maxLen := by rw [zerosB_size, hnt]; unfold maxLen; omega
        unfold rpS
        rw [e1]
        refine ⟨?_, (show (-9223372036854775808 : Int) ≤ 1 by decide), (show (1 : Int) ≤ 9223372036854775807 by decide)⟩
        show (if rdB L[X].f1 = true then L[X].f0 else zerosB (szB s).toNat).size ≤ maxLen
        split
        · exact o1.1
        · exact hz
    generalize rpL true L m b (some f) (zerosB (szB s).toNat) = L2 at rb eL okL
    generalize rpM true m b (some f) = M2 at rb eM
    refine rb.mono ?_
    rintro e w' ⟨v4, v7, rfl, R4, R7, hne, hxx⟩
    have hLL : L2.length = L.length := eL
    obtain ⟨bL, cL, rfl, hb0, hb1⟩ := World.ownsRow.form R4 (by omega)
    obtain ⟨bM, cM, rfl, hb2, hb3⟩ := World.ownsRow.form R7 (by omega)
    refine .inl ⟨bL, cL, bM, cM, L2, M2, rfl, R4, R7, ?_, hLL, eM, okL, hxx⟩
    intro e
    subst e
    rcases hne with hne | hne
    · cases hne
    · exact hne rfl
end Go.Proofs.Ytcfeelecfmepaaa
namespace Go.Proofs.Ytcfeelecfmepaaa
set_option linter.unusedVariables false
open Go.RowKit

/-- A device's box, an empty one at the start of the call, and the source. -/
structure D0 (w0 W : World) (f g : Nat) (vs : List Value) (A : Option Addr) (n cc N : Nat) : Prop where
  Z : BX W w0.heap.size 29 [.int .i64 0, .int .i64 0, .int .i64 0, .int .i64 0, .slice none 0 0, .int .i64 0, .int .i64 0, .slice none 0 0]
  F : BX W f 29 vs
  S : SR W g A n cc N
  G : w0.grownBy W (some g)
  hg : g < w0.heap.size
  hf : w0.heap.size < f
structure DX (w0 W : World) (f g : Nat) (c h p s k r : Int) (bL cL : Nat) (L : List DSector) (bM cM : Nat) (M : List Int) (A : Option Addr) (n cc N : Nat) : Prop where
  B : D0 w0 W f g [.int .i64 c, .int .i64 h, .int .i64 p, .int .i64 s, .slice (some ⟨bL, 0, none⟩) L.length cL, .int .i64 k, .int .i64 r, .slice (some ⟨bM, 0, none⟩) M.length cM] A n cc N
  RL : World.ownsRow W (w0.heap.size + 1) 53 2 (.slice (some ⟨bL, 0, none⟩) L.length cL) L.length (flat fSector L)
  RM : World.ownsRow W (w0.heap.size + 1) 2 1 (.slice (some ⟨bM, 0, none⟩) M.length cM) M.length (flat fI M)
  hLf : bL ≠ f
  hMf : bM ≠ f
  hLM : bL ≠ bM
section
variable {w0 W W' : World} {f g bL cL bM cM n cc N N' : Nat} {c h p s k r : Int} {L : List DSector} {M : List Int} {A : Option Addr} {vs : List Value}
theorem D0.grown (X : D0 w0 W f g vs A n cc N) (q : W.grownBy W' (some g)) (S' : SR W' g A n cc N') : D0 w0 W' f g vs A n cc N' :=
  ⟨BX.past X.Z q (Nat.ne_of_gt X.hg), BX.past X.F q (Nat.ne_of_gt (Nat.lt_trans X.hg X.hf)), S', gr_trans X.G q, X.hg, X.hf⟩
theorem D0.al (X : D0 w0 W f g vs A n cc N) (o : Obj) : D0 w0 (W.alloc o) f g vs A n cc N := ⟨X.Z.al o, X.F.al o, X.S.al o, gr_trans X.G (World.grownBy_alloc W o _), X.hg, X.hf⟩
theorem D0.dr (X : D0 w0 W f g vs A n cc N) : D0 w0 W.drew f g vs A n cc N := ⟨X.Z, X.F, X.S, only_drew X.G, X.hg, X.hf⟩
theorem D0.below (X : D0 w0 W f g vs A n cc N) (q : Below W.heap.size W W') : D0 w0 W' f g vs A n cc N := ⟨X.Z.below q X.Z.lt, X.F.below q X.F.lt, X.S.below q X.S.lt, gr_below X.G (q.mono X.G.size), X.hg, X.hf⟩
theorem D0.more (X : D0 w0 W f g vs A n cc N) (q : N ≤ N') : D0 w0 W f g vs A n cc N' := ⟨X.Z, X.F, X.S.more q, X.G, X.hg, X.hf⟩
theorem D0.put (X : D0 w0 W f g vs A n cc N) (j : Nat) (u : Value) : D0 w0 (W.setCell ⟨f, j, none⟩ u) f g (vs.set j u) A n cc N :=
  ⟨X.Z.far (Nat.ne_of_lt X.hf) _, X.F.put j u, X.S.grown (grownBy_set0 W f j u) (fun e => by have := Option.some.inj e; have h1 := X.hf; have h2 := X.hg; omega), only_setCell X.G (.inr (Nat.le_of_lt X.hf)) _, X.hg, X.hf⟩
/-- A store elsewhere, into a block of the call's own. -/
theorem D0.far (X : D0 w0 W f g vs A n cc N) {b : Nat} (hb : w0.heap.size < b) (hbf : b ≠ f) (j : Nat) (u : Value) : D0 w0 (W.setCell ⟨b, j, none⟩ u) f g vs A n cc N :=
  ⟨X.Z.far (by have := hb; simp; omega) _, X.F.far (by simp; omega) _, X.S.grown (grownBy_set0 W b j u) (fun e => by have := Option.some.inj e; have h2 := X.hg; omega), only_setCell X.G (.inr (Nat.le_of_lt hb)) _, X.hg, X.hf⟩
theorem DX.hbL (X : DX w0 W f g c h p s k r bL cL L bM cM M A n cc N) : w0.heap.size < bL := (World.ownsRow.lt X.RL bL rfl).1
theorem DX.hbM (X : DX w0 W f g c h p s k r bL cL L bM cM M A n cc N) : w0.heap.size < bM := (World.ownsRow.lt X.RM bM rfl).1
theorem DX.grown (X : DX w0 W f g c h p s k r bL cL L bM cM M A n cc N) (q : W.grownBy W' (some g)) (S' : SR W' g A n cc N') : DX w0 W' f g c h p s k r bL cL L bM cM M A n cc N' :=
  ⟨X.B.grown q S', OO.past X.RL q (by have := X.hbL; have := X.B.hg; omega), OO.past X.RM q (by have := X.hbM; have := X.B.hg; omega), X.hLf, X.hMf, X.hLM⟩
theorem DX.al (X : DX w0 W f g c h p s k r bL cL L bM cM M A n cc N) (o : Obj) : DX w0 (W.alloc o) f g c h p s k r bL cL L bM cM M A n cc N := ⟨X.B.al o, World.ownsRow.alloc X.RL o, World.ownsRow.alloc X.RM o, X.hLf, X.hMf, X.hLM⟩
theorem DX.dr (X : DX w0 W f g c h p s k r bL cL L bM cM M A n cc N) : DX w0 W.drew f g c h p s k r bL cL L bM cM M A n cc N := ⟨X.B.dr, X.RL, X.RM, X.hLf, X.hMf, X.hLM⟩
theorem DX.below (X : DX w0 W f g c h p s k r bL cL L bM cM M A n cc N) (q : Below W.heap.size W W') : DX w0 W' f g c h p s k r bL cL L bM cM M A n cc N := ⟨X.B.below q, own_later X.RL q (Nat.le_refl _), own_later X.RM q (Nat.le_refl _), X.hLf, X.hMf, X.hLM⟩
theorem DX.more (X : DX w0 W f g c h p s k r bL cL L bM cM M A n cc N) (q : N ≤ N') : DX w0 W f g c h p s k r bL cL L bM cM M A n cc N' := ⟨X.B.more q, X.RL, X.RM, X.hLf, X.hMf, X.hLM⟩
theorem DX.getM (X : DX w0 W f g c h p s k r bL cL L bM cM M A n cc N) (i : Nat) (hi : i < M.length) : W.cell? ⟨bM, i, none⟩ = some (.int .i64 M[i]) := by
  obtain ⟨b', off, e, _, hc⟩ := (Rd.of_own X.RM).at_ (f := fI) (fun _ => rfl) rfl i hi
  cases e
  have hc0 := hc 0 _ (by omega) rfl
  simpa using hc0
theorem DX.setM (X : DX w0 W f g c h p s k r bL cL L bM cM M A n cc N) (i : Nat) (x : Int) : DX w0 (W.setCell ⟨bM, i, none⟩ (.int .i64 x)) f g c h p s k r bL cL L bM cM (M.set i x) A n cc N := by
  have q := World.ownsRow.stored X.RM i (.int .i64 x)
  have hne := X.hLM
  refine ⟨by rw [List.length_set]; exact X.B.far X.hbM X.hMf i _, World.ownsRow.kept X.RL q.2 (.inr (fun e => hne (Option.some.inj e))), by rw [List.length_set, ← flatI_set]; exact q.1, X.hLf, X.hMf, X.hLM⟩
theorem DX.setK (X : DX w0 W f g c h p s k r bL cL L bM cM M A n cc N) (x : Int) : DX w0 (W.setCell ⟨f, 5, none⟩ (.int .i64 x)) f g c h p s x r bL cL L bM cM M A n cc N :=
  ⟨X.B.put 5 _, OO.past X.RL (grownBy_set0 W f 5 _) X.hLf, OO.past X.RM (grownBy_set0 W f 5 _) X.hMf, X.hLf, X.hMf, X.hLM⟩
theorem DX.setR (X : DX w0 W f g c h p s k r bL cL L bM cM M A n cc N) (x : Int) : DX w0 (W.setCell ⟨f, 6, none⟩ (.int .i64 x)) f g c h p s k x bL cL L bM cM M A n cc N :=
  ⟨X.B.put 6 _, OO.past X.RL (grownBy_set0 W f 6 _) X.hLf, OO.past X.RM (grownBy_set0 W f 6 _) X.hMf, X.hLf, X.hMf, X.hLM⟩
/-- The whole device is stored anew. -/
theorem D0.all {v0 v1 v2 v3 v4 v5 v6 v7 : Value} {base : Nat} (X : D0 w0 W f g [v0, v1, v2, v3, v4, v5, v6, v7] A n cc N) (RL : World.ownsRow W base 53 2 (.slice (some ⟨bL, 0, none⟩) L.length cL) L.length (flat fSector L)) (RM : World.ownsRow W base 2 1 (.slice (some ⟨bM, 0, none⟩) M.length cM) M.length (flat fI M)) (hfb : f < base) (hLM : bL ≠ bM) :
    DX w0 ((((((((W.setCell ⟨f, 0, none⟩ (.int .i64 c)).setCell ⟨f, 1, none⟩ (.int .i64 h)).setCell ⟨f, 2, none⟩ (.int .i64 p)).setCell ⟨f, 3, none⟩ (.int .i64 s)).setCell ⟨f, 4, none⟩ (.slice (some ⟨bL, 0, none⟩) L.length cL)).setCell ⟨f, 5, none⟩ (.int .i64 k)).setCell ⟨f, 6, none⟩ (.int .i64 r)).setCell ⟨f, 7, none⟩ (.slice (some ⟨bM, 0, none⟩) M.length cM)) f g c h p s k r bL cL L bM cM M A n cc N := by
  have l1 := (World.ownsRow.lt RL bL rfl).1
  have l2 := (World.ownsRow.lt RM bM rfl).1
  have hf := X.hf
  have n1 : bL ≠ f := by omega
  have n2 : bM ≠ f := by omega
  have p1 : ∀ (W : World) (j : Nat) (u : Value), OO W base 53 2 (.slice (some ⟨bL, 0, none⟩) L.length cL) L.length (flat fSector L) → OO (W.setCell ⟨f, j, none⟩ u) base 53 2 (.slice (some ⟨bL, 0, none⟩) L.length cL) L.length (flat fSector L) := fun W j u q => OO.past q (grownBy_set0 W f j u) n1
  have p2 : ∀ (W : World) (j : Nat) (u : Value), OO W base 2 1 (.slice (some ⟨bM, 0, none⟩) M.length cM) M.length (flat fI M) → OO (W.setCell ⟨f, j, none⟩ u) base 2 1 (.slice (some ⟨bM, 0, none⟩) M.length cM) M.length (flat fI M) := fun W j u q => OO.past q (grownBy_set0 W f j u) n2
  exact ⟨((((((((X.put 0 _).put 1 _).put 2 _).put 3 _).put 4 _).put 5 _).put 6 _).put 7 _), own_base (p1 _ _ _ (p1 _ _ _ (p1 _ _ _ (p1 _ _ _ (p1 _ _ _ (p1 _ _ _ (p1 _ _ _ (p1 _ _ _ RL)))))))) (by omega), own_base (p2 _ _ _ (p2 _ _ _ (p2 _ _ _ (p2 _ _ _ (p2 _ _ _ (p2 _ _ _ (p2 _ _ _ (p2 _ _ _ RM)))))))) (by omega), n1, n2, hLM⟩
theorem set8 {z base bs2 m m2 : Nat} {e e2 : TypeId} {v v2 : Value} {xs ys : List Value} {sz sz2 : Nat} (hz : w0.heap.size ≤ z) (S : SR W g A n cc N) (hg : w0.grownBy W (some g)) (O : OO W base e sz v m xs) (O2 : OO W base e2 sz2 v2 m2 ys) (hzb : z < base) (hgz : z ≠ g) (u0 u1 u2 u3 u4 u5 u6 u7 : Value) :
    World.ownsRow ((((((((W.setCell ⟨z, 0, none⟩ (u0)).setCell ⟨z, 1, none⟩ (u1)).setCell ⟨z, 2, none⟩ (u2)).setCell ⟨z, 3, none⟩ (u3)).setCell ⟨z, 4, none⟩ (u4)).setCell ⟨z, 5, none⟩ (u5)).setCell ⟨z, 6, none⟩ (u6)).setCell ⟨z, 7, none⟩ (u7)) z e sz v m xs ∧ World.ownsRow ((((((((W.setCell ⟨z, 0, none⟩ (u0)).setCell ⟨z, 1, none⟩ (u1)).setCell ⟨z, 2, none⟩ (u2)).setCell ⟨z, 3, none⟩ (u3)).setCell ⟨z, 4, none⟩ (u4)).setCell ⟨z, 5, none⟩ (u5)).setCell ⟨z, 6, none⟩ (u6)).setCell ⟨z, 7, none⟩ (u7)) z e2 sz2 v2 m2 ys ∧ SR ((((((((W.setCell ⟨z, 0, none⟩ (u0)).setCell ⟨z, 1, none⟩ (u1)).setCell ⟨z, 2, none⟩ (u2)).setCell ⟨z, 3, none⟩ (u3)).setCell ⟨z, 4, none⟩ (u4)).setCell ⟨z, 5, none⟩ (u5)).setCell ⟨z, 6, none⟩ (u6)).setCell ⟨z, 7, none⟩ (u7)) g A n cc N ∧ w0.grownBy ((((((((W.setCell ⟨z, 0, none⟩ (u0)).setCell ⟨z, 1, none⟩ (u1)).setCell ⟨z, 2, none⟩ (u2)).setCell ⟨z, 3, none⟩ (u3)).setCell ⟨z, 4, none⟩ (u4)).setCell ⟨z, 5, none⟩ (u5)).setCell ⟨z, 6, none⟩ (u6)).setCell ⟨z, 7, none⟩ (u7)) (some g) := by
  have h1 : ∀ (W : World) (j : Nat) (u : Value), OO W base e sz v m xs → OO (W.setCell ⟨z, j, none⟩ u) base e sz v m xs := fun W j u h => ownsRow_setCell_below h hzb u
  have h1' : ∀ (W : World) (j : Nat) (u : Value), OO W base e2 sz2 v2 m2 ys → OO (W.setCell ⟨z, j, none⟩ u) base e2 sz2 v2 m2 ys := fun W j u h => ownsRow_setCell_below h hzb u
  have h2 : ∀ (W : World) (j : Nat) (u : Value), SR W g A n cc N → SR (W.setCell ⟨z, j, none⟩ u) g A n cc N := fun W j u h => h.grown (grownBy_set0 W z j u) (fun e => hgz (Option.some.inj e))
  have h3 : ∀ (W : World) (j : Nat) (u : Value), w0.grownBy W (some g) → w0.grownBy (W.setCell ⟨z, j, none⟩ u) (some g) := fun W j u h => only_setCell h (.inr hz) u
  exact ⟨own_base (h1 _ _ _ (h1 _ _ _ (h1 _ _ _ (h1 _ _ _ (h1 _ _ _ (h1 _ _ _ (h1 _ _ _ (h1 _ _ _ O)))))))) (Nat.le_of_lt hzb), own_base (h1' _ _ _ (h1' _ _ _ (h1' _ _ _ (h1' _ _ _ (h1' _ _ _ (h1' _ _ _ (h1' _ _ _ (h1' _ _ _ O2)))))))) (Nat.le_of_lt hzb), (h2 _ _ _ (h2 _ _ _ (h2 _ _ _ (h2 _ _ _ (h2 _ _ _ (h2 _ _ _ (h2 _ _ _ (h2 _ _ _ S)))))))), (h3 _ _ _ (h3 _ _ _ (h3 _ _ _ (h3 _ _ _ (h3 _ _ _ (h3 _ _ _ (h3 _ _ _ (h3 _ _ _ hg))))))))⟩
end
end Go.Proofs.Ytcfeelecfmepaaa
namespace Go.Proofs.Ytcfeelecfmepaaa
set_option linter.unusedVariables false
open Go.RowKit

set_option maxHeartbeats 1000000 in
theorem newDevT_any (c h p s : Int) (A : Option Addr) (cp : Nat) (L : List DSector) (k r : Int) (w : World) (hr : Rd w w.heap.size 2 A L.length (flat fSector L)) (hd : okD c h p s L = true) (hok : ∀ x ∈ L, okSector x) (hL0 : 0 < L.length) (hL : L.length ≤ 128) (hk : 0 ≤ k ∧ k ≤ 3) (hr0 : 0 ≤ r ∧ r ≤ 2) :
    Calls Try.prog 30 #[.agg #[.int .i64 c, .int .i64 h, .int .i64 p, .int .i64 s, .slice A L.length cp], .int .i64 k, .int .i64 r] w fun e w' =>
      ∃ (x0 x1 x2 x3 x5 x6 : Int) (A4 : Option Addr) (n4 c4 : Nat) (A7 : Option Addr) (n7 c7 : Nat) (code : Int), e = .returned (.tuple #[.agg #[.int .i64 x0, .int .i64 x1, .int .i64 x2, .int .i64 x3, .slice A4 n4 c4, .int .i64 x5, .int .i64 x6, .slice A7 n7 c7], .int .i64 code]) ∧ Below w.heap.size w w' ∧
        ((code = 0 ∧ x0 = c ∧ x1 = h ∧ x2 = p ∧ x3 = s ∧ x5 = k ∧ x6 = r ∧ ∃ (bL bM : Nat) (M : List Int), A4 = some ⟨bL, 0, none⟩ ∧ n4 = L.length ∧ A7 = some ⟨bM, 0, none⟩ ∧ n7 = M.length ∧ w'.ownsRow w.heap.size 53 2 (.slice (some ⟨bL, 0, none⟩) L.length c4) L.length (flat fSector L) ∧ w'.ownsRow w.heap.size 2 1 (.slice (some ⟨bM, 0, none⟩) M.length c7) M.length (flat fI M) ∧ bL ≠ bM ∧ 0 < M.length ∧ M.length ≤ 128) ∨ (code = 2 ∧ 0 < r)) := by
  refine (newDevS_any c h p s A cp L k r w hr hd hok hL0 hL hk hr0).mono ?_
  rintro e w' (⟨bL, cL, bM, cM, M, rfl, R4, R7, hne, hM0, hM1, hx⟩ | ⟨A4, c4, A7, c7, hr1, rfl, hx⟩)
  · exact ⟨c, h, p, s, k, r, _, _, cL, _, _, cM, 0, rfl, hx, .inl ⟨rfl, rfl, rfl, rfl, rfl, rfl, rfl, bL, bM, M, rfl, rfl, rfl, rfl, R4, R7, hne, hM0, hM1⟩⟩
  · exact ⟨0, 0, 0, 0, 0, 0, A4, 0, c4, A7, 0, c7, 2, rfl, hx, .inr ⟨rfl, hr1⟩⟩
/-- What a call of NewDevice has left. -/
def NC (W : World) (f base : Nat) (c h p s k : Int) (L : List DSector) (x0 x1 x2 x3 x5 : Int) (A4 : Option Addr) (n4 c4 : Nat) (A7 : Option Addr) (n7 c7 : Nat) (code : Int) : Prop :=
  (code = 0 ∧ x0 = c ∧ x1 = h ∧ x2 = p ∧ x3 = s ∧ x5 = k ∧ ∃ (bL bM : Nat) (M : List Int), A4 = some ⟨bL, 0, none⟩ ∧ n4 = L.length ∧ A7 = some ⟨bM, 0, none⟩ ∧ n7 = M.length ∧ W.ownsRow base 53 2 (.slice (some ⟨bL, 0, none⟩) L.length c4) L.length (flat fSector L) ∧ W.ownsRow base 2 1 (.slice (some ⟨bM, 0, none⟩) M.length c7) M.length (flat fI M) ∧ bL ≠ f ∧ bM ≠ f ∧ bL ≠ bM ∧ 0 < M.length ∧ M.length ≤ 128) ∨ code = 2
theorem NC.set {W : World} {f base : Nat} {c h p s k : Int} {L : List DSector} {x0 x1 x2 x3 x5 : Int} {A4 : Option Addr} {n4 c4 : Nat} {A7 : Option Addr} {n7 c7 : Nat} {code : Int} (H : NC W f base c h p s k L x0 x1 x2 x3 x5 A4 n4 c4 A7 n7 c7 code) (j : Nat) (u : Value) : NC (W.setCell ⟨f, j, none⟩ u) f base c h p s k L x0 x1 x2 x3 x5 A4 n4 c4 A7 n7 c7 code := by
  rcases H with ⟨e0, e1, e2, e3, e4, e5, bL, bM, M, a4, b4, a7, b7, R4, R7, l1, l2, l3, l4, l5⟩ | H
  · exact .inl ⟨e0, e1, e2, e3, e4, e5, bL, bM, M, a4, b4, a7, b7, OO.past R4 (grownBy_set0 W f j u) l1, OO.past R7 (grownBy_set0 W f j u) l2, l1, l2, l3, l4, l5⟩
  · exact .inr H
theorem NC.of {w w' : World} {f base : Nat} {c h p s k r : Int} {L : List DSector} {x0 x1 x2 x3 x5 x6 : Int} {A4 : Option Addr} {n4 c4 : Nat} {A7 : Option Addr} {n7 c7 : Nat} {code : Int}
    (H : (code = 0 ∧ x0 = c ∧ x1 = h ∧ x2 = p ∧ x3 = s ∧ x5 = k ∧ x6 = r ∧ ∃ (bL bM : Nat) (M : List Int), A4 = some ⟨bL, 0, none⟩ ∧ n4 = L.length ∧ A7 = some ⟨bM, 0, none⟩ ∧ n7 = M.length ∧ w'.ownsRow w.heap.size 53 2 (.slice (some ⟨bL, 0, none⟩) L.length c4) L.length (flat fSector L) ∧ w'.ownsRow w.heap.size 2 1 (.slice (some ⟨bM, 0, none⟩) M.length c7) M.length (flat fI M) ∧ bL ≠ bM ∧ 0 < M.length ∧ M.length ≤ 128) ∨ (code = 2 ∧ 0 < r))
    (hb : base ≤ w.heap.size) (hf : f < w.heap.size ∨ w'.heap.size ≤ f) : NC w' f base c h p s k L x0 x1 x2 x3 x5 A4 n4 c4 A7 n7 c7 code := by
  rcases H with ⟨e0, e1, e2, e3, e4, e5, e6, bL, bM, M, a4, b4, a7, b7, R4, R7, l3, l4, l5⟩ | H
  · have q1 := World.ownsRow.lt R4 bL rfl
    have q2 := World.ownsRow.lt R7 bM rfl
    exact .inl ⟨e0, e1, e2, e3, e4, e5, bL, bM, M, a4, b4, a7, b7, own_base R4 hb, own_base R7 hb, by omega, by omega, l3, l4, l5⟩
  · exact .inr H.1
theorem NC.al {W : World} {f base : Nat} {c h p s k : Int} {L : List DSector} {x0 x1 x2 x3 x5 : Int} {A4 : Option Addr} {n4 c4 : Nat} {A7 : Option Addr} {n7 c7 : Nat} {code : Int} (H : NC W f base c h p s k L x0 x1 x2 x3 x5 A4 n4 c4 A7 n7 c7 code) (o : Obj) : NC (W.alloc o) f base c h p s k L x0 x1 x2 x3 x5 A4 n4 c4 A7 n7 c7 code := by
  rcases H with ⟨e0, e1, e2, e3, e4, e5, bL, bM, M, a4, b4, a7, b7, R4, R7, l1, l2, l3, l4, l5⟩ | H
  · exact .inl ⟨e0, e1, e2, e3, e4, e5, bL, bM, M, a4, b4, a7, b7, World.ownsRow.alloc R4 o, World.ownsRow.alloc R7 o, l1, l2, l3, l4, l5⟩
  · exact .inr H

theorem fin8 {w0 W : World} {f g D b n cc N base : Nat} {A : Option Addr} {td : TypeId} {ds : List Value} {L0 : List DSector} {vc : Nat} {c h p s k : Int} {L : List DSector} {x0 x1 x2 x3 x5 x6 : Int} {A4 : Option Addr} {n4 c4 : Nat} {A7 : Option Addr} {n7 c7 : Nat} {code : Int}
    (B5 : D0 w0 W f g [.int .i64 0, .int .i64 0, .int .i64 0, .int .i64 0, .slice none 0 0, .int .i64 0, .int .i64 0, .slice none 0 0] A n cc N) (FD : BX W D td ds) (O : World.ownsRow W base 53 2 (.slice (some ⟨b, 0, none⟩) L0.length vc) L0.length (flat fSector L0)) (H : NC W f base c h p s k L x0 x1 x2 x3 x5 A4 n4 c4 A7 n7 c7 code) (hD : D ≠ f) (hb : b ≠ f) :
    BX ((((((((W.setCell ⟨f, 0, none⟩ (.int .i64 x0)).setCell ⟨f, 1, none⟩ (.int .i64 x1)).setCell ⟨f, 2, none⟩ (.int .i64 x2)).setCell ⟨f, 3, none⟩ (.int .i64 x3)).setCell ⟨f, 4, none⟩ (.slice A4 n4 c4)).setCell ⟨f, 5, none⟩ (.int .i64 x5)).setCell ⟨f, 6, none⟩ (.int .i64 x6)).setCell ⟨f, 7, none⟩ (.slice A7 n7 c7)) D td ds ∧ World.ownsRow ((((((((W.setCell ⟨f, 0, none⟩ (.int .i64 x0)).setCell ⟨f, 1, none⟩ (.int .i64 x1)).setCell ⟨f, 2, none⟩ (.int .i64 x2)).setCell ⟨f, 3, none⟩ (.int .i64 x3)).setCell ⟨f, 4, none⟩ (.slice A4 n4 c4)).setCell ⟨f, 5, none⟩ (.int .i64 x5)).setCell ⟨f, 6, none⟩ (.int .i64 x6)).setCell ⟨f, 7, none⟩ (.slice A7 n7 c7)) base 53 2 (.slice (some ⟨b, 0, none⟩) L0.length vc) L0.length (flat fSector L0) ∧ D0 w0 ((((((((W.setCell ⟨f, 0, none⟩ (.int .i64 x0)).setCell ⟨f, 1, none⟩ (.int .i64 x1)).setCell ⟨f, 2, none⟩ (.int .i64 x2)).setCell ⟨f, 3, none⟩ (.int .i64 x3)).setCell ⟨f, 4, none⟩ (.slice A4 n4 c4)).setCell ⟨f, 5, none⟩ (.int .i64 x5)).setCell ⟨f, 6, none⟩ (.int .i64 x6)).setCell ⟨f, 7, none⟩ (.slice A7 n7 c7)) f g [.int .i64 x0, .int .i64 x1, .int .i64 x2, .int .i64 x3, .slice A4 n4 c4, .int .i64 x5, .int .i64 x6, .slice A7 n7 c7] A n cc N ∧ NC ((((((((W.setCell ⟨f, 0, none⟩ (.int .i64 x0)).setCell ⟨f, 1, none⟩ (.int .i64 x1)).setCell ⟨f, 2, none⟩ (.int .i64 x2)).setCell ⟨f, 3, none⟩ (.int .i64 x3)).setCell ⟨f, 4, none⟩ (.slice A4 n4 c4)).setCell ⟨f, 5, none⟩ (.int .i64 x5)).setCell ⟨f, 6, none⟩ (.int .i64 x6)).setCell ⟨f, 7, none⟩ (.slice A7 n7 c7)) f base c h p s k L x0 x1 x2 x3 x5 A4 n4 c4 A7 n7 c7 code := by
  have p1 : ∀ (W : World) (j : Nat) (u : Value), BX W D td ds → BX (W.setCell ⟨f, j, none⟩ u) D td ds := fun W j u q => q.far hD u
  have p2 : ∀ (W : World) (j : Nat) (u : Value), OO W base 53 2 (.slice (some ⟨b, 0, none⟩) L0.length vc) L0.length (flat fSector L0) → OO (W.setCell ⟨f, j, none⟩ u) base 53 2 (.slice (some ⟨b, 0, none⟩) L0.length vc) L0.length (flat fSector L0) := fun W j u q => OO.past q (grownBy_set0 W f j u) hb
  exact ⟨(p1 _ _ _ (p1 _ _ _ (p1 _ _ _ (p1 _ _ _ (p1 _ _ _ (p1 _ _ _ (p1 _ _ _ (p1 _ _ _ FD)))))))), (p2 _ _ _ (p2 _ _ _ (p2 _ _ _ (p2 _ _ _ (p2 _ _ _ (p2 _ _ _ (p2 _ _ _ (p2 _ _ _ O)))))))), ((((((((B5.put 0 _).put 1 _).put 2 _).put 3 _).put 4 _).put 5 _).put 6 _).put 7 _), ((((((((H.set 0 _).set 1 _).set 2 _).set 3 _).set 4 _).set 5 _).set 6 _).set 7 _)⟩

theorem own_capR {W : World} {base : Nat} {e : TypeId} {sz b n cap : Nat} {xs : List Value} (O : World.ownsRow W base e sz (.slice (some ⟨b, 0, none⟩) n cap) n xs) : n ≤ cap := by
  obtain ⟨_, (⟨q, _⟩ | ⟨g, cap', cur, q, _, _, hc, _⟩)⟩ := O
  · cases q
  · cases q; exact hc
/-- What a call of ReplaceBlock has left. -/
def RC (W : World) (f base : Nat) (c h p s k r : Int) (nL nM : Nat) (x0 x1 x2 x3 x5 x6 : Int) (A4 : Option Addr) (n4 c4 : Nat) (A7 : Option Addr) (n7 c7 : Nat) (code : Int) : Prop :=
  (code = 0 ∧ x0 = c ∧ x1 = h ∧ x2 = p ∧ x3 = s ∧ x5 = k ∧ x6 = r ∧ ∃ (bL bM : Nat) (L : List DSector) (M : List Int), A4 = some ⟨bL, 0, none⟩ ∧ n4 = L.length ∧ A7 = some ⟨bM, 0, none⟩ ∧ n7 = M.length ∧ W.ownsRow base 53 2 (.slice (some ⟨bL, 0, none⟩) L.length c4) L.length (flat fSector L) ∧ W.ownsRow base 2 1 (.slice (some ⟨bM, 0, none⟩) M.length c7) M.length (flat fI M) ∧ bL ≠ f ∧ bM ≠ f ∧ bL ≠ bM ∧ L.length = nL ∧ M.length = nM ∧ ∀ x ∈ L, okSector x) ∨ code ≠ 0
section
variable {W w w' : World} {f base : Nat} {c h p s k r : Int} {nL nM : Nat} {x0 x1 x2 x3 x5 x6 : Int} {A4 : Option Addr} {n4 c4 : Nat} {A7 : Option Addr} {n7 c7 : Nat} {code : Int}
theorem RC.set (H : RC W f base c h p s k r nL nM x0 x1 x2 x3 x5 x6 A4 n4 c4 A7 n7 c7 code) (j : Nat) (u : Value) : RC (W.setCell ⟨f, j, none⟩ u) f base c h p s k r nL nM x0 x1 x2 x3 x5 x6 A4 n4 c4 A7 n7 c7 code := by
  rcases H with ⟨e0, e1, e2, e3, e4, e5, e6, bL, bM, L, M, a4, b4, a7, b7, R4, R7, l1, l2, l3, l4, l5, l6⟩ | H
  · exact .inl ⟨e0, e1, e2, e3, e4, e5, e6, bL, bM, L, M, a4, b4, a7, b7, OO.past R4 (grownBy_set0 W f j u) l1, OO.past R7 (grownBy_set0 W f j u) l2, l1, l2, l3, l4, l5, l6⟩
  · exact .inr H
theorem RC.al (H : RC W f base c h p s k r nL nM x0 x1 x2 x3 x5 x6 A4 n4 c4 A7 n7 c7 code) (o : Obj) : RC (W.alloc o) f base c h p s k r nL nM x0 x1 x2 x3 x5 x6 A4 n4 c4 A7 n7 c7 code := by
  rcases H with ⟨e0, e1, e2, e3, e4, e5, e6, bL, bM, L, M, a4, b4, a7, b7, R4, R7, l1, l2, l3, l4, l5, l6⟩ | H
  · exact .inl ⟨e0, e1, e2, e3, e4, e5, e6, bL, bM, L, M, a4, b4, a7, b7, World.ownsRow.alloc R4 o, World.ownsRow.alloc R7 o, l1, l2, l3, l4, l5, l6⟩
  · exact .inr H
theorem RC.all8 {t : Nat} (H : RC W t base c h p s k r nL nM x0 x1 x2 x3 x5 x6 A4 n4 c4 A7 n7 c7 code) (u0 u1 u2 u3 u4 u5 u6 u7 : Value) : RC ((((((((W.setCell ⟨t, 0, none⟩ (u0)).setCell ⟨t, 1, none⟩ (u1)).setCell ⟨t, 2, none⟩ (u2)).setCell ⟨t, 3, none⟩ (u3)).setCell ⟨t, 4, none⟩ (u4)).setCell ⟨t, 5, none⟩ (u5)).setCell ⟨t, 6, none⟩ (u6)).setCell ⟨t, 7, none⟩ (u7)) t base c h p s k r nL nM x0 x1 x2 x3 x5 x6 A4 n4 c4 A7 n7 c7 code := ((((((((H.set 0 _).set 1 _).set 2 _).set 3 _).set 4 _).set 5 _).set 6 _).set 7 _)
end
/-- A box elsewhere, made by the call. -/
theorem DX.box {w0 W : World} {f g t bL cL bM cM n cc N : Nat} {c h p s k r : Int} {L : List DSector} {M : List Int} {A : Option Addr} {td : TypeId} {vs : List Value} (X : DX w0 W f g c h p s k r bL cL L bM cM M A n cc N) (T : BX W t td vs) (ht : w0.heap.size < t) (h1 : t ≠ f) (h2 : t ≠ bL) (h3 : t ≠ bM) (u0 u1 u2 u3 u4 u5 u6 u7 : Value) :
    DX w0 ((((((((W.setCell ⟨t, 0, none⟩ (u0)).setCell ⟨t, 1, none⟩ (u1)).setCell ⟨t, 2, none⟩ (u2)).setCell ⟨t, 3, none⟩ (u3)).setCell ⟨t, 4, none⟩ (u4)).setCell ⟨t, 5, none⟩ (u5)).setCell ⟨t, 6, none⟩ (u6)).setCell ⟨t, 7, none⟩ (u7)) f g c h p s k r bL cL L bM cM M A n cc N ∧ BX ((((((((W.setCell ⟨t, 0, none⟩ (u0)).setCell ⟨t, 1, none⟩ (u1)).setCell ⟨t, 2, none⟩ (u2)).setCell ⟨t, 3, none⟩ (u3)).setCell ⟨t, 4, none⟩ (u4)).setCell ⟨t, 5, none⟩ (u5)).setCell ⟨t, 6, none⟩ (u6)).setCell ⟨t, 7, none⟩ (u7)) t td ((((((((vs.set 0 u0).set 1 u1).set 2 u2).set 3 u3).set 4 u4).set 5 u5).set 6 u6).set 7 u7) := by
  have p1 : ∀ (W : World) (j : Nat) (u : Value), DX w0 W f g c h p s k r bL cL L bM cM M A n cc N → DX w0 (W.setCell ⟨t, j, none⟩ u) f g c h p s k r bL cL L bM cM M A n cc N := fun W j u q => ⟨q.B.far ht h1 j u, OO.past q.RL (grownBy_set0 W t j u) (Ne.symm h2), OO.past q.RM (grownBy_set0 W t j u) (Ne.symm h3), q.hLf, q.hMf, q.hLM⟩
  exact ⟨(p1 _ _ _ (p1 _ _ _ (p1 _ _ _ (p1 _ _ _ (p1 _ _ _ (p1 _ _ _ (p1 _ _ _ (p1 _ _ _ X)))))))), ((((((((T.put 0 _).put 1 _).put 2 _).put 3 _).put 4 _).put 5 _).put 6 _).put 7 _)⟩
/-- The disc of a device is stored anew. -/
theorem DX.disc {w0 W : World} {f g bL cL bM cM n cc N b' c9 base : Nat} {c h p s k r c' h' p' s' : Int} {L L' : List DSector} {M : List Int} {A : Option Addr} (X : DX w0 W f g c h p s k r bL cL L bM cM M A n cc N)
    (R : World.ownsRow W base 53 2 (.slice (some ⟨b', 0, none⟩) L'.length c9) L'.length (flat fSector L')) (hfb : f < base) (hMb : bM < base) :
    DX w0 (((((W.setCell ⟨f, 0, none⟩ (.int .i64 c')).setCell ⟨f, 1, none⟩ (.int .i64 h')).setCell ⟨f, 2, none⟩ (.int .i64 p')).setCell ⟨f, 3, none⟩ (.int .i64 s')).setCell ⟨f, 4, none⟩ ((.slice (some ⟨b', 0, none⟩) L'.length c9))) f g c' h' p' s' k r b' c9 L' bM cM M A n cc N := by
  have l1 := (World.ownsRow.lt R b' rfl).1
  have hf := X.B.hf
  have n1 : b' ≠ f := by omega
  have p1 : ∀ (W : World) (j : Nat) (u : Value), OO W base 53 2 (.slice (some ⟨b', 0, none⟩) L'.length c9) L'.length (flat fSector L') → OO (W.setCell ⟨f, j, none⟩ u) base 53 2 (.slice (some ⟨b', 0, none⟩) L'.length c9) L'.length (flat fSector L') := fun W j u q => OO.past q (grownBy_set0 W f j u) n1
  have p2 : ∀ (W : World) (j : Nat) (u : Value), OO W (w0.heap.size + 1) 2 1 (.slice (some ⟨bM, 0, none⟩) M.length cM) M.length (flat fI M) → OO (W.setCell ⟨f, j, none⟩ u) (w0.heap.size + 1) 2 1 (.slice (some ⟨bM, 0, none⟩) M.length cM) M.length (flat fI M) := fun W j u q => OO.past q (grownBy_set0 W f j u) X.hMf
  exact ⟨(((((X.B.put 0 _).put 1 _).put 2 _).put 3 _).put 4 _), own_base (p1 _ _ _ (p1 _ _ _ (p1 _ _ _ (p1 _ _ _ (p1 _ _ _ R))))) (by omega), p2 _ _ _ (p2 _ _ _ (p2 _ _ _ (p2 _ _ _ (p2 _ _ _ X.RM)))), n1, X.hMf, by omega⟩
/-- The map of a device has grown. -/
theorem DX.newM {w0 W W' : World} {f g bL cL bM cM n cc N b9 c9 : Nat} {c h p s k r : Int} {L : List DSector} {M M' : List Int} {A : Option Addr} (X : DX w0 W f g c h p s k r bL cL L bM cM M A n cc N)
    (q : W.grownBy W' (some bM)) (R : World.ownsRow W' (w0.heap.size + 1) 2 1 (.slice (some ⟨b9, 0, none⟩) M'.length c9) M'.length (flat fI M')) (hb9 : b9 = bM ∨ W.heap.size ≤ b9) :
    D0 w0 W' f g [.int .i64 c, .int .i64 h, .int .i64 p, .int .i64 s, .slice (some ⟨bL, 0, none⟩) L.length cL, .int .i64 k, .int .i64 r, .slice (some ⟨bM, 0, none⟩) M.length cM] A n cc N ∧ DX w0 (W'.setCell ⟨f, 7, none⟩ (.slice (some ⟨b9, 0, none⟩) M'.length c9)) f g c h p s k r bL cL L b9 c9 M' A n cc N := by
  have h1 := X.B.F.lt
  have h2 := (World.ownsRow.lt X.RL bL rfl).2
  have h3 := X.hbM
  have h4 := X.B.hg
  have h5 := X.hMf
  have h6 := X.hLM
  have n1 : b9 ≠ f := by omega
  have n2 : bL ≠ b9 := by omega
  have X' : D0 w0 W' f g [.int .i64 c, .int .i64 h, .int .i64 p, .int .i64 s, .slice (some ⟨bL, 0, none⟩) L.length cL, .int .i64 k, .int .i64 r, .slice (some ⟨bM, 0, none⟩) M.length cM] A n cc N := ⟨BX.past X.B.Z q (by omega), BX.past X.B.F q (by omega), X.B.S.grown q (fun e => by have := Option.some.inj e; omega), gr_own X.B.G q (fun j e => by have := Option.some.inj e; omega), X.B.hg, X.B.hf⟩
  exact ⟨X', X'.put 7 _, OO.past (OO.past X.RL q h6) (grownBy_set0 W' f 7 _) X.hLf, OO.past R (grownBy_set0 W' f 7 _) n1, X.hLf, n1, n2⟩
theorem replT_any (c h p s : Int) (A : Option Addr) (cp : Nat) (L : List DSector) (k r : Int) (N : Option Addr) (q : Nat) (m : List Int) (b : Int) (w : World) (hr : Rd w w.heap.size 2 A L.length (flat fSector L)) (hL0 : 0 < L.length) (hL : L.length ≤ 200) (hok : ∀ x ∈ L, okSector x) (kr : Rd w w.heap.size 1 N m.length (flat fI m)) (hm0 : 0 < m.length) (hm : m.length ≤ 200) (hqc : m.length ≤ q) :
    Calls Try.prog 31 #[.agg #[.int .i64 c, .int .i64 h, .int .i64 p, .int .i64 s, .slice A L.length cp, .int .i64 k, .int .i64 r, .slice N m.length q], .int .i64 b] w fun e w' =>
      ∃ (x0 x1 x2 x3 x5 x6 : Int) (A4 : Option Addr) (n4 c4 : Nat) (A7 : Option Addr) (n7 c7 : Nat) (code : Int), e = .returned (.tuple #[.agg #[.int .i64 x0, .int .i64 x1, .int .i64 x2, .int .i64 x3, .slice A4 n4 c4, .int .i64 x5, .int .i64 x6, .slice A7 n7 c7], .int .i64 code]) ∧ Below w.heap.size w w' ∧ ∀ (f base : Nat), base ≤ w.heap.size → (f < w.heap.size ∨ w'.heap.size ≤ f) → RC w' f base c h p s k r L.length m.length x0 x1 x2 x3 x5 x6 A4 n4 c4 A7 n7 c7 code := by
  refine (replS_any c h p s A cp L k r N q m b w hr hL0 hL hok kr hm0 hm hqc).mono ?_
  rintro e w' (⟨bL, cL, bM, cM, L2, M2, rfl, R4, R7, hne, hl, hm2, hok2, hx⟩ | ⟨A4, c4, A7, c7, x, hx0, rfl, hx⟩)
  · have q1 := World.ownsRow.lt R4 bL rfl
    have q2 := World.ownsRow.lt R7 bM rfl
    exact ⟨c, h, p, s, k, r, _, _, cL, _, _, cM, 0, rfl, hx, fun f base hb hf => .inl ⟨rfl, rfl, rfl, rfl, rfl, rfl, rfl, bL, bM, L2, M2, rfl, rfl, rfl, rfl, own_base R4 hb, own_base R7 hb, by omega, by omega, hne, hl, hm2, hok2⟩⟩
  · exact ⟨0, 0, 0, 0, 0, 0, A4, 0, c4, A7, 0, c7, x, rfl, hx, fun f base _ _ => .inr hx0⟩

set_option maxRecDepth 100000 in
set_option maxHeartbeats 8000000 in
theorem l15Draw_any (g n cc N B : Nat) (A : Option Addr) (l : List UInt8) (w : World) (S : SR w g A n cc N) (hn : l.length = n) (hr : Rd w B 1 A n (flat fU l)) (hBg : B ≤ g) (hB : B ≤ w.heap.size) (hN : N ≤ 500000000) (hn2 : n ≤ maxLen) :
    Calls Try.prog 14 #[.pointer (some ⟨g, 0, none⟩), .int .i64 9] w fun e w' => ∃ (c h p s k r : Int) (L : List DSector) (M : List Int) (A4 : Option Addr) (c4 : Nat) (A7 : Option Addr) (c7 : Nat), e = .returned (.agg #[.int .i64 c, .int .i64 h, .int .i64 p, .int .i64 s, .slice A4 L.length c4, .int .i64 k, .int .i64 r, .slice A7 M.length c7]) ∧ w'.ownsRow w.heap.size 53 2 (.slice A4 L.length c4) L.length (flat fSector L) ∧ w'.ownsRow w.heap.size 2 1 (.slice A7 M.length c7) M.length (flat fI M) ∧ L.length ≤ 200 ∧ M.length ≤ 200 ∧ (∀ x ∈ L, okSector x) ∧ SR w' g A n cc (N + 50000) ∧ w.grownBy w' (some g) := by
  have hgl := S.lt
  have Z0 := BX.made w 29 [.int .i64 0, .int .i64 0, .int .i64 0, .int .i64 0, .slice none 0 0, .int .i64 0, .int .i64 0, .slice none 0 0]
  have S0 := S.al (.cells #[.int .i64 0, .int .i64 0, .int .i64 0, .int .i64 0, .slice none 0 0, .int .i64 0, .int .i64 0, .slice none 0 0] 29)
  have hg0 : w.grownBy (w.alloc (.cells #[.int .i64 0, .int .i64 0, .int .i64 0, .int .i64 0, .slice none 0 0, .int .i64 0, .int .i64 0, .slice none 0 0] 29)) (some g) := World.grownBy_alloc w _ _
  have ds := drawSmallV_any g n cc N B A l (w.alloc (.cells #[.int .i64 0, .int .i64 0, .int .i64 0, .int .i64 0, .slice none 0 0, .int .i64 0, .int .i64 0, .slice none 0 0] 29)) S0 hn (hr.alloc hB _) hBg (by rw [World.size_alloc]; omega) (by omega) hn2
  go_enter Try.func14, Try.ntmps14
  go_upto_region 3 with (first
    | (go_at_call 19; have pk := pick_any 4 g n cc _ B A l _ S2 hn (grown_rd hr G2 hBg hB) hBg (Nat.le_trans hB G2.size) (by omega) hn2 (by decide); (with_reducible refine pk.mono ?_); rintro e w3 ⟨k, rfl, k0, k1, S3, hg3⟩; have Z3 := BX.past Z2 hg3 (Nat.ne_of_gt hgl); have FD3 := BX.past FD hg3 (by omega); have O3 := OO.past O2 hg3 (by omega); have G3 := gr_trans G2 hg3; have hw3 : w1.heap.size + 1 ≤ w3.heap.size := (by have := hg3.size; rw [World.size_alloc] at this; exact this))
    | (go_at_call 29; (with_reducible refine ds.mono ?_); rintro e w1 ⟨c, h, p, s, L, v, rfl, hc, hh, hp, hs, O1, hLn, hLok, S1, hg1⟩; obtain ⟨hgeo, hd, hL0, hL1⟩ := okD_small hc hh hp hs hLn hLok; clear hLn; obtain ⟨b, vc, rfl, hb0, hb1⟩ := World.ownsRow.form O1 hL0; rw [World.size_alloc] at hb0; have Z1 := BX.past Z0 hg1 (Nat.ne_of_gt hgl); have hgw1 := S1.lt; have hw1 : w.heap.size + 1 ≤ w1.heap.size := (by have := hg1.size; rw [World.size_alloc] at this; exact this); have FD := BX.made w1 26 [.int .i64 c, .int .i64 h, .int .i64 p, .int .i64 s, .slice (some ⟨b, 0, none⟩) L.length vc]; have O2 := OO.al O1 (.cells #[.int .i64 c, .int .i64 h, .int .i64 p, .int .i64 s, .slice (some ⟨b, 0, none⟩) L.length vc] 26); have Z2 := Z1.al (.cells #[.int .i64 c, .int .i64 h, .int .i64 p, .int .i64 s, .slice (some ⟨b, 0, none⟩) L.length vc] 26); have S2 := S1.al (.cells #[.int .i64 c, .int .i64 h, .int .i64 p, .int .i64 s, .slice (some ⟨b, 0, none⟩) L.length vc] 26); have G2 := gr_trans (gr_trans hg0 hg1) (World.grownBy_alloc w1 (.cells #[.int .i64 c, .int .i64 h, .int .i64 p, .int .i64 s, .slice (some ⟨b, 0, none⟩) L.length vc] 26) _)))
  clear ds Z0 S0 hg0 Z1 S1 hg1 FD O2 O1 Z2 S2 G2 hg3
  have hok : ∀ x ∈ L, okSector x := fun x hx => by
    have := (hLok x hx).1
    exact ⟨by unfold maxLen; omega, by omega, by omega⟩
  generalize w1.heap.size = D at FD3 hw1 hw3 hgw1 hb1 ⊢
  have O3' := own_base (base' := w.heap.size + 1) O3 (by rw [World.size_alloc]; exact Nat.le_refl _)
  clear O3
  have hk3 : 0 ≤ k ∧ k ≤ 3 := by omega
  clear k0 k1 hLok
  have hOz := Lib.hid (show w.heap.size < w3.heap.size by omega)
  go_cut [7, 8] (fun pv cv wx => ∃ (f : Nat) (x0 x1 x2 x3 x5 x6 : Int) (A4 : Option Addr) (n4 c4 : Nat) (A7 : Option Addr) (n7 c7 : Nat) (code : Int), pv = .pointer (some ⟨f, 0, none⟩) ∧ cv = .int .i64 code ∧ BX wx D 26 [.int .i64 c, .int .i64 h, .int .i64 p, .int .i64 s, .slice (some ⟨b, 0, none⟩) L.length vc] ∧ World.ownsRow wx (w.heap.size + 1) 53 2 (.slice (some ⟨b, 0, none⟩) L.length vc) L.length (flat fSector L) ∧ D ≠ f ∧ b ≠ f ∧ D0 w wx f g [.int .i64 x0, .int .i64 x1, .int .i64 x2, .int .i64 x3, .slice A4 n4 c4, .int .i64 x5, .int .i64 x6, .slice A7 n7 c7] A n cc (N + 20010) ∧ NC wx f (w.heap.size + 1) c h p s k L x0 x1 x2 x3 x5 A4 n4 c4 A7 n7 c7 code)
  case first =>
    have hz3 : w.heap.size < w3.heap.size := hOz.out
    have hb3 : b < w3.heap.size := (World.ownsRow.lt O3' b rfl).2
    have hb0' : w.heap.size < b := hb0
    have hD3 : D < w3.heap.size := FD3.lt
    have hDg : D ≠ g := by omega
    have hbg : b ≠ g := by omega
    have d0 : (World.drew w3).cell? _ = some (.int .i64 c) := FD3.cell 0 (by simp)
    have e0 := fun (o : Obj) => (show (World.drew (w3.alloc o)).cell? _ = some (.int .i64 c) from (FD3.al o).cell 0 (by simp))
    have d1 : (World.drew w3).cell? _ = some (.int .i64 h) := FD3.cell 1 (by simp)
    have e1 := fun (o : Obj) => (show (World.drew (w3.alloc o)).cell? _ = some (.int .i64 h) from (FD3.al o).cell 1 (by simp))
    have d2 : (World.drew w3).cell? _ = some (.int .i64 p) := FD3.cell 2 (by simp)
    have e2 := fun (o : Obj) => (show (World.drew (w3.alloc o)).cell? _ = some (.int .i64 p) from (FD3.al o).cell 2 (by simp))
    have d3 : (World.drew w3).cell? _ = some (.int .i64 s) := FD3.cell 3 (by simp)
    have e3 := fun (o : Obj) => (show (World.drew (w3.alloc o)).cell? _ = some (.int .i64 s) from (FD3.al o).cell 3 (by simp))
    have d4 : (World.drew w3).cell? _ = some (.slice (some ⟨b, 0, none⟩) L.length vc) := FD3.cell 4 (by simp)
    have e4 := fun (o : Obj) => (show (World.drew (w3.alloc o)).cell? _ = some (.slice (some ⟨b, 0, none⟩) L.length vc) from (FD3.al o).cell 4 (by simp))
    have B3 : D0 w (w3.alloc (.cells #[.int .i64 0, .int .i64 0, .int .i64 0, .int .i64 0, .slice none 0 0, .int .i64 0, .int .i64 0, .slice none 0 0] 29)) w3.heap.size g [.int .i64 0, .int .i64 0, .int .i64 0, .int .i64 0, .slice none 0 0, .int .i64 0, .int .i64 0, .slice none 0 0] A n cc (N + 20002) := ⟨Z3.al _, BX.made w3 29 [.int .i64 0, .int .i64 0, .int .i64 0, .int .i64 0, .slice none 0 0, .int .i64 0, .int .i64 0, .slice none 0 0], (S3.more (by omega)).al _, gr_trans G3 (World.grownBy_alloc w3 _ _), hgl, hOz.out⟩
    have pkA := pick_any 3 g n cc _ B A l (World.drew w3) S3.dr hn (grown_rd hr (only_drew G3) hBg hB) hBg (Nat.le_trans hB (only_drew G3).size) (by omega) hn2 (by decide)
    have pkB := pick_any 3 g n cc _ B A l (World.drew (w3.alloc (.cells #[.int .i64 0, .int .i64 0, .int .i64 0, .int .i64 0, .slice none 0 0, .int .i64 0, .int .i64 0, .slice none 0 0] 29))) B3.dr.S hn (grown_rd hr B3.dr.G hBg hB) hBg (Nat.le_trans hB B3.dr.G.size) (by omega) hn2 (by decide)
    go_region_law (go_simp; first
      | (go_at_call 30; have := m1; have nd := newDevT_any c h p s _ vc L k r w4 (Rd.of_own O4) hd hok hL0 hL1 hk3 ⟨r0, (by omega)⟩; (with_reducible refine nd.mono ?_); rintro e w5 ⟨x0, x1, x2, x3, x5, x6, A4, n4, c4, A7, n7, c7, code, rfl, hx, H⟩; have B5 : D0 w (w5.alloc (.cells #[.int .i64 x0, .int .i64 x1, .int .i64 x2, .int .i64 x3, .slice A4 n4 c4, .int .i64 x5, .int .i64 x6, .slice A7 n7 c7] 29)) w5.heap.size g [.int .i64 x0, .int .i64 x1, .int .i64 x2, .int .i64 x3, .slice A4 n4 c4, .int .i64 x5, .int .i64 x6, .slice A7 n7 c7] A n cc (N + 20004) := ⟨(Z4.below hx Z4.lt).al _, BX.made w5 29 [.int .i64 x0, .int .i64 x1, .int .i64 x2, .int .i64 x3, .slice A4 n4 c4, .int .i64 x5, .int .i64 x6, .slice A7 n7 c7], ((S4.below hx S4.lt).more (by omega)).al _, gr_trans (gr_below G4 (hx.mono G4.size)) (World.grownBy_alloc w5 _ _), hgl, (by have := hx.size; omega)⟩; have FD5 := (FD4.below hx FD4.lt).al (.cells #[.int .i64 x0, .int .i64 x1, .int .i64 x2, .int .i64 x3, .slice A4 n4 c4, .int .i64 x5, .int .i64 x6, .slice A7 n7 c7] 29); have O5 := World.ownsRow.alloc (own_later O4 hx (Nat.le_refl _)) (.cells #[.int .i64 x0, .int .i64 x1, .int .i64 x2, .int .i64 x3, .slice A4 n4 c4, .int .i64 x5, .int .i64 x6, .slice A7 n7 c7] 29); have H5 := (NC.of (f := w5.heap.size) (base := w.heap.size + 1) H (by omega) (.inr (Nat.le_refl _))).al (.cells #[.int .i64 x0, .int .i64 x1, .int .i64 x2, .int .i64 x3, .slice A4 n4 c4, .int .i64 x5, .int .i64 x6, .slice A7 n7 c7] 29); have hfl : w4.heap.size ≤ w5.heap.size := hx.size; have hfl3 : w3.heap.size ≤ w5.heap.size := (by omega); clear nd; have n1 := True.intro)
      | (go_at_call 30; have := m1; have B4 : D0 w (w4.alloc (.cells #[.int .i64 0, .int .i64 0, .int .i64 0, .int .i64 0, .slice none 0 0, .int .i64 0, .int .i64 0, .slice none 0 0] 29)) w4.heap.size g [.int .i64 0, .int .i64 0, .int .i64 0, .int .i64 0, .slice none 0 0, .int .i64 0, .int .i64 0, .slice none 0 0] A n cc (N + 20004) := ⟨Z4.al _, BX.made w4 29 [.int .i64 0, .int .i64 0, .int .i64 0, .int .i64 0, .slice none 0 0, .int .i64 0, .int .i64 0, .slice none 0 0], (S4.more (by omega)).al _, gr_trans G4 (World.grownBy_alloc w4 _ _), hgl, (by omega)⟩; have nd := newDevT_any c h p s _ vc L k r (w4.alloc (.cells #[.int .i64 0, .int .i64 0, .int .i64 0, .int .i64 0, .slice none 0 0, .int .i64 0, .int .i64 0, .slice none 0 0] 29)) (Rd.of_own (World.ownsRow.alloc O4 (.cells #[.int .i64 0, .int .i64 0, .int .i64 0, .int .i64 0, .slice none 0 0, .int .i64 0, .int .i64 0, .slice none 0 0] 29))) hd hok hL0 hL1 hk3 ⟨r0, (by omega)⟩; (with_reducible refine nd.mono ?_); rintro e w5 ⟨x0, x1, x2, x3, x5, x6, A4, n4, c4, A7, n7, c7, code, rfl, hx, H⟩; have B5 := B4.below hx; have FD5 := (FD4.al (.cells #[.int .i64 0, .int .i64 0, .int .i64 0, .int .i64 0, .slice none 0 0, .int .i64 0, .int .i64 0, .slice none 0 0] 29)).below hx (FD4.al (.cells #[.int .i64 0, .int .i64 0, .int .i64 0, .int .i64 0, .slice none 0 0, .int .i64 0, .int .i64 0, .slice none 0 0] 29)).lt; have O5 := own_later (World.ownsRow.alloc O4 (.cells #[.int .i64 0, .int .i64 0, .int .i64 0, .int .i64 0, .slice none 0 0, .int .i64 0, .int .i64 0, .slice none 0 0] 29)) hx (Nat.le_refl _); have H5 := NC.of (f := w4.heap.size) (base := w.heap.size + 1) H (by rw [World.size_alloc]; omega) (.inl (by rw [World.size_alloc]; omega)); have hfl3 : w3.heap.size ≤ w4.heap.size := hg4.size; clear nd; have y0 : (_ : Option Value) = some (.int .i64 0) := B5.F.cell 0 (by simp); have y1 : (_ : Option Value) = some (.int .i64 0) := B5.F.cell 1 (by simp); have y2 : (_ : Option Value) = some (.int .i64 0) := B5.F.cell 2 (by simp); have y3 : (_ : Option Value) = some (.int .i64 0) := B5.F.cell 3 (by simp); have y4 : (_ : Option Value) = some (.slice none 0 0) := B5.F.cell 4 (by simp); have y5 : (_ : Option Value) = some (.int .i64 0) := B5.F.cell 5 (by simp); have y6 : (_ : Option Value) = some (.int .i64 0) := B5.F.cell 6 (by simp); have y7 : (_ : Option Value) = some (.slice none 0 0) := B5.F.cell 7 (by simp); have hfy := fun j => B5.F.free j)
      | (go_at_call 30; have := m2; have nd := newDevT_any c h p s _ vc L k r w4 (Rd.of_own O4) hd hok hL0 hL1 hk3 ⟨r0, (by omega)⟩; (with_reducible refine nd.mono ?_); rintro e w5 ⟨x0, x1, x2, x3, x5, x6, A4, n4, c4, A7, n7, c7, code, rfl, hx, H⟩; have B5 := B4.below hx; have FD5 := FD4.below hx FD4.lt; have O5 := own_later O4 hx (Nat.le_refl _); have H5 := NC.of (f := w3.heap.size) (base := w.heap.size + 1) H (by have := B4.G.size; have := B4.F.lt; have := hOz.out; omega) (.inl B4.F.lt); have hfl3 : w3.heap.size ≤ w3.heap.size := Nat.le_refl _; clear nd; have y0 : (_ : Option Value) = some (.int .i64 0) := B5.F.cell 0 (by simp); have y1 : (_ : Option Value) = some (.int .i64 0) := B5.F.cell 1 (by simp); have y2 : (_ : Option Value) = some (.int .i64 0) := B5.F.cell 2 (by simp); have y3 : (_ : Option Value) = some (.int .i64 0) := B5.F.cell 3 (by simp); have y4 : (_ : Option Value) = some (.slice none 0 0) := B5.F.cell 4 (by simp); have y5 : (_ : Option Value) = some (.int .i64 0) := B5.F.cell 5 (by simp); have y6 : (_ : Option Value) = some (.int .i64 0) := B5.F.cell 6 (by simp); have y7 : (_ : Option Value) = some (.slice none 0 0) := B5.F.cell 7 (by simp); have hfy := fun j => B5.F.free j)
      | (go_at_call 19; (with_reducible refine pkB.mono ?_); rintro e w4 ⟨r, rfl, r0, r1, S4, hg4⟩; have B4 := B3.dr.grown hg4 (S4.more (M := N + 20004) (by omega)); have FD4 := BX.past (BX.drx (BX.al FD3 (.cells #[.int .i64 0, .int .i64 0, .int .i64 0, .int .i64 0, .slice none 0 0, .int .i64 0, .int .i64 0, .slice none 0 0] 29))) hg4 hDg; have O4 := OO.past (OO.dr (World.ownsRow.alloc O3' (.cells #[.int .i64 0, .int .i64 0, .int .i64 0, .int .i64 0, .slice none 0 0, .int .i64 0, .int .i64 0, .slice none 0 0] 29))) hg4 hbg; have hs4 : w3.heap.size ≤ w4.heap.size := Nat.le_trans (show w3.heap.size ≤ (w3.alloc (.cells #[.int .i64 0, .int .i64 0, .int .i64 0, .int .i64 0, .slice none 0 0, .int .i64 0, .int .i64 0, .slice none 0 0] 29)).heap.size by rw [World.size_alloc]; exact Nat.le_succ _) hg4.size; have t0 : (_ : Option Value) = some (.int .i64 c) := FD4.cell 0 (by simp); have v0 := fun (o : Obj) => (show (w4.alloc o).cell? _ = some (.int .i64 c) from (FD4.al o).cell 0 (by simp)); have t1 : (_ : Option Value) = some (.int .i64 h) := FD4.cell 1 (by simp); have v1 := fun (o : Obj) => (show (w4.alloc o).cell? _ = some (.int .i64 h) from (FD4.al o).cell 1 (by simp)); have t2 : (_ : Option Value) = some (.int .i64 p) := FD4.cell 2 (by simp); have v2 := fun (o : Obj) => (show (w4.alloc o).cell? _ = some (.int .i64 p) from (FD4.al o).cell 2 (by simp)); have t3 : (_ : Option Value) = some (.int .i64 s) := FD4.cell 3 (by simp); have v3 := fun (o : Obj) => (show (w4.alloc o).cell? _ = some (.int .i64 s) from (FD4.al o).cell 3 (by simp)); have t4 : (_ : Option Value) = some (.slice (some ⟨b, 0, none⟩) L.length vc) := FD4.cell 4 (by simp); have v4 := fun (o : Obj) => (show (w4.alloc o).cell? _ = some (.slice (some ⟨b, 0, none⟩) L.length vc) from (FD4.al o).cell 4 (by simp)); have m2 := True.intro)
      | (go_at_call 19; (with_reducible refine pkA.mono ?_); rintro e w4 ⟨r, rfl, r0, r1, S4, hg4⟩; have Z4 := BX.past (BX.drx Z3) hg4 (Nat.ne_of_gt hgl); have FD4 := BX.past (BX.drx FD3) hg4 hDg; have O4 := OO.past (OO.dr O3') hg4 hbg; have G4 := gr_trans (only_drew G3) hg4; have hs4 : w3.heap.size ≤ w4.heap.size := hg4.size; have t0 : (_ : Option Value) = some (.int .i64 c) := FD4.cell 0 (by simp); have v0 := fun (o : Obj) => (show (w4.alloc o).cell? _ = some (.int .i64 c) from (FD4.al o).cell 0 (by simp)); have t1 : (_ : Option Value) = some (.int .i64 h) := FD4.cell 1 (by simp); have v1 := fun (o : Obj) => (show (w4.alloc o).cell? _ = some (.int .i64 h) from (FD4.al o).cell 1 (by simp)); have t2 : (_ : Option Value) = some (.int .i64 p) := FD4.cell 2 (by simp); have v2 := fun (o : Obj) => (show (w4.alloc o).cell? _ = some (.int .i64 p) from (FD4.al o).cell 2 (by simp)); have t3 : (_ : Option Value) = some (.int .i64 s) := FD4.cell 3 (by simp); have v3 := fun (o : Obj) => (show (w4.alloc o).cell? _ = some (.int .i64 s) from (FD4.al o).cell 3 (by simp)); have t4 : (_ : Option Value) = some (.slice (some ⟨b, 0, none⟩) L.length vc) := FD4.cell 4 (by simp); have v4 := fun (o : Obj) => (show (w4.alloc o).cell? _ = some (.slice (some ⟨b, 0, none⟩) L.length vc) from (FD4.al o).cell 4 (by simp)); have m1 := True.intro))
    all_goals
      go_wp2_with fail
      go_meet
      first
        | (have := n1; exact ⟨w5.heap.size, x0, x1, x2, x3, x5, x6, A4, n4, c4, A7, n7, c7, code, rfl, rfl, FD5, O5, by omega, by omega, B5.more (by omega), H5⟩)
        | (have := m2; have E := fin8 (x6 := x6) B5 FD5 O5 H5 (show D ≠ w3.heap.size by omega) (show b ≠ w3.heap.size by omega); exact ⟨w3.heap.size, x0, x1, x2, x3, x5, x6, A4, n4, c4, A7, n7, c7, code, rfl, rfl, E.1, E.2.1, by omega, by omega, E.2.2.1.more (by omega), E.2.2.2⟩)
        | (have E := fin8 (x6 := x6) B5 FD5 O5 H5 (show D ≠ w4.heap.size by omega) (show b ≠ w4.heap.size by omega); exact ⟨w4.heap.size, x0, x1, x2, x3, x5, x6, A4, n4, c4, A7, n7, c7, code, rfl, rfl, E.1, E.2.1, by omega, by omega, E.2.2.1.more (by omega), E.2.2.2⟩)
  case rest =>
    obtain ⟨f, x0, x1, x2, x3, x5, x6, A4, n4, c4, A7, n7, c7, code, rfl, rfl, FD, RD0, hDf, hbf, B5, H5⟩ := hcut
    clear FD3 O3' Z3 S3 G3
    go_upto_if 25 with fail
    go_cut [8] (fun cv wx => ∃ (y r : Int) (bL cL bM cM : Nat) (M : List Int), cv = .int .i64 y ∧ DX w wx f g c h p s k r bL cL L bM cM M A n cc (N + 20020) ∧ 0 < M.length ∧ M.length ≤ 128)
    case first =>
      rcases H5 with ⟨e0, e1, e2, e3, e4, e5, bL, bM, M, e6, e7, e8, e9, R4, R7, l1, l2, l3, l4, l5⟩ | e0
      · subst code x0 x1 x2 x3 x5 A4 n4 A7 n7
        go_wp2_with fail
        go_meet
        exact ⟨0, x6, bL, c4, bM, c7, M, rfl, ⟨B5.more (by omega), R4, R7, l1, l2, l3⟩, l4, l5⟩
      · subst code
        have d0 : (_ : Option Value) = some (.int .i64 c) := FD.cell 0 (by simp)
        have d1 : (_ : Option Value) = some (.int .i64 h) := FD.cell 1 (by simp)
        have d2 : (_ : Option Value) = some (.int .i64 p) := FD.cell 2 (by simp)
        have d3 : (_ : Option Value) = some (.int .i64 s) := FD.cell 3 (by simp)
        have d4 : (_ : Option Value) = some (.slice (some ⟨b, 0, none⟩) L.length vc) := FD.cell 4 (by simp)
        have hfl := B5.F.lt
        have nd := newDevT_any c h p s _ vc L k 0 wc (Rd.of_own RD0) hd hok hL0 hL1 hk3 ⟨by decide, by decide⟩
        go_wp2_with (go_at_call 30; (with_reducible refine nd.mono ?_); rintro e w5 ⟨y0, y1, y2, y3, y5, y6, A9, n9, c9, A8, n8, c8, code, rfl, hx, H⟩; have X5 := B5.below hx; obtain ⟨rfl, hR⟩ : code = 0 ∧ ((y0 = c ∧ y1 = h ∧ y2 = p ∧ y3 = s ∧ y5 = k ∧ y6 = 0) ∧ ∃ (bL bM : Nat) (M : List Int), A9 = some ⟨bL, 0, none⟩ ∧ n9 = L.length ∧ A8 = some ⟨bM, 0, none⟩ ∧ n8 = M.length ∧ w5.ownsRow wc.heap.size 53 2 (.slice (some ⟨bL, 0, none⟩) L.length c9) L.length (flat fSector L) ∧ w5.ownsRow wc.heap.size 2 1 (.slice (some ⟨bM, 0, none⟩) M.length c8) M.length (flat fI M) ∧ bL ≠ bM ∧ 0 < M.length ∧ M.length ≤ 128) := (by rcases H with ⟨a0, a1, a2, a3, a4, a5, a6, q⟩ | ⟨_, q⟩; exact ⟨a0, ⟨a1, a2, a3, a4, a5, a6⟩, q⟩; omega); obtain ⟨⟨a1, a2, a3, a4, a5, a6⟩, bL, bM, M, a7, a8, a9, a10, R4, R7, l3, l4, l5⟩ := hR; subst y0 y1 y2 y3 y5 y6 A9 n9 A8 n8; clear nd H; have q0 : (_ : Option Value) = some (.int .i64 x0) := X5.F.cell 0 (by simp); have q1 : (_ : Option Value) = some (.int .i64 x1) := X5.F.cell 1 (by simp); have q2 : (_ : Option Value) = some (.int .i64 x2) := X5.F.cell 2 (by simp); have q3 : (_ : Option Value) = some (.int .i64 x3) := X5.F.cell 3 (by simp); have q4 : (_ : Option Value) = some (.slice A4 n4 c4) := X5.F.cell 4 (by simp); have q5 : (_ : Option Value) = some (.int .i64 x5) := X5.F.cell 5 (by simp); have q6 : (_ : Option Value) = some (.int .i64 x6) := X5.F.cell 6 (by simp); have q7 : (_ : Option Value) = some (.slice A7 n7 c7) := X5.F.cell 7 (by simp); have hfq := fun j => X5.F.free j)
        go_meet
        exact ⟨_, 0, bL, c9, bM, c8, M, rfl, (X5.all R4 R7 hfl l3).more (by omega), l4, l5⟩
    case rest =>
      obtain ⟨y, r, bL, cL, bM, cM, M, rfl, X, hM0, hM1⟩ := hcut
      clear FD RD0 B5 H5 hd hgeo hbf hDf hb0 hc hh hp hs
      have hrx : ∀ W : World, w.grownBy W (some g) → Rd W B 1 A n (flat fU l) := fun W h => grown_rd hr h hBg hB
      have hBx : ∀ W : World, w.grownBy W (some g) → B ≤ W.heap.size := fun W h => Nat.le_trans hB h.size
      have pk := pick_any 3 g n cc _ B A l _ X.B.S hn (hrx _ X.B.G) hBg (hBx _ X.B.G) (by omega) hn2 (by decide)
      go_wp2_with (go_at_call 19; (with_reducible refine pk.mono ?_); rintro e w6 ⟨x, rfl, hx0, hx1, S6, hg6⟩; replace X := X.grown hg6 S6; obtain ⟨j, rfl⟩ : ∃ j : Nat, x = (j : Int) := ⟨x.toNat, by omega⟩; have hj : j ≤ 2 := (by omega))
      clear pk S6 hg6 hx0 hx1
      go_loopw [9] (fun a wr => ∃ (j bL cL bM cM : Nat) (L : List DSector) (M : List Int), a = .int .i64 (j : Int) ∧ j ≤ 2 ∧ 0 < L.length ∧ L.length ≤ 128 ∧ 0 < M.length ∧ M.length ≤ 128 ∧ (∀ x ∈ L, okSector x) ∧ DX w wr f g c h p s k r bL cL L bM cM M A n cc (N + 20100 + 10 * (3 - j))) (fun a _ => match a with | .int _ k => k.toNat | _ => 0)
      case atStart => exact ⟨j, _, _, _, _, _, _, rfl, hj, hL0, hL1, hM0, hM1, hok, X.more (by omega)⟩
      case round =>
        clear X hL0 hL1 hM0 hM1 hok hj
        obtain ⟨j, bL, cL, bM, cM, L, M, rfl, hj, hL0, hL1, hM0, hM1, hok, X⟩ := hrel
        cases j with
        | succ j =>
          have hk0 : (0 : Int) < ((j + 1 : Nat) : Int) := by omega
          have hwk : IntKind.i64.wrap (((j + 1 : Nat) : Int) - 1) = (j : Int) := by rw [IntWalk.i64_in _ (by omega)]; omega
          go_upto_region 9 with fail
          have hflt := X.B.F.lt
          have hbLt := (World.ownsRow.lt X.RL bL rfl).2
          have hbMt := (World.ownsRow.lt X.RM bM rfl).2
          have hzf := X.B.hf
          go_cut [10, 11] (fun pv cv wx => ∃ (t : Nat) (x0 x1 x2 x3 x5 x6 : Int) (A4 : Option Addr) (n4 c4 : Nat) (A7 : Option Addr) (n7 c7 : Nat) (code : Int), pv = .pointer (some ⟨t, 0, none⟩) ∧ cv = .int .i64 code ∧ DX w wx f g c h p s k r bL cL L bM cM M A n cc (N + 20100 + 10 * (3 - j)) ∧ BX wx t 29 [.int .i64 x0, .int .i64 x1, .int .i64 x2, .int .i64 x3, .slice A4 n4 c4, .int .i64 x5, .int .i64 x6, .slice A7 n7 c7] ∧ RC wx t wr.heap.size c h p s k r L.length M.length x0 x1 x2 x3 x5 x6 A4 n4 c4 A7 n7 c7 code)
          case first =>
            have XA := X.dr
            have XB := (X.al (.cells #[.int .i64 0, .int .i64 0, .int .i64 0, .int .i64 0, .slice none 0 0, .int .i64 0, .int .i64 0, .slice none 0 0] 29)).dr
            have a0 : (World.drew wr).cell? _ = some (.int .i64 c) := XA.B.F.cell 0 (by simp)
            have a1 : (World.drew wr).cell? _ = some (.int .i64 h) := XA.B.F.cell 1 (by simp)
            have a2 : (World.drew wr).cell? _ = some (.int .i64 p) := XA.B.F.cell 2 (by simp)
            have a3 : (World.drew wr).cell? _ = some (.int .i64 s) := XA.B.F.cell 3 (by simp)
            have a4 : (World.drew wr).cell? _ = some (.slice (some ⟨bL, 0, none⟩) L.length cL) := XA.B.F.cell 4 (by simp)
            have a5 : (World.drew wr).cell? _ = some (.int .i64 k) := XA.B.F.cell 5 (by simp)
            have a6 : (World.drew wr).cell? _ = some (.int .i64 r) := XA.B.F.cell 6 (by simp)
            have a7 : (World.drew wr).cell? _ = some (.slice (some ⟨bM, 0, none⟩) M.length cM) := XA.B.F.cell 7 (by simp)
            have b0 := fun (o : Obj) => (show (World.drew (wr.alloc o)).cell? _ = some (.int .i64 c) from (X.al o).dr.B.F.cell 0 (by simp))
            have b1 := fun (o : Obj) => (show (World.drew (wr.alloc o)).cell? _ = some (.int .i64 h) from (X.al o).dr.B.F.cell 1 (by simp))
            have b2 := fun (o : Obj) => (show (World.drew (wr.alloc o)).cell? _ = some (.int .i64 p) from (X.al o).dr.B.F.cell 2 (by simp))
            have b3 := fun (o : Obj) => (show (World.drew (wr.alloc o)).cell? _ = some (.int .i64 s) from (X.al o).dr.B.F.cell 3 (by simp))
            have b4 := fun (o : Obj) => (show (World.drew (wr.alloc o)).cell? _ = some (.slice (some ⟨bL, 0, none⟩) L.length cL) from (X.al o).dr.B.F.cell 4 (by simp))
            have b5 := fun (o : Obj) => (show (World.drew (wr.alloc o)).cell? _ = some (.int .i64 k) from (X.al o).dr.B.F.cell 5 (by simp))
            have b6 := fun (o : Obj) => (show (World.drew (wr.alloc o)).cell? _ = some (.int .i64 r) from (X.al o).dr.B.F.cell 6 (by simp))
            have b7 := fun (o : Obj) => (show (World.drew (wr.alloc o)).cell? _ = some (.slice (some ⟨bM, 0, none⟩) M.length cM) from (X.al o).dr.B.F.cell 7 (by simp))
            have pkA := pick_any (M.length : Int) g n cc _ B A l _ XA.B.S hn (hrx _ XA.B.G) hBg (hBx _ XA.B.G) (by omega) hn2 (by omega)
            have pkB := pick_any (M.length : Int) g n cc _ B A l _ XB.B.S hn (hrx _ XB.B.G) hBg (hBx _ XB.B.G) (by omega) hn2 (by omega)
            go_region_law (go_simp; first
              | (go_at_call 31; have := m1; have nd := replT_any c h p s _ cL L k r _ cM M pz w4 (Rd.of_own X4.RL) hL0 (by omega) hok (Rd.of_own X4.RM) hM0 (by omega) (own_capR X4.RM); (with_reducible refine nd.mono ?_); rintro e w5 ⟨x0, x1, x2, x3, x5, x6, A4, n4, c4, A7, n7, c7, code, rfl, hx, H⟩; have X5 := (X4.below hx).al (.cells #[.int .i64 x0, .int .i64 x1, .int .i64 x2, .int .i64 x3, .slice A4 n4 c4, .int .i64 x5, .int .i64 x6, .slice A7 n7 c7] 29); have T5 := BX.made w5 29 [.int .i64 x0, .int .i64 x1, .int .i64 x2, .int .i64 x3, .slice A4 n4 c4, .int .i64 x5, .int .i64 x6, .slice A7 n7 c7]; have H5 := (H w5.heap.size wr.heap.size hs4 (.inr (Nat.le_refl _))).al (.cells #[.int .i64 x0, .int .i64 x1, .int .i64 x2, .int .i64 x3, .slice A4 n4 c4, .int .i64 x5, .int .i64 x6, .slice A7 n7 c7] 29); clear nd; have n1 := True.intro)
              | (go_at_call 31; have := m1; have X4' := X4.al (.cells #[.int .i64 0, .int .i64 0, .int .i64 0, .int .i64 0, .slice none 0 0, .int .i64 0, .int .i64 0, .slice none 0 0] 29); have T4 := BX.made w4 29 [.int .i64 0, .int .i64 0, .int .i64 0, .int .i64 0, .slice none 0 0, .int .i64 0, .int .i64 0, .slice none 0 0]; have nd := replT_any c h p s _ cL L k r _ cM M pz (w4.alloc (.cells #[.int .i64 0, .int .i64 0, .int .i64 0, .int .i64 0, .slice none 0 0, .int .i64 0, .int .i64 0, .slice none 0 0] 29)) (Rd.of_own X4'.RL) hL0 (by omega) hok (Rd.of_own X4'.RM) hM0 (by omega) (own_capR X4.RM); (with_reducible refine nd.mono ?_); rintro e w5 ⟨x0, x1, x2, x3, x5, x6, A4, n4, c4, A7, n7, c7, code, rfl, hx, H⟩; have X5 := X4'.below hx; have T5 := T4.below hx T4.lt; have H5 := H w4.heap.size wr.heap.size (by rw [World.size_alloc]; omega) (.inl (by rw [World.size_alloc]; omega)); clear nd; have y0 : (_ : Option Value) = some (.int .i64 0) := T5.cell 0 (by simp); have y1 : (_ : Option Value) = some (.int .i64 0) := T5.cell 1 (by simp); have y2 : (_ : Option Value) = some (.int .i64 0) := T5.cell 2 (by simp); have y3 : (_ : Option Value) = some (.int .i64 0) := T5.cell 3 (by simp); have y4 : (_ : Option Value) = some (.slice none 0 0) := T5.cell 4 (by simp); have y5 : (_ : Option Value) = some (.int .i64 0) := T5.cell 5 (by simp); have y6 : (_ : Option Value) = some (.int .i64 0) := T5.cell 6 (by simp); have y7 : (_ : Option Value) = some (.slice none 0 0) := T5.cell 7 (by simp); have hfy := fun j => T5.free j)
              | (go_at_call 31; have := m2; have nd := replT_any c h p s _ cL L k r _ cM M pz w4 (Rd.of_own X4.RL) hL0 (by omega) hok (Rd.of_own X4.RM) hM0 (by omega) (own_capR X4.RM); (with_reducible refine nd.mono ?_); rintro e w5 ⟨x0, x1, x2, x3, x5, x6, A4, n4, c4, A7, n7, c7, code, rfl, hx, H⟩; have X5 := X4.below hx; have T5 := T4.below hx T4.lt; have H5 := H wr.heap.size wr.heap.size hs4 (.inl T4.lt); clear nd; have y0 : (_ : Option Value) = some (.int .i64 0) := T5.cell 0 (by simp); have y1 : (_ : Option Value) = some (.int .i64 0) := T5.cell 1 (by simp); have y2 : (_ : Option Value) = some (.int .i64 0) := T5.cell 2 (by simp); have y3 : (_ : Option Value) = some (.int .i64 0) := T5.cell 3 (by simp); have y4 : (_ : Option Value) = some (.slice none 0 0) := T5.cell 4 (by simp); have y5 : (_ : Option Value) = some (.int .i64 0) := T5.cell 5 (by simp); have y6 : (_ : Option Value) = some (.int .i64 0) := T5.cell 6 (by simp); have y7 : (_ : Option Value) = some (.slice none 0 0) := T5.cell 7 (by simp); have hfy := fun j => T5.free j)
              | (go_at_call 19; (with_reducible refine pkB.mono ?_); rintro e w4 ⟨pz, rfl, r0, r1, S4, hg4⟩; have X4 := XB.grown hg4 S4; have T4 := BX.past (BX.drx (BX.made wr 29 [.int .i64 0, .int .i64 0, .int .i64 0, .int .i64 0, .slice none 0 0, .int .i64 0, .int .i64 0, .slice none 0 0])) hg4 (by have := X.B.hg; have := X.B.G.size; omega); have hs4 : wr.heap.size ≤ w4.heap.size := Nat.le_trans (show wr.heap.size ≤ (wr.alloc (.cells #[.int .i64 0, .int .i64 0, .int .i64 0, .int .i64 0, .slice none 0 0, .int .i64 0, .int .i64 0, .slice none 0 0] 29)).heap.size by rw [World.size_alloc]; exact Nat.le_succ _) hg4.size; have t0 : (_ : Option Value) = some (.int .i64 c) := X4.B.F.cell 0 (by simp); have t1 : (_ : Option Value) = some (.int .i64 h) := X4.B.F.cell 1 (by simp); have t2 : (_ : Option Value) = some (.int .i64 p) := X4.B.F.cell 2 (by simp); have t3 : (_ : Option Value) = some (.int .i64 s) := X4.B.F.cell 3 (by simp); have t4 : (_ : Option Value) = some (.slice (some ⟨bL, 0, none⟩) L.length cL) := X4.B.F.cell 4 (by simp); have t5 : (_ : Option Value) = some (.int .i64 k) := X4.B.F.cell 5 (by simp); have t6 : (_ : Option Value) = some (.int .i64 r) := X4.B.F.cell 6 (by simp); have t7 : (_ : Option Value) = some (.slice (some ⟨bM, 0, none⟩) M.length cM) := X4.B.F.cell 7 (by simp); have v0 := fun (o : Obj) => (show (w4.alloc o).cell? _ = some (.int .i64 c) from (X4.al o).B.F.cell 0 (by simp)); have v1 := fun (o : Obj) => (show (w4.alloc o).cell? _ = some (.int .i64 h) from (X4.al o).B.F.cell 1 (by simp)); have v2 := fun (o : Obj) => (show (w4.alloc o).cell? _ = some (.int .i64 p) from (X4.al o).B.F.cell 2 (by simp)); have v3 := fun (o : Obj) => (show (w4.alloc o).cell? _ = some (.int .i64 s) from (X4.al o).B.F.cell 3 (by simp)); have v4 := fun (o : Obj) => (show (w4.alloc o).cell? _ = some (.slice (some ⟨bL, 0, none⟩) L.length cL) from (X4.al o).B.F.cell 4 (by simp)); have v5 := fun (o : Obj) => (show (w4.alloc o).cell? _ = some (.int .i64 k) from (X4.al o).B.F.cell 5 (by simp)); have v6 := fun (o : Obj) => (show (w4.alloc o).cell? _ = some (.int .i64 r) from (X4.al o).B.F.cell 6 (by simp)); have v7 := fun (o : Obj) => (show (w4.alloc o).cell? _ = some (.slice (some ⟨bM, 0, none⟩) M.length cM) from (X4.al o).B.F.cell 7 (by simp)); have m2 := True.intro)
              | (go_at_call 19; (with_reducible refine pkA.mono ?_); rintro e w4 ⟨pz, rfl, r0, r1, S4, hg4⟩; have X4 := XA.grown hg4 S4; have hs4 : wr.heap.size ≤ w4.heap.size := hg4.size; have t0 : (_ : Option Value) = some (.int .i64 c) := X4.B.F.cell 0 (by simp); have t1 : (_ : Option Value) = some (.int .i64 h) := X4.B.F.cell 1 (by simp); have t2 : (_ : Option Value) = some (.int .i64 p) := X4.B.F.cell 2 (by simp); have t3 : (_ : Option Value) = some (.int .i64 s) := X4.B.F.cell 3 (by simp); have t4 : (_ : Option Value) = some (.slice (some ⟨bL, 0, none⟩) L.length cL) := X4.B.F.cell 4 (by simp); have t5 : (_ : Option Value) = some (.int .i64 k) := X4.B.F.cell 5 (by simp); have t6 : (_ : Option Value) = some (.int .i64 r) := X4.B.F.cell 6 (by simp); have t7 : (_ : Option Value) = some (.slice (some ⟨bM, 0, none⟩) M.length cM) := X4.B.F.cell 7 (by simp); have v0 := fun (o : Obj) => (show (w4.alloc o).cell? _ = some (.int .i64 c) from (X4.al o).B.F.cell 0 (by simp)); have v1 := fun (o : Obj) => (show (w4.alloc o).cell? _ = some (.int .i64 h) from (X4.al o).B.F.cell 1 (by simp)); have v2 := fun (o : Obj) => (show (w4.alloc o).cell? _ = some (.int .i64 p) from (X4.al o).B.F.cell 2 (by simp)); have v3 := fun (o : Obj) => (show (w4.alloc o).cell? _ = some (.int .i64 s) from (X4.al o).B.F.cell 3 (by simp)); have v4 := fun (o : Obj) => (show (w4.alloc o).cell? _ = some (.slice (some ⟨bL, 0, none⟩) L.length cL) from (X4.al o).B.F.cell 4 (by simp)); have v5 := fun (o : Obj) => (show (w4.alloc o).cell? _ = some (.int .i64 k) from (X4.al o).B.F.cell 5 (by simp)); have v6 := fun (o : Obj) => (show (w4.alloc o).cell? _ = some (.int .i64 r) from (X4.al o).B.F.cell 6 (by simp)); have v7 := fun (o : Obj) => (show (w4.alloc o).cell? _ = some (.slice (some ⟨bM, 0, none⟩) M.length cM) from (X4.al o).B.F.cell 7 (by simp)); have m1 := True.intro))
            all_goals
              go_wp2_with fail
              go_meet
              first
                | (have := n1; exact ⟨w5.heap.size, x0, x1, x2, x3, x5, x6, A4, n4, c4, A7, n7, c7, code, rfl, rfl, X5.more (by omega), T5, H5⟩)
                | (have := m2; have E := X5.box T5 (show w.heap.size < wr.heap.size by omega) (show wr.heap.size ≠ f by omega) (show wr.heap.size ≠ bL by omega) (show wr.heap.size ≠ bM by omega) (.int .i64 x0) (.int .i64 x1) (.int .i64 x2) (.int .i64 x3) (.slice A4 n4 c4) (.int .i64 x5) (.int .i64 x6) (.slice A7 n7 c7); exact ⟨wr.heap.size, x0, x1, x2, x3, x5, x6, A4, n4, c4, A7, n7, c7, code, rfl, rfl, E.1.more (by omega), E.2, H5.all8 (.int .i64 x0) (.int .i64 x1) (.int .i64 x2) (.int .i64 x3) (.slice A4 n4 c4) (.int .i64 x5) (.int .i64 x6) (.slice A7 n7 c7)⟩)
                | (have E := X5.box T5 (show w.heap.size < w4.heap.size by omega) (show w4.heap.size ≠ f by omega) (show w4.heap.size ≠ bL by omega) (show w4.heap.size ≠ bM by omega) (.int .i64 x0) (.int .i64 x1) (.int .i64 x2) (.int .i64 x3) (.slice A4 n4 c4) (.int .i64 x5) (.int .i64 x6) (.slice A7 n7 c7); exact ⟨w4.heap.size, x0, x1, x2, x3, x5, x6, A4, n4, c4, A7, n7, c7, code, rfl, rfl, E.1.more (by omega), E.2, H5.all8 (.int .i64 x0) (.int .i64 x1) (.int .i64 x2) (.int .i64 x3) (.slice A4 n4 c4) (.int .i64 x5) (.int .i64 x6) (.slice A7 n7 c7)⟩)
          case rest =>
            obtain ⟨t, x0, x1, x2, x3, x5, x6, A4, n4, c4, A7, n7, c7, code, rfl, rfl, X2, T, H⟩ := hcut
            rcases H with ⟨e0, e1, e2, e3, e4, e5, e6, bL2, bM2, L2, M2, a4, b4, a7, b7, R4, R7, l1, l2, l3, l4, l5, l6⟩ | hne
            · subst code x0 x1 x2 x3 x5 x6 A4 n4 A7 n7
              have l4h := Lib.hid l4
              have l5h := Lib.hid l5
              clear l4 l5
              have t0 : (_ : Option Value) = some (.int .i64 c) := T.cell 0 (by simp)
              have t1 : (_ : Option Value) = some (.int .i64 h) := T.cell 1 (by simp)
              have t2 : (_ : Option Value) = some (.int .i64 p) := T.cell 2 (by simp)
              have t3 : (_ : Option Value) = some (.int .i64 s) := T.cell 3 (by simp)
              have t4 : (_ : Option Value) = some (.slice (some ⟨bL2, 0, none⟩) L2.length c4) := T.cell 4 (by simp)
              have t5 : (_ : Option Value) = some (.int .i64 k) := T.cell 5 (by simp)
              have t6 : (_ : Option Value) = some (.int .i64 r) := T.cell 6 (by simp)
              have t7 : (_ : Option Value) = some (.slice (some ⟨bM2, 0, none⟩) M2.length c7) := T.cell 7 (by simp)
              have q0 : (_ : Option Value) = some (.int .i64 c) := X2.B.F.cell 0 (by simp)
              have q1 : (_ : Option Value) = some (.int .i64 h) := X2.B.F.cell 1 (by simp)
              have q2 : (_ : Option Value) = some (.int .i64 p) := X2.B.F.cell 2 (by simp)
              have q3 : (_ : Option Value) = some (.int .i64 s) := X2.B.F.cell 3 (by simp)
              have q4 : (_ : Option Value) = some (.slice (some ⟨bL, 0, none⟩) L.length cL) := X2.B.F.cell 4 (by simp)
              have q5 : (_ : Option Value) = some (.int .i64 k) := X2.B.F.cell 5 (by simp)
              have q6 : (_ : Option Value) = some (.int .i64 r) := X2.B.F.cell 6 (by simp)
              have q7 : (_ : Option Value) = some (.slice (some ⟨bM, 0, none⟩) M.length cM) := X2.B.F.cell 7 (by simp)
              have hfq := fun j => X2.B.F.free j
              go_wp2_with fail
              go_roundw
              case rel => exact ⟨j, bL2, c4, bM2, c7, L2, M2, rfl, by omega, by have := l4h.out; omega, by have := l4h.out; omega, by have := l5h.out; omega, by have := l5h.out; omega, l6, X2.B.all R4 R7 hflt l3⟩
              case measure => show j < j + 1; omega
            · have n0 : (code == 0) = false := by simp; omega
              go_wp2_with fail
              go_roundw
              case rel => exact ⟨j, bL, cL, bM, cM, L, M, rfl, by omega, hL0, hL1, hM0, hM1, hok, X2⟩
              case measure => show j < j + 1; omega
        | zero =>
          have hq0 : ¬ ((0 : Int) < ((0 : Nat) : Int)) := by decide
          have on := one_any 9 g n cc _ B A l _ X.B.S hn (hrx _ X.B.G) hBg (hBx _ X.B.G) (by omega) hn2 (by decide)
          go_upto_if 54 with (go_at_call 18; (with_reducible refine on.mono ?_); rintro e w7 ⟨qb, rfl, S7, hg7⟩; replace X := X.grown hg7 S7)
          clear on S7 hg7
          cases qb
          · have f0 : (_ : Option Value) = some (.int .i64 c) := X.B.F.cell 0 (by simp)
            have f1 : (_ : Option Value) = some (.int .i64 h) := X.B.F.cell 1 (by simp)
            have f2 : (_ : Option Value) = some (.int .i64 p) := X.B.F.cell 2 (by simp)
            have f3 : (_ : Option Value) = some (.int .i64 s) := X.B.F.cell 3 (by simp)
            have f4 : (_ : Option Value) = some (.slice (some ⟨bL, 0, none⟩) L.length cL) := X.B.F.cell 4 (by simp)
            have f5 : (_ : Option Value) = some (.int .i64 k) := X.B.F.cell 5 (by simp)
            have f6 : (_ : Option Value) = some (.int .i64 r) := X.B.F.cell 6 (by simp)
            have f7 : (_ : Option Value) = some (.slice (some ⟨bM, 0, none⟩) M.length cM) := X.B.F.cell 7 (by simp)
            have z0 : (_ : Option Value) = some (.int .i64 0) := X.B.Z.cell 0 (by simp)
            have z1 : (_ : Option Value) = some (.int .i64 0) := X.B.Z.cell 1 (by simp)
            have z2 : (_ : Option Value) = some (.int .i64 0) := X.B.Z.cell 2 (by simp)
            have z3 : (_ : Option Value) = some (.int .i64 0) := X.B.Z.cell 3 (by simp)
            have z4 : (_ : Option Value) = some (.slice none 0 0) := X.B.Z.cell 4 (by simp)
            have z5 : (_ : Option Value) = some (.int .i64 0) := X.B.Z.cell 5 (by simp)
            have z6 : (_ : Option Value) = some (.int .i64 0) := X.B.Z.cell 6 (by simp)
            have z7 : (_ : Option Value) = some (.slice none 0 0) := X.B.Z.cell 7 (by simp)
            have hfz := fun j => X.B.Z.free j
            go_wp2
            have E := set8 (bs2 := 0) (z := w.heap.size) (Nat.le_refl _) X.B.S X.B.G X.RL X.RM (Nat.lt_succ_self _) (Nat.ne_of_gt hgl) (.int .i64 c) (.int .i64 h) (.int .i64 p) (.int .i64 s) (.slice (some ⟨bL, 0, none⟩) L.length cL) (.int .i64 k) (.int .i64 r) (.slice (some ⟨bM, 0, none⟩) M.length cM)
            refine bodyPost_ret (v := .agg #[.int .i64 c, .int .i64 h, .int .i64 p, .int .i64 s, .slice (some ⟨bL, 0, none⟩) L.length cL, .int .i64 k, .int .i64 r, .slice (some ⟨bM, 0, none⟩) M.length cM]) (by simp [results, Try.results14, go_sem, World.cell?_setCell_other, z0, z1, z2, z3, z4, z5, z6, z7]) rfl ⟨c, h, p, s, k, r, L, M, _, cL, _, cM, rfl, E.1, E.2.1, by first | omega | exact H8.out, by first | omega | exact H9.out, hok, E.2.2.1.more (by omega), E.2.2.2⟩
          · have pk := pick_any 5 g n cc _ B A l _ X.B.S hn (hrx _ X.B.G) hBg (hBx _ X.B.G) (by omega) hn2 (by decide)
            go_upto_region 16 with (go_at_call 19; (with_reducible refine pk.mono ?_); rintro e w8 ⟨x, rfl, hx0, hx1, S8, hg8⟩; replace X := X.grown hg8 S8)
            clear pk S8 hg8
            have hx : x = 0 ∨ x = 1 ∨ x = 2 ∨ x = 3 ∨ 4 ≤ x := by omega
            rcases hx with rfl | rfl | rfl | rfl | hx
            · have d7 : (World.drew w8).cell? _ = some (.slice (some ⟨bM, 0, none⟩) M.length cM) := X.dr.B.F.cell 7 (by simp)
              have e7 := fun (o : Obj) => (show (World.drew (w8.alloc o)).cell? _ = some (.slice (some ⟨bM, 0, none⟩) M.length cM) from (X.al o).dr.B.F.cell 7 (by simp))
              go_upto_region 17 with fail
              have am := among_any [-1, 100, 0, 1] w8.heap.size 4 4 rfl g n cc _ B A l ((w8.alloc (.cells #[.int .i64 (-1), .int .i64 100, .int .i64 0, .int .i64 1] 2)).drew) (X.al (.cells #[.int .i64 (-1), .int .i64 100, .int .i64 0, .int .i64 1] 2)).dr.B.S hn (hrx _ (X.al (.cells #[.int .i64 (-1), .int .i64 100, .int .i64 0, .int .i64 1] 2)).dr.B.G) hBg (hBx _ (X.al (.cells #[.int .i64 (-1), .int .i64 100, .int .i64 0, .int .i64 1] 2)).dr.B.G) (by omega) hn2 (by simp) (by simp) (CP.dr (CP.made w8 [.int .i64 (-1), .int .i64 100, .int .i64 0, .int .i64 1] 2)) (by have := X.B.S.lt; omega)
              go_region_law (go_simp; (go_at_call 32; (with_reducible refine am.mono ?_); rintro e w9 ⟨y, rfl, hy, S9, hg9⟩; have X8 := (X.al _).dr.grown hg9 S9; have g7 : (_ : Option Value) = some (.slice (some ⟨bM, 0, none⟩) M.length cM) := X8.B.F.cell 7 (by simp); have c0 := X8.getM 0 hM0; have c0f := World.ownsRow.frozenAt X8.RM 0))
              all_goals
                have X9 := X8.setM 0 y
                obtain ⟨M2, hM2⟩ : ∃ M2, M2 = M.set 0 y := ⟨_, rfl⟩
                rw [← hM2] at X9
                have H9 := Lib.hid (show M2.length ≤ 200 by rw [hM2, List.length_set]; omega)
                clear hM2
                clear d7 e7 g7 c0 c0f
                generalize w9.setCell ⟨bM, 0, none⟩ (.int .i64 y) = wz at X9 ⊢
                have f0 : (_ : Option Value) = some (.int .i64 c) := X9.B.F.cell 0 (by simp)
                have f1 : (_ : Option Value) = some (.int .i64 h) := X9.B.F.cell 1 (by simp)
                have f2 : (_ : Option Value) = some (.int .i64 p) := X9.B.F.cell 2 (by simp)
                have f3 : (_ : Option Value) = some (.int .i64 s) := X9.B.F.cell 3 (by simp)
                have f4 : (_ : Option Value) = some (.slice (some ⟨bL, 0, none⟩) L.length cL) := X9.B.F.cell 4 (by simp)
                have f5 : (_ : Option Value) = some (.int .i64 k) := X9.B.F.cell 5 (by simp)
                have f6 : (_ : Option Value) = some (.int .i64 r) := X9.B.F.cell 6 (by simp)
                have f7 : (_ : Option Value) = some (.slice (some ⟨bM, 0, none⟩) M2.length cM) := X9.B.F.cell 7 (by simp)
                have z0 : (_ : Option Value) = some (.int .i64 0) := X9.B.Z.cell 0 (by simp)
                have z1 : (_ : Option Value) = some (.int .i64 0) := X9.B.Z.cell 1 (by simp)
                have z2 : (_ : Option Value) = some (.int .i64 0) := X9.B.Z.cell 2 (by simp)
                have z3 : (_ : Option Value) = some (.int .i64 0) := X9.B.Z.cell 3 (by simp)
                have z4 : (_ : Option Value) = some (.slice none 0 0) := X9.B.Z.cell 4 (by simp)
                have z5 : (_ : Option Value) = some (.int .i64 0) := X9.B.Z.cell 5 (by simp)
                have z6 : (_ : Option Value) = some (.int .i64 0) := X9.B.Z.cell 6 (by simp)
                have z7 : (_ : Option Value) = some (.slice none 0 0) := X9.B.Z.cell 7 (by simp)
                have hfz := fun j => X9.B.Z.free j
                go_wp2
                have E := set8 (bs2 := 0) (z := w.heap.size) (Nat.le_refl _) X9.B.S X9.B.G X9.RL X9.RM (Nat.lt_succ_self _) (Nat.ne_of_gt hgl) (.int .i64 c) (.int .i64 h) (.int .i64 p) (.int .i64 s) (.slice (some ⟨bL, 0, none⟩) L.length cL) (.int .i64 k) (.int .i64 r) (.slice (some ⟨bM, 0, none⟩) M2.length cM)
                refine bodyPost_ret (v := .agg #[.int .i64 c, .int .i64 h, .int .i64 p, .int .i64 s, .slice (some ⟨bL, 0, none⟩) L.length cL, .int .i64 k, .int .i64 r, .slice (some ⟨bM, 0, none⟩) M2.length cM]) (by simp [results, Try.results14, go_sem, World.cell?_setCell_other, z0, z1, z2, z3, z4, z5, z6, z7]) rfl ⟨c, h, p, s, k, r, L, M2, _, cL, _, cM, rfl, E.1, E.2.1, by first | omega | exact H8.out, by first | omega | exact H9.out, hok, E.2.2.1.more (by omega), E.2.2.2⟩
            · have s0 : (_ : Option Value) = some (.int .i64 c) := X.B.F.cell 0 (by simp)
              have s1 : (_ : Option Value) = some (.int .i64 h) := X.B.F.cell 1 (by simp)
              have s2 : (_ : Option Value) = some (.int .i64 p) := X.B.F.cell 2 (by simp)
              have s3 : (_ : Option Value) = some (.int .i64 s) := X.B.F.cell 3 (by simp)
              have s4 : (_ : Option Value) = some (.slice (some ⟨bL, 0, none⟩) L.length cL) := X.B.F.cell 4 (by simp)
              have s5 : (_ : Option Value) = some (.int .i64 k) := X.B.F.cell 5 (by simp)
              have s6 : (_ : Option Value) = some (.int .i64 r) := X.B.F.cell 6 (by simp)
              have s7 : (_ : Option Value) = some (.slice (some ⟨bM, 0, none⟩) M.length cM) := X.B.F.cell 7 (by simp)
              have hfs := fun j => X.B.F.free j
              have X9 := X.setR (wrap64 (r + 1))
              have f0 : (_ : Option Value) = some (.int .i64 c) := X9.B.F.cell 0 (by simp)
              have f1 : (_ : Option Value) = some (.int .i64 h) := X9.B.F.cell 1 (by simp)
              have f2 : (_ : Option Value) = some (.int .i64 p) := X9.B.F.cell 2 (by simp)
              have f3 : (_ : Option Value) = some (.int .i64 s) := X9.B.F.cell 3 (by simp)
              have f4 : (_ : Option Value) = some (.slice (some ⟨bL, 0, none⟩) L.length cL) := X9.B.F.cell 4 (by simp)
              have f5 : (_ : Option Value) = some (.int .i64 k) := X9.B.F.cell 5 (by simp)
              have f6 : (_ : Option Value) = some (.int .i64 (wrap64 (r + 1))) := X9.B.F.cell 6 (by simp)
              have f7 : (_ : Option Value) = some (.slice (some ⟨bM, 0, none⟩) M.length cM) := X9.B.F.cell 7 (by simp)
              have z0 : (_ : Option Value) = some (.int .i64 0) := X9.B.Z.cell 0 (by simp)
              have z1 : (_ : Option Value) = some (.int .i64 0) := X9.B.Z.cell 1 (by simp)
              have z2 : (_ : Option Value) = some (.int .i64 0) := X9.B.Z.cell 2 (by simp)
              have z3 : (_ : Option Value) = some (.int .i64 0) := X9.B.Z.cell 3 (by simp)
              have z4 : (_ : Option Value) = some (.slice none 0 0) := X9.B.Z.cell 4 (by simp)
              have z5 : (_ : Option Value) = some (.int .i64 0) := X9.B.Z.cell 5 (by simp)
              have z6 : (_ : Option Value) = some (.int .i64 0) := X9.B.Z.cell 6 (by simp)
              have z7 : (_ : Option Value) = some (.slice none 0 0) := X9.B.Z.cell 7 (by simp)
              have hfz := fun j => X9.B.Z.free j
              go_wp2
              have E := set8 (bs2 := 0) (z := w.heap.size) (Nat.le_refl _) X9.B.S X9.B.G X9.RL X9.RM (Nat.lt_succ_self _) (Nat.ne_of_gt hgl) (.int .i64 c) (.int .i64 h) (.int .i64 p) (.int .i64 s) (.slice (some ⟨bL, 0, none⟩) L.length cL) (.int .i64 k) (.int .i64 (wrap64 (r + 1))) (.slice (some ⟨bM, 0, none⟩) M.length cM)
              refine bodyPost_ret (v := .agg #[.int .i64 c, .int .i64 h, .int .i64 p, .int .i64 s, .slice (some ⟨bL, 0, none⟩) L.length cL, .int .i64 k, .int .i64 (wrap64 (r + 1)), .slice (some ⟨bM, 0, none⟩) M.length cM]) (by simp [results, Try.results14, go_sem, World.cell?_setCell_other, z0, z1, z2, z3, z4, z5, z6, z7]) rfl ⟨c, h, p, s, k, (wrap64 (r + 1)), L, M, _, cL, _, cM, rfl, E.1, E.2.1, by first | omega | exact H8.out, by first | omega | exact H9.out, hok, E.2.2.1.more (by omega), E.2.2.2⟩
            · have s0 : (_ : Option Value) = some (.int .i64 c) := X.B.F.cell 0 (by simp)
              have s1 : (_ : Option Value) = some (.int .i64 h) := X.B.F.cell 1 (by simp)
              have s2 : (_ : Option Value) = some (.int .i64 p) := X.B.F.cell 2 (by simp)
              have s3 : (_ : Option Value) = some (.int .i64 s) := X.B.F.cell 3 (by simp)
              have s4 : (_ : Option Value) = some (.slice (some ⟨bL, 0, none⟩) L.length cL) := X.B.F.cell 4 (by simp)
              have s5 : (_ : Option Value) = some (.int .i64 k) := X.B.F.cell 5 (by simp)
              have s6 : (_ : Option Value) = some (.int .i64 r) := X.B.F.cell 6 (by simp)
              have s7 : (_ : Option Value) = some (.slice (some ⟨bM, 0, none⟩) M.length cM) := X.B.F.cell 7 (by simp)
              have hfs := fun j => X.B.F.free j
              have am := among_any [-1, 8, 7] w8.heap.size 3 3 rfl g n cc _ B A l (w8.alloc (.cells #[.int .i64 (-1), .int .i64 8, .int .i64 7] 2)) (X.al (.cells #[.int .i64 (-1), .int .i64 8, .int .i64 7] 2)).B.S hn (hrx _ (X.al (.cells #[.int .i64 (-1), .int .i64 8, .int .i64 7] 2)).B.G) hBg (hBx _ (X.al (.cells #[.int .i64 (-1), .int .i64 8, .int .i64 7] 2)).B.G) (by omega) hn2 (by simp) (by simp) (CP.made w8 [.int .i64 (-1), .int .i64 8, .int .i64 7] 2) (by have := X.B.S.lt; omega)
              go_wp2_with (go_at_call 32; (with_reducible refine am.mono ?_); rintro e w9 ⟨y, rfl, hy, S9, hg9⟩; clear s0 s1 s2 s3 s4 s5 s6 s7 hfs; have X8 := (X.al _).grown hg9 S9; have c0 : (_ : Option Value) = some (.int .i64 k) := X8.B.F.cell 5 (by simp); have c0f := X8.B.F.free 5; have X9 := X8.setK y; have f0 : (_ : Option Value) = some (.int .i64 c) := X9.B.F.cell 0 (by simp); have f1 : (_ : Option Value) = some (.int .i64 h) := X9.B.F.cell 1 (by simp); have f2 : (_ : Option Value) = some (.int .i64 p) := X9.B.F.cell 2 (by simp); have f3 : (_ : Option Value) = some (.int .i64 s) := X9.B.F.cell 3 (by simp); have f4 : (_ : Option Value) = some (.slice (some ⟨bL, 0, none⟩) L.length cL) := X9.B.F.cell 4 (by simp); have f5 : (_ : Option Value) = some (.int .i64 y) := X9.B.F.cell 5 (by simp); have f6 : (_ : Option Value) = some (.int .i64 r) := X9.B.F.cell 6 (by simp); have f7 : (_ : Option Value) = some (.slice (some ⟨bM, 0, none⟩) M.length cM) := X9.B.F.cell 7 (by simp); have z0 : (_ : Option Value) = some (.int .i64 0) := X9.B.Z.cell 0 (by simp); have z1 : (_ : Option Value) = some (.int .i64 0) := X9.B.Z.cell 1 (by simp); have z2 : (_ : Option Value) = some (.int .i64 0) := X9.B.Z.cell 2 (by simp); have z3 : (_ : Option Value) = some (.int .i64 0) := X9.B.Z.cell 3 (by simp); have z4 : (_ : Option Value) = some (.slice none 0 0) := X9.B.Z.cell 4 (by simp); have z5 : (_ : Option Value) = some (.int .i64 0) := X9.B.Z.cell 5 (by simp); have z6 : (_ : Option Value) = some (.int .i64 0) := X9.B.Z.cell 6 (by simp); have z7 : (_ : Option Value) = some (.slice none 0 0) := X9.B.Z.cell 7 (by simp); have hfz := fun j => X9.B.Z.free j)
              have E := set8 (bs2 := 0) (z := w.heap.size) (Nat.le_refl _) X9.B.S X9.B.G X9.RL X9.RM (Nat.lt_succ_self _) (Nat.ne_of_gt hgl) (.int .i64 c) (.int .i64 h) (.int .i64 p) (.int .i64 s) (.slice (some ⟨bL, 0, none⟩) L.length cL) (.int .i64 y) (.int .i64 r) (.slice (some ⟨bM, 0, none⟩) M.length cM)
              refine bodyPost_ret (v := .agg #[.int .i64 c, .int .i64 h, .int .i64 p, .int .i64 s, .slice (some ⟨bL, 0, none⟩) L.length cL, .int .i64 y, .int .i64 r, .slice (some ⟨bM, 0, none⟩) M.length cM]) (by simp [results, Try.results14, go_sem, World.cell?_setCell_other, z0, z1, z2, z3, z4, z5, z6, z7]) rfl ⟨c, h, p, s, y, r, L, M, _, cL, _, cM, rfl, E.1, E.2.1, by first | omega | exact H8.out, by first | omega | exact H9.out, hok, E.2.2.1.more (by omega), E.2.2.2⟩
            · have s0 : (_ : Option Value) = some (.int .i64 c) := X.B.F.cell 0 (by simp)
              have s1 : (_ : Option Value) = some (.int .i64 h) := X.B.F.cell 1 (by simp)
              have s2 : (_ : Option Value) = some (.int .i64 p) := X.B.F.cell 2 (by simp)
              have s3 : (_ : Option Value) = some (.int .i64 s) := X.B.F.cell 3 (by simp)
              have s4 : (_ : Option Value) = some (.slice (some ⟨bL, 0, none⟩) L.length cL) := X.B.F.cell 4 (by simp)
              have s5 : (_ : Option Value) = some (.int .i64 k) := X.B.F.cell 5 (by simp)
              have s6 : (_ : Option Value) = some (.int .i64 r) := X.B.F.cell 6 (by simp)
              have s7 : (_ : Option Value) = some (.slice (some ⟨bM, 0, none⟩) M.length cM) := X.B.F.cell 7 (by simp)
              have hfs := fun j => X.B.F.free j
              have hft := X.B.F.lt
              have hMt := (World.ownsRow.lt X.RM bM rfl).2
              have bt := bent_any 2 g n cc _ B A l _ X.B.S hn (hrx _ X.B.G) hBg (hBx _ X.B.G) (by omega) hn2 (by decide)
              go_wp2_with (go_at_call 33; (with_reducible refine bt.mono ?_); rintro e w9 ⟨ca, ha, pa, sa, L2, v2, rfl, q1, q2, q3, q4, O1, hLz, hLy, S9, hg9⟩; obtain ⟨b2, cL2, rfl, hb20, hb21⟩ := World.ownsRow.form O1 hLz.1; clear s0 s1 s2 s3 s4 s5 s6 s7 hfs; have X8 := X.grown hg9 S9; have k0 : (_ : Option Value) = some (.int .i64 c) := X8.B.F.cell 0 (by simp); have k1 : (_ : Option Value) = some (.int .i64 h) := X8.B.F.cell 1 (by simp); have k2 : (_ : Option Value) = some (.int .i64 p) := X8.B.F.cell 2 (by simp); have k3 : (_ : Option Value) = some (.int .i64 s) := X8.B.F.cell 3 (by simp); have k4 : (_ : Option Value) = some (.slice (some ⟨bL, 0, none⟩) L.length cL) := X8.B.F.cell 4 (by simp); have hfk := fun j => X8.B.F.free j; have X9 := X8.disc (c' := ca) (h' := ha) (p' := pa) (s' := sa) O1 hft hMt; have H8 := Lib.hid (show L2.length ≤ 200 by omega); have hok2 : ∀ x ∈ L2, okSector x := (fun x hx => by have := hLy x hx; exact ⟨by unfold maxLen; omega, by omega, by omega⟩); have f0 : (_ : Option Value) = some (.int .i64 ca) := X9.B.F.cell 0 (by simp); have f1 : (_ : Option Value) = some (.int .i64 ha) := X9.B.F.cell 1 (by simp); have f2 : (_ : Option Value) = some (.int .i64 pa) := X9.B.F.cell 2 (by simp); have f3 : (_ : Option Value) = some (.int .i64 sa) := X9.B.F.cell 3 (by simp); have f4 : (_ : Option Value) = some (.slice (some ⟨b2, 0, none⟩) L2.length cL2) := X9.B.F.cell 4 (by simp); have f5 : (_ : Option Value) = some (.int .i64 k) := X9.B.F.cell 5 (by simp); have f6 : (_ : Option Value) = some (.int .i64 r) := X9.B.F.cell 6 (by simp); have f7 : (_ : Option Value) = some (.slice (some ⟨bM, 0, none⟩) M.length cM) := X9.B.F.cell 7 (by simp); have z0 : (_ : Option Value) = some (.int .i64 0) := X9.B.Z.cell 0 (by simp); have z1 : (_ : Option Value) = some (.int .i64 0) := X9.B.Z.cell 1 (by simp); have z2 : (_ : Option Value) = some (.int .i64 0) := X9.B.Z.cell 2 (by simp); have z3 : (_ : Option Value) = some (.int .i64 0) := X9.B.Z.cell 3 (by simp); have z4 : (_ : Option Value) = some (.slice none 0 0) := X9.B.Z.cell 4 (by simp); have z5 : (_ : Option Value) = some (.int .i64 0) := X9.B.Z.cell 5 (by simp); have z6 : (_ : Option Value) = some (.int .i64 0) := X9.B.Z.cell 6 (by simp); have z7 : (_ : Option Value) = some (.slice none 0 0) := X9.B.Z.cell 7 (by simp); have hfz := fun j => X9.B.Z.free j)
              have E := set8 (bs2 := 0) (z := w.heap.size) (Nat.le_refl _) X9.B.S X9.B.G X9.RL X9.RM (Nat.lt_succ_self _) (Nat.ne_of_gt hgl) (.int .i64 ca) (.int .i64 ha) (.int .i64 pa) (.int .i64 sa) (.slice (some ⟨b2, 0, none⟩) L2.length cL2) (.int .i64 k) (.int .i64 r) (.slice (some ⟨bM, 0, none⟩) M.length cM)
              refine bodyPost_ret (v := .agg #[.int .i64 ca, .int .i64 ha, .int .i64 pa, .int .i64 sa, .slice (some ⟨b2, 0, none⟩) L2.length cL2, .int .i64 k, .int .i64 r, .slice (some ⟨bM, 0, none⟩) M.length cM]) (by simp [results, Try.results14, go_sem, World.cell?_setCell_other, z0, z1, z2, z3, z4, z5, z6, z7]) rfl ⟨ca, ha, pa, sa, k, r, L2, M, _, cL2, _, cM, rfl, E.1, E.2.1, by first | omega | exact H8.out, by first | omega | exact H9.out, hok2, E.2.2.1.more (by omega), E.2.2.2⟩
            · have n0 : (x == 0) = false := by simp; omega
              have n1 : (x == 1) = false := by simp; omega
              have n2 : (x == 2) = false := by simp; omega
              have n3 : (x == 3) = false := by simp; omega
              have s0 : (_ : Option Value) = some (.int .i64 c) := X.B.F.cell 0 (by simp)
              have s1 : (_ : Option Value) = some (.int .i64 h) := X.B.F.cell 1 (by simp)
              have s2 : (_ : Option Value) = some (.int .i64 p) := X.B.F.cell 2 (by simp)
              have s3 : (_ : Option Value) = some (.int .i64 s) := X.B.F.cell 3 (by simp)
              have s4 : (_ : Option Value) = some (.slice (some ⟨bL, 0, none⟩) L.length cL) := X.B.F.cell 4 (by simp)
              have s5 : (_ : Option Value) = some (.int .i64 k) := X.B.F.cell 5 (by simp)
              have s6 : (_ : Option Value) = some (.int .i64 r) := X.B.F.cell 6 (by simp)
              have s7 : (_ : Option Value) = some (.slice (some ⟨bM, 0, none⟩) M.length cM) := X.B.F.cell 7 (by simp)
              have hfs := fun j => X.B.F.free j
              have ss := fun (o : Obj) => (show (w8.alloc o).cell? _ = some (.slice (some ⟨bM, 0, none⟩) M.length cM) from (X.al o).B.F.cell 7 (by simp))
              have hbase : w.heap.size + 1 ≤ w8.heap.size := by have := X.B.F.lt; have := X.B.hf; omega
              go_wp2_with (at_builtin; go_must (refine wpList_appF (f := fI) rfl (.tmp 59) (.tmp 60) 27 rfl eltI (by decide) _ M rfl X.RM _ _ _ 1 rfl (cellsI _) rfl (oneI _) (by omega) hbase ?_); intro v' w9 hown' hg' hat' hbl'; obtain ⟨A9, c9, rfl⟩ := own_form hown'; obtain ⟨b9, _, hve, hb90, hb91⟩ := World.ownsRow.form hown' (by rw [List.length_append, List.length_singleton]; omega); cases hve; obtain ⟨M2, hM2⟩ : ∃ M2, M2 = M ++ [0] := ⟨_, rfl⟩; rw [← hM2] at hown' ⊢; have H9 := Lib.hid (show M2.length ≤ 200 by rw [hM2, List.length_append, List.length_singleton]; omega); clear hM2 s0 s1 s2 s3 s4 s5 s6 s7 hfs ss; obtain ⟨B9, X9⟩ := (X.al _).newM hg' hown' (by rcases hat' with q | q; exact .inl (Option.some.inj q); right; have q2 : b9 = w8.heap.size + 1 := Option.some.inj q; rw [World.size_alloc]; omega); have c7q : (_ : Option Value) = some (.slice (some ⟨bM, 0, none⟩) M.length cM) := B9.F.cell 7 (by simp); have c7f := B9.F.free 7; have f0 : (_ : Option Value) = some (.int .i64 c) := X9.B.F.cell 0 (by simp); have f1 : (_ : Option Value) = some (.int .i64 h) := X9.B.F.cell 1 (by simp); have f2 : (_ : Option Value) = some (.int .i64 p) := X9.B.F.cell 2 (by simp); have f3 : (_ : Option Value) = some (.int .i64 s) := X9.B.F.cell 3 (by simp); have f4 : (_ : Option Value) = some (.slice (some ⟨bL, 0, none⟩) L.length cL) := X9.B.F.cell 4 (by simp); have f5 : (_ : Option Value) = some (.int .i64 k) := X9.B.F.cell 5 (by simp); have f6 : (_ : Option Value) = some (.int .i64 r) := X9.B.F.cell 6 (by simp); have f7 : (_ : Option Value) = some (.slice (some ⟨b9, 0, none⟩) M2.length c9) := X9.B.F.cell 7 (by simp); have z0 : (_ : Option Value) = some (.int .i64 0) := X9.B.Z.cell 0 (by simp); have z1 : (_ : Option Value) = some (.int .i64 0) := X9.B.Z.cell 1 (by simp); have z2 : (_ : Option Value) = some (.int .i64 0) := X9.B.Z.cell 2 (by simp); have z3 : (_ : Option Value) = some (.int .i64 0) := X9.B.Z.cell 3 (by simp); have z4 : (_ : Option Value) = some (.slice none 0 0) := X9.B.Z.cell 4 (by simp); have z5 : (_ : Option Value) = some (.int .i64 0) := X9.B.Z.cell 5 (by simp); have z6 : (_ : Option Value) = some (.int .i64 0) := X9.B.Z.cell 6 (by simp); have z7 : (_ : Option Value) = some (.slice none 0 0) := X9.B.Z.cell 7 (by simp); have hfz := fun j => X9.B.Z.free j)
              have E := set8 (bs2 := 0) (z := w.heap.size) (Nat.le_refl _) X9.B.S X9.B.G X9.RL X9.RM (Nat.lt_succ_self _) (Nat.ne_of_gt hgl) (.int .i64 c) (.int .i64 h) (.int .i64 p) (.int .i64 s) (.slice (some ⟨bL, 0, none⟩) L.length cL) (.int .i64 k) (.int .i64 r) (.slice (some ⟨b9, 0, none⟩) M2.length c9)
              refine bodyPost_ret (v := .agg #[.int .i64 c, .int .i64 h, .int .i64 p, .int .i64 s, .slice (some ⟨bL, 0, none⟩) L.length cL, .int .i64 k, .int .i64 r, .slice (some ⟨b9, 0, none⟩) M2.length c9]) (by simp [results, Try.results14, go_sem, World.cell?_setCell_other, z0, z1, z2, z3, z4, z5, z6, z7]) rfl ⟨c, h, p, s, k, r, L, M2, _, cL, _, c9, rfl, E.1, E.2.1, by first | omega | exact H8.out, by first | omega | exact H9.out, hok, E.2.2.1.more (by omega), E.2.2.2⟩
end Go.Proofs.Ytcfeelecfmepaaa
namespace Go.Proofs.Ytcfeelecfmepaaa
set_option linter.unusedVariables false
open Go.RowKit

structure DY (w0 W : World) (f g : Nat) (c h p s k r : Int) (A4 : Option Addr) (c4 : Nat) (L : List DSector) (A7 : Option Addr) (c7 : Nat) (M : List Int) (A : Option Addr) (n cc N : Nat) : Prop where
  Z : BX W w0.heap.size 29 [.int .i64 0, .int .i64 0, .int .i64 0, .int .i64 0, .slice none 0 0, .int .i64 0, .int .i64 0, .slice none 0 0]
  F : BX W f 29 [.int .i64 c, .int .i64 h, .int .i64 p, .int .i64 s, .slice A4 L.length c4, .int .i64 k, .int .i64 r, .slice A7 M.length c7]
  S : SR W g A n cc N
  H : Below w0.heap.size w0 W
  hg : w0.heap.size < g
  hgf : g < f
  O : World.ownsRow W (w0.heap.size + 1) 53 2 (.slice A4 L.length c4) L.length (flat fSector L)
  O2 : World.ownsRow W (w0.heap.size + 1) 2 1 (.slice A7 M.length c7) M.length (flat fI M)
  n1 : (Value.slice A4 L.length c4).ownBlock ≠ some g
  n2 : (Value.slice A7 M.length c7).ownBlock ≠ some g
section
variable {w0 W W' : World} {f g c4 c7 n cc N N' : Nat} {c h p s k r : Int} {L : List DSector} {M : List Int} {A A4 A7 : Option Addr}
theorem DY.grown (X : DY w0 W f g c h p s k r A4 c4 L A7 c7 M A n cc N) (q : W.grownBy W' (some g)) (S' : SR W' g A n cc N') : DY w0 W' f g c h p s k r A4 c4 L A7 c7 M A n cc N' :=
  ⟨BX.past X.Z q (Nat.ne_of_lt X.hg), BX.past X.F q (Nat.ne_of_gt X.hgf), S', X.H.trans (below_gr q X.H.size (Nat.le_of_lt X.hg)), X.hg, X.hgf, World.ownsRow.kept X.O q (.inr X.n1), World.ownsRow.kept X.O2 q (.inr X.n2), X.n1, X.n2⟩
theorem DY.dr (X : DY w0 W f g c h p s k r A4 c4 L A7 c7 M A n cc N) : DY w0 W.drew f g c h p s k r A4 c4 L A7 c7 M A n cc N := ⟨X.Z, X.F, X.S, X.H.drew, X.hg, X.hgf, X.O, X.O2, X.n1, X.n2⟩
theorem DY.fin (X : DY w0 W f g c h p s k r A4 c4 L A7 c7 M A n cc N) (u0 u1 u2 u3 u4 u5 u6 u7 : Value) :
    World.ownsRow ((((((((W.setCell ⟨w0.heap.size, 0, none⟩ (u0)).setCell ⟨w0.heap.size, 1, none⟩ (u1)).setCell ⟨w0.heap.size, 2, none⟩ (u2)).setCell ⟨w0.heap.size, 3, none⟩ (u3)).setCell ⟨w0.heap.size, 4, none⟩ (u4)).setCell ⟨w0.heap.size, 5, none⟩ (u5)).setCell ⟨w0.heap.size, 6, none⟩ (u6)).setCell ⟨w0.heap.size, 7, none⟩ (u7)) w0.heap.size 53 2 (.slice A4 L.length c4) L.length (flat fSector L) ∧ World.ownsRow ((((((((W.setCell ⟨w0.heap.size, 0, none⟩ (u0)).setCell ⟨w0.heap.size, 1, none⟩ (u1)).setCell ⟨w0.heap.size, 2, none⟩ (u2)).setCell ⟨w0.heap.size, 3, none⟩ (u3)).setCell ⟨w0.heap.size, 4, none⟩ (u4)).setCell ⟨w0.heap.size, 5, none⟩ (u5)).setCell ⟨w0.heap.size, 6, none⟩ (u6)).setCell ⟨w0.heap.size, 7, none⟩ (u7)) w0.heap.size 2 1 (.slice A7 M.length c7) M.length (flat fI M) ∧ Below w0.heap.size w0 ((((((((W.setCell ⟨w0.heap.size, 0, none⟩ (u0)).setCell ⟨w0.heap.size, 1, none⟩ (u1)).setCell ⟨w0.heap.size, 2, none⟩ (u2)).setCell ⟨w0.heap.size, 3, none⟩ (u3)).setCell ⟨w0.heap.size, 4, none⟩ (u4)).setCell ⟨w0.heap.size, 5, none⟩ (u5)).setCell ⟨w0.heap.size, 6, none⟩ (u6)).setCell ⟨w0.heap.size, 7, none⟩ (u7)) := by
  have h1 : ∀ (W : World) (j : Nat) (u : Value), OO W (w0.heap.size + 1) 53 2 (.slice A4 L.length c4) L.length (flat fSector L) → OO (W.setCell ⟨w0.heap.size, j, none⟩ u) (w0.heap.size + 1) 53 2 (.slice A4 L.length c4) L.length (flat fSector L) := fun W j u h => ownsRow_setCell_below h (Nat.lt_succ_self _) u
  have h2 : ∀ (W : World) (j : Nat) (u : Value), OO W (w0.heap.size + 1) 2 1 (.slice A7 M.length c7) M.length (flat fI M) → OO (W.setCell ⟨w0.heap.size, j, none⟩ u) (w0.heap.size + 1) 2 1 (.slice A7 M.length c7) M.length (flat fI M) := fun W j u h => ownsRow_setCell_below h (Nat.lt_succ_self _) u
  have h3 : ∀ (W : World) (j : Nat) (u : Value), Below w0.heap.size w0 W → Below w0.heap.size w0 (W.setCell ⟨w0.heap.size, j, none⟩ u) := fun W j u h => h.trans (below_gr (grownBy_set0 W _ j u) h.size (Nat.le_refl _))
  exact ⟨own_base (h1 _ _ _ (h1 _ _ _ (h1 _ _ _ (h1 _ _ _ (h1 _ _ _ (h1 _ _ _ (h1 _ _ _ (h1 _ _ _ X.O)))))))) (Nat.le_succ _), own_base (h2 _ _ _ (h2 _ _ _ (h2 _ _ _ (h2 _ _ _ (h2 _ _ _ (h2 _ _ _ (h2 _ _ _ (h2 _ _ _ X.O2)))))))) (Nat.le_succ _), (h3 _ _ _ (h3 _ _ _ (h3 _ _ _ (h3 _ _ _ (h3 _ _ _ (h3 _ _ _ (h3 _ _ _ (h3 _ _ _ X.H))))))))⟩
end

set_option maxRecDepth 100000 in
set_option maxHeartbeats 8000000 in
theorem drawWDB_any (A : Option Addr) (n cc : Nat) (l : List UInt8) (w : World) (hn : l.length = n) (hr : Rd w w.heap.size 1 A n (flat fU l)) (hn2 : n ≤ maxLen) :
    Calls Try.prog 5 #[.slice A n cc] w fun e w' => ∃ (c h p s k r : Int) (L : List DSector) (M : List Int) (A4 : Option Addr) (c4 : Nat) (A7 : Option Addr) (c7 : Nat) (b : Int) (d : ByteArray), e = .returned (.tuple #[.agg #[.int .i64 c, .int .i64 h, .int .i64 p, .int .i64 s, .slice A4 L.length c4, .int .i64 k, .int .i64 r, .slice A7 M.length c7], .int .i64 b, .string d]) ∧ w'.ownsRow w.heap.size 53 2 (.slice A4 L.length c4) L.length (flat fSector L) ∧ w'.ownsRow w.heap.size 2 1 (.slice A7 M.length c7) M.length (flat fI M) ∧ L.length ≤ 200 ∧ M.length ≤ 200 ∧ (∀ x ∈ L, okSector x) ∧ d.size ≤ 600 ∧ Below w.heap.size w w' := by
  have Z0 := BX.made w 29 [.int .i64 0, .int .i64 0, .int .i64 0, .int .i64 0, .slice none 0 0, .int .i64 0, .int .i64 0, .slice none 0 0]
  go_enter Try.func5, Try.ntmps5
  go_upto_region 3 with (first
    | (go_at_call 14; (with_reducible refine (l15Draw_any g n cc 0 w.heap.size A l w1 S1 hn (hr.below hx2) (by omega) hx2.size (by omega) hn2).mono ?_); rintro e w2 ⟨c, h, p, s, k, r, L, M, A4, c4, A7, c7, rfl, O1, O2, hL, hM, hok, S2, hg2⟩; have hgl := S1.lt; have hs2 := hg2.size; have X : DY w (w2.alloc (.cells #[.int .i64 c, .int .i64 h, .int .i64 p, .int .i64 s, .slice A4 L.length c4, .int .i64 k, .int .i64 r, .slice A7 M.length c7] 29)) w2.heap.size g c h p s k r A4 c4 L A7 c7 M A n cc 50000 := ⟨(BX.past Z1 hg2 (by omega)).al _, BX.made w2 29 [.int .i64 c, .int .i64 h, .int .i64 p, .int .i64 s, .slice A4 L.length c4, .int .i64 k, .int .i64 r, .slice A7 M.length c7], (S2.more (by omega)).al _, below_alloc (hx2.trans (below_gr hg2 hx2.size (by omega))) _, by omega, by omega, own_base (World.ownsRow.alloc O1 _) (by have := hx2.size; omega), own_base (World.ownsRow.alloc O2 _) (by have := hx2.size; omega), fun e => (by have := (World.ownsRow.lt O1 g e).1; omega), fun e => (by have := (World.ownsRow.lt O2 g e).1; omega)⟩)
    | (go_at_call 13; (with_reducible refine (from_any A n cc _).mono ?_); rintro e w1 ⟨g, rfl, hg0, S1, hx1⟩; rw [World.size_alloc] at hg0; have Z1 := Z0.below hx1 Z0.lt; have hx2 : Below w.heap.size w w1 := (below_alloc (Below.refl _ _) _).trans (hx1.mono (by rw [World.size_alloc]; exact Nat.le_succ _))))
  clear Z0 Z1 S1 hx1 hx2 hg2 S2 O1 O2
  generalize w2.alloc (.cells #[.int .i64 c, .int .i64 h, .int .i64 p, .int .i64 s, .slice A4 L.length c4, .int .i64 k, .int .i64 r, .slice A7 M.length c7] 29) = w3 at X ⊢
  generalize w2.heap.size = f at X ⊢
  have f0 : (_ : Option Value) = some (.int .i64 c) := X.F.cell 0 (by simp)
  have f1 : (_ : Option Value) = some (.int .i64 h) := X.F.cell 1 (by simp)
  have f2 : (_ : Option Value) = some (.int .i64 p) := X.F.cell 2 (by simp)
  have f3 : (_ : Option Value) = some (.int .i64 s) := X.F.cell 3 (by simp)
  have f4 : (_ : Option Value) = some (.slice A4 L.length c4) := X.F.cell 4 (by simp)
  have f5 : (_ : Option Value) = some (.int .i64 k) := X.F.cell 5 (by simp)
  have f6 : (_ : Option Value) = some (.int .i64 r) := X.F.cell 6 (by simp)
  have f7 : (_ : Option Value) = some (.slice A7 M.length c7) := X.F.cell 7 (by simp)
  by_cases hs : inB s 0 2 = true
  · have hs2 : 0 ≤ s ∧ s ≤ 2 := by simpa only [inB, Bool.and_eq_true, decide_eq_true_eq] using hs
    obtain ⟨m, hm, hm2⟩ : ∃ m : Nat, szB s = (m : Int) ∧ m ≤ 512 := by
      have : s = 0 ∨ s = 1 ∨ s = 2 := by omega
      rcases this with rfl | rfl | rfl
      · exact ⟨8, by decide, by decide⟩
      · exact ⟨16, by decide, by decide⟩
      · exact ⟨32, by decide, by decide⟩
    have dd := drawData_any m g n cc _ w.heap.size A l _ X.S hn (hr.below X.H) (Nat.le_of_lt X.hg) X.H.size (by omega) hn2 (by omega)
    go_upto_if 25 with (first
      | (go_at_call 18; (with_reducible refine (one_any 9 g n cc _ w.heap.size A l _ X.S hn (hr.below X.H) (Nat.le_of_lt X.hg) X.H.size (by omega) hn2 (by decide)).mono ?_); rintro e w5 ⟨q, rfl, S5, hg5⟩; replace X := X.grown hg5 S5)
      | (go_at_call 17; (with_reducible refine dd.mono ?_); rintro e w4 ⟨d, rfl, hd, S4, hg4⟩; replace X := X.grown hg4 S4)
      | (go_at_call 16; (with_reducible refine (l12Bytes_any s hs2.1 hs2.2 _).mono ?_); rintro e w9 ⟨rfl, rfl⟩; rw [hm])
      | (go_at_call 15; (with_reducible refine (l00In_any s 0 2 _).mono ?_); rintro e w9 ⟨rfl, rfl⟩; rw [hs]))
    clear dd S4 hg4 S5 hg5
    clear f0 f1 f2 f3 f4 f5 f6 f7
    have hwM : IntKind.i64.wrap ((M.length : Int) + 2) = (M.length : Int) + 2 := IntWalk.i64_in _ (by omega)
    have XA := X.dr
    have a0 : (World.drew w5).cell? _ = some (.int .i64 c) := XA.F.cell 0 (by simp)
    have a1 : (World.drew w5).cell? _ = some (.int .i64 h) := XA.F.cell 1 (by simp)
    have a2 : (World.drew w5).cell? _ = some (.int .i64 p) := XA.F.cell 2 (by simp)
    have a3 : (World.drew w5).cell? _ = some (.int .i64 s) := XA.F.cell 3 (by simp)
    have a4 : (World.drew w5).cell? _ = some (.slice A4 L.length c4) := XA.F.cell 4 (by simp)
    have a5 : (World.drew w5).cell? _ = some (.int .i64 k) := XA.F.cell 5 (by simp)
    have a6 : (World.drew w5).cell? _ = some (.int .i64 r) := XA.F.cell 6 (by simp)
    have a7 : (World.drew w5).cell? _ = some (.slice A7 M.length c7) := XA.F.cell 7 (by simp)
    have pk := pick_any ((M.length : Int) + 2) g n cc _ w.heap.size A l _ XA.S hn (hr.below XA.H) (Nat.le_of_lt XA.hg) XA.H.size (by omega) hn2 (by omega)
    cases q
    · go_upto_region 9 with fail
      go_region_law (go_simp; (go_at_call 19; (with_reducible refine pk.mono ?_); rintro e w6 ⟨y, rfl, hy0, hy1, S6, hg6⟩; have X6 := XA.grown hg6 S6; have t0 : (_ : Option Value) = some (.int .i64 c) := X6.F.cell 0 (by simp); have t1 : (_ : Option Value) = some (.int .i64 h) := X6.F.cell 1 (by simp); have t2 : (_ : Option Value) = some (.int .i64 p) := X6.F.cell 2 (by simp); have t3 : (_ : Option Value) = some (.int .i64 s) := X6.F.cell 3 (by simp); have t4 : (_ : Option Value) = some (.slice A4 L.length c4) := X6.F.cell 4 (by simp); have t5 : (_ : Option Value) = some (.int .i64 k) := X6.F.cell 5 (by simp); have t6 : (_ : Option Value) = some (.int .i64 r) := X6.F.cell 6 (by simp); have t7 : (_ : Option Value) = some (.slice A7 M.length c7) := X6.F.cell 7 (by simp); have z0 : (_ : Option Value) = some (.int .i64 0) := X6.Z.cell 0 (by simp); have z1 : (_ : Option Value) = some (.int .i64 0) := X6.Z.cell 1 (by simp); have z2 : (_ : Option Value) = some (.int .i64 0) := X6.Z.cell 2 (by simp); have z3 : (_ : Option Value) = some (.int .i64 0) := X6.Z.cell 3 (by simp); have z4 : (_ : Option Value) = some (.slice none 0 0) := X6.Z.cell 4 (by simp); have z5 : (_ : Option Value) = some (.int .i64 0) := X6.Z.cell 5 (by simp); have z6 : (_ : Option Value) = some (.int .i64 0) := X6.Z.cell 6 (by simp); have z7 : (_ : Option Value) = some (.slice none 0 0) := X6.Z.cell 7 (by simp); have hfz := (fun j => X6.Z.free j); have hwy : IntKind.i64.wrap (y - 1) = y - 1 := IntWalk.i64_in _ (by omega)))
      all_goals
        go_wp2
        have E := X6.fin (.int .i64 c) (.int .i64 h) (.int .i64 p) (.int .i64 s) (.slice A4 L.length c4) (.int .i64 k) (.int .i64 r) (.slice A7 M.length c7)
        refine bodyPost_ret (v := .tuple #[.agg #[.int .i64 c, .int .i64 h, .int .i64 p, .int .i64 s, .slice A4 L.length c4, .int .i64 k, .int .i64 r, .slice A7 M.length c7], .int .i64 (y - 1), .string d]) (by simp [results, Try.results5, go_sem, World.cell?_setCell_other, z0, z1, z2, z3, z4, z5, z6, z7]) rfl ⟨c, h, p, s, k, r, L, M, A4, c4, A7, c7, y - 1, d, rfl, E.1, E.2.1, hL, hM, hok, by rw [hd]; omega, E.2.2⟩
    · go_upto_region 9 with fail
      go_region_law (go_simp; (go_at_call 19; (with_reducible refine pk.mono ?_); rintro e w6 ⟨y, rfl, hy0, hy1, S6, hg6⟩; have X6 := XA.grown hg6 S6; have t0 : (_ : Option Value) = some (.int .i64 c) := X6.F.cell 0 (by simp); have t1 : (_ : Option Value) = some (.int .i64 h) := X6.F.cell 1 (by simp); have t2 : (_ : Option Value) = some (.int .i64 p) := X6.F.cell 2 (by simp); have t3 : (_ : Option Value) = some (.int .i64 s) := X6.F.cell 3 (by simp); have t4 : (_ : Option Value) = some (.slice A4 L.length c4) := X6.F.cell 4 (by simp); have t5 : (_ : Option Value) = some (.int .i64 k) := X6.F.cell 5 (by simp); have t6 : (_ : Option Value) = some (.int .i64 r) := X6.F.cell 6 (by simp); have t7 : (_ : Option Value) = some (.slice A7 M.length c7) := X6.F.cell 7 (by simp); have z0 : (_ : Option Value) = some (.int .i64 0) := X6.Z.cell 0 (by simp); have z1 : (_ : Option Value) = some (.int .i64 0) := X6.Z.cell 1 (by simp); have z2 : (_ : Option Value) = some (.int .i64 0) := X6.Z.cell 2 (by simp); have z3 : (_ : Option Value) = some (.int .i64 0) := X6.Z.cell 3 (by simp); have z4 : (_ : Option Value) = some (.slice none 0 0) := X6.Z.cell 4 (by simp); have z5 : (_ : Option Value) = some (.int .i64 0) := X6.Z.cell 5 (by simp); have z6 : (_ : Option Value) = some (.int .i64 0) := X6.Z.cell 6 (by simp); have z7 : (_ : Option Value) = some (.slice none 0 0) := X6.Z.cell 7 (by simp); have hfz := (fun j => X6.Z.free j); have hwy : IntKind.i64.wrap (y - 1) = y - 1 := IntWalk.i64_in _ (by omega)))
      all_goals
        go_wp2
        have E := X6.fin (.int .i64 c) (.int .i64 h) (.int .i64 p) (.int .i64 s) (.slice A4 L.length c4) (.int .i64 k) (.int .i64 r) (.slice A7 M.length c7)
        refine bodyPost_ret (v := .tuple #[.agg #[.int .i64 c, .int .i64 h, .int .i64 p, .int .i64 s, .slice A4 L.length c4, .int .i64 k, .int .i64 r, .slice A7 M.length c7], .int .i64 (y - 1), .string (d ++ ⟨#[120]⟩)]) (by simp [results, Try.results5, go_sem, World.cell?_setCell_other, z0, z1, z2, z3, z4, z5, z6, z7]) rfl ⟨c, h, p, s, k, r, L, M, A4, c4, A7, c7, y - 1, (d ++ ⟨#[120]⟩), rfl, E.1, E.2.1, hL, hM, hok, by rw [ByteArray.size_append, hd]; show _ + 1 ≤ 600; omega, E.2.2⟩
  · have hs1 : inB s 0 2 = false := by simpa using hs
    have dd := drawData_any 8 g n cc _ w.heap.size A l _ X.S hn (hr.below X.H) (Nat.le_of_lt X.hg) X.H.size (by omega) hn2 (by omega)
    rw [show ((8 : Nat) : Int) = 8 from rfl] at dd
    go_upto_if 25 with (first
      | (go_at_call 18; (with_reducible refine (one_any 9 g n cc _ w.heap.size A l _ X.S hn (hr.below X.H) (Nat.le_of_lt X.hg) X.H.size (by omega) hn2 (by decide)).mono ?_); rintro e w5 ⟨q, rfl, S5, hg5⟩; replace X := X.grown hg5 S5)
      | (go_at_call 17; (with_reducible refine dd.mono ?_); rintro e w4 ⟨d, rfl, hd, S4, hg4⟩; replace X := X.grown hg4 S4)
      | (go_at_call 15; (with_reducible refine (l00In_any s 0 2 _).mono ?_); rintro e w9 ⟨rfl, rfl⟩; rw [hs1]))
    clear dd S4 hg4 S5 hg5
    clear f0 f1 f2 f3 f4 f5 f6 f7
    have hwM : IntKind.i64.wrap ((M.length : Int) + 2) = (M.length : Int) + 2 := IntWalk.i64_in _ (by omega)
    have XA := X.dr
    have a0 : (World.drew w5).cell? _ = some (.int .i64 c) := XA.F.cell 0 (by simp)
    have a1 : (World.drew w5).cell? _ = some (.int .i64 h) := XA.F.cell 1 (by simp)
    have a2 : (World.drew w5).cell? _ = some (.int .i64 p) := XA.F.cell 2 (by simp)
    have a3 : (World.drew w5).cell? _ = some (.int .i64 s) := XA.F.cell 3 (by simp)
    have a4 : (World.drew w5).cell? _ = some (.slice A4 L.length c4) := XA.F.cell 4 (by simp)
    have a5 : (World.drew w5).cell? _ = some (.int .i64 k) := XA.F.cell 5 (by simp)
    have a6 : (World.drew w5).cell? _ = some (.int .i64 r) := XA.F.cell 6 (by simp)
    have a7 : (World.drew w5).cell? _ = some (.slice A7 M.length c7) := XA.F.cell 7 (by simp)
    have pk := pick_any ((M.length : Int) + 2) g n cc _ w.heap.size A l _ XA.S hn (hr.below XA.H) (Nat.le_of_lt XA.hg) XA.H.size (by omega) hn2 (by omega)
    cases q
    · go_upto_region 9 with fail
      go_region_law (go_simp; (go_at_call 19; (with_reducible refine pk.mono ?_); rintro e w6 ⟨y, rfl, hy0, hy1, S6, hg6⟩; have X6 := XA.grown hg6 S6; have t0 : (_ : Option Value) = some (.int .i64 c) := X6.F.cell 0 (by simp); have t1 : (_ : Option Value) = some (.int .i64 h) := X6.F.cell 1 (by simp); have t2 : (_ : Option Value) = some (.int .i64 p) := X6.F.cell 2 (by simp); have t3 : (_ : Option Value) = some (.int .i64 s) := X6.F.cell 3 (by simp); have t4 : (_ : Option Value) = some (.slice A4 L.length c4) := X6.F.cell 4 (by simp); have t5 : (_ : Option Value) = some (.int .i64 k) := X6.F.cell 5 (by simp); have t6 : (_ : Option Value) = some (.int .i64 r) := X6.F.cell 6 (by simp); have t7 : (_ : Option Value) = some (.slice A7 M.length c7) := X6.F.cell 7 (by simp); have z0 : (_ : Option Value) = some (.int .i64 0) := X6.Z.cell 0 (by simp); have z1 : (_ : Option Value) = some (.int .i64 0) := X6.Z.cell 1 (by simp); have z2 : (_ : Option Value) = some (.int .i64 0) := X6.Z.cell 2 (by simp); have z3 : (_ : Option Value) = some (.int .i64 0) := X6.Z.cell 3 (by simp); have z4 : (_ : Option Value) = some (.slice none 0 0) := X6.Z.cell 4 (by simp); have z5 : (_ : Option Value) = some (.int .i64 0) := X6.Z.cell 5 (by simp); have z6 : (_ : Option Value) = some (.int .i64 0) := X6.Z.cell 6 (by simp); have z7 : (_ : Option Value) = some (.slice none 0 0) := X6.Z.cell 7 (by simp); have hfz := (fun j => X6.Z.free j); have hwy : IntKind.i64.wrap (y - 1) = y - 1 := IntWalk.i64_in _ (by omega)))
      all_goals
        go_wp2
        have E := X6.fin (.int .i64 c) (.int .i64 h) (.int .i64 p) (.int .i64 s) (.slice A4 L.length c4) (.int .i64 k) (.int .i64 r) (.slice A7 M.length c7)
        refine bodyPost_ret (v := .tuple #[.agg #[.int .i64 c, .int .i64 h, .int .i64 p, .int .i64 s, .slice A4 L.length c4, .int .i64 k, .int .i64 r, .slice A7 M.length c7], .int .i64 (y - 1), .string d]) (by simp [results, Try.results5, go_sem, World.cell?_setCell_other, z0, z1, z2, z3, z4, z5, z6, z7]) rfl ⟨c, h, p, s, k, r, L, M, A4, c4, A7, c7, y - 1, d, rfl, E.1, E.2.1, hL, hM, hok, by rw [hd]; omega, E.2.2⟩
    · go_upto_region 9 with fail
      go_region_law (go_simp; (go_at_call 19; (with_reducible refine pk.mono ?_); rintro e w6 ⟨y, rfl, hy0, hy1, S6, hg6⟩; have X6 := XA.grown hg6 S6; have t0 : (_ : Option Value) = some (.int .i64 c) := X6.F.cell 0 (by simp); have t1 : (_ : Option Value) = some (.int .i64 h) := X6.F.cell 1 (by simp); have t2 : (_ : Option Value) = some (.int .i64 p) := X6.F.cell 2 (by simp); have t3 : (_ : Option Value) = some (.int .i64 s) := X6.F.cell 3 (by simp); have t4 : (_ : Option Value) = some (.slice A4 L.length c4) := X6.F.cell 4 (by simp); have t5 : (_ : Option Value) = some (.int .i64 k) := X6.F.cell 5 (by simp); have t6 : (_ : Option Value) = some (.int .i64 r) := X6.F.cell 6 (by simp); have t7 : (_ : Option Value) = some (.slice A7 M.length c7) := X6.F.cell 7 (by simp); have z0 : (_ : Option Value) = some (.int .i64 0) := X6.Z.cell 0 (by simp); have z1 : (_ : Option Value) = some (.int .i64 0) := X6.Z.cell 1 (by simp); have z2 : (_ : Option Value) = some (.int .i64 0) := X6.Z.cell 2 (by simp); have z3 : (_ : Option Value) = some (.int .i64 0) := X6.Z.cell 3 (by simp); have z4 : (_ : Option Value) = some (.slice none 0 0) := X6.Z.cell 4 (by simp); have z5 : (_ : Option Value) = some (.int .i64 0) := X6.Z.cell 5 (by simp); have z6 : (_ : Option Value) = some (.int .i64 0) := X6.Z.cell 6 (by simp); have z7 : (_ : Option Value) = some (.slice none 0 0) := X6.Z.cell 7 (by simp); have hfz := (fun j => X6.Z.free j); have hwy : IntKind.i64.wrap (y - 1) = y - 1 := IntWalk.i64_in _ (by omega)))
      all_goals
        go_wp2
        have E := X6.fin (.int .i64 c) (.int .i64 h) (.int .i64 p) (.int .i64 s) (.slice A4 L.length c4) (.int .i64 k) (.int .i64 r) (.slice A7 M.length c7)
        refine bodyPost_ret (v := .tuple #[.agg #[.int .i64 c, .int .i64 h, .int .i64 p, .int .i64 s, .slice A4 L.length c4, .int .i64 k, .int .i64 r, .slice A7 M.length c7], .int .i64 (y - 1), .string (d ++ ⟨#[120]⟩)]) (by simp [results, Try.results5, go_sem, World.cell?_setCell_other, z0, z1, z2, z3, z4, z5, z6, z7]) rfl ⟨c, h, p, s, k, r, L, M, A4, c4, A7, c7, y - 1, (d ++ ⟨#[120]⟩), rfl, E.1, E.2.1, hL, hM, hok, by rw [ByteArray.size_append, hd]; show _ + 1 ≤ 600; omega, E.2.2⟩
end Go.Proofs.Ytcfeelecfmepaaa
