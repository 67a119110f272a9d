/- Walks: a drawn disc. -/
import Derived.Test.YtjahgknehamlpaaD2
import Derived.Test.YtjahgknehamlpaaW61
import Derived.Test.YtjahgknehamlpaaW80s
import Derived.Test.YtjahgknehamlpaaW1
import Derived.Deep.RegionLaw
namespace Go.Proofs.Ytjahgknehamlpaa
open Go.RowKit
set_option linter.unusedVariables false

theorem OO.past {w w' : World} {base size n b g cap : Nat} {xs : List Value} {e : TypeId} (O : OO w base e size (.slice (some ⟨b, 0, none⟩) n cap) n xs) (hg : w.grownBy w' (some g)) (h : b ≠ g) : OO w' base e size (.slice (some ⟨b, 0, none⟩) n cap) n xs := World.ownsRow.kept O hg (.inr (fun e => h (Option.some.inj e)))
theorem BX.past {w w' : World} {D g : Nat} {t : TypeId} {vs : List Value} (F : BX w D t vs) (hg : w.grownBy w' (some g)) (h : D ≠ g) : BX w' D t vs := F.grown hg (fun e => h (Option.some.inj e).symm)
theorem grownBy_set0 (W : World) (b j : Nat) (u : Value) : W.grownBy (W.setCell ⟨b, j, none⟩ u) (some b) := only_setCell (World.grownBy.refl W (some b)) (p := ⟨b, j, none⟩) (.inl rfl) u
theorem set_ok (L : List DSector) (k : Nat) (d : ByteArray) (st : Int) (h : ∀ x ∈ L, x.f0.size ≤ 32 ∧ 1 ≤ x.f1 ∧ x.f1 ≤ 4) (hd : d.size ≤ 32) (hst : st ∈ [1, 1, 1, 2, 4]) : ∀ x ∈ L.set k ⟨d, st⟩, x.f0.size ≤ 32 ∧ 1 ≤ x.f1 ∧ x.f1 ≤ 4 := by
  intro x hx
  rcases List.mem_or_eq_of_mem_set hx with hx | rfl
  · exact h x hx
  · simp at hst
    exact ⟨hd, by simp; omega, by simp; omega⟩
theorem rd_dr {w : World} {B size n : Nat} {A : Option Addr} {xs : List Value} (h : Rd w B size A n xs) : Rd w.drew B size A n xs := h
theorem hpos (c h p s : Int) (hg : geoB c h p s = true) : 0 < (newS c h p s).length ∧ (newS c h p s).length ≤ 128 := by
  obtain ⟨c1, c2, h1, h2, p1, p2, s1, s2⟩ := geoB_yes hg
  obtain ⟨m1, m2⟩ := prod2 c1 c2 h1 h2
  obtain ⟨q1, q2⟩ := prod3 m1 m2 p1 p2
  rw [newS_len, secN]
  omega
theorem newS_ok (c h p s : Int) (h0 : 0 ≤ s) (h2 : s ≤ 2) : ∀ x ∈ newS c h p s, x.f0.size ≤ 32 ∧ 1 ≤ x.f1 ∧ x.f1 ≤ 4 := by
  intro x hx
  have h : s = 0 ∨ s = 1 ∨ s = 2 := by omega
  rw [newS, List.mem_replicate] at hx
  rw [hx.2]
  rcases h with rfl | rfl | rfl <;> decide
set_option maxRecDepth 100000 in
set_option maxHeartbeats 4000000 in
theorem drawSmall_any (g n cc N B : Nat) (A : Option Addr) (l : List UInt8) (w : World) (S : SR w g A n cc N) (hn : l.length = n) (hr : Rd w B 1 A n (flat fU l)) (hBg : B ≤ g) (hB : B ≤ w.heap.size) (hN : N ≤ 700000000) (hn2 : n ≤ maxLen) :
    Calls Try.prog 62 #[.pointer (some ⟨g, 0, none⟩)] w fun e w' => ∃ (c h p s : Int) (L : List DSector) (v : Value), e = .returned (.agg #[.int .i64 c, .int .i64 h, .int .i64 p, .int .i64 s, v]) ∧ (1 ≤ c ∧ c ≤ 3) ∧ (1 ≤ h ∧ h ≤ 2) ∧ (1 ≤ p ∧ p ≤ 5) ∧ (0 ≤ s ∧ s ≤ 2) ∧ w'.ownsRow w.heap.size 72 2 v L.length (flat fSector L) ∧ L.length = (newS c h p s).length ∧ (∀ x ∈ L, x.f0.size ≤ 32 ∧ 1 ≤ x.f1 ∧ x.f1 ≤ 4) ∧ SR w' g A n cc (N + 20000) ∧ w.grownBy w' (some g) := by
  have hgl := S.lt
  have F0 := BX.made w 26 [.int .i64 0, .int .i64 0, .int .i64 0, .int .i64 0, .slice none 0 0]
  have S0 := S.al (.cells #[.int .i64 0, .int .i64 0, .int .i64 0, .int .i64 0, .slice none 0 0] 26)
  have hg0 : w.grownBy (w.alloc (.cells #[.int .i64 0, .int .i64 0, .int .i64 0, .int .i64 0, .slice none 0 0] 26)) (some g) := World.grownBy_alloc w _ _
  have hs0 : w.heap.size + 1 ≤ (w.alloc (.cells #[.int .i64 0, .int .i64 0, .int .i64 0, .int .i64 0, .slice none 0 0] 26)).heap.size := by rw [World.size_alloc]; omega
  go_enter Try.func62, Try.ntmps62
  go_wp2_with (first
    | (go_at_call 87; have hgeo : geoB (1 + x1) (1 + x2) (1 + x3) x4 = true := (by simp only [geoB, inB, Bool.and_eq_true, decide_eq_true_eq]; omega); have nw := l12New_any (1 + x1) (1 + x2) (1 + x3) x4 w4 hgeo; (with_reducible refine nw.mono ?_); rintro e w5 ⟨v, rfl, hown, hbl⟩; obtain ⟨b, vc, rfl, hb0, hb1⟩ := World.ownsRow.form hown (hpos _ _ _ _ hgeo).1)
    | (go_at_call 38; (have := m3; have pk := pick_any 3 g n cc _ B A l w3 S3 hn (grown_rd hr hg3 hBg hB) hBg (Nat.le_trans hB hg3.size) (by omega) hn2 (by decide); with_reducible refine pk.mono ?_; rintro e w4 ⟨x4, rfl, a4, b4, S4, hg4⟩; replace F0 := F0.grown hg4 (fun e => (by have := Option.some.inj e; omega)); replace hg4 := gr_trans hg3 hg4; have m4 := True.intro))
    | (go_at_call 38; (have := m2; have pk := pick_any 5 g n cc _ B A l w2 S2 hn (grown_rd hr hg2 hBg hB) hBg (Nat.le_trans hB hg2.size) (by omega) hn2 (by decide); with_reducible refine pk.mono ?_; rintro e w3 ⟨x3, rfl, a3, b3, S3, hg3⟩; have hw3 : IntKind.i64.wrap (1 + x3) = 1 + x3 := IntWalk.i64_in _ (by omega); replace F0 := F0.grown hg3 (fun e => (by have := Option.some.inj e; omega)); replace hg3 := gr_trans hg2 hg3; have m3 := True.intro))
    | (go_at_call 38; (have := m1; have pk := pick_any 2 g n cc _ B A l w1 S1 hn (grown_rd hr hg1 hBg hB) hBg (Nat.le_trans hB hg1.size) (by omega) hn2 (by decide); with_reducible refine pk.mono ?_; rintro e w2 ⟨x2, rfl, a2, b2, S2, hg2⟩; have hw2 : IntKind.i64.wrap (1 + x2) = 1 + x2 := IntWalk.i64_in _ (by omega); replace F0 := F0.grown hg2 (fun e => (by have := Option.some.inj e; omega)); replace hg2 := gr_trans hg1 hg2; have m2 := True.intro))
    | (go_at_call 38; (have pk := pick_any 3 g n cc _ B A l (w.alloc (.cells #[.int .i64 0, .int .i64 0, .int .i64 0, .int .i64 0, .slice none 0 0] 26)) S0 hn (grown_rd hr hg0 hBg hB) hBg (Nat.le_trans hB hg0.size) (by omega) hn2 (by decide); with_reducible refine pk.mono ?_; rintro e w1 ⟨x1, rfl, a1, b1, S1, hg1⟩; have hw1 : IntKind.i64.wrap (1 + x1) = 1 + x1 := IntWalk.i64_in _ (by omega); replace F0 := F0.grown hg1 (fun e => (by have := Option.some.inj e; omega)); replace hg1 := gr_trans hg0 hg1; have m1 := True.intro)))
  have hQ := hpos _ _ _ _ hgeo
  obtain ⟨c, hc⟩ : ∃ c, 1 + x1 = c := ⟨_, rfl⟩
  obtain ⟨h, hh⟩ : ∃ h, 1 + x2 = h := ⟨_, rfl⟩
  obtain ⟨p, hp⟩ : ∃ p, 1 + x3 = p := ⟨_, rfl⟩
  rw [hc, hh, hp] at hQ hown ⊢
  have hOK : ∀ x ∈ newS c h p x4, x.f0.size ≤ 32 ∧ 1 ≤ x.f1 ∧ x.f1 ≤ 4 := newS_ok c h p x4 a4 (by omega)
  have HL0 := Lib.hid (show (newS c h p x4).length = (newS c h p x4).length from rfl)
  obtain ⟨L0, hL0⟩ : ∃ L0, newS c h p x4 = L0 := ⟨_, rfl⟩
  rw [hL0] at hQ hown hOK ⊢
  obtain ⟨Q, hQe⟩ : ∃ Q, L0.length = Q := ⟨_, rfl⟩
  rw [hQe] at hQ hown ⊢
  have hg5 : w.grownBy w5 (some g) := gr_below hg4 (hbl.mono hg4.size)
  have S5 := S4.below hbl (Nat.lt_of_lt_of_le hgl hg4.size)
  have hlt4 := F0.lt
  replace F0 := F0.below hbl F0.lt
  have h45 := hbl.size
  have h4 := hg4.size
  have hbD : b < w5.heap.size := hb1
  have FD := BX.made w5 26 [.int .i64 c, .int .i64 h, .int .i64 p, .int .i64 x4, .slice (some ⟨b, 0, none⟩) Q vc]
  have S6 := S5.al (.cells #[.int .i64 c, .int .i64 h, .int .i64 p, .int .i64 x4, .slice (some ⟨b, 0, none⟩) Q vc] 26)
  have F6 := F0.al (.cells #[.int .i64 c, .int .i64 h, .int .i64 p, .int .i64 x4, .slice (some ⟨b, 0, none⟩) Q vc] 26)
  have O6 := OO.al hown (.cells #[.int .i64 c, .int .i64 h, .int .i64 p, .int .i64 x4, .slice (some ⟨b, 0, none⟩) Q vc] 26)
  have hg6 : w.grownBy (w5.alloc (.cells #[.int .i64 c, .int .i64 h, .int .i64 p, .int .i64 x4, .slice (some ⟨b, 0, none⟩) Q vc] 26)) (some g) := gr_trans hg5 (World.grownBy_alloc w5 _ _)
  obtain ⟨D, hD⟩ : ∃ D, w5.heap.size = D := ⟨_, rfl⟩
  rw [hD] at FD hbD ⊢
  generalize (w5.alloc (.cells #[.int .i64 c, .int .i64 h, .int .i64 p, .int .i64 x4, .slice (some ⟨b, 0, none⟩) Q vc] 26)) = w6 at FD S6 F6 O6 hg6 ⊢
  go_loopw [7] (fun i wr => ∃ (k : Nat) (L : List DSector), i = .int .i64 (k : Int) ∧ k ≤ Q ∧ L.length = Q ∧ OO wr w4.heap.size 72 2 (.slice (some ⟨b, 0, none⟩) Q vc) Q (flat fSector L) ∧ BX wr D 26 [.int .i64 c, .int .i64 h, .int .i64 p, .int .i64 x4, .slice (some ⟨b, 0, none⟩) Q vc] ∧ BX wr w.heap.size 26 [.int .i64 0, .int .i64 0, .int .i64 0, .int .i64 0, .slice none 0 0] ∧ SR wr g A n cc (N + 8 + 110 * k) ∧ w.grownBy wr (some g) ∧ Hid (∀ x ∈ L, x.f0.size ≤ 32 ∧ 1 ≤ x.f1 ∧ x.f1 ≤ 4)) (fun i _ => Q - (intOf i).toNat)
  case atStart => exact ⟨0, L0, rfl, Nat.zero_le _, hQe, O6, FD, F6, S6.more (by omega), hg6, Lib.hid hOK⟩
  case round =>
    obtain ⟨k, L, rfl, hk, hL, O, FD, F0, S, hg, HO⟩ := hrel
    have f3 : (_ : Option Value) = some (.int .i64 x4) := FD.cell 3 (by simp)
    have f4 : (_ : Option Value) = some (.slice (some ⟨b, 0, none⟩) Q vc) := FD.cell 4 (by simp)
    by_cases hlt : k < Q
    · have hd : decide ((k : Int) < (Q : Int)) = true := decide_eq_true (by omega)
      have on := one_any 8 g n cc _ B A l wr S hn (grown_rd hr hg hBg hB) hBg (Nat.le_trans hB hg.size) (by omega) hn2 (by decide)
      obtain ⟨NB, hnb, hnb32, _, _⟩ := szB_nat a4 (by omega)
      have lb := fun W => l12Bytes_any x4 a4 (by omega) W
      rw [hnb] at lb
      have hbg : b ≠ g := by omega
      have hDg : D ≠ g := by omega
      have hwg : w.heap.size ≠ g := by omega
      have hbD2 : b ≠ D := by omega
      have hbw : b ≠ w.heap.size := by omega
      have j0 : k * 2 < Q * 2 := by omega
      have j1 : k * 2 + 1 < Q * 2 := by omega
      go_wp2_with (go_at_call 37; (with_reducible refine on.mono ?_); rintro e w7 ⟨z, rfl, S7, hg7⟩; have O7 := OO.past O hg7 hbg; have FD7 := BX.past FD hg7 hDg; have F07 := BX.past F0 hg7 hwg; have k3 : (_ : Option Value) = some (.int .i64 x4) := FD7.cell 3 (by simp); have k4 : (_ : Option Value) = some (.slice (some ⟨b, 0, none⟩) Q vc) := FD7.cell 4 (by simp); have hg77 := gr_trans hg hg7)
      · go_roundw
        case rel => exact ⟨k + 1, L, by go_num, hlt, hL, O7, FD7, F07, S7.more (by omega), hg77, HO⟩
        case measure => (simp [intOf] <;> omega)
      · go_region_law (go_simp; first
          | (go_at_call 35; refine (lb _).mono ?_; rintro e w8 ⟨rfl, rfl⟩)
          | (go_at_call 36; have dd := drawData_any NB g n cc _ B A l w7.drew S7.dr hn (grown_rd hr (only_drew hg77) hBg hB) hBg (Nat.le_trans hB hg77.size) (by omega) hn2 (by omega); refine dd.mono ?_; rintro e w8 ⟨d, rfl, hd8, S8, hg8⟩; have O8 := OO.past (OO.dr O7) hg8 hbg; have FD8 := BX.past (BX.drx FD7) hg8 hDg; have F08 := BX.past (BX.drx F07) hg8 hwg; have q4 : (_ : Option Value) = some (.slice (some ⟨b, 0, none⟩) Q vc) := FD8.cell 4 (by simp); obtain ⟨u0, hu0⟩ := own_some O8 (k * 2) j0; have hz0 := World.ownsRow.frozenAt O8 (k * 2)))
        all_goals
          have hs9 := World.ownsRow.stored O8 (k * 2) (.string d)
          have O9 := hs9.1
          have FD9 := FD8.grown hs9.2 (fun e => hbD2 (Option.some.inj e))
          have F09 := F08.grown hs9.2 (fun e => hbw (Option.some.inj e))
          have S9 := S8.grown hs9.2 (fun e => hbg (Option.some.inj e))
          have hg9 := gr_own (gr_trans (only_drew hg77) hg8) hs9.2 (fun j e => by have := Option.some.inj (show some b = some j from e); omega)
          clear hs9
          generalize (w8.setCell ⟨b, k * 2, none⟩ (.string d)) = w9 at O9 FD9 F09 S9 hg9 ⊢
          have k4 : (_ : Option Value) = some (.slice (some ⟨b, 0, none⟩) Q vc) := FD9.cell 4 (by simp)
          have k5 := fun (o : Obj) => (show (_ : Option Value) = some (.slice (some ⟨b, 0, none⟩) Q vc) from (BX.al FD9 o).cell 4 (by simp))
          have hlt9 := S9.lt
          have b9 : b < w9.heap.size := (World.ownsRow.lt O9 b rfl).2
          have hB9 := Nat.le_trans hB hg9.size
          have am := among_any [1, 1, 1, 2, 4] w9.heap.size 5 5 rfl g n cc _ B A l (w9.alloc (.cells #[.int .i64 1, .int .i64 1, .int .i64 1, .int .i64 2, .int .i64 4] 2)).drew (SR.dr (S9.al _)) hn (rd_dr ((grown_rd hr hg9 hBg hB).alloc hB9 _)) hBg (by show B ≤ (w9.alloc _).heap.size; rw [World.size_alloc]; exact Nat.le_succ_of_le hB9) (by omega) hn2 (by decide) (by decide) (CP.dr (CP.made w9 [.int .i64 1, .int .i64 1, .int .i64 1, .int .i64 2, .int .i64 4] 2)) (by omega)
          go_wp2
          go_region_law (go_simp; (go_at_call 53; (with_reducible refine am.mono ?_); rintro e w10 ⟨st, rfl, hst, S10, hg10⟩; have O10 := OO.past (OO.dr (OO.al O9 _)) hg10 hbg; have FD10 := BX.past (BX.drx (BX.al FD9 _)) hg10 hDg; have F010 := BX.past (BX.drx (BX.al F09 _)) hg10 hwg; have r4 : (_ : Option Value) = some (.slice (some ⟨b, 0, none⟩) Q vc) := FD10.cell 4 (by simp); obtain ⟨u1, hu1⟩ := own_some O10 (k * 2 + 1) j1; have hz1 := World.ownsRow.frozenAt O10 (k * 2 + 1)))
          all_goals
            have hs11 := World.ownsRow.stored O10 (k * 2 + 1) (.int .i64 st)
            have O11 := hs11.1
            have FD11 := FD10.grown hs11.2 (fun e => hbD2 (Option.some.inj e))
            have F011 := F010.grown hs11.2 (fun e => hbw (Option.some.inj e))
            have S11 := S10.grown hs11.2 (fun e => hbg (Option.some.inj e))
            have hg11 := gr_own (gr_trans (only_drew (gr_trans hg9 (World.grownBy_alloc w9 _ _))) hg10) hs11.2 (fun j e => by have := Option.some.inj (show some b = some j from e); omega)
            have hPL := setS L k (by omega) ⟨d, st⟩
            go_wp2
            go_roundw
            case rel => exact ⟨k + 1, L.set k ⟨d, st⟩, by go_num, hlt, by rw [List.length_set]; exact hL, by rw [← hPL]; exact O11, FD11, F011, S11.more (by omega), hg11, Lib.hid (set_ok L k d st HO.out (by omega) hst)⟩
            case measure => (simp [intOf] <;> omega)
    · have hd : decide ((k : Int) < (Q : Int)) = false := decide_eq_false (by omega)
      obtain rfl : k = Q := by omega
      have f0 : (_ : Option Value) = some (.int .i64 c) := FD.cell 0 (by simp)
      have f1 : (_ : Option Value) = some (.int .i64 h) := FD.cell 1 (by simp)
      have f2 : (_ : Option Value) = some (.int .i64 p) := FD.cell 2 (by simp)
      have z0 : (_ : Option Value) = some (.int .i64 0) := F0.cell 0 (by simp)
      have z1 : (_ : Option Value) = some (.int .i64 0) := F0.cell 1 (by simp)
      have z2 : (_ : Option Value) = some (.int .i64 0) := F0.cell 2 (by simp)
      have z3 : (_ : Option Value) = some (.int .i64 0) := F0.cell 3 (by simp)
      have z4 : (_ : Option Value) = some (.slice none 0 0) := F0.cell 4 (by simp)
      have hfz := fun j => F0.free j
      go_wp2
      refine bodyPost_ret (v := .agg #[.int .i64 c, .int .i64 h, .int .i64 p, .int .i64 x4, .slice (some ⟨b, 0, none⟩) k vc]) (by simp [results, Try.results62, go_sem, World.cell?_setCell_other, z0, z1, z2, z3, z4]) rfl ⟨c, h, p, x4, L, _, rfl, by omega, by omega, by omega, by omega, ?_, ?_, HO.out, ?_, ?_⟩
      · rw [hL]
        have O' : wr.ownsRow w4.heap.size 72 2 (.slice (some ⟨b, 0, none⟩) k vc) k (flat fSector L) := O
        refine own_base (base := w4.heap.size) ?_ (by omega)
        with_reducible repeat (first | exact O' | refine ownsRow_setCell_below ?_ (by simp; try omega) _)
      · rw [hL, ← hQe, ← hL0]
      · refine SR.more (N := N + 8 + 110 * k) ?_ (by omega)
        have hx : ∀ (W : World) (j : Nat) (u : Value), SR W g A n cc (N + 8 + 110 * k) → SR (W.setCell ⟨w.heap.size, j, none⟩ u) g A n cc (N + 8 + 110 * k) := fun W j u h => h.grown (grownBy_set0 W w.heap.size j u) (fun e => by have := Option.some.inj e; omega)
        exact hx _ _ _ (hx _ _ _ (hx _ _ _ (hx _ _ _ (hx _ _ _ S))))
      · have hx : ∀ (W : World) (j : Nat) (u : Value), w.grownBy W (some g) → w.grownBy (W.setCell ⟨w.heap.size, j, none⟩ u) (some g) := fun W j u h => only_setCell h (.inr (Nat.le_refl _)) u
        exact hx _ _ _ (hx _ _ _ (hx _ _ _ (hx _ _ _ (hx _ _ _ hg))))
end Go.Proofs.Ytjahgknehamlpaa
