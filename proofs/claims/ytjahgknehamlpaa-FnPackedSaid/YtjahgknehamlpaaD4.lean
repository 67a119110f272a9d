/- Walks: a drawn disc that may be bent. -/
import Derived.Test.YtjahgknehamlpaaD3
import Derived.Test.YtjahgknehamlpaaW30
import Derived.Test.YtjahgknehamlpaaW120
namespace Go.Proofs.Ytjahgknehamlpaa
open Go.RowKit
set_option linter.unusedVariables false

theorem get_data (L : List DSector) (k : Nat) (hk : k < L.length) : (flat fSector L)[k * 2]? = some (.string L[k].f0) := by
  have := flat_get fSector 2 fSector_len L k 0 hk (by omega)
  simpa [fSector] using this
theorem get_state (L : List DSector) (k : Nat) (hk : k < L.length) : (flat fSector L)[k * 2 + 1]? = some (.int .i64 L[k].f1) := by
  have := flat_get fSector 2 fSector_len L k 1 hk (by omega)
  simpa [fSector] using this
theorem set_same {l : List Value} {j : Nat} {v : Value} (h : l[j]? = some v) : l.set j v = l := by
  obtain ⟨hj, rfl⟩ := List.getElem?_eq_some_iff.1 h
  exact List.set_getElem_self hj
theorem set_state (L : List DSector) (k : Nat) (hk : k < L.length) (st : Int) : (flat fSector L).set (k * 2 + 1) (.int .i64 st) = flat fSector (L.set k ⟨L[k].f0, st⟩) := by
  rw [← setS L k hk]
  show _ = ((flat fSector L).set (k * 2) (.string L[k].f0)).set (k * 2 + 1) (.int .i64 st)
  rw [set_same (get_data L k hk)]
theorem set_data (L : List DSector) (k : Nat) (hk : k < L.length) (d : ByteArray) : (flat fSector L).set (k * 2) (.string d) = flat fSector (L.set k ⟨d, L[k].f1⟩) := by
  rw [← setS L k hk]
  show _ = ((flat fSector L).set (k * 2) (.string d)).set (k * 2 + 1) (.int .i64 L[k].f1)
  rw [set_same (j := k * 2 + 1) (by rw [List.getElem?_set_ne (by omega)]; exact get_state L k hk)]
theorem bent_ok (L : List DSector) (k : Nat) (y : DSector) (hk : k < L.length) (h : ∀ x ∈ L, x.f0.size ≤ 32 ∧ 1 ≤ x.f1 ∧ x.f1 ≤ 4) (h1 : y.f0.size ≤ 40) (h2 : 0 ≤ y.f1 ∧ y.f1 ≤ 5) : ∀ x ∈ L.set k y, x.f0.size ≤ 40 ∧ 0 ≤ x.f1 ∧ x.f1 ≤ 5 := by
  intro x hx
  rcases List.mem_or_eq_of_mem_set hx with hx | rfl
  · have := h x hx
    omega
  · exact ⟨h1, h2⟩
theorem bent_app (L : List DSector) (y : DSector) (h : ∀ x ∈ L, x.f0.size ≤ 32 ∧ 1 ≤ x.f1 ∧ x.f1 ≤ 4) (h1 : y.f0.size ≤ 40) (h2 : 0 ≤ y.f1 ∧ y.f1 ≤ 5) : ∀ x ∈ L ++ [y], x.f0.size ≤ 40 ∧ 0 ≤ x.f1 ∧ x.f1 ≤ 5 := by
  intro x hx
  rw [List.mem_append, List.mem_singleton] at hx
  rcases hx with hx | rfl
  · have := h x hx
    omega
  · exact ⟨h1, h2⟩
theorem set5 {w W : World} {g z base size m n cc N : Nat} {A : Option Addr} {e : TypeId} {v : Value} {xs : List Value} (hz : w.heap.size ≤ z) (S : SR W g A n cc N) (hg : w.grownBy W (some g)) (O : OO W base e size v m xs) (hzb : z < base) (hgz : z ≠ g) (u0 u1 u2 u3 u4 : Value) :
    World.ownsRow (((((W.setCell ⟨z, 0, none⟩ u0).setCell ⟨z, 1, none⟩ u1).setCell ⟨z, 2, none⟩ u2).setCell ⟨z, 3, none⟩ u3).setCell ⟨z, 4, none⟩ u4) z e size v m xs ∧ SR (((((W.setCell ⟨z, 0, none⟩ u0).setCell ⟨z, 1, none⟩ u1).setCell ⟨z, 2, none⟩ u2).setCell ⟨z, 3, none⟩ u3).setCell ⟨z, 4, none⟩ u4) g A n cc N ∧ w.grownBy (((((W.setCell ⟨z, 0, none⟩ u0).setCell ⟨z, 1, none⟩ u1).setCell ⟨z, 2, none⟩ u2).setCell ⟨z, 3, none⟩ u3).setCell ⟨z, 4, none⟩ u4) (some g) := by
  have h1 : ∀ (W : World) (j : Nat) (u : Value), OO W base e size v m xs → OO (W.setCell ⟨z, j, none⟩ u) base e size v m xs := fun W j u h => OO.put h hzb u
  have h2 : ∀ (W : World) (j : Nat) (u : Value), SR W g A n cc N → SR (W.setCell ⟨z, j, none⟩ u) g A n cc N := fun W j u h => h.grown (grownBy_set0 W z j u) (fun e => hgz (Option.some.inj e))
  have h3 : ∀ (W : World) (j : Nat) (u : Value), w.grownBy W (some g) → w.grownBy (W.setCell ⟨z, j, none⟩ u) (some g) := fun W j u h => only_setCell h (.inr hz) u
  exact ⟨own_base (h1 _ _ _ (h1 _ _ _ (h1 _ _ _ (h1 _ _ _ (h1 _ _ _ O))))) (Nat.le_of_lt hzb), h2 _ _ _ (h2 _ _ _ (h2 _ _ _ (h2 _ _ _ (h2 _ _ _ S)))), h3 _ _ _ (h3 _ _ _ (h3 _ _ _ (h3 _ _ _ (h3 _ _ _ hg))))⟩

set_option maxRecDepth 100000 in
set_option maxHeartbeats 4000000 in
theorem bent_any (m : Int) (g n cc N B : Nat) (A : Option Addr) (l : List UInt8) (w : World) (S : SR w g A n cc N) (hn : l.length = n) (hr : Rd w B 1 A n (flat fU l)) (hBg : B ≤ g) (hB : B ≤ w.heap.size) (hN : N ≤ 600000000) (hn2 : n ≤ maxLen) (hm : m ≤ 9223372036854775807) :
    Calls Try.prog 65 #[.pointer (some ⟨g, 0, none⟩), .int .i64 m] w fun e w' => ∃ (c h p s : Int) (L : List DSector) (v : Value), e = .returned (.agg #[.int .i64 c, .int .i64 h, .int .i64 p, .int .i64 s, v]) ∧ (0 ≤ c ∧ c ≤ 9) ∧ (1 ≤ h ∧ h ≤ 2) ∧ (1 ≤ p ∧ p ≤ 5) ∧ (-1 ≤ s ∧ s ≤ 3) ∧ w'.ownsRow w.heap.size 72 2 v L.length (flat fSector L) ∧ (0 < L.length ∧ L.length ≤ 129) ∧ (∀ x ∈ L, x.f0.size ≤ 40 ∧ 0 ≤ x.f1 ∧ x.f1 ≤ 5) ∧ SR w' g A n cc (N + 20020) ∧ w.grownBy w' (some g) := by
  have hgl := S.lt
  have F0 := BX.made w 26 [.int .i64 0, .int .i64 0, .int .i64 0, .int .i64 0, .slice none 0 0]
  have S0 := S.al (.cells #[.int .i64 0, .int .i64 0, .int .i64 0, .int .i64 0, .slice none 0 0] 26)
  have hg0 : w.grownBy (w.alloc (.cells #[.int .i64 0, .int .i64 0, .int .i64 0, .int .i64 0, .slice none 0 0] 26)) (some g) := World.grownBy_alloc w _ _
  have hs0 : w.heap.size + 1 ≤ (w.alloc (.cells #[.int .i64 0, .int .i64 0, .int .i64 0, .int .i64 0, .slice none 0 0] 26)).heap.size := by rw [World.size_alloc]; omega
  have ds := drawSmall_any g n cc N B A l (w.alloc (.cells #[.int .i64 0, .int .i64 0, .int .i64 0, .int .i64 0, .slice none 0 0] 26)) S0 hn (grown_rd hr hg0 hBg hB) hBg (Nat.le_trans hB hg0.size) (by omega) hn2
  go_enter Try.func65, Try.ntmps65
  go_wp2_with (first
    | (go_at_call 62; (with_reducible refine ds.mono ?_); rintro e w1 ⟨c, h, p, s, L, v, rfl, hc, hh, hp, hs, O1, hLn, hLok, S1, hg1⟩; have hLp : 0 < L.length ∧ L.length ≤ 128 := (by rw [hLn]; exact hpos c h p s (by simp only [geoB, inB, Bool.and_eq_true, decide_eq_true_eq]; omega)); clear hLn; obtain ⟨b, vc, rfl, hb0, hb1⟩ := World.ownsRow.form O1 hLp.1; have F1 := BX.past F0 hg1 (by omega); have hg1' := gr_trans hg0 hg1; have FD := BX.made w1 26 [.int .i64 c, .int .i64 h, .int .i64 p, .int .i64 s, .slice (some ⟨b, 0, none⟩) L.length vc]; have S2 := S1.al (.cells #[.int .i64 c, .int .i64 h, .int .i64 p, .int .i64 s, .slice (some ⟨b, 0, none⟩) L.length vc] 26); have hg2 : w.grownBy (w1.alloc (.cells #[.int .i64 c, .int .i64 h, .int .i64 p, .int .i64 s, .slice (some ⟨b, 0, none⟩) L.length vc] 26)) (some g) := gr_trans hg1' (World.grownBy_alloc w1 _ _); have O2 := OO.al O1 (.cells #[.int .i64 c, .int .i64 h, .int .i64 p, .int .i64 s, .slice (some ⟨b, 0, none⟩) L.length vc] 26); have F2 := F1.al (.cells #[.int .i64 c, .int .i64 h, .int .i64 p, .int .i64 s, .slice (some ⟨b, 0, none⟩) L.length vc] 26); have on := one_any m g n cc _ B A l _ S2 hn (grown_rd hr hg2 hBg hB) hBg (Nat.le_trans hB hg2.size) (by omega) hn2 hm)
    | (go_at_call 37; (with_reducible refine on.mono ?_); rintro e w3 ⟨z, rfl, S3, hg3⟩; have hgx := gr_trans hg2 hg3; have FD3 := BX.past FD hg3 (by omega); have F3 := BX.past F2 hg3 (by omega); have O3 := OO.past O2 hg3 (by omega); have f0 : (_ : Option Value) = some (.int .i64 c) := FD3.cell 0 (by simp); have f1 : (_ : Option Value) = some (.int .i64 h) := FD3.cell 1 (by simp); have f2 : (_ : Option Value) = some (.int .i64 p) := FD3.cell 2 (by simp); have f3 : (_ : Option Value) = some (.int .i64 s) := FD3.cell 3 (by simp); have f4 : (_ : Option Value) = some (.slice (some ⟨b, 0, none⟩) L.length vc) := FD3.cell 4 (by simp); have z0 : (_ : Option Value) = some (.int .i64 0) := F3.cell 0 (by simp); have z1 : (_ : Option Value) = some (.int .i64 0) := F3.cell 1 (by simp); have z2 : (_ : Option Value) = some (.int .i64 0) := F3.cell 2 (by simp); have z3 : (_ : Option Value) = some (.int .i64 0) := F3.cell 3 (by simp); have z4 : (_ : Option Value) = some (.slice none 0 0) := F3.cell 4 (by simp); have hfz := fun j => F3.free j)
    | (go_at_call 38; have pk := pick_any (L.length : Int) g n cc _ B A l w3 S3 hn (grown_rd hr hgx hBg hB) hBg (Nat.le_trans hB hgx.size) (by omega) hn2 (by omega); (with_reducible refine pk.mono ?_); rintro e w4 ⟨kx, rfl, k0, k1, S4, hg4⟩; obtain ⟨k, rfl⟩ : ∃ k : Nat, kx = (k : Int) := ⟨kx.toNat, (by omega)⟩; have hk : k < L.length := (by omega)))
  · have E := set5 (z := w.heap.size) (Nat.le_refl _) S3 hgx O3 (by omega) (by omega) (.int .i64 c) (.int .i64 h) (.int .i64 p) (.int .i64 s) (.slice (some ⟨b, 0, none⟩) L.length vc)
    refine bodyPost_ret (v := .agg #[.int .i64 c, .int .i64 h, .int .i64 p, .int .i64 s, .slice (some ⟨b, 0, none⟩) L.length vc]) (by simp [results, Try.results65, go_sem, World.cell?_setCell_other, z0, z1, z2, z3, z4]) rfl ⟨c, h, p, s, L, _, rfl, by omega, by omega, by omega, by omega, E.1, by omega, (fun x hx => by have := hLok x hx; omega), E.2.1.more (by omega), E.2.2⟩
  · have hgy := gr_trans hgx hg4
    have FD4 := BX.past FD3 hg4 (by omega)
    have F4 := BX.past F3 hg4 (by omega)
    have O4 := OO.past O3 hg4 (by omega)
    have pk6 := pick_any 6 g n cc _ B A l w4 S4 hn (grown_rd hr hgy hBg hB) hBg (Nat.le_trans hB hgy.size) (by omega) hn2 (by decide)
    refine pk6.mono ?_
    rintro e w5 ⟨x, rfl, x0, x1, S5, hg5⟩
    have hgz := gr_trans hgy hg5
    replace FD4 := BX.past FD4 hg5 (by omega)
    replace F4 := BX.past F4 hg5 (by omega)
    replace O4 := OO.past O4 hg5 (by omega)
    clear f0 f1 f2 f3 f4 z0 z1 z2 z3 z4 hfz on ds pk pk6
    have hDg : w1.heap.size ≠ g := by omega
    have hzD : w.heap.size ≠ w1.heap.size := by omega
    have hwD : w.heap.size ≤ w1.heap.size := by omega
    have hbD : b ≠ w1.heap.size := by omega
    have hB5 := Nat.le_trans hB hgz.size
    have hg5l := S5.lt
    have hbg : b ≠ g := by omega
    have hbw : b ≠ w.heap.size := by omega
    have hwg : w.heap.size ≠ g := by omega
    have j0 : k * 2 < L.length * 2 := by omega
    have j1 : k * 2 + 1 < L.length * 2 := by omega
    have hx : x = 0 ∨ x = 1 ∨ x = 2 ∨ x = 3 ∨ x = 4 ∨ x = 5 := by omega
    rcases hx with rfl | rfl | rfl | rfl | rfl | rfl
    · have k4 : (_ : Option Value) = some (.slice (some ⟨b, 0, none⟩) L.length vc) := FD4.cell 4 (by simp)
      have k5 := fun (o : Obj) => (show (_ : Option Value) = some (.slice (some ⟨b, 0, none⟩) L.length vc) from (BX.al FD4 o).cell 4 (by simp))
      have am := among_any [0, 5] w5.heap.size 2 2 rfl g n cc _ B A l (w5.alloc (.cells #[.int .i64 0, .int .i64 5] 2)).drew (SR.dr (S5.al _)) hn (rd_dr ((grown_rd hr hgz hBg hB).alloc hB5 _)) hBg (by show B ≤ (w5.alloc _).heap.size; rw [World.size_alloc]; exact Nat.le_succ_of_le hB5) (by omega) hn2 (by decide) (by decide) (CP.dr (CP.made w5 [.int .i64 0, .int .i64 5] 2)) (by omega)
      go_wp2
      go_region_law (go_simp; (go_at_call 53; (with_reducible refine am.mono ?_); rintro e w6 ⟨st, rfl, hst, S6, hg6⟩; have O6 := OO.past (OO.dr (OO.al O4 _)) hg6 hbg; have FD6 := BX.past (BX.drx (BX.al FD4 _)) hg6 hDg; have F6 := BX.past (BX.drx (BX.al F4 _)) hg6 hwg; have r4 : (_ : Option Value) = some (.slice (some ⟨b, 0, none⟩) L.length vc) := FD6.cell 4 (by simp); obtain ⟨u1, hu1⟩ := own_some O6 (k * 2 + 1) j1; have hz1 := World.ownsRow.frozenAt O6 (k * 2 + 1)))
      all_goals
        simp at hst
        have hs7 := World.ownsRow.stored O6 (k * 2 + 1) (.int .i64 st)
        have O7 := hs7.1
        have FD7 := FD6.grown hs7.2 (fun e => hbD (Option.some.inj e))
        have F7 := F6.grown hs7.2 (fun e => hbw (Option.some.inj e))
        have S7 := S6.grown hs7.2 (fun e => hbg (Option.some.inj e))
        have hg7 := gr_own (gr_trans (only_drew (gr_trans hgz (World.grownBy_alloc w5 _ _))) hg6) hs7.2 (fun j e => by have := Option.some.inj (show some b = some j from e); omega)
        rw [set_state L k hk] at O7
        have hl7 : (L.set k ⟨L[k].f0, st⟩).length = L.length := List.length_set
        clear hs7
        generalize (w6.setCell ⟨b, k * 2 + 1, none⟩ (.int .i64 st)) = w7 at O7 FD7 F7 S7 hg7 ⊢
        have f0 : (_ : Option Value) = some (.int .i64 c) := FD7.cell 0 (by simp)
        have f1 : (_ : Option Value) = some (.int .i64 h) := FD7.cell 1 (by simp)
        have f2 : (_ : Option Value) = some (.int .i64 p) := FD7.cell 2 (by simp)
        have f3 : (_ : Option Value) = some (.int .i64 s) := FD7.cell 3 (by simp)
        have f4 : (_ : Option Value) = some (.slice (some ⟨b, 0, none⟩) L.length vc) := FD7.cell 4 (by simp)
        have z0 : (_ : Option Value) = some (.int .i64 0) := F7.cell 0 (by simp)
        have z1 : (_ : Option Value) = some (.int .i64 0) := F7.cell 1 (by simp)
        have z2 : (_ : Option Value) = some (.int .i64 0) := F7.cell 2 (by simp)
        have z3 : (_ : Option Value) = some (.int .i64 0) := F7.cell 3 (by simp)
        have z4 : (_ : Option Value) = some (.slice none 0 0) := F7.cell 4 (by simp)
        have hfz := fun j => F7.free j
        go_wp2
        have E := set5 (z := w.heap.size) (Nat.le_refl _) S7 hg7 O7 (by omega) (by omega) (.int .i64 c) (.int .i64 h) (.int .i64 p) (.int .i64 s) (.slice (some ⟨b, 0, none⟩) L.length vc)
        refine bodyPost_ret (v := .agg #[.int .i64 c, .int .i64 h, .int .i64 p, .int .i64 s, .slice (some ⟨b, 0, none⟩) L.length vc]) (by simp [results, Try.results65, go_sem, World.cell?_setCell_other, z0, z1, z2, z3, z4]) rfl ⟨c, h, p, s, L.set k ⟨L[k].f0, st⟩, _, rfl, by omega, by omega, by omega, by omega, by rw [hl7]; exact E.1, by rw [hl7]; omega, bent_ok L k _ hk hLok (by have := hLok _ (List.getElem_mem hk); simp; omega) (by simp; omega), E.2.1.more (by omega), E.2.2⟩
    · have k4 : (_ : Option Value) = some (.slice (some ⟨b, 0, none⟩) L.length vc) := FD4.cell 4 (by simp)
      have hc0 : (_ : Option Value) = some (.string L[k].f0) := (World.ownsRow.cellAt O4 (k * 2) j0).trans (get_data L k hk)
      have hz1 := World.ownsRow.frozenAt O4 (k * 2)
      have hsz := (hLok _ (List.getElem_mem hk)).1
      obtain ⟨d0, hd0⟩ : ∃ d0, L[k].f0 = d0 := ⟨_, rfl⟩
      rw [hd0] at hc0 hsz
      have hcat : (d0 ++ (⟨#[120]⟩ : ByteArray)).size = d0.size + 1 := by rw [ByteArray.size_append]; rfl
      have hs7 := World.ownsRow.stored O4 (k * 2) (.string (d0 ++ (⟨#[120]⟩ : ByteArray)))
      have O7 := hs7.1
      have FD7 := FD4.grown hs7.2 (fun e => hbD (Option.some.inj e))
      have F7 := F4.grown hs7.2 (fun e => hbw (Option.some.inj e))
      have S7 := S5.grown hs7.2 (fun e => hbg (Option.some.inj e))
      have hg7 := gr_own hgz hs7.2 (fun j e => by have := Option.some.inj (show some b = some j from e); omega)
      rw [set_data L k hk] at O7
      have hl7 : (L.set k ⟨d0 ++ (⟨#[120]⟩ : ByteArray), L[k].f1⟩).length = L.length := List.length_set
      clear hs7
      have f0 : (_ : Option Value) = some (.int .i64 c) := FD7.cell 0 (by simp)
      have f1 : (_ : Option Value) = some (.int .i64 h) := FD7.cell 1 (by simp)
      have f2 : (_ : Option Value) = some (.int .i64 p) := FD7.cell 2 (by simp)
      have f3 : (_ : Option Value) = some (.int .i64 s) := FD7.cell 3 (by simp)
      have f4 : (_ : Option Value) = some (.slice (some ⟨b, 0, none⟩) L.length vc) := FD7.cell 4 (by simp)
      have z0 : (_ : Option Value) = some (.int .i64 0) := F7.cell 0 (by simp)
      have z1 : (_ : Option Value) = some (.int .i64 0) := F7.cell 1 (by simp)
      have z2 : (_ : Option Value) = some (.int .i64 0) := F7.cell 2 (by simp)
      have z3 : (_ : Option Value) = some (.int .i64 0) := F7.cell 3 (by simp)
      have z4 : (_ : Option Value) = some (.slice none 0 0) := F7.cell 4 (by simp)
      have hfz := fun j => F7.free j
      go_wp2
      have E := set5 (z := w.heap.size) (Nat.le_refl _) S7 hg7 O7 (by omega) (by omega) (.int .i64 c) (.int .i64 h) (.int .i64 p) (.int .i64 s) (.slice (some ⟨b, 0, none⟩) L.length vc)
      refine bodyPost_ret (v := .agg #[.int .i64 c, .int .i64 h, .int .i64 p, .int .i64 s, .slice (some ⟨b, 0, none⟩) L.length vc]) (by simp [results, Try.results65, go_sem, World.cell?_setCell_other, z0, z1, z2, z3, z4]) rfl ⟨c, h, p, s, L.set k ⟨d0 ++ (⟨#[120]⟩ : ByteArray), L[k].f1⟩, _, rfl, by omega, by omega, by omega, by omega, by rw [hl7]; exact E.1, by rw [hl7]; omega, bent_ok L k _ hk hLok (by simp only [hcat]; omega) (by have := hLok _ (List.getElem_mem hk); simp; omega), E.2.1.more (by omega), E.2.2⟩
    · have k4 : (_ : Option Value) = some (.slice (some ⟨b, 0, none⟩) L.length vc) := FD4.cell 4 (by simp)
      have k5 := fun (o : Obj) => (show (_ : Option Value) = some (.slice (some ⟨b, 0, none⟩) L.length vc) from (BX.al FD4 o).cell 4 (by simp))
      have hL0 : 0 < L.length := by omega
      have hc0 : (_ : Option Value) = some (.string L[0].f0) := (World.ownsRow.cellAt O4 (0 * 2) (by omega)).trans (get_data L 0 hL0)
      have hc1 : (_ : Option Value) = some (.int .i64 L[0].f1) := (World.ownsRow.cellAt O4 (0 * 2 + 1) (by omega)).trans (get_state L 0 hL0)
      have hy := hLok _ (List.getElem_mem hL0)
      obtain ⟨d0, hd0⟩ : ∃ d0, L[0].f0 = d0 := ⟨_, rfl⟩
      obtain ⟨s0, hs0x⟩ : ∃ s0, L[0].f1 = s0 := ⟨_, rfl⟩
      rw [hd0] at hc0 hy
      rw [hs0x] at hc1 hy
      simp only [Nat.zero_mul, Nat.zero_add] at hc0 hc1
      have hO4 := World.ownsRow.lt O4 b rfl
      have hbase5 := Nat.le_of_lt (Nat.lt_of_le_of_lt hO4.1 hO4.2)
      have hLb : L.length ≤ 100000000 := by omega
      have hby : 24 ≤ 1000 := by decide
      go_wp2
      go_region_law (first | (refine step_appG (w := w5.drew) (f := fSector) rfl (.tmp 49) (.tmp 54) 24 rfl eltSector hby (.slice (some ⟨b, 0, none⟩) L.length vc) L L.length rfl rfl (OO.dr O4) #[.string d0, .int .i64 s0] 72 ⟨d0, s0⟩ 1 rfl rfl rfl (oneSector _) hLb hbase5 ?_; intro v6 w6 O6 hg6 hat6 hbl6; obtain ⟨A6, c6, rfl⟩ := own_form O6; have FD6 := ((BX.drx FD4).al (.cells #[.string d0, .int .i64 s0] 72)).grown hg6 (fun e => hbD (Option.some.inj e)); have g4 : (_ : Option Value) = some (.slice (some ⟨b, 0, none⟩) L.length vc) := FD6.cell 4 (by simp); have hfd := fun j => FD6.free j))
      all_goals
        have hnl : (L ++ [(⟨d0, s0⟩ : DSector)]).length = L.length + 1 := by rw [List.length_append]; rfl
        rw [hnl] at O6 hat6
        have hDl := FD4.lt
        have hv6 : (Value.slice A6 (L.length + 1) c6).ownBlock ≠ some w1.heap.size := by
          rcases hat6 with h | h
          · rw [h]; exact fun e => hbD (Option.some.inj e)
          · rw [h]; intro e; have h2 := Option.some.inj e; have h3 : w5.drew.heap.size = w5.heap.size := rfl; omega
        have F6 := ((BX.drx F4).al (.cells #[.string d0, .int .i64 s0] 72)).grown hg6 (fun e => hbw (Option.some.inj e))
        have S6 := ((SR.dr S5).al (.cells #[.string d0, .int .i64 s0] 72)).grown hg6 (fun e => hbg (Option.some.inj e))
        have hg66 := gr_own (gr_trans (only_drew hgz) (World.grownBy_alloc w5.drew _ _)) hg6 (fun j e => by have := Option.some.inj (show some b = some j from e); omega)
        have FD7 := FD6.put 4 (.slice A6 (L.length + 1) c6)
        have F7 := F6.far (a := ⟨w1.heap.size, 4, none⟩) hzD (.slice A6 (L.length + 1) c6)
        have f0 : (_ : Option Value) = some (.int .i64 c) := FD7.cell 0 (by simp)
        have f1 : (_ : Option Value) = some (.int .i64 h) := FD7.cell 1 (by simp)
        have f2 : (_ : Option Value) = some (.int .i64 p) := FD7.cell 2 (by simp)
        have f3 : (_ : Option Value) = some (.int .i64 s) := FD7.cell 3 (by simp)
        have f4 : (_ : Option Value) = some (.slice (A6) (L.length + 1) c6) := FD7.cell 4 (by simp)
        have z0 : (_ : Option Value) = some (.int .i64 0) := F7.cell 0 (by simp)
        have z1 : (_ : Option Value) = some (.int .i64 0) := F7.cell 1 (by simp)
        have z2 : (_ : Option Value) = some (.int .i64 0) := F7.cell 2 (by simp)
        have z3 : (_ : Option Value) = some (.int .i64 0) := F7.cell 3 (by simp)
        have z4 : (_ : Option Value) = some (.slice none 0 0) := F7.cell 4 (by simp)
        have hfz := fun j => F7.free j
        go_wp2
        have E := set5 (z := w.heap.size) (Nat.le_refl _) (SR.grown S6 (grownBy_set0 w6 w1.heap.size 4 (.slice A6 (L.length + 1) c6)) (fun e => hDg (Option.some.inj e))) (only_setCell hg66 (p := ⟨w1.heap.size, 4, none⟩) (.inr hwD) (.slice A6 (L.length + 1) c6)) (OO.putne O6 (a := ⟨w1.heap.size, 4, none⟩) hv6 (.slice A6 (L.length + 1) c6)) (by omega) (by omega) (.int .i64 c) (.int .i64 h) (.int .i64 p) (.int .i64 s) (.slice (A6) (L.length + 1) c6)
        refine bodyPost_ret (v := .agg #[.int .i64 c, .int .i64 h, .int .i64 p, .int .i64 s, .slice (A6) (L.length + 1) c6]) (by simp [results, Try.results65, go_sem, World.cell?_setCell_other, z0, z1, z2, z3, z4]) rfl ⟨c, h, p, s, (L ++ [⟨d0, s0⟩]), _, rfl, by omega, by omega, by omega, by omega, by rw [hnl]; exact E.1, by rw [hnl]; omega, bent_app L ⟨d0, s0⟩ hLok (by show d0.size ≤ 40; omega) (by show 0 ≤ s0 ∧ s0 ≤ 5; omega), E.2.1.more (by omega), E.2.2⟩
    · have am := among_any [-1, 3, 0, 1] w5.heap.size 4 4 rfl g n cc _ B A l (w5.alloc (.cells #[.int .i64 (-1), .int .i64 3, .int .i64 0, .int .i64 1] 2)) (S5.al _) hn ((grown_rd hr hgz hBg hB).alloc hB5 _) hBg (by rw [World.size_alloc]; exact Nat.le_succ_of_le hB5) (by omega) hn2 (by decide) (by decide) (CP.made w5 [.int .i64 (-1), .int .i64 3, .int .i64 0, .int .i64 1] 2) (by omega)
      go_wp2_with (go_at_call 53; (with_reducible refine am.mono ?_); rintro e w6 ⟨st, rfl, hst, S6, hg6⟩; have hg66 := gr_trans (gr_trans hgz (World.grownBy_alloc w5 _ _)) hg6; have FD6 := BX.past (BX.al FD4 _) hg6 (by omega); have F6 := BX.past (BX.al F4 _) hg6 (by omega); have O6 := OO.past (OO.al O4 _) hg6 (by omega); have g3 : (_ : Option Value) = some (.int .i64 s) := FD6.cell 3 (by simp); have hfd := fun j => FD6.free j; have FD7 := FD6.put 3 (.int .i64 st); have F7 := F6.far (a := ⟨w1.heap.size, 3, none⟩) hzD (.int .i64 st); have f0 : (_ : Option Value) = some (.int .i64 c) := FD7.cell 0 (by simp); have f1 : (_ : Option Value) = some (.int .i64 h) := FD7.cell 1 (by simp); have f2 : (_ : Option Value) = some (.int .i64 p) := FD7.cell 2 (by simp); have f3 : (_ : Option Value) = some (.int .i64 st) := FD7.cell 3 (by simp); have f4 : (_ : Option Value) = some (.slice (some ⟨b, 0, none⟩) L.length vc) := FD7.cell 4 (by simp); have z0 : (_ : Option Value) = some (.int .i64 0) := F7.cell 0 (by simp); have z1 : (_ : Option Value) = some (.int .i64 0) := F7.cell 1 (by simp); have z2 : (_ : Option Value) = some (.int .i64 0) := F7.cell 2 (by simp); have z3 : (_ : Option Value) = some (.int .i64 0) := F7.cell 3 (by simp); have z4 : (_ : Option Value) = some (.slice none 0 0) := F7.cell 4 (by simp); have hfz := fun j => F7.free j)
      simp at hst
      have E := set5 (z := w.heap.size) (Nat.le_refl _) (SR.grown S6 (grownBy_set0 w6 w1.heap.size 3 (.int .i64 st)) (fun e => hDg (Option.some.inj e))) (only_setCell hg66 (p := ⟨w1.heap.size, 3, none⟩) (.inr hwD) (.int .i64 st)) (OO.putne O6 (a := ⟨w1.heap.size, 3, none⟩) (fun e => hbD (Option.some.inj e)) (.int .i64 st)) (by omega) (by omega) (.int .i64 c) (.int .i64 h) (.int .i64 p) (.int .i64 st) (.slice (some ⟨b, 0, none⟩) L.length vc)
      refine bodyPost_ret (v := .agg #[.int .i64 c, .int .i64 h, .int .i64 p, .int .i64 st, .slice (some ⟨b, 0, none⟩) L.length vc]) (by simp [results, Try.results65, go_sem, World.cell?_setCell_other, z0, z1, z2, z3, z4]) rfl ⟨c, h, p, st, L, _, rfl, by omega, by omega, by omega, by omega, E.1, by omega, (fun x hx => by have := hLok x hx; omega), E.2.1.more (by omega), E.2.2⟩
    · have k4 : (_ : Option Value) = some (.slice (some ⟨b, 0, none⟩) L.length vc) := FD4.cell 4 (by simp)
      have k3 : (_ : Option Value) = some (.int .i64 s) := FD4.cell 3 (by simp)
      obtain ⟨NB, hnb, hnb32, hnb8, _⟩ := szB_nat hs.1 hs.2
      have lb := fun W => l12Bytes_any s hs.1 hs.2 W
      rw [hnb] at lb
      have hw1 : IntKind.i64.wrap ((NB : Int) - 1) = ((NB - 1 : Nat) : Int) := by rw [IntWalk.i64_in _ (by omega)]; omega
      have hzr := l01Zeros_any (NB - 1) w5.drew (by omega)
      have hzs : (zerosB (NB - 1)).size ≤ 32 := by rw [zerosB_size]; omega
      obtain ⟨ZB, hZB⟩ : ∃ ZB, zerosB (NB - 1) = ZB := ⟨_, rfl⟩
      rw [hZB] at hzs hzr
      have hno : ¬ 9223372036854775807 < 1 + ZB.size := by omega
      have hcat : (((⟨#[65]⟩ : ByteArray) ++ ZB)).size = ZB.size + 1 := by rw [ByteArray.size_append]; show 1 + ZB.size = ZB.size + 1; omega
      go_wp2
      go_region_law (go_simp; first | (go_at_call 35; refine (lb _).mono ?_; rintro e w8 ⟨rfl, rfl⟩) | (go_at_call 94; refine hzr.mono ?_; rintro e w6 ⟨rfl, hx6⟩; have O6 := own_later (OO.dr O4) hx6 (Nat.le_refl _); have FD6 := (BX.drx FD4).below hx6 FD4.lt; have F6 := (BX.drx F4).below hx6 F4.lt; have S6 := (SR.dr S5).below hx6 hg5l; have hg6 := gr_below (only_drew hgz) (hx6.mono hgz.size); have r4 : (_ : Option Value) = some (.slice (some ⟨b, 0, none⟩) L.length vc) := FD6.cell 4 (by simp); obtain ⟨u0, hu0⟩ := own_some O6 (k * 2) j0; have hz0 := World.ownsRow.frozenAt O6 (k * 2); have hs6 := World.ownsRow.stored O6 (k * 2) (.string ((⟨#[65]⟩ : ByteArray) ++ ZB)); obtain ⟨u1, hu1⟩ := own_some hs6.1 (k * 2 + 1) j1; have hz1 := World.ownsRow.frozenAt hs6.1 (k * 2 + 1)))
      all_goals
        have hs7 := World.ownsRow.stored hs6.1 (k * 2 + 1) (.int .i64 3)
        have O7 := hs7.1
        have FD7 := (FD6.grown hs6.2 (fun e => hbD (Option.some.inj e))).grown hs7.2 (fun e => hbD (Option.some.inj e))
        have F7 := (F6.grown hs6.2 (fun e => hbw (Option.some.inj e))).grown hs7.2 (fun e => hbw (Option.some.inj e))
        have S7 := (S6.grown hs6.2 (fun e => hbg (Option.some.inj e))).grown hs7.2 (fun e => hbg (Option.some.inj e))
        have hg7 := gr_own (gr_own hg6 hs6.2 (fun j e => by have := Option.some.inj (show some b = some j from e); omega)) hs7.2 (fun j e => by have := Option.some.inj (show some b = some j from e); omega)
        have hPL := setS L k hk ⟨((⟨#[65]⟩ : ByteArray) ++ ZB), 3⟩
        replace O7 : OO _ _ _ _ _ _ (putV (flat fSector L) (k * 2) (fSector ⟨((⟨#[65]⟩ : ByteArray) ++ ZB), 3⟩)) := O7
        rw [hPL] at O7
        have hl7 : (L.set k ⟨((⟨#[65]⟩ : ByteArray) ++ ZB), 3⟩).length = L.length := List.length_set
        clear hs7 hs6
        generalize ((w6.setCell ⟨b, k * 2, none⟩ (.string ((⟨#[65]⟩ : ByteArray) ++ ZB))).setCell ⟨b, k * 2 + 1, none⟩ (.int .i64 3)) = w7 at O7 FD7 F7 S7 hg7 ⊢
        have f0 : (_ : Option Value) = some (.int .i64 c) := FD7.cell 0 (by simp)
        have f1 : (_ : Option Value) = some (.int .i64 h) := FD7.cell 1 (by simp)
        have f2 : (_ : Option Value) = some (.int .i64 p) := FD7.cell 2 (by simp)
        have f3 : (_ : Option Value) = some (.int .i64 s) := FD7.cell 3 (by simp)
        have f4 : (_ : Option Value) = some (.slice (some ⟨b, 0, none⟩) L.length vc) := FD7.cell 4 (by simp)
        have z0 : (_ : Option Value) = some (.int .i64 0) := F7.cell 0 (by simp)
        have z1 : (_ : Option Value) = some (.int .i64 0) := F7.cell 1 (by simp)
        have z2 : (_ : Option Value) = some (.int .i64 0) := F7.cell 2 (by simp)
        have z3 : (_ : Option Value) = some (.int .i64 0) := F7.cell 3 (by simp)
        have z4 : (_ : Option Value) = some (.slice none 0 0) := F7.cell 4 (by simp)
        have hfz := fun j => F7.free j
        go_wp2
        have E := set5 (z := w.heap.size) (Nat.le_refl _) S7 hg7 O7 (by omega) (by omega) (.int .i64 c) (.int .i64 h) (.int .i64 p) (.int .i64 s) (.slice (some ⟨b, 0, none⟩) L.length vc)
        refine bodyPost_ret (v := .agg #[.int .i64 c, .int .i64 h, .int .i64 p, .int .i64 s, .slice (some ⟨b, 0, none⟩) L.length vc]) (by simp [results, Try.results65, go_sem, World.cell?_setCell_other, z0, z1, z2, z3, z4]) rfl ⟨c, h, p, s, L.set k ⟨((⟨#[65]⟩ : ByteArray) ++ ZB), 3⟩, _, rfl, by omega, by omega, by omega, by omega, by rw [hl7]; exact E.1, by rw [hl7]; omega, bent_ok L k _ hk hLok (by simp only [hcat]; omega) ⟨by show (0 : Int) ≤ 3; decide, by show (3 : Int) ≤ 5; decide⟩, E.2.1.more (by omega), E.2.2⟩
    · have am := among_any [0, 9, 2] w5.heap.size 3 3 rfl g n cc _ B A l (w5.alloc (.cells #[.int .i64 0, .int .i64 9, .int .i64 2] 2)) (S5.al _) hn ((grown_rd hr hgz hBg hB).alloc hB5 _) hBg (by rw [World.size_alloc]; exact Nat.le_succ_of_le hB5) (by omega) hn2 (by decide) (by decide) (CP.made w5 [.int .i64 0, .int .i64 9, .int .i64 2] 2) (by omega)
      go_wp2_with (go_at_call 53; (with_reducible refine am.mono ?_); rintro e w6 ⟨st, rfl, hst, S6, hg6⟩; have hg66 := gr_trans (gr_trans hgz (World.grownBy_alloc w5 _ _)) hg6; have FD6 := BX.past (BX.al FD4 _) hg6 (by omega); have F6 := BX.past (BX.al F4 _) hg6 (by omega); have O6 := OO.past (OO.al O4 _) hg6 (by omega); have g0 : (_ : Option Value) = some (.int .i64 c) := FD6.cell 0 (by simp); have hfd := fun j => FD6.free j; have FD7 := FD6.put 0 (.int .i64 st); have F7 := F6.far (a := ⟨w1.heap.size, 0, none⟩) hzD (.int .i64 st); have f0 : (_ : Option Value) = some (.int .i64 st) := FD7.cell 0 (by simp); have f1 : (_ : Option Value) = some (.int .i64 h) := FD7.cell 1 (by simp); have f2 : (_ : Option Value) = some (.int .i64 p) := FD7.cell 2 (by simp); have f3 : (_ : Option Value) = some (.int .i64 s) := FD7.cell 3 (by simp); have f4 : (_ : Option Value) = some (.slice (some ⟨b, 0, none⟩) L.length vc) := FD7.cell 4 (by simp); have z0 : (_ : Option Value) = some (.int .i64 0) := F7.cell 0 (by simp); have z1 : (_ : Option Value) = some (.int .i64 0) := F7.cell 1 (by simp); have z2 : (_ : Option Value) = some (.int .i64 0) := F7.cell 2 (by simp); have z3 : (_ : Option Value) = some (.int .i64 0) := F7.cell 3 (by simp); have z4 : (_ : Option Value) = some (.slice none 0 0) := F7.cell 4 (by simp); have hfz := fun j => F7.free j)
      simp at hst
      have E := set5 (z := w.heap.size) (Nat.le_refl _) (SR.grown S6 (grownBy_set0 w6 w1.heap.size 0 (.int .i64 st)) (fun e => hDg (Option.some.inj e))) (only_setCell hg66 (p := ⟨w1.heap.size, 0, none⟩) (.inr hwD) (.int .i64 st)) (OO.putne O6 (a := ⟨w1.heap.size, 0, none⟩) (fun e => hbD (Option.some.inj e)) (.int .i64 st)) (by omega) (by omega) (.int .i64 st) (.int .i64 h) (.int .i64 p) (.int .i64 s) (.slice (some ⟨b, 0, none⟩) L.length vc)
      refine bodyPost_ret (v := .agg #[.int .i64 st, .int .i64 h, .int .i64 p, .int .i64 s, .slice (some ⟨b, 0, none⟩) L.length vc]) (by simp [results, Try.results65, go_sem, World.cell?_setCell_other, z0, z1, z2, z3, z4]) rfl ⟨st, h, p, s, L, _, rfl, by omega, by omega, by omega, by omega, E.1, by omega, (fun x hx => by have := hLok x hx; omega), E.2.1.more (by omega), E.2.2⟩
end Go.Proofs.Ytjahgknehamlpaa
