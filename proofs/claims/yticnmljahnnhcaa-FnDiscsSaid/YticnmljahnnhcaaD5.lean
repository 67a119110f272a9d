/- Walks: a source of its own; the draw of a new device. -/
import Derived.Test.YticnmljahnnhcaaD4
namespace Go.Proofs.Yticnmljahnnhcaa
open Go.RowKit
set_option linter.unusedVariables false

theorem SR.box {w : World} (A : Option Addr) (n c : Nat) : SR (w.alloc (.cells #[.slice A n c, .int .i64 0, .int .u64 0] 168)) w.heap.size A n c 0 :=
  ⟨0, 0, Nat.le_refl _, BX.made w 168 [.slice A n c, .int .i64 0, .int .u64 0]⟩
theorem below_gr {w w' : World} {B g : Nat} (hg : w.grownBy w' (some g)) (hB : B ≤ w.heap.size) (h : B ≤ g) : Below B w w' := (Below.refl B w).grown hg hB (fun k hk => by injection hk with hk; omega)
set_option maxHeartbeats 1000000 in
theorem from_any (A : Option Addr) (n c : Nat) (w : World) :
    Calls Try.prog 58 #[.slice A n c] w fun e w' => ∃ g, e = .returned (.pointer (some ⟨g, 0, none⟩)) ∧ w.heap.size ≤ g ∧ SR w' g A n c 0 ∧ Below w.heap.size w w' := by
  go_enter Try.func58, Try.ntmps58
  go_wp2
  go_ret
  exact ⟨w.heap.size, rfl, Nat.le_refl _, SR.box A n c, (by repeat (first | exact Below.refl _ _ | refine below_step ?_ (by assumption) | assumption | refine Below.drew ?_ | refine below_drewN ?_ _ | refine below_alloc ?_ _ | refine Below.setCell ?_ (by simp; try omega) _))⟩

set_option maxHeartbeats 400000 in
theorem long_any (A : Option Addr) (n c : Nat) (w : World) (hn : n ≤ maxLen) : Calls Try.prog 9 #[.slice A n c] w fun e w' => e = .returned (.bool (decide (1048576 < n))) ∧ w = w' := by
  unfold maxLen at hn
  by_cases h : 1048576 < n
  · have h1 : (1048576 : Int) < (n : Int) := by omega
    rw [decide_eq_true h]
    go_enter Try.func9, Try.ntmps9
    go_wp2
    go_ret
    exact ⟨rfl, rfl⟩
  · have h1 : ¬ (1048576 : Int) < (n : Int) := by omega
    rw [decide_eq_false h]
    go_enter Try.func9, Try.ntmps9
    go_wp2
    go_ret
    exact ⟨rfl, rfl⟩

theorem below_step2 {B : Nat} {a w w' : World} (h : Below B a w) (k : Below B w w') : Below B a w' := h.trans k
set_option maxRecDepth 100000 in
set_option maxHeartbeats 4000000 in
theorem drawNewDevice_any (A : Option Addr) (n cc : Nat) (l : List UInt8) (w : World) (hn : l.length = n) (hr : Rd w w.heap.size 1 A n (flat fU l)) (hn2 : n ≤ maxLen) :
    Calls Try.prog 10 #[.slice A n cc] w fun e w' => ∃ (c h p s k r : Int) (L : List DSector) (v : Value), e = .returned (.tuple #[.agg #[.int .i64 c, .int .i64 h, .int .i64 p, .int .i64 s, v], .int .i64 k, .int .i64 r]) ∧ (0 ≤ c ∧ c ≤ 9) ∧ (1 ≤ h ∧ h ≤ 2) ∧ (1 ≤ p ∧ p ≤ 5) ∧ (-1 ≤ s ∧ s ≤ 3) ∧ (-1 ≤ k ∧ k ≤ 8) ∧ (-1 ≤ r ∧ r ≤ 8) ∧ w'.ownsRow w.heap.size 39 2 v L.length (flat fSector L) ∧ (0 < L.length ∧ L.length ≤ 129) ∧ (∀ x ∈ L, x.f0.size ≤ 40 ∧ 0 ≤ x.f1 ∧ x.f1 ≤ 5) ∧ Below w.heap.size w w' := by
  have F0 := BX.made w 26 [.int .i64 0, .int .i64 0, .int .i64 0, .int .i64 0, .slice none 0 0]
  have hb0 : Below w.heap.size w (w.alloc (.cells #[.int .i64 0, .int .i64 0, .int .i64 0, .int .i64 0, .slice none 0 0] 26)) := (by repeat (first | exact Below.refl _ _ | refine below_step ?_ (by assumption) | assumption | refine Below.drew ?_ | refine below_drewN ?_ _ | refine below_alloc ?_ _ | refine Below.setCell ?_ (by simp; try omega) _))
  have hs0 : w.heap.size + 1 ≤ (w.alloc (.cells #[.int .i64 0, .int .i64 0, .int .i64 0, .int .i64 0, .slice none 0 0] 26)).heap.size := by rw [World.size_alloc]; omega
  go_enter Try.func10, Try.ntmps10
  go_wp2_with (first
    | (go_at_call 60; (with_reducible refine am.mono ?_); rintro e w3 ⟨k, rfl, hk, S4, hg3⟩; replace FD := BX.past (FD.al _) hg3 hDg; replace F0 := BX.past (F0.al _) hg3 hzg; have O4 := OO.past (O3.al _) hg3 hbg; have hb3 : Below w.heap.size w w3 := below_step2 ((hb2.alloc hl2 _).alloc (by rw [World.size_alloc]; omega) _) (below_gr hg3 (by rw [World.size_alloc, World.size_alloc]; omega) (by omega)); have f0 : (_ : Option Value) = some (.int .i64 c) := FD.cell 0 (by simp); have f1 : (_ : Option Value) = some (.int .i64 h) := FD.cell 1 (by simp); have f2 : (_ : Option Value) = some (.int .i64 p) := FD.cell 2 (by simp); have f3 : (_ : Option Value) = some (.int .i64 s) := FD.cell 3 (by simp); have f4 : (_ : Option Value) = some (.slice (some ⟨b, 0, none⟩) L.length vc) := FD.cell 4 (by simp); have z0 : (_ : Option Value) = some (.int .i64 0) := F0.cell 0 (by simp); have z1 : (_ : Option Value) = some (.int .i64 0) := F0.cell 1 (by simp); have z2 : (_ : Option Value) = some (.int .i64 0) := F0.cell 2 (by simp); have z3 : (_ : Option Value) = some (.int .i64 0) := F0.cell 3 (by simp); have z4 : (_ : Option Value) = some (.slice none 0 0) := F0.cell 4 (by simp); have hfz := fun j => F0.free j; have hl3 := hb3.size; have pk := pick_any 9 g n cc _ w.heap.size A l w3.drew (SR.dr S4) hn (rd_dr (hr.below hb3)) (by omega) hl3 (by omega) hn2 (by decide))
    | (go_at_call 59; (with_reducible refine bt.mono ?_); rintro e w2 ⟨c, h, p, s, L, v, rfl, hc, hh, hp, hs, O2, hLn, hLok, S2, hg2⟩; obtain ⟨b, vc, rfl, hbb0, hbb1⟩ := World.ownsRow.form O2 hLn.1; have hb2 := below_step2 hb1 (below_gr hg2 hw1 (by omega)) ; replace F0 := BX.past F0 hg2 hzg; have FD := BX.made w2 26 [.int .i64 c, .int .i64 h, .int .i64 p, .int .i64 s, .slice (some ⟨b, 0, none⟩) L.length vc]; have S3 := S2.al (.cells #[.int .i64 c, .int .i64 h, .int .i64 p, .int .i64 s, .slice (some ⟨b, 0, none⟩) L.length vc] 26); have O3 := OO.al O2 (.cells #[.int .i64 c, .int .i64 h, .int .i64 p, .int .i64 s, .slice (some ⟨b, 0, none⟩) L.length vc] 26); replace F0 := F0.al (.cells #[.int .i64 c, .int .i64 h, .int .i64 p, .int .i64 s, .slice (some ⟨b, 0, none⟩) L.length vc] 26); have hbg : b ≠ g := (by omega); have hDg : w2.heap.size ≠ g := (by have := S2.lt; omega); have hl2 : w.heap.size ≤ w2.heap.size := hb2.size; have am := among_any [0, 1, 2, 7, 8, -1] (w2.heap.size + 1) 6 6 rfl g n cc _ w.heap.size A l ((w2.alloc (.cells #[.int .i64 c, .int .i64 h, .int .i64 p, .int .i64 s, .slice (some ⟨b, 0, none⟩) L.length vc] 26)).alloc (.cells #[.int .i64 0, .int .i64 1, .int .i64 2, .int .i64 7, .int .i64 8, .int .i64 (-1)] 2)) (S3.al _) hn (((hr.below hb2).alloc hl2 _).alloc (by rw [World.size_alloc]; omega) _) (by omega) (by rw [World.size_alloc, World.size_alloc]; omega) (by omega) hn2 (by decide) (by decide) (CP.made1 w2 (.cells #[.int .i64 c, .int .i64 h, .int .i64 p, .int .i64 s, .slice (some ⟨b, 0, none⟩) L.length vc] 26) [.int .i64 0, .int .i64 1, .int .i64 2, .int .i64 7, .int .i64 8, .int .i64 (-1)] 2) (by have := S2.lt; omega))
    | (go_at_call 58; (with_reducible refine (from_any A n cc _).mono ?_); rintro e w1 ⟨g, rfl, hg0, S1, hx1⟩; have hb1 := hb0.trans (hx1.mono (by omega)); replace F0 := F0.below hx1 F0.lt; have hgl := S1.lt; have hr1 := hr.below hb1; have hw1 := hb1.size; have hzg : w.heap.size ≠ g := (by omega); have bt := bent_any 9 g n cc 0 w.heap.size A l w1 S1 hn hr1 (by omega) hw1 (by omega) hn2 (by decide)))
  clear hx1 bt am
  go_region_law (go_simp; (go_at_call 61; (with_reducible refine pk.mono ?_); rintro e w4 ⟨r, rfl, hr0, hr1, S5, hg4⟩; have FD4 := BX.past (BX.drx FD) hg4 hDg; have F4 := BX.past (BX.drx F0) hg4 hzg; have O5 := OO.past (OO.dr O4) hg4 hbg; have g0 : (_ : Option Value) = some (.int .i64 c) := FD4.cell 0 (by simp); have g1 : (_ : Option Value) = some (.int .i64 h) := FD4.cell 1 (by simp); have g2 : (_ : Option Value) = some (.int .i64 p) := FD4.cell 2 (by simp); have g3 : (_ : Option Value) = some (.int .i64 s) := FD4.cell 3 (by simp); have g4 : (_ : Option Value) = some (.slice (some ⟨b, 0, none⟩) L.length vc) := FD4.cell 4 (by simp); have y0 : (_ : Option Value) = some (.int .i64 0) := F4.cell 0 (by simp); have y1 : (_ : Option Value) = some (.int .i64 0) := F4.cell 1 (by simp); have y2 : (_ : Option Value) = some (.int .i64 0) := F4.cell 2 (by simp); have y3 : (_ : Option Value) = some (.int .i64 0) := F4.cell 3 (by simp); have y4 : (_ : Option Value) = some (.slice none 0 0) := F4.cell 4 (by simp); have hfy := fun j => F4.free j; have hwr : IntKind.i64.wrap (r - 1) = r - 1 := IntWalk.i64_in _ (by omega)))
  all_goals
    have hb4 : Below w.heap.size w w4 := below_step2 (Below.drew hb3) (below_gr hg4 hl3 (by omega))
    simp at hk
    have hz1 : w.heap.size < w1.heap.size := by omega
    go_wp2
    refine bodyPost_ret (v := .tuple #[.agg #[.int .i64 c, .int .i64 h, .int .i64 p, .int .i64 s, .slice (some ⟨b, 0, none⟩) L.length vc], .int .i64 k, .int .i64 (r - 1)]) (by simp [results, Try.results10, go_sem, World.cell?_setCell_other, y0, y1, y2, y3, y4]) rfl ⟨c, h, p, s, k, r - 1, L, _, rfl, hc, hh, hp, hs, by omega, by omega, ?_, hLn, hLok, (by with_reducible repeat (first | exact Below.refl _ _ | assumption | refine below_step ?_ (by assumption) | refine Below.drew ?_ | refine below_drewN ?_ _ | refine below_alloc ?_ _ | refine Below.setCell ?_ (by simp; try omega) _))⟩
    exact own_base (OO.put (OO.put (OO.put (OO.put (OO.put O5 hz1 _) hz1 _) hz1 _) hz1 _) hz1 _) (Nat.le_of_lt hz1)
end Go.Proofs.Yticnmljahnnhcaa
