/- Walks: DiscOfData. -/
import Derived.Test.YtcoidpooghmppaaW63
namespace Go.Proofs.Ytcoidpooghmppaa
open Go.RowKit
set_option linter.unusedVariables false

set_option maxRecDepth 100000 in
set_option maxHeartbeats 2000000 in
theorem spec_DiscOfData_any (c h p s : Int) (t : ByteArray) (w : World) (ht : t.size ≤ 1048576) :
    Calls Try.prog 15 #[.int .i64 c, .int .i64 h, .int .i64 p, .int .i64 s, .string t] w fun e w' => ∃ v, e = .returned (.tuple #[.agg #[.int .i64 (doX c h p s t c), .int .i64 (doX c h p s t h), .int .i64 (doX c h p s t p), .int .i64 (doX c h p s t s), v], .int .i64 (doC c h p s t)]) ∧ w'.ownsRow w.heap.size 47 2 v (doL c h p s t).length (flat fSector (doL c h p s t)) ∧ Below w.heap.size w w' := by
  unfold doX doC doL doB
  cases hg : geoB c h p s
  · rw [if_neg (by simp), if_neg (by simp), if_neg (by simp), if_neg (by simp), if_neg (by simp), if_neg (by simp)]
    go_enter Try.func15, Try.ntmps15
    go_wp2_with (go_at_call 64; refine (l12Geometry_any _ _ _ _ _).mono ?_; rintro e w1 ⟨rfl, rfl⟩; rw [hg])
    refine bodyPost_ret (v := .tuple #[.agg #[.int .i64 0, .int .i64 0, .int .i64 0, .int .i64 0, .slice none 0 0], .int .i64 2]) (by simp [results, Try.results15, go_sem]) rfl ⟨_, rfl, World.ownsRow_nil _ _ _ _, ?_⟩
    exact (by with_reducible repeat (first | exact Below.refl _ _ | assumption | refine below_step ?_ (by assumption) | refine Below.drew ?_ | refine below_drewN ?_ _ | refine below_alloc ?_ _ | refine Below.setCell ?_ (by simp; try omega) _))
  · have hnew := fun W => l12New_any c h p s W hg
    obtain ⟨c1, c2, h1, h2, p1, p2, s1, s2⟩ := geoB_yes hg
    obtain ⟨m1, m2⟩ := prod2 c1 c2 h1 h2
    obtain ⟨q1, q2⟩ := prod3 m1 m2 p1 p2
    obtain ⟨n, z1, z2, z3, z4⟩ := szB_nat s1 s2
    have hsz := fun W => l12Bytes_any s s1 s2 W
    rw [z1] at hsz
    have hnS : newS c h p s = List.replicate (secN c h p) (miss n) := by unfold newS; rw [z4]
    rw [hnS, List.length_replicate] at hnew
    rw [z4]
    have hmm : 1 ≤ secN c h p ∧ secN c h p ≤ 128 := by unfold secN; omega
    generalize secN c h p = m at hnew hmm ⊢
    obtain ⟨hm0, hm2⟩ := hmm
    obtain ⟨N, hN⟩ : ∃ N : Nat, n * m = N := ⟨_, rfl⟩
    have hNb : N ≤ 32 * 128 := by rw [← hN]; exact Nat.mul_le_mul z2 hm2
    have hNi : (n : Int) * (m : Int) = (N : Int) := by rw [← hN]; omega
    have hw1 : IntKind.i64.wrap ((n : Int) * (m : Int)) = (N : Int) := by rw [hNi]; exact IntWalk.i64_in _ (by omega)
    have hw2 : wrap64 ((n : Int) * (m : Int)) = (N : Int) := by rw [hNi]; exact IntWalk.wrap64_in _ ⟨by omega, by omega⟩
    rw [hN]
    have HNi := Lib.hid hNi
    have HNN := Lib.hid hN
    clear hnS z1 z4 hNi hN m1 m2 q1 q2 c1 c2 h1 h2 p1 p2 s1 s2
    by_cases hsz1 : t.size = N
    · have hdB : (true && decide (t.size = N)) = true := by simp [hsz1]
      rw [if_pos hdB, if_pos hdB, if_pos hdB, if_pos hdB, if_pos rfl, if_pos hdB, if_pos hdB, cutS_len]
      clear hdB
      have g1 : (((t.size : Nat) : Int) != (N : Int)) = false := by simp [hsz1]
      have HT := Lib.hid hsz1
      clear hsz1
      go_enter Try.func15, Try.ntmps15
      have B0 := BX.made w 24 [.int .i64 0, .int .i64 0, .int .i64 0, .int .i64 0, .slice none 0 0]
      go_wp2_with (first
        | (go_at_call 64; refine (l12Geometry_any _ _ _ _ _).mono ?_; rintro e w1 ⟨rfl, rfl⟩; rw [hg])
        | (go_at_call 65; refine (hnew _).mono ?_; rintro e w1 ⟨v, rfl, hown, hx⟩; obtain ⟨g, cp, hv⟩ := Go.Joins.ownsRow_form hown hm0; cases hv; have hlt1 := World.ownsRow.lt hown g rfl; replace B0 := B0.below hx B0.lt; have hB : Below w.heap.size w w1 := (by with_reducible repeat (first | exact Below.refl _ _ | assumption | refine below_step ?_ (by assumption) | refine Below.drew ?_ | refine below_drewN ?_ _ | refine below_alloc ?_ _ | refine Below.setCell ?_ (by simp; try omega) _)); replace hown := own_base (base' := w.heap.size + 1) hown (by simp); have D := BX.made w1 24 [.int .i64 c, .int .i64 h, .int .i64 p, .int .i64 s, .slice (some ⟨g, 0, none⟩) m cp]; replace B0 := B0.al (.cells #[.int .i64 c, .int .i64 h, .int .i64 p, .int .i64 s, .slice (some ⟨g, 0, none⟩) m cp] 24); have d4 : (_ : Option Value) = some (.slice (some ⟨g, 0, none⟩) m cp) := D.cell 4 (by simp))
        | (go_at_call 66; refine (hsz _).mono ?_; rintro e w2 ⟨rfl, rfl⟩))
      have hgG : w1.heap.size ≠ g := by omega
      have h0G : w.heap.size ≠ g := by have := hlt1.1; simp at this; omega
      have hgw : w.heap.size ≤ g := by have := hlt1.1; simp at this; omega
      have hGw : w.heap.size + 1 ≤ w1.heap.size := by have := hlt1.2; have := hlt1.1; simp at this; omega
      have hown0 := World.ownsRow.alloc hown (.cells #[.int .i64 c, .int .i64 h, .int .i64 p, .int .i64 s, .slice (some ⟨g, 0, none⟩) m cp] 24)
      go_loopw [14] (fun i wr => ∃ k : Nat, k ≤ m ∧ i = .int .i64 k ∧ BX wr w.heap.size 24 [.int .i64 0, .int .i64 0, .int .i64 0, .int .i64 0, .slice none 0 0] ∧ BX wr w1.heap.size 24 [.int .i64 c, .int .i64 h, .int .i64 p, .int .i64 s, .slice (some ⟨g, 0, none⟩) m cp] ∧ wr.ownsRow (w.heap.size + 1) 47 2 (.slice (some ⟨g, 0, none⟩) m cp) m (flat fSector (mixS t n m k)) ∧ Below w.heap.size w wr) (fun i _ => m - (intOf i).toNat)
      case atStart => exact ⟨0, Nat.zero_le _, rfl, B0, D, (by rw [mixS_zero]; exact hown0), (by with_reducible repeat (first | exact Below.refl _ _ | assumption | refine below_step ?_ (by assumption) | refine Below.drew ?_ | refine below_drewN ?_ _ | refine below_alloc ?_ _ | refine Below.setCell ?_ (by simp; try omega) _))⟩
      case round =>
        obtain ⟨k, hk, rfl, F0, F1, ho, hb⟩ := hrel
        have d4' : (_ : Option Value) = some (.slice (some ⟨g, 0, none⟩) m cp) := F1.cell 4 (by simp)
        by_cases hlt : k < m
        · obtain ⟨a, ha⟩ : ∃ a : Nat, k * n = a := ⟨_, rfl⟩
          obtain ⟨b, hb1⟩ : ∃ b : Nat, a + n = b := ⟨_, rfl⟩
          have hab : a ≤ b := by omega
          have hkm : b ≤ N := by
            have := Nat.mul_le_mul_right n (show k + 1 ≤ m by omega)
            rw [Nat.succ_mul, Nat.mul_comm m n, HNN.out] at this
            omega
          have hbt : b ≤ t.size := by rw [HT.out]; exact hkm
          have hai : (k : Int) * (n : Int) = (a : Int) := by rw [← ha]; omega
          have hw3 : IntKind.i64.wrap ((k : Int) * (n : Int)) = (a : Int) := by rw [hai]; exact IntWalk.i64_in _ (by omega)
          have hw4 : wrap64 ((k : Int) * (n : Int)) = (a : Int) := by rw [hai]; exact IntWalk.wrap64_in _ ⟨by omega, by omega⟩
          have hw5 : IntKind.i64.wrap ((a : Int) + (n : Int)) = (b : Int) := by rw [IntWalk.i64_in _ (by omega)]; omega
          have hw6 : wrap64 ((a : Int) + (n : Int)) = (b : Int) := by rw [IntWalk.wrap64_in _ ⟨by omega, by omega⟩]; omega
          have hput := mixS_put t n m k a b hlt ha hb1
          clear ha hb1 hai
          go_wp2_with fail
          refine wp_region_still_tail 13 (by kernel_rfl) (by kernel_rfl) ?_
          simp only [List.take_succ_cons, List.take_zero, List.drop_succ_cons, List.drop_zero]
          repeat still_step
          refine wpStill_nil ?_
          change wpList _ _ _ _ _ wr.drew
          replace hb := Below.drew hb
          replace F0 := F0.drw
          replace F1 := F1.drw
          replace ho : OO _ _ _ _ _ _ _ := OO.dr ho
          generalize wr.drew = w3 at hb F0 F1 ho ⊢
          have ho1 := World.ownsRow.stored ho (k * 2) (.string (t.extract a b)) |>.1
          have ho2 := World.ownsRow.stored ho1 (k * 2 + 1) (.int .i64 1) |>.1
          obtain ⟨u0, hu0⟩ := own_some ho (k * 2) (by omega)
          have hz0 := World.ownsRow.frozenAt ho (k * 2)
          obtain ⟨u1, hu1⟩ := own_some ho1 (k * 2 + 1) (by omega)
          have hz1 := World.ownsRow.frozenAt ho1 (k * 2 + 1)
          have d4s : (_ : Option Value) = some (.slice (some ⟨g, 0, none⟩) m cp) := (F1.far (a := ⟨g, k * 2, none⟩) hgG (.string (t.extract a b))).cell 4 (by simp)
          go_wp2
          go_roundw
          case rel =>
            refine ⟨k + 1, by omega, by go_num, (F0.far (a := ⟨g, k * 2, none⟩) h0G _).far (a := ⟨g, k * 2 + 1, none⟩) h0G _, (F1.far (a := ⟨g, k * 2, none⟩) hgG _).far (a := ⟨g, k * 2 + 1, none⟩) hgG _, ?_, Below.setCell (Below.setCell hb hgw _) hgw _⟩
            rw [← hput]
            exact ho2
          case measure => (simp [intOf] <;> omega)
        · obtain rfl : k = m := by omega
          rw [mixS_all] at ho
          have d0 : (_ : Option Value) = some (.int .i64 c) := F1.cell 0 (by simp)
          have d1 : (_ : Option Value) = some (.int .i64 h) := F1.cell 1 (by simp)
          have d2 : (_ : Option Value) = some (.int .i64 p) := F1.cell 2 (by simp)
          have d3 : (_ : Option Value) = some (.int .i64 s) := F1.cell 3 (by simp)
          have y0 : (_ : Option Value) = some (.int .i64 0) := F0.cell 0 (by simp)
          have y1 : (_ : Option Value) = some (.int .i64 0) := F0.cell 1 (by simp)
          have y2 : (_ : Option Value) = some (.int .i64 0) := F0.cell 2 (by simp)
          have y3 : (_ : Option Value) = some (.int .i64 0) := F0.cell 3 (by simp)
          have y4 : (_ : Option Value) = some (.slice none 0 0) := F0.cell 4 (by simp)
          have hfz := fun j => F0.free j
          go_wp2
          refine bodyPost_ret (v := .tuple #[.agg #[.int .i64 c, .int .i64 h, .int .i64 p, .int .i64 s, .slice (some ⟨g, 0, none⟩) k cp], .int .i64 0]) (by simp [results, Try.results15, go_sem, World.cell?_setCell_other, y0, y1, y2, y3, y4]) rfl ⟨_, rfl, ?_, ?_⟩
          · refine own_base (base := w.heap.size + 1) ?_ (by omega)
            exact ownsRow_setCell_below (ownsRow_setCell_below (ownsRow_setCell_below (ownsRow_setCell_below (ownsRow_setCell_below ho (by simp) _) (by simp) _) (by simp) _) (by simp) _) (by simp) _
          · exact (by with_reducible repeat (first | exact Below.refl _ _ | assumption | refine below_step ?_ (by assumption) | refine Below.drew ?_ | refine below_drewN ?_ _ | refine below_alloc ?_ _ | refine Below.setCell ?_ (by simp; try omega) _))
    · have hdB : ¬ (true && decide (t.size = N)) = true := by simp [hsz1]
      rw [if_neg hdB, if_neg hdB, if_neg hdB, if_neg hdB, if_pos rfl, if_neg hdB, if_neg hdB]
      clear hdB
      have g1 : (((t.size : Nat) : Int) != (N : Int)) = true := by simp; omega
      clear hsz1
      go_enter Try.func15, Try.ntmps15
      have B0 := BX.made w 24 [.int .i64 0, .int .i64 0, .int .i64 0, .int .i64 0, .slice none 0 0]
      go_wp2_with (first
        | (go_at_call 64; refine (l12Geometry_any _ _ _ _ _).mono ?_; rintro e w1 ⟨rfl, rfl⟩; rw [hg])
        | (go_at_call 65; refine (hnew _).mono ?_; rintro e w1 ⟨v, rfl, hown, hx⟩; obtain ⟨g, cp, hv⟩ := Go.Joins.ownsRow_form hown hm0; cases hv; have hlt1 := World.ownsRow.lt hown g rfl; replace B0 := B0.below hx B0.lt; have hB : Below w.heap.size w w1 := (by with_reducible repeat (first | exact Below.refl _ _ | assumption | refine below_step ?_ (by assumption) | refine Below.drew ?_ | refine below_drewN ?_ _ | refine below_alloc ?_ _ | refine Below.setCell ?_ (by simp; try omega) _)); replace hown := own_base (base' := w.heap.size + 1) hown (by simp); have D := BX.made w1 24 [.int .i64 c, .int .i64 h, .int .i64 p, .int .i64 s, .slice (some ⟨g, 0, none⟩) m cp]; replace B0 := B0.al (.cells #[.int .i64 c, .int .i64 h, .int .i64 p, .int .i64 s, .slice (some ⟨g, 0, none⟩) m cp] 24); have d4 : (_ : Option Value) = some (.slice (some ⟨g, 0, none⟩) m cp) := D.cell 4 (by simp); have y0 : (_ : Option Value) = some (.int .i64 0) := B0.cell 0 (by simp); have y1 : (_ : Option Value) = some (.int .i64 0) := B0.cell 1 (by simp); have y2 : (_ : Option Value) = some (.int .i64 0) := B0.cell 2 (by simp); have y3 : (_ : Option Value) = some (.int .i64 0) := B0.cell 3 (by simp); have y4 : (_ : Option Value) = some (.slice none 0 0) := B0.cell 4 (by simp); have hfz := fun j => B0.free j)
        | (go_at_call 66; refine (hsz _).mono ?_; rintro e w2 ⟨rfl, rfl⟩))
      refine bodyPost_ret (v := .tuple #[.agg #[.int .i64 0, .int .i64 0, .int .i64 0, .int .i64 0, .slice none 0 0], .int .i64 7]) (by simp [results, Try.results15, go_sem, World.cell?_setCell_other, y0, y1, y2, y3, y4]) rfl ⟨_, rfl, World.ownsRow_nil _ _ _ _, ?_⟩
      exact (by with_reducible repeat (first | exact Below.refl _ _ | assumption | refine below_step ?_ (by assumption) | refine Below.drew ?_ | refine below_drewN ?_ _ | refine below_alloc ?_ _ | refine Below.setCell ?_ (by simp; try omega) _))
end Go.Proofs.Ytcoidpooghmppaa
