/- Walks: SameDisc. -/
import Derived.Test.YtfcbcnlkoajpjaaW41
namespace Go.Proofs.Ytfcbcnlkoajpjaa
open Go.RowKit
set_option linter.unusedVariables false

theorem DP.made1 (w : World) (o : Obj) (c h p s : Int) (v : Value) (t : TypeId) : DP ((w.alloc o).alloc (.cells #[.int .i64 c, .int .i64 h, .int .i64 p, .int .i64 s, v] t)) (w.heap.size + 1) c h p s v := by
  have := DP.made (w.alloc o) c h p s v t
  rwa [World.size_alloc] at this
def sameD (c h p s : Int) (l : List DSector) (c' h' p' s' : Int) (m : List DSector) : Bool := alikeB c h p s c' h' p' s' && sameL qSec l m
theorem sameD_1 {c h p s : Int} {l : List DSector} {c' h' p' s' : Int} {m : List DSector} (g : alikeB c h p s c' h' p' s' = false) : sameD c h p s l c' h' p' s' m = false := by simp only [sameD, g, Bool.false_and]
theorem sameD_2 {c h p s : Int} {l : List DSector} {c' h' p' s' : Int} {m : List DSector} (g : alikeB c h p s c' h' p' s' = true) : sameD c h p s l c' h' p' s' m = sameL qSec l m := by simp only [sameD, g, Bool.true_and]

set_option maxRecDepth 100000 in
set_option maxHeartbeats 1000000 in
theorem l12Same_any (g g' : Nat) (c h p s c' h' p' s' : Int) (A A' : Option Addr) (cp cp' : Nat) (l m : List DSector) (w : World) (hd : DP w g c h p s (.slice A l.length cp)) (hd' : DP w g' c' h' p' s' (.slice A' m.length cp'))
    (hr : Rd w w.heap.size 2 A l.length (flat fSector l)) (hr' : Rd w w.heap.size 2 A' m.length (flat fSector m)) (hn : l.length ≤ 1048576) (hn' : m.length ≤ 1048576) :
    Calls Try.prog 58 #[.pointer (some ⟨g, 0, none⟩), .pointer (some ⟨g', 0, none⟩)] w fun e w' => e = .returned (.bool (sameD c h p s l c' h' p' s' m)) ∧ ∃ n, w' = w.drewN n := by
  have hal := fun n => l12Alike_any g g' c h p s c' h' p' s' _ _ (w.drewN n) (hd.drewN n) (hd'.drewN n)
  obtain ⟨d0, d1, d2, d3, d4⟩ := id hd
  obtain ⟨e0, e1, e2, e3, e4⟩ := id hd'
  cases ha : alikeB c h p s c' h' p' s'
  · have HR := Lib.hid (sameD_1 (l := l) (m := m) ha)
    go_enter Try.func58, Try.ntmps58
    go_wp2_with fail
    go_quiet ((go_at_call 96; exact quiet_draw (hal _)))
    simp only [ha]
    go_wp2
    go_ret
    exact ⟨ret_bool HR.out.symm, _, rfl⟩
  have HR := Lib.hid (sameD_2 (l := l) (m := m) ha)
  by_cases hl : l.length = m.length
  · have HA := Lib.hid (sameL_all (q := qSec) l m hl)
    have HB := Lib.hid (sameL_bad (q := qSec) l m)
    have g1 : (((l.length : Nat) : Int) != ((m.length : Nat) : Int)) = false := by simp [hl]
    have g1' : (l.length != m.length) = false := by simp [hl]
    go_enter Try.func58, Try.ntmps58
    go_wp2_with fail
    go_quiet ((go_at_call 96; exact quiet_draw (hal _)))
    simp only [ha]
    go_wp2_with fail
    go_loopw [5] (fun i wr => ∃ k n : Nat, k ≤ l.length ∧ i = .int .i64 k ∧ wr = w.drewN n ∧ Hid (∀ j, j < k → ∀ (h1 : j < l.length) (h2 : j < m.length), qSec l[j] m[j] = true)) (fun i _ => l.length - (intOf i).toNat)
    case atStart => exact ⟨0, _, Nat.zero_le _, rfl, rfl, Lib.hid (fun j hj => absurd hj (by omega))⟩
    case round =>
      obtain ⟨k, n, hk, rfl, rfl, HI⟩ := hrel
      by_cases hlt : k < l.length
      · have hlt' : k < m.length := by omega
        obtain ⟨b, off, rfl, hbb, hc⟩ := hr.at_ fSector_len rfl k hlt
        obtain ⟨b', off', rfl, hbb', hd'⟩ := hr'.at_ fSector_len rfl k hlt'
        have hc0 := hc 0 _ (by omega) rfl
        have hd0 := hd' 0 _ (by omega) rfl
        have hc1 := hc 1 _ (by omega) rfl
        have hd1 := hd' 1 _ (by omega) rfl
        clear hc hd'
        simp only [← Nat.add_assoc, Nat.add_zero] at hc0 hd0 hc1 hd1
        have hkm : (k : Int) < (m.length : Int) := by omega
        have q1 : Try.prog.stoodInHeld 71 = false := by kernel_rfl
        have q2 : Try.prog.eqGuardType Try.prog.depth 71 = false := by kernel_rfl
        cases s0 : (l[k].f0.toList == m[k].f0.toList)
        · have HS := Lib.hid (HR.out.trans (HB.out k hlt hlt' (by unfold qSec; rw [s0]; rfl)))
          go_wp2_with fail
          go_quiet (fail)
          go_wp2
          go_ret
          exact ⟨ret_bool HS.out.symm, n + nq, by rw [World.drewN_drewN]⟩
        cases s1 : (l[k].f1 == m[k].f1)
        · have HS := Lib.hid (HR.out.trans (HB.out k hlt hlt' (by unfold qSec; rw [s0, s1]; rfl)))
          go_wp2_with fail
          go_quiet (fail)
          go_wp2
          go_ret
          exact ⟨ret_bool HS.out.symm, n + nq, by rw [World.drewN_drewN]⟩
        have HN := Lib.hid (all_next HI.out (fun _ _ => by unfold qSec; rw [s0, s1]; rfl))
        go_wp2_with fail
        go_quiet (fail)
        go_wp2
        go_roundw
        case rel => exact ⟨k + 1, _, by omega, by go_num, rfl, HN⟩
        case measure => (simp [intOf] <;> omega)
      · have HS := Lib.hid (HR.out.trans (HA.out (fun j h1 h2 => HI.out j (by omega) h1 h2)))
        go_wp2
        go_ret
        exact ⟨ret_bool HS.out.symm, _, rfl⟩
  · have HS := Lib.hid (HR.out.trans (sameL_len (q := qSec) l m hl))
    have g1 : (((l.length : Nat) : Int) != ((m.length : Nat) : Int)) = true := by simp; omega
    have g1' : (l.length != m.length) = true := by simp; omega
    clear hl
    go_enter Try.func58, Try.ntmps58
    go_wp2_with fail
    go_quiet ((go_at_call 96; exact quiet_draw (hal _)))
    simp only [ha]
    go_wp2
    go_ret
    exact ⟨ret_bool HS.out.symm, _, rfl⟩

set_option maxRecDepth 100000 in
set_option maxHeartbeats 400000 in
theorem spec_SameDisc_any (c h p s c' h' p' s' : Int) (A A' : Option Addr) (cp cp' : Nat) (l m : List DSector) (w : World)
    (hr : Rd w w.heap.size 2 A l.length (flat fSector l)) (hr' : Rd w w.heap.size 2 A' m.length (flat fSector m)) (hn : l.length ≤ 1048576) (hn' : m.length ≤ 1048576) :
    Calls Try.prog 16 #[.agg #[.int .i64 c, .int .i64 h, .int .i64 p, .int .i64 s, .slice A l.length cp], .agg #[.int .i64 c', .int .i64 h', .int .i64 p', .int .i64 s', .slice A' m.length cp']] w fun e w' => e = .returned (.bool (sameD c h p s l c' h' p' s' m)) ∧ Below w.heap.size w w' := by
  have hq := fun (W : World) h1 h2 h3 h4 => l12Same_any w.heap.size (w.heap.size + 1) c h p s c' h' p' s' A A' cp cp' l m W h1 h2 h3 h4 hn hn'
  generalize sameD c h p s l c' h' p' s' m = r at hq
  go_enter Try.func16, Try.ntmps16
  go_wp2_with (go_at_call 58; refine (hq _ ((DP.made w c h p s _ _).alloc _) (DP.made1 w _ c' h' p' s' _ _) ((hr.below (by with_reducible repeat (first | exact Below.refl _ _ | assumption | refine below_step ?_ (by assumption) | refine Below.drew ?_ | refine below_drewN ?_ _ | refine below_alloc ?_ _ | refine Below.setCell ?_ (by simp; try omega) _))).more (by simp; try omega)) ((hr'.below (by with_reducible repeat (first | exact Below.refl _ _ | assumption | refine below_step ?_ (by assumption) | refine Below.drew ?_ | refine below_drewN ?_ _ | refine below_alloc ?_ _ | refine Below.setCell ?_ (by simp; try omega) _))).more (by simp; try omega))).mono ?_; rintro e w1 ⟨rfl, k, rfl⟩)
  go_ret
  exact ⟨rfl, (by with_reducible repeat (first | exact Below.refl _ _ | assumption | refine below_step ?_ (by assumption) | refine Below.drew ?_ | refine below_drewN ?_ _ | refine below_alloc ?_ _ | refine Below.setCell ?_ (by simp; try omega) _))⟩

set_option maxRecDepth 100000 in
set_option maxHeartbeats 400000 in
theorem impl_SameDisc_any (c h p s c' h' p' s' : Int) (A A' : Option Addr) (cp cp' : Nat) (l m : List DSector) (w : World)
    (hr : Rd w w.heap.size 2 A l.length (flat fSector l)) (hr' : Rd w w.heap.size 2 A' m.length (flat fSector m)) (hn : l.length ≤ 1048576) (hn' : m.length ≤ 1048576) :
    Calls Try.prog 18 #[.agg #[.int .i64 c, .int .i64 h, .int .i64 p, .int .i64 s, .slice A l.length cp], .agg #[.int .i64 c', .int .i64 h', .int .i64 p', .int .i64 s', .slice A' m.length cp']] w fun e w' => e = .returned (.bool (sameD c h p s l c' h' p' s' m)) ∧ Below w.heap.size w w' := by
  cases ha : alikeB c h p s c' h' p' s'
  · have HR := Lib.hid (sameD_1 (l := l) (m := m) ha)
    go_enter Try.func18, Try.ntmps18
    go_wp2_with (go_at_call 60; refine (sameGeometry_any c h p s c' h' p' s' _ _ _ rfl rfl).mono ?_; rintro e w1 ⟨rfl, hx⟩; rw [ha]; obtain ⟨hc, hf⟩ := bcell hx)
    go_ret
    exact ⟨ret_bool HR.out.symm, (by with_reducible repeat (first | exact Below.refl _ _ | assumption | refine below_step ?_ (by assumption) | refine Below.drew ?_ | refine below_drewN ?_ _ | refine below_alloc ?_ _ | refine Below.setCell ?_ (by simp; try omega) _))⟩
  · have HR := Lib.hid (sameD_2 (l := l) (m := m) ha)
    have hB := BB.start w
    go_enter Try.func18, Try.ntmps18
    go_wp2_with (first
      | (go_at_call 60; refine (sameGeometry_any c h p s c' h' p' s' _ _ _ rfl rfl).mono ?_; rintro e w1 ⟨rfl, hx⟩; rw [ha]; obtain ⟨hc, hf⟩ := bcell hx; have hB1 : Below w.heap.size w w1 := (by with_reducible repeat (first | exact Below.refl _ _ | assumption | refine below_step ?_ (by assumption) | refine Below.drew ?_ | refine below_drewN ?_ _ | refine below_alloc ?_ _ | refine Below.setCell ?_ (by simp; try omega) _)))
      | (go_at_call 61; refine (equalSec_any A A' cp cp' l m _ w.heap.size (hr.below hB1) (hr'.below hB1) hn hn').mono ?_; rintro e w2 ⟨rfl, k, rfl⟩))
    go_ret
    exact ⟨ret_bool HR.out.symm, (by with_reducible repeat (first | exact Below.refl _ _ | assumption | refine below_step ?_ (by assumption) | refine Below.drew ?_ | refine below_drewN ?_ _ | refine below_alloc ?_ _ | refine Below.setCell ?_ (by simp; try omega) _))⟩
end Go.Proofs.Ytfcbcnlkoajpjaa
