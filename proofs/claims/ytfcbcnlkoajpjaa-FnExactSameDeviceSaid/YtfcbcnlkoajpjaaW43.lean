/- Walks: SameImage. -/
import Derived.Test.YtfcbcnlkoajpjaaW42
import Derived.Test.YtfcbcnlkoajpjaaSImage
namespace Go.Proofs.Ytfcbcnlkoajpjaa
open Go.RowKit
set_option linter.unusedVariables false

theorem CP.disc {w : World} {g : Nat} {c h p s : Int} {v : Value} {r : List Value} (d : CP w g (.int .i64 c :: .int .i64 h :: .int .i64 p :: .int .i64 s :: v :: r)) : DP w g c h p s v :=
  ⟨d 0 (by simp), d 1 (by simp), d 2 (by simp), d 3 (by simp), d 4 (by simp)⟩
def sameI (x : Bool) (l m : List ByteArray) : Bool := x && sameL qStr l m
theorem sameI_1 {x : Bool} {l m : List ByteArray} (h : x = false) : sameI x l m = false := by simp only [sameI, h, Bool.false_and]
theorem sameI_2 {x : Bool} {l m : List ByteArray} (h : x = true) : sameI x l m = sameL qStr l m := by simp only [sameI, h, Bool.true_and]

set_option maxRecDepth 100000 in
set_option maxHeartbeats 1000000 in
theorem spec_SameImage_any (c h p s c' h' p' s' : Int) (A A' N N' : Option Addr) (cp cp' q q' : Nat) (l m : List DSector) (n n' : List ByteArray) (w : World)
    (hr : Rd w w.heap.size 2 A l.length (flat fSector l)) (hr' : Rd w w.heap.size 2 A' m.length (flat fSector m)) (hn : l.length ≤ 1048576) (hn' : m.length ≤ 1048576)
    (kr : Rd w w.heap.size 1 N n.length (flat fS n)) (kr' : Rd w w.heap.size 1 N' n'.length (flat fS n')) (kn : n.length ≤ 1048576) (kn' : n'.length ≤ 1048576) :
    Calls Try.prog 33 #[.agg #[.int .i64 c, .int .i64 h, .int .i64 p, .int .i64 s, .slice A l.length cp, .slice N n.length q], .agg #[.int .i64 c', .int .i64 h', .int .i64 p', .int .i64 s', .slice A' m.length cp', .slice N' n'.length q']] w fun e w' => e = .returned (.bool (sameI (sameD c h p s l c' h' p' s' m) n n')) ∧ Below w.heap.size w w' := by
  have hq := fun (W : World) h1 h2 h3 h4 => l12Same_any w.heap.size (w.heap.size + 1) c h p s c' h' p' s' A A' cp cp' l m W h1 h2 h3 h4 hn hn'
  have D0 := (CP.made w [.int .i64 c, .int .i64 h, .int .i64 p, .int .i64 s, .slice A l.length cp, .slice N n.length q] 51).al (.cells #[.int .i64 c', .int .i64 h', .int .i64 p', .int .i64 s', .slice A' m.length cp', .slice N' n'.length q'] 51)
  have D1 := CP.made1 w (.cells #[.int .i64 c, .int .i64 h, .int .i64 p, .int .i64 s, .slice A l.length cp, .slice N n.length q] 51) [.int .i64 c', .int .i64 h', .int .i64 p', .int .i64 s', .slice A' m.length cp', .slice N' n'.length q'] 51
  have hB : Below w.heap.size w ((w.alloc (.cells #[.int .i64 c, .int .i64 h, .int .i64 p, .int .i64 s, .slice A l.length cp, .slice N n.length q] 51)).alloc (.cells #[.int .i64 c', .int .i64 h', .int .i64 p', .int .i64 s', .slice A' m.length cp', .slice N' n'.length q'] 51)) := (by with_reducible repeat (first | exact Below.refl _ _ | assumption | refine below_step ?_ (by assumption) | refine Below.drew ?_ | refine below_drewN ?_ _ | refine below_alloc ?_ _ | refine Below.setCell ?_ (by simp; try omega) _))
  have e0 := D0.disc
  have e1 := D1.disc
  have i0 := D0 5 (by simp)
  have i1 := D1 5 (by simp)
  simp only [List.getElem_cons_succ, List.getElem_cons_zero] at i0 i1
  generalize sameD c h p s l c' h' p' s' m = x at hq ⊢
  cases x
  · have HR := Lib.hid (sameI_1 (x := false) (l := n) (m := n') rfl)
    clear D0 D1 i0 i1
    go_enter Try.func33, Try.ntmps33
    go_wp2_with (go_at_call 58; refine (hq _ e0 e1 ((hr.below hB).more hB.size) ((hr'.below hB).more hB.size)).mono ?_; rintro e w1 ⟨rfl, k, rfl⟩)
    go_ret
    exact ⟨ret_bool HR.out.symm, below_drewN hB _⟩
  have HR := Lib.hid (sameI_2 (x := true) (l := n) (m := n') rfl)
  by_cases hl : n.length = n'.length
  · have HA := Lib.hid (sameL_all (q := qStr) n n' hl)
    have HB := Lib.hid (sameL_bad (q := qStr) n n')
    have g1 : (((n.length : Nat) : Int) != ((n'.length : Nat) : Int)) = false := by simp [hl]
    have g1' : (n.length != n'.length) = false := by simp [hl]
    have HL := Lib.hid hl
    clear D0 D1 hl
    go_enter Try.func33, Try.ntmps33
    go_wp2_with (go_at_call 58; refine (hq _ e0 e1 ((hr.below hB).more hB.size) ((hr'.below hB).more hB.size)).mono ?_; rintro e w1 ⟨rfl, k, rfl⟩)
    clear hq e0 e1
    generalize ((w.alloc (.cells #[.int .i64 c, .int .i64 h, .int .i64 p, .int .i64 s, .slice A l.length cp, .slice N n.length q] 51)).alloc (.cells #[.int .i64 c', .int .i64 h', .int .i64 p', .int .i64 s', .slice A' m.length cp', .slice N' n'.length q'] 51)) = W0 at hB i0 i1 ⊢
    go_loopw [5] (fun i wr => ∃ k z : Nat, k ≤ n.length ∧ i = .int .i64 k ∧ wr = W0.drewN z ∧ Hid (∀ j, j < k → ∀ (h1 : j < n.length) (h2 : j < n'.length), qStr n[j] n'[j] = true)) (fun i _ => n.length - (intOf i).toNat)
    case atStart => exact ⟨0, _, Nat.zero_le _, rfl, rfl, Lib.hid (fun j hj => absurd hj (by omega))⟩
    case round =>
      obtain ⟨k, z, hk, rfl, rfl, HI⟩ := hrel
      by_cases hlt : k < n.length
      · have hlt' : k < n'.length := by have := HL.out; omega
        obtain ⟨b, off, rfl, hbb, hc⟩ := (kr.below hB).at_ fS_len rfl k hlt
        obtain ⟨b', off', rfl, hbb', hd⟩ := (kr'.below hB).at_ fS_len rfl k hlt'
        have hc0 := hc 0 _ (by omega) rfl
        have hd0 := hd 0 _ (by omega) rfl
        clear hc hd
        simp only [Nat.mul_one, Nat.add_zero] at hc0 hd0
        have hkm : (k : Int) < (n'.length : Int) := by omega
        cases s0 : (n[k].toList == n'[k].toList)
        · have HS := Lib.hid (HR.out.trans (HB.out k hlt hlt' s0))
          go_wp2_with fail
          go_quiet (fail)
          go_wp2
          go_ret
          exact ⟨ret_bool HS.out.symm, below_drewN (below_drewN hB _) _⟩
        have HN := Lib.hid (all_next HI.out (fun _ _ => s0))
        go_wp2_with fail
        go_quiet (fail)
        go_wp2
        go_roundw
        case rel => exact ⟨k + 1, _, by omega, by go_num, rfl, HN⟩
        case measure => (simp [intOf] <;> omega)
      · have HS := Lib.hid (HR.out.trans (HA.out (fun j h1 h2 => HI.out j (by omega) h1 h2)))
        go_wp2
        go_ret
        exact ⟨ret_bool HS.out.symm, below_drewN hB _⟩
  · have HS := Lib.hid (HR.out.trans (sameL_len (q := qStr) n n' hl))
    have g1 : (((n.length : Nat) : Int) != ((n'.length : Nat) : Int)) = true := by simp; omega
    have g1' : (n.length != n'.length) = true := by simp; omega
    clear hl D0 D1
    go_enter Try.func33, Try.ntmps33
    go_wp2_with (go_at_call 58; refine (hq _ e0 e1 ((hr.below hB).more hB.size) ((hr'.below hB).more hB.size)).mono ?_; rintro e w1 ⟨rfl, k, rfl⟩)
    go_ret
    exact ⟨ret_bool HS.out.symm, below_drewN hB _⟩

set_option maxRecDepth 100000 in
set_option maxHeartbeats 1000000 in
theorem impl_SameImage_any (c h p s c' h' p' s' : Int) (A A' N N' : Option Addr) (cp cp' q q' : Nat) (l m : List DSector) (n n' : List ByteArray) (w : World)
    (hr : Rd w w.heap.size 2 A l.length (flat fSector l)) (hr' : Rd w w.heap.size 2 A' m.length (flat fSector m)) (hn : l.length ≤ 1048576) (hn' : m.length ≤ 1048576)
    (kr : Rd w w.heap.size 1 N n.length (flat fS n)) (kr' : Rd w w.heap.size 1 N' n'.length (flat fS n')) (kn : n.length ≤ 1048576) (kn' : n'.length ≤ 1048576) :
    Calls Try.prog 35 #[.agg #[.int .i64 c, .int .i64 h, .int .i64 p, .int .i64 s, .slice A l.length cp, .slice N n.length q], .agg #[.int .i64 c', .int .i64 h', .int .i64 p', .int .i64 s', .slice A' m.length cp', .slice N' n'.length q']] w fun e w' => e = .returned (.bool (sameI (sameD c h p s l c' h' p' s' m) n n')) ∧ Below w.heap.size w w' := by
  have hq := fun (W : World) h1 h2 => impl_SameDisc_any c h p s c' h' p' s' A A' cp cp' l m W h1 h2 hn hn'
  have D0 := (CP.made w [.int .i64 c, .int .i64 h, .int .i64 p, .int .i64 s, .slice A l.length cp, .slice N n.length q] 51).al (.cells #[.int .i64 c', .int .i64 h', .int .i64 p', .int .i64 s', .slice A' m.length cp', .slice N' n'.length q'] 51)
  have D1 := CP.made1 w (.cells #[.int .i64 c, .int .i64 h, .int .i64 p, .int .i64 s, .slice A l.length cp, .slice N n.length q] 51) [.int .i64 c', .int .i64 h', .int .i64 p', .int .i64 s', .slice A' m.length cp', .slice N' n'.length q'] 51
  have hB : Below w.heap.size w ((w.alloc (.cells #[.int .i64 c, .int .i64 h, .int .i64 p, .int .i64 s, .slice A l.length cp, .slice N n.length q] 51)).alloc (.cells #[.int .i64 c', .int .i64 h', .int .i64 p', .int .i64 s', .slice A' m.length cp', .slice N' n'.length q'] 51)) := (by with_reducible repeat (first | exact Below.refl _ _ | assumption | refine below_step ?_ (by assumption) | refine Below.drew ?_ | refine below_drewN ?_ _ | refine below_alloc ?_ _ | refine Below.setCell ?_ (by simp; try omega) _))
  generalize sameD c h p s l c' h' p' s' m = x at hq ⊢
  cases x
  · have HR := Lib.hid (sameI_1 (x := false) (l := n) (m := n') rfl)
    go_enter Try.func35, Try.ntmps35
    go_wp2_with (go_at_call 18; refine (hq _ ((hr.below hB).more hB.size) ((hr'.below hB).more hB.size)).mono ?_; rintro e w1 ⟨rfl, hx⟩)
    go_ret
    exact ⟨ret_bool HR.out.symm, below_step hB hx⟩
  · have HR := Lib.hid (sameI_2 (x := true) (l := n) (m := n') rfl)
    go_enter Try.func35, Try.ntmps35
    go_wp2_with (first
      | (go_at_call 18; refine (hq _ ((hr.below hB).more hB.size) ((hr'.below hB).more hB.size)).mono ?_; rintro e w1 ⟨rfl, hx⟩; replace hB := below_step hB hx; have i0 : (_ : Option Value) = some (.slice N n.length q) := (D0.next hx) 5 (by simp); have i1 : (_ : Option Value) = some (.slice N' n'.length q') := (D1.next hx) 5 (by simp))
      | (go_at_call 73; refine (equalStr_any N N' q q' n n' _ w.heap.size (kr.below hB) (kr'.below hB) kn kn').mono ?_; rintro e w2 ⟨rfl, k, rfl⟩))
    go_ret
    exact ⟨ret_bool HR.out.symm, below_drewN hB _⟩
end Go.Proofs.Ytfcbcnlkoajpjaa
