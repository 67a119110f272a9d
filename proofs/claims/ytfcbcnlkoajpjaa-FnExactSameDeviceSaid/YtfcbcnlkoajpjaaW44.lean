/- Walks: SameDevice. -/
import Derived.Test.YtfcbcnlkoajpjaaW43
import Derived.Test.YtfcbcnlkoajpjaaSDevice
namespace Go.Proofs.Ytfcbcnlkoajpjaa
open Go.RowKit
set_option linter.unusedVariables false

def sameV (x : Bool) (k r k' r' : Int) (l m : List Int) : Bool := x && (k == k') && (r == r') && sameL qInt l m
theorem sameV_1 {k r k' r' : Int} {l m : List Int} : sameV false k r k' r' l m = false := by simp only [sameV, Bool.false_and]
theorem sameV_2 {k r k' r' : Int} {l m : List Int} (h : (k == k') = false) : sameV true k r k' r' l m = false := by simp only [sameV, h, Bool.false_and, Bool.and_false]
theorem sameV_3 {k r k' r' : Int} {l m : List Int} (h : (r == r') = false) : sameV true k r k' r' l m = false := by simp only [sameV, h, Bool.false_and, Bool.and_false]
theorem sameV_4 {k r k' r' : Int} {l m : List Int} (h : (k == k') = true) (h2 : (r == r') = true) : sameV true k r k' r' l m = sameL qInt l m := by simp only [sameV, h, h2, Bool.true_and]

set_option maxRecDepth 100000 in
set_option maxHeartbeats 1000000 in
theorem spec_SameDevice_any (c h p s c' h' p' s' : Int) (A A' : Option Addr) (cp cp' : Nat) (l m : List DSector) (k r k' r' : Int) (N N' : Option Addr) (q q' : Nat) (n n' : List Int) (w : World)
    (hr : Rd w w.heap.size 2 A l.length (flat fSector l)) (hr' : Rd w w.heap.size 2 A' m.length (flat fSector m)) (hn : l.length ≤ 1048576) (hn' : m.length ≤ 1048576)
    (kr : Rd w w.heap.size 1 N n.length (flat fI n)) (kr' : Rd w w.heap.size 1 N' n'.length (flat fI n')) (kn : n.length ≤ 1048576) (kn' : n'.length ≤ 1048576) :
    Calls Try.prog 38 #[.agg #[.int .i64 c, .int .i64 h, .int .i64 p, .int .i64 s, .slice A l.length cp, .int .i64 k, .int .i64 r, .slice N n.length q], .agg #[.int .i64 c', .int .i64 h', .int .i64 p', .int .i64 s', .slice A' m.length cp', .int .i64 k', .int .i64 r', .slice N' n'.length q']] w fun e w' => e = .returned (.bool (sameV (sameD c h p s l c' h' p' s' m) k r k' r' n n')) ∧ Below w.heap.size w w' := by
  have hq := fun (W : World) h1 h2 h3 h4 => l12Same_any w.heap.size (w.heap.size + 1) c h p s c' h' p' s' A A' cp cp' l m W h1 h2 h3 h4 hn hn'
  have D0 := (CP.made w [.int .i64 c, .int .i64 h, .int .i64 p, .int .i64 s, .slice A l.length cp, .int .i64 k, .int .i64 r, .slice N n.length q] 59).al (.cells #[.int .i64 c', .int .i64 h', .int .i64 p', .int .i64 s', .slice A' m.length cp', .int .i64 k', .int .i64 r', .slice N' n'.length q'] 59)
  have D1 := CP.made1 w (.cells #[.int .i64 c, .int .i64 h, .int .i64 p, .int .i64 s, .slice A l.length cp, .int .i64 k, .int .i64 r, .slice N n.length q] 59) [.int .i64 c', .int .i64 h', .int .i64 p', .int .i64 s', .slice A' m.length cp', .int .i64 k', .int .i64 r', .slice N' n'.length q'] 59
  have hB : Below w.heap.size w ((w.alloc (.cells #[.int .i64 c, .int .i64 h, .int .i64 p, .int .i64 s, .slice A l.length cp, .int .i64 k, .int .i64 r, .slice N n.length q] 59)).alloc (.cells #[.int .i64 c', .int .i64 h', .int .i64 p', .int .i64 s', .slice A' m.length cp', .int .i64 k', .int .i64 r', .slice N' n'.length q'] 59)) := (by with_reducible repeat (first | exact Below.refl _ _ | assumption | refine below_step ?_ (by assumption) | refine Below.drew ?_ | refine below_drewN ?_ _ | refine below_alloc ?_ _ | refine Below.setCell ?_ (by simp; try omega) _))
  generalize sameD c h p s l c' h' p' s' m = x at hq ⊢
  cases x
  · have HR := Lib.hid (sameV_1 (k := k) (r := r) (k' := k') (r' := r') (l := n) (m := n'))
    go_enter Try.func38, Try.ntmps38
    go_wp2_with (go_at_call 58; refine (hq _ D0.disc D1.disc ((hr.below hB).more hB.size) ((hr'.below hB).more hB.size)).mono ?_; rintro e w1 ⟨rfl, z, rfl⟩; have i5 : (_ : Option Value) = some (.int .i64 k) := D0 5 (by simp); have i6 : (_ : Option Value) = some (.int .i64 r) := D0 6 (by simp); have i7 : (_ : Option Value) = some (.slice N n.length q) := D0 7 (by simp); have j5 : (_ : Option Value) = some (.int .i64 k') := D1 5 (by simp); have j6 : (_ : Option Value) = some (.int .i64 r') := D1 6 (by simp); have j7 : (_ : Option Value) = some (.slice N' n'.length q') := D1 7 (by simp))
    go_ret
    exact ⟨ret_bool HR.out.symm, below_drewN hB _⟩
  cases g1 : (k == k')
  · have HR := Lib.hid (sameV_2 (r := r) (r' := r') (l := n) (m := n') g1)
    go_enter Try.func38, Try.ntmps38
    go_wp2_with (go_at_call 58; refine (hq _ D0.disc D1.disc ((hr.below hB).more hB.size) ((hr'.below hB).more hB.size)).mono ?_; rintro e w1 ⟨rfl, z, rfl⟩; have i5 : (_ : Option Value) = some (.int .i64 k) := D0 5 (by simp); have i6 : (_ : Option Value) = some (.int .i64 r) := D0 6 (by simp); have i7 : (_ : Option Value) = some (.slice N n.length q) := D0 7 (by simp); have j5 : (_ : Option Value) = some (.int .i64 k') := D1 5 (by simp); have j6 : (_ : Option Value) = some (.int .i64 r') := D1 6 (by simp); have j7 : (_ : Option Value) = some (.slice N' n'.length q') := D1 7 (by simp))
    go_ret
    exact ⟨ret_bool HR.out.symm, below_drewN hB _⟩
  cases g2 : (r == r')
  · have HR := Lib.hid (sameV_3 (k := k) (k' := k') (l := n) (m := n') g2)
    go_enter Try.func38, Try.ntmps38
    go_wp2_with (go_at_call 58; refine (hq _ D0.disc D1.disc ((hr.below hB).more hB.size) ((hr'.below hB).more hB.size)).mono ?_; rintro e w1 ⟨rfl, z, rfl⟩; have i5 : (_ : Option Value) = some (.int .i64 k) := D0 5 (by simp); have i6 : (_ : Option Value) = some (.int .i64 r) := D0 6 (by simp); have i7 : (_ : Option Value) = some (.slice N n.length q) := D0 7 (by simp); have j5 : (_ : Option Value) = some (.int .i64 k') := D1 5 (by simp); have j6 : (_ : Option Value) = some (.int .i64 r') := D1 6 (by simp); have j7 : (_ : Option Value) = some (.slice N' n'.length q') := D1 7 (by simp))
    go_ret
    exact ⟨ret_bool HR.out.symm, below_drewN hB _⟩
  have HR := Lib.hid (sameV_4 (l := n) (m := n') g1 g2)
  go_enter Try.func38, Try.ntmps38
  go_wp2_with (first | (go_at_call 58; refine (hq _ D0.disc D1.disc ((hr.below hB).more hB.size) ((hr'.below hB).more hB.size)).mono ?_; rintro e w1 ⟨rfl, z, rfl⟩; have i5 : (_ : Option Value) = some (.int .i64 k) := D0 5 (by simp); have i6 : (_ : Option Value) = some (.int .i64 r) := D0 6 (by simp); have i7 : (_ : Option Value) = some (.slice N n.length q) := D0 7 (by simp); have j5 : (_ : Option Value) = some (.int .i64 k') := D1 5 (by simp); have j6 : (_ : Option Value) = some (.int .i64 r') := D1 6 (by simp); have j7 : (_ : Option Value) = some (.slice N' n'.length q') := D1 7 (by simp)) | (go_at_call 76; refine (l00Same_any N N' q q' n n' _ w.heap.size (kr.below (below_drewN hB _)) (kr'.below (below_drewN hB _)) kn kn').mono ?_; rintro e w2 ⟨rfl, z2, rfl⟩))
  go_ret
  exact ⟨ret_bool HR.out.symm, below_drewN hB _⟩

set_option maxRecDepth 100000 in
set_option maxHeartbeats 1000000 in
theorem impl_SameDevice_any (c h p s c' h' p' s' : Int) (A A' : Option Addr) (cp cp' : Nat) (l m : List DSector) (k r k' r' : Int) (N N' : Option Addr) (q q' : Nat) (n n' : List Int) (w : World)
    (hr : Rd w w.heap.size 2 A l.length (flat fSector l)) (hr' : Rd w w.heap.size 2 A' m.length (flat fSector m)) (hn : l.length ≤ 1048576) (hn' : m.length ≤ 1048576)
    (kr : Rd w w.heap.size 1 N n.length (flat fI n)) (kr' : Rd w w.heap.size 1 N' n'.length (flat fI n')) (kn : n.length ≤ 1048576) (kn' : n'.length ≤ 1048576) :
    Calls Try.prog 40 #[.agg #[.int .i64 c, .int .i64 h, .int .i64 p, .int .i64 s, .slice A l.length cp, .int .i64 k, .int .i64 r, .slice N n.length q], .agg #[.int .i64 c', .int .i64 h', .int .i64 p', .int .i64 s', .slice A' m.length cp', .int .i64 k', .int .i64 r', .slice N' n'.length q']] w fun e w' => e = .returned (.bool (sameV (sameD c h p s l c' h' p' s' m) k r k' r' n n')) ∧ Below w.heap.size w w' := by
  have hq := fun (W : World) h1 h2 => impl_SameDisc_any c h p s c' h' p' s' A A' cp cp' l m W h1 h2 hn hn'
  have D0 := (CP.made w [.int .i64 c, .int .i64 h, .int .i64 p, .int .i64 s, .slice A l.length cp, .int .i64 k, .int .i64 r, .slice N n.length q] 59).al (.cells #[.int .i64 c', .int .i64 h', .int .i64 p', .int .i64 s', .slice A' m.length cp', .int .i64 k', .int .i64 r', .slice N' n'.length q'] 59)
  have D1 := CP.made1 w (.cells #[.int .i64 c, .int .i64 h, .int .i64 p, .int .i64 s, .slice A l.length cp, .int .i64 k, .int .i64 r, .slice N n.length q] 59) [.int .i64 c', .int .i64 h', .int .i64 p', .int .i64 s', .slice A' m.length cp', .int .i64 k', .int .i64 r', .slice N' n'.length q'] 59
  have hB : Below w.heap.size w ((w.alloc (.cells #[.int .i64 c, .int .i64 h, .int .i64 p, .int .i64 s, .slice A l.length cp, .int .i64 k, .int .i64 r, .slice N n.length q] 59)).alloc (.cells #[.int .i64 c', .int .i64 h', .int .i64 p', .int .i64 s', .slice A' m.length cp', .int .i64 k', .int .i64 r', .slice N' n'.length q'] 59)) := (by with_reducible repeat (first | exact Below.refl _ _ | assumption | refine below_step ?_ (by assumption) | refine Below.drew ?_ | refine below_drewN ?_ _ | refine below_alloc ?_ _ | refine Below.setCell ?_ (by simp; try omega) _))
  generalize sameD c h p s l c' h' p' s' m = x at hq ⊢
  cases x
  · have HR := Lib.hid (sameV_1 (k := k) (r := r) (k' := k') (r' := r') (l := n) (m := n'))
    go_enter Try.func40, Try.ntmps40
    go_wp2_with (go_at_call 18; refine (hq _ ((hr.below hB).more hB.size) ((hr'.below hB).more hB.size)).mono ?_; rintro e w1 ⟨rfl, hx⟩; replace hB := below_step hB hx; have i5 : (_ : Option Value) = some (.int .i64 k) := (D0.next hx) 5 (by simp); have i6 : (_ : Option Value) = some (.int .i64 r) := (D0.next hx) 6 (by simp); have i7 : (_ : Option Value) = some (.slice N n.length q) := (D0.next hx) 7 (by simp); have j5 : (_ : Option Value) = some (.int .i64 k') := (D1.next hx) 5 (by simp); have j6 : (_ : Option Value) = some (.int .i64 r') := (D1.next hx) 6 (by simp); have j7 : (_ : Option Value) = some (.slice N' n'.length q') := (D1.next hx) 7 (by simp))
    go_ret
    exact ⟨ret_bool HR.out.symm, hB⟩
  cases g1 : (k == k')
  · have HR := Lib.hid (sameV_2 (r := r) (r' := r') (l := n) (m := n') g1)
    go_enter Try.func40, Try.ntmps40
    go_wp2_with (go_at_call 18; refine (hq _ ((hr.below hB).more hB.size) ((hr'.below hB).more hB.size)).mono ?_; rintro e w1 ⟨rfl, hx⟩; replace hB := below_step hB hx; have i5 : (_ : Option Value) = some (.int .i64 k) := (D0.next hx) 5 (by simp); have i6 : (_ : Option Value) = some (.int .i64 r) := (D0.next hx) 6 (by simp); have i7 : (_ : Option Value) = some (.slice N n.length q) := (D0.next hx) 7 (by simp); have j5 : (_ : Option Value) = some (.int .i64 k') := (D1.next hx) 5 (by simp); have j6 : (_ : Option Value) = some (.int .i64 r') := (D1.next hx) 6 (by simp); have j7 : (_ : Option Value) = some (.slice N' n'.length q') := (D1.next hx) 7 (by simp))
    go_ret
    exact ⟨ret_bool HR.out.symm, hB⟩
  cases g2 : (r == r')
  · have HR := Lib.hid (sameV_3 (k := k) (k' := k') (l := n) (m := n') g2)
    go_enter Try.func40, Try.ntmps40
    go_wp2_with (go_at_call 18; refine (hq _ ((hr.below hB).more hB.size) ((hr'.below hB).more hB.size)).mono ?_; rintro e w1 ⟨rfl, hx⟩; replace hB := below_step hB hx; have i5 : (_ : Option Value) = some (.int .i64 k) := (D0.next hx) 5 (by simp); have i6 : (_ : Option Value) = some (.int .i64 r) := (D0.next hx) 6 (by simp); have i7 : (_ : Option Value) = some (.slice N n.length q) := (D0.next hx) 7 (by simp); have j5 : (_ : Option Value) = some (.int .i64 k') := (D1.next hx) 5 (by simp); have j6 : (_ : Option Value) = some (.int .i64 r') := (D1.next hx) 6 (by simp); have j7 : (_ : Option Value) = some (.slice N' n'.length q') := (D1.next hx) 7 (by simp))
    go_ret
    exact ⟨ret_bool HR.out.symm, hB⟩
  have HR := Lib.hid (sameV_4 (l := n) (m := n') g1 g2)
  go_enter Try.func40, Try.ntmps40
  go_wp2_with (first | (go_at_call 18; refine (hq _ ((hr.below hB).more hB.size) ((hr'.below hB).more hB.size)).mono ?_; rintro e w1 ⟨rfl, hx⟩; replace hB := below_step hB hx; have i5 : (_ : Option Value) = some (.int .i64 k) := (D0.next hx) 5 (by simp); have i6 : (_ : Option Value) = some (.int .i64 r) := (D0.next hx) 6 (by simp); have i7 : (_ : Option Value) = some (.slice N n.length q) := (D0.next hx) 7 (by simp); have j5 : (_ : Option Value) = some (.int .i64 k') := (D1.next hx) 5 (by simp); have j6 : (_ : Option Value) = some (.int .i64 r') := (D1.next hx) 6 (by simp); have j7 : (_ : Option Value) = some (.slice N' n'.length q') := (D1.next hx) 7 (by simp)) | (go_at_call 78; refine (equalInt_any N N' q q' n n' _ w.heap.size (kr.below hB) (kr'.below hB) kn kn').mono ?_; rintro e w2 ⟨rfl, z2, rfl⟩))
  go_ret
  exact ⟨ret_bool HR.out.symm, below_drewN hB _⟩
end Go.Proofs.Ytfcbcnlkoajpjaa
