/- Walks: links of disks of chains. -/
import Derived.Test.YtipkckoejkmhfaaW99
import Derived.Test.YtipkckoejkmhfaaW1
import Derived.Deep.QuietTactic
namespace Go.Proofs.Ytipkckoejkmhfaa
open Go.RowKit
set_option linter.unusedVariables false

def lkV (l : List ByteArray) (x : Int) : Int := if okC l && inB x 0 ((l.length : Int) - 1) then (((jn l).getD (s0 l + x.toNat) 0).toNat : Int) else 0
def lkC (l : List ByteArray) (x : Int) : Int := if okC l then (if inB x 0 ((l.length : Int) - 1) then 0 else 2) else chC l
theorem lk_1 {l : List ByteArray} {x : Int} (h : okC l = false) : lkV l x = 0 ∧ lkC l x = chC l := by simp [lkV, lkC, h]
theorem lk_2 {l : List ByteArray} {x : Int} (h : okC l = true) (g : inB x 0 ((l.length : Int) - 1) = false) : lkV l x = 0 ∧ lkC l x = 2 := by simp [lkV, lkC, h, g]
theorem lk_3 {l : List ByteArray} {k : Nat} (h : okC l = true) (g : inB (k : Int) 0 ((l.length : Int) - 1) = true) (hk : s0 l + k < (jn l).length) : lkV l (k : Int) = ((jn l)[s0 l + k].toNat : Int) ∧ lkC l (k : Int) = 0 := by
  simp [lkV, lkC, h, g, hk]
theorem lk_in {L s k : Nat} (h1 : k + 1 ≤ L) (h2 : 8 ≤ L) (h3 : 8 ≤ s) : s + k < L * s := by
  obtain ⟨M, rfl⟩ : ∃ M, L = M + 1 := ⟨L - 1, by omega⟩
  have h4 := Nat.mul_le_mul_left M h3
  rw [Nat.succ_mul]
  omega
theorem jn_in {l : List ByteArray} {k : Nat} (h : okC l = true) (hk : k + 1 ≤ l.length) : s0 l + k < (jn l).length ∧ s0 l ≤ 32 ∧ l.length ≤ 128 ∧ (jn l).length ≤ 4096 := by
  obtain ⟨h1, -⟩ := chC_yes (of_decide_eq_true h)
  obtain ⟨n8, n128, s3, hall⟩ := blk_yes h1
  rw [jn_len l (s0 l) hall]
  refine ⟨lk_in hk n8 (by omega), by omega, n128, ?_⟩
  have := Nat.mul_le_mul n128 (show s0 l ≤ 32 by omega)
  omega
set_option maxRecDepth 100000 in
set_option maxHeartbeats 1000000 in
theorem spec_link_any (g b s E D X bb off n c : Nat) (J : List UInt8) (k : Nat) (w : World) (d : CP w g [.int .i64 (b : Int), .int .i64 (s : Int), .int .i64 (E : Int), .int .i64 (D : Int), .int .i64 (X : Int), .slice (some ⟨bb, off, none⟩) n c]) (hr : Rd w w.heap.size 1 (some ⟨bb, off, none⟩) n (bcells J)) (hk : s + k < n) (hs : s ≤ 32) (hn : n ≤ 4096) :
    Calls Try.prog 35 #[.pointer (some ⟨g, 0, none⟩), .int .i64 (k : Int)] w fun e w' => e = .returned (.int .i64 ((J[s + k]'(by have := hr.1; rw [bcells_length] at this; omega)).toNat : Int)) ∧ Below w.heap.size w w' := by
  have hnJ : n = J.length := by have := hr.1; rw [bcells_length] at this; omega
  have hkJ : s + k < J.length := by omega
  obtain ⟨b', off', he, hbb, hc⟩ := hr.2 (by omega)
  cases he
  have hc0 := hc (s + k) (by rw [bcells_length]; exact hkJ)
  rw [show (bcells J)[s + k]'(by rw [bcells_length]; exact hkJ) = .int .u8 (J[s + k].toNat : Int) by simp [bcells]] at hc0
  clear hc
  obtain ⟨y, hy⟩ : ∃ y, J[s + k] = y := ⟨_, rfl⟩
  rw [hy] at hc0 ⊢
  obtain ⟨q, hq⟩ : ∃ q, s + k = q := ⟨_, rfl⟩
  have hw1 : IntKind.i64.wrap ((s : Int) + (k : Int)) = (q : Int) := by rw [show (s : Int) + (k : Int) = ((s + k : Nat) : Int) by omega, hq]; exact i_nat _ (by omega)
  rw [hq] at hc0 hk
  have hqi : (q : Int) < (n : Int) := by omega
  have d1 : (_ : Option Value) = some (.int .i64 (s : Int)) := d 1 (by simp)
  have d5 : (_ : Option Value) = some (.slice (some ⟨bb, off, none⟩) n c) := d 5 (by simp)
  have hyb := y.toNat_lt
  have hw2 : IntKind.i64.wrap (y.toNat : Int) = (y.toNat : Int) := i_nat _ (by omega)
  clear hq hy hnJ hkJ hr
  go_enter Try.func35, Try.ntmps35
  go_wp2_with fail
  go_quiet (fail)
  go_wp2
  go_ret
  exact ⟨rfl, below_drewN (Below.refl _ _) nq⟩
set_option maxRecDepth 100000 in
set_option maxHeartbeats 1000000 in
theorem impl_link_any (g b s E D X bb off n c : Nat) (J : List UInt8) (k : Nat) (w : World) (d : CP w g [.int .i64 (b : Int), .int .i64 (s : Int), .int .i64 (E : Int), .int .i64 (D : Int), .int .i64 (X : Int), .slice (some ⟨bb, off, none⟩) n c]) (hr : Rd w w.heap.size 1 (some ⟨bb, off, none⟩) n (bcells J)) (hk : s + k < n) (hs : s ≤ 32) (hn : n ≤ 4096) :
    Calls Try.prog 37 #[.pointer (some ⟨g, 0, none⟩), .int .i64 (k : Int)] w fun e w' => e = .returned (.pointer (some ⟨bb, off + (s + k), none⟩)) ∧ Below w.heap.size w w' ∧ w'.cell? ⟨bb, off + (s + k), none⟩ = some (.int .u8 ((J[s + k]'(by have := hr.1; rw [bcells_length] at this; omega)).toNat : Int)) := by
  have hnJ : n = J.length := by have := hr.1; rw [bcells_length] at this; omega
  have hkJ : s + k < J.length := by omega
  obtain ⟨b', off', he, hbb, hc⟩ := hr.2 (by omega)
  cases he
  have hc0 := hc (s + k) (by rw [bcells_length]; exact hkJ)
  rw [show (bcells J)[s + k]'(by rw [bcells_length]; exact hkJ) = .int .u8 (J[s + k].toNat : Int) by simp [bcells]] at hc0
  clear hc
  obtain ⟨y, hy⟩ : ∃ y, J[s + k] = y := ⟨_, rfl⟩
  rw [hy] at hc0 ⊢
  obtain ⟨q, hq⟩ : ∃ q, s + k = q := ⟨_, rfl⟩
  have hw1 : IntKind.i64.wrap ((s : Int) + (k : Int)) = (q : Int) := by rw [show (s : Int) + (k : Int) = ((s + k : Nat) : Int) by omega, hq]; exact i_nat _ (by omega)
  rw [hq] at hc0 hk
  have hqi : (q : Int) < (n : Int) := by omega
  have d1 : (_ : Option Value) = some (.int .i64 (s : Int)) := d 1 (by simp)
  have d5 : (_ : Option Value) = some (.slice (some ⟨bb, off, none⟩) n c) := d 5 (by simp)
  have hyb := y.toNat_lt
  have hw2 : IntKind.i64.wrap (y.toNat : Int) = (y.toNat : Int) := i_nat _ (by omega)
  rw [hq]
  clear hq hy hnJ hkJ hr
  go_enter Try.func37, Try.ntmps37
  go_wp2_with fail
  go_quiet (fail)
  go_wp2
  go_ret
  exact ⟨rfl, below_drewN (Below.refl _ _) nq, hc0⟩
set_option maxRecDepth 100000 in
set_option maxHeartbeats 1000000 in
theorem spec_LinkAt_any (A : Option Addr) (cp : Nat) (l : List ByteArray) (w : World) (h : Rd w w.heap.size 1 A l.length (flat fS l)) (hn : l.length ≤ 1048576) (x : Int) :
    Calls Try.prog 14 #[.slice A l.length cp, .int .i64 x] w fun e w' => e = .returned (.tuple #[.int .i64 (lkV l x), .int .i64 (lkC l x)]) ∧ Below w.heap.size w w' := by
  have hop := l16Open_any A cp l w h hn
  have hwi := fun W => l00In_any x 0 ((l.length : Int) - 1) W
  cases hok : okC l
  · have HR := Lib.hid (lk_1 (x := x) hok)
    have hc : ¬ chC l = 0 := of_decide_eq_false hok
    generalize chC l = code at *
    have hcb : (code != 0) = true := by simpa using hc
    go_enter Try.func14, Try.ntmps14
    go_wp2_with (go_at_call 32; refine hop.mono ?_; rintro e w2 ⟨pv, rfl, hx, -, hno⟩; obtain rfl := hno hc)
    (try simp only [Exit.inBlock, Exit.then]); refine bodyPost_ret (results_tmp2 rfl _ _ _) rfl ?_
    exact ⟨by rw [HR.out.1, HR.out.2]; rfl, hx⟩
  have hc : chC l = 0 := of_decide_eq_true hok
  rw [hc] at hop
  clear hc
  have hB := BB.start w
  cases g1 : inB x 0 ((l.length : Int) - 1)
  · have HR := Lib.hid (lk_2 hok g1)
    rw [g1] at hwi
    have hl := (blk_yes (chC_yes (of_decide_eq_true hok)).1).2.1
    have hws : IntKind.i64.wrap ((l.length : Int) - 1) = (l.length : Int) - 1 := IntWalk.i64_in _ (by omega)
    go_enter Try.func14, Try.ntmps14
    go_wp2_with (first
      | (go_at_call 34; refine (hwi _).mono ?_; rintro e w9 ⟨rfl, rfl⟩)
      | (go_at_call 32; refine hop.mono ?_; rintro e w2 ⟨pv, rfl, hx, hyes, -⟩; obtain ⟨g, a, c, rfl, D0, R0⟩ := hyes rfl; replace hB : BB w _ := BB.next hB hx; have d_0 : (_ : Option Value) = some (.int .i64 (l.length : Int)) := D0 0 (by simp)))
    (try simp only [Exit.inBlock, Exit.then]); refine bodyPost_ret (results_tmp2 rfl _ _ _) rfl ?_
    exact ⟨by rw [HR.out.1, HR.out.2]; rfl, hB⟩
  rw [g1] at hwi
  have g2 := inB_yes g1
  obtain ⟨k, rfl⟩ : ∃ k : Nat, x = (k : Int) := ⟨x.toNat, by omega⟩
  obtain ⟨hkj, hs32, hl128, hj4⟩ := jn_in hok (k := k) (by omega)
  have HR := Lib.hid (lk_3 hok g1 hkj)
  have hws : IntKind.i64.wrap ((l.length : Int) - 1) = (l.length : Int) - 1 := IntWalk.i64_in _ (by omega)
  have hyb := (jn l)[s0 l + k].toNat_lt
  have hw2 : IntKind.i64.wrap ((jn l)[s0 l + k].toNat : Int) = ((jn l)[s0 l + k].toNat : Int) := i_nat _ (by omega)
  clear g1
  go_enter Try.func14, Try.ntmps14
  go_wp2_with (first
    | (go_at_call 35; have := mk1; refine (spec_link_any _ _ _ _ _ _ _ _ _ _ (jn l) k _ D0 R0 hkj (by omega) (by omega)).mono ?_; rintro e w3 ⟨rfl, hx3⟩; replace hB : BB w _ := BB.next hB hx3)
    | (go_at_call 34; refine (hwi _).mono ?_; rintro e w9 ⟨rfl, rfl⟩)
    | (go_at_call 32; refine hop.mono ?_; rintro e w2 ⟨pv, rfl, hx, hyes, -⟩; obtain ⟨g, a, c, rfl, D0, R0⟩ := hyes rfl; replace hB : BB w _ := BB.next hB hx; have d_0 : (_ : Option Value) = some (.int .i64 (l.length : Int)) := D0 0 (by simp); obtain ⟨bb, off, rfl, -⟩ := R0.2 (by omega); have mk1 := True.intro))
  (try simp only [Exit.inBlock, Exit.then]); refine bodyPost_ret (results_tmp2 rfl _ _ _) rfl ?_
  exact ⟨by rw [HR.out.1, HR.out.2]; rfl, hB⟩
set_option maxRecDepth 100000 in
set_option maxHeartbeats 1000000 in
theorem impl_LinkAt_any (A : Option Addr) (cp : Nat) (l : List ByteArray) (w : World) (h : Rd w w.heap.size 1 A l.length (flat fS l)) (hn : l.length ≤ 1048576) (x : Int) (hcp : l.length ≤ cp) :
    Calls Try.prog 15 #[.slice A l.length cp, .int .i64 x] w fun e w' => e = .returned (.tuple #[.int .i64 (lkV l x), .int .i64 (lkC l x)]) ∧ Below w.heap.size w w' := by
  have hop := openChains_any A cp l w h hn hcp
  have hwi := fun W => within_any x 0 ((l.length : Int) - 1) W
  cases hok : okC l
  · have HR := Lib.hid (lk_1 (x := x) hok)
    have hc : ¬ chC l = 0 := of_decide_eq_false hok
    generalize chC l = code at *
    have hcb : (code != 0) = true := by simpa using hc
    go_enter Try.func15, Try.ntmps15
    go_wp2_with (go_at_call 33; refine hop.mono ?_; rintro e w2 ⟨pv, rfl, hx, -, hno⟩; obtain rfl := hno hc)
    (try simp only [Exit.inBlock, Exit.then]); refine bodyPost_ret (results_tmp2 rfl _ _ _) rfl ?_
    exact ⟨by rw [HR.out.1, HR.out.2]; rfl, hx⟩
  have hc : chC l = 0 := of_decide_eq_true hok
  rw [hc] at hop
  clear hc
  have hB := BB.start w
  cases g1 : inB x 0 ((l.length : Int) - 1)
  · have HR := Lib.hid (lk_2 hok g1)
    rw [g1] at hwi
    have hl := (blk_yes (chC_yes (of_decide_eq_true hok)).1).2.1
    have hws : IntKind.i64.wrap ((l.length : Int) - 1) = (l.length : Int) - 1 := IntWalk.i64_in _ (by omega)
    go_enter Try.func15, Try.ntmps15
    go_wp2_with (first
      | (go_at_call 36; refine (hwi _).mono ?_; rintro e w9 ⟨rfl, rfl⟩)
      | (go_at_call 33; refine hop.mono ?_; rintro e w2 ⟨pv, rfl, hx, hyes, -⟩; obtain ⟨g, a, c, rfl, D0, R0⟩ := hyes rfl; replace hB : BB w _ := BB.next hB hx; have d_0 : (_ : Option Value) = some (.int .i64 (l.length : Int)) := D0 0 (by simp)))
    (try simp only [Exit.inBlock, Exit.then]); refine bodyPost_ret (results_tmp2 rfl _ _ _) rfl ?_
    exact ⟨by rw [HR.out.1, HR.out.2]; rfl, hB⟩
  rw [g1] at hwi
  have g2 := inB_yes g1
  obtain ⟨k, rfl⟩ : ∃ k : Nat, x = (k : Int) := ⟨x.toNat, by omega⟩
  obtain ⟨hkj, hs32, hl128, hj4⟩ := jn_in hok (k := k) (by omega)
  have HR := Lib.hid (lk_3 hok g1 hkj)
  have hws : IntKind.i64.wrap ((l.length : Int) - 1) = (l.length : Int) - 1 := IntWalk.i64_in _ (by omega)
  have hyb := (jn l)[s0 l + k].toNat_lt
  have hw2 : IntKind.i64.wrap ((jn l)[s0 l + k].toNat : Int) = ((jn l)[s0 l + k].toNat : Int) := i_nat _ (by omega)
  clear g1
  go_enter Try.func15, Try.ntmps15
  go_wp2_with (first
    | (go_at_call 37; have := mk1; refine (impl_link_any _ _ _ _ _ _ _ _ _ _ (jn l) k _ D0 R0 hkj (by omega) (by omega)).mono ?_; rintro e w3 ⟨rfl, hx3, hcell⟩; replace hB : BB w _ := BB.next hB hx3)
    | (go_at_call 36; refine (hwi _).mono ?_; rintro e w9 ⟨rfl, rfl⟩)
    | (go_at_call 33; refine hop.mono ?_; rintro e w2 ⟨pv, rfl, hx, hyes, -⟩; obtain ⟨g, a, c, rfl, D0, R0⟩ := hyes rfl; replace hB : BB w _ := BB.next hB hx; have d_0 : (_ : Option Value) = some (.int .i64 (l.length : Int)) := D0 0 (by simp); obtain ⟨bb, off, rfl, -⟩ := R0.2 (by omega); have mk1 := True.intro))
  (try simp only [Exit.inBlock, Exit.then]); refine bodyPost_ret (results_tmp2 rfl _ _ _) rfl ?_
  exact ⟨by rw [HR.out.1, HR.out.2]; rfl, hB⟩
end Go.Proofs.Ytipkckoejkmhfaa
