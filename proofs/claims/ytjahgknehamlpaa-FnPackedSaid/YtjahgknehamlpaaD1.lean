/- Walks: the source of the draws. -/
import Derived.Test.YtjahgknehamlpaaMem4
import Derived.Test.YtjahgknehamlpaaStep
import Derived.Test.YtjahgknehamlpaaW61
import Derived.Test.YtjahgknehamlpaaW120
namespace Go.Proofs.Ytjahgknehamlpaa
open Go.RowKit
set_option linter.unusedVariables false

def fU (b : UInt8) : List Value := [.int .u8 (b.toNat : Int)]
theorem fU_len (b : UInt8) : (fU b).length = 1 := rfl

/-- Block g is a source of draws over these bytes; at most N were drawn. -/
def SR (w : World) (g : Nat) (A : Option Addr) (n c : Nat) (N : Nat) : Prop := ∃ (k : Nat) (u : Int), k ≤ N ∧ BX w g 100 [.slice A n c, .int .i64 (k : Int), .int .u64 u]

section
variable {w w' : World} {g n c N : Nat} {A : Option Addr}
theorem SR.grown {row : Option Nat} (h : SR w g A n c N) (hg : w.grownBy w' row) (hne : row ≠ some g) : SR w' g A n c N := by
  obtain ⟨k, u, hk, F⟩ := h
  exact ⟨k, u, hk, F.grown hg hne⟩
theorem SR.below {B : Nat} (h : SR w g A n c N) (hb : Below B w w') (hg : g < B) : SR w' g A n c N := by
  obtain ⟨k, u, hk, F⟩ := h
  exact ⟨k, u, hk, F.below hb hg⟩
theorem SR.lt (h : SR w g A n c N) : g < w.heap.size := by
  obtain ⟨k, u, hk, F⟩ := h
  exact F.lt
theorem SR.more {M : Nat} (h : SR w g A n c N) (hM : N ≤ M) : SR w g A n c M := by
  obtain ⟨k, u, hk, F⟩ := h
  exact ⟨k, u, by omega, F⟩
theorem SR.dr (h : SR w g A n c N) : SR w.drew g A n c N := h
theorem gr_trans {a b c : World} {row : Option Nat} (h : a.grownBy b row) (k : b.grownBy c row) : a.grownBy c row :=
  ⟨k.os.trans h.os, k.tape.trans h.tape, k.output.trans h.output, Nat.le_trans h.size k.size, fun i hi hne => (k.block i (Nat.lt_of_lt_of_le hi h.size) hne).trans (h.block i hi hne)⟩
theorem grown_rd {B size m : Nat} {A' : Option Addr} {xs : List Value} (h : Rd w B size A' m xs) (hg : w.grownBy w' (some g)) (hBg : B ≤ g) (hB : B ≤ w.heap.size) : Rd w' B size A' m xs :=
  h.below ((Below.refl B w).grown hg hB (fun k hk => by injection hk with hk; omega))
end

theorem CP.idx {w : World} {b j : Nat} {L : List Int} (C : CP w b (L.map (Value.int .i64))) (hj : j < L.length) : w.cell? ⟨b, j, none⟩ = some (.int .i64 L[j]) := by
  have := C j (by simpa using hj)
  simpa using this
theorem CP.past {w w' : World} {b g : Nat} {vs : List Value} (C : CP w b vs) (hg : w.grownBy w' (some g)) (h : b ≠ g) : CP w' b vs := C.far hg (fun e => h (Option.some.inj e).symm)
theorem byte_and (x : Int) : 0 ≤ bits .and .u64 x 255 ∧ bits .and .u64 x 255 ≤ 255 := by
  have h : bits .and .u64 x 255 = (((BitVec.ofInt 64 x).toNat &&& 255 : Nat) : Int) := by
    show IntKind.u64.wrap ((BitVec.ofInt 64 x &&& BitVec.ofInt 64 255).toNat : Int) = _
    have h2 : (BitVec.ofInt 64 255).toNat = 255 := rfl
    have h1 : (BitVec.ofInt 64 x).toNat &&& 255 ≤ 255 := Nat.and_le_right
    rw [BitVec.toNat_and, h2, IntKind.wrap_u64]
    omega
  have h1 : (BitVec.ofInt 64 x).toNat &&& 255 ≤ 255 := Nat.and_le_right
  rw [h]
  omega
theorem byte_wrap (x : Int) : 0 ≤ wrap64 (bits .and .u64 x 255) ∧ wrap64 (bits .and .u64 x 255) ≤ 255 := by
  have h := byte_and x
  have e : wrap64 (bits .and .u64 x 255) = bits .and .u64 x 255 := IntWalk.wrap64_in _ (by omega)
  rw [e]
  exact h

set_option maxHeartbeats 1000000 in
theorem next_any (g n c N B : Nat) (A : Option Addr) (l : List UInt8) (w : World) (S : SR w g A n c N) (hn : l.length = n) (hr : Rd w B 1 A n (flat fU l)) (hBg : B ≤ g) (hB : B ≤ w.heap.size) (hN : N ≤ 1000000000) (hn2 : n ≤ maxLen) :
    Calls Try.prog 66 #[.pointer (some ⟨g, 0, none⟩)] w fun e w' => ∃ x : Int, e = .returned (.int .i64 x) ∧ 0 ≤ x ∧ x ≤ 255 ∧ SR w' g A n c (N + 1) ∧ w.grownBy w' (some g) := by
  obtain ⟨k, u, hk, F⟩ := S
  unfold maxLen at hn2
  subst hn
  have f0 : (_ : Option Value) = some (.slice A l.length c) := F.cell 0 (by simp)
  have f1 : (_ : Option Value) = some (.int .i64 (k : Int)) := F.cell 1 (by simp)
  have f2 : (_ : Option Value) = some (.int .u64 u) := F.cell 2 (by simp)
  have hfz := fun j => F.free j
  have hw1 : IntKind.i64.wrap ((k : Int) + 1) = ((k + 1 : Nat) : Int) := by rw [IntWalk.i64_in _ (by omega)]; rfl
  by_cases hlt : k < l.length
  · obtain ⟨b, off, rfl, hbb, hc⟩ := hr.at_ fU_len rfl k hlt
    have hc0 := hc 0 _ (by omega) rfl
    simp only [Nat.mul_one, Nat.add_zero] at hc0
    have hy := l[k].toNat_lt
    obtain ⟨y, hyy⟩ : ∃ y, l[k].toNat = y := ⟨_, rfl⟩
    rw [hyy] at hc0 hy
    have hwy : IntKind.i64.wrap (y : Int) = (y : Int) := IntWalk.i64_in _ (by omega)
    have hd1 : decide ((k : Int) < (l.length : Int)) = true := decide_eq_true (by omega)
    have hd2 : decide (((k + 1 : Nat) : Int) ≤ (l.length : Int)) = true := decide_eq_true (by omega)
    go_enter Try.func66, Try.ntmps66
    go_wp2
    go_quiet (fail)
    generalize nq = n1
    go_wp2
    go_quiet (fail)
    generalize nq = n2
    go_wp2
    have hg3 : w.grownBy (((w.drewN (n1 + n2)).setCell ⟨g, 1, none⟩ (.int .i64 ((k : Int) + 1))).setCell ⟨g, 2, none⟩ (.int .u64 (IntKind.u64.wrap (IntKind.u64.wrap (IntKind.u64.wrap (u * 6364136223846793005) + (y : Int)) + 1442695040888963407)))) (some g) := only_setCell (only_setCell (only_drewN (World.grownBy.refl w (some g)) _) (p := ⟨g, 1, none⟩) (Or.inl rfl) _) (p := ⟨g, 2, none⟩) (Or.inl rfl) _
    have F3 : BX (((w.drewN (n1 + n2)).setCell ⟨g, 1, none⟩ (.int .i64 ((k : Int) + 1))).setCell ⟨g, 2, none⟩ (.int .u64 (IntKind.u64.wrap (IntKind.u64.wrap (IntKind.u64.wrap (u * 6364136223846793005) + (y : Int)) + 1442695040888963407)))) g 100 [.slice (some ⟨b, off, none⟩) l.length c, .int .i64 ((k : Int) + 1), .int .u64 (IntKind.u64.wrap (IntKind.u64.wrap (IntKind.u64.wrap (u * 6364136223846793005) + (y : Int)) + 1442695040888963407))] := ((show BX (w.drewN (n1 + n2)) g 100 _ from F).put 1 (.int .i64 ((k : Int) + 1))).put 2 _
    generalize (((w.drewN (n1 + n2)).setCell ⟨g, 1, none⟩ (.int .i64 ((k : Int) + 1))).setCell ⟨g, 2, none⟩ (.int .u64 (IntKind.u64.wrap (IntKind.u64.wrap (IntKind.u64.wrap (u * 6364136223846793005) + (y : Int)) + 1442695040888963407)))) = w3 at hg3 F3 ⊢
    generalize (IntKind.u64.wrap (IntKind.u64.wrap (IntKind.u64.wrap (u * 6364136223846793005) + (y : Int)) + 1442695040888963407)) = u3 at F3 ⊢
    clear f0 f1 f2 hfz
    have f0 : (_ : Option Value) = some (.slice (some ⟨b, off, none⟩) l.length c) := F3.cell 0 (by simp)
    have f1 : (_ : Option Value) = some (.int .i64 ((k : Int) + 1)) := F3.cell 1 (by simp)
    have f2 : (_ : Option Value) = some (.int .u64 u3) := F3.cell 2 (by simp)
    go_quiet (fail)
    go_wp2
    go_ret
    exact ⟨(y : Int), rfl, by omega, by omega, ⟨k + 1, u3, by omega, F3⟩, only_drewN hg3 _⟩
  · have hd1 : decide ((k : Int) < (l.length : Int)) = false := decide_eq_false (by omega)
    have hd2 : decide (((k + 1 : Nat) : Int) ≤ (l.length : Int)) = false := decide_eq_false (by omega)
    go_enter Try.func66, Try.ntmps66
    go_wp2
    go_quiet (fail)
    generalize nq = n1
    go_wp2
    have hg3 : w.grownBy (((w.drewN n1).setCell ⟨g, 1, none⟩ (.int .i64 ((k : Int) + 1))).setCell ⟨g, 2, none⟩ (.int .u64 (IntKind.u64.wrap (IntKind.u64.wrap (IntKind.u64.wrap (u * 6364136223846793005)) + 1442695040888963407)))) (some g) := only_setCell (only_setCell (only_drewN (World.grownBy.refl w (some g)) _) (p := ⟨g, 1, none⟩) (Or.inl rfl) _) (p := ⟨g, 2, none⟩) (Or.inl rfl) _
    have F3 : BX (((w.drewN n1).setCell ⟨g, 1, none⟩ (.int .i64 ((k : Int) + 1))).setCell ⟨g, 2, none⟩ (.int .u64 (IntKind.u64.wrap (IntKind.u64.wrap (IntKind.u64.wrap (u * 6364136223846793005)) + 1442695040888963407)))) g 100 [.slice A l.length c, .int .i64 ((k : Int) + 1), .int .u64 (IntKind.u64.wrap (IntKind.u64.wrap (IntKind.u64.wrap (u * 6364136223846793005)) + 1442695040888963407))] := ((show BX (w.drewN n1) g 100 _ from F).put 1 (.int .i64 ((k : Int) + 1))).put 2 _
    generalize (((w.drewN n1).setCell ⟨g, 1, none⟩ (.int .i64 ((k : Int) + 1))).setCell ⟨g, 2, none⟩ (.int .u64 (IntKind.u64.wrap (IntKind.u64.wrap (IntKind.u64.wrap (u * 6364136223846793005)) + 1442695040888963407)))) = w3 at hg3 F3 ⊢
    generalize (IntKind.u64.wrap (IntKind.u64.wrap (IntKind.u64.wrap (u * 6364136223846793005)) + 1442695040888963407)) = u3 at F3 ⊢
    clear f0 f1 f2 hfz
    have f0 : (_ : Option Value) = some (.slice A l.length c) := F3.cell 0 (by simp)
    have f1 : (_ : Option Value) = some (.int .i64 ((k : Int) + 1)) := F3.cell 1 (by simp)
    have f2 : (_ : Option Value) = some (.int .u64 u3) := F3.cell 2 (by simp)
    go_quiet (fail)
    go_wp2
    go_ret
    exact ⟨_, rfl, (byte_wrap _).1, (byte_wrap _).2, ⟨k + 1, u3, by omega, F3⟩, only_drewN hg3 _⟩

set_option maxHeartbeats 1000000 in
theorem pick_any (m : Int) (g n c N B : Nat) (A : Option Addr) (l : List UInt8) (w : World) (S : SR w g A n c N) (hn : l.length = n) (hr : Rd w B 1 A n (flat fU l)) (hBg : B ≤ g) (hB : B ≤ w.heap.size) (hN : N ≤ 900000000) (hn2 : n ≤ maxLen) (hm : m ≤ 9223372036854775807) :
    Calls Try.prog 38 #[.pointer (some ⟨g, 0, none⟩), .int .i64 m] w fun e w' => ∃ x : Int, e = .returned (.int .i64 x) ∧ 0 ≤ x ∧ (x = 0 ∨ x < m) ∧ SR w' g A n c (N + 2) ∧ w.grownBy w' (some g) := by
  by_cases h1 : m ≤ 1
  · have hd1 : decide (m ≤ 1) = true := decide_eq_true h1
    go_enter Try.func38, Try.ntmps38
    go_wp2
    go_ret
    exact ⟨0, rfl, by omega, .inl rfl, S.more (by omega), World.grownBy.refl _ _⟩
  have hd1 : decide (m ≤ 1) = false := decide_eq_false h1
  have hm0 : m ≠ 0 := by omega
  have nx := next_any g n c N B A l w S hn hr hBg hB (by omega) hn2
  by_cases h2 : 200 < m
  · have hd2 : decide (200 < m) = true := decide_eq_true h2
    go_enter Try.func38, Try.ntmps38
    go_wp2_with (go_at_call 66; with_reducible refine nx.mono ?_; rintro e w1 ⟨x, rfl, hx0, hx1, S1, hg1⟩)
    have nx2 := next_any g n c (N + 1) B A l w1 S1 hn (grown_rd hr hg1 hBg hB) hBg (Nat.le_trans hB hg1.size) (by omega) hn2
    have hw1 : IntKind.i64.wrap (x * 256) = x * 256 := IntWalk.i64_in _ (by omega)
    go_wp2_with (go_at_call 66; with_reducible refine nx2.mono ?_; rintro e w2 ⟨y, rfl, hy0, hy1, S2, hg2⟩; have hw2 : IntKind.i64.wrap (x * 256 + y) = x * 256 + y := IntWalk.i64_in _ (by omega))
    go_ret
    exact ⟨(x * 256 + y) % m, rfl, Int.emod_nonneg _ hm0, .inr (Int.emod_lt_of_pos _ (by omega)), S2, gr_trans hg1 hg2⟩
  · have hd2 : decide (200 < m) = false := decide_eq_false h2
    go_enter Try.func38, Try.ntmps38
    go_wp2_with (go_at_call 66; with_reducible refine nx.mono ?_; rintro e w1 ⟨x, rfl, hx0, hx1, S1, hg1⟩)
    go_ret
    exact ⟨x % m, rfl, Int.emod_nonneg _ hm0, .inr (Int.emod_lt_of_pos _ (by omega)), S1.more (by omega), hg1⟩

set_option maxHeartbeats 1000000 in
theorem one_any (m : Int) (g n c N B : Nat) (A : Option Addr) (l : List UInt8) (w : World) (S : SR w g A n c N) (hn : l.length = n) (hr : Rd w B 1 A n (flat fU l)) (hBg : B ≤ g) (hB : B ≤ w.heap.size) (hN : N ≤ 900000000) (hn2 : n ≤ maxLen) (hm : m ≤ 9223372036854775807) :
    Calls Try.prog 37 #[.pointer (some ⟨g, 0, none⟩), .int .i64 m] w fun e w' => ∃ x : Bool, e = .returned (.bool x) ∧ SR w' g A n c (N + 2) ∧ w.grownBy w' (some g) := by
  have nx := pick_any m g n c N B A l w S hn hr hBg hB hN hn2 hm
  go_enter Try.func37, Try.ntmps37
  go_wp2_with (go_at_call 38; with_reducible refine nx.mono ?_; rintro e w1 ⟨x, rfl, hx0, hx1, S1, hg1⟩)
  go_ret
  exact ⟨_, rfl, S1, hg1⟩

set_option maxHeartbeats 1000000 in
theorem among_any (L : List Int) (b q c2 : Nat) (hq : q = L.length) (g n c N B : Nat) (A : Option Addr) (l : List UInt8) (w : World) (S : SR w g A n c N) (hn : l.length = n) (hr : Rd w B 1 A n (flat fU l)) (hBg : B ≤ g) (hB : B ≤ w.heap.size) (hN : N ≤ 900000000) (hn2 : n ≤ maxLen)
    (hL0 : 0 < L.length) (hL : L.length ≤ 1000) (C : CP w b (L.map (Value.int .i64))) (hbg : b ≠ g) :
    Calls Try.prog 53 #[.pointer (some ⟨g, 0, none⟩), .slice (some ⟨b, 0, none⟩) q c2] w fun e w' => ∃ x : Int, e = .returned (.int .i64 x) ∧ x ∈ L ∧ SR w' g A n c (N + 2) ∧ w.grownBy w' (some g) := by
  subst hq
  have nx := pick_any (L.length : Int) g n c N B A l w S hn hr hBg hB hN hn2 (by omega)
  go_enter Try.func53, Try.ntmps53
  go_wp2_with (go_at_call 38; (with_reducible refine nx.mono ?_; rintro e w1 ⟨x, rfl, hx0, hx1, S1, hg1⟩; obtain ⟨j, rfl⟩ : ∃ j : Nat, x = (j : Int) := ⟨x.toNat, by omega⟩; have hj : j < L.length := (by omega); have c0 := CP.idx (CP.past C hg1 hbg) hj))
  go_ret
  exact ⟨_, rfl, List.getElem_mem hj, S1, hg1⟩
end Go.Proofs.Ytjahgknehamlpaa
