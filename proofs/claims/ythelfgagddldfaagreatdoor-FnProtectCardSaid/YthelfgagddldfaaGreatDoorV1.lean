/- Walks: the texts P5 D1x D2x Q4 Q5 Q6 Q7 as one text. -/
import Derived.Test.YthelfgagddldfaaGreatDoorP4
import Derived.Test.YthelfgagddldfaaGreatDoorMem4
import Derived.Test.YthelfgagddldfaaGreatDoorStep
import Derived.Test.YthelfgagddldfaaGreatDoorBxM
import Derived.Test.YthelfgagddldfaaGreatDoorMem3
import Derived.Test.YthelfgagddldfaaGreatDoorW10
import Derived.Test.YthelfgagddldfaaGreatDoorSSectorSpec
import Derived.Test.YthelfgagddldfaaGreatDoorSFeature
import Derived.Test.YthelfgagddldfaaGreatDoorW166
namespace Go.Proofs.YthelfgagddldfaaGreatDoor
open Go.RowKit Go.Lib
set_option linter.unusedVariables false
set_option linter.unusedSimpArgs false

theorem kw_lenP : ∀ k : Nat, (kw k).length ≤ 20 := by
  have h : ∀ k : Fin 9, (kw k.val).length ≤ 20 := by decide
  intro k
  by_cases hk : k < 9
  · exact h ⟨k, hk⟩
  · have : kw k = [] := by
      unfold kw
      rw [List.getD_eq_getElem?_getD, List.getElem?_eq_none (by show 9 ≤ k; omega)]
      rfl
    rw [this]
    decide
theorem ftx_lenP (k s v : Int) : (ftx (k, s, v)).length ≤ 100 := by
  unfold ftx
  split
  · rename_i h
    obtain ⟨a, b, c, rfl, rfl, rfl, hb, hc, _⟩ := feB_cases h
    have h1 := kw_lenP a
    have h2 := dd_len 6 b (by omega)
    have h3 := dd_len 6 c (by omega)
    show (txL a b c).length ≤ 100
    unfold txL
    simp only [List.length_append]
    split <;> split <;> simp <;> omega
  · simp
/-- The bounds of a protected track's feature. -/
theorem pr_bounds {f g k s x : Int} {xs : List DSectorSpec} (hf : feB k s x = true) (hc : prC true g xs.length k s x = 0) (h8 : k ≠ 8) :
    0 ≤ s ∧ s < ((prL 0 xs k s x).length : Int) ∧ 0 ≤ x ∧ x < ((prL 0 xs k s x).length : Int) := by
  obtain ⟨_, k5, k7, _, h1, h0⟩ := pr_ok hc
  have hs0 := feB_0 hf
  by_cases e1 : k = 1
  · subst e1
    obtain ⟨b2, b3⟩ := h1 rfl
    have b1 := feB_1 hf
    have hlen : (prL 0 xs 1 s x).length = xs.length + 1 := by
      unfold prL
      rw [if_pos rfl, if_neg (by decide), if_pos rfl]
      simp
    rw [hlen]
    omega
  · have hs := h0 h8 e1
    have hlen : (prL 0 xs k s x).length = xs.length := by
      unfold prL
      rw [if_pos rfl, if_neg h8, if_neg e1]
      simp
    rw [hlen]
    have hx : x = 0 := by
      unfold feB at hf
      rw [Bool.and_eq_true, if_neg e1, if_neg k7, if_neg h8, Bool.and_eq_true] at hf
      simpa using hf.2.2
    subst hx
    omega
theorem ts_lenP {f g : Int} {xs : List DSectorSpec} (h : tsB f g xs = true) : 1 ≤ g ∧ g ≤ 20 ∧ xs.length ≤ 8 := by
  unfold tsB at h
  simp only [Bool.and_eq_true, decide_eq_true_eq] at h
  obtain ⟨⟨⟨_, a2⟩, a3⟩, _⟩ := h
  have := inB_yes a2
  omega
theorem fe_8P {s x : Int} (h : feB 8 s x = true) : 1 ≤ x ∧ x ≤ 8000 := by
  unfold feB at h
  rw [Bool.and_eq_true] at h
  have h2 := h.2
  simp only [show ¬ (8 : Int) = 1 by decide, show ¬ (8 : Int) = 7 by decide, if_false, if_true, Bool.and_eq_true] at h2
  exact inB_yes h2.2
end Go.Proofs.YthelfgagddldfaaGreatDoor
namespace Go.Proofs.YthelfgagddldfaaGreatDoor
set_option linter.unusedVariables false
open Go.RowKit

def fU (b : UInt8) : List Value := [.int .u8 (b.toNat : Int)]
theorem fU_len (b : UInt8) : (fU b).length = 1 := rfl

/-- Block g is a source of draws over these bytes; at most N were drawn. -/
def SR (w : World) (g : Nat) (A : Option Addr) (n c : Nat) (N : Nat) : Prop := ∃ (k : Nat) (u : Int), k ≤ N ∧ BX w g 69 [.slice A n c, .int .i64 (k : Int), .int .u64 u]

section
variable {w w' : World} {g n c N : Nat} {A : Option Addr}
theorem SR.grown {row : Option Nat} (h : SR w g A n c N) (hg : w.grownBy w' row) (hne : row ≠ some g) : SR w' g A n c N := by
  obtain ⟨k, u, hk, F⟩ := h
  exact ⟨k, u, hk, F.grown hg hne⟩
theorem SR.below {B : Nat} (h : SR w g A n c N) (hb : Below B w w') (hg : g < B) : SR w' g A n c N := by
  obtain ⟨k, u, hk, F⟩ := h
  exact ⟨k, u, hk, F.below hb hg⟩
theorem SR.lt (h : SR w g A n c N) : g < w.heap.size := by
  obtain ⟨k, u, hk, F⟩ := h
  exact F.lt
theorem SR.more {M : Nat} (h : SR w g A n c N) (hM : N ≤ M) : SR w g A n c M := by
  obtain ⟨k, u, hk, F⟩ := h
  exact ⟨k, u, by omega, F⟩
theorem SR.dr (h : SR w g A n c N) : SR w.drew g A n c N := h
theorem grown_rd {B size m : Nat} {A' : Option Addr} {xs : List Value} (h : Rd w B size A' m xs) (hg : w.grownBy w' (some g)) (hBg : B ≤ g) (hB : B ≤ w.heap.size) : Rd w' B size A' m xs :=
  h.below ((Below.refl B w).grown hg hB (fun k hk => by injection hk with hk; omega))
end

theorem CP.idx {w : World} {b j : Nat} {L : List Int} (C : CP w b (L.map (Value.int .i64))) (hj : j < L.length) : w.cell? ⟨b, j, none⟩ = some (.int .i64 L[j]) := by
  have := C j (by simpa using hj)
  simpa using this
theorem CP.past {w w' : World} {b g : Nat} {vs : List Value} (C : CP w b vs) (hg : w.grownBy w' (some g)) (h : b ≠ g) : CP w' b vs := C.far hg (fun e => h (Option.some.inj e).symm)
theorem byte_and (x : Int) : 0 ≤ bits .and .u64 x 255 ∧ bits .and .u64 x 255 ≤ 255 := by
  have h : bits .and .u64 x 255 = (((BitVec.ofInt 64 x).toNat &&& 255 : Nat) : Int) := by
    show IntKind.u64.wrap ((BitVec.ofInt 64 x &&& BitVec.ofInt 64 255).toNat : Int) = _
    have h2 : (BitVec.ofInt 64 255).toNat = 255 := rfl
    have h1 : (BitVec.ofInt 64 x).toNat &&& 255 ≤ 255 := Nat.and_le_right
    rw [BitVec.toNat_and, h2, IntKind.wrap_u64]
    omega
  have h1 : (BitVec.ofInt 64 x).toNat &&& 255 ≤ 255 := Nat.and_le_right
  rw [h]
  omega
theorem byte_wrap (x : Int) : 0 ≤ wrap64 (bits .and .u64 x 255) ∧ wrap64 (bits .and .u64 x 255) ≤ 255 := by
  have h := byte_and x
  have e : wrap64 (bits .and .u64 x 255) = bits .and .u64 x 255 := IntWalk.wrap64_in _ (by omega)
  rw [e]
  exact h

set_option maxHeartbeats 1000000 in
theorem next_any (g n c N B : Nat) (A : Option Addr) (l : List UInt8) (w : World) (S : SR w g A n c N) (hn : l.length = n) (hr : Rd w B 1 A n (flat fU l)) (hBg : B ≤ g) (hB : B ≤ w.heap.size) (hN : N ≤ 1000000000) (hn2 : n ≤ maxLen) :
    Calls Tryz.prog 47 #[.pointer (some ⟨g, 0, none⟩)] w fun e w' => ∃ x : Int, e = .returned (.int .i64 x) ∧ 0 ≤ x ∧ x ≤ 255 ∧ SR w' g A n c (N + 1) ∧ w.grownBy w' (some g) := by
  obtain ⟨k, u, hk, F⟩ := S
  unfold maxLen at hn2
  subst hn
  have f0 : (_ : Option Value) = some (.slice A l.length c) := F.cell 0 (by simp)
  have f1 : (_ : Option Value) = some (.int .i64 (k : Int)) := F.cell 1 (by simp)
  have f2 : (_ : Option Value) = some (.int .u64 u) := F.cell 2 (by simp)
  have hfz := fun j => F.free j
  have hw1 : IntKind.i64.wrap ((k : Int) + 1) = ((k + 1 : Nat) : Int) := by rw [IntWalk.i64_in _ (by omega)]; rfl
  by_cases hlt : k < l.length
  · obtain ⟨b, off, rfl, hbb, hc⟩ := hr.at_ fU_len rfl k hlt
    have hc0 := hc 0 _ (by omega) rfl
    simp only [Nat.mul_one, Nat.add_zero] at hc0
    have hy := l[k].toNat_lt
    obtain ⟨y, hyy⟩ : ∃ y, l[k].toNat = y := ⟨_, rfl⟩
    rw [hyy] at hc0 hy
    have hwy : IntKind.i64.wrap (y : Int) = (y : Int) := IntWalk.i64_in _ (by omega)
    have hd1 : decide ((k : Int) < (l.length : Int)) = true := decide_eq_true (by omega)
    have hd2 : decide (((k + 1 : Nat) : Int) ≤ (l.length : Int)) = true := decide_eq_true (by omega)
    go_enter Tryz.func47, Tryz.ntmps47
    go_wp2
    go_quiet (fail)
    generalize nq = n1
    go_wp2
    go_quiet (fail)
    generalize nq = n2
    go_wp2
    have hg3 : w.grownBy (((w.drewN (n1 + n2)).setCell ⟨g, 1, none⟩ (.int .i64 ((k : Int) + 1))).setCell ⟨g, 2, none⟩ (.int .u64 (IntKind.u64.wrap (IntKind.u64.wrap (IntKind.u64.wrap (u * 6364136223846793005) + (y : Int)) + 1442695040888963407)))) (some g) := only_setCell (only_setCell (only_drewN (World.grownBy.refl w (some g)) _) (p := ⟨g, 1, none⟩) (Or.inl rfl) _) (p := ⟨g, 2, none⟩) (Or.inl rfl) _
    have F3 : BX (((w.drewN (n1 + n2)).setCell ⟨g, 1, none⟩ (.int .i64 ((k : Int) + 1))).setCell ⟨g, 2, none⟩ (.int .u64 (IntKind.u64.wrap (IntKind.u64.wrap (IntKind.u64.wrap (u * 6364136223846793005) + (y : Int)) + 1442695040888963407)))) g 69 [.slice (some ⟨b, off, none⟩) l.length c, .int .i64 ((k : Int) + 1), .int .u64 (IntKind.u64.wrap (IntKind.u64.wrap (IntKind.u64.wrap (u * 6364136223846793005) + (y : Int)) + 1442695040888963407))] := ((show BX (w.drewN (n1 + n2)) g 69 _ from F).put 1 (.int .i64 ((k : Int) + 1))).put 2 _
    generalize (((w.drewN (n1 + n2)).setCell ⟨g, 1, none⟩ (.int .i64 ((k : Int) + 1))).setCell ⟨g, 2, none⟩ (.int .u64 (IntKind.u64.wrap (IntKind.u64.wrap (IntKind.u64.wrap (u * 6364136223846793005) + (y : Int)) + 1442695040888963407)))) = w3 at hg3 F3 ⊢
    generalize (IntKind.u64.wrap (IntKind.u64.wrap (IntKind.u64.wrap (u * 6364136223846793005) + (y : Int)) + 1442695040888963407)) = u3 at F3 ⊢
    clear f0 f1 f2 hfz
    have f0 : (_ : Option Value) = some (.slice (some ⟨b, off, none⟩) l.length c) := F3.cell 0 (by simp)
    have f1 : (_ : Option Value) = some (.int .i64 ((k : Int) + 1)) := F3.cell 1 (by simp)
    have f2 : (_ : Option Value) = some (.int .u64 u3) := F3.cell 2 (by simp)
    go_quiet (fail)
    go_wp2
    go_ret
    exact ⟨(y : Int), rfl, by omega, by omega, ⟨k + 1, u3, by omega, F3⟩, only_drewN hg3 _⟩
  · have hd1 : decide ((k : Int) < (l.length : Int)) = false := decide_eq_false (by omega)
    have hd2 : decide (((k + 1 : Nat) : Int) ≤ (l.length : Int)) = false := decide_eq_false (by omega)
    go_enter Tryz.func47, Tryz.ntmps47
    go_wp2
    go_quiet (fail)
    generalize nq = n1
    go_wp2
    have hg3 : w.grownBy (((w.drewN n1).setCell ⟨g, 1, none⟩ (.int .i64 ((k : Int) + 1))).setCell ⟨g, 2, none⟩ (.int .u64 (IntKind.u64.wrap (IntKind.u64.wrap (IntKind.u64.wrap (u * 6364136223846793005)) + 1442695040888963407)))) (some g) := only_setCell (only_setCell (only_drewN (World.grownBy.refl w (some g)) _) (p := ⟨g, 1, none⟩) (Or.inl rfl) _) (p := ⟨g, 2, none⟩) (Or.inl rfl) _
    have F3 : BX (((w.drewN n1).setCell ⟨g, 1, none⟩ (.int .i64 ((k : Int) + 1))).setCell ⟨g, 2, none⟩ (.int .u64 (IntKind.u64.wrap (IntKind.u64.wrap (IntKind.u64.wrap (u * 6364136223846793005)) + 1442695040888963407)))) g 69 [.slice A l.length c, .int .i64 ((k : Int) + 1), .int .u64 (IntKind.u64.wrap (IntKind.u64.wrap (IntKind.u64.wrap (u * 6364136223846793005)) + 1442695040888963407))] := ((show BX (w.drewN n1) g 69 _ from F).put 1 (.int .i64 ((k : Int) + 1))).put 2 _
    generalize (((w.drewN n1).setCell ⟨g, 1, none⟩ (.int .i64 ((k : Int) + 1))).setCell ⟨g, 2, none⟩ (.int .u64 (IntKind.u64.wrap (IntKind.u64.wrap (IntKind.u64.wrap (u * 6364136223846793005)) + 1442695040888963407)))) = w3 at hg3 F3 ⊢
    generalize (IntKind.u64.wrap (IntKind.u64.wrap (IntKind.u64.wrap (u * 6364136223846793005)) + 1442695040888963407)) = u3 at F3 ⊢
    clear f0 f1 f2 hfz
    have f0 : (_ : Option Value) = some (.slice A l.length c) := F3.cell 0 (by simp)
    have f1 : (_ : Option Value) = some (.int .i64 ((k : Int) + 1)) := F3.cell 1 (by simp)
    have f2 : (_ : Option Value) = some (.int .u64 u3) := F3.cell 2 (by simp)
    go_quiet (fail)
    go_wp2
    go_ret
    exact ⟨_, rfl, (byte_wrap _).1, (byte_wrap _).2, ⟨k + 1, u3, by omega, F3⟩, only_drewN hg3 _⟩

set_option maxHeartbeats 1000000 in
theorem pick_any (m : Int) (g n c N B : Nat) (A : Option Addr) (l : List UInt8) (w : World) (S : SR w g A n c N) (hn : l.length = n) (hr : Rd w B 1 A n (flat fU l)) (hBg : B ≤ g) (hB : B ≤ w.heap.size) (hN : N ≤ 900000000) (hn2 : n ≤ maxLen) (hm : m ≤ 9223372036854775807) :
    Calls Tryz.prog 28 #[.pointer (some ⟨g, 0, none⟩), .int .i64 m] w fun e w' => ∃ x : Int, e = .returned (.int .i64 x) ∧ 0 ≤ x ∧ (x = 0 ∨ x < m) ∧ SR w' g A n c (N + 2) ∧ w.grownBy w' (some g) := by
  by_cases h1 : m ≤ 1
  · have hd1 : decide (m ≤ 1) = true := decide_eq_true h1
    go_enter Tryz.func28, Tryz.ntmps28
    go_wp2
    go_ret
    exact ⟨0, rfl, by omega, .inl rfl, S.more (by omega), World.grownBy.refl _ _⟩
  have hd1 : decide (m ≤ 1) = false := decide_eq_false h1
  have hm0 : m ≠ 0 := by omega
  have nx := next_any g n c N B A l w S hn hr hBg hB (by omega) hn2
  by_cases h2 : 200 < m
  · have hd2 : decide (200 < m) = true := decide_eq_true h2
    go_enter Tryz.func28, Tryz.ntmps28
    go_wp2_with (go_at_call 47; with_reducible refine nx.mono ?_; rintro e w1 ⟨x, rfl, hx0, hx1, S1, hg1⟩)
    have nx2 := next_any g n c (N + 1) B A l w1 S1 hn (grown_rd hr hg1 hBg hB) hBg (Nat.le_trans hB hg1.size) (by omega) hn2
    have hw1 : IntKind.i64.wrap (x * 256) = x * 256 := IntWalk.i64_in _ (by omega)
    go_wp2_with (go_at_call 47; with_reducible refine nx2.mono ?_; rintro e w2 ⟨y, rfl, hy0, hy1, S2, hg2⟩; have hw2 : IntKind.i64.wrap (x * 256 + y) = x * 256 + y := IntWalk.i64_in _ (by omega))
    go_ret
    exact ⟨(x * 256 + y) % m, rfl, Int.emod_nonneg _ hm0, .inr (Int.emod_lt_of_pos _ (by omega)), S2, gr_trans hg1 hg2⟩
  · have hd2 : decide (200 < m) = false := decide_eq_false h2
    go_enter Tryz.func28, Tryz.ntmps28
    go_wp2_with (go_at_call 47; with_reducible refine nx.mono ?_; rintro e w1 ⟨x, rfl, hx0, hx1, S1, hg1⟩)
    go_ret
    exact ⟨x % m, rfl, Int.emod_nonneg _ hm0, .inr (Int.emod_lt_of_pos _ (by omega)), S1.more (by omega), hg1⟩

set_option maxHeartbeats 1000000 in
theorem one_any (m : Int) (g n c N B : Nat) (A : Option Addr) (l : List UInt8) (w : World) (S : SR w g A n c N) (hn : l.length = n) (hr : Rd w B 1 A n (flat fU l)) (hBg : B ≤ g) (hB : B ≤ w.heap.size) (hN : N ≤ 900000000) (hn2 : n ≤ maxLen) (hm : m ≤ 9223372036854775807) :
    Calls Tryz.prog 27 #[.pointer (some ⟨g, 0, none⟩), .int .i64 m] w fun e w' => ∃ x : Bool, e = .returned (.bool x) ∧ SR w' g A n c (N + 2) ∧ w.grownBy w' (some g) := by
  have nx := pick_any m g n c N B A l w S hn hr hBg hB hN hn2 hm
  go_enter Tryz.func27, Tryz.ntmps27
  go_wp2_with (go_at_call 28; with_reducible refine nx.mono ?_; rintro e w1 ⟨x, rfl, hx0, hx1, S1, hg1⟩)
  go_ret
  exact ⟨_, rfl, S1, hg1⟩

set_option maxHeartbeats 1000000 in
theorem among_any (L : List Int) (b q c2 : Nat) (hq : q = L.length) (g n c N B : Nat) (A : Option Addr) (l : List UInt8) (w : World) (S : SR w g A n c N) (hn : l.length = n) (hr : Rd w B 1 A n (flat fU l)) (hBg : B ≤ g) (hB : B ≤ w.heap.size) (hN : N ≤ 900000000) (hn2 : n ≤ maxLen)
    (hL0 : 0 < L.length) (hL : L.length ≤ 1000) (C : CP w b (L.map (Value.int .i64))) (hbg : b ≠ g) :
    Calls Tryz.prog 30 #[.pointer (some ⟨g, 0, none⟩), .slice (some ⟨b, 0, none⟩) q c2] w fun e w' => ∃ x : Int, e = .returned (.int .i64 x) ∧ x ∈ L ∧ SR w' g A n c (N + 2) ∧ w.grownBy w' (some g) := by
  subst hq
  have nx := pick_any (L.length : Int) g n c N B A l w S hn hr hBg hB hN hn2 (by omega)
  go_enter Tryz.func30, Tryz.ntmps30
  go_wp2_with (go_at_call 28; (with_reducible refine nx.mono ?_; rintro e w1 ⟨x, rfl, hx0, hx1, S1, hg1⟩; obtain ⟨j, rfl⟩ : ∃ j : Nat, x = (j : Int) := ⟨x.toNat, by omega⟩; have hj : j < L.length := (by omega); have c0 := CP.idx (CP.past C hg1 hbg) hj))
  go_ret
  exact ⟨_, rfl, List.getElem_mem hj, S1, hg1⟩
end Go.Proofs.YthelfgagddldfaaGreatDoor
namespace Go.Proofs.YthelfgagddldfaaGreatDoor
set_option linter.unusedVariables false
open Go.RowKit

theorem SR.al {w : World} {g n c N : Nat} {A : Option Addr} (h : SR w g A n c N) (o : Obj) : SR (w.alloc o) g A n c N := h.grown (World.grownBy_alloc w o none) (by simp)
theorem drawn_cells (y : Nat) (hy : y ≤ 255) : (#[Value.int .u8 (y : Int)] : Array Value).toList = bcells [UInt8.ofNat y] := by
  have : ((UInt8.ofNat y).toNat : Int) = y := by rw [UInt8.toNat_ofNat']; omega
  simp only [bcells, List.map_cons, List.map_nil, this]
theorem OwnB.far {w w' : World} {base g : Nat} {e : TypeId} {v : Value} {l : List UInt8} (h : OwnB w base e v l) (hg : w.grownBy w' (some g)) (hb : g < base) : OwnB w' base e v l := h.kept hg (.inr (fun hv => by have := (h.lt g hv).1; omega))
end Go.Proofs.YthelfgagddldfaaGreatDoor
namespace Go.Proofs.YthelfgagddldfaaGreatDoor
open Go.RowKit
set_option linter.unusedVariables false
set_option linter.unusedSimpArgs false

/-- A drawn sector in its box X, the result's box and the source. -/
structure DS (w0 W : World) (X g : Nat) (y : DSectorSpec) (A : Option Addr) (n cc N : Nat) : Prop where
  Z : BX W w0.heap.size 41 [.int .i64 0, .int .i64 0, .int .i64 0, .int .i64 0, .string ⟨#[]⟩, .bool false, .bool false, .bool false]
  F : BX W X 41 (fSectorSpec y)
  S : SR W g A n cc N
  G : w0.grownBy W (some g)
  hg : g < w0.heap.size
  hX : w0.heap.size < X
section
variable {w0 W W' : World} {X g n cc N M : Nat} {y y' : DSectorSpec} {A : Option Addr}
theorem DS.grown (H : DS w0 W X g y A n cc N) (h : W.grownBy W' (some g)) (S' : SR W' g A n cc M) : DS w0 W' X g y A n cc M :=
  ⟨BX.past H.Z h (Nat.ne_of_gt H.hg), BX.past H.F h (Nat.ne_of_gt (Nat.lt_trans H.hg H.hX)), S', gr_trans H.G h, H.hg, H.hX⟩
theorem DS.al (H : DS w0 W X g y A n cc N) (o : Obj) : DS w0 (W.alloc o) X g y A n cc N := ⟨H.Z.al o, H.F.al o, H.S.al o, gr_trans H.G (World.grownBy_alloc W o _), H.hg, H.hX⟩
theorem DS.below {B : Nat} (H : DS w0 W X g y A n cc N) (h : Below B W W') (hB : X < B) : DS w0 W' X g y A n cc N :=
  ⟨H.Z.below h (Nat.lt_trans H.hX hB), H.F.below h hB, H.S.below h (Nat.lt_trans (Nat.lt_trans H.hg H.hX) hB), gr_below H.G (h.mono (Nat.le_of_lt (Nat.lt_trans H.hX hB))), H.hg, H.hX⟩
theorem DS.put (H : DS w0 W X g y A n cc N) (j : Nat) (u : Value) (hy : (fSectorSpec y).set j u = fSectorSpec y') : DS w0 (W.setCell ⟨X, j, none⟩ u) X g y' A n cc N :=
  ⟨H.Z.far (a := ⟨X, j, none⟩) (Nat.ne_of_lt H.hX) u, hy ▸ H.F.put j u, H.S.grown (grownBy_set0 W X j u) (fun e => by have h1 := H.hg; have h2 := H.hX; have := Option.some.inj e; omega), only_setCell H.G (p := ⟨X, j, none⟩) (.inr (Nat.le_of_lt H.hX)) u, H.hg, H.hX⟩
theorem DS.set {b c m : Nat} {base : Nat} {xs : List Value} {e : TypeId} (H : DS w0 W X g y A n cc N) (O : W.ownsRow base e 1 (.slice (some ⟨b, 0, none⟩) m c) m xs) (hb : X < base) (i : Nat) (u : Value) :
    DS w0 (W.setCell ⟨b, i, none⟩ u) X g y A n cc N := by
  have hbb := (World.ownsRow.lt O b rfl).1
  have h1 := H.hg
  have h2 := H.hX
  exact ⟨H.Z.far (a := ⟨b, i, none⟩) (by show w0.heap.size ≠ b; omega) u, H.F.far (a := ⟨b, i, none⟩) (by show X ≠ b; omega) u, H.S.grown (grownBy_set0 W b i u) (fun e => by have := Option.some.inj e; omega), only_setCell H.G (p := ⟨b, i, none⟩) (.inr (by show w0.heap.size ≤ b; omega)) u, h1, h2⟩
theorem DS.more (H : DS w0 W X g y A n cc N) (h : N ≤ M) : DS w0 W X g y A n cc M := ⟨H.Z, H.F, H.S.more h, H.G, H.hg, H.hX⟩
theorem own_byte {W : World} {base b c : Nat} {e : TypeId} {l : List UInt8} {i y : Nat} (h : OwnB W base e (.slice (some ⟨b, 0, none⟩) l.length c) l) (hy : y ≤ 255) : OwnB (W.setCell ⟨b, i, none⟩ (.int .u8 (y : Int))) base e (.slice (some ⟨b, 0, none⟩) l.length c) (l.set i (UInt8.ofNat y)) := by
  have h2 := (World.ownsRow.stored h i (.int .u8 (y : Int))).1
  unfold OwnB
  rw [List.length_set]
  have e : (bcells l).set i (.int .u8 (y : Int)) = bcells (l.set i (UInt8.ofNat y)) := by
    have hb : ((UInt8.ofNat y).toNat : Int) = y := by rw [UInt8.toNat_ofNat']; omega
    unfold bcells
    rw [List.map_set, hb]
  rw [← e]
  exact h2
/-- What the draws ask of the source's bytes. -/
theorem DS.rd {B0 : Nat} {xs : List Value} (H : DS w0 W X g y A n cc N) (hr : Rd w0 B0 1 A n xs) (hBg : B0 ≤ g) (hB : B0 ≤ w0.heap.size) : Rd W B0 1 A n xs := grown_rd hr H.G hBg hB
end

set_option maxRecDepth 100000 in
set_option maxHeartbeats 8000000 in
theorem drawSec_any (g n cc N B0 : Nat) (A : Option Addr) (L : List UInt8) (w : World) (S : SR w g A n cc N) (hn : L.length = n) (hr : Rd w B0 1 A n (flat fU L)) (hBg : B0 ≤ g) (hB : B0 ≤ w.heap.size) (hN : N ≤ 500000000) (hn2 : n ≤ maxLen) :
    Calls Tryz.prog 46 #[.pointer (some ⟨g, 0, none⟩)] w fun e w' => ∃ y : DSectorSpec, e = .returned (vSectorSpec y) ∧ SR w' g A n cc (N + 300) ∧ w.grownBy w' (some g) := by
  have hgl := S.lt
  have Z1 := BX.made w 41 [.int .i64 0, .int .i64 0, .int .i64 0, .int .i64 0, .string ⟨#[]⟩, .bool false, .bool false, .bool false]
  have S1 := S.al (.cells #[.int .i64 0, .int .i64 0, .int .i64 0, .int .i64 0, .string ⟨#[]⟩, .bool false, .bool false, .bool false] 41)
  have G1 : w.grownBy (w.alloc (.cells #[.int .i64 0, .int .i64 0, .int .i64 0, .int .i64 0, .string ⟨#[]⟩, .bool false, .bool false, .bool false] 41)) (some g) := World.grownBy_alloc w _ _
  obtain ⟨w1, hw1⟩ : ∃ w1, w.alloc (.cells #[.int .i64 0, .int .i64 0, .int .i64 0, .int .i64 0, .string ⟨#[]⟩, .bool false, .bool false, .bool false] 41) = w1 := ⟨_, rfl⟩
  rw [hw1] at Z1 S1 G1
  have HW := Lib.hid hw1
  have am := among_any [0, 0, 1, 2] w1.heap.size 4 4 rfl g n cc N B0 A L (w1.alloc (.cells #[.int .i64 0, .int .i64 0, .int .i64 1, .int .i64 2] 2)) (S1.al _) hn (grown_rd hr (gr_trans G1 (World.grownBy_alloc w1 _ _)) hBg hB) hBg (Nat.le_trans hB (gr_trans G1 (World.grownBy_alloc w1 (.cells #[.int .i64 0, .int .i64 0, .int .i64 1, .int .i64 2] 2) _)).size) (by omega) hn2 (by decide) (by decide) (CP.made w1 [.int .i64 0, .int .i64 0, .int .i64 1, .int .i64 2] 2) (by have := S1.lt; omega)
  clear hw1
  go_enter Tryz.func46, Tryz.ntmps46
  go_upto_region 1 with fail
  rw [HW.out]
  go_upto_region 2 with (go_at_call 30; (with_reducible refine am.mono ?_); rintro e w2 ⟨x, rfl, hx, S2, hg2⟩)
  obtain ⟨X, hX⟩ : ∃ X, w2.heap.size = X := ⟨_, rfl⟩
  have H : DS w (w2.alloc (.cells #[.int .i64 0, .int .i64 0, .int .i64 0, .int .i64 x, .string ⟨#[]⟩, .bool false, .bool false, .bool false] 41)) w2.heap.size g ⟨0, 0, 0, x, ⟨#[]⟩, false, false, false⟩ A n cc (N + 2) := by
    have hl1 := Z1.lt
    have hl2 := hg2.size
    rw [World.size_alloc] at hl2
    have hne : w.heap.size ≠ g := by omega
    exact ⟨(BX.past (Z1.al _) hg2 hne).al _, BX.made w2 _ _, S2.al _, gr_trans (gr_trans (gr_trans G1 (World.grownBy_alloc w1 _ _)) hg2) (World.grownBy_alloc w2 _ _), hgl, by omega⟩
  rw [hX] at H
  rw [hX]
  clear hX am HW Z1 S1 G1 hg2 S2
  generalize (w2.alloc (.cells #[.int .i64 0, .int .i64 0, .int .i64 0, .int .i64 x, .string ⟨#[]⟩, .bool false, .bool false, .bool false] 41)) = W at H ⊢
  have hd := pick_any 8 g n cc (N + 2) B0 A L W H.S hn (H.rd hr hBg hB) hBg (Nat.le_trans hB H.G.size) (by omega) hn2 (by decide)
  go_upto_region 3 with (go_at_call 28; (with_reducible refine hd.mono ?_); rintro e w3 ⟨x0, rfl, x0a, x0b, S3, hg3⟩; have H3 := H.grown hg3 S3; have f0 : (_ : Option Value) = some _ := H3.F.cell 0 (by simp [fSectorSpec]); have ffz := fun j => H3.F.free j)
  have H := DS.put (y' := ⟨x0, 0, 0, x, ⟨#[]⟩, false, false, false⟩) H3 0 (.int .i64 x0) rfl
  generalize (w3.setCell ⟨X, 0, none⟩ (.int .i64 x0)) = W at H ⊢
  clear f0 ffz H3 hd hg3 S3
  have hd := pick_any 2 g n cc (N + 2 + 2) B0 A L W H.S hn (H.rd hr hBg hB) hBg (Nat.le_trans hB H.G.size) (by omega) hn2 (by decide)
  go_upto_region 4 with (go_at_call 28; (with_reducible refine hd.mono ?_); rintro e w3 ⟨x1, rfl, x1a, x1b, S3, hg3⟩; have H3 := H.grown hg3 S3; have f1 : (_ : Option Value) = some _ := H3.F.cell 1 (by simp [fSectorSpec]); have ffz := fun j => H3.F.free j)
  have H := DS.put (y' := ⟨x0, x1, 0, x, ⟨#[]⟩, false, false, false⟩) H3 1 (.int .i64 x1) rfl
  generalize (w3.setCell ⟨X, 1, none⟩ (.int .i64 x1)) = W at H ⊢
  clear f1 ffz H3 hd hg3 S3
  have hd := pick_any 9 g n cc (N + 2 + 2 + 2) B0 A L W H.S hn (H.rd hr hBg hB) hBg (Nat.le_trans hB H.G.size) (by omega) hn2 (by decide)
  go_upto_region 5 with (go_at_call 28; (with_reducible refine hd.mono ?_); rintro e w3 ⟨x2, rfl, x2a, x2b, S3, hg3⟩; have H3 := H.grown hg3 S3; have f2 : (_ : Option Value) = some _ := H3.F.cell 2 (by simp [fSectorSpec]); have ffz := fun j => H3.F.free j)
  have H := DS.put (y' := ⟨x0, x1, x2, x, ⟨#[]⟩, false, false, false⟩) H3 2 (.int .i64 x2) rfl
  generalize (w3.setCell ⟨X, 2, none⟩ (.int .i64 x2)) = W at H ⊢
  clear f2 ffz H3 hd hg3 S3
  go_upto_region 6 with fail
  have hO := OwnB.lit (e := 5) (base := W.heap.size) W [] #[] rfl (Nat.le_refl _) (by simp)
  have hXB := H.F.lt
  obtain ⟨bs, hbs⟩ : ∃ bs, W.heap.size = bs := ⟨_, rfl⟩
  have H := DS.al H (.cells #[] 5)
  have hbl0 : bs ≤ (W.alloc (.cells #[] 5)).heap.size := by rw [World.size_alloc]; omega
  rw [hbs] at hO hXB ⊢
  clear hbs
  generalize (W.alloc (.cells #[] 5)) = W at H hO hbl0 ⊢
  have f3 : (_ : Option Value) = some (.int .i64 x) := H.F.cell 3 (by simp [fSectorSpec])
  have hx3 : x = 0 ∨ x = 1 ∨ x = 2 := by simp at hx; omega
  clear hx
  go_cut [5] (fun kk wx => W = wx ∧ ∃ k : Nat, kk = .int .i64 (k : Int) ∧ k ≤ 32)
  case first =>
    rcases hx3 with rfl | rfl | rfl
    · go_wp2
      go_meet
      exact ⟨rfl, 8, rfl, by decide⟩
    · go_wp2
      go_meet
      exact ⟨rfl, 16, rfl, by decide⟩
    · go_wp2
      go_meet
      exact ⟨rfl, 32, rfl, by decide⟩
  case rest =>
  obtain ⟨rfl, k0, rfl, hk0⟩ := hcut
  obtain ⟨Y, hY⟩ : ∃ Y : DSectorSpec, Y = ⟨x0, x1, x2, x, ⟨#[]⟩, false, false, false⟩ := ⟨_, rfl⟩
  rw [← hY] at H
  have HY := Lib.hid hY
  clear hY f3 hx3
  go_wp2_with fail
  go_loopw [4, 5] (fun o kk wr => ∃ (k : Nat) (out : List UInt8), kk = .int .i64 (k : Int) ∧ out.length + k ≤ 32 ∧ OwnB wr bs 5 o out ∧ DS w wr X g Y A n cc (N + 8 + 2 * (32 - k)) ∧ bs ≤ wr.heap.size) (fun _ kk _ => (intOf kk).toNat)
  case atStart => exact ⟨k0, [], rfl, by simpa using hk0, hO, H.more (by omega), hbl0⟩
  case round =>
    obtain ⟨k, out, rfl, hlen, hown, HD, hbw⟩ := hrel
    obtain ⟨A0, c0, rfl⟩ := hown.form
    by_cases hlt : 0 < k
    · have hlti : decide ((0 : Int) < (k : Int)) = true := decide_eq_true (by omega)
      have am := among_any [0, 255, 65, 161, 1, 78] wr.heap.size 6 6 rfl g n cc (N + 8 + 2 * (32 - k)) B0 A L (wr.alloc (.cells #[.int .i64 0, .int .i64 255, .int .i64 65, .int .i64 161, .int .i64 1, .int .i64 78] 2)) (HD.S.al _) hn (grown_rd hr (gr_trans HD.G (World.grownBy_alloc wr _ _)) hBg hB) hBg (Nat.le_trans hB (gr_trans HD.G (World.grownBy_alloc wr (.cells #[.int .i64 0, .int .i64 255, .int .i64 65, .int .i64 161, .int .i64 1, .int .i64 78] 2) _)).size) (by omega) hn2 (by decide) (by decide) (CP.made wr [.int .i64 0, .int .i64 255, .int .i64 65, .int .i64 161, .int .i64 1, .int .i64 78] 2) (by have := HD.S.lt; omega)
      have hkw : IntKind.i64.wrap ((k : Int) - 1) = ((k - 1 : Nat) : Int) := by rw [IntWalk.i64_in _ (by omega)]; omega
      have hgb : g < bs := by have h1 := HD.hg; have h2 := HD.hX; omega
      have HDa := DS.al HD (.cells #[.int .i64 0, .int .i64 255, .int .i64 65, .int .i64 161, .int .i64 1, .int .i64 78] 2)
      have hown1 := OwnB.alloc hown (.cells #[.int .i64 0, .int .i64 255, .int .i64 65, .int .i64 161, .int .i64 1, .int .i64 78] 2)
      have hlo : out.length ≤ 32 := by omega
      go_wp2_with (first
        | (go_at_call 30; (with_reducible refine am.mono ?_); rintro e w5 ⟨z, rfl, hz, S5, hg5⟩; obtain ⟨y, rfl, hy⟩ : ∃ y : Nat, z = (y : Int) ∧ y ≤ 255 := ⟨z.toNat, (by simp at hz; omega)⟩; have hwy : IntKind.u8.wrap (y : Int) = (y : Int) := IntWalk.u8_in _ (by omega); have HD5 := HDa.grown hg5 S5; have hown5 := hown1.far hg5 hgb; have hbw5 : bs ≤ w5.heap.size := Nat.le_trans hbw (Nat.le_trans (by rw [World.size_alloc]; omega) hg5.size))
        | (at_builtin; go_must (refine wpList_appL (by rfl) (.tmp 29) (.tmp 34) 22 (by rfl) eltB _ out (by rfl) hown5 _ _ [UInt8.ofNat y] 1 1 (by rfl) (drawn_cells y (by omega)) (by rfl) (by simp; omega) hbw5 ?_); intro v' w' hown' hg' hat' hbl; obtain ⟨A9, c9, rfl⟩ := hown'.form))
      have hl1 : (out ++ [UInt8.ofNat y]).length = out.length + 1 := by rw [List.length_append]; rfl
      go_roundw
      case rel => exact ⟨k - 1, out ++ [UInt8.ofNat y], rfl, by rw [hl1]; omega, (by rw [hl1] at hown'; exact hown'), (HD5.below hbl hXB).more (by omega), Nat.le_trans hbw5 hbl.size⟩
      case measure => simp [intOf]; omega
    · have hlti : decide ((0 : Int) < (k : Int)) = false := decide_eq_false (by omega)
      clear hO H hbl0
      obtain rfl : k = 0 := by omega
      have hd := one_any 3 g n cc (N + 8 + 2 * (32 - 0)) B0 A L wr HD.S hn (HD.rd hr hBg hB) hBg (Nat.le_trans hB HD.G.size) (by omega) hn2 (by decide)
      go_upto_if 37 with (go_at_call 27; (with_reducible refine hd.mono ?_); rintro e w5 ⟨z, rfl, S5, hg5⟩; have HD5 := HD.grown hg5 S5; have hown5 := hown.far hg5 (show g < bs by have h1 := HD.hg; have h2 := HD.hX; omega); have hbw5 := Nat.le_trans hbw hg5.size)
      go_cut [6] (fun _ wx => ∃ out2 : List UInt8, out2.length = out.length ∧ OwnB wx bs 5 (.slice A0 out.length c0) out2 ∧ DS w wx X g Y A n cc (N + 120) ∧ bs ≤ wx.heap.size)
      case first =>
        cases z
        rotate_left
        · clear hd hown HD hg5
          go_wp2_with fail
          go_loopw [6] (fun i wr => ∃ (i0 : Nat) (out2 : List UInt8), i = .int .i64 (i0 : Int) ∧ i0 ≤ out.length ∧ out2.length = out.length ∧ OwnB wr bs 5 (.slice A0 out.length c0) out2 ∧ DS w wr X g Y A n cc (N + 80 + i0) ∧ bs ≤ wr.heap.size) (fun i _ => out.length - (intOf i).toNat)
          case atStart => exact ⟨0, out, rfl, Nat.zero_le _, rfl, hown5, HD5.more (by omega), hbw5⟩
          case round =>
            obtain ⟨i0, out2, rfl, hi0, hl2, hown6, HD6, hbw6⟩ := hrel
            by_cases hlt2 : i0 < out.length
            · have hlti2 : decide ((i0 : Int) < (out.length : Int)) = true := decide_eq_true (by omega)
              have hi32 : i0 ≤ 32 := by omega
              have nx := next_any g n cc (N + 80 + i0) B0 A L wr HD6.S hn (HD6.rd hr hBg hB) hBg (Nat.le_trans hB HD6.G.size) (by omega) hn2
              obtain ⟨b, cap, hbe, hbb, hbw7, hbc⟩ := OwnB.at_ hown6 i0 (by omega)
              have hgb : g < bs := by have h1 := HD6.hg; have h2 := HD6.hX; omega
              rw [hl2] at hbe
              cases hbe
              have hownL : OwnB wr bs 5 (.slice (some ⟨b, 0, none⟩) out2.length c0) out2 := by rw [hl2]; exact hown6
              clear hown5 HD5 hbw5
              go_wp2_with (go_at_call 47; (with_reducible refine nx.mono ?_); rintro e w6 ⟨z2, rfl, hz0, hz1, S6, hg6⟩; obtain ⟨y2, rfl⟩ : ∃ y2 : Nat, z2 = (y2 : Int) := ⟨z2.toNat, (by omega)⟩; have hwy2 : IntKind.u8.wrap (y2 : Int) = (y2 : Int) := IntWalk.u8_in _ (by omega); have HD7 := HD6.grown hg6 S6; have hown7 := hownL.far hg6 hgb; have hc7 := (World.grownBy.cell_far hg6 ⟨b, i0, none⟩ hbw7 (fun e => by have h1 : b = g := Option.some.inj e; omega)).trans hbc; have hf7 : w6.frozen? ⟨b, i0, none⟩ = false := World.ownsRow.frozenAt hown7 i0)
              go_roundw
              case rel => exact ⟨i0 + 1, out2.set i0 (UInt8.ofNat y2), by go_num, hlt2, by rw [List.length_set]; exact hl2, (by have h := own_byte (i := i0) hown7 (show y2 ≤ 255 by omega); rw [hl2] at h; exact h), (DS.set HD7 hown7 hXB i0 _).more (by omega), by rw [World.size_setCell]; exact Nat.le_trans hbw6 hg6.size⟩
              case measure => (simp [intOf] <;> omega)
            · have hlti2 : decide ((i0 : Int) < (out.length : Int)) = false := decide_eq_false (by omega)
              go_wp2
              go_meet
              exact ⟨out2, hl2, hown6, HD6.more (by omega), hbw6⟩
        · go_wp2_with fail
          go_meet
          exact ⟨out, rfl, hown5, HD5.more (by omega), hbw5⟩
      case rest =>
      clear hown5 HD5 hbw5 hg5 S5 hd hown HD
      obtain ⟨out2, hl2, hown2, H, hbw2⟩ := hcut
      obtain rfl := HY.out
      have hownL : OwnB wc bs 5 (.slice A0 out2.length c0) out2 := by rw [hl2]; exact hown2
      have hcv0 := run_b2s (P := Tryz.prog) (dst := 9) Tryz.underlying22 Tryz.underlying5 Tryz.underlying9 hownL
      rw [hl2] at hcv0
      obtain ⟨s, hcv⟩ : ∃ s : ByteArray, (convert 22 9 (.slice A0 out.length c0)).run Tryz.prog wc = .ok (.string s) wc := ⟨_, hcv0⟩
      clear hcv0 hownL hown2
      have f4 : (_ : Option Value) = some (.string ⟨#[]⟩) := H.F.cell 4 (by simp [fSectorSpec])
      have ffz := fun j => H.F.free j
      go_upto_region 16 with fail
      have H := DS.put (y' := ⟨x0, x1, x2, x, s, false, false, false⟩) H 4 (.string s) rfl
      generalize (wc.setCell ⟨X, 4, none⟩ (.string s)) = W at H ⊢
      clear f4 ffz
      have hd := one_any 6 g n cc (N + 120) B0 A L W H.S hn (H.rd hr hBg hB) hBg (Nat.le_trans hB H.G.size) (by omega) hn2 (by decide)
      go_upto_region 17 with (go_at_call 27; (with_reducible refine hd.mono ?_); rintro e w3 ⟨x5, rfl, S3, hg3⟩; have H3 := H.grown hg3 S3; have f5 : (_ : Option Value) = some _ := H3.F.cell 5 (by simp [fSectorSpec]); have ffz := fun j => H3.F.free j)
      have H := DS.put (y' := ⟨x0, x1, x2, x, s, x5, false, false⟩) H3 5 (.bool x5) rfl
      generalize (w3.setCell ⟨X, 5, none⟩ (.bool x5)) = W at H ⊢
      clear f5 ffz H3 hd hg3 S3
      have hd := one_any 12 g n cc (N + 120 + 2) B0 A L W H.S hn (H.rd hr hBg hB) hBg (Nat.le_trans hB H.G.size) (by omega) hn2 (by decide)
      go_upto_region 18 with (go_at_call 27; (with_reducible refine hd.mono ?_); rintro e w3 ⟨x6, rfl, S3, hg3⟩; have H3 := H.grown hg3 S3; have f6 : (_ : Option Value) = some _ := H3.F.cell 6 (by simp [fSectorSpec]); have ffz := fun j => H3.F.free j)
      have H := DS.put (y' := ⟨x0, x1, x2, x, s, x5, x6, false⟩) H3 6 (.bool x6) rfl
      generalize (w3.setCell ⟨X, 6, none⟩ (.bool x6)) = W at H ⊢
      clear f6 ffz H3 hd hg3 S3
      have hd := one_any 9 g n cc (N + 120 + 2 + 2) B0 A L W H.S hn (H.rd hr hBg hB) hBg (Nat.le_trans hB H.G.size) (by omega) hn2 (by decide)
      go_upto_region 19 with (go_at_call 27; (with_reducible refine hd.mono ?_); rintro e w3 ⟨x7, rfl, S3, hg3⟩; have H3 := H.grown hg3 S3; have f7 : (_ : Option Value) = some _ := H3.F.cell 7 (by simp [fSectorSpec]); have ffz := fun j => H3.F.free j)
      have H := DS.put (y' := ⟨x0, x1, x2, x, s, x5, x6, x7⟩) H3 7 (.bool x7) rfl
      generalize (w3.setCell ⟨X, 7, none⟩ (.bool x7)) = W at H ⊢
      clear f7 ffz H3 hd hg3 S3
      have f0 : (_ : Option Value) = some (.int .i64 x0) := H.F.cell 0 (by simp [fSectorSpec])
      have f1 : (_ : Option Value) = some (.int .i64 x1) := H.F.cell 1 (by simp [fSectorSpec])
      have f2 : (_ : Option Value) = some (.int .i64 x2) := H.F.cell 2 (by simp [fSectorSpec])
      have f3 : (_ : Option Value) = some (.int .i64 x) := H.F.cell 3 (by simp [fSectorSpec])
      have f4 : (_ : Option Value) = some (.string s) := H.F.cell 4 (by simp [fSectorSpec])
      have f5 : (_ : Option Value) = some (.bool x5) := H.F.cell 5 (by simp [fSectorSpec])
      have f6 : (_ : Option Value) = some (.bool x6) := H.F.cell 6 (by simp [fSectorSpec])
      have f7 : (_ : Option Value) = some (.bool x7) := H.F.cell 7 (by simp [fSectorSpec])
      have z0 : (_ : Option Value) = some (.int .i64 0) := H.Z.cell 0 (by simp)
      have z1 : (_ : Option Value) = some (.int .i64 0) := H.Z.cell 1 (by simp)
      have z2 : (_ : Option Value) = some (.int .i64 0) := H.Z.cell 2 (by simp)
      have z3 : (_ : Option Value) = some (.int .i64 0) := H.Z.cell 3 (by simp)
      have z4 : (_ : Option Value) = some (.string ⟨#[]⟩) := H.Z.cell 4 (by simp)
      have z5 : (_ : Option Value) = some (.bool false) := H.Z.cell 5 (by simp)
      have z6 : (_ : Option Value) = some (.bool false) := H.Z.cell 6 (by simp)
      have z7 : (_ : Option Value) = some (.bool false) := H.Z.cell 7 (by simp)
      have hfz := fun j => H.Z.free j
      have hgne : w.heap.size ≠ g := by omega
      go_wp2_with fail
      refine bodyPost_ret (v := .agg #[.int .i64 x0, .int .i64 x1, .int .i64 x2, .int .i64 x, .string s, .bool x5, .bool x6, .bool x7]) (by simp [results, Tryz.results46, go_sem, World.cell?_setCell_other, z0, z1, z2, z3, z4, z5, z6, z7]) rfl ⟨⟨x0, x1, x2, x, s, x5, x6, x7⟩, rfl, ?_, ?_⟩
      · refine SR.more (N := N + 120 + 2 + 2 + 2) ?_ (by omega)
        have hx : ∀ (W : World) (j : Nat) (y : Value), SR W g A n cc (N + 120 + 2 + 2 + 2) → SR (W.setCell ⟨w.heap.size, j, none⟩ y) g A n cc (N + 120 + 2 + 2 + 2) := fun W j y h => h.grown (grownBy_set0 W w.heap.size j y) (fun e => by have := Option.some.inj e; omega)
        exact hx _ _ _ (hx _ _ _ (hx _ _ _ (hx _ _ _ (hx _ _ _ (hx _ _ _ (hx _ _ _ (hx _ _ _ H.S)))))))
      · have hx : ∀ (W : World) (j : Nat) (y : Value), w.grownBy W (some g) → w.grownBy (W.setCell ⟨w.heap.size, j, none⟩ y) (some g) := fun W j y h => only_setCell h (.inr (Nat.le_refl _)) y
        exact hx _ _ _ (hx _ _ _ (hx _ _ _ (hx _ _ _ (hx _ _ _ (hx _ _ _ (hx _ _ _ (hx _ _ _ H.G)))))))
end Go.Proofs.YthelfgagddldfaaGreatDoor
namespace Go.Proofs.YthelfgagddldfaaGreatDoor
open Go.RowKit
set_option linter.unusedVariables false
set_option linter.unusedSimpArgs false

/-- A drawn struct in its box X, the result's box and the source. -/
structure DB (w0 W : World) (t : TypeId) (zs : List Value) (X g : Nat) (vs : List Value) (A : Option Addr) (n cc N : Nat) : Prop where
  Z : BX W w0.heap.size t zs
  F : BX W X t vs
  S : SR W g A n cc N
  G : w0.grownBy W (some g)
  hg : g < w0.heap.size
  hX : w0.heap.size < X
section
variable {w0 W W' : World} {t : TypeId} {zs vs vs' : List Value} {X g n cc N M : Nat} {A : Option Addr}
theorem DB.grown (H : DB w0 W t zs X g vs A n cc N) (h : W.grownBy W' (some g)) (S' : SR W' g A n cc M) : DB w0 W' t zs X g vs A n cc M :=
  ⟨BX.past H.Z h (Nat.ne_of_gt H.hg), BX.past H.F h (Nat.ne_of_gt (Nat.lt_trans H.hg H.hX)), S', gr_trans H.G h, H.hg, H.hX⟩
theorem DB.al (H : DB w0 W t zs X g vs A n cc N) (o : Obj) : DB w0 (W.alloc o) t zs X g vs A n cc N := ⟨H.Z.al o, H.F.al o, H.S.al o, gr_trans H.G (World.grownBy_alloc W o _), H.hg, H.hX⟩
theorem DB.dr (H : DB w0 W t zs X g vs A n cc N) : DB w0 W.drew t zs X g vs A n cc N := ⟨H.Z, H.F, H.S, only_drew H.G, H.hg, H.hX⟩
theorem DB.below {B : Nat} (H : DB w0 W t zs X g vs A n cc N) (h : Below B W W') (hB : X < B) : DB w0 W' t zs X g vs A n cc N :=
  ⟨H.Z.below h (Nat.lt_trans H.hX hB), H.F.below h hB, H.S.below h (Nat.lt_trans (Nat.lt_trans H.hg H.hX) hB), gr_below H.G (h.mono (Nat.le_of_lt (Nat.lt_trans H.hX hB))), H.hg, H.hX⟩
theorem DB.put (H : DB w0 W t zs X g vs A n cc N) (j : Nat) (u : Value) (hy : vs.set j u = vs') : DB w0 (W.setCell ⟨X, j, none⟩ u) t zs X g vs' A n cc N :=
  ⟨H.Z.far (a := ⟨X, j, none⟩) (Nat.ne_of_lt H.hX) u, hy ▸ H.F.put j u, H.S.grown (grownBy_set0 W X j u) (fun e => by have h1 := H.hg; have h2 := H.hX; have := Option.some.inj e; omega), only_setCell H.G (p := ⟨X, j, none⟩) (.inr (Nat.le_of_lt H.hX)) u, H.hg, H.hX⟩
theorem DB.far (H : DB w0 W t zs X g vs A n cc N) {a : Addr} (hw : w0.heap.size < a.block) (hXa : X ≠ a.block) (u : Value) : DB w0 (W.setCell a u) t zs X g vs A n cc N :=
  ⟨H.Z.far (Nat.ne_of_lt hw) u, H.F.far hXa u, by
    obtain ⟨k, s, hk, F⟩ := H.S
    exact ⟨k, s, hk, F.far (Nat.ne_of_lt (Nat.lt_trans H.hg hw)) u⟩, only_setCell H.G (.inr (Nat.le_of_lt hw)) u, H.hg, H.hX⟩
theorem DB.more (H : DB w0 W t zs X g vs A n cc N) (h : N ≤ M) : DB w0 W t zs X g vs A n cc M := ⟨H.Z, H.F, H.S.more h, H.G, H.hg, H.hX⟩
theorem DB.rd {B0 : Nat} {xs : List Value} (H : DB w0 W t zs X g vs A n cc N) (hr : Rd w0 B0 1 A n xs) (hBg : B0 ≤ g) (hB : B0 ≤ w0.heap.size) : Rd W B0 1 A n xs := grown_rd hr H.G hBg hB
theorem DB.endS (H : DB w0 W t zs X g vs A n cc N) (hM : N ≤ M) (j : Nat) (u : Value) : DB w0 (W.setCell ⟨w0.heap.size, j, none⟩ u) t (zs.set j u) X g vs A n cc M :=
  ⟨H.Z.put j u, H.F.far (a := ⟨w0.heap.size, j, none⟩) (Nat.ne_of_gt H.hX) u, (H.S.grown (grownBy_set0 W w0.heap.size j u) (fun e => by have h1 := H.hg; have := Option.some.inj e; omega)).more hM, only_setCell H.G (p := ⟨w0.heap.size, j, none⟩) (.inr (Nat.le_refl _)) u, H.hg, H.hX⟩
theorem own_past {base size m : Nat} {e : TypeId} {v : Value} {xs : List Value} (O : W.ownsRow base e size v m xs) (h : W.grownBy W' (some g)) (hgb : g < base) : W'.ownsRow base e size v m xs :=
  World.ownsRow.kept O h (.inr (fun e => by have := (World.ownsRow.lt O g e).1; omega))
end

set_option maxHeartbeats 400000 in
theorem max1_any (a : Int) (w : World) : Calls Tryz.prog 31 #[.int .i64 a, .int .i64 1] w fun e w' => e = .returned (.int .i64 (if 1 < a then a else 1)) ∧ w = w' := by
  by_cases h : 1 < a
  · have hd : decide (1 < a) = true := decide_eq_true h
    rw [if_pos h]
    go_enter Tryz.func31, Tryz.ntmps31
    go_wp2
    go_ret
    exact ⟨rfl, rfl⟩
  · have hd : decide (1 < a) = false := decide_eq_false h
    rw [if_neg h]
    go_enter Tryz.func31, Tryz.ntmps31
    go_wp2
    go_ret
    exact ⟨rfl, rfl⟩

set_option maxRecDepth 100000 in
set_option maxHeartbeats 8000000 in
theorem drawFeat_any (sec : Int) (g n cc N B0 : Nat) (A : Option Addr) (L : List UInt8) (w : World) (S : SR w g A n cc N) (hn : L.length = n) (hr : Rd w B0 1 A n (flat fU L)) (hBg : B0 ≤ g) (hB : B0 ≤ w.heap.size) (hN : N ≤ 400000000) (hn2 : n ≤ maxLen) (hsec : sec ≤ 1000) :
    Calls Tryz.prog 14 #[.pointer (some ⟨g, 0, none⟩), .int .i64 sec] w fun e w' => ∃ (k s v : Int), e = .returned (.agg #[.int .i64 k, .int .i64 s, .int .i64 v]) ∧ SR w' g A n cc (N + 20) ∧ w.grownBy w' (some g) := by
  have hgl := S.lt
  have Z1 := BX.made w 29 [.int .i64 0, .int .i64 0, .int .i64 0]
  have S1 := S.al (.cells #[.int .i64 0, .int .i64 0, .int .i64 0] 29)
  have G1 : w.grownBy (w.alloc (.cells #[.int .i64 0, .int .i64 0, .int .i64 0] 29)) (some g) := World.grownBy_alloc w _ _
  obtain ⟨w1, hw1⟩ : ∃ w1, w.alloc (.cells #[.int .i64 0, .int .i64 0, .int .i64 0] 29) = w1 := ⟨_, rfl⟩
  rw [hw1] at Z1 S1 G1
  have HW := Lib.hid hw1
  have am := among_any [1, 1, 2, 3, 4, 6, 8, 5, 7] w1.heap.size 9 9 rfl g n cc N B0 A L (w1.alloc (.cells #[.int .i64 1, .int .i64 1, .int .i64 2, .int .i64 3, .int .i64 4, .int .i64 6, .int .i64 8, .int .i64 5, .int .i64 7] 2)) (S1.al _) hn (grown_rd hr (gr_trans G1 (World.grownBy_alloc w1 _ _)) hBg hB) hBg (Nat.le_trans hB (gr_trans G1 (World.grownBy_alloc w1 (.cells #[.int .i64 1, .int .i64 1, .int .i64 2, .int .i64 3, .int .i64 4, .int .i64 6, .int .i64 8, .int .i64 5, .int .i64 7] 2) _)).size) (by omega) hn2 (by decide) (by decide) (CP.made w1 [.int .i64 1, .int .i64 1, .int .i64 2, .int .i64 3, .int .i64 4, .int .i64 6, .int .i64 8, .int .i64 5, .int .i64 7] 2) (by have := S1.lt; omega)
  clear hw1
  have mx := fun W => max1_any sec W
  obtain ⟨mm, hmm⟩ : ∃ mm, (if 1 < sec then sec else 1) = mm := ⟨_, rfl⟩
  rw [hmm] at mx
  have hm1 : mm ≤ 1000 := by subst hmm; split <;> omega
  clear hmm
  go_enter Tryz.func14, Tryz.ntmps14
  go_upto_region 1 with fail
  rw [HW.out]
  go_upto_region 2 with (go_at_call 30; (with_reducible refine am.mono ?_); rintro e w2 ⟨k, rfl, hx, S2, hg2⟩)
  obtain ⟨X, hX⟩ : ∃ X, w2.heap.size = X := ⟨_, rfl⟩
  have H : DB w (w2.alloc (.cells #[.int .i64 k, .int .i64 0, .int .i64 0] 29)) 29 [.int .i64 0, .int .i64 0, .int .i64 0] w2.heap.size g [.int .i64 k, .int .i64 0, .int .i64 0] A n cc (N + 2) := by
    have hl1 := Z1.lt
    have hl2 := hg2.size
    rw [World.size_alloc] at hl2
    have hne : w.heap.size ≠ g := by omega
    exact ⟨(BX.past (Z1.al _) hg2 hne).al _, BX.made w2 _ _, S2.al _, gr_trans (gr_trans (gr_trans G1 (World.grownBy_alloc w1 _ _)) hg2) (World.grownBy_alloc w2 _ _), hgl, by omega⟩
  rw [hX] at H
  rw [hX]
  clear hX am HW Z1 S1 G1 hg2 S2 hx
  generalize (w2.alloc (.cells #[.int .i64 k, .int .i64 0, .int .i64 0] 29)) = W at H ⊢
  have hd := pick_any mm g n cc (N + 2) B0 A L W H.S hn (H.rd hr hBg hB) hBg (Nat.le_trans hB H.G.size) (by omega) hn2 (by first | decide | omega)
  go_upto_region 3 with (first | (go_at_call 31; (with_reducible refine (mx _).mono ?_); rintro e w9 ⟨rfl, rfl⟩) | (go_at_call 28; (with_reducible refine hd.mono ?_); rintro e w3 ⟨s, rfl, sa, sb, S3, hg3⟩; have H3 := H.grown hg3 S3; have f1 : (_ : Option Value) = some _ := H3.F.cell 1 (by simp); have ffz := fun j => H3.F.free j))
  have H := DB.put (vs' := [.int .i64 k, .int .i64 s, .int .i64 0]) H3 1 (.int .i64 s) rfl
  generalize (w3.setCell ⟨X, 1, none⟩ (.int .i64 s)) = W at H ⊢
  clear f1 ffz H3 hd hg3 S3
  have f0 : (_ : Option Value) = some (.int .i64 k) := H.F.cell 0 (by simp)
  have f1 : (_ : Option Value) = some (.int .i64 s) := H.F.cell 1 (by simp)
  have f2 : (_ : Option Value) = some (.int .i64 0) := H.F.cell 2 (by simp)
  have ffz := fun j => H.F.free j
  by_cases k1 : k = 1
  · subst k1
    have H1 := DB.put (vs' := [.int .i64 1, .int .i64 sec, .int .i64 0]) H 1 (.int .i64 sec) rfl
    have hd := pick_any mm g n cc (N + 2 + 2) B0 A L (W.setCell ⟨X, 1, none⟩ (.int .i64 sec)) H1.S hn (H1.rd hr hBg hB) hBg (Nat.le_trans hB H1.G.size) (by omega) hn2 (by first | decide | omega)
    go_wp2_with (first | (go_at_call 31; (with_reducible refine (mx _).mono ?_); rintro e w9 ⟨rfl, rfl⟩) | (go_at_call 28; (with_reducible refine hd.mono ?_); rintro e w3 ⟨v, rfl, sa, sb, S3, hg3⟩; have H3 := H1.grown hg3 S3; have q0 : (_ : Option Value) = some _ := H3.F.cell 0 (by simp); have q1 : (_ : Option Value) = some _ := H3.F.cell 1 (by simp); have q2 : (_ : Option Value) = some _ := H3.F.cell 2 (by simp); have qfz := fun j => H3.F.free j; have H4 := DB.put (vs' := [.int .i64 1, .int .i64 sec, .int .i64 v]) H3 2 (.int .i64 v) rfl; have r0 : (_ : Option Value) = some _ := H4.F.cell 0 (by simp); have r1 : (_ : Option Value) = some _ := H4.F.cell 1 (by simp); have r2 : (_ : Option Value) = some _ := H4.F.cell 2 (by simp); have z0 : (_ : Option Value) = some (.int .i64 0) := H4.Z.cell 0 (by simp); have z1 : (_ : Option Value) = some (.int .i64 0) := H4.Z.cell 1 (by simp); have z2 : (_ : Option Value) = some (.int .i64 0) := H4.Z.cell 2 (by simp); have hfz := fun j => H4.Z.free j))
    refine bodyPost_ret (v := .agg #[.int .i64 1, .int .i64 sec, .int .i64 v]) (by simp [results, Tryz.results14, go_sem, World.cell?_setCell_other, z0, z1, z2]) rfl ⟨1, sec, v, rfl, (((H4.endS (Nat.le_refl _) 0 _).endS (Nat.le_refl _) 1 _).endS (Nat.le_refl _) 2 _).S.more (by omega), (((H4.endS (Nat.le_refl _) 0 _).endS (Nat.le_refl _) 1 _).endS (Nat.le_refl _) 2 _).G⟩
  · have e1 : (k == 1) = false := by simp [k1]
    by_cases k7 : k = 7
    · subst k7
      have hd := pick_any 20 g n cc (N + 2 + 2) B0 A L W H.S hn (H.rd hr hBg hB) hBg (Nat.le_trans hB H.G.size) (by omega) hn2 (by first | decide | omega)
      go_wp2_with (go_at_call 28; (with_reducible refine hd.mono ?_); rintro e w3 ⟨v, rfl, sa, sb, S3, hg3⟩; have H3 := H.grown hg3 S3; have hv1 : IntKind.i64.wrap (1 + v) = 1 + v := IntWalk.i64_in _ (by omega); have q0 : (_ : Option Value) = some _ := H3.F.cell 0 (by simp); have q1 : (_ : Option Value) = some _ := H3.F.cell 1 (by simp); have q2 : (_ : Option Value) = some _ := H3.F.cell 2 (by simp); have qfz := fun j => H3.F.free j; have H4 := DB.put (vs' := [.int .i64 7, .int .i64 s, .int .i64 (1 + v)]) H3 2 (.int .i64 (1 + v)) rfl; have r0 : (_ : Option Value) = some _ := H4.F.cell 0 (by simp); have r1 : (_ : Option Value) = some _ := H4.F.cell 1 (by simp); have r2 : (_ : Option Value) = some _ := H4.F.cell 2 (by simp); have z0 : (_ : Option Value) = some (.int .i64 0) := H4.Z.cell 0 (by simp); have z1 : (_ : Option Value) = some (.int .i64 0) := H4.Z.cell 1 (by simp); have z2 : (_ : Option Value) = some (.int .i64 0) := H4.Z.cell 2 (by simp); have hfz := fun j => H4.Z.free j)
      refine bodyPost_ret (v := .agg #[.int .i64 7, .int .i64 s, .int .i64 (1 + v)]) (by simp [results, Tryz.results14, go_sem, World.cell?_setCell_other, z0, z1, z2]) rfl ⟨7, s, (1 + v), rfl, (((H4.endS (Nat.le_refl _) 0 _).endS (Nat.le_refl _) 1 _).endS (Nat.le_refl _) 2 _).S.more (by omega), (((H4.endS (Nat.le_refl _) 0 _).endS (Nat.le_refl _) 1 _).endS (Nat.le_refl _) 2 _).G⟩
    · have e7 : (k == 7) = false := by simp [k7]
      by_cases k8 : k = 8
      · subst k8
        have H1 := DB.put (vs' := [.int .i64 8, .int .i64 0, .int .i64 0]) H 1 (.int .i64 0) rfl
        have hd := pick_any 6 g n cc (N + 2 + 2) B0 A L (W.setCell ⟨X, 1, none⟩ (.int .i64 0)) H1.S hn (H1.rd hr hBg hB) hBg (Nat.le_trans hB H1.G.size) (by omega) hn2 (by first | decide | omega)
        go_wp2_with (go_at_call 28; (with_reducible refine hd.mono ?_); rintro e w3 ⟨v, rfl, sa, sb, S3, hg3⟩; have H3 := H1.grown hg3 S3; have hv1 : IntKind.i64.wrap (1 + v) = 1 + v := IntWalk.i64_in _ (by omega); have q0 : (_ : Option Value) = some _ := H3.F.cell 0 (by simp); have q1 : (_ : Option Value) = some _ := H3.F.cell 1 (by simp); have q2 : (_ : Option Value) = some _ := H3.F.cell 2 (by simp); have qfz := fun j => H3.F.free j; have H4 := DB.put (vs' := [.int .i64 8, .int .i64 0, .int .i64 (1 + v)]) H3 2 (.int .i64 (1 + v)) rfl; have r0 : (_ : Option Value) = some _ := H4.F.cell 0 (by simp); have r1 : (_ : Option Value) = some _ := H4.F.cell 1 (by simp); have r2 : (_ : Option Value) = some _ := H4.F.cell 2 (by simp); have z0 : (_ : Option Value) = some (.int .i64 0) := H4.Z.cell 0 (by simp); have z1 : (_ : Option Value) = some (.int .i64 0) := H4.Z.cell 1 (by simp); have z2 : (_ : Option Value) = some (.int .i64 0) := H4.Z.cell 2 (by simp); have hfz := fun j => H4.Z.free j)
        refine bodyPost_ret (v := .agg #[.int .i64 8, .int .i64 0, .int .i64 (1 + v)]) (by simp [results, Tryz.results14, go_sem, World.cell?_setCell_other, z0, z1, z2]) rfl ⟨8, 0, (1 + v), rfl, (((H4.endS (Nat.le_refl _) 0 _).endS (Nat.le_refl _) 1 _).endS (Nat.le_refl _) 2 _).S.more (by omega), (((H4.endS (Nat.le_refl _) 0 _).endS (Nat.le_refl _) 1 _).endS (Nat.le_refl _) 2 _).G⟩
      · have e8 : (k == 8) = false := by simp [k8]
        have hfz := fun j => H.Z.free j
        have z0 : (_ : Option Value) = some (.int .i64 0) := H.Z.cell 0 (by simp)
        have z1 : (_ : Option Value) = some (.int .i64 0) := H.Z.cell 1 (by simp)
        have z2 : (_ : Option Value) = some (.int .i64 0) := H.Z.cell 2 (by simp)
        go_wp2_with fail
        refine bodyPost_ret (v := .agg #[.int .i64 k, .int .i64 s, .int .i64 0]) (by simp [results, Tryz.results14, go_sem, World.cell?_setCell_other, z0, z1, z2]) rfl ⟨k, s, 0, rfl, (((H.endS (Nat.le_refl _) 0 _).endS (Nat.le_refl _) 1 _).endS (Nat.le_refl _) 2 _).S.more (by omega), (((H.endS (Nat.le_refl _) 0 _).endS (Nat.le_refl _) 1 _).endS (Nat.le_refl _) 2 _).G⟩

theorem oneSSq (x : DSectorSpec) : ∀ u ∈ fSectorSpec x, u.oneCell' = true := by
  intro u hu
  simp only [fSectorSpec, List.mem_cons, List.not_mem_nil, or_false] at hu
  rcases hu with rfl | rfl | rfl | rfl | rfl | rfl | rfl | rfl <;> rfl
set_option maxRecDepth 100000 in
set_option maxHeartbeats 8000000 in
theorem drawTr_any (g n cc N B0 : Nat) (A : Option Addr) (L : List UInt8) (w : World) (S : SR w g A n cc N) (hn : L.length = n) (hr : Rd w B0 1 A n (flat fU L)) (hBg : B0 ≤ g) (hB : B0 ≤ w.heap.size) (hN : N ≤ 400000000) (hn2 : n ≤ maxLen) :
    Calls Tryz.prog 26 #[.pointer (some ⟨g, 0, none⟩), .int .i64 3] w fun e w' => ∃ (f gp : Int) (xs : List DSectorSpec) (v : Value), e = .returned (.agg #[.int .i64 f, .int .i64 gp, v]) ∧ w'.ownsRow w.heap.size 41 8 v xs.length (flat fSectorSpec xs) ∧ xs.length ≤ 3 ∧ SR w' g A n cc (N + 1000) ∧ w.grownBy w' (some g) := by
  have hgl := S.lt
  have Z1 := BX.made w 26 [.int .i64 0, .int .i64 0, .slice none 0 0]
  have S1 := S.al (.cells #[.int .i64 0, .int .i64 0, .slice none 0 0] 26)
  have G1 : w.grownBy (w.alloc (.cells #[.int .i64 0, .int .i64 0, .slice none 0 0] 26)) (some g) := World.grownBy_alloc w _ _
  obtain ⟨w1, hw1⟩ : ∃ w1, w.alloc (.cells #[.int .i64 0, .int .i64 0, .slice none 0 0] 26) = w1 := ⟨_, rfl⟩
  rw [hw1] at Z1 S1 G1
  have HW := Lib.hid hw1
  have pk := pick_any 3 g n cc N B0 A L w1 S1 hn (grown_rd hr G1 hBg hB) hBg (Nat.le_trans hB G1.size) (by omega) hn2 (by decide)
  clear hw1
  go_enter Tryz.func26, Tryz.ntmps26
  go_upto_region 1 with fail
  rw [HW.out]
  go_upto_region 2 with (go_at_call 28; (with_reducible refine pk.mono ?_); rintro e w2 ⟨k, rfl, ka, kb, S2, hg2⟩; have hk1 : IntKind.i64.wrap (1 + k) = 1 + k := IntWalk.i64_in _ (by omega))
  obtain ⟨X, hX⟩ : ∃ X, w2.heap.size = X := ⟨_, rfl⟩
  obtain ⟨ff, hff⟩ : ∃ ff, 1 + k = ff := ⟨_, rfl⟩
  rw [hff]
  have H : DB w (w2.alloc (.cells #[.int .i64 ff, .int .i64 0, .slice none 0 0] 26)) 26 [.int .i64 0, .int .i64 0, .slice none 0 0] w2.heap.size g [.int .i64 ff, .int .i64 0, .slice none 0 0] A n cc (N + 2) := by
    have hl1 := Z1.lt
    have hl2 := hg2.size
    have hne : w.heap.size ≠ g := by omega
    exact ⟨(BX.past Z1 hg2 hne).al _, BX.made w2 _ _, S2.al _, gr_trans (gr_trans G1 hg2) (World.grownBy_alloc w2 _ _), hgl, by omega⟩
  rw [hX] at H
  rw [hX]
  clear hX pk HW Z1 S1 G1 hg2 S2 hk1 hff
  generalize (w2.alloc (.cells #[.int .i64 ff, .int .i64 0, .slice none 0 0] 26)) = W at H ⊢
  have hd := pick_any 6 g n cc (N + 2) B0 A L W H.S hn (H.rd hr hBg hB) hBg (Nat.le_trans hB H.G.size) (by omega) hn2 (by first | decide | omega)
  go_upto_region 3 with (go_at_call 28; (with_reducible refine hd.mono ?_); rintro e w3 ⟨k2, rfl, ka2, kb2, S3, hg3⟩; have hk1 : IntKind.i64.wrap (1 + k2) = 1 + k2 := IntWalk.i64_in _ (by omega); have H3 := H.grown hg3 S3; have f1 : (_ : Option Value) = some _ := H3.F.cell 1 (by simp); have ffz := fun j => H3.F.free j)
  obtain ⟨gp, hgp⟩ : ∃ gp, 1 + k2 = gp := ⟨_, rfl⟩
  rw [hgp]
  have H := DB.put (vs' := [.int .i64 ff, .int .i64 gp, .slice none 0 0]) H3 1 (.int .i64 gp) rfl
  generalize (w3.setCell ⟨X, 1, none⟩ (.int .i64 gp)) = W at H ⊢
  clear f1 ffz H3 hd hg3 S3 hk1 hgp
  have hd := pick_any 4 g n cc (N + 2 + 2) B0 A L W H.S hn (H.rd hr hBg hB) hBg (Nat.le_trans hB H.G.size) (by omega) hn2 (by first | decide | omega)
  go_wp2_with (go_at_call 28; (with_reducible refine hd.mono ?_); rintro e w3 ⟨k3, rfl, ka3, kb3, S3, hg3⟩; have H3 := H.grown hg3 S3)
  obtain ⟨m0, rfl⟩ : ∃ m0 : Nat, k3 = (m0 : Int) := ⟨k3.toNat, by omega⟩
  have hm0 : m0 ≤ 3 := by omega
  have hXl := H3.F.lt
  clear hd H hg3 S3 kb3 ka3
  go_loopw [6] (fun i wr => ∃ (m : Nat) (xs : List DSectorSpec) (Bq : Option Addr) (q : Nat), i = .int .i64 (m : Int) ∧ xs.length + m ≤ 3 ∧ World.ownsRow wr (X + 1) 41 8 (.slice Bq xs.length q) xs.length (flat fSectorSpec xs) ∧ DB w wr 26 [.int .i64 0, .int .i64 0, .slice none 0 0] X g [.int .i64 ff, .int .i64 gp, .slice Bq xs.length q] A n cc (N + 10 + 300 * (3 - m))) (fun i _ => (intOf i).toNat)
  case atStart => exact ⟨m0, [], none, 0, rfl, by simpa using hm0, World.ownsRow_nil _ _ _ _, H3.more (by omega)⟩
  case round =>
    obtain ⟨m, xs, Bq, q, rfl, hm, O, H⟩ := hrel
    clear H3
    by_cases hlt : 0 < m
    · have hlti : decide ((0 : Int) < (m : Int)) = true := decide_eq_true (by omega)
      have hkw : IntKind.i64.wrap ((m : Int) - 1) = ((m - 1 : Nat) : Int) := by rw [IntWalk.i64_in _ (by omega)]; omega
      have dsx := drawSec_any g n cc (N + 10 + 300 * (3 - m)) B0 A L wr H.S hn (H.rd hr hBg hB) hBg (Nat.le_trans hB H.G.size) (by omega) hn2
      unfold vSectorSpec at dsx
      have hby : 56 ≤ 1000 := by decide
      have hlb : xs.length ≤ 100000000 := by omega
      have hgX : g < X + 1 := by have h1 := H.hg; have h2 := H.hX; omega
      go_upto_region 7 with (go_at_call 46; (with_reducible refine dsx.mono ?_); rintro e w5 ⟨y, rfl, S5, hg5⟩; have H5 := H.grown hg5 S5; have O5 := own_past O hg5 hgX)
      have D5 := BX.made w5 41 [.int .i64 y.f0, .int .i64 y.f1, .int .i64 y.f2, .int .i64 y.f3, .string y.f4, .bool y.f5, .bool y.f6, .bool y.f7]
      have H5 := H5.al (.cells #[.int .i64 y.f0, .int .i64 y.f1, .int .i64 y.f2, .int .i64 y.f3, .string y.f4, .bool y.f5, .bool y.f6, .bool y.f7] 41)
      have O5 := World.ownsRow.alloc O5 (.cells #[.int .i64 y.f0, .int .i64 y.f1, .int .i64 y.f2, .int .i64 y.f3, .string y.f4, .bool y.f5, .bool y.f6, .bool y.f7] 41)
      have hbs5 : X + 1 ≤ (w5.alloc (.cells #[.int .i64 y.f0, .int .i64 y.f1, .int .i64 y.f2, .int .i64 y.f3, .string y.f4, .bool y.f5, .bool y.f6, .bool y.f7] 41)).heap.size := H5.F.lt
      have d0 : (_ : Option Value) = some (.int .i64 y.f0) := D5.cell 0 (by simp)
      have d1 : (_ : Option Value) = some (.int .i64 y.f1) := D5.cell 1 (by simp)
      have d2 : (_ : Option Value) = some (.int .i64 y.f2) := D5.cell 2 (by simp)
      have d3 : (_ : Option Value) = some (.int .i64 y.f3) := D5.cell 3 (by simp)
      have d4 : (_ : Option Value) = some (.string y.f4) := D5.cell 4 (by simp)
      have d5 : (_ : Option Value) = some (.bool y.f5) := D5.cell 5 (by simp)
      have d6 : (_ : Option Value) = some (.bool y.f6) := D5.cell 6 (by simp)
      have d7 : (_ : Option Value) = some (.bool y.f7) := D5.cell 7 (by simp)
      have f2 : (_ : Option Value) = some (.slice Bq xs.length q) := H5.F.cell 2 (by simp)
      generalize (w5.alloc (.cells #[.int .i64 y.f0, .int .i64 y.f1, .int .i64 y.f2, .int .i64 y.f3, .string y.f4, .bool y.f5, .bool y.f6, .bool y.f7] 41)) = w6 at H5 O5 hbs5 f2 D5 d0 d1 d2 d3 d4 d5 d6 d7 ⊢
      clear dsx hg5 S5 O H
      go_wp2_with (at_builtin; go_must (refine wpList_appF (f := fSectorSpec) (by rfl) (.tmp 27) (.tmp 29) 24 (by rfl) eltSectorSpec hby (.slice Bq xs.length q) xs (by rfl) O5 _ _ y 1 (by rfl) (by rfl) (by rfl) (oneSSq _) hlb hbs5 ?_); intro v' w' hown' hg' hat' hbl'; have hl1 : (xs ++ [y]).length = xs.length + 1 := (by rw [List.length_append]; rfl); rw [hl1] at hown'; obtain ⟨B9, c9, rfl⟩ := own_form hown'; have hnX : (Value.slice Bq xs.length q).ownBlock ≠ some X := (OO.ne_old O5 (Nat.lt_succ_self _)); have H6 := DB.below H5 hbl' (Nat.lt_succ_self _); have p2 : (_ : Option Value) = some _ := H6.F.cell 2 (by simp); have pfz := fun j => H6.F.free j)
      have H7 := DB.put (vs' := [.int .i64 ff, .int .i64 gp, .slice B9 (xs.length + 1) c9]) H6 2 (.slice B9 (xs.length + 1) c9) rfl
      have O7 := OO.put hown' (a := ⟨X, 2, none⟩) (Nat.lt_succ_self _) (.slice B9 (xs.length + 1) c9)
      go_roundw
      case rel => exact ⟨m - 1, xs ++ [y], B9, c9, rfl, by rw [hl1]; omega, by rw [hl1]; exact O7, (by rw [hl1]; exact H7.more (by omega))⟩
      case measure => simp [intOf]; omega
    · have hlti : decide ((0 : Int) < (m : Int)) = false := decide_eq_false (by omega)
      have f0 : (_ : Option Value) = some (.int .i64 ff) := H.F.cell 0 (by simp)
      have f1 : (_ : Option Value) = some (.int .i64 gp) := H.F.cell 1 (by simp)
      have f2 : (_ : Option Value) = some (.slice Bq xs.length q) := H.F.cell 2 (by simp)
      have z0 : (_ : Option Value) = some (.int .i64 0) := H.Z.cell 0 (by simp)
      have z1 : (_ : Option Value) = some (.int .i64 0) := H.Z.cell 1 (by simp)
      have z2 : (_ : Option Value) = some (.slice none 0 0) := H.Z.cell 2 (by simp)
      have hfz := fun j => H.Z.free j
      have hwX := H.hX
      go_wp2_with fail
      refine bodyPost_ret (v := .agg #[.int .i64 ff, .int .i64 gp, .slice Bq xs.length q]) (by simp [results, Tryz.results26, go_sem, World.cell?_setCell_other, z0, z1, z2]) rfl ⟨ff, gp, xs, _, rfl, ?_, by omega, (((H.endS (Nat.le_refl _) 0 _).endS (Nat.le_refl _) 1 _).endS (Nat.le_refl _) 2 _).S.more (by omega), (((H.endS (Nat.le_refl _) 0 _).endS (Nat.le_refl _) 1 _).endS (Nat.le_refl _) 2 _).G⟩
      refine own_base (base := X + 1) ?_ (by omega)
      with_reducible repeat (first | exact O | refine ownsRow_setCell_below ?_ (by simp; try omega) _)
end Go.Proofs.YthelfgagddldfaaGreatDoor
namespace Go.Proofs.YthelfgagddldfaaGreatDoor
open Go.RowKit Go.Deep
set_option linter.unusedVariables false
set_option linter.unusedSimpArgs false

/-- A drawn track in its box X, with its row. -/
structure TX (w0 W : World) (X g : Nat) (f gp : Int) (B : Option Addr) (q m : Nat) (xs : List DSectorSpec) (A : Option Addr) (n cc N : Nat) : Prop where
  D : DB w0 W 26 [.int .i64 0, .int .i64 0, .slice none 0 0] X g [.int .i64 f, .int .i64 gp, .slice B m q] A n cc N
  O : W.ownsRow (w0.heap.size + 1) 41 8 (.slice B m q) m (flat fSectorSpec xs)
  ne : (Value.slice B m q).ownBlock ≠ some X
  len : Hid (xs.length = m)
section
variable {w0 W W' : World} {X g n cc N M q m : Nat} {f gp : Int} {xs : List DSectorSpec} {A B : Option Addr}
theorem TX.grown (H : TX w0 W X g f gp B q m xs A n cc N) (h : W.grownBy W' (some g)) (S' : SR W' g A n cc M) : TX w0 W' X g f gp B q m xs A n cc M :=
  ⟨H.D.grown h S', own_past H.O h (Nat.lt_succ_of_lt H.D.hg), H.ne, H.len⟩
theorem TX.al (H : TX w0 W X g f gp B q m xs A n cc N) (o : Obj) : TX w0 (W.alloc o) X g f gp B q m xs A n cc N := ⟨H.D.al o, World.ownsRow.alloc H.O o, H.ne, H.len⟩
theorem TX.dr (H : TX w0 W X g f gp B q m xs A n cc N) : TX w0 W.drew X g f gp B q m xs A n cc N := ⟨H.D.dr, H.O, H.ne, H.len⟩
theorem TX.next (H : TX w0 W X g f gp B q m xs A n cc N) (h : Below W.heap.size W W') : TX w0 W' X g f gp B q m xs A n cc N := ⟨H.D.below h H.D.F.lt, own_later H.O h (Nat.le_refl _), H.ne, H.len⟩
theorem TX.more (H : TX w0 W X g f gp B q m xs A n cc N) (h : N ≤ M) : TX w0 W X g f gp B q m xs A n cc M := ⟨H.D.more h, H.O, H.ne, H.len⟩
theorem TX.set {b i j : Nat} {u : Value} {y : DSectorSpec} (H : TX w0 W X g f gp (some ⟨b, 0, none⟩) q m xs A n cc N) (hi : i < xs.length) (hj : j < 8) (hy : (fSectorSpec xs[i]).set j u = fSectorSpec y) :
    TX w0 (W.setCell ⟨b, i * 8 + j, none⟩ u) X g f gp (some ⟨b, 0, none⟩) q m (xs.set i y) A n cc N := by
  have h := (World.ownsRow.stored H.O (i * 8 + j) u).1
  rw [flat_setq fSectorSpec 8 fSectorSpec_len xs i j u y hi hj hy] at h
  have hb := (World.ownsRow.lt H.O b rfl).1
  have hne : X ≠ b := fun e => H.ne (by rw [e]; rfl)
  exact ⟨H.D.far (a := ⟨b, i * 8 + j, none⟩) (by show w0.heap.size < b; omega) hne u, h, H.ne, Lib.hid (by rw [List.length_set]; exact H.len.out)⟩
theorem TX.get {b i j : Nat} {u : Value} (H : TX w0 W X g f gp (some ⟨b, 0, none⟩) q m xs A n cc N) (hi : i < xs.length) (hj : j < 8) (hu : (fSectorSpec xs[i])[j]? = some u) : W.cell? ⟨b, i * 8 + j, none⟩ = some u := by
  have hl := H.len.out
  subst hl
  exact own_get H.O fSectorSpec_len hi hj hu
theorem TX.rd {B0 : Nat} {ys : List Value} (H : TX w0 W X g f gp B q m xs A n cc N) (hr : Rd w0 B0 1 A n ys) (hBg : B0 ≤ g) (hB : B0 ≤ w0.heap.size) : Rd W B0 1 A n ys := H.D.rd hr hBg hB
end
theorem protect_weak (f gp k s x : Int) (B : Option Addr) (q m : Nat) (xs : List DSectorSpec) (w : World) {base : Nat} (hr : w.ownsRow base 41 8 (.slice B m q) m (flat fSectorSpec xs)) (hm : xs.length = m) (hm2 : m ≤ 1000) :
    Calls Tryz.prog 29 #[.agg #[.int .i64 f, .int .i64 gp, .slice B m q], .agg #[.int .i64 k, .int .i64 s, .int .i64 x]] w fun e w' => ∃ (c f' gp' : Int) (B' : Option Addr) (q' m' : Nat) (xs' : List DSectorSpec),
      e = .returned (.tuple #[.agg #[.int .i64 f', .int .i64 gp', .slice B' m' q'], .int .i64 c]) ∧ w'.ownsRow w.heap.size 41 8 (.slice B' m' q') m' (flat fSectorSpec xs') ∧ Hid (xs'.length = m') ∧ m' ≤ m + 1 ∧ Below w.heap.size w w' := by
  subst hm
  refine (spec_ProtectTrack_any f gp k s x B q xs w (Rd.of_own hr) (by omega)).mono ?_
  rintro e w' ⟨v, rfl, O, hx⟩
  obtain ⟨B', q', rfl⟩ := own_form O
  exact ⟨_, _, _, B', q', _, _, rfl, O, Lib.hid rfl, prL_len _ _ _ _ _, hx⟩

set_option maxRecDepth 100000 in
set_option maxHeartbeats 8000000 in
theorem drawTrack_any (g n cc N B0 : Nat) (A : Option Addr) (L : List UInt8) (w : World) (S : SR w g A n cc N) (hn : L.length = n) (hr : Rd w B0 1 A n (flat fU L)) (hBg : B0 ≤ g) (hB : B0 ≤ w.heap.size) (hN : N ≤ 300000000) (hn2 : n ≤ maxLen) :
    Calls Tryz.prog 12 #[.pointer (some ⟨g, 0, none⟩)] w fun e w' => ∃ (f gp : Int) (B : Option Addr) (q m : Nat) (xs : List DSectorSpec), e = .returned (.agg #[.int .i64 f, .int .i64 gp, .slice B m q]) ∧ w'.ownsRow w.heap.size 41 8 (.slice B m q) m (flat fSectorSpec xs) ∧ Hid (xs.length = m) ∧ m ≤ 8 ∧ SR w' g A n cc (N + 2000) ∧ w.grownBy w' (some g) := by
  have hgl := S.lt
  have Z1 := BX.made w 26 [.int .i64 0, .int .i64 0, .slice none 0 0]
  have S1 := S.al (.cells #[.int .i64 0, .int .i64 0, .slice none 0 0] 26)
  have G1 : w.grownBy (w.alloc (.cells #[.int .i64 0, .int .i64 0, .slice none 0 0] 26)) (some g) := World.grownBy_alloc w _ _
  obtain ⟨w1, hw1⟩ : ∃ w1, w.alloc (.cells #[.int .i64 0, .int .i64 0, .slice none 0 0] 26) = w1 := ⟨_, rfl⟩
  have hs1 : w1.heap.size = w.heap.size + 1 := by rw [← hw1, World.size_alloc]
  rw [hw1] at Z1 S1 G1
  have HW := Lib.hid hw1
  have dt := drawTr_any g n cc N B0 A L w1 S1 hn (grown_rd hr G1 hBg hB) hBg (Nat.le_trans hB G1.size) (by omega) hn2
  clear hw1
  go_enter Tryz.func12, Tryz.ntmps12
  go_upto_region 1 with fail
  rw [HW.out]
  go_upto_region 2 with (go_at_call 26; (with_reducible refine dt.mono ?_); rintro e w2 ⟨f, gp, xs, v, rfl, O2, hx3, S2, hg2⟩; obtain ⟨B, q, rfl⟩ := own_form O2)
  obtain ⟨X, hX⟩ : ∃ X, w2.heap.size = X := ⟨_, rfl⟩
  obtain ⟨m, hm⟩ : ∃ m, xs.length = m := ⟨_, rfl⟩
  have T : TX w (w2.alloc (.cells #[.int .i64 f, .int .i64 gp, .slice B xs.length q] 26)) w2.heap.size g f gp B q xs.length xs A n cc (N + 1000) := by
    have hl1 := Z1.lt
    have hl2 := hg2.size
    have hne : w.heap.size ≠ g := by omega
    refine ⟨⟨(BX.past Z1 hg2 hne).al _, BX.made w2 _ _, S2.al _, gr_trans (gr_trans G1 hg2) (World.grownBy_alloc w2 _ _), hgl, by omega⟩, World.ownsRow.alloc (by rw [hs1] at O2; exact O2) _, fun e => by have := (World.ownsRow.lt O2 _ e).2; omega, Lib.hid rfl⟩
  rw [hX, hm] at T
  rw [hX, hm]
  rw [hm] at hx3
  clear hX hm dt HW Z1 S1 G1 hg2 S2 O2 hs1
  generalize (w2.alloc (.cells #[.int .i64 f, .int .i64 gp, .slice B m q] 26)) = W at T ⊢
  go_wp2_with fail
  go_loopw [4] (fun i wr => ∃ (k : Nat) (xs : List DSectorSpec), i = .int .i64 (k : Int) ∧ k ≤ m ∧ TX w wr X g f gp B q m xs A n cc (N + 1000 + 2 * k)) (fun i _ => m - (intOf i).toNat)
  case atStart => exact ⟨0, xs, rfl, Nat.zero_le _, T.more (by omega)⟩
  case round =>
    obtain ⟨k, xs, rfl, hk, T⟩ := hrel
    have f2 : (_ : Option Value) = some (.slice B m q) := T.D.F.cell 2 (by simp)
    by_cases hlt : k < m
    · have hlti : decide ((k : Int) < (m : Int)) = true := decide_eq_true (by omega)
      have on := one_any 2 g n cc (N + 1000 + 2 * k) B0 A L wr T.D.S hn (T.rd hr hBg hB) hBg (Nat.le_trans hB T.D.G.size) (by omega) hn2 (by decide)
      obtain ⟨b, cap, hbe, hb0, hb1⟩ := World.ownsRow.form T.O (by omega)
      cases hbe
      have hkl : k < xs.length := by rw [T.len.out]; exact hlt
      obtain ⟨y, hy⟩ : ∃ y, xs[k] = y := ⟨_, rfl⟩
      go_wp2_with (go_at_call 27; (with_reducible refine on.mono ?_); rintro e w5 ⟨z, rfl, S5, hg5⟩; have T5 := T.grown hg5 S5; have e2 : (_ : Option Value) = some (.slice (some ⟨b, 0, none⟩) m q) := T5.D.F.cell 2 (by simp); have c0 : w5.cell? ⟨b, k * 8, none⟩ = some (.int .i64 y.f0) := T5.get (i := k) (j := 0) hkl (by decide) (by rw [hy]; rfl); have hf0 := World.ownsRow.frozenAt T5.O (k * 8); have T6 := TX.set (y := { y with f0 := 1 }) (j := 0) (u := .int .i64 1) T5 hkl (by decide) (by rw [hy]; rfl); have T6 : TX w (w5.setCell ⟨b, k * 8, none⟩ (.int .i64 1)) X g f gp (some ⟨b, 0, none⟩) q m (xs.set k { y with f0 := 1 }) A n cc (N + 1000 + 2 * k + 2) := T6; have e3 : (_ : Option Value) = some (.slice (some ⟨b, 0, none⟩) m q) := T6.D.F.cell 2 (by simp); have c1 : (w5.setCell ⟨b, k * 8, none⟩ (.int .i64 1)).cell? ⟨b, k * 8 + 1, none⟩ = some (.int .i64 y.f1) := T6.get (i := k) (j := 1) (by rw [List.length_set]; exact hkl) (by decide) (by rw [List.getElem_set_self]; rfl); have hf1 := World.ownsRow.frozenAt T6.O (k * 8 + 1); have T7 := TX.set (y := { y with f0 := 1, f1 := 0 }) (i := k) (j := 1) (u := .int .i64 0) T6 (by rw [List.length_set]; exact hkl) (by decide) (by rw [List.getElem_set_self]; rfl))
      all_goals
        go_roundw
        case rel => first | exact ⟨k + 1, _, by go_num, hlt, T7.more (by omega)⟩ | exact ⟨k + 1, _, by go_num, hlt, T5.more (by omega)⟩
        case measure => simp [intOf]; omega
    · have hlti : decide ((k : Int) < (m : Int)) = false := decide_eq_false (by omega)
      have hkm : k ≤ 3 := by omega
      have pk := pick_any 3 g n cc (N + 1000 + 2 * k) B0 A L wr T.D.S hn (T.rd hr hBg hB) hBg (Nat.le_trans hB T.D.G.size) (by omega) hn2 (by decide)
      go_wp2_with (go_at_call 28; (with_reducible refine pk.mono ?_); rintro e w5 ⟨r, rfl, ra, rb, S5, hg5⟩; have T5 := T.grown hg5 S5)
      obtain ⟨r0, rfl⟩ : ∃ r0 : Nat, r = (r0 : Int) := ⟨r.toNat, by omega⟩
      have hr2 : r0 ≤ 2 := by omega
      clear pk T hg5 S5 f2 ra rb
      go_loopw [5] (fun i wr => ∃ (r f gp : Int) (j : Nat) (B : Option Addr) (q m : Nat) (xs : List DSectorSpec), i = .int .i64 r ∧ r = (j : Int) ∧ m + j ≤ 5 ∧ j ≤ 2 ∧ TX w wr X g f gp B q m xs A n cc (N + 1010 + 100 * (3 - j))) (fun i _ => (intOf i).toNat)
      case atStart => exact ⟨(r0 : Int), f, gp, r0, B, q, m, xs, rfl, rfl, by omega, hr2, T5.more (by omega)⟩
      case round =>
        obtain ⟨_, f, gp, j, B, q, m, xs, rfl, rfl, hmj, hj2, T⟩ := hrel
        clear T5
        by_cases hlt2 : 0 < j
        · have hlti2 : decide ((0 : Int) < (j : Int)) = true := decide_eq_true (by omega)
          have hkw : IntKind.i64.wrap ((j : Int) - 1) = ((j - 1 : Nat) : Int) := by rw [IntWalk.i64_in _ (by omega)]; omega
          go_upto_region 11 with fail
          go_cut [6, 7] (fun pv cv wx => ∃ (pb : Nat) (c f' gp' : Int) (B' : Option Addr) (q' m' : Nat) (xs' : List DSectorSpec), pv = .pointer (some ⟨pb, 0, none⟩) ∧ cv = .int .i64 c ∧ BX wx pb 26 [.int .i64 f', .int .i64 gp', .slice B' m' q'] ∧ TX w wx X g f gp B q m xs A n cc (N + 1010 + 100 * (3 - j) + 20) ∧ wx.ownsRow (w.heap.size + 1) 41 8 (.slice B' m' q') m' (flat fSectorSpec xs') ∧ (Value.slice B' m' q').ownBlock ≠ some X ∧ Hid (xs'.length = m') ∧ m' ≤ m + 1)
          case first =>
            refine wp_region_held_drew (S := (fun W => W.cell? ⟨X, 0, none⟩ = some (.int .i64 f) ∧ W.cell? ⟨X, 1, none⟩ = some (.int .i64 gp) ∧ W.cell? ⟨X, 2, none⟩ = some (.slice B m q))) (by kernel_rfl) ?hS1 (fun hHeld => ?rest2)
            case hS1 => (exact ⟨T.D.F.cell 0 (by simp), T.D.F.cell 1 (by simp), T.D.F.cell 2 (by simp)⟩)
            refine wpAnyH_take (i := 0) (oi := _) (v := ?v3) rfl (by kernel_rfl) (by kernel_rfl) (by kernel_rfl) (fun _ _ _ h => h) (Or.inl ⟨by rfl, ?hy4⟩) hHeld ?rest5
            case hy4 => (intro w hSw; (try dsimp only at hSw); go_simp; (try with_reducible rfl))
            try simp only [Act.put, List.setIfInBounds_toArray, List.set_cons_zero, List.set_cons_succ]
            refine wpAnyH_take (i := 1) (oi := _) (v := ?v6) rfl (by kernel_rfl) (by kernel_rfl) (by kernel_rfl) (fun _ _ _ h => h) (Or.inl ⟨by rfl, ?hy7⟩) hHeld ?rest8
            case hy7 => (intro w hSw; (try dsimp only at hSw); go_simp; (try with_reducible rfl))
            try simp only [Act.put, List.setIfInBounds_toArray, List.set_cons_zero, List.set_cons_succ]
            refine wpAnyH_take (i := 2) (oi := _) (v := ?v9) rfl (by kernel_rfl) (by kernel_rfl) (by kernel_rfl) (fun _ _ _ h => h) (Or.inl ⟨by rfl, ?hy10⟩) hHeld ?rest11
            case hy10 => (intro w hSw; (try dsimp only at hSw); go_simp; (try with_reducible rfl))
            try simp only [Act.put, List.setIfInBounds_toArray, List.set_cons_zero, List.set_cons_succ]
            refine wpAnyH_take (i := 3) (oi := _) (v := ?v12) rfl (by kernel_rfl) (by kernel_rfl) (by kernel_rfl) (fun _ _ _ h => h) (Or.inl ⟨by rfl, ?hy13⟩) hHeld ?rest14
            case hy13 => (intro w hSw; (try dsimp only at hSw); go_simp; (try with_reducible rfl))
            try simp only [Act.put, List.setIfInBounds_toArray, List.set_cons_zero, List.set_cons_succ]
            refine wpAnyH_take (i := 4) (oi := _) (v := ?v15) rfl (by kernel_rfl) (by kernel_rfl) (by kernel_rfl) (fun _ _ _ h => h) (Or.inl ⟨by rfl, ?hy16⟩) hHeld ?rest17
            case hy16 => (intro w hSw; (try dsimp only at hSw); go_simp; (try with_reducible rfl))
            try simp only [Act.put, List.setIfInBounds_toArray, List.set_cons_zero, List.set_cons_succ]
            refine wpAnyH_ready (rs := [5, 10]) (by kernel_rfl) (by simp) ?_
            refine AllReadyH.cons (o := _) rfl (fun K hK => ?stp93) ?more94
            case stp93 =>
              go_simp
              refine (drawFeat_any _ g n cc _ B0 A L _ T.dr.D.S hn (T.dr.rd hr hBg hB) hBg (Nat.le_trans hB T.dr.D.G.size) (by omega) hn2 (by omega)).mono ?_
              rintro e w5 ⟨kk, ss, vv, rfl, S5, hg5⟩
              have T5 := T.dr.grown hg5 S5
              (try go_wp2_with fail)
              refine hK.out _ _ ?hS95 (fun hHeld2 => ?rest96)
              case hS95 => (exact ⟨T5.D.F.cell 0 (by simp), T5.D.F.cell 1 (by simp), T5.D.F.cell 2 (by simp)⟩)
              clear hK K hHeld
              have hHeld := hHeld2
              clear hHeld2
              try simp only [Act.put, List.setIfInBounds_toArray, List.set_cons_zero, List.set_cons_succ]
              refine wpAnyH_ready (rs := [6, 10]) (by kernel_rfl) (by simp) ?_
              refine AllReadyH.cons (o := _) rfl (fun K hK => ?stp60) ?more61
              case stp60 =>
                go_simp
                refine (protect_weak f gp kk ss vv B q m xs _ T5.O T5.len.out (by omega)).mono ?_
                rintro e w6 ⟨c, f', gp', B', q', m', xs', rfl, O6, HL, hm1, hx6⟩
                have T6 := T5.next hx6
                have hb5 : w.heap.size + 1 ≤ w5.heap.size := Nat.lt_of_lt_of_le T.D.hX (Nat.le_of_lt T5.D.F.lt)
                have hoX : (Value.slice B' m' q').ownBlock ≠ some X := fun e => by have h1 := (World.ownsRow.lt O6 _ e).1; have h2 := T5.D.F.lt; omega
                (try go_wp2_with fail)
                refine hK.out _ _ ?hS62 (fun hHeld2 => ?rest63)
                case hS62 => (exact ⟨T6.D.F.cell 0 (by simp), T6.D.F.cell 1 (by simp), T6.D.F.cell 2 (by simp)⟩)
                clear hK K hHeld
                have hHeld := hHeld2
                clear hHeld2
                try simp only [Act.put, List.setIfInBounds_toArray, List.set_cons_zero, List.set_cons_succ]
                refine wpAnyH_take (i := 7) (oi := _) (v := ?v18) rfl (by kernel_rfl) (by kernel_rfl) (by kernel_rfl) (fun _ _ _ h => h) (Or.inl ⟨by rfl, ?hy19⟩) hHeld ?rest20
                case hy19 => (intro w hSw; (try dsimp only at hSw); go_simp; (try with_reducible rfl))
                try simp only [Act.put, List.setIfInBounds_toArray, List.set_cons_zero, List.set_cons_succ]
                refine wpAnyH_take (i := 8) (oi := _) (v := ?v21) rfl (by kernel_rfl) (by kernel_rfl) (by kernel_rfl) (fun _ _ _ h => h) (Or.inl ⟨by rfl, ?hy22⟩) hHeld ?rest23
                case hy22 => (intro w hSw; (try dsimp only at hSw); go_simp; (try with_reducible rfl))
                try simp only [Act.put, List.setIfInBounds_toArray, List.set_cons_zero, List.set_cons_succ]
                refine wpAnyH_take (i := 9) (oi := _) (v := ?v24) rfl (by kernel_rfl) (by kernel_rfl) (by kernel_rfl) (fun _ _ _ h => h) (Or.inl ⟨by rfl, ?hy25⟩) hHeld ?rest26
                case hy25 => (intro w hSw; (try dsimp only at hSw); go_simp; (try with_reducible rfl))
                try simp only [Act.put, List.setIfInBounds_toArray, List.set_cons_zero, List.set_cons_succ]
                refine wpAnyH_ready (rs := [10]) (by kernel_rfl) (by simp) ?_
                refine AllReadyH.cons (o := _) rfl (fun K hK => ?stp35) ?more36
                case stp35 =>
                  have T6a := T6.al (.cells #[.int .i64 0, .int .i64 0, .slice none 0 0] 26)
                  have FZ := BX.made w6 26 [.int .i64 0, .int .i64 0, .slice none 0 0]
                  have O6a := World.ownsRow.alloc (own_base O6 hb5) (.cells #[.int .i64 0, .int .i64 0, .slice none 0 0] 26)
                  go_simp
                  refine hK.out _ _ ?hS37 (fun hHeld2 => ?rest38)
                  case hS37 => (exact ⟨T6a.D.F.cell 0 (by simp), T6a.D.F.cell 1 (by simp), T6a.D.F.cell 2 (by simp)⟩)
                  clear hK K hHeld
                  have hHeld := hHeld2
                  clear hHeld2
                  try simp only [Act.put, List.setIfInBounds_toArray, List.set_cons_zero, List.set_cons_succ]
                  refine wpAnyH_ready (rs := [11]) (by kernel_rfl) (by simp) ?_
                  refine AllReadyH.cons (o := _) rfl (fun K hK => ?stp31) ?more32
                  case stp31 =>
                    have hwP : w.heap.size < w6.heap.size := Nat.lt_trans T6.D.hX T6.D.F.lt
                    have hXP : X ≠ w6.heap.size := Nat.ne_of_lt T6.D.F.lt
                    have hoP : (Value.slice B' m' q').ownBlock ≠ some w6.heap.size := fun e => by have := (World.ownsRow.lt O6 _ e).2; omega
                    have htP : (Value.slice B m q).ownBlock ≠ some w6.heap.size := fun e => by have := (World.ownsRow.lt T6.O _ e).2; omega
                    have z0 : (_ : Option Value) = some (.int .i64 0) := FZ.cell 0 (by simp)
                    have z1 : (_ : Option Value) = some (.int .i64 0) := FZ.cell 1 (by simp)
                    have z2 : (_ : Option Value) = some (.slice none 0 0) := FZ.cell 2 (by simp)
                    have hfz := fun j => FZ.free j
                    have D9 := (((T6a.D.far (a := ⟨w6.heap.size, 0, none⟩) hwP hXP (.int .i64 f')).far (a := ⟨w6.heap.size, 1, none⟩) hwP hXP (.int .i64 gp')).far (a := ⟨w6.heap.size, 2, none⟩) hwP hXP (.slice B' m' q'))
                    have F9 := (((FZ.put 0 (.int .i64 f')).put 1 (.int .i64 gp')).put 2 (.slice B' m' q'))
                    have O9 := (OO.putne (OO.putne (OO.putne O6a (a := ⟨w6.heap.size, 0, none⟩) hoP (.int .i64 f')) (a := ⟨w6.heap.size, 1, none⟩) hoP (.int .i64 gp')) (a := ⟨w6.heap.size, 2, none⟩) hoP (.slice B' m' q'))
                    have T9o := (OO.putne (OO.putne (OO.putne T6a.O (a := ⟨w6.heap.size, 0, none⟩) htP (.int .i64 f')) (a := ⟨w6.heap.size, 1, none⟩) htP (.int .i64 gp')) (a := ⟨w6.heap.size, 2, none⟩) htP (.slice B' m' q'))
                    go_simp
                    refine hK.out _ _ ?hS33 (fun hHeld2 => ?rest34)
                    case hS33 => (first | exact ⟨D9.F.cell 0 (by simp), D9.F.cell 1 (by simp), D9.F.cell 2 (by simp)⟩ | exact ⟨(T6.al (.cells #[.int .i64 f', .int .i64 gp', .slice B' m' q'] 26)).D.F.cell 0 (by simp), (T6.al (.cells #[.int .i64 f', .int .i64 gp', .slice B' m' q'] 26)).D.F.cell 1 (by simp), (T6.al (.cells #[.int .i64 f', .int .i64 gp', .slice B' m' q'] 26)).D.F.cell 2 (by simp)⟩)
                    clear hK K hHeld
                    have hHeld := hHeld2
                    clear hHeld2
                    try simp only [Act.put, List.setIfInBounds_toArray, List.set_cons_zero, List.set_cons_succ]
                    refine wpAnyH_ready (rs := [12]) (by kernel_rfl) (by simp) ?_
                    refine AllReadyH.cons (o := _) rfl (fun K hK => ?stp27) ?more28
                    case stp27 =>
                      go_simp
                      refine hK.out _ _ ?hS29 (fun hHeld2 => ?rest30)
                      case hS29 => (exact hHeld)
                      clear hK K hHeld
                      have hHeld := hHeld2
                      clear hHeld2
                      try simp only [Act.put, List.setIfInBounds_toArray, List.set_cons_zero, List.set_cons_succ]
                      refine wpAnyH_done (by kernel_rfl) ?_ _
                      go_wp2_with fail
                      go_meet
                      first
                        | exact ⟨w6.heap.size, c, f', gp', B', q', m', xs', rfl, rfl, F9, TX.more ⟨D9, T9o, T6a.ne, T6a.len⟩ (by omega), O9, hoX, HL, hm1⟩
                        | exact ⟨w6.heap.size, c, f', gp', B', q', m', xs', rfl, rfl, BX.made w6 _ _, TX.more (T6.al _) (by omega), World.ownsRow.alloc (own_base O6 hb5) _, hoX, HL, hm1⟩
                    exact AllReadyH.nil
                  exact AllReadyH.nil
                exact AllReadyH.nil
              refine AllReadyH.cons (o := _) rfl (fun K hK => ?stp64) ?more65
              case stp64 =>
                have T5a := T5.al (.cells #[.int .i64 0, .int .i64 0, .slice none 0 0] 26)
                have FZ := BX.made w5 26 [.int .i64 0, .int .i64 0, .slice none 0 0]
                go_simp
                refine hK.out _ _ ?hS66 (fun hHeld2 => ?rest67)
                case hS66 => (exact ⟨T5a.D.F.cell 0 (by simp), T5a.D.F.cell 1 (by simp), T5a.D.F.cell 2 (by simp)⟩)
                clear hK K hHeld
                have hHeld := hHeld2
                clear hHeld2
                try simp only [Act.put, List.setIfInBounds_toArray, List.set_cons_zero, List.set_cons_succ]
                refine wpAnyH_ready (rs := [6]) (by kernel_rfl) (by simp) ?_
                refine AllReadyH.cons (o := _) rfl (fun K hK => ?stp56) ?more57
                case stp56 =>
                  go_simp
                  refine (protect_weak f gp kk ss vv B q m xs _ T5a.O T5a.len.out (by omega)).mono ?_
                  rintro e w6 ⟨c, f', gp', B', q', m', xs', rfl, O6, HL, hm1, hx6⟩
                  have T6 := T5a.next hx6
                  have FZ6 := FZ.below hx6 FZ.lt
                  have hb5 : w.heap.size + 1 ≤ (w5.alloc (.cells #[.int .i64 0, .int .i64 0, .slice none 0 0] 26)).heap.size := Nat.lt_of_lt_of_le T.D.hX (Nat.le_of_lt T5a.D.F.lt)
                  have hoX : (Value.slice B' m' q').ownBlock ≠ some X := fun e => by have h1 := (World.ownsRow.lt O6 _ e).1; have h2 := T5a.D.F.lt; omega
                  have O6b := own_base O6 hb5
                  (try go_wp2_with fail)
                  refine hK.out _ _ ?hS58 (fun hHeld2 => ?rest59)
                  case hS58 => (exact ⟨T6.D.F.cell 0 (by simp), T6.D.F.cell 1 (by simp), T6.D.F.cell 2 (by simp)⟩)
                  clear hK K hHeld
                  have hHeld := hHeld2
                  clear hHeld2
                  try simp only [Act.put, List.setIfInBounds_toArray, List.set_cons_zero, List.set_cons_succ]
                  refine wpAnyH_take (i := 7) (oi := _) (v := ?v39) rfl (by kernel_rfl) (by kernel_rfl) (by kernel_rfl) (fun _ _ _ h => h) (Or.inl ⟨by rfl, ?hy40⟩) hHeld ?rest41
                  case hy40 => (intro w hSw; (try dsimp only at hSw); go_simp; (try with_reducible rfl))
                  try simp only [Act.put, List.setIfInBounds_toArray, List.set_cons_zero, List.set_cons_succ]
                  refine wpAnyH_take (i := 8) (oi := _) (v := ?v42) rfl (by kernel_rfl) (by kernel_rfl) (by kernel_rfl) (fun _ _ _ h => h) (Or.inl ⟨by rfl, ?hy43⟩) hHeld ?rest44
                  case hy43 => (intro w hSw; (try dsimp only at hSw); go_simp; (try with_reducible rfl))
                  try simp only [Act.put, List.setIfInBounds_toArray, List.set_cons_zero, List.set_cons_succ]
                  refine wpAnyH_take (i := 9) (oi := _) (v := ?v45) rfl (by kernel_rfl) (by kernel_rfl) (by kernel_rfl) (fun _ _ _ h => h) (Or.inl ⟨by rfl, ?hy46⟩) hHeld ?rest47
                  case hy46 => (intro w hSw; (try dsimp only at hSw); go_simp; (try with_reducible rfl))
                  try simp only [Act.put, List.setIfInBounds_toArray, List.set_cons_zero, List.set_cons_succ]
                  refine wpAnyH_ready (rs := [11]) (by kernel_rfl) (by simp) ?_
                  refine AllReadyH.cons (o := _) rfl (fun K hK => ?stp52) ?more53
                  case stp52 =>
                    have hwP : w.heap.size < w5.heap.size := Nat.lt_trans T5.D.hX T5.D.F.lt
                    have hXP : X ≠ w5.heap.size := Nat.ne_of_lt T5.D.F.lt
                    have hoP : (Value.slice B' m' q').ownBlock ≠ some w5.heap.size := fun e => by have h1 := (World.ownsRow.lt O6 _ e).1; rw [World.size_alloc] at h1; omega
                    have htP : (Value.slice B m q).ownBlock ≠ some w5.heap.size := fun e => by have := (World.ownsRow.lt T5.O _ e).2; omega
                    have z0 : (_ : Option Value) = some (.int .i64 0) := FZ6.cell 0 (by simp)
                    have z1 : (_ : Option Value) = some (.int .i64 0) := FZ6.cell 1 (by simp)
                    have z2 : (_ : Option Value) = some (.slice none 0 0) := FZ6.cell 2 (by simp)
                    have hfz := fun j => FZ6.free j
                    have D9 := (((T6.D.far (a := ⟨w5.heap.size, 0, none⟩) hwP hXP (.int .i64 f')).far (a := ⟨w5.heap.size, 1, none⟩) hwP hXP (.int .i64 gp')).far (a := ⟨w5.heap.size, 2, none⟩) hwP hXP (.slice B' m' q'))
                    have F9 := (((FZ6.put 0 (.int .i64 f')).put 1 (.int .i64 gp')).put 2 (.slice B' m' q'))
                    have O9 := (OO.putne (OO.putne (OO.putne O6b (a := ⟨w5.heap.size, 0, none⟩) hoP (.int .i64 f')) (a := ⟨w5.heap.size, 1, none⟩) hoP (.int .i64 gp')) (a := ⟨w5.heap.size, 2, none⟩) hoP (.slice B' m' q'))
                    have T9o := (OO.putne (OO.putne (OO.putne T6.O (a := ⟨w5.heap.size, 0, none⟩) htP (.int .i64 f')) (a := ⟨w5.heap.size, 1, none⟩) htP (.int .i64 gp')) (a := ⟨w5.heap.size, 2, none⟩) htP (.slice B' m' q'))
                    go_simp
                    refine hK.out _ _ ?hS54 (fun hHeld2 => ?rest55)
                    case hS54 => (exact ⟨D9.F.cell 0 (by simp), D9.F.cell 1 (by simp), D9.F.cell 2 (by simp)⟩)
                    clear hK K hHeld
                    have hHeld := hHeld2
                    clear hHeld2
                    try simp only [Act.put, List.setIfInBounds_toArray, List.set_cons_zero, List.set_cons_succ]
                    refine wpAnyH_ready (rs := [12]) (by kernel_rfl) (by simp) ?_
                    refine AllReadyH.cons (o := _) rfl (fun K hK => ?stp48) ?more49
                    case stp48 =>
                      go_simp
                      refine hK.out _ _ ?hS50 (fun hHeld2 => ?rest51)
                      case hS50 => (exact hHeld)
                      clear hK K hHeld
                      have hHeld := hHeld2
                      clear hHeld2
                      try simp only [Act.put, List.setIfInBounds_toArray, List.set_cons_zero, List.set_cons_succ]
                      refine wpAnyH_done (by kernel_rfl) ?_ _
                      go_wp2_with fail
                      go_meet
                      first
                        | exact ⟨w5.heap.size, c, f', gp', B', q', m', xs', rfl, rfl, F9, TX.more ⟨D9, T9o, T6.ne, T6.len⟩ (by omega), O9, hoX, HL, hm1⟩
                    exact AllReadyH.nil
                  exact AllReadyH.nil
                exact AllReadyH.nil
              exact AllReadyH.nil
            refine AllReadyH.cons (o := _) rfl (fun K hK => ?stp97) ?more98
            case stp97 =>
              have Ta : TX w (wr.alloc (.cells #[.int .i64 0, .int .i64 0, .slice none 0 0] 26)).drew X g f gp B q m xs A n cc _ := (T.al (.cells #[.int .i64 0, .int .i64 0, .slice none 0 0] 26)).dr
              have FZ : BX (wr.alloc (.cells #[.int .i64 0, .int .i64 0, .slice none 0 0] 26)).drew wr.heap.size 26 [.int .i64 0, .int .i64 0, .slice none 0 0] := BX.dr0 (BX.made wr _ _)
              go_simp
              refine hK.out _ _ ?hS99 (fun hHeld2 => ?rest100)
              case hS99 => (exact ⟨Ta.D.F.cell 0 (by simp), Ta.D.F.cell 1 (by simp), Ta.D.F.cell 2 (by simp)⟩)
              clear hK K hHeld
              have hHeld := hHeld2
              clear hHeld2
              try simp only [Act.put, List.setIfInBounds_toArray, List.set_cons_zero, List.set_cons_succ]
              refine wpAnyH_ready (rs := [5]) (by kernel_rfl) (by simp) ?_
              refine AllReadyH.cons (o := _) rfl (fun K hK => ?stp89) ?more90
              case stp89 =>
                go_simp
                refine (drawFeat_any _ g n cc _ B0 A L _ Ta.D.S hn (Ta.rd hr hBg hB) hBg (Nat.le_trans hB Ta.D.G.size) (by omega) hn2 (by omega)).mono ?_
                rintro e w5 ⟨kk, ss, vv, rfl, S5, hg5⟩
                have T5 := Ta.grown hg5 S5
                have FZ5 := BX.past FZ hg5 (by have h1 := T.D.hg; have h2 := T.D.hX; have h3 := T.D.F.lt; omega)
                (try go_wp2_with fail)
                refine hK.out _ _ ?hS91 (fun hHeld2 => ?rest92)
                case hS91 => (exact ⟨T5.D.F.cell 0 (by simp), T5.D.F.cell 1 (by simp), T5.D.F.cell 2 (by simp)⟩)
                clear hK K hHeld
                have hHeld := hHeld2
                clear hHeld2
                try simp only [Act.put, List.setIfInBounds_toArray, List.set_cons_zero, List.set_cons_succ]
                refine wpAnyH_ready (rs := [6]) (by kernel_rfl) (by simp) ?_
                refine AllReadyH.cons (o := _) rfl (fun K hK => ?stp85) ?more86
                case stp85 =>
                  go_simp
                  refine (protect_weak f gp kk ss vv B q m xs _ T5.O T5.len.out (by omega)).mono ?_
                  rintro e w6 ⟨c, f', gp', B', q', m', xs', rfl, O6, HL, hm1, hx6⟩
                  have T6 := T5.next hx6
                  have FZ6 := FZ5.below hx6 FZ5.lt
                  have hb5 : w.heap.size + 1 ≤ w5.heap.size := Nat.lt_of_lt_of_le T.D.hX (Nat.le_of_lt T5.D.F.lt)
                  have hoX : (Value.slice B' m' q').ownBlock ≠ some X := fun e => by have h1 := (World.ownsRow.lt O6 _ e).1; have h2 := T5.D.F.lt; omega
                  have O6b := own_base O6 hb5
                  (try go_wp2_with fail)
                  refine hK.out _ _ ?hS87 (fun hHeld2 => ?rest88)
                  case hS87 => (exact ⟨T6.D.F.cell 0 (by simp), T6.D.F.cell 1 (by simp), T6.D.F.cell 2 (by simp)⟩)
                  clear hK K hHeld
                  have hHeld := hHeld2
                  clear hHeld2
                  try simp only [Act.put, List.setIfInBounds_toArray, List.set_cons_zero, List.set_cons_succ]
                  refine wpAnyH_take (i := 7) (oi := _) (v := ?v68) rfl (by kernel_rfl) (by kernel_rfl) (by kernel_rfl) (fun _ _ _ h => h) (Or.inl ⟨by rfl, ?hy69⟩) hHeld ?rest70
                  case hy69 => (intro w hSw; (try dsimp only at hSw); go_simp; (try with_reducible rfl))
                  try simp only [Act.put, List.setIfInBounds_toArray, List.set_cons_zero, List.set_cons_succ]
                  refine wpAnyH_take (i := 8) (oi := _) (v := ?v71) rfl (by kernel_rfl) (by kernel_rfl) (by kernel_rfl) (fun _ _ _ h => h) (Or.inl ⟨by rfl, ?hy72⟩) hHeld ?rest73
                  case hy72 => (intro w hSw; (try dsimp only at hSw); go_simp; (try with_reducible rfl))
                  try simp only [Act.put, List.setIfInBounds_toArray, List.set_cons_zero, List.set_cons_succ]
                  refine wpAnyH_take (i := 9) (oi := _) (v := ?v74) rfl (by kernel_rfl) (by kernel_rfl) (by kernel_rfl) (fun _ _ _ h => h) (Or.inl ⟨by rfl, ?hy75⟩) hHeld ?rest76
                  case hy75 => (intro w hSw; (try dsimp only at hSw); go_simp; (try with_reducible rfl))
                  try simp only [Act.put, List.setIfInBounds_toArray, List.set_cons_zero, List.set_cons_succ]
                  refine wpAnyH_ready (rs := [11]) (by kernel_rfl) (by simp) ?_
                  refine AllReadyH.cons (o := _) rfl (fun K hK => ?stp81) ?more82
                  case stp81 =>
                    have hwP : w.heap.size < wr.heap.size := Nat.lt_trans T.D.hX T.D.F.lt
                    have hXP : X ≠ wr.heap.size := Nat.ne_of_lt T.D.F.lt
                    have hoP : (Value.slice B' m' q').ownBlock ≠ some wr.heap.size := fun e => by have h1 := (World.ownsRow.lt O6 _ e).1; have h2 := FZ5.lt; omega
                    have htP : (Value.slice B m q).ownBlock ≠ some wr.heap.size := fun e => by have := (World.ownsRow.lt T.O _ e).2; omega
                    have z0 : (_ : Option Value) = some (.int .i64 0) := FZ6.cell 0 (by simp)
                    have z1 : (_ : Option Value) = some (.int .i64 0) := FZ6.cell 1 (by simp)
                    have z2 : (_ : Option Value) = some (.slice none 0 0) := FZ6.cell 2 (by simp)
                    have hfz := fun j => FZ6.free j
                    have D9 := (((T6.D.far (a := ⟨wr.heap.size, 0, none⟩) hwP hXP (.int .i64 f')).far (a := ⟨wr.heap.size, 1, none⟩) hwP hXP (.int .i64 gp')).far (a := ⟨wr.heap.size, 2, none⟩) hwP hXP (.slice B' m' q'))
                    have F9 := (((FZ6.put 0 (.int .i64 f')).put 1 (.int .i64 gp')).put 2 (.slice B' m' q'))
                    have O9 := (OO.putne (OO.putne (OO.putne O6b (a := ⟨wr.heap.size, 0, none⟩) hoP (.int .i64 f')) (a := ⟨wr.heap.size, 1, none⟩) hoP (.int .i64 gp')) (a := ⟨wr.heap.size, 2, none⟩) hoP (.slice B' m' q'))
                    have T9o := (OO.putne (OO.putne (OO.putne T6.O (a := ⟨wr.heap.size, 0, none⟩) htP (.int .i64 f')) (a := ⟨wr.heap.size, 1, none⟩) htP (.int .i64 gp')) (a := ⟨wr.heap.size, 2, none⟩) htP (.slice B' m' q'))
                    go_simp
                    refine hK.out _ _ ?hS83 (fun hHeld2 => ?rest84)
                    case hS83 => (exact ⟨D9.F.cell 0 (by simp), D9.F.cell 1 (by simp), D9.F.cell 2 (by simp)⟩)
                    clear hK K hHeld
                    have hHeld := hHeld2
                    clear hHeld2
                    try simp only [Act.put, List.setIfInBounds_toArray, List.set_cons_zero, List.set_cons_succ]
                    refine wpAnyH_ready (rs := [12]) (by kernel_rfl) (by simp) ?_
                    refine AllReadyH.cons (o := _) rfl (fun K hK => ?stp77) ?more78
                    case stp77 =>
                      go_simp
                      refine hK.out _ _ ?hS79 (fun hHeld2 => ?rest80)
                      case hS79 => (exact hHeld)
                      clear hK K hHeld
                      have hHeld := hHeld2
                      clear hHeld2
                      try simp only [Act.put, List.setIfInBounds_toArray, List.set_cons_zero, List.set_cons_succ]
                      refine wpAnyH_done (by kernel_rfl) ?_ _
                      go_wp2_with fail
                      go_meet
                      first
                        | exact ⟨wr.heap.size, c, f', gp', B', q', m', xs', rfl, rfl, F9, TX.more ⟨D9, T9o, T6.ne, T6.len⟩ (by omega), O9, hoX, HL, hm1⟩
                    exact AllReadyH.nil
                  exact AllReadyH.nil
                exact AllReadyH.nil
              exact AllReadyH.nil
            exact AllReadyH.nil
          case rest =>
            obtain ⟨pb, c, f', gp', B', q', m', xs', rfl, rfl, FP, T, O', hne', hl', hm'⟩ := hcut
            have p0 : (_ : Option Value) = some (.int .i64 f') := FP.cell 0 (by simp)
            have p1 : (_ : Option Value) = some (.int .i64 gp') := FP.cell 1 (by simp)
            have p2 : (_ : Option Value) = some (.slice B' m' q') := FP.cell 2 (by simp)
            have f0 : (_ : Option Value) = some (.int .i64 f) := T.D.F.cell 0 (by simp)
            have f1 : (_ : Option Value) = some (.int .i64 gp) := T.D.F.cell 1 (by simp)
            have f2 : (_ : Option Value) = some (.slice B m q) := T.D.F.cell 2 (by simp)
            have ffz := fun j => T.D.F.free j
            by_cases hc : c = 0
            · have hcb : (c == 0) = true := by simp [hc]
              clear hc
              have D3 := ((T.D.put 0 (.int .i64 f') rfl).put 1 (.int .i64 gp') rfl).put 2 (.slice B' m' q') rfl
              have O3 := OO.putne (OO.putne (OO.putne O' (a := ⟨X, 0, none⟩) hne' (.int .i64 f')) (a := ⟨X, 1, none⟩) hne' (.int .i64 gp')) (a := ⟨X, 2, none⟩) hne' (.slice B' m' q')
              go_wp2_with fail
              go_roundw
              case rel => exact ⟨_, f', gp', j - 1, B', q', m', xs', rfl, rfl, by omega, by omega, TX.more ⟨D3, O3, hne', hl'⟩ (by omega)⟩
              case measure => simp [intOf]; omega
            · have hcb : (c == 0) = false := by simp [hc]
              clear hc
              go_wp2_with fail
              go_roundw
              case rel => exact ⟨_, f, gp, j - 1, B, q, m, xs, rfl, rfl, by omega, by omega, T.more (by omega)⟩
              case measure => simp [intOf]; omega
        · have hlti2 : decide ((0 : Int) < (j : Int)) = false := decide_eq_false (by omega)
          have f0 : (_ : Option Value) = some (.int .i64 f) := T.D.F.cell 0 (by simp)
          have f1 : (_ : Option Value) = some (.int .i64 gp) := T.D.F.cell 1 (by simp)
          have f2 : (_ : Option Value) = some (.slice B m q) := T.D.F.cell 2 (by simp)
          have z0 : (_ : Option Value) = some (.int .i64 0) := T.D.Z.cell 0 (by simp)
          have z1 : (_ : Option Value) = some (.int .i64 0) := T.D.Z.cell 1 (by simp)
          have z2 : (_ : Option Value) = some (.slice none 0 0) := T.D.Z.cell 2 (by simp)
          have hfz := fun j => T.D.Z.free j
          go_wp2_with fail
          refine bodyPost_ret (v := .agg #[.int .i64 f, .int .i64 gp, .slice B m q]) (by simp [results, Tryz.results12, go_sem, World.cell?_setCell_other, z0, z1, z2]) rfl ⟨f, gp, B, q, m, xs, rfl, ?_, T.len, by omega, (((T.D.endS (Nat.le_refl _) 0 _).endS (Nat.le_refl _) 1 _).endS (Nat.le_refl _) 2 _).S.more (by omega), (((T.D.endS (Nat.le_refl _) 0 _).endS (Nat.le_refl _) 1 _).endS (Nat.le_refl _) 2 _).G⟩
          exact own_base (OO.put (OO.put (OO.put T.O (a := ⟨w.heap.size, 0, none⟩) (Nat.lt_succ_self _) _) (a := ⟨w.heap.size, 1, none⟩) (Nat.lt_succ_self _) _) (a := ⟨w.heap.size, 2, none⟩) (Nat.lt_succ_self _) _) (Nat.le_succ _)
end Go.Proofs.YthelfgagddldfaaGreatDoor
namespace Go.Proofs.YthelfgagddldfaaGreatDoor
open Go.RowKit Go.Deep
set_option linter.unusedVariables false
set_option linter.unusedSimpArgs false

theorem SR.box {w : World} (A : Option Addr) (n c : Nat) : SR (w.alloc (.cells #[.slice A n c, .int .i64 0, .int .u64 0] 69)) w.heap.size A n c 0 :=
  ⟨0, 0, Nat.le_refl _, BX.made w 69 [.slice A n c, .int .i64 0, .int .u64 0]⟩
set_option maxHeartbeats 1000000 in
theorem from_any (A : Option Addr) (n c : Nat) (w : World) :
    Calls Tryz.prog 13 #[.slice A n c] w fun e w' => ∃ g, e = .returned (.pointer (some ⟨g, 0, none⟩)) ∧ w.heap.size ≤ g ∧ SR w' g A n c 0 ∧ Below w.heap.size w w' := by
  go_enter Tryz.func13, Tryz.ntmps13
  go_wp2
  go_ret
  exact ⟨w.heap.size, rfl, Nat.le_refl _, SR.box A n c, (by repeat (first | exact Below.refl _ _ | refine below_step ?_ (by assumption) | assumption | refine Below.drew ?_ | refine below_drewN ?_ _ | refine below_alloc ?_ _ | refine Below.setCell ?_ (by simp; try omega) _))⟩

set_option maxHeartbeats 400000 in
theorem a2long_any (A B : Option Addr) (n c m d : Nat) (w : World) : Calls Tryz.prog 4 #[.slice A n c, .slice B m d] w fun e w' => e = .returned (.bool (decide (3000 < n) || decide (3000 < m))) ∧ w = w' := by
  by_cases h : 3000 < n
  · have h1 : (3000 : Int) < (n : Int) := by omega
    rw [decide_eq_true h]
    go_enter Tryz.func4, Tryz.ntmps4
    go_wp2
    go_ret
    exact ⟨rfl, rfl⟩
  · have h1 : ¬ (3000 : Int) < (n : Int) := by omega
    rw [decide_eq_false h, Bool.false_or]
    by_cases k : 3000 < m
    · have k1 : (3000 : Int) < (m : Int) := by omega
      rw [decide_eq_true k]
      go_enter Tryz.func4, Tryz.ntmps4
      go_wp2
      go_ret
      exact ⟨rfl, rfl⟩
    · have k1 : ¬ (3000 : Int) < (m : Int) := by omega
      rw [decide_eq_false k]
      go_enter Tryz.func4, Tryz.ntmps4
      go_wp2
      go_ret
      exact ⟨rfl, rfl⟩
set_option maxRecDepth 100000 in
set_option maxHeartbeats 4000000 in
theorem a2Track_any (A : Option Addr) (n cc : Nat) (L : List UInt8) (w : World) (hn : L.length = n) (hr : Rd w w.heap.size 1 A n (flat fU L)) (hn2 : n ≤ maxLen) :
    Calls Tryz.prog 5 #[.slice A n cc] w fun e w' => ∃ (f gp : Int) (B : Option Addr) (q m : Nat) (xs : List DSectorSpec), e = .returned (.agg #[.int .i64 f, .int .i64 gp, .slice B m q]) ∧ w'.ownsRow w.heap.size 41 8 (.slice B m q) m (flat fSectorSpec xs) ∧ Hid (xs.length = m) ∧ m ≤ 8 ∧ Below w.heap.size w w' := by
  have Z1 := BX.made w 26 [.int .i64 0, .int .i64 0, .slice none 0 0]
  have hb1 : Below w.heap.size w (w.alloc (.cells #[.int .i64 0, .int .i64 0, .slice none 0 0] 26)) := below_alloc (Below.refl _ _) _
  have hs1 : (w.alloc (.cells #[.int .i64 0, .int .i64 0, .slice none 0 0] 26)).heap.size = w.heap.size + 1 := World.size_alloc w _
  obtain ⟨w1, hw1⟩ : ∃ w1, w.alloc (.cells #[.int .i64 0, .int .i64 0, .slice none 0 0] 26) = w1 := ⟨_, rfl⟩
  rw [hw1] at Z1 hb1 hs1
  have HW := Lib.hid hw1
  clear hw1
  have fr := from_any A n cc w1
  go_enter Tryz.func5, Tryz.ntmps5
  go_upto_region 1 with fail
  rw [HW.out]
  go_wp2_with (first
    | (go_at_call 13; (with_reducible refine fr.mono ?_); rintro e w2 ⟨g, rfl, hg0, S2, hx2⟩; have Z2 := Z1.below hx2 (by omega); have hb2 := hb1.trans (hx2.mono (by omega)); have hl2 := S2.lt; have hgw : w.heap.size < g := (by omega); have hs2 := hb2.size)
    | (go_at_call 12; (with_reducible refine (drawTrack_any g n cc 0 w.heap.size A L w2 S2 hn (hr.below hb2) (by omega) hs2 (by omega) hn2).mono ?_); rintro e w3 ⟨f, gp, B, q, m, xs, rfl, O3, HL, hm8, S3, hg3⟩; have Z3 := BX.past Z2 hg3 (by omega); have hb3 := hb2.trans (below_gr hg3 hs2 (by omega)); have z0 : (_ : Option Value) = some (.int .i64 0) := Z3.cell 0 (by simp); have z1 : (_ : Option Value) = some (.int .i64 0) := Z3.cell 1 (by simp); have z2 : (_ : Option Value) = some (.slice none 0 0) := Z3.cell 2 (by simp); have hfz := fun j => Z3.free j))
  refine bodyPost_ret (v := .agg #[.int .i64 f, .int .i64 gp, .slice B m q]) (by simp [results, Tryz.results5, go_sem, World.cell?_setCell_other, z0, z1, z2]) rfl ⟨f, gp, B, q, m, xs, rfl, ?_, HL, hm8, Below.setCell (Below.setCell (Below.setCell hb3 (Nat.le_refl _) _) (Nat.le_refl _) _) (Nat.le_refl _) _⟩
  exact own_base (OO.put (OO.put (OO.put O3 (a := ⟨w.heap.size, 0, none⟩) (by show w.heap.size < w2.heap.size; omega) _) (a := ⟨w.heap.size, 1, none⟩) (by show w.heap.size < w2.heap.size; omega) _) (a := ⟨w.heap.size, 2, none⟩) (by show w.heap.size < w2.heap.size; omega) _) hs2
set_option maxRecDepth 100000 in
set_option maxHeartbeats 4000000 in
theorem a2Feature_any (A : Option Addr) (n cc : Nat) (L : List UInt8) (w : World) (hn : L.length = n) (hr : Rd w w.heap.size 1 A n (flat fU L)) (hn2 : n ≤ maxLen) (sec : Int) (hsec : sec ≤ 1000) :
    Calls Tryz.prog 6 #[.slice A n cc, .int .i64 sec] w fun e w' => ∃ (k s v : Int), e = .returned (.agg #[.int .i64 k, .int .i64 s, .int .i64 v]) ∧ Below w.heap.size w w' := by
  have Z1 := BX.made w 29 [.int .i64 0, .int .i64 0, .int .i64 0]
  have hb1 : Below w.heap.size w (w.alloc (.cells #[.int .i64 0, .int .i64 0, .int .i64 0] 29)) := below_alloc (Below.refl _ _) _
  have hs1 : (w.alloc (.cells #[.int .i64 0, .int .i64 0, .int .i64 0] 29)).heap.size = w.heap.size + 1 := World.size_alloc w _
  obtain ⟨w1, hw1⟩ : ∃ w1, w.alloc (.cells #[.int .i64 0, .int .i64 0, .int .i64 0] 29) = w1 := ⟨_, rfl⟩
  rw [hw1] at Z1 hb1 hs1
  have HW := Lib.hid hw1
  clear hw1
  have fr := from_any A n cc w1
  go_enter Tryz.func6, Tryz.ntmps6
  go_upto_region 1 with fail
  rw [HW.out]
  go_wp2_with (first
    | (go_at_call 13; (with_reducible refine fr.mono ?_); rintro e w2 ⟨g, rfl, hg0, S2, hx2⟩; have Z2 := Z1.below hx2 (by omega); have hb2 := hb1.trans (hx2.mono (by omega)); have hl2 := S2.lt; have hgw : w.heap.size < g := (by omega); have hs2 := hb2.size)
    | (go_at_call 14; (with_reducible refine (drawFeat_any sec g n cc 0 w.heap.size A L w2 S2 hn (hr.below hb2) (by omega) hs2 (by omega) hn2 hsec).mono ?_); rintro e w3 ⟨k, s, v, rfl, S3, hg3⟩; have Z3 := BX.past Z2 hg3 (by omega); have hb3 := hb2.trans (below_gr hg3 hs2 (by omega)); have z0 : (_ : Option Value) = some (.int .i64 0) := Z3.cell 0 (by simp); have z1 : (_ : Option Value) = some (.int .i64 0) := Z3.cell 1 (by simp); have z2 : (_ : Option Value) = some (.int .i64 0) := Z3.cell 2 (by simp); have hfz := fun j => Z3.free j))
  refine bodyPost_ret (v := .agg #[.int .i64 k, .int .i64 s, .int .i64 v]) (by simp [results, Tryz.results6, go_sem, World.cell?_setCell_other, z0, z1, z2]) rfl ⟨k, s, v, rfl, Below.setCell (Below.setCell (Below.setCell hb3 (Nat.le_refl _) _) (Nat.le_refl _) _) (Nat.le_refl _) _⟩
end Go.Proofs.YthelfgagddldfaaGreatDoor
