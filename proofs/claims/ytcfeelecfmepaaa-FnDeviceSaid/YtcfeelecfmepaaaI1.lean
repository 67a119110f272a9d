/- Walks: the texts W119 W120 D1 D2 D3 D4 D5 as one text. -/
import Derived.Test.YtcfeelecfmepaaaEntM
import Derived.Test.YtcfeelecfmepaaaW10
import Derived.Test.YtcfeelecfmepaaaW60
import Derived.Test.YtcfeelecfmepaaaTrS
import Derived.Test.YtcfeelecfmepaaaQB
import Derived.Test.YtcfeelecfmepaaaI4
import Derived.Test.YtcfeelecfmepaaaW11
import Derived.Test.YtcfeelecfmepaaaW61
import Derived.Test.YtcfeelecfmepaaaMem4
import Derived.Test.YtcfeelecfmepaaaStep
import Derived.Test.YtcfeelecfmepaaaMem3
import Derived.Test.YtcfeelecfmepaaaW1
import Derived.Deep.RegionLaw
import Derived.Test.YtcfeelecfmepaaaW30
namespace Go.Proofs.Ytcfeelecfmepaaa
set_option linter.unusedVariables false
open Go.RowKit

theorem oneSector (x : DSector) : ∀ u ∈ fSector x, u.oneCell' = true := by
  intro u hu
  simp only [fSector, List.mem_cons, List.not_mem_nil, or_false] at hu
  rcases hu with rfl | rfl <;> rfl
theorem str_empty {d : ByteArray} (h : d.size = 0) : d = ⟨#[]⟩ := by
  apply ByteArray.ext
  exact Array.eq_empty_of_size_eq_zero h
theorem str_some {d : ByteArray} (h : ¬ d.size = 0) : (d.toList == []) = false := by
  rw [beq_eq_false_iff_ne]
  intro e
  apply h
  rw [ByteArray.toList_eq] at e
  have := congrArg List.length e
  simpa using this
theorem FillC.at_ {w : World} {g N m : Nat} {e : TypeId} {xs : List Value} (h : FillC w g e N xs m) {j : Nat} {v : Value} (hj : j < m) (hx : xs[j]? = some v) : w.cell? ⟨g, j, none⟩ = some v := by
  obtain ⟨cs, hg, hs, hc⟩ := h
  rw [cell_of_row w g j cs e (0, 0) hg, hc j hj, hx]

end Go.Proofs.Ytcfeelecfmepaaa
namespace Go.Proofs.Ytcfeelecfmepaaa
set_option linter.unusedVariables false
open Go.RowKit

section
variable {P : Program} {w : World} {base size bytes : Nat} {e : TypeId} {z v : Value} {α : Type} {f : α → List Value}
/-- append of one struct as a step of a region that draws its order; where the row may lie is told. -/
theorem step_appG {ops : Array Oper} {o : Oper} {a : Act} {K : Act → World → Prop} {Q : Exit → Act → World → Prop} {E0 : Prop} (hgd : o.guard = none) (s x : Operand) (t : TypeId)
    (ho : o.op = .call { callee := .builtin .append, args := #[s, x], argTypes := #[t, t] }) (E : Elt P t e size bytes z) (hby : bytes ≤ 1000)
    (v : Value) (l : List α) (n : Nat) (hln : n = l.length) (hsv : a.eval s = v) (hown : w.ownsRow base e size v n (flat f l)) (cs : Array Value) (te : TypeId) (y : α) (c : Nat) (hx : a.eval x = .slice (some ⟨w.heap.size, 0, none⟩) 1 c)
    (hcs : cs.toList = f y) (hlen : (f y).length = size) (h1 : ∀ u ∈ f y, u.oneCell' = true) (hsz : l.length ≤ 100000000) (hbase : base ≤ w.heap.size)
    (h : ∀ v' w', w'.ownsRow base e size v' (l ++ [y]).length (flat f (l ++ [y])) → (w.alloc (.cells cs te)).grownBy w' v.ownBlock → (v'.ownBlock = v.ownBlock ∨ v'.ownBlock = some (w.heap.size + 1)) → Below base w w' → K (a.put o.dst v') w') :
    if Region.wanted o (yielded ops a.tmps) = true then Oper.wp P o a (w.alloc (.cells cs te)) K Q else E0 := by
  subst hln
  have hw : Region.wanted o (yielded ops a.tmps) = true := by simp [Region.wanted, hgd]
  rw [if_pos hw]
  have hcl : cs.size = size := by rw [← Array.length_toList, hcs, hlen]
  have hbb : (l.length + 1) * bytes ≤ 140737488355328 := by
    have := Nat.mul_le_mul (show l.length + 1 ≤ 100000001 by omega) hby
    omega
  have hsrc : Src P size t (.slice (some ⟨w.heap.size, 0, none⟩) 1 c) 1 (f y) (w.alloc (.cells cs te)) := by
    rw [← hcs]
    refine Src.lit E.ht w cs te 1 c (by omega) ?_
    rw [hcs]
    exact h1
  obtain ⟨v', w', hr, h2, h3, h5⟩ := run_append_src (P := P) (w.alloc (.cells cs te)) base t t o.type e z size bytes E v l.length (flat f l) (World.ownsRow.alloc hown _) _ 1 (f y) hsrc (by unfold maxLen; omega) hbb (by rw [World.size_alloc]; omega)
  unfold Oper.wp execOp
  simp only [ho, resolve, invoke, builtin, Sem.run_bind, Sem.run_pure, Result.andThen_ok, List.map_toArray, List.map_cons, List.map_nil, hsv, hx, hr]
  refine h _ _ ?_ h3 (by simpa using h5) ((Below.refl base w).alloc hbase _ |>.trans (below_of_own (World.ownsRow.alloc hown _) (by rw [World.size_alloc]; omega) h3))
  rw [List.length_append, flat_snoc]
  exact h2
end
theorem BX.grown {w w' : World} {g : Nat} {t : TypeId} {vs : List Value} {row : Option Nat} (h : BX w g t vs) (hg : w.grownBy w' row) (hne : row ≠ some g) : BX w' g t vs := (hg.block g h.lt (fun e => hne e.symm)).trans h
theorem BX.drx {w : World} {g : Nat} {t : TypeId} {vs : List Value} (h : BX w g t vs) : BX w.drew g t vs := h
theorem CP.below {w w' : World} {g B : Nat} {vs : List Value} (p : CP w g vs) (hb : Below B w w') (hg : g < B) : CP w' g vs := fun j h => (hb.cell (p := ⟨g, j, none⟩) hg).trans (p j h)
theorem oneStr (x : ByteArray) : ∀ u ∈ fS x, u.oneCell' = true := by
  intro u hu
  simp only [fS, List.mem_cons, List.not_mem_nil, or_false] at hu
  subst hu
  rfl
section
variable {T P nb : Nat} {s : Int} {n : List ByteArray} {k : Int} {d : ByteArray}
theorem entB_note (hk : k = 3) {b1 : Bool} (h1 : noteB d = b1) : entB T P nb s n ⟨k, d⟩ = (b1 && decide (n.length < 8)) := by simp [entB, hk, h1]
theorem entB_no (h3 : ¬ k = 3) (h2 : ¬ k = 2) : entB T P nb s n ⟨k, d⟩ = false := by simp [entB, h3, h2]
theorem entB_trk (h2 : k = 2) : entB T P nb s n ⟨k, d⟩ = (trk T P nb s d).isSome := by subst h2; simp [entB]
end

end Go.Proofs.Ytcfeelecfmepaaa
namespace Go.Proofs.Ytcfeelecfmepaaa
set_option linter.unusedVariables false
open Go.RowKit

def fU (b : UInt8) : List Value := [.int .u8 (b.toNat : Int)]
theorem fU_len (b : UInt8) : (fU b).length = 1 := rfl

/-- Block g is a source of draws over these bytes; at most N were drawn. -/
def SR (w : World) (g : Nat) (A : Option Addr) (n c : Nat) (N : Nat) : Prop := ∃ (k : Nat) (u : Int), k ≤ N ∧ BX w g 62 [.slice A n c, .int .i64 (k : Int), .int .u64 u]

section
variable {w w' : World} {g n c N : Nat} {A : Option Addr}
theorem SR.grown {row : Option Nat} (h : SR w g A n c N) (hg : w.grownBy w' row) (hne : row ≠ some g) : SR w' g A n c N := by
  obtain ⟨k, u, hk, F⟩ := h
  exact ⟨k, u, hk, F.grown hg hne⟩
theorem SR.below {B : Nat} (h : SR w g A n c N) (hb : Below B w w') (hg : g < B) : SR w' g A n c N := by
  obtain ⟨k, u, hk, F⟩ := h
  exact ⟨k, u, hk, F.below hb hg⟩
theorem SR.lt (h : SR w g A n c N) : g < w.heap.size := by
  obtain ⟨k, u, hk, F⟩ := h
  exact F.lt
theorem SR.more {M : Nat} (h : SR w g A n c N) (hM : N ≤ M) : SR w g A n c M := by
  obtain ⟨k, u, hk, F⟩ := h
  exact ⟨k, u, by omega, F⟩
theorem SR.dr (h : SR w g A n c N) : SR w.drew g A n c N := h
theorem gr_trans {a b c : World} {row : Option Nat} (h : a.grownBy b row) (k : b.grownBy c row) : a.grownBy c row :=
  ⟨k.os.trans h.os, k.tape.trans h.tape, k.output.trans h.output, Nat.le_trans h.size k.size, fun i hi hne => (k.block i (Nat.lt_of_lt_of_le hi h.size) hne).trans (h.block i hi hne)⟩
theorem grown_rd {B size m : Nat} {A' : Option Addr} {xs : List Value} (h : Rd w B size A' m xs) (hg : w.grownBy w' (some g)) (hBg : B ≤ g) (hB : B ≤ w.heap.size) : Rd w' B size A' m xs :=
  h.below ((Below.refl B w).grown hg hB (fun k hk => by injection hk with hk; omega))
end

theorem CP.idx {w : World} {b j : Nat} {L : List Int} (C : CP w b (L.map (Value.int .i64))) (hj : j < L.length) : w.cell? ⟨b, j, none⟩ = some (.int .i64 L[j]) := by
  have := C j (by simpa using hj)
  simpa using this
theorem CP.past {w w' : World} {b g : Nat} {vs : List Value} (C : CP w b vs) (hg : w.grownBy w' (some g)) (h : b ≠ g) : CP w' b vs := C.far hg (fun e => h (Option.some.inj e).symm)
theorem byte_and (x : Int) : 0 ≤ bits .and .u64 x 255 ∧ bits .and .u64 x 255 ≤ 255 := by
  have h : bits .and .u64 x 255 = (((BitVec.ofInt 64 x).toNat &&& 255 : Nat) : Int) := by
    show IntKind.u64.wrap ((BitVec.ofInt 64 x &&& BitVec.ofInt 64 255).toNat : Int) = _
    have h2 : (BitVec.ofInt 64 255).toNat = 255 := rfl
    have h1 : (BitVec.ofInt 64 x).toNat &&& 255 ≤ 255 := Nat.and_le_right
    rw [BitVec.toNat_and, h2, IntKind.wrap_u64]
    omega
  have h1 : (BitVec.ofInt 64 x).toNat &&& 255 ≤ 255 := Nat.and_le_right
  rw [h]
  omega
theorem byte_wrap (x : Int) : 0 ≤ wrap64 (bits .and .u64 x 255) ∧ wrap64 (bits .and .u64 x 255) ≤ 255 := by
  have h := byte_and x
  have e : wrap64 (bits .and .u64 x 255) = bits .and .u64 x 255 := IntWalk.wrap64_in _ (by omega)
  rw [e]
  exact h

set_option maxHeartbeats 1000000 in
theorem next_any (g n c N B : Nat) (A : Option Addr) (l : List UInt8) (w : World) (S : SR w g A n c N) (hn : l.length = n) (hr : Rd w B 1 A n (flat fU l)) (hBg : B ≤ g) (hB : B ≤ w.heap.size) (hN : N ≤ 1000000000) (hn2 : n ≤ maxLen) :
    Calls Try.prog 34 #[.pointer (some ⟨g, 0, none⟩)] w fun e w' => ∃ x : Int, e = .returned (.int .i64 x) ∧ 0 ≤ x ∧ x ≤ 255 ∧ SR w' g A n c (N + 1) ∧ w.grownBy w' (some g) := by
  obtain ⟨k, u, hk, F⟩ := S
  unfold maxLen at hn2
  subst hn
  have f0 : (_ : Option Value) = some (.slice A l.length c) := F.cell 0 (by simp)
  have f1 : (_ : Option Value) = some (.int .i64 (k : Int)) := F.cell 1 (by simp)
  have f2 : (_ : Option Value) = some (.int .u64 u) := F.cell 2 (by simp)
  have hfz := fun j => F.free j
  have hw1 : IntKind.i64.wrap ((k : Int) + 1) = ((k + 1 : Nat) : Int) := by rw [IntWalk.i64_in _ (by omega)]; rfl
  by_cases hlt : k < l.length
  · obtain ⟨b, off, rfl, hbb, hc⟩ := hr.at_ fU_len rfl k hlt
    have hc0 := hc 0 _ (by omega) rfl
    simp only [Nat.mul_one, Nat.add_zero] at hc0
    have hy := l[k].toNat_lt
    obtain ⟨y, hyy⟩ : ∃ y, l[k].toNat = y := ⟨_, rfl⟩
    rw [hyy] at hc0 hy
    have hwy : IntKind.i64.wrap (y : Int) = (y : Int) := IntWalk.i64_in _ (by omega)
    have hd1 : decide ((k : Int) < (l.length : Int)) = true := decide_eq_true (by omega)
    have hd2 : decide (((k + 1 : Nat) : Int) ≤ (l.length : Int)) = true := decide_eq_true (by omega)
    go_enter Try.func34, Try.ntmps34
    go_wp2
    go_quiet (fail)
    generalize nq = n1
    go_wp2
    go_quiet (fail)
    generalize nq = n2
    go_wp2
    have hg3 : w.grownBy (((w.drewN (n1 + n2)).setCell ⟨g, 1, none⟩ (.int .i64 ((k : Int) + 1))).setCell ⟨g, 2, none⟩ (.int .u64 (IntKind.u64.wrap (IntKind.u64.wrap (IntKind.u64.wrap (u * 6364136223846793005) + (y : Int)) + 1442695040888963407)))) (some g) := only_setCell (only_setCell (only_drewN (World.grownBy.refl w (some g)) _) (p := ⟨g, 1, none⟩) (Or.inl rfl) _) (p := ⟨g, 2, none⟩) (Or.inl rfl) _
    have F3 : BX (((w.drewN (n1 + n2)).setCell ⟨g, 1, none⟩ (.int .i64 ((k : Int) + 1))).setCell ⟨g, 2, none⟩ (.int .u64 (IntKind.u64.wrap (IntKind.u64.wrap (IntKind.u64.wrap (u * 6364136223846793005) + (y : Int)) + 1442695040888963407)))) g 62 [.slice (some ⟨b, off, none⟩) l.length c, .int .i64 ((k : Int) + 1), .int .u64 (IntKind.u64.wrap (IntKind.u64.wrap (IntKind.u64.wrap (u * 6364136223846793005) + (y : Int)) + 1442695040888963407))] := ((show BX (w.drewN (n1 + n2)) g 62 _ from F).put 1 (.int .i64 ((k : Int) + 1))).put 2 _
    generalize (((w.drewN (n1 + n2)).setCell ⟨g, 1, none⟩ (.int .i64 ((k : Int) + 1))).setCell ⟨g, 2, none⟩ (.int .u64 (IntKind.u64.wrap (IntKind.u64.wrap (IntKind.u64.wrap (u * 6364136223846793005) + (y : Int)) + 1442695040888963407)))) = w3 at hg3 F3 ⊢
    generalize (IntKind.u64.wrap (IntKind.u64.wrap (IntKind.u64.wrap (u * 6364136223846793005) + (y : Int)) + 1442695040888963407)) = u3 at F3 ⊢
    clear f0 f1 f2 hfz
    have f0 : (_ : Option Value) = some (.slice (some ⟨b, off, none⟩) l.length c) := F3.cell 0 (by simp)
    have f1 : (_ : Option Value) = some (.int .i64 ((k : Int) + 1)) := F3.cell 1 (by simp)
    have f2 : (_ : Option Value) = some (.int .u64 u3) := F3.cell 2 (by simp)
    go_quiet (fail)
    go_wp2
    go_ret
    exact ⟨(y : Int), rfl, by omega, by omega, ⟨k + 1, u3, by omega, F3⟩, only_drewN hg3 _⟩
  · have hd1 : decide ((k : Int) < (l.length : Int)) = false := decide_eq_false (by omega)
    have hd2 : decide (((k + 1 : Nat) : Int) ≤ (l.length : Int)) = false := decide_eq_false (by omega)
    go_enter Try.func34, Try.ntmps34
    go_wp2
    go_quiet (fail)
    generalize nq = n1
    go_wp2
    have hg3 : w.grownBy (((w.drewN n1).setCell ⟨g, 1, none⟩ (.int .i64 ((k : Int) + 1))).setCell ⟨g, 2, none⟩ (.int .u64 (IntKind.u64.wrap (IntKind.u64.wrap (IntKind.u64.wrap (u * 6364136223846793005)) + 1442695040888963407)))) (some g) := only_setCell (only_setCell (only_drewN (World.grownBy.refl w (some g)) _) (p := ⟨g, 1, none⟩) (Or.inl rfl) _) (p := ⟨g, 2, none⟩) (Or.inl rfl) _
    have F3 : BX (((w.drewN n1).setCell ⟨g, 1, none⟩ (.int .i64 ((k : Int) + 1))).setCell ⟨g, 2, none⟩ (.int .u64 (IntKind.u64.wrap (IntKind.u64.wrap (IntKind.u64.wrap (u * 6364136223846793005)) + 1442695040888963407)))) g 62 [.slice A l.length c, .int .i64 ((k : Int) + 1), .int .u64 (IntKind.u64.wrap (IntKind.u64.wrap (IntKind.u64.wrap (u * 6364136223846793005)) + 1442695040888963407))] := ((show BX (w.drewN n1) g 62 _ from F).put 1 (.int .i64 ((k : Int) + 1))).put 2 _
    generalize (((w.drewN n1).setCell ⟨g, 1, none⟩ (.int .i64 ((k : Int) + 1))).setCell ⟨g, 2, none⟩ (.int .u64 (IntKind.u64.wrap (IntKind.u64.wrap (IntKind.u64.wrap (u * 6364136223846793005)) + 1442695040888963407)))) = w3 at hg3 F3 ⊢
    generalize (IntKind.u64.wrap (IntKind.u64.wrap (IntKind.u64.wrap (u * 6364136223846793005)) + 1442695040888963407)) = u3 at F3 ⊢
    clear f0 f1 f2 hfz
    have f0 : (_ : Option Value) = some (.slice A l.length c) := F3.cell 0 (by simp)
    have f1 : (_ : Option Value) = some (.int .i64 ((k : Int) + 1)) := F3.cell 1 (by simp)
    have f2 : (_ : Option Value) = some (.int .u64 u3) := F3.cell 2 (by simp)
    go_quiet (fail)
    go_wp2
    go_ret
    exact ⟨_, rfl, (byte_wrap _).1, (byte_wrap _).2, ⟨k + 1, u3, by omega, F3⟩, only_drewN hg3 _⟩

set_option maxHeartbeats 1000000 in
theorem pick_any (m : Int) (g n c N B : Nat) (A : Option Addr) (l : List UInt8) (w : World) (S : SR w g A n c N) (hn : l.length = n) (hr : Rd w B 1 A n (flat fU l)) (hBg : B ≤ g) (hB : B ≤ w.heap.size) (hN : N ≤ 900000000) (hn2 : n ≤ maxLen) (hm : m ≤ 9223372036854775807) :
    Calls Try.prog 19 #[.pointer (some ⟨g, 0, none⟩), .int .i64 m] w fun e w' => ∃ x : Int, e = .returned (.int .i64 x) ∧ 0 ≤ x ∧ (x = 0 ∨ x < m) ∧ SR w' g A n c (N + 2) ∧ w.grownBy w' (some g) := by
  by_cases h1 : m ≤ 1
  · have hd1 : decide (m ≤ 1) = true := decide_eq_true h1
    go_enter Try.func19, Try.ntmps19
    go_wp2
    go_ret
    exact ⟨0, rfl, by omega, .inl rfl, S.more (by omega), World.grownBy.refl _ _⟩
  have hd1 : decide (m ≤ 1) = false := decide_eq_false h1
  have hm0 : m ≠ 0 := by omega
  have nx := next_any g n c N B A l w S hn hr hBg hB (by omega) hn2
  by_cases h2 : 200 < m
  · have hd2 : decide (200 < m) = true := decide_eq_true h2
    go_enter Try.func19, Try.ntmps19
    go_wp2_with (go_at_call 34; with_reducible refine nx.mono ?_; rintro e w1 ⟨x, rfl, hx0, hx1, S1, hg1⟩)
    have nx2 := next_any g n c (N + 1) B A l w1 S1 hn (grown_rd hr hg1 hBg hB) hBg (Nat.le_trans hB hg1.size) (by omega) hn2
    have hw1 : IntKind.i64.wrap (x * 256) = x * 256 := IntWalk.i64_in _ (by omega)
    go_wp2_with (go_at_call 34; with_reducible refine nx2.mono ?_; rintro e w2 ⟨y, rfl, hy0, hy1, S2, hg2⟩; have hw2 : IntKind.i64.wrap (x * 256 + y) = x * 256 + y := IntWalk.i64_in _ (by omega))
    go_ret
    exact ⟨(x * 256 + y) % m, rfl, Int.emod_nonneg _ hm0, .inr (Int.emod_lt_of_pos _ (by omega)), S2, gr_trans hg1 hg2⟩
  · have hd2 : decide (200 < m) = false := decide_eq_false h2
    go_enter Try.func19, Try.ntmps19
    go_wp2_with (go_at_call 34; with_reducible refine nx.mono ?_; rintro e w1 ⟨x, rfl, hx0, hx1, S1, hg1⟩)
    go_ret
    exact ⟨x % m, rfl, Int.emod_nonneg _ hm0, .inr (Int.emod_lt_of_pos _ (by omega)), S1.more (by omega), hg1⟩

set_option maxHeartbeats 1000000 in
theorem one_any (m : Int) (g n c N B : Nat) (A : Option Addr) (l : List UInt8) (w : World) (S : SR w g A n c N) (hn : l.length = n) (hr : Rd w B 1 A n (flat fU l)) (hBg : B ≤ g) (hB : B ≤ w.heap.size) (hN : N ≤ 900000000) (hn2 : n ≤ maxLen) (hm : m ≤ 9223372036854775807) :
    Calls Try.prog 18 #[.pointer (some ⟨g, 0, none⟩), .int .i64 m] w fun e w' => ∃ x : Bool, e = .returned (.bool x) ∧ SR w' g A n c (N + 2) ∧ w.grownBy w' (some g) := by
  have nx := pick_any m g n c N B A l w S hn hr hBg hB hN hn2 hm
  go_enter Try.func18, Try.ntmps18
  go_wp2_with (go_at_call 19; with_reducible refine nx.mono ?_; rintro e w1 ⟨x, rfl, hx0, hx1, S1, hg1⟩)
  go_ret
  exact ⟨_, rfl, S1, hg1⟩

set_option maxHeartbeats 1000000 in
theorem among_any (L : List Int) (b q c2 : Nat) (hq : q = L.length) (g n c N B : Nat) (A : Option Addr) (l : List UInt8) (w : World) (S : SR w g A n c N) (hn : l.length = n) (hr : Rd w B 1 A n (flat fU l)) (hBg : B ≤ g) (hB : B ≤ w.heap.size) (hN : N ≤ 900000000) (hn2 : n ≤ maxLen)
    (hL0 : 0 < L.length) (hL : L.length ≤ 1000) (C : CP w b (L.map (Value.int .i64))) (hbg : b ≠ g) :
    Calls Try.prog 32 #[.pointer (some ⟨g, 0, none⟩), .slice (some ⟨b, 0, none⟩) q c2] w fun e w' => ∃ x : Int, e = .returned (.int .i64 x) ∧ x ∈ L ∧ SR w' g A n c (N + 2) ∧ w.grownBy w' (some g) := by
  subst hq
  have nx := pick_any (L.length : Int) g n c N B A l w S hn hr hBg hB hN hn2 (by omega)
  go_enter Try.func32, Try.ntmps32
  go_wp2_with (go_at_call 19; (with_reducible refine nx.mono ?_; rintro e w1 ⟨x, rfl, hx0, hx1, S1, hg1⟩; obtain ⟨j, rfl⟩ : ∃ j : Nat, x = (j : Int) := ⟨x.toNat, by omega⟩; have hj : j < L.length := (by omega); have c0 := CP.idx (CP.past C hg1 hbg) hj))
  go_ret
  exact ⟨_, rfl, List.getElem_mem hj, S1, hg1⟩
end Go.Proofs.Ytcfeelecfmepaaa
namespace Go.Proofs.Ytcfeelecfmepaaa
set_option linter.unusedVariables false
open Go.RowKit

theorem SR.al {w : World} {g n c N : Nat} {A : Option Addr} (h : SR w g A n c N) (o : Obj) : SR (w.alloc o) g A n c N := h.grown (World.grownBy_alloc w o none) (by simp)
theorem drawn_cells (y : Nat) (hy : y ≤ 255) : (#[Value.int .u8 (y : Int)] : Array Value).toList = bcells [UInt8.ofNat y] := by
  have : ((UInt8.ofNat y).toNat : Int) = y := by rw [UInt8.toNat_ofNat']; omega
  simp only [bcells, List.map_cons, List.map_nil, this]
theorem OwnB.far {w w' : World} {base g : Nat} {e : TypeId} {v : Value} {l : List UInt8} (h : OwnB w base e v l) (hg : w.grownBy w' (some g)) (hb : g < base) : OwnB w' base e v l := h.kept hg (.inr (fun hv => by have := (h.lt g hv).1; omega))
theorem gr_below {a w w' : World} {g : Nat} (h : a.grownBy w (some g)) (hb : Below a.heap.size w w') : a.grownBy w' (some g) :=
  ⟨hb.os.trans h.os, hb.tape.trans h.tape, hb.output.trans h.output, Nat.le_trans h.size hb.size, fun i hi hne => (hb.block i hi).trans (h.block i hi hne)⟩
theorem gr_own {a w w' : World} {g : Nat} {row : Option Nat} (h : a.grownBy w (some g)) (k : w.grownBy w' row) (hr : ∀ j, row = some j → a.heap.size ≤ j) : a.grownBy w' (some g) := h.andThen k (fun j hj => .inl (hr j hj))

set_option maxRecDepth 100000 in
set_option maxHeartbeats 2000000 in
theorem drawData_any (m : Nat) (g n c N B : Nat) (A : Option Addr) (l : List UInt8) (w : World) (S : SR w g A n c N) (hn : l.length = n) (hr : Rd w B 1 A n (flat fU l)) (hBg : B ≤ g) (hB : B ≤ w.heap.size) (hN : N ≤ 800000000) (hn2 : n ≤ maxLen) (hm : m ≤ 1000000) :
    Calls Try.prog 17 #[.pointer (some ⟨g, 0, none⟩), .int .i64 (m : Int)] w fun e w' => ∃ d : ByteArray, e = .returned (.string d) ∧ d.size = m ∧ SR w' g A n c (N + 2 + 3 * m) ∧ w.grownBy w' (some g) := by
  have hgl := S.lt
  have am := among_any [0, 65, 229, 78] w.heap.size 4 4 rfl g n c N B A l (w.alloc (.cells #[.int .i64 0, .int .i64 65, .int .i64 229, .int .i64 78] 2)) (S.al _) hn (hr.alloc hB _) hBg (by rw [World.size_alloc]; omega) (by omega) hn2 (by decide) (by decide) (CP.made w [.int .i64 0, .int .i64 65, .int .i64 229, .int .i64 78] 2) (by omega)
  go_enter Try.func17, Try.ntmps17
  go_wp2_with (go_at_call 32; with_reducible refine am.mono ?_; rintro e w1 ⟨x, rfl, hx, S1, hg1⟩; obtain ⟨y, rfl, hy⟩ : ∃ y : Nat, x = (y : Int) ∧ y ≤ 255 := ⟨x.toNat, (by simp at hx; omega)⟩; have hwy : IntKind.u8.wrap (y : Int) = (y : Int) := IntWalk.u8_in _ (by omega))
  have hsz1 : w.heap.size + 1 ≤ w1.heap.size := by have := hg1.size; rw [World.size_alloc] at this; exact this
  have hg2 : w.grownBy w1 (some g) := gr_trans (World.grownBy_alloc w _ _) hg1
  have hO := OwnB.lit (e := 5) (base := w.heap.size) w1 [] #[] rfl (by omega) (by simp)
  have S2 := S1.al (.cells #[] 5)
  have hg3 : w.grownBy (w1.alloc (.cells #[] 5)) (some g) := gr_trans hg2 (World.grownBy_alloc w1 _ _)
  generalize (w1.alloc (.cells #[] 5)) = w2 at hO S2 hg3 ⊢
  go_loopw [5, 6] (fun b o wr => ∃ (y : Nat) (out : List UInt8), y ≤ 255 ∧ b = .int .u8 (y : Int) ∧ out.length ≤ m ∧ OwnB wr w.heap.size 5 o out ∧ SR wr g A n c (N + 2 + 3 * out.length) ∧ w.grownBy wr (some g)) (fun _ o _ => match o with | .slice _ k _ => m - k | _ => 0)
  case atStart => exact ⟨y, [], hy, rfl, by simp, hO, S2, hg3⟩
  case round =>
    obtain ⟨y, out, hy, rfl, hlen, hown, S3, hg4⟩ := hrel
    obtain ⟨A0, c0, rfl⟩ := hown.form
    by_cases hlt : out.length < m
    · have hd : decide ((out.length : Int) < (m : Int)) = true := decide_eq_true (by omega)
      have on := one_any 9 g n c (N + 2 + 3 * out.length) B A l wr S3 hn (grown_rd hr hg4 hBg hB) hBg (Nat.le_trans hB hg4.size) (by omega) hn2 (by decide)
      go_wp2_with (first
        | (go_at_call 18; with_reducible refine on.mono ?_; rintro e w5 ⟨z, rfl, S5, hg5⟩)
        | (go_at_call 34; have nx := next_any g n c _ B A l _ S5 hn (grown_rd hr (gr_trans hg4 hg5) hBg hB) hBg (Nat.le_trans hB (Nat.le_trans hg4.size hg5.size)) (by omega) hn2; with_reducible refine nx.mono ?_; rintro e w6 ⟨x, rfl, hx0, hx1, S6, hg6⟩; obtain ⟨y2, rfl⟩ : ∃ y2 : Nat, x = (y2 : Int) := ⟨x.toNat, (by omega)⟩; have hy2 : y2 ≤ 255 := (by omega); have hwy2 : IntKind.u8.wrap (y2 : Int) = (y2 : Int) := IntWalk.u8_in _ (by omega); replace S5 := S6; replace hg5 := gr_trans hg5 hg6)
        | (at_builtin; refine wpList_appL rfl (.tmp 21) (.tmp 23) 22 rfl eltB _ out rfl (hown.far hg5 hgl) _ _ [UInt8.ofNat y2] 1 1 rfl (drawn_cells y2 (by omega)) rfl (by simp; omega) (Nat.le_trans hg4.size hg5.size) ?_; intro v' w' hown' hg' hat' hbl; obtain ⟨A9, c9, rfl⟩ := hown'.form)
        | (at_builtin; go_must (refine wpList_appL rfl (.tmp 21) (.tmp 23) 22 rfl eltB _ out rfl (hown.far hg5 hgl) _ _ [UInt8.ofNat y] 1 1 rfl (drawn_cells y (by omega)) rfl (by simp; omega) (Nat.le_trans hg4.size hg5.size) ?_); intro v' w' hown' hg' hat' hbl; obtain ⟨A9, c9, rfl⟩ := hown'.form))
      all_goals
        go_roundw
        case rel => first | exact ⟨y2, out ++ [UInt8.ofNat y2], hy2, rfl, (by rw [List.length_append]; exact hlt), (by have h := hown'; rw [List.length_append] at h; exact h), (SR.below S5 hbl hgl).more (by rw [List.length_append, List.length_singleton]; omega), gr_below (gr_trans hg4 hg5) hbl⟩ | exact ⟨y, out ++ [UInt8.ofNat y], hy, rfl, (by rw [List.length_append]; exact hlt), (by have h := hown'; rw [List.length_append] at h; exact h), (SR.below S5 hbl hgl).more (by rw [List.length_append, List.length_singleton]; omega), gr_below (gr_trans hg4 hg5) hbl⟩
        case measure => show m - (out.length + 1) < m - out.length; omega
    · have hd : decide ((out.length : Int) < (m : Int)) = false := decide_eq_false (by omega)
      obtain rfl : out.length = m := by omega
      have hcv := run_b2s (P := Try.prog) (dst := 9) Try.underlying22 Try.underlying5 Try.underlying9 hown
      go_wp2
      go_ret
      exact ⟨_, rfl, by first | rfl | simp [ByteArray.size], S3, hg4⟩
end Go.Proofs.Ytcfeelecfmepaaa
namespace Go.Proofs.Ytcfeelecfmepaaa
set_option linter.unusedVariables false
open Go.RowKit

theorem OO.past {w w' : World} {base size n b g cap : Nat} {xs : List Value} {e : TypeId} (O : OO w base e size (.slice (some ⟨b, 0, none⟩) n cap) n xs) (hg : w.grownBy w' (some g)) (h : b ≠ g) : OO w' base e size (.slice (some ⟨b, 0, none⟩) n cap) n xs := World.ownsRow.kept O hg (.inr (fun e => h (Option.some.inj e)))
theorem BX.past {w w' : World} {D g : Nat} {t : TypeId} {vs : List Value} (F : BX w D t vs) (hg : w.grownBy w' (some g)) (h : D ≠ g) : BX w' D t vs := F.grown hg (fun e => h (Option.some.inj e).symm)
theorem grownBy_set0 (W : World) (b j : Nat) (u : Value) : W.grownBy (W.setCell ⟨b, j, none⟩ u) (some b) := only_setCell (World.grownBy.refl W (some b)) (p := ⟨b, j, none⟩) (.inl rfl) u
theorem set_ok (L : List DSector) (k : Nat) (d : ByteArray) (st : Int) (h : ∀ x ∈ L, x.f0.size ≤ 32 ∧ 1 ≤ x.f1 ∧ x.f1 ≤ 4) (hd : d.size ≤ 32) (hst : st ∈ [1, 1, 1, 2, 4]) : ∀ x ∈ L.set k ⟨d, st⟩, x.f0.size ≤ 32 ∧ 1 ≤ x.f1 ∧ x.f1 ≤ 4 := by
  intro x hx
  rcases List.mem_or_eq_of_mem_set hx with hx | rfl
  · exact h x hx
  · simp at hst
    exact ⟨hd, by simp; omega, by simp; omega⟩
theorem rd_dr {w : World} {B size n : Nat} {A : Option Addr} {xs : List Value} (h : Rd w B size A n xs) : Rd w.drew B size A n xs := h
theorem hpos (c h p s : Int) (hg : geoB c h p s = true) : 0 < (newS c h p s).length ∧ (newS c h p s).length ≤ 128 := by
  obtain ⟨c1, c2, h1, h2, p1, p2, s1, s2⟩ := geoB_yes hg
  obtain ⟨m1, m2⟩ := prod2 c1 c2 h1 h2
  obtain ⟨q1, q2⟩ := prod3 m1 m2 p1 p2
  rw [newS_len, secN]
  omega
theorem newS_ok (c h p s : Int) (h0 : 0 ≤ s) (h2 : s ≤ 2) : ∀ x ∈ newS c h p s, x.f0.size ≤ 32 ∧ 1 ≤ x.f1 ∧ x.f1 ≤ 4 := by
  intro x hx
  have h : s = 0 ∨ s = 1 ∨ s = 2 := by omega
  rw [newS, List.mem_replicate] at hx
  rw [hx.2]
  rcases h with rfl | rfl | rfl <;> decide
set_option maxRecDepth 100000 in
set_option maxHeartbeats 4000000 in
theorem drawSmall_any (g n cc N B : Nat) (A : Option Addr) (l : List UInt8) (w : World) (S : SR w g A n cc N) (hn : l.length = n) (hr : Rd w B 1 A n (flat fU l)) (hBg : B ≤ g) (hB : B ≤ w.heap.size) (hN : N ≤ 700000000) (hn2 : n ≤ maxLen) :
    Calls Try.prog 29 #[.pointer (some ⟨g, 0, none⟩)] w fun e w' => ∃ (c h p s : Int) (L : List DSector) (v : Value), e = .returned (.agg #[.int .i64 c, .int .i64 h, .int .i64 p, .int .i64 s, v]) ∧ (1 ≤ c ∧ c ≤ 3) ∧ (1 ≤ h ∧ h ≤ 2) ∧ (1 ≤ p ∧ p ≤ 5) ∧ (0 ≤ s ∧ s ≤ 2) ∧ w'.ownsRow w.heap.size 53 2 v L.length (flat fSector L) ∧ L.length = (newS c h p s).length ∧ (∀ x ∈ L, x.f0.size ≤ 32 ∧ 1 ≤ x.f1 ∧ x.f1 ≤ 4) ∧ SR w' g A n cc (N + 20000) ∧ w.grownBy w' (some g) := by
  have hgl := S.lt
  have F0 := BX.made w 26 [.int .i64 0, .int .i64 0, .int .i64 0, .int .i64 0, .slice none 0 0]
  have S0 := S.al (.cells #[.int .i64 0, .int .i64 0, .int .i64 0, .int .i64 0, .slice none 0 0] 26)
  have hg0 : w.grownBy (w.alloc (.cells #[.int .i64 0, .int .i64 0, .int .i64 0, .int .i64 0, .slice none 0 0] 26)) (some g) := World.grownBy_alloc w _ _
  have hs0 : w.heap.size + 1 ≤ (w.alloc (.cells #[.int .i64 0, .int .i64 0, .int .i64 0, .int .i64 0, .slice none 0 0] 26)).heap.size := by rw [World.size_alloc]; omega
  go_enter Try.func29, Try.ntmps29
  go_wp2_with (first
    | (go_at_call 44; have hgeo : geoB (1 + x1) (1 + x2) (1 + x3) x4 = true := (by simp only [geoB, inB, Bool.and_eq_true, decide_eq_true_eq]; omega); have nw := l12New_any (1 + x1) (1 + x2) (1 + x3) x4 w4 hgeo; (with_reducible refine nw.mono ?_); rintro e w5 ⟨v, rfl, hown, hbl⟩; obtain ⟨b, vc, rfl, hb0, hb1⟩ := World.ownsRow.form hown (hpos _ _ _ _ hgeo).1)
    | (go_at_call 19; (have := m3; have pk := pick_any 3 g n cc _ B A l w3 S3 hn (grown_rd hr hg3 hBg hB) hBg (Nat.le_trans hB hg3.size) (by omega) hn2 (by decide); with_reducible refine pk.mono ?_; rintro e w4 ⟨x4, rfl, a4, b4, S4, hg4⟩; replace F0 := F0.grown hg4 (fun e => (by have := Option.some.inj e; omega)); replace hg4 := gr_trans hg3 hg4; have m4 := True.intro))
    | (go_at_call 19; (have := m2; have pk := pick_any 5 g n cc _ B A l w2 S2 hn (grown_rd hr hg2 hBg hB) hBg (Nat.le_trans hB hg2.size) (by omega) hn2 (by decide); with_reducible refine pk.mono ?_; rintro e w3 ⟨x3, rfl, a3, b3, S3, hg3⟩; have hw3 : IntKind.i64.wrap (1 + x3) = 1 + x3 := IntWalk.i64_in _ (by omega); replace F0 := F0.grown hg3 (fun e => (by have := Option.some.inj e; omega)); replace hg3 := gr_trans hg2 hg3; have m3 := True.intro))
    | (go_at_call 19; (have := m1; have pk := pick_any 2 g n cc _ B A l w1 S1 hn (grown_rd hr hg1 hBg hB) hBg (Nat.le_trans hB hg1.size) (by omega) hn2 (by decide); with_reducible refine pk.mono ?_; rintro e w2 ⟨x2, rfl, a2, b2, S2, hg2⟩; have hw2 : IntKind.i64.wrap (1 + x2) = 1 + x2 := IntWalk.i64_in _ (by omega); replace F0 := F0.grown hg2 (fun e => (by have := Option.some.inj e; omega)); replace hg2 := gr_trans hg1 hg2; have m2 := True.intro))
    | (go_at_call 19; (have pk := pick_any 3 g n cc _ B A l (w.alloc (.cells #[.int .i64 0, .int .i64 0, .int .i64 0, .int .i64 0, .slice none 0 0] 26)) S0 hn (grown_rd hr hg0 hBg hB) hBg (Nat.le_trans hB hg0.size) (by omega) hn2 (by decide); with_reducible refine pk.mono ?_; rintro e w1 ⟨x1, rfl, a1, b1, S1, hg1⟩; have hw1 : IntKind.i64.wrap (1 + x1) = 1 + x1 := IntWalk.i64_in _ (by omega); replace F0 := F0.grown hg1 (fun e => (by have := Option.some.inj e; omega)); replace hg1 := gr_trans hg0 hg1; have m1 := True.intro)))
  have hQ := hpos _ _ _ _ hgeo
  obtain ⟨c, hc⟩ : ∃ c, 1 + x1 = c := ⟨_, rfl⟩
  obtain ⟨h, hh⟩ : ∃ h, 1 + x2 = h := ⟨_, rfl⟩
  obtain ⟨p, hp⟩ : ∃ p, 1 + x3 = p := ⟨_, rfl⟩
  rw [hc, hh, hp] at hQ hown ⊢
  have hOK : ∀ x ∈ newS c h p x4, x.f0.size ≤ 32 ∧ 1 ≤ x.f1 ∧ x.f1 ≤ 4 := newS_ok c h p x4 a4 (by omega)
  have HL0 := Lib.hid (show (newS c h p x4).length = (newS c h p x4).length from rfl)
  obtain ⟨L0, hL0⟩ : ∃ L0, newS c h p x4 = L0 := ⟨_, rfl⟩
  rw [hL0] at hQ hown hOK ⊢
  obtain ⟨Q, hQe⟩ : ∃ Q, L0.length = Q := ⟨_, rfl⟩
  rw [hQe] at hQ hown ⊢
  have hg5 : w.grownBy w5 (some g) := gr_below hg4 (hbl.mono hg4.size)
  have S5 := S4.below hbl (Nat.lt_of_lt_of_le hgl hg4.size)
  have hlt4 := F0.lt
  replace F0 := F0.below hbl F0.lt
  have h45 := hbl.size
  have h4 := hg4.size
  have hbD : b < w5.heap.size := hb1
  have FD := BX.made w5 26 [.int .i64 c, .int .i64 h, .int .i64 p, .int .i64 x4, .slice (some ⟨b, 0, none⟩) Q vc]
  have S6 := S5.al (.cells #[.int .i64 c, .int .i64 h, .int .i64 p, .int .i64 x4, .slice (some ⟨b, 0, none⟩) Q vc] 26)
  have F6 := F0.al (.cells #[.int .i64 c, .int .i64 h, .int .i64 p, .int .i64 x4, .slice (some ⟨b, 0, none⟩) Q vc] 26)
  have O6 := OO.al hown (.cells #[.int .i64 c, .int .i64 h, .int .i64 p, .int .i64 x4, .slice (some ⟨b, 0, none⟩) Q vc] 26)
  have hg6 : w.grownBy (w5.alloc (.cells #[.int .i64 c, .int .i64 h, .int .i64 p, .int .i64 x4, .slice (some ⟨b, 0, none⟩) Q vc] 26)) (some g) := gr_trans hg5 (World.grownBy_alloc w5 _ _)
  obtain ⟨D, hD⟩ : ∃ D, w5.heap.size = D := ⟨_, rfl⟩
  rw [hD] at FD hbD ⊢
  generalize (w5.alloc (.cells #[.int .i64 c, .int .i64 h, .int .i64 p, .int .i64 x4, .slice (some ⟨b, 0, none⟩) Q vc] 26)) = w6 at FD S6 F6 O6 hg6 ⊢
  go_loopw [7] (fun i wr => ∃ (k : Nat) (L : List DSector), i = .int .i64 (k : Int) ∧ k ≤ Q ∧ L.length = Q ∧ OO wr w4.heap.size 53 2 (.slice (some ⟨b, 0, none⟩) Q vc) Q (flat fSector L) ∧ BX wr D 26 [.int .i64 c, .int .i64 h, .int .i64 p, .int .i64 x4, .slice (some ⟨b, 0, none⟩) Q vc] ∧ BX wr w.heap.size 26 [.int .i64 0, .int .i64 0, .int .i64 0, .int .i64 0, .slice none 0 0] ∧ SR wr g A n cc (N + 8 + 110 * k) ∧ w.grownBy wr (some g) ∧ Hid (∀ x ∈ L, x.f0.size ≤ 32 ∧ 1 ≤ x.f1 ∧ x.f1 ≤ 4)) (fun i _ => Q - (intOf i).toNat)
  case atStart => exact ⟨0, L0, rfl, Nat.zero_le _, hQe, O6, FD, F6, S6.more (by omega), hg6, Lib.hid hOK⟩
  case round =>
    obtain ⟨k, L, rfl, hk, hL, O, FD, F0, S, hg, HO⟩ := hrel
    have f3 : (_ : Option Value) = some (.int .i64 x4) := FD.cell 3 (by simp)
    have f4 : (_ : Option Value) = some (.slice (some ⟨b, 0, none⟩) Q vc) := FD.cell 4 (by simp)
    by_cases hlt : k < Q
    · have hd : decide ((k : Int) < (Q : Int)) = true := decide_eq_true (by omega)
      have on := one_any 8 g n cc _ B A l wr S hn (grown_rd hr hg hBg hB) hBg (Nat.le_trans hB hg.size) (by omega) hn2 (by decide)
      obtain ⟨NB, hnb, hnb32, _, _⟩ := szB_nat a4 (by omega)
      have lb := fun W => l12Bytes_any x4 a4 (by omega) W
      rw [hnb] at lb
      have hbg : b ≠ g := by omega
      have hDg : D ≠ g := by omega
      have hwg : w.heap.size ≠ g := by omega
      have hbD2 : b ≠ D := by omega
      have hbw : b ≠ w.heap.size := by omega
      have j0 : k * 2 < Q * 2 := by omega
      have j1 : k * 2 + 1 < Q * 2 := by omega
      go_wp2_with (go_at_call 18; (with_reducible refine on.mono ?_); rintro e w7 ⟨z, rfl, S7, hg7⟩; have O7 := OO.past O hg7 hbg; have FD7 := BX.past FD hg7 hDg; have F07 := BX.past F0 hg7 hwg; have k3 : (_ : Option Value) = some (.int .i64 x4) := FD7.cell 3 (by simp); have k4 : (_ : Option Value) = some (.slice (some ⟨b, 0, none⟩) Q vc) := FD7.cell 4 (by simp); have hg77 := gr_trans hg hg7)
      · go_roundw
        case rel => exact ⟨k + 1, L, by go_num, hlt, hL, O7, FD7, F07, S7.more (by omega), hg77, HO⟩
        case measure => (simp [intOf] <;> omega)
      · go_region_law (go_simp; first
          | (go_at_call 16; refine (lb _).mono ?_; rintro e w8 ⟨rfl, rfl⟩)
          | (go_at_call 17; have dd := drawData_any NB g n cc _ B A l w7.drew S7.dr hn (grown_rd hr (only_drew hg77) hBg hB) hBg (Nat.le_trans hB hg77.size) (by omega) hn2 (by omega); refine dd.mono ?_; rintro e w8 ⟨d, rfl, hd8, S8, hg8⟩; have O8 := OO.past (OO.dr O7) hg8 hbg; have FD8 := BX.past (BX.drx FD7) hg8 hDg; have F08 := BX.past (BX.drx F07) hg8 hwg; have q4 : (_ : Option Value) = some (.slice (some ⟨b, 0, none⟩) Q vc) := FD8.cell 4 (by simp); obtain ⟨u0, hu0⟩ := own_some O8 (k * 2) j0; have hz0 := World.ownsRow.frozenAt O8 (k * 2)))
        all_goals
          have hs9 := World.ownsRow.stored O8 (k * 2) (.string d)
          have O9 := hs9.1
          have FD9 := FD8.grown hs9.2 (fun e => hbD2 (Option.some.inj e))
          have F09 := F08.grown hs9.2 (fun e => hbw (Option.some.inj e))
          have S9 := S8.grown hs9.2 (fun e => hbg (Option.some.inj e))
          have hg9 := gr_own (gr_trans (only_drew hg77) hg8) hs9.2 (fun j e => by have := Option.some.inj (show some b = some j from e); omega)
          clear hs9
          generalize (w8.setCell ⟨b, k * 2, none⟩ (.string d)) = w9 at O9 FD9 F09 S9 hg9 ⊢
          have k4 : (_ : Option Value) = some (.slice (some ⟨b, 0, none⟩) Q vc) := FD9.cell 4 (by simp)
          have k5 := fun (o : Obj) => (show (_ : Option Value) = some (.slice (some ⟨b, 0, none⟩) Q vc) from (BX.al FD9 o).cell 4 (by simp))
          have hlt9 := S9.lt
          have b9 : b < w9.heap.size := (World.ownsRow.lt O9 b rfl).2
          have hB9 := Nat.le_trans hB hg9.size
          have am := among_any [1, 1, 1, 2, 4] w9.heap.size 5 5 rfl g n cc _ B A l (w9.alloc (.cells #[.int .i64 1, .int .i64 1, .int .i64 1, .int .i64 2, .int .i64 4] 2)).drew (SR.dr (S9.al _)) hn (rd_dr ((grown_rd hr hg9 hBg hB).alloc hB9 _)) hBg (by show B ≤ (w9.alloc _).heap.size; rw [World.size_alloc]; exact Nat.le_succ_of_le hB9) (by omega) hn2 (by decide) (by decide) (CP.dr (CP.made w9 [.int .i64 1, .int .i64 1, .int .i64 1, .int .i64 2, .int .i64 4] 2)) (by omega)
          go_wp2
          go_region_law (go_simp; (go_at_call 32; (with_reducible refine am.mono ?_); rintro e w10 ⟨st, rfl, hst, S10, hg10⟩; have O10 := OO.past (OO.dr (OO.al O9 _)) hg10 hbg; have FD10 := BX.past (BX.drx (BX.al FD9 _)) hg10 hDg; have F010 := BX.past (BX.drx (BX.al F09 _)) hg10 hwg; have r4 : (_ : Option Value) = some (.slice (some ⟨b, 0, none⟩) Q vc) := FD10.cell 4 (by simp); obtain ⟨u1, hu1⟩ := own_some O10 (k * 2 + 1) j1; have hz1 := World.ownsRow.frozenAt O10 (k * 2 + 1)))
          all_goals
            have hs11 := World.ownsRow.stored O10 (k * 2 + 1) (.int .i64 st)
            have O11 := hs11.1
            have FD11 := FD10.grown hs11.2 (fun e => hbD2 (Option.some.inj e))
            have F011 := F010.grown hs11.2 (fun e => hbw (Option.some.inj e))
            have S11 := S10.grown hs11.2 (fun e => hbg (Option.some.inj e))
            have hg11 := gr_own (gr_trans (only_drew (gr_trans hg9 (World.grownBy_alloc w9 _ _))) hg10) hs11.2 (fun j e => by have := Option.some.inj (show some b = some j from e); omega)
            have hPL := setS L k (by omega) ⟨d, st⟩
            go_wp2
            go_roundw
            case rel => exact ⟨k + 1, L.set k ⟨d, st⟩, by go_num, hlt, by rw [List.length_set]; exact hL, by rw [← hPL]; exact O11, FD11, F011, S11.more (by omega), hg11, Lib.hid (set_ok L k d st HO.out (by omega) hst)⟩
            case measure => (simp [intOf] <;> omega)
    · have hd : decide ((k : Int) < (Q : Int)) = false := decide_eq_false (by omega)
      obtain rfl : k = Q := by omega
      have f0 : (_ : Option Value) = some (.int .i64 c) := FD.cell 0 (by simp)
      have f1 : (_ : Option Value) = some (.int .i64 h) := FD.cell 1 (by simp)
      have f2 : (_ : Option Value) = some (.int .i64 p) := FD.cell 2 (by simp)
      have z0 : (_ : Option Value) = some (.int .i64 0) := F0.cell 0 (by simp)
      have z1 : (_ : Option Value) = some (.int .i64 0) := F0.cell 1 (by simp)
      have z2 : (_ : Option Value) = some (.int .i64 0) := F0.cell 2 (by simp)
      have z3 : (_ : Option Value) = some (.int .i64 0) := F0.cell 3 (by simp)
      have z4 : (_ : Option Value) = some (.slice none 0 0) := F0.cell 4 (by simp)
      have hfz := fun j => F0.free j
      go_wp2
      refine bodyPost_ret (v := .agg #[.int .i64 c, .int .i64 h, .int .i64 p, .int .i64 x4, .slice (some ⟨b, 0, none⟩) k vc]) (by simp [results, Try.results29, go_sem, World.cell?_setCell_other, z0, z1, z2, z3, z4]) rfl ⟨c, h, p, x4, L, _, rfl, by omega, by omega, by omega, by omega, ?_, ?_, HO.out, ?_, ?_⟩
      · rw [hL]
        have O' : wr.ownsRow w4.heap.size 53 2 (.slice (some ⟨b, 0, none⟩) k vc) k (flat fSector L) := O
        refine own_base (base := w4.heap.size) ?_ (by omega)
        with_reducible repeat (first | exact O' | refine ownsRow_setCell_below ?_ (by simp; try omega) _)
      · rw [hL, ← hQe, ← hL0]
      · refine SR.more (N := N + 8 + 110 * k) ?_ (by omega)
        have hx : ∀ (W : World) (j : Nat) (u : Value), SR W g A n cc (N + 8 + 110 * k) → SR (W.setCell ⟨w.heap.size, j, none⟩ u) g A n cc (N + 8 + 110 * k) := fun W j u h => h.grown (grownBy_set0 W w.heap.size j u) (fun e => by have := Option.some.inj e; omega)
        exact hx _ _ _ (hx _ _ _ (hx _ _ _ (hx _ _ _ (hx _ _ _ S))))
      · have hx : ∀ (W : World) (j : Nat) (u : Value), w.grownBy W (some g) → w.grownBy (W.setCell ⟨w.heap.size, j, none⟩ u) (some g) := fun W j u h => only_setCell h (.inr (Nat.le_refl _)) u
        exact hx _ _ _ (hx _ _ _ (hx _ _ _ (hx _ _ _ (hx _ _ _ hg))))
end Go.Proofs.Ytcfeelecfmepaaa
namespace Go.Proofs.Ytcfeelecfmepaaa
set_option linter.unusedVariables false
open Go.RowKit

theorem get_data (L : List DSector) (k : Nat) (hk : k < L.length) : (flat fSector L)[k * 2]? = some (.string L[k].f0) := by
  have := flat_get fSector 2 fSector_len L k 0 hk (by omega)
  simpa [fSector] using this
theorem get_state (L : List DSector) (k : Nat) (hk : k < L.length) : (flat fSector L)[k * 2 + 1]? = some (.int .i64 L[k].f1) := by
  have := flat_get fSector 2 fSector_len L k 1 hk (by omega)
  simpa [fSector] using this
theorem set_same {l : List Value} {j : Nat} {v : Value} (h : l[j]? = some v) : l.set j v = l := by
  obtain ⟨hj, rfl⟩ := List.getElem?_eq_some_iff.1 h
  exact List.set_getElem_self hj
theorem set_state (L : List DSector) (k : Nat) (hk : k < L.length) (st : Int) : (flat fSector L).set (k * 2 + 1) (.int .i64 st) = flat fSector (L.set k ⟨L[k].f0, st⟩) := by
  rw [← setS L k hk]
  show _ = ((flat fSector L).set (k * 2) (.string L[k].f0)).set (k * 2 + 1) (.int .i64 st)
  rw [set_same (get_data L k hk)]
theorem set_data (L : List DSector) (k : Nat) (hk : k < L.length) (d : ByteArray) : (flat fSector L).set (k * 2) (.string d) = flat fSector (L.set k ⟨d, L[k].f1⟩) := by
  rw [← setS L k hk]
  show _ = ((flat fSector L).set (k * 2) (.string d)).set (k * 2 + 1) (.int .i64 L[k].f1)
  rw [set_same (j := k * 2 + 1) (by rw [List.getElem?_set_ne (by omega)]; exact get_state L k hk)]
theorem bent_ok (L : List DSector) (k : Nat) (y : DSector) (hk : k < L.length) (h : ∀ x ∈ L, x.f0.size ≤ 32 ∧ 1 ≤ x.f1 ∧ x.f1 ≤ 4) (h1 : y.f0.size ≤ 40) (h2 : 0 ≤ y.f1 ∧ y.f1 ≤ 5) : ∀ x ∈ L.set k y, x.f0.size ≤ 40 ∧ 0 ≤ x.f1 ∧ x.f1 ≤ 5 := by
  intro x hx
  rcases List.mem_or_eq_of_mem_set hx with hx | rfl
  · have := h x hx
    omega
  · exact ⟨h1, h2⟩
theorem bent_app (L : List DSector) (y : DSector) (h : ∀ x ∈ L, x.f0.size ≤ 32 ∧ 1 ≤ x.f1 ∧ x.f1 ≤ 4) (h1 : y.f0.size ≤ 40) (h2 : 0 ≤ y.f1 ∧ y.f1 ≤ 5) : ∀ x ∈ L ++ [y], x.f0.size ≤ 40 ∧ 0 ≤ x.f1 ∧ x.f1 ≤ 5 := by
  intro x hx
  rw [List.mem_append, List.mem_singleton] at hx
  rcases hx with hx | rfl
  · have := h x hx
    omega
  · exact ⟨h1, h2⟩
theorem set5 {w W : World} {g z base size m n cc N : Nat} {A : Option Addr} {e : TypeId} {v : Value} {xs : List Value} (hz : w.heap.size ≤ z) (S : SR W g A n cc N) (hg : w.grownBy W (some g)) (O : OO W base e size v m xs) (hzb : z < base) (hgz : z ≠ g) (u0 u1 u2 u3 u4 : Value) :
    World.ownsRow (((((W.setCell ⟨z, 0, none⟩ u0).setCell ⟨z, 1, none⟩ u1).setCell ⟨z, 2, none⟩ u2).setCell ⟨z, 3, none⟩ u3).setCell ⟨z, 4, none⟩ u4) z e size v m xs ∧ SR (((((W.setCell ⟨z, 0, none⟩ u0).setCell ⟨z, 1, none⟩ u1).setCell ⟨z, 2, none⟩ u2).setCell ⟨z, 3, none⟩ u3).setCell ⟨z, 4, none⟩ u4) g A n cc N ∧ w.grownBy (((((W.setCell ⟨z, 0, none⟩ u0).setCell ⟨z, 1, none⟩ u1).setCell ⟨z, 2, none⟩ u2).setCell ⟨z, 3, none⟩ u3).setCell ⟨z, 4, none⟩ u4) (some g) := by
  have h1 : ∀ (W : World) (j : Nat) (u : Value), OO W base e size v m xs → OO (W.setCell ⟨z, j, none⟩ u) base e size v m xs := fun W j u h => OO.put h hzb u
  have h2 : ∀ (W : World) (j : Nat) (u : Value), SR W g A n cc N → SR (W.setCell ⟨z, j, none⟩ u) g A n cc N := fun W j u h => h.grown (grownBy_set0 W z j u) (fun e => hgz (Option.some.inj e))
  have h3 : ∀ (W : World) (j : Nat) (u : Value), w.grownBy W (some g) → w.grownBy (W.setCell ⟨z, j, none⟩ u) (some g) := fun W j u h => only_setCell h (.inr hz) u
  exact ⟨own_base (h1 _ _ _ (h1 _ _ _ (h1 _ _ _ (h1 _ _ _ (h1 _ _ _ O))))) (Nat.le_of_lt hzb), h2 _ _ _ (h2 _ _ _ (h2 _ _ _ (h2 _ _ _ (h2 _ _ _ S)))), h3 _ _ _ (h3 _ _ _ (h3 _ _ _ (h3 _ _ _ (h3 _ _ _ hg))))⟩

set_option maxRecDepth 100000 in
set_option maxHeartbeats 4000000 in
theorem bent_any (m : Int) (g n cc N B : Nat) (A : Option Addr) (l : List UInt8) (w : World) (S : SR w g A n cc N) (hn : l.length = n) (hr : Rd w B 1 A n (flat fU l)) (hBg : B ≤ g) (hB : B ≤ w.heap.size) (hN : N ≤ 600000000) (hn2 : n ≤ maxLen) (hm : m ≤ 9223372036854775807) :
    Calls Try.prog 33 #[.pointer (some ⟨g, 0, none⟩), .int .i64 m] w fun e w' => ∃ (c h p s : Int) (L : List DSector) (v : Value), e = .returned (.agg #[.int .i64 c, .int .i64 h, .int .i64 p, .int .i64 s, v]) ∧ (0 ≤ c ∧ c ≤ 9) ∧ (1 ≤ h ∧ h ≤ 2) ∧ (1 ≤ p ∧ p ≤ 5) ∧ (-1 ≤ s ∧ s ≤ 3) ∧ w'.ownsRow w.heap.size 53 2 v L.length (flat fSector L) ∧ (0 < L.length ∧ L.length ≤ 129) ∧ (∀ x ∈ L, x.f0.size ≤ 40 ∧ 0 ≤ x.f1 ∧ x.f1 ≤ 5) ∧ SR w' g A n cc (N + 20020) ∧ w.grownBy w' (some g) := by
  have hgl := S.lt
  have F0 := BX.made w 26 [.int .i64 0, .int .i64 0, .int .i64 0, .int .i64 0, .slice none 0 0]
  have S0 := S.al (.cells #[.int .i64 0, .int .i64 0, .int .i64 0, .int .i64 0, .slice none 0 0] 26)
  have hg0 : w.grownBy (w.alloc (.cells #[.int .i64 0, .int .i64 0, .int .i64 0, .int .i64 0, .slice none 0 0] 26)) (some g) := World.grownBy_alloc w _ _
  have hs0 : w.heap.size + 1 ≤ (w.alloc (.cells #[.int .i64 0, .int .i64 0, .int .i64 0, .int .i64 0, .slice none 0 0] 26)).heap.size := by rw [World.size_alloc]; omega
  have ds := drawSmall_any g n cc N B A l (w.alloc (.cells #[.int .i64 0, .int .i64 0, .int .i64 0, .int .i64 0, .slice none 0 0] 26)) S0 hn (grown_rd hr hg0 hBg hB) hBg (Nat.le_trans hB hg0.size) (by omega) hn2
  go_enter Try.func33, Try.ntmps33
  go_wp2_with (first
    | (go_at_call 29; (with_reducible refine ds.mono ?_); rintro e w1 ⟨c, h, p, s, L, v, rfl, hc, hh, hp, hs, O1, hLn, hLok, S1, hg1⟩; have hLp : 0 < L.length ∧ L.length ≤ 128 := (by rw [hLn]; exact hpos c h p s (by simp only [geoB, inB, Bool.and_eq_true, decide_eq_true_eq]; omega)); clear hLn; obtain ⟨b, vc, rfl, hb0, hb1⟩ := World.ownsRow.form O1 hLp.1; have F1 := BX.past F0 hg1 (by omega); have hg1' := gr_trans hg0 hg1; have FD := BX.made w1 26 [.int .i64 c, .int .i64 h, .int .i64 p, .int .i64 s, .slice (some ⟨b, 0, none⟩) L.length vc]; have S2 := S1.al (.cells #[.int .i64 c, .int .i64 h, .int .i64 p, .int .i64 s, .slice (some ⟨b, 0, none⟩) L.length vc] 26); have hg2 : w.grownBy (w1.alloc (.cells #[.int .i64 c, .int .i64 h, .int .i64 p, .int .i64 s, .slice (some ⟨b, 0, none⟩) L.length vc] 26)) (some g) := gr_trans hg1' (World.grownBy_alloc w1 _ _); have O2 := OO.al O1 (.cells #[.int .i64 c, .int .i64 h, .int .i64 p, .int .i64 s, .slice (some ⟨b, 0, none⟩) L.length vc] 26); have F2 := F1.al (.cells #[.int .i64 c, .int .i64 h, .int .i64 p, .int .i64 s, .slice (some ⟨b, 0, none⟩) L.length vc] 26); have on := one_any m g n cc _ B A l _ S2 hn (grown_rd hr hg2 hBg hB) hBg (Nat.le_trans hB hg2.size) (by omega) hn2 hm)
    | (go_at_call 18; (with_reducible refine on.mono ?_); rintro e w3 ⟨z, rfl, S3, hg3⟩; have hgx := gr_trans hg2 hg3; have FD3 := BX.past FD hg3 (by omega); have F3 := BX.past F2 hg3 (by omega); have O3 := OO.past O2 hg3 (by omega); have f0 : (_ : Option Value) = some (.int .i64 c) := FD3.cell 0 (by simp); have f1 : (_ : Option Value) = some (.int .i64 h) := FD3.cell 1 (by simp); have f2 : (_ : Option Value) = some (.int .i64 p) := FD3.cell 2 (by simp); have f3 : (_ : Option Value) = some (.int .i64 s) := FD3.cell 3 (by simp); have f4 : (_ : Option Value) = some (.slice (some ⟨b, 0, none⟩) L.length vc) := FD3.cell 4 (by simp); have z0 : (_ : Option Value) = some (.int .i64 0) := F3.cell 0 (by simp); have z1 : (_ : Option Value) = some (.int .i64 0) := F3.cell 1 (by simp); have z2 : (_ : Option Value) = some (.int .i64 0) := F3.cell 2 (by simp); have z3 : (_ : Option Value) = some (.int .i64 0) := F3.cell 3 (by simp); have z4 : (_ : Option Value) = some (.slice none 0 0) := F3.cell 4 (by simp); have hfz := fun j => F3.free j)
    | (go_at_call 19; have pk := pick_any (L.length : Int) g n cc _ B A l w3 S3 hn (grown_rd hr hgx hBg hB) hBg (Nat.le_trans hB hgx.size) (by omega) hn2 (by omega); (with_reducible refine pk.mono ?_); rintro e w4 ⟨kx, rfl, k0, k1, S4, hg4⟩; obtain ⟨k, rfl⟩ : ∃ k : Nat, kx = (k : Int) := ⟨kx.toNat, (by omega)⟩; have hk : k < L.length := (by omega)))
  · have E := set5 (z := w.heap.size) (Nat.le_refl _) S3 hgx O3 (by omega) (by omega) (.int .i64 c) (.int .i64 h) (.int .i64 p) (.int .i64 s) (.slice (some ⟨b, 0, none⟩) L.length vc)
    refine bodyPost_ret (v := .agg #[.int .i64 c, .int .i64 h, .int .i64 p, .int .i64 s, .slice (some ⟨b, 0, none⟩) L.length vc]) (by simp [results, Try.results33, go_sem, World.cell?_setCell_other, z0, z1, z2, z3, z4]) rfl ⟨c, h, p, s, L, _, rfl, by omega, by omega, by omega, by omega, E.1, by omega, (fun x hx => by have := hLok x hx; omega), E.2.1.more (by omega), E.2.2⟩
  · have hgy := gr_trans hgx hg4
    have FD4 := BX.past FD3 hg4 (by omega)
    have F4 := BX.past F3 hg4 (by omega)
    have O4 := OO.past O3 hg4 (by omega)
    have pk6 := pick_any 6 g n cc _ B A l w4 S4 hn (grown_rd hr hgy hBg hB) hBg (Nat.le_trans hB hgy.size) (by omega) hn2 (by decide)
    refine pk6.mono ?_
    rintro e w5 ⟨x, rfl, x0, x1, S5, hg5⟩
    have hgz := gr_trans hgy hg5
    replace FD4 := BX.past FD4 hg5 (by omega)
    replace F4 := BX.past F4 hg5 (by omega)
    replace O4 := OO.past O4 hg5 (by omega)
    clear f0 f1 f2 f3 f4 z0 z1 z2 z3 z4 hfz on ds pk pk6
    have hDg : w1.heap.size ≠ g := by omega
    have hzD : w.heap.size ≠ w1.heap.size := by omega
    have hwD : w.heap.size ≤ w1.heap.size := by omega
    have hbD : b ≠ w1.heap.size := by omega
    have hB5 := Nat.le_trans hB hgz.size
    have hg5l := S5.lt
    have hbg : b ≠ g := by omega
    have hbw : b ≠ w.heap.size := by omega
    have hwg : w.heap.size ≠ g := by omega
    have j0 : k * 2 < L.length * 2 := by omega
    have j1 : k * 2 + 1 < L.length * 2 := by omega
    have hx : x = 0 ∨ x = 1 ∨ x = 2 ∨ x = 3 ∨ x = 4 ∨ x = 5 := by omega
    rcases hx with rfl | rfl | rfl | rfl | rfl | rfl
    · have k4 : (_ : Option Value) = some (.slice (some ⟨b, 0, none⟩) L.length vc) := FD4.cell 4 (by simp)
      have k5 := fun (o : Obj) => (show (_ : Option Value) = some (.slice (some ⟨b, 0, none⟩) L.length vc) from (BX.al FD4 o).cell 4 (by simp))
      have am := among_any [0, 5] w5.heap.size 2 2 rfl g n cc _ B A l (w5.alloc (.cells #[.int .i64 0, .int .i64 5] 2)).drew (SR.dr (S5.al _)) hn (rd_dr ((grown_rd hr hgz hBg hB).alloc hB5 _)) hBg (by show B ≤ (w5.alloc _).heap.size; rw [World.size_alloc]; exact Nat.le_succ_of_le hB5) (by omega) hn2 (by decide) (by decide) (CP.dr (CP.made w5 [.int .i64 0, .int .i64 5] 2)) (by omega)
      go_wp2
      go_region_law (go_simp; (go_at_call 32; (with_reducible refine am.mono ?_); rintro e w6 ⟨st, rfl, hst, S6, hg6⟩; have O6 := OO.past (OO.dr (OO.al O4 _)) hg6 hbg; have FD6 := BX.past (BX.drx (BX.al FD4 _)) hg6 hDg; have F6 := BX.past (BX.drx (BX.al F4 _)) hg6 hwg; have r4 : (_ : Option Value) = some (.slice (some ⟨b, 0, none⟩) L.length vc) := FD6.cell 4 (by simp); obtain ⟨u1, hu1⟩ := own_some O6 (k * 2 + 1) j1; have hz1 := World.ownsRow.frozenAt O6 (k * 2 + 1)))
      all_goals
        simp at hst
        have hs7 := World.ownsRow.stored O6 (k * 2 + 1) (.int .i64 st)
        have O7 := hs7.1
        have FD7 := FD6.grown hs7.2 (fun e => hbD (Option.some.inj e))
        have F7 := F6.grown hs7.2 (fun e => hbw (Option.some.inj e))
        have S7 := S6.grown hs7.2 (fun e => hbg (Option.some.inj e))
        have hg7 := gr_own (gr_trans (only_drew (gr_trans hgz (World.grownBy_alloc w5 _ _))) hg6) hs7.2 (fun j e => by have := Option.some.inj (show some b = some j from e); omega)
        rw [set_state L k hk] at O7
        have hl7 : (L.set k ⟨L[k].f0, st⟩).length = L.length := List.length_set
        clear hs7
        generalize (w6.setCell ⟨b, k * 2 + 1, none⟩ (.int .i64 st)) = w7 at O7 FD7 F7 S7 hg7 ⊢
        have f0 : (_ : Option Value) = some (.int .i64 c) := FD7.cell 0 (by simp)
        have f1 : (_ : Option Value) = some (.int .i64 h) := FD7.cell 1 (by simp)
        have f2 : (_ : Option Value) = some (.int .i64 p) := FD7.cell 2 (by simp)
        have f3 : (_ : Option Value) = some (.int .i64 s) := FD7.cell 3 (by simp)
        have f4 : (_ : Option Value) = some (.slice (some ⟨b, 0, none⟩) L.length vc) := FD7.cell 4 (by simp)
        have z0 : (_ : Option Value) = some (.int .i64 0) := F7.cell 0 (by simp)
        have z1 : (_ : Option Value) = some (.int .i64 0) := F7.cell 1 (by simp)
        have z2 : (_ : Option Value) = some (.int .i64 0) := F7.cell 2 (by simp)
        have z3 : (_ : Option Value) = some (.int .i64 0) := F7.cell 3 (by simp)
        have z4 : (_ : Option Value) = some (.slice none 0 0) := F7.cell 4 (by simp)
        have hfz := fun j => F7.free j
        go_wp2
        have E := set5 (z := w.heap.size) (Nat.le_refl _) S7 hg7 O7 (by omega) (by omega) (.int .i64 c) (.int .i64 h) (.int .i64 p) (.int .i64 s) (.slice (some ⟨b, 0, none⟩) L.length vc)
        refine bodyPost_ret (v := .agg #[.int .i64 c, .int .i64 h, .int .i64 p, .int .i64 s, .slice (some ⟨b, 0, none⟩) L.length vc]) (by simp [results, Try.results33, go_sem, World.cell?_setCell_other, z0, z1, z2, z3, z4]) rfl ⟨c, h, p, s, L.set k ⟨L[k].f0, st⟩, _, rfl, by omega, by omega, by omega, by omega, by rw [hl7]; exact E.1, by rw [hl7]; omega, bent_ok L k _ hk hLok (by have := hLok _ (List.getElem_mem hk); simp; omega) (by simp; omega), E.2.1.more (by omega), E.2.2⟩
    · have k4 : (_ : Option Value) = some (.slice (some ⟨b, 0, none⟩) L.length vc) := FD4.cell 4 (by simp)
      have hc0 : (_ : Option Value) = some (.string L[k].f0) := (World.ownsRow.cellAt O4 (k * 2) j0).trans (get_data L k hk)
      have hz1 := World.ownsRow.frozenAt O4 (k * 2)
      have hsz := (hLok _ (List.getElem_mem hk)).1
      obtain ⟨d0, hd0⟩ : ∃ d0, L[k].f0 = d0 := ⟨_, rfl⟩
      rw [hd0] at hc0 hsz
      have hcat : (d0 ++ (⟨#[120]⟩ : ByteArray)).size = d0.size + 1 := by rw [ByteArray.size_append]; rfl
      have hs7 := World.ownsRow.stored O4 (k * 2) (.string (d0 ++ (⟨#[120]⟩ : ByteArray)))
      have O7 := hs7.1
      have FD7 := FD4.grown hs7.2 (fun e => hbD (Option.some.inj e))
      have F7 := F4.grown hs7.2 (fun e => hbw (Option.some.inj e))
      have S7 := S5.grown hs7.2 (fun e => hbg (Option.some.inj e))
      have hg7 := gr_own hgz hs7.2 (fun j e => by have := Option.some.inj (show some b = some j from e); omega)
      rw [set_data L k hk] at O7
      have hl7 : (L.set k ⟨d0 ++ (⟨#[120]⟩ : ByteArray), L[k].f1⟩).length = L.length := List.length_set
      clear hs7
      have f0 : (_ : Option Value) = some (.int .i64 c) := FD7.cell 0 (by simp)
      have f1 : (_ : Option Value) = some (.int .i64 h) := FD7.cell 1 (by simp)
      have f2 : (_ : Option Value) = some (.int .i64 p) := FD7.cell 2 (by simp)
      have f3 : (_ : Option Value) = some (.int .i64 s) := FD7.cell 3 (by simp)
      have f4 : (_ : Option Value) = some (.slice (some ⟨b, 0, none⟩) L.length vc) := FD7.cell 4 (by simp)
      have z0 : (_ : Option Value) = some (.int .i64 0) := F7.cell 0 (by simp)
      have z1 : (_ : Option Value) = some (.int .i64 0) := F7.cell 1 (by simp)
      have z2 : (_ : Option Value) = some (.int .i64 0) := F7.cell 2 (by simp)
      have z3 : (_ : Option Value) = some (.int .i64 0) := F7.cell 3 (by simp)
      have z4 : (_ : Option Value) = some (.slice none 0 0) := F7.cell 4 (by simp)
      have hfz := fun j => F7.free j
      go_wp2
      have E := set5 (z := w.heap.size) (Nat.le_refl _) S7 hg7 O7 (by omega) (by omega) (.int .i64 c) (.int .i64 h) (.int .i64 p) (.int .i64 s) (.slice (some ⟨b, 0, none⟩) L.length vc)
      refine bodyPost_ret (v := .agg #[.int .i64 c, .int .i64 h, .int .i64 p, .int .i64 s, .slice (some ⟨b, 0, none⟩) L.length vc]) (by simp [results, Try.results33, go_sem, World.cell?_setCell_other, z0, z1, z2, z3, z4]) rfl ⟨c, h, p, s, L.set k ⟨d0 ++ (⟨#[120]⟩ : ByteArray), L[k].f1⟩, _, rfl, by omega, by omega, by omega, by omega, by rw [hl7]; exact E.1, by rw [hl7]; omega, bent_ok L k _ hk hLok (by simp only [hcat]; omega) (by have := hLok _ (List.getElem_mem hk); simp; omega), E.2.1.more (by omega), E.2.2⟩
    · have k4 : (_ : Option Value) = some (.slice (some ⟨b, 0, none⟩) L.length vc) := FD4.cell 4 (by simp)
      have k5 := fun (o : Obj) => (show (_ : Option Value) = some (.slice (some ⟨b, 0, none⟩) L.length vc) from (BX.al FD4 o).cell 4 (by simp))
      have hL0 : 0 < L.length := by omega
      have hc0 : (_ : Option Value) = some (.string L[0].f0) := (World.ownsRow.cellAt O4 (0 * 2) (by omega)).trans (get_data L 0 hL0)
      have hc1 : (_ : Option Value) = some (.int .i64 L[0].f1) := (World.ownsRow.cellAt O4 (0 * 2 + 1) (by omega)).trans (get_state L 0 hL0)
      have hy := hLok _ (List.getElem_mem hL0)
      obtain ⟨d0, hd0⟩ : ∃ d0, L[0].f0 = d0 := ⟨_, rfl⟩
      obtain ⟨s0, hs0x⟩ : ∃ s0, L[0].f1 = s0 := ⟨_, rfl⟩
      rw [hd0] at hc0 hy
      rw [hs0x] at hc1 hy
      simp only [Nat.zero_mul, Nat.zero_add] at hc0 hc1
      have hO4 := World.ownsRow.lt O4 b rfl
      have hbase5 := Nat.le_of_lt (Nat.lt_of_le_of_lt hO4.1 hO4.2)
      have hLb : L.length ≤ 100000000 := by omega
      have hby : 24 ≤ 1000 := by decide
      go_wp2
      go_region_law (first | (refine step_appG (w := w5.drew) (f := fSector) rfl (.tmp 49) (.tmp 54) 24 rfl eltSector hby (.slice (some ⟨b, 0, none⟩) L.length vc) L L.length rfl rfl (OO.dr O4) #[.string d0, .int .i64 s0] 53 ⟨d0, s0⟩ 1 rfl rfl rfl (oneSector _) hLb hbase5 ?_; intro v6 w6 O6 hg6 hat6 hbl6; obtain ⟨A6, c6, rfl⟩ := own_form O6; have FD6 := ((BX.drx FD4).al (.cells #[.string d0, .int .i64 s0] 53)).grown hg6 (fun e => hbD (Option.some.inj e)); have g4 : (_ : Option Value) = some (.slice (some ⟨b, 0, none⟩) L.length vc) := FD6.cell 4 (by simp); have hfd := fun j => FD6.free j))
      all_goals
        have hnl : (L ++ [(⟨d0, s0⟩ : DSector)]).length = L.length + 1 := by rw [List.length_append]; rfl
        rw [hnl] at O6 hat6
        have hDl := FD4.lt
        have hv6 : (Value.slice A6 (L.length + 1) c6).ownBlock ≠ some w1.heap.size := by
          rcases hat6 with h | h
          · rw [h]; exact fun e => hbD (Option.some.inj e)
          · rw [h]; intro e; have h2 := Option.some.inj e; have h3 : w5.drew.heap.size = w5.heap.size := rfl; omega
        have F6 := ((BX.drx F4).al (.cells #[.string d0, .int .i64 s0] 53)).grown hg6 (fun e => hbw (Option.some.inj e))
        have S6 := ((SR.dr S5).al (.cells #[.string d0, .int .i64 s0] 53)).grown hg6 (fun e => hbg (Option.some.inj e))
        have hg66 := gr_own (gr_trans (only_drew hgz) (World.grownBy_alloc w5.drew _ _)) hg6 (fun j e => by have := Option.some.inj (show some b = some j from e); omega)
        have FD7 := FD6.put 4 (.slice A6 (L.length + 1) c6)
        have F7 := F6.far (a := ⟨w1.heap.size, 4, none⟩) hzD (.slice A6 (L.length + 1) c6)
        have f0 : (_ : Option Value) = some (.int .i64 c) := FD7.cell 0 (by simp)
        have f1 : (_ : Option Value) = some (.int .i64 h) := FD7.cell 1 (by simp)
        have f2 : (_ : Option Value) = some (.int .i64 p) := FD7.cell 2 (by simp)
        have f3 : (_ : Option Value) = some (.int .i64 s) := FD7.cell 3 (by simp)
        have f4 : (_ : Option Value) = some (.slice (A6) (L.length + 1) c6) := FD7.cell 4 (by simp)
        have z0 : (_ : Option Value) = some (.int .i64 0) := F7.cell 0 (by simp)
        have z1 : (_ : Option Value) = some (.int .i64 0) := F7.cell 1 (by simp)
        have z2 : (_ : Option Value) = some (.int .i64 0) := F7.cell 2 (by simp)
        have z3 : (_ : Option Value) = some (.int .i64 0) := F7.cell 3 (by simp)
        have z4 : (_ : Option Value) = some (.slice none 0 0) := F7.cell 4 (by simp)
        have hfz := fun j => F7.free j
        go_wp2
        have E := set5 (z := w.heap.size) (Nat.le_refl _) (SR.grown S6 (grownBy_set0 w6 w1.heap.size 4 (.slice A6 (L.length + 1) c6)) (fun e => hDg (Option.some.inj e))) (only_setCell hg66 (p := ⟨w1.heap.size, 4, none⟩) (.inr hwD) (.slice A6 (L.length + 1) c6)) (OO.putne O6 (a := ⟨w1.heap.size, 4, none⟩) hv6 (.slice A6 (L.length + 1) c6)) (by omega) (by omega) (.int .i64 c) (.int .i64 h) (.int .i64 p) (.int .i64 s) (.slice (A6) (L.length + 1) c6)
        refine bodyPost_ret (v := .agg #[.int .i64 c, .int .i64 h, .int .i64 p, .int .i64 s, .slice (A6) (L.length + 1) c6]) (by simp [results, Try.results33, go_sem, World.cell?_setCell_other, z0, z1, z2, z3, z4]) rfl ⟨c, h, p, s, (L ++ [⟨d0, s0⟩]), _, rfl, by omega, by omega, by omega, by omega, by rw [hnl]; exact E.1, by rw [hnl]; omega, bent_app L ⟨d0, s0⟩ hLok (by show d0.size ≤ 40; omega) (by show 0 ≤ s0 ∧ s0 ≤ 5; omega), E.2.1.more (by omega), E.2.2⟩
    · have am := among_any [-1, 3, 0, 1] w5.heap.size 4 4 rfl g n cc _ B A l (w5.alloc (.cells #[.int .i64 (-1), .int .i64 3, .int .i64 0, .int .i64 1] 2)) (S5.al _) hn ((grown_rd hr hgz hBg hB).alloc hB5 _) hBg (by rw [World.size_alloc]; exact Nat.le_succ_of_le hB5) (by omega) hn2 (by decide) (by decide) (CP.made w5 [.int .i64 (-1), .int .i64 3, .int .i64 0, .int .i64 1] 2) (by omega)
      go_wp2_with (go_at_call 32; (with_reducible refine am.mono ?_); rintro e w6 ⟨st, rfl, hst, S6, hg6⟩; have hg66 := gr_trans (gr_trans hgz (World.grownBy_alloc w5 _ _)) hg6; have FD6 := BX.past (BX.al FD4 _) hg6 (by omega); have F6 := BX.past (BX.al F4 _) hg6 (by omega); have O6 := OO.past (OO.al O4 _) hg6 (by omega); have g3 : (_ : Option Value) = some (.int .i64 s) := FD6.cell 3 (by simp); have hfd := fun j => FD6.free j; have FD7 := FD6.put 3 (.int .i64 st); have F7 := F6.far (a := ⟨w1.heap.size, 3, none⟩) hzD (.int .i64 st); have f0 : (_ : Option Value) = some (.int .i64 c) := FD7.cell 0 (by simp); have f1 : (_ : Option Value) = some (.int .i64 h) := FD7.cell 1 (by simp); have f2 : (_ : Option Value) = some (.int .i64 p) := FD7.cell 2 (by simp); have f3 : (_ : Option Value) = some (.int .i64 st) := FD7.cell 3 (by simp); have f4 : (_ : Option Value) = some (.slice (some ⟨b, 0, none⟩) L.length vc) := FD7.cell 4 (by simp); have z0 : (_ : Option Value) = some (.int .i64 0) := F7.cell 0 (by simp); have z1 : (_ : Option Value) = some (.int .i64 0) := F7.cell 1 (by simp); have z2 : (_ : Option Value) = some (.int .i64 0) := F7.cell 2 (by simp); have z3 : (_ : Option Value) = some (.int .i64 0) := F7.cell 3 (by simp); have z4 : (_ : Option Value) = some (.slice none 0 0) := F7.cell 4 (by simp); have hfz := fun j => F7.free j)
      simp at hst
      have E := set5 (z := w.heap.size) (Nat.le_refl _) (SR.grown S6 (grownBy_set0 w6 w1.heap.size 3 (.int .i64 st)) (fun e => hDg (Option.some.inj e))) (only_setCell hg66 (p := ⟨w1.heap.size, 3, none⟩) (.inr hwD) (.int .i64 st)) (OO.putne O6 (a := ⟨w1.heap.size, 3, none⟩) (fun e => hbD (Option.some.inj e)) (.int .i64 st)) (by omega) (by omega) (.int .i64 c) (.int .i64 h) (.int .i64 p) (.int .i64 st) (.slice (some ⟨b, 0, none⟩) L.length vc)
      refine bodyPost_ret (v := .agg #[.int .i64 c, .int .i64 h, .int .i64 p, .int .i64 st, .slice (some ⟨b, 0, none⟩) L.length vc]) (by simp [results, Try.results33, go_sem, World.cell?_setCell_other, z0, z1, z2, z3, z4]) rfl ⟨c, h, p, st, L, _, rfl, by omega, by omega, by omega, by omega, E.1, by omega, (fun x hx => by have := hLok x hx; omega), E.2.1.more (by omega), E.2.2⟩
    · have k4 : (_ : Option Value) = some (.slice (some ⟨b, 0, none⟩) L.length vc) := FD4.cell 4 (by simp)
      have k3 : (_ : Option Value) = some (.int .i64 s) := FD4.cell 3 (by simp)
      obtain ⟨NB, hnb, hnb32, hnb8, _⟩ := szB_nat hs.1 hs.2
      have lb := fun W => l12Bytes_any s hs.1 hs.2 W
      rw [hnb] at lb
      have hw1 : IntKind.i64.wrap ((NB : Int) - 1) = ((NB - 1 : Nat) : Int) := by rw [IntWalk.i64_in _ (by omega)]; omega
      have hzr := l01Zeros_any (NB - 1) w5.drew (by omega)
      have hzs : (zerosB (NB - 1)).size ≤ 32 := by rw [zerosB_size]; omega
      obtain ⟨ZB, hZB⟩ : ∃ ZB, zerosB (NB - 1) = ZB := ⟨_, rfl⟩
      rw [hZB] at hzs hzr
      have hno : ¬ 9223372036854775807 < 1 + ZB.size := by omega
      have hcat : (((⟨#[65]⟩ : ByteArray) ++ ZB)).size = ZB.size + 1 := by rw [ByteArray.size_append]; show 1 + ZB.size = ZB.size + 1; omega
      go_wp2
      go_region_law (go_simp; first | (go_at_call 16; refine (lb _).mono ?_; rintro e w8 ⟨rfl, rfl⟩) | (go_at_call 51; refine hzr.mono ?_; rintro e w6 ⟨rfl, hx6⟩; have O6 := own_later (OO.dr O4) hx6 (Nat.le_refl _); have FD6 := (BX.drx FD4).below hx6 FD4.lt; have F6 := (BX.drx F4).below hx6 F4.lt; have S6 := (SR.dr S5).below hx6 hg5l; have hg6 := gr_below (only_drew hgz) (hx6.mono hgz.size); have r4 : (_ : Option Value) = some (.slice (some ⟨b, 0, none⟩) L.length vc) := FD6.cell 4 (by simp); obtain ⟨u0, hu0⟩ := own_some O6 (k * 2) j0; have hz0 := World.ownsRow.frozenAt O6 (k * 2); have hs6 := World.ownsRow.stored O6 (k * 2) (.string ((⟨#[65]⟩ : ByteArray) ++ ZB)); obtain ⟨u1, hu1⟩ := own_some hs6.1 (k * 2 + 1) j1; have hz1 := World.ownsRow.frozenAt hs6.1 (k * 2 + 1)))
      all_goals
        have hs7 := World.ownsRow.stored hs6.1 (k * 2 + 1) (.int .i64 3)
        have O7 := hs7.1
        have FD7 := (FD6.grown hs6.2 (fun e => hbD (Option.some.inj e))).grown hs7.2 (fun e => hbD (Option.some.inj e))
        have F7 := (F6.grown hs6.2 (fun e => hbw (Option.some.inj e))).grown hs7.2 (fun e => hbw (Option.some.inj e))
        have S7 := (S6.grown hs6.2 (fun e => hbg (Option.some.inj e))).grown hs7.2 (fun e => hbg (Option.some.inj e))
        have hg7 := gr_own (gr_own hg6 hs6.2 (fun j e => by have := Option.some.inj (show some b = some j from e); omega)) hs7.2 (fun j e => by have := Option.some.inj (show some b = some j from e); omega)
        have hPL := setS L k hk ⟨((⟨#[65]⟩ : ByteArray) ++ ZB), 3⟩
        replace O7 : OO _ _ _ _ _ _ (putV (flat fSector L) (k * 2) (fSector ⟨((⟨#[65]⟩ : ByteArray) ++ ZB), 3⟩)) := O7
        rw [hPL] at O7
        have hl7 : (L.set k ⟨((⟨#[65]⟩ : ByteArray) ++ ZB), 3⟩).length = L.length := List.length_set
        clear hs7 hs6
        generalize ((w6.setCell ⟨b, k * 2, none⟩ (.string ((⟨#[65]⟩ : ByteArray) ++ ZB))).setCell ⟨b, k * 2 + 1, none⟩ (.int .i64 3)) = w7 at O7 FD7 F7 S7 hg7 ⊢
        have f0 : (_ : Option Value) = some (.int .i64 c) := FD7.cell 0 (by simp)
        have f1 : (_ : Option Value) = some (.int .i64 h) := FD7.cell 1 (by simp)
        have f2 : (_ : Option Value) = some (.int .i64 p) := FD7.cell 2 (by simp)
        have f3 : (_ : Option Value) = some (.int .i64 s) := FD7.cell 3 (by simp)
        have f4 : (_ : Option Value) = some (.slice (some ⟨b, 0, none⟩) L.length vc) := FD7.cell 4 (by simp)
        have z0 : (_ : Option Value) = some (.int .i64 0) := F7.cell 0 (by simp)
        have z1 : (_ : Option Value) = some (.int .i64 0) := F7.cell 1 (by simp)
        have z2 : (_ : Option Value) = some (.int .i64 0) := F7.cell 2 (by simp)
        have z3 : (_ : Option Value) = some (.int .i64 0) := F7.cell 3 (by simp)
        have z4 : (_ : Option Value) = some (.slice none 0 0) := F7.cell 4 (by simp)
        have hfz := fun j => F7.free j
        go_wp2
        have E := set5 (z := w.heap.size) (Nat.le_refl _) S7 hg7 O7 (by omega) (by omega) (.int .i64 c) (.int .i64 h) (.int .i64 p) (.int .i64 s) (.slice (some ⟨b, 0, none⟩) L.length vc)
        refine bodyPost_ret (v := .agg #[.int .i64 c, .int .i64 h, .int .i64 p, .int .i64 s, .slice (some ⟨b, 0, none⟩) L.length vc]) (by simp [results, Try.results33, go_sem, World.cell?_setCell_other, z0, z1, z2, z3, z4]) rfl ⟨c, h, p, s, L.set k ⟨((⟨#[65]⟩ : ByteArray) ++ ZB), 3⟩, _, rfl, by omega, by omega, by omega, by omega, by rw [hl7]; exact E.1, by rw [hl7]; omega, bent_ok L k _ hk hLok (by simp only [hcat]; omega) ⟨by show (0 : Int) ≤ 3; decide, by show (3 : Int) ≤ 5; decide⟩, E.2.1.more (by omega), E.2.2⟩
    · have am := among_any [0, 9, 2] w5.heap.size 3 3 rfl g n cc _ B A l (w5.alloc (.cells #[.int .i64 0, .int .i64 9, .int .i64 2] 2)) (S5.al _) hn ((grown_rd hr hgz hBg hB).alloc hB5 _) hBg (by rw [World.size_alloc]; exact Nat.le_succ_of_le hB5) (by omega) hn2 (by decide) (by decide) (CP.made w5 [.int .i64 0, .int .i64 9, .int .i64 2] 2) (by omega)
      go_wp2_with (go_at_call 32; (with_reducible refine am.mono ?_); rintro e w6 ⟨st, rfl, hst, S6, hg6⟩; have hg66 := gr_trans (gr_trans hgz (World.grownBy_alloc w5 _ _)) hg6; have FD6 := BX.past (BX.al FD4 _) hg6 (by omega); have F6 := BX.past (BX.al F4 _) hg6 (by omega); have O6 := OO.past (OO.al O4 _) hg6 (by omega); have g0 : (_ : Option Value) = some (.int .i64 c) := FD6.cell 0 (by simp); have hfd := fun j => FD6.free j; have FD7 := FD6.put 0 (.int .i64 st); have F7 := F6.far (a := ⟨w1.heap.size, 0, none⟩) hzD (.int .i64 st); have f0 : (_ : Option Value) = some (.int .i64 st) := FD7.cell 0 (by simp); have f1 : (_ : Option Value) = some (.int .i64 h) := FD7.cell 1 (by simp); have f2 : (_ : Option Value) = some (.int .i64 p) := FD7.cell 2 (by simp); have f3 : (_ : Option Value) = some (.int .i64 s) := FD7.cell 3 (by simp); have f4 : (_ : Option Value) = some (.slice (some ⟨b, 0, none⟩) L.length vc) := FD7.cell 4 (by simp); have z0 : (_ : Option Value) = some (.int .i64 0) := F7.cell 0 (by simp); have z1 : (_ : Option Value) = some (.int .i64 0) := F7.cell 1 (by simp); have z2 : (_ : Option Value) = some (.int .i64 0) := F7.cell 2 (by simp); have z3 : (_ : Option Value) = some (.int .i64 0) := F7.cell 3 (by simp); have z4 : (_ : Option Value) = some (.slice none 0 0) := F7.cell 4 (by simp); have hfz := fun j => F7.free j)
      simp at hst
      have E := set5 (z := w.heap.size) (Nat.le_refl _) (SR.grown S6 (grownBy_set0 w6 w1.heap.size 0 (.int .i64 st)) (fun e => hDg (Option.some.inj e))) (only_setCell hg66 (p := ⟨w1.heap.size, 0, none⟩) (.inr hwD) (.int .i64 st)) (OO.putne O6 (a := ⟨w1.heap.size, 0, none⟩) (fun e => hbD (Option.some.inj e)) (.int .i64 st)) (by omega) (by omega) (.int .i64 st) (.int .i64 h) (.int .i64 p) (.int .i64 s) (.slice (some ⟨b, 0, none⟩) L.length vc)
      refine bodyPost_ret (v := .agg #[.int .i64 st, .int .i64 h, .int .i64 p, .int .i64 s, .slice (some ⟨b, 0, none⟩) L.length vc]) (by simp [results, Try.results33, go_sem, World.cell?_setCell_other, z0, z1, z2, z3, z4]) rfl ⟨st, h, p, s, L, _, rfl, by omega, by omega, by omega, by omega, E.1, by omega, (fun x hx => by have := hLok x hx; omega), E.2.1.more (by omega), E.2.2⟩
end Go.Proofs.Ytcfeelecfmepaaa
namespace Go.Proofs.Ytcfeelecfmepaaa
set_option linter.unusedVariables false
open Go.RowKit

theorem SR.box {w : World} (A : Option Addr) (n c : Nat) : SR (w.alloc (.cells #[.slice A n c, .int .i64 0, .int .u64 0] 62)) w.heap.size A n c 0 :=
  ⟨0, 0, Nat.le_refl _, BX.made w 62 [.slice A n c, .int .i64 0, .int .u64 0]⟩
theorem below_gr {w w' : World} {B g : Nat} (hg : w.grownBy w' (some g)) (hB : B ≤ w.heap.size) (h : B ≤ g) : Below B w w' := (Below.refl B w).grown hg hB (fun k hk => by injection hk with hk; omega)
set_option maxHeartbeats 1000000 in
theorem from_any (A : Option Addr) (n c : Nat) (w : World) :
    Calls Try.prog 13 #[.slice A n c] w fun e w' => ∃ g, e = .returned (.pointer (some ⟨g, 0, none⟩)) ∧ w.heap.size ≤ g ∧ SR w' g A n c 0 ∧ Below w.heap.size w w' := by
  go_enter Try.func13, Try.ntmps13
  go_wp2
  go_ret
  exact ⟨w.heap.size, rfl, Nat.le_refl _, SR.box A n c, (by repeat (first | exact Below.refl _ _ | refine below_step ?_ (by assumption) | assumption | refine Below.drew ?_ | refine below_drewN ?_ _ | refine below_alloc ?_ _ | refine Below.setCell ?_ (by simp; try omega) _))⟩

set_option maxHeartbeats 400000 in
theorem long_any (A : Option Addr) (n c : Nat) (w : World) (hn : n ≤ maxLen) : Calls Try.prog 4 #[.slice A n c] w fun e w' => e = .returned (.bool (decide (1048576 < n))) ∧ w = w' := by
  unfold maxLen at hn
  by_cases h : 1048576 < n
  · have h1 : (1048576 : Int) < (n : Int) := by omega
    rw [decide_eq_true h]
    go_enter Try.func4, Try.ntmps4
    go_wp2
    go_ret
    exact ⟨rfl, rfl⟩
  · have h1 : ¬ (1048576 : Int) < (n : Int) := by omega
    rw [decide_eq_false h]
    go_enter Try.func4, Try.ntmps4
    go_wp2
    go_ret
    exact ⟨rfl, rfl⟩

theorem below_step2 {B : Nat} {a w w' : World} (h : Below B a w) (k : Below B w w') : Below B a w' := h.trans k
end Go.Proofs.Ytcfeelecfmepaaa
