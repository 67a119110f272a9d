/- copy of structs into an owned row of structs. -/
import Derived.Test.YtcfeelecfmepaaaMem5
import Derived.Laws.CopyRow
import Derived.Deep.RegionLaw
namespace Go.Proofs.Ytcfeelecfmepaaa
open Go.RowKit
set_option linter.unusedVariables false

section
variable {α : Type}
theorem flat_con (f : α → List Value) (x : α) (l : List α) : flat f (x :: l) = f x ++ flat f l := by simp [flat]
theorem flat_take (f : α → List Value) (size : Nat) (hf : ∀ x, (f x).length = size) : ∀ (l : List α) (q : Nat), flat f (l.take q) = (flat f l).take (q * size)
  | [], q => by simp [flat]
  | x :: l, 0 => by simp [flat]
  | x :: l, q + 1 => by
    have ih := flat_take f size hf l q
    rw [List.take_succ_cons, flat_con, flat_con, ih, Nat.succ_mul, List.take_append, hf, List.take_of_length_le (l := f x) (by rw [hf]; omega), Nat.add_sub_cancel]
theorem flat_drop (f : α → List Value) (size : Nat) (hf : ∀ x, (f x).length = size) : ∀ (l : List α) (q : Nat), flat f (l.drop q) = (flat f l).drop (q * size)
  | [], q => by simp [flat]
  | x :: l, 0 => by simp
  | x :: l, q + 1 => by
    have ih := flat_drop f size hf l q
    rw [List.drop_succ_cons, flat_con, ih, Nat.succ_mul, List.drop_append, hf, List.drop_of_length_le (l := f x) (by rw [hf]; omega), Nat.add_sub_cancel, List.nil_append]
end
/-- A list with another one laid over it. -/
def putT {α : Type} (l : List α) (q : Nat) (ss : List α) : List α := l.take q ++ ss ++ l.drop (q + ss.length)
theorem putT_len {α : Type} {l : List α} {q : Nat} {ss : List α} (h : q + ss.length ≤ l.length) : (putT l q ss).length = l.length := by
  simp only [putT, List.length_append, List.length_take, List.length_drop]
  omega
theorem putT_in {α : Type} {l : List α} {q : Nat} {ss : List α} {p : α → Prop} (h1 : ∀ x ∈ l, p x) (h2 : ∀ x ∈ ss, p x) : ∀ x ∈ putT l q ss, p x := by
  intro x hx
  simp only [putT, List.mem_append] at hx
  rcases hx with (hx | hx) | hx
  · exact h1 x (List.mem_of_mem_take hx)
  · exact h2 x hx
  · exact h1 x (List.mem_of_mem_drop hx)
theorem putT_nil {α : Type} (l : List α) (q : Nat) : putT l q [] = l := by simp [putT]
/-- One more element laid. -/
theorem putT_snoc {α : Type} {l : List α} {q : Nat} {ss : List α} (x : α) (h : q + ss.length < l.length) : (putT l q ss).set (q + ss.length) x = putT l q (ss ++ [x]) := by
  have hq : (l.take q).length = q := by rw [List.length_take]; omega
  unfold putT
  rw [List.set_append_right _ _ (by rw [List.length_append, hq]; omega), List.length_append, hq, Nat.sub_self]
  rw [show q + ss.length = q + ss.length from rfl, List.drop_eq_getElem_cons h, List.set_cons_zero, List.length_append, List.length_singleton]
  simp only [List.append_assoc, List.cons_append, List.nil_append]
  rw [Nat.add_assoc]

section
variable {P : Program} {w : World} {size bytes : Nat} {e : TypeId} {z : Value} {t : TypeId}
theorem run_copy_rowF (E : Elt P t e size bytes z) (sT ty : TypeId) (g o dLen dCap : Nat) (a : Addr) (sLen sCap : Nat) (cur : Array Value) (te : TypeId) (cs : List Value)
    (hg : w.heap[g]? = some (.cells cur te (0, 0))) (n : Nat) (hn : n = Nat.min sLen dLen) (hcs : cs.length = n * size)
    (hsrc : ∀ j v, cs[j]? = some v → w.cell? (a.add j) = some v) (hfit : o + cs.length ≤ cur.size) (h1 : ∀ v ∈ cs, v.oneCell' = true) :
    (Builtin.copy_ #[t, sT] ty #[.slice (some ⟨g, o, none⟩) dLen dCap, .slice (some a) sLen sCap]).run P w =
      .ok (goInt n) (w.setRow g (cur.toList.take o ++ cs ++ cur.toList.drop (o + cs.length)).toArray) := by
  obtain ⟨ht, ⟨i, hi, hz, hsize, hby⟩, hzs, hsz⟩ := E
  have hl := run_loadCells_list (P := P) w a cs hsrc
  have hst := run_storeCells_at P g o te cs 0 cur w hg (by simpa using hfit) h1
  subst hsize
  rw [hcs] at hl
  simp [Builtin.copy_, run_underlying ht, Builtin.lenOf, Builtin.firstCells, sizeOf, typeInfo, hi, ← hn, hl, hst]

theorem own_copy (E : Elt P t e size bytes z) {α : Type} {f : α → List Value} (hf : ∀ x, (f x).length = size) (h1 : ∀ x, ∀ u ∈ f x, u.oneCell' = true)
    {base cap N q p c dcap g b off B : Nat} (l ss : List α) (hl : N = l.length) (hpl : p = ss.length) (hp : 0 < p) (hq : q + p ≤ N)
    (ho : w.ownsRow base e size (.slice (some ⟨g, 0, none⟩) N cap) N (flat f l)) (hr : Rd w B size (some ⟨b, off, none⟩) p (flat f ss)) (sT ty : TypeId) :
    ∃ w', (Builtin.copy_ #[t, sT] ty #[.slice (some ⟨g, q * size, none⟩) p dcap, .slice (some ⟨b, off, none⟩) p c]).run P w = .ok (goInt p) w' ∧
      w'.ownsRow base e size (.slice (some ⟨g, 0, none⟩) N cap) N (flat f (putT l q ss)) ∧ w.grownBy w' (some g) := by
  obtain ⟨ho1, ho2⟩ := ho
  rcases ho2 with ⟨hv, h0⟩ | ⟨g', cap', cur, hv, hb, hh, hnc, hcm, hsz, htk⟩
  · cases hv
  obtain ⟨rfl, rfl⟩ : g = g' ∧ cap = cap' := by
    simp only [Value.slice.injEq, Option.some.injEq, Addr.mk.injEq, and_true, true_and] at hv
    exact hv
  obtain ⟨b', off', he, hbB, hc⟩ := hr.2 hp
  obtain ⟨rfl, rfl⟩ : b = b' ∧ off = off' := by
    simp only [Option.some.injEq, Addr.mk.injEq, and_true] at he
    exact he
  have hcl : (flat f ss).length = p * size := hr.1
  have hN : (q + p) * size ≤ N * size := Nat.mul_le_mul_right _ hq
  have hcap : N * size ≤ cap * size := Nat.mul_le_mul_right _ hnc
  rw [Nat.add_mul] at hN
  have hrun := run_copy_rowF (P := P) (w := w) E sT ty g (q * size) p dcap ⟨b, off, none⟩ p c cur e (flat f ss) hh p (by simp) hcl (fun j v hj => by
      have hlt : j < (flat f ss).length := (List.getElem?_eq_some_iff.1 hj).1
      have h2 := hc j hlt
      have h3 : (⟨b, off, none⟩ : Addr).add j = ⟨b, off + j, none⟩ := by
        unfold Addr.add
        split
        · rename_i h0; rw [h0]; rfl
        · rfl
      rw [h3, h2]
      rw [List.getElem?_eq_getElem hlt] at hj
      exact hj) (by omega) (fun u hu => by
      obtain ⟨x, _, hx⟩ := flat_list f ss u hu
      exact h1 x u hx)
  refine ⟨_, hrun, ⟨?_, .inr ⟨g, cap, _, rfl, hb, setRow_heap w g cur _ e _ hh, hnc, hcm, ?_, ?_⟩⟩, ⟨rfl, rfl, rfl, by simp [World.setRow], fun k _ hk => setRow_other w g k _ (fun e => hk (by rw [e]))⟩⟩
  · rw [flat_length f size hf, putT_len (by omega), hl]
  · simp only [List.size_toArray, List.length_append, List.length_take, List.length_drop, Array.length_toList]
    omega
  · have e1 : flat f (putT l q ss) = (flat f l).take (q * size) ++ flat f ss ++ (flat f l).drop (q * size + (flat f ss).length) := by
      unfold putT
      rw [flat_append, flat_append, flat_take f size hf, flat_drop f size hf, Nat.add_mul, hcl, hpl]
    rw [e1, ← htk]
    simp only [List.take_append, List.length_append, List.length_take, Array.length_toList, List.take_take]
    rw [show min (q * size) (N * size) = q * size by omega, show min (N * size) (q * size) = q * size by omega, show min (q * size) cur.size = q * size by omega]
    rw [List.take_of_length_le (l := flat f ss) (by omega), List.drop_take]

theorem wpList_copyF {ops : Array Oper} {rest : List Oper} {o : Oper} {a : Act} {Q : Exit → Act → World → Prop} (hgd : o.guard = none) (d s : Operand) (sT : TypeId)
    (ho : o.op = .call { callee := .builtin .copy, args := #[d, s], argTypes := #[t, sT] }) (E : Elt P t e size bytes z) {α : Type} {f : α → List Value} (hf : ∀ x, (f x).length = size) (h1 : ∀ x, ∀ u ∈ f x, u.oneCell' = true)
    {base cap N q p c dcap g b off B : Nat} (l ss : List α) (hl : N = l.length) (hpl : p = ss.length) (hp : 0 < p) (hq : q + p ≤ N)
    (hd : a.eval d = .slice (some ⟨g, q * size, none⟩) p dcap) (hs : a.eval s = .slice (some ⟨b, off, none⟩) p c)
    (hown : w.ownsRow base e size (.slice (some ⟨g, 0, none⟩) N cap) N (flat f l)) (hr : Rd w B size (some ⟨b, off, none⟩) p (flat f ss))
    (h : ∀ w', w'.ownsRow base e size (.slice (some ⟨g, 0, none⟩) N cap) N (flat f (putT l q ss)) → w.grownBy w' (some g) → wpList P ops Q rest (a.put o.dst (goInt p)) w') :
    wpList P ops Q (o :: rest) a w := by
  refine wpList_plain hgd fun K hK => ?_
  obtain ⟨w', hrun, h2, h3⟩ := own_copy (P := P) (w := w) (dcap := dcap) (c := c) E hf h1 l ss hl hpl hp hq hown hr sT o.type
  unfold Oper.wp
  simp only [execOp, ho, resolve, invoke, builtin, Sem.run_bind, Sem.run_pure, Result.andThen_ok, List.map_toArray, List.map_cons, List.map_nil, hd, hs, hrun]
  exact hK _ _ (h w' h2 h3)
theorem step_copyF {ops : Array Oper} {o : Oper} {a : Act} {K : Act → World → Prop} {Q : Exit → Act → World → Prop} {E0 : Prop} (hgd : o.guard = none) (d s : Operand) (sT : TypeId)
    (ho : o.op = .call { callee := .builtin .copy, args := #[d, s], argTypes := #[t, sT] }) (E : Elt P t e size bytes z) {α : Type} {f : α → List Value} (hf : ∀ x, (f x).length = size) (h1 : ∀ x, ∀ u ∈ f x, u.oneCell' = true)
    {base cap N q p c dcap g b off B : Nat} (l ss : List α) (hl : N = l.length) (hpl : p = ss.length) (hp : 0 < p) (hq : q + p ≤ N)
    (hd : a.eval d = .slice (some ⟨g, q * size, none⟩) p dcap) (hs : a.eval s = .slice (some ⟨b, off, none⟩) p c)
    (hown : w.ownsRow base e size (.slice (some ⟨g, 0, none⟩) N cap) N (flat f l)) (hr : Rd w B size (some ⟨b, off, none⟩) p (flat f ss))
    (h : ∀ w', w'.ownsRow base e size (.slice (some ⟨g, 0, none⟩) N cap) N (flat f (putT l q ss)) → w.grownBy w' (some g) → K (a.put o.dst (goInt p)) w') :
    if Region.wanted o (yielded ops a.tmps) = true then Oper.wp P o a w K Q else E0 := by
  have hw : Region.wanted o (yielded ops a.tmps) = true := by simp [Region.wanted, hgd]
  rw [if_pos hw]
  obtain ⟨w', hrun, h2, h3⟩ := own_copy (P := P) (w := w) (dcap := dcap) (c := c) E hf h1 l ss hl hpl hp hq hown hr sT o.type
  unfold Oper.wp
  simp only [execOp, ho, resolve, invoke, builtin, Sem.run_bind, Sem.run_pure, Result.andThen_ok, List.map_toArray, List.map_cons, List.map_nil, hd, hs, hrun]
  exact h w' h2 h3
end
end Go.Proofs.Ytcfeelecfmepaaa
