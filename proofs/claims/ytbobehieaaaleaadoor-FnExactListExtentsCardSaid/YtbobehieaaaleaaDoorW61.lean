/- Walks: a new disc (spec). -/
import Derived.Test.YtbobehieaaaleaaDoorW60
import Derived.Deep.RegionLaw
namespace Go.Proofs.YtbobehieaaaleaaDoor
open Go.RowKit
set_option linter.unusedVariables false

section
variable {P : Program} {w : World} {base size bytes : Nat} {e : TypeId} {z v : Value} {α : Type} {f : α → List Value}
/-- append of one struct as a step of a region that draws its order. -/
theorem step_appF {ops : Array Oper} {o : Oper} {a : Act} {K : Act → World → Prop} {Q : Exit → Act → World → Prop} {E0 : Prop} (hgd : o.guard = none) (s x : Operand) (t : TypeId)
    (ho : o.op = .call { callee := .builtin .append, args := #[s, x], argTypes := #[t, t] }) (E : Elt P t e size bytes z) (hby : bytes ≤ 1000)
    (v : Value) (l : List α) (n : Nat) (hln : n = l.length) (hsv : a.eval s = v) (hown : w.ownsRow base e size v n (flat f l)) (cs : Array Value) (te : TypeId) (y : α) (c : Nat) (hx : a.eval x = .slice (some ⟨w.heap.size, 0, none⟩) 1 c)
    (hcs : cs.toList = f y) (hlen : (f y).length = size) (h1 : ∀ u ∈ f y, u.oneCell' = true) (hsz : l.length ≤ 100000000) (hbase : base ≤ w.heap.size)
    (h : ∀ v' w', w'.ownsRow base e size v' (n + 1) (flat f (l ++ [y])) → Below base w w' → K (a.put o.dst v') w') :
    if Region.wanted o (yielded ops a.tmps) = true then Oper.wp P o a (w.alloc (.cells cs te)) K Q else E0 := by
  subst hln
  have hw : Region.wanted o (yielded ops a.tmps) = true := by simp [Region.wanted, hgd]
  rw [if_pos hw]
  have hcl : cs.size = size := by rw [← Array.length_toList, hcs, hlen]
  have hbb : (l.length + 1) * bytes ≤ 140737488355328 := by
    have := Nat.mul_le_mul (show l.length + 1 ≤ 100000001 by omega) hby
    omega
  have hsrc : Src P size t (.slice (some ⟨w.heap.size, 0, none⟩) 1 c) 1 (f y) (w.alloc (.cells cs te)) := by
    rw [← hcs]
    refine Src.lit E.ht w cs te 1 c (by omega) ?_
    rw [hcs]
    exact h1
  obtain ⟨v', w', hr, h2, h3, h5⟩ := run_append_src (P := P) (w.alloc (.cells cs te)) base t t o.type e z size bytes E v l.length (flat f l) (World.ownsRow.alloc hown _) _ 1 (f y) hsrc (by unfold maxLen; omega) hbb (by rw [World.size_alloc]; omega)
  unfold Oper.wp execOp
  simp only [ho, resolve, invoke, builtin, Sem.run_bind, Sem.run_pure, Result.andThen_ok, List.map_toArray, List.map_cons, List.map_nil, hsv, hx, hr]
  refine h _ _ ?_ ((Below.refl base w).alloc hbase _ |>.trans (below_of_own (World.ownsRow.alloc hown _) (by rw [World.size_alloc]; omega) h3))
  rw [flat_snoc]
  exact h2
end

/-- Block g is made of these cells. -/
def BX (w : World) (g : Nat) (t : TypeId) (vs : List Value) : Prop := w.heap[g]? = some (.cells vs.toArray t (0, 0))
section
variable {w w' : World} {g : Nat} {t : TypeId} {vs : List Value}
theorem BX.cell (h : BX w g t vs) (j : Nat) (hj : j < vs.length) : w.cell? ⟨g, j, none⟩ = some vs[j] := by
  rw [cell_of_row w g j vs.toArray t (0, 0) h]
  simp
theorem BX.free (h : BX w g t vs) (j : Nat) : w.frozen? ⟨g, j, none⟩ = false := by
  unfold BX at h
  simp [World.frozen?, h]
theorem BX.lt (h : BX w g t vs) : g < w.heap.size := (Array.getElem?_eq_some_iff.1 h).1
theorem BX.below {B : Nat} (h : BX w g t vs) (hb : Below B w w') (hg : g < B) : BX w' g t vs := (hb.block g hg).trans h
theorem BX.put (h : BX w g t vs) (j : Nat) (u : Value) : BX (w.setCell ⟨g, j, none⟩ u) g t (vs.set j u) := by
  unfold BX at h ⊢
  simp [World.setCell, Array.getElem?_modify, h]
theorem BX.far (h : BX w g t vs) {a : Addr} (ha : g ≠ a.block) (u : Value) : BX (w.setCell a u) g t vs := (Below.heap_setCell _ _ _ _ (fun e => ha e)).trans h
theorem BX.al (h : BX w g t vs) (o : Obj) : BX (w.alloc o) g t vs := (Below.heap_alloc w o g h.lt).trans h
theorem BX.made (w : World) (t : TypeId) (vs : List Value) : BX (w.alloc (.cells vs.toArray t)) w.heap.size t vs := heap_alloc_new w _
theorem BX.made1 (w : World) (o : Obj) (t : TypeId) (vs : List Value) : BX ((w.alloc o).alloc (.cells vs.toArray t)) (w.heap.size + 1) t vs := by
  have := BX.made (w.alloc o) t vs
  rwa [World.size_alloc] at this
end

end Go.Proofs.YtbobehieaaaleaaDoor
