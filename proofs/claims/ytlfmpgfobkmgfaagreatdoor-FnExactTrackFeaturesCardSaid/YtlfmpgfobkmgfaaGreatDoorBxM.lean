/- Boxes and rows, without the program (for seats that lack W61, Put, W120, D1). -/
import Derived.Test.YtlfmpgfobkmgfaaGreatDoorMem5
import Derived.Test.YtlfmpgfobkmgfaaGreatDoorStep
import Derived.Test.YtlfmpgfobkmgfaaGreatDoorW1
import Derived.Deep.RegionLaw
import Derived.Deep.RegionHeld3
import Derived.Deep.DeepCutAuto
import Derived.Lib.QuietBelow
namespace Go.Proofs.YtlfmpgfobkmgfaaGreatDoor
open Go.RowKit
set_option linter.unusedVariables false

section
variable {P : Program} {w : World} {base size bytes : Nat} {e : TypeId} {z v : Value} {α : Type} {f : α → List Value}
/-- append of one struct as a step of a region that draws its order. -/
theorem step_appF {ops : Array Oper} {o : Oper} {a : Act} {K : Act → World → Prop} {Q : Exit → Act → World → Prop} {E0 : Prop} (hgd : o.guard = none) (s x : Operand) (t : TypeId)
    (ho : o.op = .call { callee := .builtin .append, args := #[s, x], argTypes := #[t, t] }) (E : Elt P t e size bytes z) (hby : bytes ≤ 1000)
    (v : Value) (l : List α) (n : Nat) (hln : n = l.length) (hsv : a.eval s = v) (hown : w.ownsRow base e size v n (flat f l)) (cs : Array Value) (te : TypeId) (y : α) (c : Nat) (hx : a.eval x = .slice (some ⟨w.heap.size, 0, none⟩) 1 c)
    (hcs : cs.toList = f y) (hlen : (f y).length = size) (h1 : ∀ u ∈ f y, u.oneCell' = true) (hsz : l.length ≤ 100000000) (hbase : base ≤ w.heap.size)
    (h : ∀ v' w', w'.ownsRow base e size v' (n + 1) (flat f (l ++ [y])) → Below base w w' → K (a.put o.dst v') w') :
    if Region.wanted o (yielded ops a.tmps) = true then Oper.wp P o a (w.alloc (.cells cs te)) K Q else E0 := by
  subst hln
  have hw : Region.wanted o (yielded ops a.tmps) = true := by simp [Region.wanted, hgd]
  rw [if_pos hw]
  have hcl : cs.size = size := by rw [← Array.length_toList, hcs, hlen]
  have hbb : (l.length + 1) * bytes ≤ 140737488355328 := by
    have := Nat.mul_le_mul (show l.length + 1 ≤ 100000001 by omega) hby
    omega
  have hsrc : Src P size t (.slice (some ⟨w.heap.size, 0, none⟩) 1 c) 1 (f y) (w.alloc (.cells cs te)) := by
    rw [← hcs]
    refine Src.lit E.ht w cs te 1 c (by omega) ?_
    rw [hcs]
    exact h1
  obtain ⟨v', w', hr, h2, h3, h5⟩ := run_append_src (P := P) (w.alloc (.cells cs te)) base t t o.type e z size bytes E v l.length (flat f l) (World.ownsRow.alloc hown _) _ 1 (f y) hsrc (by unfold maxLen; omega) hbb (by rw [World.size_alloc]; omega)
  unfold Oper.wp execOp
  simp only [ho, resolve, invoke, builtin, Sem.run_bind, Sem.run_pure, Result.andThen_ok, List.map_toArray, List.map_cons, List.map_nil, hsv, hx, hr]
  refine h _ _ ?_ ((Below.refl base w).alloc hbase _ |>.trans (below_of_own (World.ownsRow.alloc hown _) (by rw [World.size_alloc]; omega) h3))
  rw [flat_snoc]
  exact h2
end

/-- Block g is made of these cells. -/
def BX (w : World) (g : Nat) (t : TypeId) (vs : List Value) : Prop := w.heap[g]? = some (.cells vs.toArray t (0, 0))
section
variable {w w' : World} {g : Nat} {t : TypeId} {vs : List Value}
theorem BX.cell (h : BX w g t vs) (j : Nat) (hj : j < vs.length) : w.cell? ⟨g, j, none⟩ = some vs[j] := by
  rw [cell_of_row w g j vs.toArray t (0, 0) h]
  simp
theorem BX.free (h : BX w g t vs) (j : Nat) : w.frozen? ⟨g, j, none⟩ = false := by
  unfold BX at h
  simp [World.frozen?, h]
theorem BX.lt (h : BX w g t vs) : g < w.heap.size := (Array.getElem?_eq_some_iff.1 h).1
theorem BX.below {B : Nat} (h : BX w g t vs) (hb : Below B w w') (hg : g < B) : BX w' g t vs := (hb.block g hg).trans h
theorem BX.put (h : BX w g t vs) (j : Nat) (u : Value) : BX (w.setCell ⟨g, j, none⟩ u) g t (vs.set j u) := by
  unfold BX at h ⊢
  simp [World.setCell, Array.getElem?_modify, h]
theorem BX.far (h : BX w g t vs) {a : Addr} (ha : g ≠ a.block) (u : Value) : BX (w.setCell a u) g t vs := (Below.heap_setCell _ _ _ _ (fun e => ha e)).trans h
theorem BX.al (h : BX w g t vs) (o : Obj) : BX (w.alloc o) g t vs := (Below.heap_alloc w o g h.lt).trans h
theorem BX.made (w : World) (t : TypeId) (vs : List Value) : BX (w.alloc (.cells vs.toArray t)) w.heap.size t vs := heap_alloc_new w _
theorem BX.made1 (w : World) (o : Obj) (t : TypeId) (vs : List Value) : BX ((w.alloc o).alloc (.cells vs.toArray t)) (w.heap.size + 1) t vs := by
  have := BX.made (w.alloc o) t vs
  rwa [World.size_alloc] at this
end

theorem BX.cp {w : World} {g : Nat} {t : TypeId} {vs : List Value} (h : BX w g t vs) : CP w g vs := fun j hj => h.cell j hj
theorem BB.put {w W : World} (h : BB w W) {a : Addr} (ha : w.heap.size ≤ a.block) (u : Value) : BB w (W.setCell a u) := Below.setCell h ha u
theorem OO.put {w : World} {base size n : Nat} {e : TypeId} {v : Value} {xs : List Value} (h : OO w base e size v n xs) {a : Addr} (ha : a.block < base) (u : Value) : OO (w.setCell a u) base e size v n xs := ownsRow_setCell_below h ha u
theorem OO.base {w : World} {base base' size n : Nat} {e : TypeId} {v : Value} {xs : List Value} (h : OO w base e size v n xs) (hb : base' ≤ base) : OO w base' e size v n xs := own_base h hb
theorem OO.putne {w : World} {base size n : Nat} {e : TypeId} {v : Value} {xs : List Value} (h : OO w base e size v n xs) {a : Addr} (ha : v.ownBlock ≠ some a.block) (u : Value) : OO (w.setCell a u) base e size v n xs := by
  obtain ⟨h1, h2⟩ := h
  refine ⟨h1, ?_⟩
  rcases h2 with h2 | ⟨g, cap, cur, hv, hg, hh, r⟩
  · exact .inl h2
  · refine .inr ⟨g, cap, cur, hv, hg, (Below.heap_setCell _ _ _ _ (fun e => ha ?_)).trans hh, r⟩
    subst hv
    rw [← e]
    rfl
theorem OO.ne_old {w' : World} {base size n g : Nat} {e : TypeId} {v : Value} {xs : List Value} (h : OO w' base e size v n xs) (hg : g < base) : v.ownBlock ≠ some g := fun hv => by
  have := (World.ownsRow.lt h g hv).1
  omega

section
variable {P : Program} {w : World} {base size bytes : Nat} {e : TypeId} {z v : Value} {α : Type} {f : α → List Value}
/-- append of one struct as a step of a region that draws its order; where the row may lie is told. -/
theorem step_appG {ops : Array Oper} {o : Oper} {a : Act} {K : Act → World → Prop} {Q : Exit → Act → World → Prop} {E0 : Prop} (hgd : o.guard = none) (s x : Operand) (t : TypeId)
    (ho : o.op = .call { callee := .builtin .append, args := #[s, x], argTypes := #[t, t] }) (E : Elt P t e size bytes z) (hby : bytes ≤ 1000)
    (v : Value) (l : List α) (n : Nat) (hln : n = l.length) (hsv : a.eval s = v) (hown : w.ownsRow base e size v n (flat f l)) (cs : Array Value) (te : TypeId) (y : α) (c : Nat) (hx : a.eval x = .slice (some ⟨w.heap.size, 0, none⟩) 1 c)
    (hcs : cs.toList = f y) (hlen : (f y).length = size) (h1 : ∀ u ∈ f y, u.oneCell' = true) (hsz : l.length ≤ 100000000) (hbase : base ≤ w.heap.size)
    (h : ∀ v' w', w'.ownsRow base e size v' (l ++ [y]).length (flat f (l ++ [y])) → (w.alloc (.cells cs te)).grownBy w' v.ownBlock → (v'.ownBlock = v.ownBlock ∨ v'.ownBlock = some (w.heap.size + 1)) → Below base w w' → K (a.put o.dst v') w') :
    if Region.wanted o (yielded ops a.tmps) = true then Oper.wp P o a (w.alloc (.cells cs te)) K Q else E0 := by
  subst hln
  have hw : Region.wanted o (yielded ops a.tmps) = true := by simp [Region.wanted, hgd]
  rw [if_pos hw]
  have hcl : cs.size = size := by rw [← Array.length_toList, hcs, hlen]
  have hbb : (l.length + 1) * bytes ≤ 140737488355328 := by
    have := Nat.mul_le_mul (show l.length + 1 ≤ 100000001 by omega) hby
    omega
  have hsrc : Src P size t (.slice (some ⟨w.heap.size, 0, none⟩) 1 c) 1 (f y) (w.alloc (.cells cs te)) := by
    rw [← hcs]
    refine Src.lit E.ht w cs te 1 c (by omega) ?_
    rw [hcs]
    exact h1
  obtain ⟨v', w', hr, h2, h3, h5⟩ := run_append_src (P := P) (w.alloc (.cells cs te)) base t t o.type e z size bytes E v l.length (flat f l) (World.ownsRow.alloc hown _) _ 1 (f y) hsrc (by unfold maxLen; omega) hbb (by rw [World.size_alloc]; omega)
  unfold Oper.wp execOp
  simp only [ho, resolve, invoke, builtin, Sem.run_bind, Sem.run_pure, Result.andThen_ok, List.map_toArray, List.map_cons, List.map_nil, hsv, hx, hr]
  refine h _ _ ?_ h3 (by simpa using h5) ((Below.refl base w).alloc hbase _ |>.trans (below_of_own (World.ownsRow.alloc hown _) (by rw [World.size_alloc]; omega) h3))
  rw [List.length_append, flat_snoc]
  exact h2
end
theorem BX.grown {w w' : World} {g : Nat} {t : TypeId} {vs : List Value} {row : Option Nat} (h : BX w g t vs) (hg : w.grownBy w' row) (hne : row ≠ some g) : BX w' g t vs := (hg.block g h.lt (fun e => hne e.symm)).trans h
theorem BX.drx {w : World} {g : Nat} {t : TypeId} {vs : List Value} (h : BX w g t vs) : BX w.drew g t vs := h
theorem CP.below {w w' : World} {g B : Nat} {vs : List Value} (p : CP w g vs) (hb : Below B w w') (hg : g < B) : CP w' g vs := fun j h => (hb.cell (p := ⟨g, j, none⟩) hg).trans (p j h)
theorem inB_yes {x a b : Int} (g : inB x a b = true) : a ≤ x ∧ x ≤ b := by
  unfold inB at g
  simp only [Bool.and_eq_true, decide_eq_true_eq] at g
  exact g
theorem gr_trans {a b c : World} {row : Option Nat} (h : a.grownBy b row) (k : b.grownBy c row) : a.grownBy c row :=
  ⟨k.os.trans h.os, k.tape.trans h.tape, k.output.trans h.output, Nat.le_trans h.size k.size, fun i hi hne => (k.block i (Nat.lt_of_lt_of_le hi h.size) hne).trans (h.block i hi hne)⟩
theorem gr_below {a w w' : World} {g : Nat} (h : a.grownBy w (some g)) (hb : Below a.heap.size w w') : a.grownBy w' (some g) :=
  ⟨hb.os.trans h.os, hb.tape.trans h.tape, hb.output.trans h.output, Nat.le_trans h.size hb.size, fun i hi hne => (hb.block i hi).trans (h.block i hi hne)⟩
theorem gr_own {a w w' : World} {g : Nat} {row : Option Nat} (h : a.grownBy w (some g)) (k : w.grownBy w' row) (hr : ∀ j, row = some j → a.heap.size ≤ j) : a.grownBy w' (some g) := h.andThen k (fun j hj => .inl (hr j hj))
theorem OO.past {w w' : World} {base size n b g cap : Nat} {xs : List Value} {e : TypeId} (O : OO w base e size (.slice (some ⟨b, 0, none⟩) n cap) n xs) (hg : w.grownBy w' (some g)) (h : b ≠ g) : OO w' base e size (.slice (some ⟨b, 0, none⟩) n cap) n xs := World.ownsRow.kept O hg (.inr (fun e => h (Option.some.inj e)))
theorem BX.past {w w' : World} {D g : Nat} {t : TypeId} {vs : List Value} (F : BX w D t vs) (hg : w.grownBy w' (some g)) (h : D ≠ g) : BX w' D t vs := F.grown hg (fun e => h (Option.some.inj e).symm)
theorem grownBy_set0 (W : World) (b j : Nat) (u : Value) : W.grownBy (W.setCell ⟨b, j, none⟩ u) (some b) := only_setCell (World.grownBy.refl W (some b)) (p := ⟨b, j, none⟩) (.inl rfl) u
theorem below_gr {w w' : World} {B g : Nat} (hg : w.grownBy w' (some g)) (hB : B ≤ w.heap.size) (h : B ≤ g) : Below B w w' := (Below.refl B w).grown hg hB (fun k hk => by injection hk with hk; omega)
theorem BX.dr0 {w : World} {g : Nat} {t : TypeId} {vs : List Value} (h : BX w g t vs) : BX w.drew g t vs := h
theorem BX.dnx {w : World} {g : Nat} {t : TypeId} {vs : List Value} (h : BX w g t vs) (n : Nat) : BX (w.drewN n) g t vs := h
end Go.Proofs.YtlfmpgfobkmgfaaGreatDoor
