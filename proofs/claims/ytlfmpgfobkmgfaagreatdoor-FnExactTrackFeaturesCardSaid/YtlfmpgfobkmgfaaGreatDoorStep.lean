/- Facts on worlds that laws carry from call to call, in one form: '.al' (a new block), '.dr' (a draw), '.next' (a call). -/
import Derived.Test.YtlfmpgfobkmgfaaGreatDoorOpen
import Derived.Test.YtlfmpgfobkmgfaaGreatDoorMem5
namespace Go.Proofs.YtlfmpgfobkmgfaaGreatDoor
open Go.RowKit
set_option linter.unusedVariables false

/-- Block g begins with these values. -/
def CP (w : World) (g : Nat) (vs : List Value) : Prop := ∀ j (h : j < vs.length), w.cell? ⟨g, j, none⟩ = some vs[j]
section
variable {w w' : World} {g : Nat} {vs : List Value}
theorem CP.al (p : CP w g vs) (o : Obj) : CP (w.alloc o) g vs := fun j h => (World.cell?_alloc_lt w o ⟨g, j, none⟩ (cell_spot (p j h)).2).trans (p j h)
theorem CP.dr (p : CP w g vs) : CP w.drew g vs := p
theorem CP.dn (p : CP w g vs) (k : Nat) : CP (w.drewN k) g vs := p
theorem CP.next (p : CP w g vs) (hx : Below w.heap.size w w') : CP w' g vs := fun j h => (hx.cell (p := ⟨g, j, none⟩) (cell_spot (p j h)).2).trans (p j h)
theorem CP.far (p : CP w g vs) {row : Option Nat} (hg : w.grownBy w' row) (hne : row ≠ some g) : CP w' g vs := fun j h => by
  rw [World.grownBy.cell_far hg ⟨g, j, none⟩ (cell_spot (p j h)).2 (fun e => hne e.symm)]
  exact p j h
theorem CP.ne_row (p : CP w g vs) (h0 : 0 < vs.length) {w' : World} {e : TypeId} {size n : Nat} {v : Value} {xs : List Value} (h : w'.ownsRow w.heap.size e size v n xs) : v.ownBlock ≠ some g := fun hv => by
  have h1 := (World.ownsRow.lt h g hv).1
  have h2 := (cell_spot (p 0 h0)).2
  simp at h2
  omega
theorem CP.made1 (w : World) (o : Obj) (vs : List Value) (t : TypeId) : CP ((w.alloc o).alloc (.cells vs.toArray t)) (w.heap.size + 1) vs := fun j h => by
  rw [cell_of_row ((w.alloc o).alloc (.cells vs.toArray t)) (w.heap.size + 1) j vs.toArray t (0, 0) (by have := heap_alloc_new (w.alloc o) (.cells vs.toArray t); rwa [World.size_alloc] at this)]
  simp
theorem CP.made (w : World) (vs : List Value) (t : TypeId) : CP (w.alloc (.cells vs.toArray t)) w.heap.size vs := fun j h => by
  rw [cell_of_row (w.alloc (.cells vs.toArray t)) w.heap.size j vs.toArray t (0, 0) (heap_alloc_new w _)]
  simp
end
/-- The world W is the world w with more blocks. -/
def BB (w W : World) : Prop := Below w.heap.size w W
section
variable {w W W' : World}
theorem BB.al (h : BB w W) (o : Obj) : BB w (W.alloc o) := below_alloc h _
theorem BB.dr (h : BB w W) : BB w W.drew := Below.drew h
theorem BB.dn (h : BB w W) (k : Nat) : BB w (W.drewN k) := below_drewN h k
theorem BB.next (h : BB w W) (hx : Below W.heap.size W W') : BB w W' := below_step h hx
theorem BB.start (w : World) : BB w w := Below.refl _ _
end
/-- A slice that is read, in a world's own blocks. -/
def RR (w : World) (size : Nat) (A : Option Addr) (n : Nat) (xs : List Value) : Prop := Rd w w.heap.size size A n xs
section
variable {w w' : World} {size n : Nat} {A : Option Addr} {xs : List Value}
theorem RR.al (h : RR w size A n xs) (o : Obj) : RR (w.alloc o) size A n xs := (Rd.alloc h (Nat.le_refl _) o).more (by rw [World.size_alloc]; omega)
theorem RR.dr (h : RR w size A n xs) : RR w.drew size A n xs := h
theorem RR.dn (h : RR w size A n xs) (k : Nat) : RR (w.drewN k) size A n xs := h
theorem RR.next (h : RR w size A n xs) (hx : Below w.heap.size w w') : RR w' size A n xs := (Rd.below h hx).more hx.size
theorem RR.own {base : Nat} {e : TypeId} {c : Nat} (h : w.ownsRow base e size (.slice A n c) n xs) : RR w size A n xs := Rd.of_own h
end
/-- A row of the call's own. -/
def OO (w : World) (base : Nat) (e : TypeId) (size : Nat) (v : Value) (n : Nat) (xs : List Value) : Prop := w.ownsRow base e size v n xs
section
variable {w w' : World} {base size n : Nat} {e : TypeId} {v : Value} {xs : List Value}
theorem OO.al (h : OO w base e size v n xs) (o : Obj) : OO (w.alloc o) base e size v n xs := World.ownsRow.alloc h o
theorem OO.dr (h : OO w base e size v n xs) : OO w.drew base e size v n xs := h
theorem OO.dn (h : OO w base e size v n xs) (k : Nat) : OO (w.drewN k) base e size v n xs := h
theorem OO.next (h : OO w base e size v n xs) (hx : Below w.heap.size w w') : OO w' base e size v n xs := own_later h hx (Nat.le_refl _)
theorem OO.ne_box (h : OO w base e size v n xs) : v.ownBlock ≠ some w.heap.size := fun hv => by
  have := (World.ownsRow.lt h _ hv).2
  omega
end
theorem OOf {w : World} {base size n : Nat} {e : TypeId} {v : Value} {xs : List Value} (h : OO w base e size v n xs) : w.ownsRow base e size v n xs := h
theorem subs_neg (xs ys : List Nat) (a : Int) (h0 : 0 ≤ a) (h : subs a xs = -1) : subs a (xs ++ ys) = -1 := by rw [subs_append xs ys a h0, if_pos (by omega)]
theorem subs_pos (xs ys : List Nat) (a y : Int) (h0 : 0 ≤ a) (h : subs a xs = y ∧ 0 ≤ y) : subs a (xs ++ ys) = subs y ys := by rw [subs_append xs ys a h0, if_neg (by omega), h.1]
theorem ne_flip {a b : Option Nat} (h : a = none ∨ a ≠ b) : b = none ∨ b ≠ a := by
  rcases h with h | h
  · subst h
    cases b with
    | none => exact .inl rfl
    | some x => exact .inr (by simp)
  · exact .inr (fun e => h e.symm)
theorem BB.mark {w W W' : World} (h : BB w W) {e : TypeId} {size n : Nat} {v : Value} {xs : List Value} (o : W.ownsRow w.heap.size e size v n xs) (hg : W.grownBy W' v.ownBlock) : BB w W' :=
  Below.trans h (below_of_own o h.size hg)
theorem RR.back {w W : World} {size n : Nat} {A : Option Addr} {xs : List Value} (r : RR w size A n xs) (h : BB w W) : RR W size A n xs := (Rd.below r h).more (Below.size h)
end Go.Proofs.YtlfmpgfobkmgfaaGreatDoor
