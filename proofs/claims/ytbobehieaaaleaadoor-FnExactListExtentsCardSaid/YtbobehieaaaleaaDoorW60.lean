/- Walks: a new disc (impl). -/
import Derived.Test.YtbobehieaaaleaaDoorW31
import Derived.Test.YtbobehieaaaleaaDoorStep
import Derived.Deep.RegionWith
namespace Go.Proofs.YtbobehieaaaleaaDoor
open Go.RowKit
set_option linter.unusedVariables false

theorem CP.put {w : World} {g : Nat} {vs : List Value} (p : CP w g vs) {a : Addr} (ha : g ≠ a.block) (u : Value) : CP (w.setCell a u) g vs := fun j h =>
  (World.cell?_setCell_other w a ⟨g, j, none⟩ u (by intro e; exact ha (by rw [e]))).trans (p j h)
theorem FillC.far {w : World} {g N m : Nat} {e : TypeId} {xs : List Value} (h : FillC w g e N xs m) {a : Addr} (ha : g ≠ a.block) (u : Value) : FillC (w.setCell a u) g e N xs m := by
  obtain ⟨cs, hg, hr⟩ := h
  exact ⟨cs, (Below.heap_setCell _ _ _ _ (fun e => ha e)).trans hg, hr⟩
theorem FillC.al {w : World} {g N m : Nat} {e : TypeId} {xs : List Value} (h : FillC w g e N xs m) (o : Obj) : FillC (w.alloc o) g e N xs m := h.below (below_alloc (Below.refl _ _) o) h.lt
theorem FillC.of_cells (w : World) (cs : Array Value) (e : TypeId) (xs : List Value) : FillC (w.alloc (.cells cs e)) w.heap.size e cs.size xs 0 := ⟨cs, heap_alloc_new w _, rfl, fun j h => absurd h (by omega)⟩

def miss (n : Nat) : DSector := ⟨zerosB n, 3⟩
def secN (c h p : Int) : Nat := (c * h * p).toNat
def newS (c h p s : Int) : List DSector := List.replicate (secN c h p) (miss (szB s).toNat)
theorem newS_len (c h p s : Int) : (newS c h p s).length = secN c h p := by simp [newS]

end Go.Proofs.YtbobehieaaaleaaDoor
