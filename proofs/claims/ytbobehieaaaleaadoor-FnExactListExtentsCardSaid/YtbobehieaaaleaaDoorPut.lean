/- Facts behind a store. -/
import Derived.Test.YtbobehieaaaleaaDoorW61
import Derived.Test.YtbobehieaaaleaaDoorStep
import Derived.Test.YtbobehieaaaleaaDoorMem5
namespace Go.Proofs.YtbobehieaaaleaaDoor
open Go.RowKit
set_option linter.unusedVariables false

theorem BX.cp {w : World} {g : Nat} {t : TypeId} {vs : List Value} (h : BX w g t vs) : CP w g vs := fun j hj => h.cell j hj
theorem BB.put {w W : World} (h : BB w W) {a : Addr} (ha : w.heap.size ≤ a.block) (u : Value) : BB w (W.setCell a u) := Below.setCell h ha u
theorem OO.put {w : World} {base size n : Nat} {e : TypeId} {v : Value} {xs : List Value} (h : OO w base e size v n xs) {a : Addr} (ha : a.block < base) (u : Value) : OO (w.setCell a u) base e size v n xs := ownsRow_setCell_below h ha u
theorem OO.base {w : World} {base base' size n : Nat} {e : TypeId} {v : Value} {xs : List Value} (h : OO w base e size v n xs) (hb : base' ≤ base) : OO w base' e size v n xs := own_base h hb
theorem OO.putne {w : World} {base size n : Nat} {e : TypeId} {v : Value} {xs : List Value} (h : OO w base e size v n xs) {a : Addr} (ha : v.ownBlock ≠ some a.block) (u : Value) : OO (w.setCell a u) base e size v n xs := by
  obtain ⟨h1, h2⟩ := h
  refine ⟨h1, ?_⟩
  rcases h2 with h2 | ⟨g, cap, cur, hv, hg, hh, r⟩
  · exact .inl h2
  · refine .inr ⟨g, cap, cur, hv, hg, (Below.heap_setCell _ _ _ _ (fun e => ha ?_)).trans hh, r⟩
    subst hv
    rw [← e]
    rfl
theorem OO.ne_old {w' : World} {base size n g : Nat} {e : TypeId} {v : Value} {xs : List Value} (h : OO w' base e size v n xs) (hg : g < base) : v.ownBlock ≠ some g := fun hv => by
  have := (World.ownsRow.lt h g hv).1
  omega
end Go.Proofs.YtbobehieaaaleaaDoor
