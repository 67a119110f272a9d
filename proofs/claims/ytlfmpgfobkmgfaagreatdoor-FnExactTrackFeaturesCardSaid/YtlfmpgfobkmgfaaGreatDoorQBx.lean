/- Regions that draw their order and call what makes memory: one walk for every order. -/
import Derived.Test.YtlfmpgfobkmgfaaGreatDoorBxM
import Derived.Test.YtlfmpgfobkmgfaaGreatDoorStep
import Derived.Lib.QuietBelow
namespace Go.Proofs.YtlfmpgfobkmgfaaGreatDoor
open Go.RowKit
set_option linter.unusedVariables false

/-- The world w with more draws and more blocks. -/
def gw (w : World) (p : Regrown) : World := Sort.grow (redrawn w p.d) p.os
section
variable {w : World} {p : Regrown}
theorem gw_below (w : World) (p : Regrown) : Below w.heap.size w (Sort.grow (redrawn w p.d) p.os) := below_regrown w p.d p.os
theorem CP.gw {g : Nat} {vs : List Value} (h : CP w g vs) (p : Regrown) : CP (Sort.grow (redrawn w p.d) p.os) g vs := h.next (gw_below w p)
theorem Rd.gw {size n : Nat} {A : Option Addr} {xs : List Value} (h : Rd w w.heap.size size A n xs) (p : Regrown) : Rd (Sort.grow (redrawn w p.d) p.os) (Sort.grow (redrawn w p.d) p.os).heap.size size A n xs := (h.below (gw_below w p)).more (gw_below w p).size
theorem gw_cell {a : Addr} {v : Value} (h : w.cell? a = some v) : ∀ d os, (Sort.grow (redrawn w d) os).cell? a = some v := fun d os => cell_regrown h d os
end
section
variable {P : Program} {f : FuncId} {args : Array Value} {w W : World} {v : Value}
theorem qb_below (p : Regrown) (h : Calls P f args (Sort.grow (redrawn w p.d) p.os) fun e w' => e = .returned v ∧ Below (Sort.grow (redrawn w p.d) p.os).heap.size (Sort.grow (redrawn w p.d) p.os) w') :
    Calls P f args (Sort.grow (redrawn w p.d) p.os) fun e w'' => e = .returned v ∧ ∃ q : Regrown, w'' = Sort.grow (redrawn w q.d) q.os := Calls.regrown_of h
theorem qb_same (p : Regrown) (h : Calls P f args (Sort.grow (redrawn w p.d) p.os) fun e w' => e = .returned v ∧ Sort.grow (redrawn w p.d) p.os = w') :
    Calls P f args (Sort.grow (redrawn w p.d) p.os) fun e w'' => e = .returned v ∧ ∃ q : Regrown, w'' = Sort.grow (redrawn w q.d) q.os := h.mono fun _ _ ⟨he, hw⟩ => ⟨he, p, hw.symm⟩
theorem qb_draw (p : Regrown) (h : Calls P f args (Sort.grow (redrawn w p.d) p.os) fun e w' => e = .returned v ∧ ∃ n, w' = (Sort.grow (redrawn w p.d) p.os).drewN n) :
    Calls P f args (Sort.grow (redrawn w p.d) p.os) fun e w'' => e = .returned v ∧ ∃ q : Regrown, w'' = Sort.grow (redrawn w q.d) q.os := h.mono fun _ _ ⟨he, n, hw⟩ => ⟨he, ⟨p.d + n, p.os⟩, hw⟩
end
end Go.Proofs.YtlfmpgfobkmgfaaGreatDoor
