/- Walks: packing by runs (impl). -/
import Derived.Test.YtlfmpgfobkmgfaaGreatDoorW12
namespace Go.Proofs.YtlfmpgfobkmgfaaGreatDoor
open Go.RowKit
set_option linter.unusedVariables false

theorem impl_cells2 (a b : Nat) (x y : Int) (hx : x = a) (hy : y = b) (ha : a < 256) (hb : b < 256) : (#[Value.int .u8 x, Value.int .u8 y] : Array Value).toList = bcells [UInt8.ofNat a, UInt8.ofNat b] := by
  subst hx hy
  simp only [bcells, List.map_cons, List.map_nil, ofNat_lt a ha, ofNat_lt b hb]
theorem impl_cells1 (a : Nat) (x : Int) (hx : x = a) (ha : a < 256) : (#[Value.int .u8 x] : Array Value).toList = bcells [UInt8.ofNat a] := by
  subst hx
  simp only [bcells, List.map_cons, List.map_nil, ofNat_lt a ha]

end Go.Proofs.YtlfmpgfobkmgfaaGreatDoor
