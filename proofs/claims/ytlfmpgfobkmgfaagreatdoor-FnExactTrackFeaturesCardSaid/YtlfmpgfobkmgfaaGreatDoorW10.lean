/- Walks: unpacking with references. -/
import Derived.Test.YtlfmpgfobkmgfaaGreatDoorUnpM
import Derived.Test.YtlfmpgfobkmgfaaGreatDoorW2
import Derived.Deep.DeepMust
namespace Go.Proofs.YtlfmpgfobkmgfaaGreatDoor
open Go.RowKit
set_option linter.unusedVariables false

theorem eltB : Elt Tryz.prog 85 5 1 1 (.int .u8 0) := Elt.mk' Tryz.underlying85 (by kernel_rfl) rfl (by decide)

/-- What the program's loop keeps: a text that has grown too long stands for no result. -/
def UnpI (s : ByteArray) (f at_ : Nat) (out : List UInt8) : Prop := (out.length ≤ 4096 → unpG s f at_ out = unp s) ∧ (4096 < out.length → unp s = none)
theorem UnpI.next {s : ByteArray} {f at_ at' : Nat} {out out' : List UInt8} (h : UnpI s (f + 1) at_ out) (hl : out.length ≤ 4096) (hlt : at_ < s.size) (hs : unpStep s at_ out = some (at', out')) : UnpI s f at' out' :=
  ⟨fun h1 => unpG_go s f at_ at' out out' hlt (h.1 hl) hs (by omega), fun h1 => unpG_long s f at_ at' out out' hlt (h.1 hl) hs h1⟩
theorem cpy_step (d n : Nat) (out R : List UInt8) (h : cpyBack d (n + 1) out = R) (hd : 0 < d) (hl : d ≤ out.length) : cpyBack d n (out ++ [out[out.length - d]'(by omega)]) = R := by
  rw [cpyBack, List.getD_eq_getElem?_getD, List.getElem?_eq_getElem (by omega)] at h
  exact h

end Go.Proofs.YtlfmpgfobkmgfaaGreatDoor
