/-
  No cell of these rows narrows 'for every input' (looked for: loops, veiled, ifaces, maps, wideKeys, modest, calm, conditions, laid).
  DERIVED. THE GIVEN ROWS OF THIS SEAT. 5 by the template 'for every input the law returns true; each argument reads behind the call as it read before'; 0 by the template 'total and deterministic' (their statements: YtipkckoejkmhfaaTotals.lean).
  GIVEN WITH THE SEED: the statements are not yours to turn. If you find one false, say at which input.
  Laid BY PROGRAM, IN A SANDBOX (cutbox-rows.mjs): the forced cells as the released guide's own fill.sh prints them over the translation fe3af438ed26ede7… (all of the seat's roots in one cut). By AI agents, Wed Nov 11 2026. No macro, syntax, notation, axiom, sorry.
-/
import Derived.Test.YtipkckoejkmhfaaChecked
import GoSem.Claim
import GoSem.ClaimJoined
import GoSem.ClaimMapViews
import Derived.JoinedTies
import Derived.KernelRfl
namespace Go.Proofs.Ytipkckoejkmhfaa
/- THE CELL 'sum', in the pinned program and in every row, IS THE sha256 OF THE DUMP (.gsa) THAT YtipkckoejkmhfaaProg.lean LOADS. Nothing in Lean hashes anything: it is a label: what it is worth is what the hold of that sum in a sandbox is worth. -/
noncomputable def Try.pinned : Pinned := { name := "ytipkckoejkmhfaa", sum := "fe3af438ed26ede79cc421b7d249abc6c6f81ab7a9c6ec070b90efff083f67fc", checked := Try.checked }
namespace Rows
def none {H : Type} : Left H := { results := [], args := [] }

/-- 'laws.FnExactLayoutOf': WHATEVER THE INPUT: true; the input reads as it did. -/
def fnExactLayoutOfSpec : ChangeSpec := { name := "fnExactLayoutOf", fn := fun _ => fun
  | [d] => { results := [.lit (.bool true)], args := [d] }
  | _ => none }
def fnExactLayoutOfRow : OpenClaim := { program := "ytipkckoejkmhfaa", sum := "fe3af438ed26ede79cc421b7d249abc6c6f81ab7a9c6ec070b90efff083f67fc", func := "loop.example/g00899/laws.FnExactLayoutOf", spec := "fnExactLayoutOf", inPlace := ["internal/abi.NoEscape", "internal/bytealg.MakeNoZero"], apart := false }
def FnExactLayoutOfSaid : Prop := fnExactLayoutOfRow.holds Try.pinned (OpenSpec.ofChange fnExactLayoutOfSpec)

/-- ITS FALSE NEIGHBOUR: 'it returns false'. Refute it at one input. -/
def fnExactLayoutOfWrong : ChangeSpec := { name := "fnExactLayoutOf", fn := fun _ => fun
  | [d] => { results := [.lit (.bool false)], args := [d] }
  | _ => none }
def FnExactLayoutOfWrongFalsely : Prop := fnExactLayoutOfRow.holds Try.pinned (OpenSpec.ofChange fnExactLayoutOfWrong)

/-- 'laws.FnExactLinkAt': WHATEVER THE INPUT: true; the input reads as it did. -/
def fnExactLinkAtSpec : ChangeSpec := { name := "fnExactLinkAt", fn := fun _ => fun
  | [d1, d2] => { results := [.lit (.bool true)], args := [d1, d2] }
  | _ => none }
def fnExactLinkAtRow : OpenClaim := { program := "ytipkckoejkmhfaa", sum := "fe3af438ed26ede79cc421b7d249abc6c6f81ab7a9c6ec070b90efff083f67fc", func := "loop.example/g00899/laws.FnExactLinkAt", spec := "fnExactLinkAt", inPlace := ["internal/abi.NoEscape", "internal/bytealg.MakeNoZero"], apart := false }
def FnExactLinkAtSaid : Prop := fnExactLinkAtRow.holds Try.pinned (OpenSpec.ofChange fnExactLinkAtSpec)

/-- ITS FALSE NEIGHBOUR: 'it returns false'. Refute it at one input. -/
def fnExactLinkAtWrong : ChangeSpec := { name := "fnExactLinkAt", fn := fun _ => fun
  | [d1, d2] => { results := [.lit (.bool false)], args := [d1, d2] }
  | _ => none }
def FnExactLinkAtWrongFalsely : Prop := fnExactLinkAtRow.holds Try.pinned (OpenSpec.ofChange fnExactLinkAtWrong)

/-- 'laws.FnExactExtentsOn': WHATEVER THE INPUT: true; the input reads as it did. -/
def fnExactExtentsOnSpec : ChangeSpec := { name := "fnExactExtentsOn", fn := fun _ => fun
  | [d] => { results := [.lit (.bool true)], args := [d] }
  | _ => none }
def fnExactExtentsOnRow : OpenClaim := { program := "ytipkckoejkmhfaa", sum := "fe3af438ed26ede79cc421b7d249abc6c6f81ab7a9c6ec070b90efff083f67fc", func := "loop.example/g00899/laws.FnExactExtentsOn", spec := "fnExactExtentsOn", inPlace := ["internal/abi.NoEscape", "internal/bytealg.MakeNoZero"], apart := false }
def FnExactExtentsOnSaid : Prop := fnExactExtentsOnRow.holds Try.pinned (OpenSpec.ofChange fnExactExtentsOnSpec)

/-- ITS FALSE NEIGHBOUR: 'it returns false'. Refute it at one input. -/
def fnExactExtentsOnWrong : ChangeSpec := { name := "fnExactExtentsOn", fn := fun _ => fun
  | [d] => { results := [.lit (.bool false)], args := [d] }
  | _ => none }
def FnExactExtentsOnWrongFalsely : Prop := fnExactExtentsOnRow.holds Try.pinned (OpenSpec.ofChange fnExactExtentsOnWrong)

/-- 'laws.FnExactChainFrom': WHATEVER THE INPUT: true; the input reads as it did. -/
def fnExactChainFromSpec : ChangeSpec := { name := "fnExactChainFrom", fn := fun _ => fun
  | [d1, d2] => { results := [.lit (.bool true)], args := [d1, d2] }
  | _ => none }
def fnExactChainFromRow : OpenClaim := { program := "ytipkckoejkmhfaa", sum := "fe3af438ed26ede79cc421b7d249abc6c6f81ab7a9c6ec070b90efff083f67fc", func := "loop.example/g00899/laws.FnExactChainFrom", spec := "fnExactChainFrom", inPlace := ["internal/abi.NoEscape", "internal/bytealg.MakeNoZero"], apart := false }
def FnExactChainFromSaid : Prop := fnExactChainFromRow.holds Try.pinned (OpenSpec.ofChange fnExactChainFromSpec)

/-- ITS FALSE NEIGHBOUR: 'it returns false'. Refute it at one input. -/
def fnExactChainFromWrong : ChangeSpec := { name := "fnExactChainFrom", fn := fun _ => fun
  | [d1, d2] => { results := [.lit (.bool false)], args := [d1, d2] }
  | _ => none }
def FnExactChainFromWrongFalsely : Prop := fnExactChainFromRow.holds Try.pinned (OpenSpec.ofChange fnExactChainFromWrong)

/-- 'laws.FnExactAllBlocks': WHATEVER THE INPUT: true; the input reads as it did. -/
def fnExactAllBlocksSpec : ChangeSpec := { name := "fnExactAllBlocks", fn := fun _ => fun
  | [d] => { results := [.lit (.bool true)], args := [d] }
  | _ => none }
def fnExactAllBlocksRow : OpenClaim := { program := "ytipkckoejkmhfaa", sum := "fe3af438ed26ede79cc421b7d249abc6c6f81ab7a9c6ec070b90efff083f67fc", func := "loop.example/g00899/laws.FnExactAllBlocks", spec := "fnExactAllBlocks", inPlace := ["internal/abi.NoEscape", "internal/bytealg.MakeNoZero"], apart := false }
def FnExactAllBlocksSaid : Prop := fnExactAllBlocksRow.holds Try.pinned (OpenSpec.ofChange fnExactAllBlocksSpec)

/-- ITS FALSE NEIGHBOUR: 'it returns false'. Refute it at one input. -/
def fnExactAllBlocksWrong : ChangeSpec := { name := "fnExactAllBlocks", fn := fun _ => fun
  | [d] => { results := [.lit (.bool false)], args := [d] }
  | _ => none }
def FnExactAllBlocksWrongFalsely : Prop := fnExactAllBlocksRow.holds Try.pinned (OpenSpec.ofChange fnExactAllBlocksWrong)

/- THE SECOND FORM. 'bulk': how many values and letters a reading holds, each counted each time it is reached (what is shared counts as often as it is met; a slice's spare places count too). A statement '..UptoSaid' is the law's where the arguments, and the package variables that the reading takes, are together of bulk at most 1048576: NARROWER than '..Said'. Prove '..Said' where nothing that the law and all that it calls make is longer than what came in: it says more and counts as full. Else prove '..UptoSaid'. A law counts once. -/
mutual
def uptoBulk {H : Type} : DataW H → Nat
  | .lit (.string bytes) => bytes.length + 1
  | .lit _ => 1
  | .nil => 1
  | .ptr d => uptoBulk d + 1
  | .slice elems spare => uptoBulkAll elems + uptoBulkAll spare + 1
  | .agg parts => uptoBulkAll parts + 1
  | .iface _ d => uptoBulk d + 1
  | .map entries => uptoBulkEntries entries + 1
  | .held _ => 1
def uptoBulkAll {H : Type} : List (DataW H) → Nat
  | [] => 0
  | d :: r => uptoBulk d + uptoBulkAll r
def uptoBulkEntries {H : Type} : List (Lit × DataW H) → Nat
  | [] => 0
  | x :: r => uptoBulkEntry x + uptoBulkEntries r
def uptoBulkEntry {H : Type} : Lit × DataW H → Nat
  | (.string bytes, d) => bytes.length + uptoBulk d + 1
  | (_, d) => uptoBulk d + 1
 end
def uptoSmall : (H : Type) → List (DataW H) → Bool := fun _ ds => decide (uptoBulkAll ds ≤ 1048576)
def OpenSpec.upto (s : _root_.Go.ChangeSpec) : _root_.Go.OpenSpec := { _root_.Go.OpenSpec.ofChange s with cond := some uptoSmall }

/-- 'laws.FnExactLayoutOf', WHERE WHAT IT READS IS OF BULK AT MOST 1048576: true; the input reads as it did. -/
def fnExactLayoutOfUptoRow : OpenClaim := { program := "ytipkckoejkmhfaa", sum := "fe3af438ed26ede79cc421b7d249abc6c6f81ab7a9c6ec070b90efff083f67fc", func := "loop.example/g00899/laws.FnExactLayoutOf", spec := "fnExactLayoutOf", inPlace := ["internal/abi.NoEscape", "internal/bytealg.MakeNoZero"], apart := false, narrowed := true }
def FnExactLayoutOfUptoSaid : Prop := fnExactLayoutOfUptoRow.holds Try.pinned (OpenSpec.upto fnExactLayoutOfSpec)

/-- 'laws.FnExactLinkAt', WHERE WHAT IT READS IS OF BULK AT MOST 1048576: true; the input reads as it did. -/
def fnExactLinkAtUptoRow : OpenClaim := { program := "ytipkckoejkmhfaa", sum := "fe3af438ed26ede79cc421b7d249abc6c6f81ab7a9c6ec070b90efff083f67fc", func := "loop.example/g00899/laws.FnExactLinkAt", spec := "fnExactLinkAt", inPlace := ["internal/abi.NoEscape", "internal/bytealg.MakeNoZero"], apart := false, narrowed := true }
def FnExactLinkAtUptoSaid : Prop := fnExactLinkAtUptoRow.holds Try.pinned (OpenSpec.upto fnExactLinkAtSpec)

/-- 'laws.FnExactExtentsOn', WHERE WHAT IT READS IS OF BULK AT MOST 1048576: true; the input reads as it did. -/
def fnExactExtentsOnUptoRow : OpenClaim := { program := "ytipkckoejkmhfaa", sum := "fe3af438ed26ede79cc421b7d249abc6c6f81ab7a9c6ec070b90efff083f67fc", func := "loop.example/g00899/laws.FnExactExtentsOn", spec := "fnExactExtentsOn", inPlace := ["internal/abi.NoEscape", "internal/bytealg.MakeNoZero"], apart := false, narrowed := true }
def FnExactExtentsOnUptoSaid : Prop := fnExactExtentsOnUptoRow.holds Try.pinned (OpenSpec.upto fnExactExtentsOnSpec)

/-- 'laws.FnExactChainFrom', WHERE WHAT IT READS IS OF BULK AT MOST 1048576: true; the input reads as it did. -/
def fnExactChainFromUptoRow : OpenClaim := { program := "ytipkckoejkmhfaa", sum := "fe3af438ed26ede79cc421b7d249abc6c6f81ab7a9c6ec070b90efff083f67fc", func := "loop.example/g00899/laws.FnExactChainFrom", spec := "fnExactChainFrom", inPlace := ["internal/abi.NoEscape", "internal/bytealg.MakeNoZero"], apart := false, narrowed := true }
def FnExactChainFromUptoSaid : Prop := fnExactChainFromUptoRow.holds Try.pinned (OpenSpec.upto fnExactChainFromSpec)

/-- 'laws.FnExactAllBlocks', WHERE WHAT IT READS IS OF BULK AT MOST 1048576: true; the input reads as it did. -/
def fnExactAllBlocksUptoRow : OpenClaim := { program := "ytipkckoejkmhfaa", sum := "fe3af438ed26ede79cc421b7d249abc6c6f81ab7a9c6ec070b90efff083f67fc", func := "loop.example/g00899/laws.FnExactAllBlocks", spec := "fnExactAllBlocks", inPlace := ["internal/abi.NoEscape", "internal/bytealg.MakeNoZero"], apart := false, narrowed := true }
def FnExactAllBlocksUptoSaid : Prop := fnExactAllBlocksUptoRow.holds Try.pinned (OpenSpec.upto fnExactAllBlocksSpec)

end Rows
end Go.Proofs.Ytipkckoejkmhfaa
