/-
  No cell of these rows narrows 'for every input' (looked for: loops, veiled, ifaces, maps, wideKeys, modest, calm, conditions, laid).
  DERIVED. THE GIVEN ROWS OF THIS SEAT. 12 by the template 'for every input the law returns true; each argument reads behind the call as it read before'; 0 by the template 'total and deterministic' (their statements: YtfcbcnlkoajpjaaTotals.lean).
  GIVEN WITH THE SEED: the statements are not yours to turn. If you find one false, say at which input.
  Laid BY PROGRAM, IN A SANDBOX (cutbox-rows.mjs): the forced cells as the released guide's own fill.sh prints them over the translation 325594444ae70c5c… (all of the seat's roots in one cut). By AI agents, Wed Nov 11 2026. No macro, syntax, notation, axiom, sorry.
-/
import Derived.Test.YtfcbcnlkoajpjaaChecked
import GoSem.Claim
import GoSem.ClaimJoined
import GoSem.ClaimMapViews
import Derived.JoinedTies
import Derived.KernelRfl
namespace Go.Proofs.Ytfcbcnlkoajpjaa
/- THE CELL 'sum', in the pinned program and in every row, IS THE sha256 OF THE DUMP (.gsa) THAT YtfcbcnlkoajpjaaProg.lean LOADS. Nothing in Lean hashes anything: it is a label: what it is worth is what the hold of that sum in a sandbox is worth. -/
noncomputable def Try.pinned : Pinned := { name := "ytfcbcnlkoajpjaa", sum := "325594444ae70c5c327dde2515d1550437c703bc1388d4cbfeddff6d3ce995df", checked := Try.checked }
namespace Rows
def none {H : Type} : Left H := { results := [], args := [] }

/-- 'laws.FnExactSameDisc': WHATEVER THE INPUT: true; the input reads as it did. -/
def fnExactSameDiscSpec : ChangeSpec := { name := "fnExactSameDisc", fn := fun _ => fun
  | [d1, d2] => { results := [.lit (.bool true)], args := [d1, d2] }
  | _ => none }
def fnExactSameDiscRow : OpenClaim := { program := "ytfcbcnlkoajpjaa", sum := "325594444ae70c5c327dde2515d1550437c703bc1388d4cbfeddff6d3ce995df", func := "loop.example/g00899/laws.FnExactSameDisc", spec := "fnExactSameDisc", apart := false }
def FnExactSameDiscSaid : Prop := fnExactSameDiscRow.holds Try.pinned (OpenSpec.ofChange fnExactSameDiscSpec)

/-- ITS FALSE NEIGHBOUR: 'it returns false'. Refute it at one input. -/
def fnExactSameDiscWrong : ChangeSpec := { name := "fnExactSameDisc", fn := fun _ => fun
  | [d1, d2] => { results := [.lit (.bool false)], args := [d1, d2] }
  | _ => none }
def FnExactSameDiscWrongFalsely : Prop := fnExactSameDiscRow.holds Try.pinned (OpenSpec.ofChange fnExactSameDiscWrong)

/-- 'laws.FnExactUnpackRuns': WHATEVER THE INPUT: true; the input reads as it did. -/
def fnExactUnpackRunsSpec : ChangeSpec := { name := "fnExactUnpackRuns", fn := fun _ => fun
  | [d] => { results := [.lit (.bool true)], args := [d] }
  | _ => none }
def fnExactUnpackRunsRow : OpenClaim := { program := "ytfcbcnlkoajpjaa", sum := "325594444ae70c5c327dde2515d1550437c703bc1388d4cbfeddff6d3ce995df", func := "loop.example/g00899/laws.FnExactUnpackRuns", spec := "fnExactUnpackRuns", inPlace := ["internal/bytealg.MakeNoZero"], apart := false }
def FnExactUnpackRunsSaid : Prop := fnExactUnpackRunsRow.holds Try.pinned (OpenSpec.ofChange fnExactUnpackRunsSpec)

/-- ITS FALSE NEIGHBOUR: 'it returns false'. Refute it at one input. -/
def fnExactUnpackRunsWrong : ChangeSpec := { name := "fnExactUnpackRuns", fn := fun _ => fun
  | [d] => { results := [.lit (.bool false)], args := [d] }
  | _ => none }
def FnExactUnpackRunsWrongFalsely : Prop := fnExactUnpackRunsRow.holds Try.pinned (OpenSpec.ofChange fnExactUnpackRunsWrong)

/-- 'laws.FnExactUnpackGaps': WHATEVER THE INPUT: true; the input reads as it did. -/
def fnExactUnpackGapsSpec : ChangeSpec := { name := "fnExactUnpackGaps", fn := fun _ => fun
  | [d] => { results := [.lit (.bool true)], args := [d] }
  | _ => none }
def fnExactUnpackGapsRow : OpenClaim := { program := "ytfcbcnlkoajpjaa", sum := "325594444ae70c5c327dde2515d1550437c703bc1388d4cbfeddff6d3ce995df", func := "loop.example/g00899/laws.FnExactUnpackGaps", spec := "fnExactUnpackGaps", apart := false }
def FnExactUnpackGapsSaid : Prop := fnExactUnpackGapsRow.holds Try.pinned (OpenSpec.ofChange fnExactUnpackGapsSpec)

/-- ITS FALSE NEIGHBOUR: 'it returns false'. Refute it at one input. -/
def fnExactUnpackGapsWrong : ChangeSpec := { name := "fnExactUnpackGaps", fn := fun _ => fun
  | [d] => { results := [.lit (.bool false)], args := [d] }
  | _ => none }
def FnExactUnpackGapsWrongFalsely : Prop := fnExactUnpackGapsRow.holds Try.pinned (OpenSpec.ofChange fnExactUnpackGapsWrong)

/-- 'laws.FnExactDecodeChunks': WHATEVER THE INPUT: true; the input reads as it did. -/
def fnExactDecodeChunksSpec : ChangeSpec := { name := "fnExactDecodeChunks", fn := fun _ => fun
  | [d] => { results := [.lit (.bool true)], args := [d] }
  | _ => none }
def fnExactDecodeChunksRow : OpenClaim := { program := "ytfcbcnlkoajpjaa", sum := "325594444ae70c5c327dde2515d1550437c703bc1388d4cbfeddff6d3ce995df", func := "loop.example/g00899/laws.FnExactDecodeChunks", spec := "fnExactDecodeChunks", apart := false }
def FnExactDecodeChunksSaid : Prop := fnExactDecodeChunksRow.holds Try.pinned (OpenSpec.ofChange fnExactDecodeChunksSpec)

/-- ITS FALSE NEIGHBOUR: 'it returns false'. Refute it at one input. -/
def fnExactDecodeChunksWrong : ChangeSpec := { name := "fnExactDecodeChunks", fn := fun _ => fun
  | [d] => { results := [.lit (.bool false)], args := [d] }
  | _ => none }
def FnExactDecodeChunksWrongFalsely : Prop := fnExactDecodeChunksRow.holds Try.pinned (OpenSpec.ofChange fnExactDecodeChunksWrong)

/-- 'laws.FnExactSameImage': WHATEVER THE INPUT: true; the input reads as it did. -/
def fnExactSameImageSpec : ChangeSpec := { name := "fnExactSameImage", fn := fun _ => fun
  | [d1, d2] => { results := [.lit (.bool true)], args := [d1, d2] }
  | _ => none }
def fnExactSameImageRow : OpenClaim := { program := "ytfcbcnlkoajpjaa", sum := "325594444ae70c5c327dde2515d1550437c703bc1388d4cbfeddff6d3ce995df", func := "loop.example/g00899/laws.FnExactSameImage", spec := "fnExactSameImage", apart := false }
def FnExactSameImageSaid : Prop := fnExactSameImageRow.holds Try.pinned (OpenSpec.ofChange fnExactSameImageSpec)

/-- ITS FALSE NEIGHBOUR: 'it returns false'. Refute it at one input. -/
def fnExactSameImageWrong : ChangeSpec := { name := "fnExactSameImage", fn := fun _ => fun
  | [d1, d2] => { results := [.lit (.bool false)], args := [d1, d2] }
  | _ => none }
def FnExactSameImageWrongFalsely : Prop := fnExactSameImageRow.holds Try.pinned (OpenSpec.ofChange fnExactSameImageWrong)

/-- 'laws.FnExactSameDevice': WHATEVER THE INPUT: true; the input reads as it did. -/
def fnExactSameDeviceSpec : ChangeSpec := { name := "fnExactSameDevice", fn := fun _ => fun
  | [d1, d2] => { results := [.lit (.bool true)], args := [d1, d2] }
  | _ => none }
def fnExactSameDeviceRow : OpenClaim := { program := "ytfcbcnlkoajpjaa", sum := "325594444ae70c5c327dde2515d1550437c703bc1388d4cbfeddff6d3ce995df", func := "loop.example/g00899/laws.FnExactSameDevice", spec := "fnExactSameDevice", apart := false }
def FnExactSameDeviceSaid : Prop := fnExactSameDeviceRow.holds Try.pinned (OpenSpec.ofChange fnExactSameDeviceSpec)

/-- ITS FALSE NEIGHBOUR: 'it returns false'. Refute it at one input. -/
def fnExactSameDeviceWrong : ChangeSpec := { name := "fnExactSameDevice", fn := fun _ => fun
  | [d1, d2] => { results := [.lit (.bool false)], args := [d1, d2] }
  | _ => none }
def FnExactSameDeviceWrongFalsely : Prop := fnExactSameDeviceRow.holds Try.pinned (OpenSpec.ofChange fnExactSameDeviceWrong)

/-- 'laws.FnExactNewDisc': WHATEVER THE INPUT: true; the input reads as it did. -/
def fnExactNewDiscSpec : ChangeSpec := { name := "fnExactNewDisc", fn := fun _ => fun
  | [d1, d2, d3, d4] => { results := [.lit (.bool true)], args := [d1, d2, d3, d4] }
  | _ => none }
def fnExactNewDiscRow : OpenClaim := { program := "ytfcbcnlkoajpjaa", sum := "325594444ae70c5c327dde2515d1550437c703bc1388d4cbfeddff6d3ce995df", func := "loop.example/g00899/laws.FnExactNewDisc", spec := "fnExactNewDisc", inPlace := ["internal/abi.NoEscape", "internal/bytealg.MakeNoZero"], apart := false }
def FnExactNewDiscSaid : Prop := fnExactNewDiscRow.holds Try.pinned (OpenSpec.ofChange fnExactNewDiscSpec)

/-- ITS FALSE NEIGHBOUR: 'it returns false'. Refute it at one input. -/
def fnExactNewDiscWrong : ChangeSpec := { name := "fnExactNewDisc", fn := fun _ => fun
  | [d1, d2, d3, d4] => { results := [.lit (.bool false)], args := [d1, d2, d3, d4] }
  | _ => none }
def FnExactNewDiscWrongFalsely : Prop := fnExactNewDiscRow.holds Try.pinned (OpenSpec.ofChange fnExactNewDiscWrong)

/-- 'laws.FnExactValidDisc': WHATEVER THE INPUT: true; the input reads as it did. -/
def fnExactValidDiscSpec : ChangeSpec := { name := "fnExactValidDisc", fn := fun _ => fun
  | [d] => { results := [.lit (.bool true)], args := [d] }
  | _ => none }
def fnExactValidDiscRow : OpenClaim := { program := "ytfcbcnlkoajpjaa", sum := "325594444ae70c5c327dde2515d1550437c703bc1388d4cbfeddff6d3ce995df", func := "loop.example/g00899/laws.FnExactValidDisc", spec := "fnExactValidDisc", inPlace := ["internal/abi.NoEscape", "internal/bytealg.MakeNoZero"], apart := false }
def FnExactValidDiscSaid : Prop := fnExactValidDiscRow.holds Try.pinned (OpenSpec.ofChange fnExactValidDiscSpec)

/-- ITS FALSE NEIGHBOUR: 'it returns false'. Refute it at one input. -/
def fnExactValidDiscWrong : ChangeSpec := { name := "fnExactValidDisc", fn := fun _ => fun
  | [d] => { results := [.lit (.bool false)], args := [d] }
  | _ => none }
def FnExactValidDiscWrongFalsely : Prop := fnExactValidDiscRow.holds Try.pinned (OpenSpec.ofChange fnExactValidDiscWrong)

/-- 'laws.FnExactDiscOfData': WHATEVER THE INPUT: true; the input reads as it did. -/
def fnExactDiscOfDataSpec : ChangeSpec := { name := "fnExactDiscOfData", fn := fun _ => fun
  | [d1, d2, d3, d4, d5] => { results := [.lit (.bool true)], args := [d1, d2, d3, d4, d5] }
  | _ => none }
def fnExactDiscOfDataRow : OpenClaim := { program := "ytfcbcnlkoajpjaa", sum := "325594444ae70c5c327dde2515d1550437c703bc1388d4cbfeddff6d3ce995df", func := "loop.example/g00899/laws.FnExactDiscOfData", spec := "fnExactDiscOfData", inPlace := ["internal/abi.NoEscape", "internal/bytealg.MakeNoZero"], apart := false }
def FnExactDiscOfDataSaid : Prop := fnExactDiscOfDataRow.holds Try.pinned (OpenSpec.ofChange fnExactDiscOfDataSpec)

/-- ITS FALSE NEIGHBOUR: 'it returns false'. Refute it at one input. -/
def fnExactDiscOfDataWrong : ChangeSpec := { name := "fnExactDiscOfData", fn := fun _ => fun
  | [d1, d2, d3, d4, d5] => { results := [.lit (.bool false)], args := [d1, d2, d3, d4, d5] }
  | _ => none }
def FnExactDiscOfDataWrongFalsely : Prop := fnExactDiscOfDataRow.holds Try.pinned (OpenSpec.ofChange fnExactDiscOfDataWrong)

/-- 'laws.FnExactSectorAt': WHATEVER THE INPUT: true; the input reads as it did. -/
def fnExactSectorAtSpec : ChangeSpec := { name := "fnExactSectorAt", fn := fun _ => fun
  | [d1, d2, d3, d4] => { results := [.lit (.bool true)], args := [d1, d2, d3, d4] }
  | _ => none }
def fnExactSectorAtRow : OpenClaim := { program := "ytfcbcnlkoajpjaa", sum := "325594444ae70c5c327dde2515d1550437c703bc1388d4cbfeddff6d3ce995df", func := "loop.example/g00899/laws.FnExactSectorAt", spec := "fnExactSectorAt", inPlace := ["internal/abi.NoEscape", "internal/bytealg.MakeNoZero"], apart := false }
def FnExactSectorAtSaid : Prop := fnExactSectorAtRow.holds Try.pinned (OpenSpec.ofChange fnExactSectorAtSpec)

/-- ITS FALSE NEIGHBOUR: 'it returns false'. Refute it at one input. -/
def fnExactSectorAtWrong : ChangeSpec := { name := "fnExactSectorAt", fn := fun _ => fun
  | [d1, d2, d3, d4] => { results := [.lit (.bool false)], args := [d1, d2, d3, d4] }
  | _ => none }
def FnExactSectorAtWrongFalsely : Prop := fnExactSectorAtRow.holds Try.pinned (OpenSpec.ofChange fnExactSectorAtWrong)

/-- 'laws.FnExactDataOf': WHATEVER THE INPUT: true; the input reads as it did. -/
def fnExactDataOfSpec : ChangeSpec := { name := "fnExactDataOf", fn := fun _ => fun
  | [d] => { results := [.lit (.bool true)], args := [d] }
  | _ => none }
def fnExactDataOfRow : OpenClaim := { program := "ytfcbcnlkoajpjaa", sum := "325594444ae70c5c327dde2515d1550437c703bc1388d4cbfeddff6d3ce995df", func := "loop.example/g00899/laws.FnExactDataOf", spec := "fnExactDataOf", inPlace := ["internal/abi.NoEscape", "internal/bytealg.MakeNoZero"], apart := false }
def FnExactDataOfSaid : Prop := fnExactDataOfRow.holds Try.pinned (OpenSpec.ofChange fnExactDataOfSpec)

/-- ITS FALSE NEIGHBOUR: 'it returns false'. Refute it at one input. -/
def fnExactDataOfWrong : ChangeSpec := { name := "fnExactDataOf", fn := fun _ => fun
  | [d] => { results := [.lit (.bool false)], args := [d] }
  | _ => none }
def FnExactDataOfWrongFalsely : Prop := fnExactDataOfRow.holds Try.pinned (OpenSpec.ofChange fnExactDataOfWrong)

/-- 'laws.FnExactStatesOf': WHATEVER THE INPUT: true; the input reads as it did. -/
def fnExactStatesOfSpec : ChangeSpec := { name := "fnExactStatesOf", fn := fun _ => fun
  | [d] => { results := [.lit (.bool true)], args := [d] }
  | _ => none }
def fnExactStatesOfRow : OpenClaim := { program := "ytfcbcnlkoajpjaa", sum := "325594444ae70c5c327dde2515d1550437c703bc1388d4cbfeddff6d3ce995df", func := "loop.example/g00899/laws.FnExactStatesOf", spec := "fnExactStatesOf", inPlace := ["internal/abi.NoEscape", "internal/bytealg.MakeNoZero"], apart := false }
def FnExactStatesOfSaid : Prop := fnExactStatesOfRow.holds Try.pinned (OpenSpec.ofChange fnExactStatesOfSpec)

/-- ITS FALSE NEIGHBOUR: 'it returns false'. Refute it at one input. -/
def fnExactStatesOfWrong : ChangeSpec := { name := "fnExactStatesOf", fn := fun _ => fun
  | [d] => { results := [.lit (.bool false)], args := [d] }
  | _ => none }
def FnExactStatesOfWrongFalsely : Prop := fnExactStatesOfRow.holds Try.pinned (OpenSpec.ofChange fnExactStatesOfWrong)

/- THE SECOND FORM. 'bulk': how many values and letters a reading holds, each counted each time it is reached (what is shared counts as often as it is met; a slice's spare places count too). A statement '..UptoSaid' is the law's where the arguments, and the package variables that the reading takes, are together of bulk at most 1048576: NARROWER than '..Said'. Prove '..Said' where nothing that the law and all that it calls make is longer than what came in: it says more and counts as full. Else prove '..UptoSaid'. A law counts once. -/
mutual
def uptoBulk {H : Type} : DataW H → Nat
  | .lit (.string bytes) => bytes.length + 1
  | .lit _ => 1
  | .nil => 1
  | .ptr d => uptoBulk d + 1
  | .slice elems spare => uptoBulkAll elems + uptoBulkAll spare + 1
  | .agg parts => uptoBulkAll parts + 1
  | .iface _ d => uptoBulk d + 1
  | .map entries => uptoBulkEntries entries + 1
  | .held _ => 1
def uptoBulkAll {H : Type} : List (DataW H) → Nat
  | [] => 0
  | d :: r => uptoBulk d + uptoBulkAll r
def uptoBulkEntries {H : Type} : List (Lit × DataW H) → Nat
  | [] => 0
  | x :: r => uptoBulkEntry x + uptoBulkEntries r
def uptoBulkEntry {H : Type} : Lit × DataW H → Nat
  | (.string bytes, d) => bytes.length + uptoBulk d + 1
  | (_, d) => uptoBulk d + 1
 end
def uptoSmall : (H : Type) → List (DataW H) → Bool := fun _ ds => decide (uptoBulkAll ds ≤ 1048576)
def OpenSpec.upto (s : _root_.Go.ChangeSpec) : _root_.Go.OpenSpec := { _root_.Go.OpenSpec.ofChange s with cond := some uptoSmall }

/-- 'laws.FnExactSameDisc', WHERE WHAT IT READS IS OF BULK AT MOST 1048576: true; the input reads as it did. -/
def fnExactSameDiscUptoRow : OpenClaim := { program := "ytfcbcnlkoajpjaa", sum := "325594444ae70c5c327dde2515d1550437c703bc1388d4cbfeddff6d3ce995df", func := "loop.example/g00899/laws.FnExactSameDisc", spec := "fnExactSameDisc", apart := false, narrowed := true }
def FnExactSameDiscUptoSaid : Prop := fnExactSameDiscUptoRow.holds Try.pinned (OpenSpec.upto fnExactSameDiscSpec)

/-- 'laws.FnExactUnpackRuns', WHERE WHAT IT READS IS OF BULK AT MOST 1048576: true; the input reads as it did. -/
def fnExactUnpackRunsUptoRow : OpenClaim := { program := "ytfcbcnlkoajpjaa", sum := "325594444ae70c5c327dde2515d1550437c703bc1388d4cbfeddff6d3ce995df", func := "loop.example/g00899/laws.FnExactUnpackRuns", spec := "fnExactUnpackRuns", inPlace := ["internal/bytealg.MakeNoZero"], apart := false, narrowed := true }
def FnExactUnpackRunsUptoSaid : Prop := fnExactUnpackRunsUptoRow.holds Try.pinned (OpenSpec.upto fnExactUnpackRunsSpec)

/-- 'laws.FnExactUnpackGaps', WHERE WHAT IT READS IS OF BULK AT MOST 1048576: true; the input reads as it did. -/
def fnExactUnpackGapsUptoRow : OpenClaim := { program := "ytfcbcnlkoajpjaa", sum := "325594444ae70c5c327dde2515d1550437c703bc1388d4cbfeddff6d3ce995df", func := "loop.example/g00899/laws.FnExactUnpackGaps", spec := "fnExactUnpackGaps", apart := false, narrowed := true }
def FnExactUnpackGapsUptoSaid : Prop := fnExactUnpackGapsUptoRow.holds Try.pinned (OpenSpec.upto fnExactUnpackGapsSpec)

/-- 'laws.FnExactDecodeChunks', WHERE WHAT IT READS IS OF BULK AT MOST 1048576: true; the input reads as it did. -/
def fnExactDecodeChunksUptoRow : OpenClaim := { program := "ytfcbcnlkoajpjaa", sum := "325594444ae70c5c327dde2515d1550437c703bc1388d4cbfeddff6d3ce995df", func := "loop.example/g00899/laws.FnExactDecodeChunks", spec := "fnExactDecodeChunks", apart := false, narrowed := true }
def FnExactDecodeChunksUptoSaid : Prop := fnExactDecodeChunksUptoRow.holds Try.pinned (OpenSpec.upto fnExactDecodeChunksSpec)

/-- 'laws.FnExactSameImage', WHERE WHAT IT READS IS OF BULK AT MOST 1048576: true; the input reads as it did. -/
def fnExactSameImageUptoRow : OpenClaim := { program := "ytfcbcnlkoajpjaa", sum := "325594444ae70c5c327dde2515d1550437c703bc1388d4cbfeddff6d3ce995df", func := "loop.example/g00899/laws.FnExactSameImage", spec := "fnExactSameImage", apart := false, narrowed := true }
def FnExactSameImageUptoSaid : Prop := fnExactSameImageUptoRow.holds Try.pinned (OpenSpec.upto fnExactSameImageSpec)

/-- 'laws.FnExactSameDevice', WHERE WHAT IT READS IS OF BULK AT MOST 1048576: true; the input reads as it did. -/
def fnExactSameDeviceUptoRow : OpenClaim := { program := "ytfcbcnlkoajpjaa", sum := "325594444ae70c5c327dde2515d1550437c703bc1388d4cbfeddff6d3ce995df", func := "loop.example/g00899/laws.FnExactSameDevice", spec := "fnExactSameDevice", apart := false, narrowed := true }
def FnExactSameDeviceUptoSaid : Prop := fnExactSameDeviceUptoRow.holds Try.pinned (OpenSpec.upto fnExactSameDeviceSpec)

/-- 'laws.FnExactNewDisc', WHERE WHAT IT READS IS OF BULK AT MOST 1048576: true; the input reads as it did. -/
def fnExactNewDiscUptoRow : OpenClaim := { program := "ytfcbcnlkoajpjaa", sum := "325594444ae70c5c327dde2515d1550437c703bc1388d4cbfeddff6d3ce995df", func := "loop.example/g00899/laws.FnExactNewDisc", spec := "fnExactNewDisc", inPlace := ["internal/abi.NoEscape", "internal/bytealg.MakeNoZero"], apart := false, narrowed := true }
def FnExactNewDiscUptoSaid : Prop := fnExactNewDiscUptoRow.holds Try.pinned (OpenSpec.upto fnExactNewDiscSpec)

/-- 'laws.FnExactValidDisc', WHERE WHAT IT READS IS OF BULK AT MOST 1048576: true; the input reads as it did. -/
def fnExactValidDiscUptoRow : OpenClaim := { program := "ytfcbcnlkoajpjaa", sum := "325594444ae70c5c327dde2515d1550437c703bc1388d4cbfeddff6d3ce995df", func := "loop.example/g00899/laws.FnExactValidDisc", spec := "fnExactValidDisc", inPlace := ["internal/abi.NoEscape", "internal/bytealg.MakeNoZero"], apart := false, narrowed := true }
def FnExactValidDiscUptoSaid : Prop := fnExactValidDiscUptoRow.holds Try.pinned (OpenSpec.upto fnExactValidDiscSpec)

/-- 'laws.FnExactDiscOfData', WHERE WHAT IT READS IS OF BULK AT MOST 1048576: true; the input reads as it did. -/
def fnExactDiscOfDataUptoRow : OpenClaim := { program := "ytfcbcnlkoajpjaa", sum := "325594444ae70c5c327dde2515d1550437c703bc1388d4cbfeddff6d3ce995df", func := "loop.example/g00899/laws.FnExactDiscOfData", spec := "fnExactDiscOfData", inPlace := ["internal/abi.NoEscape", "internal/bytealg.MakeNoZero"], apart := false, narrowed := true }
def FnExactDiscOfDataUptoSaid : Prop := fnExactDiscOfDataUptoRow.holds Try.pinned (OpenSpec.upto fnExactDiscOfDataSpec)

/-- 'laws.FnExactSectorAt', WHERE WHAT IT READS IS OF BULK AT MOST 1048576: true; the input reads as it did. -/
def fnExactSectorAtUptoRow : OpenClaim := { program := "ytfcbcnlkoajpjaa", sum := "325594444ae70c5c327dde2515d1550437c703bc1388d4cbfeddff6d3ce995df", func := "loop.example/g00899/laws.FnExactSectorAt", spec := "fnExactSectorAt", inPlace := ["internal/abi.NoEscape", "internal/bytealg.MakeNoZero"], apart := false, narrowed := true }
def FnExactSectorAtUptoSaid : Prop := fnExactSectorAtUptoRow.holds Try.pinned (OpenSpec.upto fnExactSectorAtSpec)

/-- 'laws.FnExactDataOf', WHERE WHAT IT READS IS OF BULK AT MOST 1048576: true; the input reads as it did. -/
def fnExactDataOfUptoRow : OpenClaim := { program := "ytfcbcnlkoajpjaa", sum := "325594444ae70c5c327dde2515d1550437c703bc1388d4cbfeddff6d3ce995df", func := "loop.example/g00899/laws.FnExactDataOf", spec := "fnExactDataOf", inPlace := ["internal/abi.NoEscape", "internal/bytealg.MakeNoZero"], apart := false, narrowed := true }
def FnExactDataOfUptoSaid : Prop := fnExactDataOfUptoRow.holds Try.pinned (OpenSpec.upto fnExactDataOfSpec)

/-- 'laws.FnExactStatesOf', WHERE WHAT IT READS IS OF BULK AT MOST 1048576: true; the input reads as it did. -/
def fnExactStatesOfUptoRow : OpenClaim := { program := "ytfcbcnlkoajpjaa", sum := "325594444ae70c5c327dde2515d1550437c703bc1388d4cbfeddff6d3ce995df", func := "loop.example/g00899/laws.FnExactStatesOf", spec := "fnExactStatesOf", inPlace := ["internal/abi.NoEscape", "internal/bytealg.MakeNoZero"], apart := false, narrowed := true }
def FnExactStatesOfUptoSaid : Prop := fnExactStatesOfUptoRow.holds Try.pinned (OpenSpec.upto fnExactStatesOfSpec)

end Rows
end Go.Proofs.Ytfcbcnlkoajpjaa
