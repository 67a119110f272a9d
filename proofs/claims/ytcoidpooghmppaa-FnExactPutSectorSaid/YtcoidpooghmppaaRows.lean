/-
  No cell of these rows narrows 'for every input' (looked for: loops, veiled, ifaces, maps, wideKeys, modest, calm, conditions, laid).
  DERIVED. THE GIVEN ROWS OF THIS SEAT. 12 by the template 'for every input the law returns true; each argument reads behind the call as it read before'; 0 by the template 'total and deterministic' (their statements: YtcoidpooghmppaaTotals.lean).
  GIVEN WITH THE SEED: the statements are not yours to turn. If you find one false, say at which input.
  Laid BY PROGRAM, IN A SANDBOX (cutbox-rows.mjs): the forced cells as the released guide's own fill.sh prints them over the translation 1fc07a7108d4a744… (all of the seat's roots in one cut). By AI agents, Wed Nov 11 2026. No macro, syntax, notation, axiom, sorry.
-/
import Derived.Test.YtcoidpooghmppaaChecked
import GoSem.Claim
import GoSem.ClaimJoined
import GoSem.ClaimMapViews
import Derived.JoinedTies
import Derived.KernelRfl
namespace Go.Proofs.Ytcoidpooghmppaa
/- THE CELL 'sum', in the pinned program and in every row, IS THE sha256 OF THE DUMP (.gsa) THAT YtcoidpooghmppaaProg.lean LOADS. Nothing in Lean hashes anything: it is a label: what it is worth is what the hold of that sum in a sandbox is worth. -/
noncomputable def Try.pinned : Pinned := { name := "ytcoidpooghmppaa", sum := "1fc07a7108d4a7449cf0929ab6b3b9f516cbb698f0fcdc92eb11f2ce0283d1a4", checked := Try.checked }
namespace Rows
def none {H : Type} : Left H := { results := [], args := [] }

/-- 'laws.FnExactDiscOfData': WHATEVER THE INPUT: true; the input reads as it did. -/
def fnExactDiscOfDataSpec : ChangeSpec := { name := "fnExactDiscOfData", fn := fun _ => fun
  | [d1, d2, d3, d4, d5] => { results := [.lit (.bool true)], args := [d1, d2, d3, d4, d5] }
  | _ => none }
def fnExactDiscOfDataRow : OpenClaim := { program := "ytcoidpooghmppaa", sum := "1fc07a7108d4a7449cf0929ab6b3b9f516cbb698f0fcdc92eb11f2ce0283d1a4", func := "loop.example/g00899/laws.FnExactDiscOfData", spec := "fnExactDiscOfData", inPlace := ["internal/abi.NoEscape", "internal/bytealg.MakeNoZero"], apart := false }
def FnExactDiscOfDataSaid : Prop := fnExactDiscOfDataRow.holds Try.pinned (OpenSpec.ofChange fnExactDiscOfDataSpec)

/-- ITS FALSE NEIGHBOUR: 'it returns false'. Refute it at one input. -/
def fnExactDiscOfDataWrong : ChangeSpec := { name := "fnExactDiscOfData", fn := fun _ => fun
  | [d1, d2, d3, d4, d5] => { results := [.lit (.bool false)], args := [d1, d2, d3, d4, d5] }
  | _ => none }
def FnExactDiscOfDataWrongFalsely : Prop := fnExactDiscOfDataRow.holds Try.pinned (OpenSpec.ofChange fnExactDiscOfDataWrong)

/-- 'laws.FnExactUnpackRuns': WHATEVER THE INPUT: true; the input reads as it did. -/
def fnExactUnpackRunsSpec : ChangeSpec := { name := "fnExactUnpackRuns", fn := fun _ => fun
  | [d] => { results := [.lit (.bool true)], args := [d] }
  | _ => none }
def fnExactUnpackRunsRow : OpenClaim := { program := "ytcoidpooghmppaa", sum := "1fc07a7108d4a7449cf0929ab6b3b9f516cbb698f0fcdc92eb11f2ce0283d1a4", func := "loop.example/g00899/laws.FnExactUnpackRuns", spec := "fnExactUnpackRuns", inPlace := ["internal/bytealg.MakeNoZero"], apart := false }
def FnExactUnpackRunsSaid : Prop := fnExactUnpackRunsRow.holds Try.pinned (OpenSpec.ofChange fnExactUnpackRunsSpec)

/-- ITS FALSE NEIGHBOUR: 'it returns false'. Refute it at one input. -/
def fnExactUnpackRunsWrong : ChangeSpec := { name := "fnExactUnpackRuns", fn := fun _ => fun
  | [d] => { results := [.lit (.bool false)], args := [d] }
  | _ => none }
def FnExactUnpackRunsWrongFalsely : Prop := fnExactUnpackRunsRow.holds Try.pinned (OpenSpec.ofChange fnExactUnpackRunsWrong)

/-- 'laws.FnExactDecodeChunks': WHATEVER THE INPUT: true; the input reads as it did. -/
def fnExactDecodeChunksSpec : ChangeSpec := { name := "fnExactDecodeChunks", fn := fun _ => fun
  | [d] => { results := [.lit (.bool true)], args := [d] }
  | _ => none }
def fnExactDecodeChunksRow : OpenClaim := { program := "ytcoidpooghmppaa", sum := "1fc07a7108d4a7449cf0929ab6b3b9f516cbb698f0fcdc92eb11f2ce0283d1a4", func := "loop.example/g00899/laws.FnExactDecodeChunks", spec := "fnExactDecodeChunks", apart := false }
def FnExactDecodeChunksSaid : Prop := fnExactDecodeChunksRow.holds Try.pinned (OpenSpec.ofChange fnExactDecodeChunksSpec)

/-- ITS FALSE NEIGHBOUR: 'it returns false'. Refute it at one input. -/
def fnExactDecodeChunksWrong : ChangeSpec := { name := "fnExactDecodeChunks", fn := fun _ => fun
  | [d] => { results := [.lit (.bool false)], args := [d] }
  | _ => none }
def FnExactDecodeChunksWrongFalsely : Prop := fnExactDecodeChunksRow.holds Try.pinned (OpenSpec.ofChange fnExactDecodeChunksWrong)

/-- 'laws.FnExactPutSector': WHATEVER THE INPUT: true; the input reads as it did. -/
def fnExactPutSectorSpec : ChangeSpec := { name := "fnExactPutSector", fn := fun _ => fun
  | [d1, d2, d3] => { results := [.lit (.bool true)], args := [d1, d2, d3] }
  | _ => none }
def fnExactPutSectorRow : OpenClaim := { program := "ytcoidpooghmppaa", sum := "1fc07a7108d4a7449cf0929ab6b3b9f516cbb698f0fcdc92eb11f2ce0283d1a4", func := "loop.example/g00899/laws.FnExactPutSector", spec := "fnExactPutSector", inPlace := ["internal/abi.NoEscape", "internal/bytealg.MakeNoZero"], apart := false }
def FnExactPutSectorSaid : Prop := fnExactPutSectorRow.holds Try.pinned (OpenSpec.ofChange fnExactPutSectorSpec)

/-- ITS FALSE NEIGHBOUR: 'it returns false'. Refute it at one input. -/
def fnExactPutSectorWrong : ChangeSpec := { name := "fnExactPutSector", fn := fun _ => fun
  | [d1, d2, d3] => { results := [.lit (.bool false)], args := [d1, d2, d3] }
  | _ => none }
def FnExactPutSectorWrongFalsely : Prop := fnExactPutSectorRow.holds Try.pinned (OpenSpec.ofChange fnExactPutSectorWrong)

/-- 'laws.FnExactChangedSectors': WHATEVER THE INPUT: true; the input reads as it did. -/
def fnExactChangedSectorsSpec : ChangeSpec := { name := "fnExactChangedSectors", fn := fun _ => fun
  | [d1, d2] => { results := [.lit (.bool true)], args := [d1, d2] }
  | _ => none }
def fnExactChangedSectorsRow : OpenClaim := { program := "ytcoidpooghmppaa", sum := "1fc07a7108d4a7449cf0929ab6b3b9f516cbb698f0fcdc92eb11f2ce0283d1a4", func := "loop.example/g00899/laws.FnExactChangedSectors", spec := "fnExactChangedSectors", inPlace := ["internal/abi.NoEscape", "internal/bytealg.MakeNoZero"], apart := false }
def FnExactChangedSectorsSaid : Prop := fnExactChangedSectorsRow.holds Try.pinned (OpenSpec.ofChange fnExactChangedSectorsSpec)

/-- ITS FALSE NEIGHBOUR: 'it returns false'. Refute it at one input. -/
def fnExactChangedSectorsWrong : ChangeSpec := { name := "fnExactChangedSectors", fn := fun _ => fun
  | [d1, d2] => { results := [.lit (.bool false)], args := [d1, d2] }
  | _ => none }
def FnExactChangedSectorsWrongFalsely : Prop := fnExactChangedSectorsRow.holds Try.pinned (OpenSpec.ofChange fnExactChangedSectorsWrong)

/-- 'laws.FnExactLayoutOf': WHATEVER THE INPUT: true; the input reads as it did. -/
def fnExactLayoutOfSpec : ChangeSpec := { name := "fnExactLayoutOf", fn := fun _ => fun
  | [d] => { results := [.lit (.bool true)], args := [d] }
  | _ => none }
def fnExactLayoutOfRow : OpenClaim := { program := "ytcoidpooghmppaa", sum := "1fc07a7108d4a7449cf0929ab6b3b9f516cbb698f0fcdc92eb11f2ce0283d1a4", func := "loop.example/g00899/laws.FnExactLayoutOf", spec := "fnExactLayoutOf", inPlace := ["internal/abi.NoEscape", "internal/bytealg.MakeNoZero"], apart := false }
def FnExactLayoutOfSaid : Prop := fnExactLayoutOfRow.holds Try.pinned (OpenSpec.ofChange fnExactLayoutOfSpec)

/-- ITS FALSE NEIGHBOUR: 'it returns false'. Refute it at one input. -/
def fnExactLayoutOfWrong : ChangeSpec := { name := "fnExactLayoutOf", fn := fun _ => fun
  | [d] => { results := [.lit (.bool false)], args := [d] }
  | _ => none }
def FnExactLayoutOfWrongFalsely : Prop := fnExactLayoutOfRow.holds Try.pinned (OpenSpec.ofChange fnExactLayoutOfWrong)

/-- 'laws.FnExactValidImage': WHATEVER THE INPUT: true; the input reads as it did. -/
def fnExactValidImageSpec : ChangeSpec := { name := "fnExactValidImage", fn := fun _ => fun
  | [d] => { results := [.lit (.bool true)], args := [d] }
  | _ => none }
def fnExactValidImageRow : OpenClaim := { program := "ytcoidpooghmppaa", sum := "1fc07a7108d4a7449cf0929ab6b3b9f516cbb698f0fcdc92eb11f2ce0283d1a4", func := "loop.example/g00899/laws.FnExactValidImage", spec := "fnExactValidImage", inPlace := ["internal/abi.NoEscape", "internal/bytealg.MakeNoZero"], unfollowed := true, recurses := true, apart := false }
def FnExactValidImageSaid : Prop := fnExactValidImageRow.holds Try.pinned (OpenSpec.ofChange fnExactValidImageSpec)

/-- ITS FALSE NEIGHBOUR: 'it returns false'. Refute it at one input. -/
def fnExactValidImageWrong : ChangeSpec := { name := "fnExactValidImage", fn := fun _ => fun
  | [d] => { results := [.lit (.bool false)], args := [d] }
  | _ => none }
def FnExactValidImageWrongFalsely : Prop := fnExactValidImageRow.holds Try.pinned (OpenSpec.ofChange fnExactValidImageWrong)

/-- 'laws.FnExactValidDevice': WHATEVER THE INPUT: true; the input reads as it did. -/
def fnExactValidDeviceSpec : ChangeSpec := { name := "fnExactValidDevice", fn := fun _ => fun
  | [d] => { results := [.lit (.bool true)], args := [d] }
  | _ => none }
def fnExactValidDeviceRow : OpenClaim := { program := "ytcoidpooghmppaa", sum := "1fc07a7108d4a7449cf0929ab6b3b9f516cbb698f0fcdc92eb11f2ce0283d1a4", func := "loop.example/g00899/laws.FnExactValidDevice", spec := "fnExactValidDevice", inPlace := ["internal/abi.NoEscape", "internal/bytealg.MakeNoZero"], apart := false }
def FnExactValidDeviceSaid : Prop := fnExactValidDeviceRow.holds Try.pinned (OpenSpec.ofChange fnExactValidDeviceSpec)

/-- ITS FALSE NEIGHBOUR: 'it returns false'. Refute it at one input. -/
def fnExactValidDeviceWrong : ChangeSpec := { name := "fnExactValidDevice", fn := fun _ => fun
  | [d] => { results := [.lit (.bool false)], args := [d] }
  | _ => none }
def FnExactValidDeviceWrongFalsely : Prop := fnExactValidDeviceRow.holds Try.pinned (OpenSpec.ofChange fnExactValidDeviceWrong)

/-- 'laws.FnExactDeviceBlocks': WHATEVER THE INPUT: true; the input reads as it did. -/
def fnExactDeviceBlocksSpec : ChangeSpec := { name := "fnExactDeviceBlocks", fn := fun _ => fun
  | [d] => { results := [.lit (.bool true)], args := [d] }
  | _ => none }
def fnExactDeviceBlocksRow : OpenClaim := { program := "ytcoidpooghmppaa", sum := "1fc07a7108d4a7449cf0929ab6b3b9f516cbb698f0fcdc92eb11f2ce0283d1a4", func := "loop.example/g00899/laws.FnExactDeviceBlocks", spec := "fnExactDeviceBlocks", inPlace := ["internal/abi.NoEscape", "internal/bytealg.MakeNoZero"], apart := false }
def FnExactDeviceBlocksSaid : Prop := fnExactDeviceBlocksRow.holds Try.pinned (OpenSpec.ofChange fnExactDeviceBlocksSpec)

/-- ITS FALSE NEIGHBOUR: 'it returns false'. Refute it at one input. -/
def fnExactDeviceBlocksWrong : ChangeSpec := { name := "fnExactDeviceBlocks", fn := fun _ => fun
  | [d] => { results := [.lit (.bool false)], args := [d] }
  | _ => none }
def FnExactDeviceBlocksWrongFalsely : Prop := fnExactDeviceBlocksRow.holds Try.pinned (OpenSpec.ofChange fnExactDeviceBlocksWrong)

/-- 'laws.FnExactSectorOf': WHATEVER THE INPUT: true; the input reads as it did. -/
def fnExactSectorOfSpec : ChangeSpec := { name := "fnExactSectorOf", fn := fun _ => fun
  | [d1, d2] => { results := [.lit (.bool true)], args := [d1, d2] }
  | _ => none }
def fnExactSectorOfRow : OpenClaim := { program := "ytcoidpooghmppaa", sum := "1fc07a7108d4a7449cf0929ab6b3b9f516cbb698f0fcdc92eb11f2ce0283d1a4", func := "loop.example/g00899/laws.FnExactSectorOf", spec := "fnExactSectorOf", inPlace := ["internal/abi.NoEscape", "internal/bytealg.MakeNoZero"], apart := false }
def FnExactSectorOfSaid : Prop := fnExactSectorOfRow.holds Try.pinned (OpenSpec.ofChange fnExactSectorOfSpec)

/-- ITS FALSE NEIGHBOUR: 'it returns false'. Refute it at one input. -/
def fnExactSectorOfWrong : ChangeSpec := { name := "fnExactSectorOf", fn := fun _ => fun
  | [d1, d2] => { results := [.lit (.bool false)], args := [d1, d2] }
  | _ => none }
def FnExactSectorOfWrongFalsely : Prop := fnExactSectorOfRow.holds Try.pinned (OpenSpec.ofChange fnExactSectorOfWrong)

/-- 'laws.FnExactReadDeviceBlock': WHATEVER THE INPUT: true; the input reads as it did. -/
def fnExactReadDeviceBlockSpec : ChangeSpec := { name := "fnExactReadDeviceBlock", fn := fun _ => fun
  | [d1, d2] => { results := [.lit (.bool true)], args := [d1, d2] }
  | _ => none }
def fnExactReadDeviceBlockRow : OpenClaim := { program := "ytcoidpooghmppaa", sum := "1fc07a7108d4a7449cf0929ab6b3b9f516cbb698f0fcdc92eb11f2ce0283d1a4", func := "loop.example/g00899/laws.FnExactReadDeviceBlock", spec := "fnExactReadDeviceBlock", inPlace := ["internal/abi.NoEscape", "internal/bytealg.MakeNoZero"], apart := false }
def FnExactReadDeviceBlockSaid : Prop := fnExactReadDeviceBlockRow.holds Try.pinned (OpenSpec.ofChange fnExactReadDeviceBlockSpec)

/-- ITS FALSE NEIGHBOUR: 'it returns false'. Refute it at one input. -/
def fnExactReadDeviceBlockWrong : ChangeSpec := { name := "fnExactReadDeviceBlock", fn := fun _ => fun
  | [d1, d2] => { results := [.lit (.bool false)], args := [d1, d2] }
  | _ => none }
def FnExactReadDeviceBlockWrongFalsely : Prop := fnExactReadDeviceBlockRow.holds Try.pinned (OpenSpec.ofChange fnExactReadDeviceBlockWrong)

/-- 'laws.FnExactNewDevice': WHATEVER THE INPUT: true; the input reads as it did. -/
def fnExactNewDeviceSpec : ChangeSpec := { name := "fnExactNewDevice", fn := fun _ => fun
  | [d1, d2, d3] => { results := [.lit (.bool true)], args := [d1, d2, d3] }
  | _ => none }
def fnExactNewDeviceRow : OpenClaim := { program := "ytcoidpooghmppaa", sum := "1fc07a7108d4a7449cf0929ab6b3b9f516cbb698f0fcdc92eb11f2ce0283d1a4", func := "loop.example/g00899/laws.FnExactNewDevice", spec := "fnExactNewDevice", inPlace := ["internal/abi.NoEscape", "internal/bytealg.MakeNoZero"], apart := false }
def FnExactNewDeviceSaid : Prop := fnExactNewDeviceRow.holds Try.pinned (OpenSpec.ofChange fnExactNewDeviceSpec)

/-- ITS FALSE NEIGHBOUR: 'it returns false'. Refute it at one input. -/
def fnExactNewDeviceWrong : ChangeSpec := { name := "fnExactNewDevice", fn := fun _ => fun
  | [d1, d2, d3] => { results := [.lit (.bool false)], args := [d1, d2, d3] }
  | _ => none }
def FnExactNewDeviceWrongFalsely : Prop := fnExactNewDeviceRow.holds Try.pinned (OpenSpec.ofChange fnExactNewDeviceWrong)

/- THE SECOND FORM. 'bulk': how many values and letters a reading holds, each counted each time it is reached (what is shared counts as often as it is met; a slice's spare places count too). A statement '..UptoSaid' is the law's where the arguments, and the package variables that the reading takes, are together of bulk at most 1048576: NARROWER than '..Said'. Prove '..Said' where nothing that the law and all that it calls make is longer than what came in: it says more and counts as full. Else prove '..UptoSaid'. A law counts once. -/
mutual
def uptoBulk {H : Type} : DataW H → Nat
  | .lit (.string bytes) => bytes.length + 1
  | .lit _ => 1
  | .nil => 1
  | .ptr d => uptoBulk d + 1
  | .slice elems spare => uptoBulkAll elems + uptoBulkAll spare + 1
  | .agg parts => uptoBulkAll parts + 1
  | .iface _ d => uptoBulk d + 1
  | .map entries => uptoBulkEntries entries + 1
  | .held _ => 1
def uptoBulkAll {H : Type} : List (DataW H) → Nat
  | [] => 0
  | d :: r => uptoBulk d + uptoBulkAll r
def uptoBulkEntries {H : Type} : List (Lit × DataW H) → Nat
  | [] => 0
  | x :: r => uptoBulkEntry x + uptoBulkEntries r
def uptoBulkEntry {H : Type} : Lit × DataW H → Nat
  | (.string bytes, d) => bytes.length + uptoBulk d + 1
  | (_, d) => uptoBulk d + 1
 end
def uptoSmall : (H : Type) → List (DataW H) → Bool := fun _ ds => decide (uptoBulkAll ds ≤ 1048576)
def OpenSpec.upto (s : _root_.Go.ChangeSpec) : _root_.Go.OpenSpec := { _root_.Go.OpenSpec.ofChange s with cond := some uptoSmall }

/-- 'laws.FnExactDiscOfData', WHERE WHAT IT READS IS OF BULK AT MOST 1048576: true; the input reads as it did. -/
def fnExactDiscOfDataUptoRow : OpenClaim := { program := "ytcoidpooghmppaa", sum := "1fc07a7108d4a7449cf0929ab6b3b9f516cbb698f0fcdc92eb11f2ce0283d1a4", func := "loop.example/g00899/laws.FnExactDiscOfData", spec := "fnExactDiscOfData", inPlace := ["internal/abi.NoEscape", "internal/bytealg.MakeNoZero"], apart := false, narrowed := true }
def FnExactDiscOfDataUptoSaid : Prop := fnExactDiscOfDataUptoRow.holds Try.pinned (OpenSpec.upto fnExactDiscOfDataSpec)

/-- 'laws.FnExactUnpackRuns', WHERE WHAT IT READS IS OF BULK AT MOST 1048576: true; the input reads as it did. -/
def fnExactUnpackRunsUptoRow : OpenClaim := { program := "ytcoidpooghmppaa", sum := "1fc07a7108d4a7449cf0929ab6b3b9f516cbb698f0fcdc92eb11f2ce0283d1a4", func := "loop.example/g00899/laws.FnExactUnpackRuns", spec := "fnExactUnpackRuns", inPlace := ["internal/bytealg.MakeNoZero"], apart := false, narrowed := true }
def FnExactUnpackRunsUptoSaid : Prop := fnExactUnpackRunsUptoRow.holds Try.pinned (OpenSpec.upto fnExactUnpackRunsSpec)

/-- 'laws.FnExactDecodeChunks', WHERE WHAT IT READS IS OF BULK AT MOST 1048576: true; the input reads as it did. -/
def fnExactDecodeChunksUptoRow : OpenClaim := { program := "ytcoidpooghmppaa", sum := "1fc07a7108d4a7449cf0929ab6b3b9f516cbb698f0fcdc92eb11f2ce0283d1a4", func := "loop.example/g00899/laws.FnExactDecodeChunks", spec := "fnExactDecodeChunks", apart := false, narrowed := true }
def FnExactDecodeChunksUptoSaid : Prop := fnExactDecodeChunksUptoRow.holds Try.pinned (OpenSpec.upto fnExactDecodeChunksSpec)

/-- 'laws.FnExactPutSector', WHERE WHAT IT READS IS OF BULK AT MOST 1048576: true; the input reads as it did. -/
def fnExactPutSectorUptoRow : OpenClaim := { program := "ytcoidpooghmppaa", sum := "1fc07a7108d4a7449cf0929ab6b3b9f516cbb698f0fcdc92eb11f2ce0283d1a4", func := "loop.example/g00899/laws.FnExactPutSector", spec := "fnExactPutSector", inPlace := ["internal/abi.NoEscape", "internal/bytealg.MakeNoZero"], apart := false, narrowed := true }
def FnExactPutSectorUptoSaid : Prop := fnExactPutSectorUptoRow.holds Try.pinned (OpenSpec.upto fnExactPutSectorSpec)

/-- 'laws.FnExactChangedSectors', WHERE WHAT IT READS IS OF BULK AT MOST 1048576: true; the input reads as it did. -/
def fnExactChangedSectorsUptoRow : OpenClaim := { program := "ytcoidpooghmppaa", sum := "1fc07a7108d4a7449cf0929ab6b3b9f516cbb698f0fcdc92eb11f2ce0283d1a4", func := "loop.example/g00899/laws.FnExactChangedSectors", spec := "fnExactChangedSectors", inPlace := ["internal/abi.NoEscape", "internal/bytealg.MakeNoZero"], apart := false, narrowed := true }
def FnExactChangedSectorsUptoSaid : Prop := fnExactChangedSectorsUptoRow.holds Try.pinned (OpenSpec.upto fnExactChangedSectorsSpec)

/-- 'laws.FnExactLayoutOf', WHERE WHAT IT READS IS OF BULK AT MOST 1048576: true; the input reads as it did. -/
def fnExactLayoutOfUptoRow : OpenClaim := { program := "ytcoidpooghmppaa", sum := "1fc07a7108d4a7449cf0929ab6b3b9f516cbb698f0fcdc92eb11f2ce0283d1a4", func := "loop.example/g00899/laws.FnExactLayoutOf", spec := "fnExactLayoutOf", inPlace := ["internal/abi.NoEscape", "internal/bytealg.MakeNoZero"], apart := false, narrowed := true }
def FnExactLayoutOfUptoSaid : Prop := fnExactLayoutOfUptoRow.holds Try.pinned (OpenSpec.upto fnExactLayoutOfSpec)

/-- 'laws.FnExactValidImage', WHERE WHAT IT READS IS OF BULK AT MOST 1048576: true; the input reads as it did. -/
def fnExactValidImageUptoRow : OpenClaim := { program := "ytcoidpooghmppaa", sum := "1fc07a7108d4a7449cf0929ab6b3b9f516cbb698f0fcdc92eb11f2ce0283d1a4", func := "loop.example/g00899/laws.FnExactValidImage", spec := "fnExactValidImage", inPlace := ["internal/abi.NoEscape", "internal/bytealg.MakeNoZero"], unfollowed := true, recurses := true, apart := false, narrowed := true }
def FnExactValidImageUptoSaid : Prop := fnExactValidImageUptoRow.holds Try.pinned (OpenSpec.upto fnExactValidImageSpec)

/-- 'laws.FnExactValidDevice', WHERE WHAT IT READS IS OF BULK AT MOST 1048576: true; the input reads as it did. -/
def fnExactValidDeviceUptoRow : OpenClaim := { program := "ytcoidpooghmppaa", sum := "1fc07a7108d4a7449cf0929ab6b3b9f516cbb698f0fcdc92eb11f2ce0283d1a4", func := "loop.example/g00899/laws.FnExactValidDevice", spec := "fnExactValidDevice", inPlace := ["internal/abi.NoEscape", "internal/bytealg.MakeNoZero"], apart := false, narrowed := true }
def FnExactValidDeviceUptoSaid : Prop := fnExactValidDeviceUptoRow.holds Try.pinned (OpenSpec.upto fnExactValidDeviceSpec)

/-- 'laws.FnExactDeviceBlocks', WHERE WHAT IT READS IS OF BULK AT MOST 1048576: true; the input reads as it did. -/
def fnExactDeviceBlocksUptoRow : OpenClaim := { program := "ytcoidpooghmppaa", sum := "1fc07a7108d4a7449cf0929ab6b3b9f516cbb698f0fcdc92eb11f2ce0283d1a4", func := "loop.example/g00899/laws.FnExactDeviceBlocks", spec := "fnExactDeviceBlocks", inPlace := ["internal/abi.NoEscape", "internal/bytealg.MakeNoZero"], apart := false, narrowed := true }
def FnExactDeviceBlocksUptoSaid : Prop := fnExactDeviceBlocksUptoRow.holds Try.pinned (OpenSpec.upto fnExactDeviceBlocksSpec)

/-- 'laws.FnExactSectorOf', WHERE WHAT IT READS IS OF BULK AT MOST 1048576: true; the input reads as it did. -/
def fnExactSectorOfUptoRow : OpenClaim := { program := "ytcoidpooghmppaa", sum := "1fc07a7108d4a7449cf0929ab6b3b9f516cbb698f0fcdc92eb11f2ce0283d1a4", func := "loop.example/g00899/laws.FnExactSectorOf", spec := "fnExactSectorOf", inPlace := ["internal/abi.NoEscape", "internal/bytealg.MakeNoZero"], apart := false, narrowed := true }
def FnExactSectorOfUptoSaid : Prop := fnExactSectorOfUptoRow.holds Try.pinned (OpenSpec.upto fnExactSectorOfSpec)

/-- 'laws.FnExactReadDeviceBlock', WHERE WHAT IT READS IS OF BULK AT MOST 1048576: true; the input reads as it did. -/
def fnExactReadDeviceBlockUptoRow : OpenClaim := { program := "ytcoidpooghmppaa", sum := "1fc07a7108d4a7449cf0929ab6b3b9f516cbb698f0fcdc92eb11f2ce0283d1a4", func := "loop.example/g00899/laws.FnExactReadDeviceBlock", spec := "fnExactReadDeviceBlock", inPlace := ["internal/abi.NoEscape", "internal/bytealg.MakeNoZero"], apart := false, narrowed := true }
def FnExactReadDeviceBlockUptoSaid : Prop := fnExactReadDeviceBlockUptoRow.holds Try.pinned (OpenSpec.upto fnExactReadDeviceBlockSpec)

/-- 'laws.FnExactNewDevice', WHERE WHAT IT READS IS OF BULK AT MOST 1048576: true; the input reads as it did. -/
def fnExactNewDeviceUptoRow : OpenClaim := { program := "ytcoidpooghmppaa", sum := "1fc07a7108d4a7449cf0929ab6b3b9f516cbb698f0fcdc92eb11f2ce0283d1a4", func := "loop.example/g00899/laws.FnExactNewDevice", spec := "fnExactNewDevice", inPlace := ["internal/abi.NoEscape", "internal/bytealg.MakeNoZero"], apart := false, narrowed := true }
def FnExactNewDeviceUptoSaid : Prop := fnExactNewDeviceUptoRow.holds Try.pinned (OpenSpec.upto fnExactNewDeviceSpec)

end Rows
end Go.Proofs.Ytcoidpooghmppaa
