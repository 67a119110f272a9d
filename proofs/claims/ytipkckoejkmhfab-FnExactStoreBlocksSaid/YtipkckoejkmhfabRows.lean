/-
  No cell of these rows narrows 'for every input' (looked for: loops, veiled, ifaces, maps, wideKeys, modest, calm, conditions, laid).
  DERIVED. THE GIVEN ROWS OF THIS SEAT. 6 by the template 'for every input the law returns true; each argument reads behind the call as it read before'; 0 by the template 'total and deterministic' (their statements: YtipkckoejkmhfabTotals.lean).
  GIVEN WITH THE SEED: the statements are not yours to turn. If you find one false, say at which input.
  Laid BY PROGRAM, IN A SANDBOX (cutbox-rows.mjs): the forced cells as the released guide's own fill.sh prints them over the translation c8c9fefa1aea6ce5… (all of the seat's roots in one cut). By AI agents, Wed Nov 11 2026. No macro, syntax, notation, axiom, sorry.
-/
import Derived.Test.YtipkckoejkmhfabChecked
import GoSem.Claim
import GoSem.ClaimJoined
import GoSem.ClaimMapViews
import Derived.JoinedTies
import Derived.KernelRfl
namespace Go.Proofs.Ytipkckoejkmhfab
/- THE CELL 'sum', in the pinned program and in every row, IS THE sha256 OF THE DUMP (.gsa) THAT YtipkckoejkmhfabProg.lean LOADS. Nothing in Lean hashes anything: it is a label: what it is worth is what the hold of that sum in a sandbox is worth. -/
noncomputable def Try.pinned : Pinned := { name := "ytipkckoejkmhfab", sum := "c8c9fefa1aea6ce51ba56f4f6fa1cae47398272db224e2c2f7c9b06a912cf66b", checked := Try.checked }
namespace Rows
def none {H : Type} : Left H := { results := [], args := [] }

/-- 'laws.FnExactWriteDeviceBlock': WHATEVER THE INPUT: true; the input reads as it did. -/
def fnExactWriteDeviceBlockSpec : ChangeSpec := { name := "fnExactWriteDeviceBlock", fn := fun _ => fun
  | [d1, d2, d3] => { results := [.lit (.bool true)], args := [d1, d2, d3] }
  | _ => none }
def fnExactWriteDeviceBlockRow : OpenClaim := { program := "ytipkckoejkmhfab", sum := "c8c9fefa1aea6ce51ba56f4f6fa1cae47398272db224e2c2f7c9b06a912cf66b", func := "loop.example/g00899/laws.FnExactWriteDeviceBlock", spec := "fnExactWriteDeviceBlock", inPlace := ["internal/abi.NoEscape", "internal/bytealg.MakeNoZero"], apart := false }
def FnExactWriteDeviceBlockSaid : Prop := fnExactWriteDeviceBlockRow.holds Try.pinned (OpenSpec.ofChange fnExactWriteDeviceBlockSpec)

/-- ITS FALSE NEIGHBOUR: 'it returns false'. Refute it at one input. -/
def fnExactWriteDeviceBlockWrong : ChangeSpec := { name := "fnExactWriteDeviceBlock", fn := fun _ => fun
  | [d1, d2, d3] => { results := [.lit (.bool false)], args := [d1, d2, d3] }
  | _ => none }
def FnExactWriteDeviceBlockWrongFalsely : Prop := fnExactWriteDeviceBlockRow.holds Try.pinned (OpenSpec.ofChange fnExactWriteDeviceBlockWrong)

/-- 'laws.FnExactStoreBlocks': WHATEVER THE INPUT: true; the input reads as it did. -/
def fnExactStoreBlocksSpec : ChangeSpec := { name := "fnExactStoreBlocks", fn := fun _ => fun
  | [d1, d2] => { results := [.lit (.bool true)], args := [d1, d2] }
  | _ => none }
def fnExactStoreBlocksRow : OpenClaim := { program := "ytipkckoejkmhfab", sum := "c8c9fefa1aea6ce51ba56f4f6fa1cae47398272db224e2c2f7c9b06a912cf66b", func := "loop.example/g00899/laws.FnExactStoreBlocks", spec := "fnExactStoreBlocks", inPlace := ["internal/abi.NoEscape", "internal/bytealg.MakeNoZero"], apart := false }
def FnExactStoreBlocksSaid : Prop := fnExactStoreBlocksRow.holds Try.pinned (OpenSpec.ofChange fnExactStoreBlocksSpec)

/-- ITS FALSE NEIGHBOUR: 'it returns false'. Refute it at one input. -/
def fnExactStoreBlocksWrong : ChangeSpec := { name := "fnExactStoreBlocks", fn := fun _ => fun
  | [d1, d2] => { results := [.lit (.bool false)], args := [d1, d2] }
  | _ => none }
def FnExactStoreBlocksWrongFalsely : Prop := fnExactStoreBlocksRow.holds Try.pinned (OpenSpec.ofChange fnExactStoreBlocksWrong)

/-- 'laws.FnExactReplaceBlock': WHATEVER THE INPUT: true; the input reads as it did. -/
def fnExactReplaceBlockSpec : ChangeSpec := { name := "fnExactReplaceBlock", fn := fun _ => fun
  | [d1, d2] => { results := [.lit (.bool true)], args := [d1, d2] }
  | _ => none }
def fnExactReplaceBlockRow : OpenClaim := { program := "ytipkckoejkmhfab", sum := "c8c9fefa1aea6ce51ba56f4f6fa1cae47398272db224e2c2f7c9b06a912cf66b", func := "loop.example/g00899/laws.FnExactReplaceBlock", spec := "fnExactReplaceBlock", inPlace := ["internal/abi.NoEscape", "internal/bytealg.MakeNoZero"], apart := false }
def FnExactReplaceBlockSaid : Prop := fnExactReplaceBlockRow.holds Try.pinned (OpenSpec.ofChange fnExactReplaceBlockSpec)

/-- ITS FALSE NEIGHBOUR: 'it returns false'. Refute it at one input. -/
def fnExactReplaceBlockWrong : ChangeSpec := { name := "fnExactReplaceBlock", fn := fun _ => fun
  | [d1, d2] => { results := [.lit (.bool false)], args := [d1, d2] }
  | _ => none }
def FnExactReplaceBlockWrongFalsely : Prop := fnExactReplaceBlockRow.holds Try.pinned (OpenSpec.ofChange fnExactReplaceBlockWrong)

/-- 'laws.FnExactTrackOf': WHATEVER THE INPUT: true; the input reads as it did. -/
def fnExactTrackOfSpec : ChangeSpec := { name := "fnExactTrackOf", fn := fun _ => fun
  | [d1, d2] => { results := [.lit (.bool true)], args := [d1, d2] }
  | _ => none }
def fnExactTrackOfRow : OpenClaim := { program := "ytipkckoejkmhfab", sum := "c8c9fefa1aea6ce51ba56f4f6fa1cae47398272db224e2c2f7c9b06a912cf66b", func := "loop.example/g00899/laws.FnExactTrackOf", spec := "fnExactTrackOf", inPlace := ["internal/abi.NoEscape", "internal/bytealg.MakeNoZero"], apart := false }
def FnExactTrackOfSaid : Prop := fnExactTrackOfRow.holds Try.pinned (OpenSpec.ofChange fnExactTrackOfSpec)

/-- ITS FALSE NEIGHBOUR: 'it returns false'. Refute it at one input. -/
def fnExactTrackOfWrong : ChangeSpec := { name := "fnExactTrackOf", fn := fun _ => fun
  | [d1, d2] => { results := [.lit (.bool false)], args := [d1, d2] }
  | _ => none }
def FnExactTrackOfWrongFalsely : Prop := fnExactTrackOfRow.holds Try.pinned (OpenSpec.ofChange fnExactTrackOfWrong)

/-- 'laws.FnExactFillTrack': WHATEVER THE INPUT: true; the input reads as it did. -/
def fnExactFillTrackSpec : ChangeSpec := { name := "fnExactFillTrack", fn := fun _ => fun
  | [d1, d2, d3] => { results := [.lit (.bool true)], args := [d1, d2, d3] }
  | _ => none }
def fnExactFillTrackRow : OpenClaim := { program := "ytipkckoejkmhfab", sum := "c8c9fefa1aea6ce51ba56f4f6fa1cae47398272db224e2c2f7c9b06a912cf66b", func := "loop.example/g00899/laws.FnExactFillTrack", spec := "fnExactFillTrack", inPlace := ["internal/abi.NoEscape", "internal/bytealg.MakeNoZero"], apart := false }
def FnExactFillTrackSaid : Prop := fnExactFillTrackRow.holds Try.pinned (OpenSpec.ofChange fnExactFillTrackSpec)

/-- ITS FALSE NEIGHBOUR: 'it returns false'. Refute it at one input. -/
def fnExactFillTrackWrong : ChangeSpec := { name := "fnExactFillTrack", fn := fun _ => fun
  | [d1, d2, d3] => { results := [.lit (.bool false)], args := [d1, d2, d3] }
  | _ => none }
def FnExactFillTrackWrongFalsely : Prop := fnExactFillTrackRow.holds Try.pinned (OpenSpec.ofChange fnExactFillTrackWrong)

/-- 'laws.FnExactEncodeImage': WHATEVER THE INPUT: true; the input reads as it did. -/
def fnExactEncodeImageSpec : ChangeSpec := { name := "fnExactEncodeImage", fn := fun _ => fun
  | [d] => { results := [.lit (.bool true)], args := [d] }
  | _ => none }
def fnExactEncodeImageRow : OpenClaim := { program := "ytipkckoejkmhfab", sum := "c8c9fefa1aea6ce51ba56f4f6fa1cae47398272db224e2c2f7c9b06a912cf66b", func := "loop.example/g00899/laws.FnExactEncodeImage", spec := "fnExactEncodeImage", inPlace := ["internal/abi.NoEscape", "internal/bytealg.MakeNoZero"], unfollowed := true, recurses := true, apart := false }
def FnExactEncodeImageSaid : Prop := fnExactEncodeImageRow.holds Try.pinned (OpenSpec.ofChange fnExactEncodeImageSpec)

/-- ITS FALSE NEIGHBOUR: 'it returns false'. Refute it at one input. -/
def fnExactEncodeImageWrong : ChangeSpec := { name := "fnExactEncodeImage", fn := fun _ => fun
  | [d] => { results := [.lit (.bool false)], args := [d] }
  | _ => none }
def FnExactEncodeImageWrongFalsely : Prop := fnExactEncodeImageRow.holds Try.pinned (OpenSpec.ofChange fnExactEncodeImageWrong)

/- THE SECOND FORM. 'bulk': how many values and letters a reading holds, each counted each time it is reached (what is shared counts as often as it is met; a slice's spare places count too). A statement '..UptoSaid' is the law's where the arguments, and the package variables that the reading takes, are together of bulk at most 1048576: NARROWER than '..Said'. Prove '..Said' where nothing that the law and all that it calls make is longer than what came in: it says more and counts as full. Else prove '..UptoSaid'. A law counts once. -/
mutual
def uptoBulk {H : Type} : DataW H → Nat
  | .lit (.string bytes) => bytes.length + 1
  | .lit _ => 1
  | .nil => 1
  | .ptr d => uptoBulk d + 1
  | .slice elems spare => uptoBulkAll elems + uptoBulkAll spare + 1
  | .agg parts => uptoBulkAll parts + 1
  | .iface _ d => uptoBulk d + 1
  | .map entries => uptoBulkEntries entries + 1
  | .held _ => 1
def uptoBulkAll {H : Type} : List (DataW H) → Nat
  | [] => 0
  | d :: r => uptoBulk d + uptoBulkAll r
def uptoBulkEntries {H : Type} : List (Lit × DataW H) → Nat
  | [] => 0
  | x :: r => uptoBulkEntry x + uptoBulkEntries r
def uptoBulkEntry {H : Type} : Lit × DataW H → Nat
  | (.string bytes, d) => bytes.length + uptoBulk d + 1
  | (_, d) => uptoBulk d + 1
 end
def uptoSmall : (H : Type) → List (DataW H) → Bool := fun _ ds => decide (uptoBulkAll ds ≤ 1048576)
def OpenSpec.upto (s : _root_.Go.ChangeSpec) : _root_.Go.OpenSpec := { _root_.Go.OpenSpec.ofChange s with cond := some uptoSmall }

/-- 'laws.FnExactWriteDeviceBlock', WHERE WHAT IT READS IS OF BULK AT MOST 1048576: true; the input reads as it did. -/
def fnExactWriteDeviceBlockUptoRow : OpenClaim := { program := "ytipkckoejkmhfab", sum := "c8c9fefa1aea6ce51ba56f4f6fa1cae47398272db224e2c2f7c9b06a912cf66b", func := "loop.example/g00899/laws.FnExactWriteDeviceBlock", spec := "fnExactWriteDeviceBlock", inPlace := ["internal/abi.NoEscape", "internal/bytealg.MakeNoZero"], apart := false, narrowed := true }
def FnExactWriteDeviceBlockUptoSaid : Prop := fnExactWriteDeviceBlockUptoRow.holds Try.pinned (OpenSpec.upto fnExactWriteDeviceBlockSpec)

/-- 'laws.FnExactStoreBlocks', WHERE WHAT IT READS IS OF BULK AT MOST 1048576: true; the input reads as it did. -/
def fnExactStoreBlocksUptoRow : OpenClaim := { program := "ytipkckoejkmhfab", sum := "c8c9fefa1aea6ce51ba56f4f6fa1cae47398272db224e2c2f7c9b06a912cf66b", func := "loop.example/g00899/laws.FnExactStoreBlocks", spec := "fnExactStoreBlocks", inPlace := ["internal/abi.NoEscape", "internal/bytealg.MakeNoZero"], apart := false, narrowed := true }
def FnExactStoreBlocksUptoSaid : Prop := fnExactStoreBlocksUptoRow.holds Try.pinned (OpenSpec.upto fnExactStoreBlocksSpec)

/-- 'laws.FnExactReplaceBlock', WHERE WHAT IT READS IS OF BULK AT MOST 1048576: true; the input reads as it did. -/
def fnExactReplaceBlockUptoRow : OpenClaim := { program := "ytipkckoejkmhfab", sum := "c8c9fefa1aea6ce51ba56f4f6fa1cae47398272db224e2c2f7c9b06a912cf66b", func := "loop.example/g00899/laws.FnExactReplaceBlock", spec := "fnExactReplaceBlock", inPlace := ["internal/abi.NoEscape", "internal/bytealg.MakeNoZero"], apart := false, narrowed := true }
def FnExactReplaceBlockUptoSaid : Prop := fnExactReplaceBlockUptoRow.holds Try.pinned (OpenSpec.upto fnExactReplaceBlockSpec)

/-- 'laws.FnExactTrackOf', WHERE WHAT IT READS IS OF BULK AT MOST 1048576: true; the input reads as it did. -/
def fnExactTrackOfUptoRow : OpenClaim := { program := "ytipkckoejkmhfab", sum := "c8c9fefa1aea6ce51ba56f4f6fa1cae47398272db224e2c2f7c9b06a912cf66b", func := "loop.example/g00899/laws.FnExactTrackOf", spec := "fnExactTrackOf", inPlace := ["internal/abi.NoEscape", "internal/bytealg.MakeNoZero"], apart := false, narrowed := true }
def FnExactTrackOfUptoSaid : Prop := fnExactTrackOfUptoRow.holds Try.pinned (OpenSpec.upto fnExactTrackOfSpec)

/-- 'laws.FnExactFillTrack', WHERE WHAT IT READS IS OF BULK AT MOST 1048576: true; the input reads as it did. -/
def fnExactFillTrackUptoRow : OpenClaim := { program := "ytipkckoejkmhfab", sum := "c8c9fefa1aea6ce51ba56f4f6fa1cae47398272db224e2c2f7c9b06a912cf66b", func := "loop.example/g00899/laws.FnExactFillTrack", spec := "fnExactFillTrack", inPlace := ["internal/abi.NoEscape", "internal/bytealg.MakeNoZero"], apart := false, narrowed := true }
def FnExactFillTrackUptoSaid : Prop := fnExactFillTrackUptoRow.holds Try.pinned (OpenSpec.upto fnExactFillTrackSpec)

/-- 'laws.FnExactEncodeImage', WHERE WHAT IT READS IS OF BULK AT MOST 1048576: true; the input reads as it did. -/
def fnExactEncodeImageUptoRow : OpenClaim := { program := "ytipkckoejkmhfab", sum := "c8c9fefa1aea6ce51ba56f4f6fa1cae47398272db224e2c2f7c9b06a912cf66b", func := "loop.example/g00899/laws.FnExactEncodeImage", spec := "fnExactEncodeImage", inPlace := ["internal/abi.NoEscape", "internal/bytealg.MakeNoZero"], unfollowed := true, recurses := true, apart := false, narrowed := true }
def FnExactEncodeImageUptoSaid : Prop := fnExactEncodeImageUptoRow.holds Try.pinned (OpenSpec.upto fnExactEncodeImageSpec)

end Rows
end Go.Proofs.Ytipkckoejkmhfab
