/-
  No cell of these rows narrows 'for every input' (looked for: loops, veiled, ifaces, maps, wideKeys, modest, calm, conditions, laid).
  DERIVED. THE GIVEN ROWS OF THIS SEAT. 4 by the template 'for every input the law returns true; each argument reads behind the call as it read before'; 0 by the template 'total and deterministic' (their statements: YtjjcedodjoieoaaTotals.lean).
  GIVEN WITH THE SEED: the statements are not yours to turn. If you find one false, say at which input.
  Laid BY PROGRAM, IN A SANDBOX (cutbox-rows.mjs): the forced cells as the released guide's own fill.sh prints them over the translation 6db13c9f8c0fdec1… (all of the seat's roots in one cut). By AI agents, Wed Nov 11 2026. No macro, syntax, notation, axiom, sorry.
-/
import Derived.Test.YtjjcedodjoieoaaChecked
import GoSem.Claim
import GoSem.ClaimJoined
import GoSem.ClaimMapViews
import Derived.JoinedTies
import Derived.KernelRfl
namespace Go.Proofs.Ytjjcedodjoieoaa
/- THE CELL 'sum', in the pinned program and in every row, IS THE sha256 OF THE DUMP (.gsa) THAT YtjjcedodjoieoaaProg.lean LOADS. Nothing in Lean hashes anything: it is a label: what it is worth is what the hold of that sum in a sandbox is worth. -/
noncomputable def Try.pinned : Pinned := { name := "ytjjcedodjoieoaa", sum := "6db13c9f8c0fdec1d95be90002bd7c60372ff81bd5a60c7618abfb40babc5c66", checked := Try.checked }
namespace Rows
def none {H : Type} : Left H := { results := [], args := [] }

/-- 'laws.FnExactSalvageImage': WHATEVER THE INPUT: true; the input reads as it did. -/
def fnExactSalvageImageSpec : ChangeSpec := { name := "fnExactSalvageImage", fn := fun _ => fun
  | [d] => { results := [.lit (.bool true)], args := [d] }
  | _ => none }
def fnExactSalvageImageRow : OpenClaim := { program := "ytjjcedodjoieoaa", sum := "6db13c9f8c0fdec1d95be90002bd7c60372ff81bd5a60c7618abfb40babc5c66", func := "loop.example/g00899/laws.FnExactSalvageImage", spec := "fnExactSalvageImage", inPlace := ["internal/abi.NoEscape", "internal/bytealg.MakeNoZero"], apart := false }
def FnExactSalvageImageSaid : Prop := fnExactSalvageImageRow.holds Try.pinned (OpenSpec.ofChange fnExactSalvageImageSpec)

/-- ITS FALSE NEIGHBOUR: 'it returns false'. Refute it at one input. -/
def fnExactSalvageImageWrong : ChangeSpec := { name := "fnExactSalvageImage", fn := fun _ => fun
  | [d] => { results := [.lit (.bool false)], args := [d] }
  | _ => none }
def FnExactSalvageImageWrongFalsely : Prop := fnExactSalvageImageRow.holds Try.pinned (OpenSpec.ofChange fnExactSalvageImageWrong)

/-- 'laws.FnExactDecodeImage': WHATEVER THE INPUT: true; the input reads as it did. -/
def fnExactDecodeImageSpec : ChangeSpec := { name := "fnExactDecodeImage", fn := fun _ => fun
  | [d] => { results := [.lit (.bool true)], args := [d] }
  | _ => none }
def fnExactDecodeImageRow : OpenClaim := { program := "ytjjcedodjoieoaa", sum := "6db13c9f8c0fdec1d95be90002bd7c60372ff81bd5a60c7618abfb40babc5c66", func := "loop.example/g00899/laws.FnExactDecodeImage", spec := "fnExactDecodeImage", inPlace := ["internal/abi.NoEscape", "internal/bytealg.MakeNoZero"], apart := false }
def FnExactDecodeImageSaid : Prop := fnExactDecodeImageRow.holds Try.pinned (OpenSpec.ofChange fnExactDecodeImageSpec)

/-- ITS FALSE NEIGHBOUR: 'it returns false'. Refute it at one input. -/
def fnExactDecodeImageWrong : ChangeSpec := { name := "fnExactDecodeImage", fn := fun _ => fun
  | [d] => { results := [.lit (.bool false)], args := [d] }
  | _ => none }
def FnExactDecodeImageWrongFalsely : Prop := fnExactDecodeImageRow.holds Try.pinned (OpenSpec.ofChange fnExactDecodeImageWrong)

/-- 'laws.FnExactCompactContainer': WHATEVER THE INPUT: true; the input reads as it did. -/
def fnExactCompactContainerSpec : ChangeSpec := { name := "fnExactCompactContainer", fn := fun _ => fun
  | [d] => { results := [.lit (.bool true)], args := [d] }
  | _ => none }
def fnExactCompactContainerRow : OpenClaim := { program := "ytjjcedodjoieoaa", sum := "6db13c9f8c0fdec1d95be90002bd7c60372ff81bd5a60c7618abfb40babc5c66", func := "loop.example/g00899/laws.FnExactCompactContainer", spec := "fnExactCompactContainer", inPlace := ["internal/abi.NoEscape", "internal/bytealg.MakeNoZero"], unfollowed := true, recurses := true, apart := false }
def FnExactCompactContainerSaid : Prop := fnExactCompactContainerRow.holds Try.pinned (OpenSpec.ofChange fnExactCompactContainerSpec)

/-- ITS FALSE NEIGHBOUR: 'it returns false'. Refute it at one input. -/
def fnExactCompactContainerWrong : ChangeSpec := { name := "fnExactCompactContainer", fn := fun _ => fun
  | [d] => { results := [.lit (.bool false)], args := [d] }
  | _ => none }
def FnExactCompactContainerWrongFalsely : Prop := fnExactCompactContainerRow.holds Try.pinned (OpenSpec.ofChange fnExactCompactContainerWrong)

/-- 'laws.FnExactAppendTrack': WHATEVER THE INPUT: true; the input reads as it did. -/
def fnExactAppendTrackSpec : ChangeSpec := { name := "fnExactAppendTrack", fn := fun _ => fun
  | [d1, d2, d3] => { results := [.lit (.bool true)], args := [d1, d2, d3] }
  | _ => none }
def fnExactAppendTrackRow : OpenClaim := { program := "ytjjcedodjoieoaa", sum := "6db13c9f8c0fdec1d95be90002bd7c60372ff81bd5a60c7618abfb40babc5c66", func := "loop.example/g00899/laws.FnExactAppendTrack", spec := "fnExactAppendTrack", inPlace := ["internal/abi.NoEscape", "internal/bytealg.MakeNoZero"], unfollowed := true, recurses := true, apart := false }
def FnExactAppendTrackSaid : Prop := fnExactAppendTrackRow.holds Try.pinned (OpenSpec.ofChange fnExactAppendTrackSpec)

/-- ITS FALSE NEIGHBOUR: 'it returns false'. Refute it at one input. -/
def fnExactAppendTrackWrong : ChangeSpec := { name := "fnExactAppendTrack", fn := fun _ => fun
  | [d1, d2, d3] => { results := [.lit (.bool false)], args := [d1, d2, d3] }
  | _ => none }
def FnExactAppendTrackWrongFalsely : Prop := fnExactAppendTrackRow.holds Try.pinned (OpenSpec.ofChange fnExactAppendTrackWrong)

/- THE SECOND FORM. 'bulk': how many values and letters a reading holds, each counted each time it is reached (what is shared counts as often as it is met; a slice's spare places count too). A statement '..UptoSaid' is the law's where the arguments, and the package variables that the reading takes, are together of bulk at most 1048576: NARROWER than '..Said'. Prove '..Said' where nothing that the law and all that it calls make is longer than what came in: it says more and counts as full. Else prove '..UptoSaid'. A law counts once. -/
mutual
def uptoBulk {H : Type} : DataW H → Nat
  | .lit (.string bytes) => bytes.length + 1
  | .lit _ => 1
  | .nil => 1
  | .ptr d => uptoBulk d + 1
  | .slice elems spare => uptoBulkAll elems + uptoBulkAll spare + 1
  | .agg parts => uptoBulkAll parts + 1
  | .iface _ d => uptoBulk d + 1
  | .map entries => uptoBulkEntries entries + 1
  | .held _ => 1
def uptoBulkAll {H : Type} : List (DataW H) → Nat
  | [] => 0
  | d :: r => uptoBulk d + uptoBulkAll r
def uptoBulkEntries {H : Type} : List (Lit × DataW H) → Nat
  | [] => 0
  | x :: r => uptoBulkEntry x + uptoBulkEntries r
def uptoBulkEntry {H : Type} : Lit × DataW H → Nat
  | (.string bytes, d) => bytes.length + uptoBulk d + 1
  | (_, d) => uptoBulk d + 1
 end
def uptoSmall : (H : Type) → List (DataW H) → Bool := fun _ ds => decide (uptoBulkAll ds ≤ 1048576)
def OpenSpec.upto (s : _root_.Go.ChangeSpec) : _root_.Go.OpenSpec := { _root_.Go.OpenSpec.ofChange s with cond := some uptoSmall }

/-- 'laws.FnExactSalvageImage', WHERE WHAT IT READS IS OF BULK AT MOST 1048576: true; the input reads as it did. -/
def fnExactSalvageImageUptoRow : OpenClaim := { program := "ytjjcedodjoieoaa", sum := "6db13c9f8c0fdec1d95be90002bd7c60372ff81bd5a60c7618abfb40babc5c66", func := "loop.example/g00899/laws.FnExactSalvageImage", spec := "fnExactSalvageImage", inPlace := ["internal/abi.NoEscape", "internal/bytealg.MakeNoZero"], apart := false, narrowed := true }
def FnExactSalvageImageUptoSaid : Prop := fnExactSalvageImageUptoRow.holds Try.pinned (OpenSpec.upto fnExactSalvageImageSpec)

/-- 'laws.FnExactDecodeImage', WHERE WHAT IT READS IS OF BULK AT MOST 1048576: true; the input reads as it did. -/
def fnExactDecodeImageUptoRow : OpenClaim := { program := "ytjjcedodjoieoaa", sum := "6db13c9f8c0fdec1d95be90002bd7c60372ff81bd5a60c7618abfb40babc5c66", func := "loop.example/g00899/laws.FnExactDecodeImage", spec := "fnExactDecodeImage", inPlace := ["internal/abi.NoEscape", "internal/bytealg.MakeNoZero"], apart := false, narrowed := true }
def FnExactDecodeImageUptoSaid : Prop := fnExactDecodeImageUptoRow.holds Try.pinned (OpenSpec.upto fnExactDecodeImageSpec)

/-- 'laws.FnExactCompactContainer', WHERE WHAT IT READS IS OF BULK AT MOST 1048576: true; the input reads as it did. -/
def fnExactCompactContainerUptoRow : OpenClaim := { program := "ytjjcedodjoieoaa", sum := "6db13c9f8c0fdec1d95be90002bd7c60372ff81bd5a60c7618abfb40babc5c66", func := "loop.example/g00899/laws.FnExactCompactContainer", spec := "fnExactCompactContainer", inPlace := ["internal/abi.NoEscape", "internal/bytealg.MakeNoZero"], unfollowed := true, recurses := true, apart := false, narrowed := true }
def FnExactCompactContainerUptoSaid : Prop := fnExactCompactContainerUptoRow.holds Try.pinned (OpenSpec.upto fnExactCompactContainerSpec)

/-- 'laws.FnExactAppendTrack', WHERE WHAT IT READS IS OF BULK AT MOST 1048576: true; the input reads as it did. -/
def fnExactAppendTrackUptoRow : OpenClaim := { program := "ytjjcedodjoieoaa", sum := "6db13c9f8c0fdec1d95be90002bd7c60372ff81bd5a60c7618abfb40babc5c66", func := "loop.example/g00899/laws.FnExactAppendTrack", spec := "fnExactAppendTrack", inPlace := ["internal/abi.NoEscape", "internal/bytealg.MakeNoZero"], unfollowed := true, recurses := true, apart := false, narrowed := true }
def FnExactAppendTrackUptoSaid : Prop := fnExactAppendTrackUptoRow.holds Try.pinned (OpenSpec.upto fnExactAppendTrackSpec)

end Rows
end Go.Proofs.Ytjjcedodjoieoaa
