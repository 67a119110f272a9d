/-
  No cell of these rows narrows 'for every input' (looked for: loops, veiled, ifaces, maps, wideKeys, modest, calm, conditions, laid).
  DERIVED. THE GIVEN ROWS OF THIS SEAT. 12 by the template 'for every input the law returns true; each argument reads behind the call as it read before'; 0 by the template 'total and deterministic' (their statements: YtepipnigcgpncaaTotals.lean).
  GIVEN WITH THE SEED: the statements are not yours to turn. If you find one false, say at which input.
  Laid BY PROGRAM, IN A SANDBOX (cutbox-rows.mjs): the forced cells as the released guide's own fill.sh prints them over the translation 606e7136db995945… (all of the seat's roots in one cut). By AI agents, Wed Nov 11 2026. No macro, syntax, notation, axiom, sorry.
-/
import Derived.Test.YtepipnigcgpncaaChecked
import GoSem.Claim
import GoSem.ClaimJoined
import GoSem.ClaimMapViews
import Derived.JoinedTies
import Derived.KernelRfl
namespace Go.Proofs.Ytepipnigcgpncaa
/- THE CELL 'sum', in the pinned program and in every row, IS THE sha256 OF THE DUMP (.gsa) THAT YtepipnigcgpncaaProg.lean LOADS. Nothing in Lean hashes anything: it is a label: what it is worth is what the hold of that sum in a sandbox is worth. -/
noncomputable def Try.pinned : Pinned := { name := "ytepipnigcgpncaa", sum := "606e7136db99594506b7f6fabd3e2689728783b908956dea83cf4c09af44d396", checked := Try.checked }
namespace Rows
def none {H : Type} : Left H := { results := [], args := [] }

/-- 'laws.FnExactSectorBytes': WHATEVER THE INPUT: true; the input reads as it did. -/
def fnExactSectorBytesSpec : ChangeSpec := { name := "fnExactSectorBytes", fn := fun _ => fun
  | [d] => { results := [.lit (.bool true)], args := [d] }
  | _ => none }
def fnExactSectorBytesRow : OpenClaim := { program := "ytepipnigcgpncaa", sum := "606e7136db99594506b7f6fabd3e2689728783b908956dea83cf4c09af44d396", func := "loop.example/g00899/laws.FnExactSectorBytes", spec := "fnExactSectorBytes", apart := false }
def FnExactSectorBytesSaid : Prop := fnExactSectorBytesRow.holds Try.pinned (OpenSpec.ofChange fnExactSectorBytesSpec)

/-- ITS FALSE NEIGHBOUR: 'it returns false'. Refute it at one input. -/
def fnExactSectorBytesWrong : ChangeSpec := { name := "fnExactSectorBytes", fn := fun _ => fun
  | [d] => { results := [.lit (.bool false)], args := [d] }
  | _ => none }
def FnExactSectorBytesWrongFalsely : Prop := fnExactSectorBytesRow.holds Try.pinned (OpenSpec.ofChange fnExactSectorBytesWrong)

/-- 'laws.FnExactValidChunk': WHATEVER THE INPUT: true; the input reads as it did. -/
def fnExactValidChunkSpec : ChangeSpec := { name := "fnExactValidChunk", fn := fun _ => fun
  | [d] => { results := [.lit (.bool true)], args := [d] }
  | _ => none }
def fnExactValidChunkRow : OpenClaim := { program := "ytepipnigcgpncaa", sum := "606e7136db99594506b7f6fabd3e2689728783b908956dea83cf4c09af44d396", func := "loop.example/g00899/laws.FnExactValidChunk", spec := "fnExactValidChunk", apart := false }
def FnExactValidChunkSaid : Prop := fnExactValidChunkRow.holds Try.pinned (OpenSpec.ofChange fnExactValidChunkSpec)

/-- ITS FALSE NEIGHBOUR: 'it returns false'. Refute it at one input. -/
def fnExactValidChunkWrong : ChangeSpec := { name := "fnExactValidChunk", fn := fun _ => fun
  | [d] => { results := [.lit (.bool false)], args := [d] }
  | _ => none }
def FnExactValidChunkWrongFalsely : Prop := fnExactValidChunkRow.holds Try.pinned (OpenSpec.ofChange fnExactValidChunkWrong)

/-- 'laws.FnExactSealBlock': WHATEVER THE INPUT: true; the input reads as it did. -/
def fnExactSealBlockSpec : ChangeSpec := { name := "fnExactSealBlock", fn := fun _ => fun
  | [d] => { results := [.lit (.bool true)], args := [d] }
  | _ => none }
def fnExactSealBlockRow : OpenClaim := { program := "ytepipnigcgpncaa", sum := "606e7136db99594506b7f6fabd3e2689728783b908956dea83cf4c09af44d396", func := "loop.example/g00899/laws.FnExactSealBlock", spec := "fnExactSealBlock", apart := false }
def FnExactSealBlockSaid : Prop := fnExactSealBlockRow.holds Try.pinned (OpenSpec.ofChange fnExactSealBlockSpec)

/-- ITS FALSE NEIGHBOUR: 'it returns false'. Refute it at one input. -/
def fnExactSealBlockWrong : ChangeSpec := { name := "fnExactSealBlock", fn := fun _ => fun
  | [d] => { results := [.lit (.bool false)], args := [d] }
  | _ => none }
def FnExactSealBlockWrongFalsely : Prop := fnExactSealBlockRow.holds Try.pinned (OpenSpec.ofChange fnExactSealBlockWrong)

/-- 'laws.FnExactHashOf': WHATEVER THE INPUT: true; the input reads as it did. -/
def fnExactHashOfSpec : ChangeSpec := { name := "fnExactHashOf", fn := fun _ => fun
  | [d] => { results := [.lit (.bool true)], args := [d] }
  | _ => none }
def fnExactHashOfRow : OpenClaim := { program := "ytepipnigcgpncaa", sum := "606e7136db99594506b7f6fabd3e2689728783b908956dea83cf4c09af44d396", func := "loop.example/g00899/laws.FnExactHashOf", spec := "fnExactHashOf", apart := false }
def FnExactHashOfSaid : Prop := fnExactHashOfRow.holds Try.pinned (OpenSpec.ofChange fnExactHashOfSpec)

/-- ITS FALSE NEIGHBOUR: 'it returns false'. Refute it at one input. -/
def fnExactHashOfWrong : ChangeSpec := { name := "fnExactHashOf", fn := fun _ => fun
  | [d] => { results := [.lit (.bool false)], args := [d] }
  | _ => none }
def FnExactHashOfWrongFalsely : Prop := fnExactHashOfRow.holds Try.pinned (OpenSpec.ofChange fnExactHashOfWrong)

/-- 'laws.FnExactUnpackBytes': WHATEVER THE INPUT: true; the input reads as it did. -/
def fnExactUnpackBytesSpec : ChangeSpec := { name := "fnExactUnpackBytes", fn := fun _ => fun
  | [d] => { results := [.lit (.bool true)], args := [d] }
  | _ => none }
def fnExactUnpackBytesRow : OpenClaim := { program := "ytepipnigcgpncaa", sum := "606e7136db99594506b7f6fabd3e2689728783b908956dea83cf4c09af44d396", func := "loop.example/g00899/laws.FnExactUnpackBytes", spec := "fnExactUnpackBytes", apart := false }
def FnExactUnpackBytesSaid : Prop := fnExactUnpackBytesRow.holds Try.pinned (OpenSpec.ofChange fnExactUnpackBytesSpec)

/-- ITS FALSE NEIGHBOUR: 'it returns false'. Refute it at one input. -/
def fnExactUnpackBytesWrong : ChangeSpec := { name := "fnExactUnpackBytes", fn := fun _ => fun
  | [d] => { results := [.lit (.bool false)], args := [d] }
  | _ => none }
def FnExactUnpackBytesWrongFalsely : Prop := fnExactUnpackBytesRow.holds Try.pinned (OpenSpec.ofChange fnExactUnpackBytesWrong)

/-- 'laws.FnExactPackRuns': WHATEVER THE INPUT: true; the input reads as it did. -/
def fnExactPackRunsSpec : ChangeSpec := { name := "fnExactPackRuns", fn := fun _ => fun
  | [d] => { results := [.lit (.bool true)], args := [d] }
  | _ => none }
def fnExactPackRunsRow : OpenClaim := { program := "ytepipnigcgpncaa", sum := "606e7136db99594506b7f6fabd3e2689728783b908956dea83cf4c09af44d396", func := "loop.example/g00899/laws.FnExactPackRuns", spec := "fnExactPackRuns", apart := false }
def FnExactPackRunsSaid : Prop := fnExactPackRunsRow.holds Try.pinned (OpenSpec.ofChange fnExactPackRunsSpec)

/-- ITS FALSE NEIGHBOUR: 'it returns false'. Refute it at one input. -/
def fnExactPackRunsWrong : ChangeSpec := { name := "fnExactPackRuns", fn := fun _ => fun
  | [d] => { results := [.lit (.bool false)], args := [d] }
  | _ => none }
def FnExactPackRunsWrongFalsely : Prop := fnExactPackRunsRow.holds Try.pinned (OpenSpec.ofChange fnExactPackRunsWrong)

/-- 'laws.FnExactEncodeChunk': WHATEVER THE INPUT: true; the input reads as it did. -/
def fnExactEncodeChunkSpec : ChangeSpec := { name := "fnExactEncodeChunk", fn := fun _ => fun
  | [d] => { results := [.lit (.bool true)], args := [d] }
  | _ => none }
def fnExactEncodeChunkRow : OpenClaim := { program := "ytepipnigcgpncaa", sum := "606e7136db99594506b7f6fabd3e2689728783b908956dea83cf4c09af44d396", func := "loop.example/g00899/laws.FnExactEncodeChunk", spec := "fnExactEncodeChunk", apart := false }
def FnExactEncodeChunkSaid : Prop := fnExactEncodeChunkRow.holds Try.pinned (OpenSpec.ofChange fnExactEncodeChunkSpec)

/-- ITS FALSE NEIGHBOUR: 'it returns false'. Refute it at one input. -/
def fnExactEncodeChunkWrong : ChangeSpec := { name := "fnExactEncodeChunk", fn := fun _ => fun
  | [d] => { results := [.lit (.bool false)], args := [d] }
  | _ => none }
def FnExactEncodeChunkWrongFalsely : Prop := fnExactEncodeChunkRow.holds Try.pinned (OpenSpec.ofChange fnExactEncodeChunkWrong)

/-- 'laws.FnExactPackGaps': WHATEVER THE INPUT: true; the input reads as it did. -/
def fnExactPackGapsSpec : ChangeSpec := { name := "fnExactPackGaps", fn := fun _ => fun
  | [d] => { results := [.lit (.bool true)], args := [d] }
  | _ => none }
def fnExactPackGapsRow : OpenClaim := { program := "ytepipnigcgpncaa", sum := "606e7136db99594506b7f6fabd3e2689728783b908956dea83cf4c09af44d396", func := "loop.example/g00899/laws.FnExactPackGaps", spec := "fnExactPackGaps", apart := false }
def FnExactPackGapsSaid : Prop := fnExactPackGapsRow.holds Try.pinned (OpenSpec.ofChange fnExactPackGapsSpec)

/-- ITS FALSE NEIGHBOUR: 'it returns false'. Refute it at one input. -/
def fnExactPackGapsWrong : ChangeSpec := { name := "fnExactPackGaps", fn := fun _ => fun
  | [d] => { results := [.lit (.bool false)], args := [d] }
  | _ => none }
def FnExactPackGapsWrongFalsely : Prop := fnExactPackGapsRow.holds Try.pinned (OpenSpec.ofChange fnExactPackGapsWrong)

/-- 'laws.FnExactApplyDeltas': WHATEVER THE INPUT: true; the input reads as it did. -/
def fnExactApplyDeltasSpec : ChangeSpec := { name := "fnExactApplyDeltas", fn := fun _ => fun
  | [d1, d2] => { results := [.lit (.bool true)], args := [d1, d2] }
  | _ => none }
def fnExactApplyDeltasRow : OpenClaim := { program := "ytepipnigcgpncaa", sum := "606e7136db99594506b7f6fabd3e2689728783b908956dea83cf4c09af44d396", func := "loop.example/g00899/laws.FnExactApplyDeltas", spec := "fnExactApplyDeltas", apart := false }
def FnExactApplyDeltasSaid : Prop := fnExactApplyDeltasRow.holds Try.pinned (OpenSpec.ofChange fnExactApplyDeltasSpec)

/-- ITS FALSE NEIGHBOUR: 'it returns false'. Refute it at one input. -/
def fnExactApplyDeltasWrong : ChangeSpec := { name := "fnExactApplyDeltas", fn := fun _ => fun
  | [d1, d2] => { results := [.lit (.bool false)], args := [d1, d2] }
  | _ => none }
def FnExactApplyDeltasWrongFalsely : Prop := fnExactApplyDeltasRow.holds Try.pinned (OpenSpec.ofChange fnExactApplyDeltasWrong)

/-- 'laws.FnExactDeltasOf': WHATEVER THE INPUT: true; the input reads as it did. -/
def fnExactDeltasOfSpec : ChangeSpec := { name := "fnExactDeltasOf", fn := fun _ => fun
  | [d1, d2] => { results := [.lit (.bool true)], args := [d1, d2] }
  | _ => none }
def fnExactDeltasOfRow : OpenClaim := { program := "ytepipnigcgpncaa", sum := "606e7136db99594506b7f6fabd3e2689728783b908956dea83cf4c09af44d396", func := "loop.example/g00899/laws.FnExactDeltasOf", spec := "fnExactDeltasOf", apart := false }
def FnExactDeltasOfSaid : Prop := fnExactDeltasOfRow.holds Try.pinned (OpenSpec.ofChange fnExactDeltasOfSpec)

/-- ITS FALSE NEIGHBOUR: 'it returns false'. Refute it at one input. -/
def fnExactDeltasOfWrong : ChangeSpec := { name := "fnExactDeltasOf", fn := fun _ => fun
  | [d1, d2] => { results := [.lit (.bool false)], args := [d1, d2] }
  | _ => none }
def FnExactDeltasOfWrongFalsely : Prop := fnExactDeltasOfRow.holds Try.pinned (OpenSpec.ofChange fnExactDeltasOfWrong)

/-- 'laws.FnExactPackBytes': WHATEVER THE INPUT: true; the input reads as it did. -/
def fnExactPackBytesSpec : ChangeSpec := { name := "fnExactPackBytes", fn := fun _ => fun
  | [d] => { results := [.lit (.bool true)], args := [d] }
  | _ => none }
def fnExactPackBytesRow : OpenClaim := { program := "ytepipnigcgpncaa", sum := "606e7136db99594506b7f6fabd3e2689728783b908956dea83cf4c09af44d396", func := "loop.example/g00899/laws.FnExactPackBytes", spec := "fnExactPackBytes", unfollowed := true, recurses := true, apart := false }
def FnExactPackBytesSaid : Prop := fnExactPackBytesRow.holds Try.pinned (OpenSpec.ofChange fnExactPackBytesSpec)

/-- ITS FALSE NEIGHBOUR: 'it returns false'. Refute it at one input. -/
def fnExactPackBytesWrong : ChangeSpec := { name := "fnExactPackBytes", fn := fun _ => fun
  | [d] => { results := [.lit (.bool false)], args := [d] }
  | _ => none }
def FnExactPackBytesWrongFalsely : Prop := fnExactPackBytesRow.holds Try.pinned (OpenSpec.ofChange fnExactPackBytesWrong)

/-- 'laws.FnExactValidFiles': WHATEVER THE INPUT: true; the input reads as it did. -/
def fnExactValidFilesSpec : ChangeSpec := { name := "fnExactValidFiles", fn := fun _ => fun
  | [d] => { results := [.lit (.bool true)], args := [d] }
  | _ => none }
def fnExactValidFilesRow : OpenClaim := { program := "ytepipnigcgpncaa", sum := "606e7136db99594506b7f6fabd3e2689728783b908956dea83cf4c09af44d396", func := "loop.example/g00899/laws.FnExactValidFiles", spec := "fnExactValidFiles", apart := false }
def FnExactValidFilesSaid : Prop := fnExactValidFilesRow.holds Try.pinned (OpenSpec.ofChange fnExactValidFilesSpec)

/-- ITS FALSE NEIGHBOUR: 'it returns false'. Refute it at one input. -/
def fnExactValidFilesWrong : ChangeSpec := { name := "fnExactValidFiles", fn := fun _ => fun
  | [d] => { results := [.lit (.bool false)], args := [d] }
  | _ => none }
def FnExactValidFilesWrongFalsely : Prop := fnExactValidFilesRow.holds Try.pinned (OpenSpec.ofChange fnExactValidFilesWrong)

/- THE SECOND FORM. 'bulk': how many values and letters a reading holds, each counted each time it is reached (what is shared counts as often as it is met; a slice's spare places count too). A statement '..UptoSaid' is the law's where the arguments, and the package variables that the reading takes, are together of bulk at most 1048576: NARROWER than '..Said'. Prove '..Said' where nothing that the law and all that it calls make is longer than what came in: it says more and counts as full. Else prove '..UptoSaid'. A law counts once. -/
mutual
def uptoBulk {H : Type} : DataW H → Nat
  | .lit (.string bytes) => bytes.length + 1
  | .lit _ => 1
  | .nil => 1
  | .ptr d => uptoBulk d + 1
  | .slice elems spare => uptoBulkAll elems + uptoBulkAll spare + 1
  | .agg parts => uptoBulkAll parts + 1
  | .iface _ d => uptoBulk d + 1
  | .map entries => uptoBulkEntries entries + 1
  | .held _ => 1
def uptoBulkAll {H : Type} : List (DataW H) → Nat
  | [] => 0
  | d :: r => uptoBulk d + uptoBulkAll r
def uptoBulkEntries {H : Type} : List (Lit × DataW H) → Nat
  | [] => 0
  | x :: r => uptoBulkEntry x + uptoBulkEntries r
def uptoBulkEntry {H : Type} : Lit × DataW H → Nat
  | (.string bytes, d) => bytes.length + uptoBulk d + 1
  | (_, d) => uptoBulk d + 1
 end
def uptoSmall : (H : Type) → List (DataW H) → Bool := fun _ ds => decide (uptoBulkAll ds ≤ 1048576)
def OpenSpec.upto (s : _root_.Go.ChangeSpec) : _root_.Go.OpenSpec := { _root_.Go.OpenSpec.ofChange s with cond := some uptoSmall }

/-- 'laws.FnExactSectorBytes', WHERE WHAT IT READS IS OF BULK AT MOST 1048576: true; the input reads as it did. -/
def fnExactSectorBytesUptoRow : OpenClaim := { program := "ytepipnigcgpncaa", sum := "606e7136db99594506b7f6fabd3e2689728783b908956dea83cf4c09af44d396", func := "loop.example/g00899/laws.FnExactSectorBytes", spec := "fnExactSectorBytes", apart := false, narrowed := true }
def FnExactSectorBytesUptoSaid : Prop := fnExactSectorBytesUptoRow.holds Try.pinned (OpenSpec.upto fnExactSectorBytesSpec)

/-- 'laws.FnExactValidChunk', WHERE WHAT IT READS IS OF BULK AT MOST 1048576: true; the input reads as it did. -/
def fnExactValidChunkUptoRow : OpenClaim := { program := "ytepipnigcgpncaa", sum := "606e7136db99594506b7f6fabd3e2689728783b908956dea83cf4c09af44d396", func := "loop.example/g00899/laws.FnExactValidChunk", spec := "fnExactValidChunk", apart := false, narrowed := true }
def FnExactValidChunkUptoSaid : Prop := fnExactValidChunkUptoRow.holds Try.pinned (OpenSpec.upto fnExactValidChunkSpec)

/-- 'laws.FnExactSealBlock', WHERE WHAT IT READS IS OF BULK AT MOST 1048576: true; the input reads as it did. -/
def fnExactSealBlockUptoRow : OpenClaim := { program := "ytepipnigcgpncaa", sum := "606e7136db99594506b7f6fabd3e2689728783b908956dea83cf4c09af44d396", func := "loop.example/g00899/laws.FnExactSealBlock", spec := "fnExactSealBlock", apart := false, narrowed := true }
def FnExactSealBlockUptoSaid : Prop := fnExactSealBlockUptoRow.holds Try.pinned (OpenSpec.upto fnExactSealBlockSpec)

/-- 'laws.FnExactHashOf', WHERE WHAT IT READS IS OF BULK AT MOST 1048576: true; the input reads as it did. -/
def fnExactHashOfUptoRow : OpenClaim := { program := "ytepipnigcgpncaa", sum := "606e7136db99594506b7f6fabd3e2689728783b908956dea83cf4c09af44d396", func := "loop.example/g00899/laws.FnExactHashOf", spec := "fnExactHashOf", apart := false, narrowed := true }
def FnExactHashOfUptoSaid : Prop := fnExactHashOfUptoRow.holds Try.pinned (OpenSpec.upto fnExactHashOfSpec)

/-- 'laws.FnExactUnpackBytes', WHERE WHAT IT READS IS OF BULK AT MOST 1048576: true; the input reads as it did. -/
def fnExactUnpackBytesUptoRow : OpenClaim := { program := "ytepipnigcgpncaa", sum := "606e7136db99594506b7f6fabd3e2689728783b908956dea83cf4c09af44d396", func := "loop.example/g00899/laws.FnExactUnpackBytes", spec := "fnExactUnpackBytes", apart := false, narrowed := true }
def FnExactUnpackBytesUptoSaid : Prop := fnExactUnpackBytesUptoRow.holds Try.pinned (OpenSpec.upto fnExactUnpackBytesSpec)

/-- 'laws.FnExactPackRuns', WHERE WHAT IT READS IS OF BULK AT MOST 1048576: true; the input reads as it did. -/
def fnExactPackRunsUptoRow : OpenClaim := { program := "ytepipnigcgpncaa", sum := "606e7136db99594506b7f6fabd3e2689728783b908956dea83cf4c09af44d396", func := "loop.example/g00899/laws.FnExactPackRuns", spec := "fnExactPackRuns", apart := false, narrowed := true }
def FnExactPackRunsUptoSaid : Prop := fnExactPackRunsUptoRow.holds Try.pinned (OpenSpec.upto fnExactPackRunsSpec)

/-- 'laws.FnExactEncodeChunk', WHERE WHAT IT READS IS OF BULK AT MOST 1048576: true; the input reads as it did. -/
def fnExactEncodeChunkUptoRow : OpenClaim := { program := "ytepipnigcgpncaa", sum := "606e7136db99594506b7f6fabd3e2689728783b908956dea83cf4c09af44d396", func := "loop.example/g00899/laws.FnExactEncodeChunk", spec := "fnExactEncodeChunk", apart := false, narrowed := true }
def FnExactEncodeChunkUptoSaid : Prop := fnExactEncodeChunkUptoRow.holds Try.pinned (OpenSpec.upto fnExactEncodeChunkSpec)

/-- 'laws.FnExactPackGaps', WHERE WHAT IT READS IS OF BULK AT MOST 1048576: true; the input reads as it did. -/
def fnExactPackGapsUptoRow : OpenClaim := { program := "ytepipnigcgpncaa", sum := "606e7136db99594506b7f6fabd3e2689728783b908956dea83cf4c09af44d396", func := "loop.example/g00899/laws.FnExactPackGaps", spec := "fnExactPackGaps", apart := false, narrowed := true }
def FnExactPackGapsUptoSaid : Prop := fnExactPackGapsUptoRow.holds Try.pinned (OpenSpec.upto fnExactPackGapsSpec)

/-- 'laws.FnExactApplyDeltas', WHERE WHAT IT READS IS OF BULK AT MOST 1048576: true; the input reads as it did. -/
def fnExactApplyDeltasUptoRow : OpenClaim := { program := "ytepipnigcgpncaa", sum := "606e7136db99594506b7f6fabd3e2689728783b908956dea83cf4c09af44d396", func := "loop.example/g00899/laws.FnExactApplyDeltas", spec := "fnExactApplyDeltas", apart := false, narrowed := true }
def FnExactApplyDeltasUptoSaid : Prop := fnExactApplyDeltasUptoRow.holds Try.pinned (OpenSpec.upto fnExactApplyDeltasSpec)

/-- 'laws.FnExactDeltasOf', WHERE WHAT IT READS IS OF BULK AT MOST 1048576: true; the input reads as it did. -/
def fnExactDeltasOfUptoRow : OpenClaim := { program := "ytepipnigcgpncaa", sum := "606e7136db99594506b7f6fabd3e2689728783b908956dea83cf4c09af44d396", func := "loop.example/g00899/laws.FnExactDeltasOf", spec := "fnExactDeltasOf", apart := false, narrowed := true }
def FnExactDeltasOfUptoSaid : Prop := fnExactDeltasOfUptoRow.holds Try.pinned (OpenSpec.upto fnExactDeltasOfSpec)

/-- 'laws.FnExactPackBytes', WHERE WHAT IT READS IS OF BULK AT MOST 1048576: true; the input reads as it did. -/
def fnExactPackBytesUptoRow : OpenClaim := { program := "ytepipnigcgpncaa", sum := "606e7136db99594506b7f6fabd3e2689728783b908956dea83cf4c09af44d396", func := "loop.example/g00899/laws.FnExactPackBytes", spec := "fnExactPackBytes", unfollowed := true, recurses := true, apart := false, narrowed := true }
def FnExactPackBytesUptoSaid : Prop := fnExactPackBytesUptoRow.holds Try.pinned (OpenSpec.upto fnExactPackBytesSpec)

/-- 'laws.FnExactValidFiles', WHERE WHAT IT READS IS OF BULK AT MOST 1048576: true; the input reads as it did. -/
def fnExactValidFilesUptoRow : OpenClaim := { program := "ytepipnigcgpncaa", sum := "606e7136db99594506b7f6fabd3e2689728783b908956dea83cf4c09af44d396", func := "loop.example/g00899/laws.FnExactValidFiles", spec := "fnExactValidFiles", apart := false, narrowed := true }
def FnExactValidFilesUptoSaid : Prop := fnExactValidFilesUptoRow.holds Try.pinned (OpenSpec.upto fnExactValidFilesSpec)

end Rows
end Go.Proofs.Ytepipnigcgpncaa
