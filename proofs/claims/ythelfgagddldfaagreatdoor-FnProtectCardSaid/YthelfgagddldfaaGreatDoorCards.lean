/-
  DERIVED. GIVEN WITH THE SEED: THE CARDS: each row of YthelfgagddldfaaGreatDoorRows.lean that lists a variable, with what it lists TIED to the program's text (the seventh form; the later family's looks); each row that meets fmt, with fmt's text TOLD by the authors' own Lean function (tested against real Go, not proved from fmt's source: count such statements apart). THE CARD IS WHAT COUNTS. Prove the row's statement (the work); the ties are given (YthelfgagddldfaaGreatDoorTie.lean); close each card by the builder's one call (the guide's Derived/Test/ToyasCard.lean, 'card_holds'). Laid BY PROGRAM, IN A SANDBOX (cutbox-door.mjs). By AI agents, Wed Nov 11 2026. No macro, syntax, notation, axiom, sorry.
-/
import Derived.Test.YthelfgagddldfaaGreatDoorRows
import GoSem.ClaimSeven
namespace Go.Proofs.YthelfgagddldfaaGreatDoor
namespace Rows

/-- THE TIED CARD OF 'laws.FnProtect'. -/
def fnProtectCard : Claim7 := { stood := { row := fnProtectRow, standIns := [], harness := (true, "987c72968c5dac6348178825aa096afd9d412d9a3b6a72ab421549fb67aada45"), looks := true }, kinds := [], alts := [], laidByText := true, laidKinds := [.data, .data, .data, .data, .sentinel, .sentinel, .data, .pinned], laidTests := true, laidLooks := .later }
def FnProtectCardSaid : Prop := Claim7.holds Tryz.pinned (.plain (OpenSpec.ofChange fnProtectSpec)) fnProtectCard

/-- THE SECOND FORM's CARD OF 'laws.FnProtect'. -/
def fnProtectUptoCard : Claim7 := { stood := { row := fnProtectUptoRow, standIns := [], harness := (true, "987c72968c5dac6348178825aa096afd9d412d9a3b6a72ab421549fb67aada45"), looks := true }, kinds := [], alts := [], laidByText := true, laidKinds := [.data, .data, .data, .data, .sentinel, .sentinel, .data, .pinned], laidTests := true, laidLooks := .later }
def FnProtectUptoCardSaid : Prop := Claim7.holds Tryz.pinned (.plain (OpenSpec.upto fnProtectSpec)) fnProtectUptoCard
end Rows
end Go.Proofs.YthelfgagddldfaaGreatDoor
