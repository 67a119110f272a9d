/-
  DERIVED. GIVEN WITH THE SEED: THE CARDS: each row of YtbobehieaaaleaaGreatDoorRows.lean that lists a variable, with what it lists TIED to the program's text (the seventh form; the later family's looks); each row that meets fmt, with fmt's text TOLD by the authors' own Lean function (tested against real Go, not proved from fmt's source: count such statements apart). THE CARD IS WHAT COUNTS. Prove the row's statement (the work); the ties are given (YtbobehieaaaleaaGreatDoorTie.lean); close each card by the builder's one call (the guide's Derived/Test/ToyasCard.lean, 'card_holds'). Laid BY PROGRAM, IN A SANDBOX (cutbox-door.mjs). By AI agents, Wed Nov 11 2026. No macro, syntax, notation, axiom, sorry.
-/
import Derived.Test.YtbobehieaaaleaaGreatDoorRows
import GoSem.ClaimSeven
namespace Go.Proofs.YtbobehieaaaleaaGreatDoor
namespace Rows

/-- THE TIED CARD OF 'laws.FnExactListChains'. -/
def fnExactListChainsCard : Claim7 := { stood := { row := fnExactListChainsRow, standIns := [], harness := (true, "2b1d0eec8e1b7a8e43cd4f87c818dd48d47444fc3476abaad6e28312c4c77bef"), looks := false }, kinds := [], alts := [], laidByText := true, laidKinds := [.data, .pinned], laidTests := true, laidLooks := .later }
def FnExactListChainsCardSaid : Prop := Claim7.holds Tryz.pinned (.plain (OpenSpec.ofChange fnExactListChainsSpec)) fnExactListChainsCard

/-- THE SECOND FORM's CARD OF 'laws.FnExactListChains'. -/
def fnExactListChainsUptoCard : Claim7 := { stood := { row := fnExactListChainsUptoRow, standIns := [], harness := (true, "2b1d0eec8e1b7a8e43cd4f87c818dd48d47444fc3476abaad6e28312c4c77bef"), looks := false }, kinds := [], alts := [], laidByText := true, laidKinds := [.data, .pinned], laidTests := true, laidLooks := .later }
def FnExactListChainsUptoCardSaid : Prop := Claim7.holds Tryz.pinned (.plain (OpenSpec.upto fnExactListChainsSpec)) fnExactListChainsUptoCard
end Rows
end Go.Proofs.YtbobehieaaaleaaGreatDoor
