/-
  DERIVED. GIVEN WITH THE SEED: THE CARDS: each row of YtbobehieaaaleaaDoorRows.lean that lists a variable, with what it lists TIED to the program's text (the seventh form; the later family's looks); each row that meets fmt, with fmt's text TOLD by the authors' own Lean function (tested against real Go, not proved from fmt's source: count such statements apart). THE CARD IS WHAT COUNTS. Prove the row's statement (the work); the ties are given (YtbobehieaaaleaaDoorTie.lean); close each card by the builder's one call (the guide's Derived/Test/ToyasCard.lean, 'card_holds'). Laid BY PROGRAM, IN A SANDBOX (cutbox-door.mjs). By AI agents, Wed Nov 11 2026. No macro, syntax, notation, axiom, sorry.
-/
import Derived.Test.YtbobehieaaaleaaDoorRows
import GoSem.ClaimSeven
namespace Go.Proofs.YtbobehieaaaleaaDoor
namespace Rows

/-- THE TIED CARD OF 'laws.FnExactEntryAt'. -/
def fnExactEntryAtCard : Claim7 := { stood := { row := fnExactEntryAtRow, standIns := [], harness := (true, "2582a1f3c414aa8adcf471228e59ecf55bb103ac644194e7f558a15aba5288c5"), looks := false }, kinds := [], alts := [], laidByText := true, laidKinds := [.data, .pinned], laidTests := true, laidLooks := .later }
def FnExactEntryAtCardSaid : Prop := Claim7.holds Tryd.pinned (.plain (OpenSpec.ofChange fnExactEntryAtSpec)) fnExactEntryAtCard

/-- THE TIED CARD OF 'laws.FnExactListExtents'. -/
def fnExactListExtentsCard : Claim7 := { stood := { row := fnExactListExtentsRow, standIns := [], harness := (true, "2582a1f3c414aa8adcf471228e59ecf55bb103ac644194e7f558a15aba5288c5"), looks := false }, kinds := [], alts := [], laidByText := true, laidKinds := [.data, .pinned], laidTests := true, laidLooks := .later }
def FnExactListExtentsCardSaid : Prop := Claim7.holds Tryd.pinned (.plain (OpenSpec.ofChange fnExactListExtentsSpec)) fnExactListExtentsCard

/-- THE SECOND FORM's CARD OF 'laws.FnExactEntryAt'. -/
def fnExactEntryAtUptoCard : Claim7 := { stood := { row := fnExactEntryAtUptoRow, standIns := [], harness := (true, "2582a1f3c414aa8adcf471228e59ecf55bb103ac644194e7f558a15aba5288c5"), looks := false }, kinds := [], alts := [], laidByText := true, laidKinds := [.data, .pinned], laidTests := true, laidLooks := .later }
def FnExactEntryAtUptoCardSaid : Prop := Claim7.holds Tryd.pinned (.plain (OpenSpec.upto fnExactEntryAtSpec)) fnExactEntryAtUptoCard

/-- THE SECOND FORM's CARD OF 'laws.FnExactListExtents'. -/
def fnExactListExtentsUptoCard : Claim7 := { stood := { row := fnExactListExtentsUptoRow, standIns := [], harness := (true, "2582a1f3c414aa8adcf471228e59ecf55bb103ac644194e7f558a15aba5288c5"), looks := false }, kinds := [], alts := [], laidByText := true, laidKinds := [.data, .pinned], laidTests := true, laidLooks := .later }
def FnExactListExtentsUptoCardSaid : Prop := Claim7.holds Tryd.pinned (.plain (OpenSpec.upto fnExactListExtentsSpec)) fnExactListExtentsUptoCard
end Rows
end Go.Proofs.YtbobehieaaaleaaDoor
