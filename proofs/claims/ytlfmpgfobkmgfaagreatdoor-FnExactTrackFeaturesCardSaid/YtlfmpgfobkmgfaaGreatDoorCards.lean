/-
  DERIVED. GIVEN WITH THE SEED: THE CARDS: each row of YtlfmpgfobkmgfaaGreatDoorRows.lean that lists a variable, with what it lists TIED to the program's text (the seventh form; the later family's looks); each row that meets fmt, with fmt's text TOLD by the authors' own Lean function (tested against real Go, not proved from fmt's source: count such statements apart). THE CARD IS WHAT COUNTS. Prove the row's statement (the work); the ties are given (YtlfmpgfobkmgfaaGreatDoorTie.lean); close each card by the builder's one call (the guide's Derived/Test/ToyasCard.lean, 'card_holds'). Laid BY PROGRAM, IN A SANDBOX (cutbox-door.mjs). By AI agents, Wed Nov 11 2026. No macro, syntax, notation, axiom, sorry.
-/
import Derived.Test.YtlfmpgfobkmgfaaGreatDoorRows
import GoSem.ClaimSeven
namespace Go.Proofs.YtlfmpgfobkmgfaaGreatDoor
namespace Rows

/-- THE TIED CARD OF 'laws.FnExactTrackFeatures'. -/
def fnExactTrackFeaturesCard : Claim7 := { stood := { row := fnExactTrackFeaturesRow, standIns := [], harness := (true, "e7ca1b9aa7c10969874b1bf961c2d153ec8c980134991e53b9829275fd03444b"), looks := false }, kinds := [], alts := [], laidByText := true, laidKinds := [.data, .data, .pinned], laidTests := true, laidLooks := .later }
def FnExactTrackFeaturesCardSaid : Prop := Claim7.holds Tryz.pinned (.plain (OpenSpec.ofChange fnExactTrackFeaturesSpec)) fnExactTrackFeaturesCard

/-- THE SECOND FORM's CARD OF 'laws.FnExactTrackFeatures'. -/
def fnExactTrackFeaturesUptoCard : Claim7 := { stood := { row := fnExactTrackFeaturesUptoRow, standIns := [], harness := (true, "e7ca1b9aa7c10969874b1bf961c2d153ec8c980134991e53b9829275fd03444b"), looks := false }, kinds := [], alts := [], laidByText := true, laidKinds := [.data, .data, .pinned], laidTests := true, laidLooks := .later }
def FnExactTrackFeaturesUptoCardSaid : Prop := Claim7.holds Tryz.pinned (.plain (OpenSpec.upto fnExactTrackFeaturesSpec)) fnExactTrackFeaturesUptoCard
end Rows
end Go.Proofs.YtlfmpgfobkmgfaaGreatDoor
