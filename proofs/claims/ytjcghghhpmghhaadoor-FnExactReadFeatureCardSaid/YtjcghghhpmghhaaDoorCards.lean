/-
  DERIVED. GIVEN WITH THE SEED: THE CARDS: each row of YtjcghghhpmghhaaDoorRows.lean that lists a variable, with what it lists TIED to the program's text (the seventh form; the later family's looks); each row that meets fmt, with fmt's text TOLD by the authors' own Lean function (tested against real Go, not proved from fmt's source: count such statements apart). THE CARD IS WHAT COUNTS. Prove the row's statement (the work); the ties are given (YtjcghghhpmghhaaDoorTie.lean); close each card by the builder's one call (the guide's Derived/Test/ToyasCard.lean, 'card_holds'). Laid BY PROGRAM, IN A SANDBOX (cutbox-door.mjs). By AI agents, Wed Nov 11 2026. No macro, syntax, notation, axiom, sorry.
-/
import Derived.Test.YtjcghghhpmghhaaDoorRows
import GoSem.ClaimSeven
namespace Go.Proofs.YtjcghghhpmghhaaDoor
namespace Rows

/-- THE TIED CARD OF 'laws.FnExactReadFeature'. -/
def fnExactReadFeatureCard : Claim7 := { stood := { row := fnExactReadFeatureRow, standIns := [], harness := (true, "410cc8fc6122a121f064f131c91e5f91fca8943f6cb7bdda613ee6dfc352e237"), looks := true }, kinds := [], alts := [], laidByText := true, laidKinds := [.data, .data, .data, .data, .sentinel, .sentinel, .data, .pinned], laidTests := true, laidLooks := .later }
def FnExactReadFeatureCardSaid : Prop := Claim7.holds Tryd.pinned (.plain (OpenSpec.ofChange fnExactReadFeatureSpec)) fnExactReadFeatureCard

/-- THE SECOND FORM's CARD OF 'laws.FnExactReadFeature'. -/
def fnExactReadFeatureUptoCard : Claim7 := { stood := { row := fnExactReadFeatureUptoRow, standIns := [], harness := (true, "410cc8fc6122a121f064f131c91e5f91fca8943f6cb7bdda613ee6dfc352e237"), looks := true }, kinds := [], alts := [], laidByText := true, laidKinds := [.data, .data, .data, .data, .sentinel, .sentinel, .data, .pinned], laidTests := true, laidLooks := .later }
def FnExactReadFeatureUptoCardSaid : Prop := Claim7.holds Tryd.pinned (.plain (OpenSpec.upto fnExactReadFeatureSpec)) fnExactReadFeatureUptoCard
end Rows
end Go.Proofs.YtjcghghhpmghhaaDoor
