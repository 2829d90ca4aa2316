/-
  DERIVED. GIVEN WITH THE SEED: THE CARDS: each row of YtbegoaakgbclkaaDoorRows.lean that lists a variable, with what it lists TIED to the program's text (the seventh form; the later family's looks); each row that meets fmt, with fmt's text TOLD by the authors' own Lean function (tested against real Go, not proved from fmt's source: count such statements apart). THE CARD IS WHAT COUNTS. Prove the row's statement (the work); the ties are given (YtbegoaakgbclkaaDoorTie.lean); close each card by the builder's one call (the guide's Derived/Test/ToyasCard.lean, 'card_holds'). Laid BY PROGRAM, IN A SANDBOX (cutbox-door.mjs). By AI agents, Wed Nov 11 2026. No macro, syntax, notation, axiom, sorry.
-/
import Derived.Test.YtbegoaakgbclkaaDoorRows
import GoSem.ClaimSeven
namespace Go.Proofs.YtbegoaakgbclkaaDoor
namespace Rows

/-- THE TIED CARD OF 'laws.FnExactParseOrdinary'. -/
def fnExactParseOrdinaryCard : Claim7 := { stood := { row := fnExactParseOrdinaryRow, standIns := [], harness := (true, "015ebf4e3877afe79787c836c3a5a5e5f7c30b38b6c8dee8b2e146bd718173db"), looks := false }, kinds := [], alts := [], laidByText := true, laidKinds := [.data, .pinned], laidTests := true, laidLooks := .later }
def FnExactParseOrdinaryCardSaid : Prop := Claim7.holds Tryd.pinned (.plain (OpenSpec.ofChange fnExactParseOrdinarySpec)) fnExactParseOrdinaryCard

/-- THE SECOND FORM's CARD OF 'laws.FnExactParseOrdinary'. -/
def fnExactParseOrdinaryUptoCard : Claim7 := { stood := { row := fnExactParseOrdinaryUptoRow, standIns := [], harness := (true, "015ebf4e3877afe79787c836c3a5a5e5f7c30b38b6c8dee8b2e146bd718173db"), looks := false }, kinds := [], alts := [], laidByText := true, laidKinds := [.data, .pinned], laidTests := true, laidLooks := .later }
def FnExactParseOrdinaryUptoCardSaid : Prop := Claim7.holds Tryd.pinned (.plain (OpenSpec.upto fnExactParseOrdinarySpec)) fnExactParseOrdinaryUptoCard
end Rows
end Go.Proofs.YtbegoaakgbclkaaDoor
