/-
  DERIVED. GIVEN WITH THE SEED: THE CARDS: each row of YtgjckmjlocankaaGreatDoorRows.lean that lists a variable, with what it lists TIED to the program's text (the seventh form; the later family's looks); each row that meets fmt, with fmt's text TOLD by the authors' own Lean function (tested against real Go, not proved from fmt's source: count such statements apart). THE CARD IS WHAT COUNTS. Prove the row's statement (the work); the ties are given (YtgjckmjlocankaaGreatDoorTie.lean); close each card by the builder's one call (the guide's Derived/Test/ToyasCard.lean, 'card_holds'). Laid BY PROGRAM, IN A SANDBOX (cutbox-door.mjs). By AI agents, Wed Nov 11 2026. No macro, syntax, notation, axiom, sorry.
-/
import Derived.Test.YtgjckmjlocankaaGreatDoorRows
import GoSem.ClaimSeven
namespace Go.Proofs.YtgjckmjlocankaaGreatDoor
namespace Rows

/-- THE TIED CARD OF 'farkeep.DrawFew'. -/
def drawFewCard : Claim7 := { stood := { row := drawFewRow, standIns := [], harness := (true, "528af97904db904ff89f9f4e22cc8fcdf05dd92850229787c07ce219bf0c7254"), looks := false }, kinds := [], alts := [], laidByText := true, laidKinds := [.data, .data, .data, .data, .pinned], laidTests := true, laidLooks := .later }
def DrawFewCardSaid : Prop := Claim7.holds Tryz.pinned (.plain (OpenSpec.ofChange drawFewSpec)) drawFewCard

/-- THE SECOND FORM's CARD OF 'farkeep.DrawFew'. -/
def drawFewUptoCard : Claim7 := { stood := { row := drawFewUptoRow, standIns := [], harness := (true, "528af97904db904ff89f9f4e22cc8fcdf05dd92850229787c07ce219bf0c7254"), looks := false }, kinds := [], alts := [], laidByText := true, laidKinds := [.data, .data, .data, .data, .pinned], laidTests := true, laidLooks := .later }
def DrawFewUptoCardSaid : Prop := Claim7.holds Tryz.pinned (.plain (OpenSpec.upto drawFewSpec)) drawFewUptoCard
end Rows
end Go.Proofs.YtgjckmjlocankaaGreatDoor
