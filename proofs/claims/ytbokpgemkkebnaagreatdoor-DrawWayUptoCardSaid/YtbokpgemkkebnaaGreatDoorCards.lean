/-
  DERIVED. GIVEN WITH THE SEED: THE CARDS: each row of YtbokpgemkkebnaaGreatDoorRows.lean that lists a variable, with what it lists TIED to the program's text (the seventh form; the later family's looks); each row that meets fmt, with fmt's text TOLD by the authors' own Lean function (tested against real Go, not proved from fmt's source: count such statements apart). THE CARD IS WHAT COUNTS. Prove the row's statement (the work); the ties are given (YtbokpgemkkebnaaGreatDoorTie.lean); close each card by the builder's one call (the guide's Derived/Test/ToyasCard.lean, 'card_holds'). Laid BY PROGRAM, IN A SANDBOX (cutbox-door.mjs). By AI agents, Wed Nov 11 2026. No macro, syntax, notation, axiom, sorry.
-/
import Derived.Test.YtbokpgemkkebnaaGreatDoorRows
import GoSem.ClaimSeven
namespace Go.Proofs.YtbokpgemkkebnaaGreatDoor
namespace Rows

/-- THE TIED CARD OF 'farkeep.DrawOnce'. -/
def drawOnceCard : Claim7 := { stood := { row := drawOnceRow, standIns := [], harness := (true, "213ad55e7db02f858c9c694f46a074e770f2cb74b192b7372f5013a1d2709e0c"), looks := false }, kinds := [], alts := [], laidByText := true, laidKinds := [.data, .data, .data, .data, .pinned], laidTests := true, laidLooks := .later }
def DrawOnceCardSaid : Prop := Claim7.holds Tryz.pinned (.plain (OpenSpec.ofChange drawOnceSpec)) drawOnceCard

/-- THE TIED CARD OF 'farkeep.DrawWay'. -/
def drawWayCard : Claim7 := { stood := { row := drawWayRow, standIns := [], harness := (true, "213ad55e7db02f858c9c694f46a074e770f2cb74b192b7372f5013a1d2709e0c"), looks := false }, kinds := [], alts := [], laidByText := true, laidKinds := [.data, .data, .data, .data, .pinned], laidTests := true, laidLooks := .later }
def DrawWayCardSaid : Prop := Claim7.holds Tryz.pinned (.plain (OpenSpec.ofChange drawWaySpec)) drawWayCard

/-- THE SECOND FORM's CARD OF 'farkeep.DrawOnce'. -/
def drawOnceUptoCard : Claim7 := { stood := { row := drawOnceUptoRow, standIns := [], harness := (true, "213ad55e7db02f858c9c694f46a074e770f2cb74b192b7372f5013a1d2709e0c"), looks := false }, kinds := [], alts := [], laidByText := true, laidKinds := [.data, .data, .data, .data, .pinned], laidTests := true, laidLooks := .later }
def DrawOnceUptoCardSaid : Prop := Claim7.holds Tryz.pinned (.plain (OpenSpec.upto drawOnceSpec)) drawOnceUptoCard

/-- THE SECOND FORM's CARD OF 'farkeep.DrawWay'. -/
def drawWayUptoCard : Claim7 := { stood := { row := drawWayUptoRow, standIns := [], harness := (true, "213ad55e7db02f858c9c694f46a074e770f2cb74b192b7372f5013a1d2709e0c"), looks := false }, kinds := [], alts := [], laidByText := true, laidKinds := [.data, .data, .data, .data, .pinned], laidTests := true, laidLooks := .later }
def DrawWayUptoCardSaid : Prop := Claim7.holds Tryz.pinned (.plain (OpenSpec.upto drawWaySpec)) drawWayUptoCard
end Rows
end Go.Proofs.YtbokpgemkkebnaaGreatDoor
