/-
  DERIVED. GIVEN WITH THE SEED: THE CARDS: each row of YtimbfadnabfabaaGreatDoorRows.lean that lists a variable, with what it lists TIED to the program's text (the seventh form; the later family's looks); each row that meets fmt, with fmt's text TOLD by the authors' own Lean function (tested against real Go, not proved from fmt's source: count such statements apart). THE CARD IS WHAT COUNTS. Prove the row's statement (the work); the ties are given (YtimbfadnabfabaaGreatDoorTie.lean); close each card by the builder's one call (the guide's Derived/Test/ToyasCard.lean, 'card_holds'). Laid BY PROGRAM, IN A SANDBOX (cutbox-door.mjs). By AI agents, Wed Nov 11 2026. No macro, syntax, notation, axiom, sorry.
-/
import Derived.Test.YtimbfadnabfabaaGreatDoorRows
import GoSem.ClaimSeven
namespace Go.Proofs.YtimbfadnabfabaaGreatDoor
namespace Rows

/-- THE TIED CARD OF 'fartop.TopModes'. -/
def topModesCard : Claim7 := { stood := { row := topModesRow, standIns := [], harness := (true, "c02a43dde1887300b9ee3ef35253add532166ced4f4d18198a70e02157f17d84"), looks := false }, kinds := [], alts := [], laidByText := true, laidKinds := [.data, .data, .data, .data, .pinned], laidTests := true, laidLooks := .later }
def TopModesCardSaid : Prop := Claim7.holds Tryz.pinned (.plain (OpenSpec.ofChange topModesSpec)) topModesCard

/-- THE TIED CARD OF 'farkeep.ClientEcho'. -/
def clientEchoCard : Claim7 := { stood := { row := clientEchoRow, standIns := [], harness := (true, "c02a43dde1887300b9ee3ef35253add532166ced4f4d18198a70e02157f17d84"), looks := false }, kinds := [], alts := [], laidByText := true, laidKinds := [.data, .data, .data, .data, .pinned], laidTests := true, laidLooks := .later }
def ClientEchoCardSaid : Prop := Claim7.holds Tryz.pinned (.plain (OpenSpec.ofChange clientEchoSpec)) clientEchoCard

/-- THE SECOND FORM's CARD OF 'fartop.TopModes'. -/
def topModesUptoCard : Claim7 := { stood := { row := topModesUptoRow, standIns := [], harness := (true, "c02a43dde1887300b9ee3ef35253add532166ced4f4d18198a70e02157f17d84"), looks := false }, kinds := [], alts := [], laidByText := true, laidKinds := [.data, .data, .data, .data, .pinned], laidTests := true, laidLooks := .later }
def TopModesUptoCardSaid : Prop := Claim7.holds Tryz.pinned (.plain (OpenSpec.upto topModesSpec)) topModesUptoCard

/-- THE SECOND FORM's CARD OF 'farkeep.ClientEcho'. -/
def clientEchoUptoCard : Claim7 := { stood := { row := clientEchoUptoRow, standIns := [], harness := (true, "c02a43dde1887300b9ee3ef35253add532166ced4f4d18198a70e02157f17d84"), looks := false }, kinds := [], alts := [], laidByText := true, laidKinds := [.data, .data, .data, .data, .pinned], laidTests := true, laidLooks := .later }
def ClientEchoUptoCardSaid : Prop := Claim7.holds Tryz.pinned (.plain (OpenSpec.upto clientEchoSpec)) clientEchoUptoCard
end Rows
end Go.Proofs.YtimbfadnabfabaaGreatDoor
