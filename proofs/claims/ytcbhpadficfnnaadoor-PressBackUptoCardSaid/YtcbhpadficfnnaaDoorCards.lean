/-
  DERIVED. GIVEN WITH THE SEED: THE CARDS: each row of YtcbhpadficfnnaaDoorRows.lean that lists a variable, with what it lists TIED to the program's text (the seventh form; the later family's looks); each row that meets fmt, with fmt's text TOLD by the authors' own Lean function (tested against real Go, not proved from fmt's source: count such statements apart). THE CARD IS WHAT COUNTS. Prove the row's statement (the work); the ties are given (YtcbhpadficfnnaaDoorTie.lean); close each card by the builder's one call (the guide's Derived/Test/ToyasCard.lean, 'card_holds'). Laid BY PROGRAM, IN A SANDBOX (cutbox-door.mjs). By AI agents, Wed Nov 11 2026. No macro, syntax, notation, axiom, sorry.
-/
import Derived.Test.YtcbhpadficfnnaaDoorRows
import GoSem.ClaimSeven
namespace Go.Proofs.YtcbhpadficfnnaaDoor
namespace Rows

/-- THE TIED CARD OF 'farkeep.PressBack'. -/
def pressBackCard : Claim7 := { stood := { row := pressBackRow, standIns := [], harness := (true, "eff0d9dfa7926059d5d6cfede2835e46b506bde6099c893d123497d31a374008"), looks := true }, kinds := [], alts := [], laidByText := true, laidKinds := [.data, .data, .data, .data, .sentinel, .sentinel, .pinned], laidTests := true, laidLooks := .later }
def PressBackCardSaid : Prop := Claim7.holds Tryd.pinned (.plain (OpenSpec.ofChange pressBackSpec)) pressBackCard

/-- THE SECOND FORM's CARD OF 'farkeep.PressBack'. -/
def pressBackUptoCard : Claim7 := { stood := { row := pressBackUptoRow, standIns := [], harness := (true, "eff0d9dfa7926059d5d6cfede2835e46b506bde6099c893d123497d31a374008"), looks := true }, kinds := [], alts := [], laidByText := true, laidKinds := [.data, .data, .data, .data, .sentinel, .sentinel, .pinned], laidTests := true, laidLooks := .later }
def PressBackUptoCardSaid : Prop := Claim7.holds Tryd.pinned (.plain (OpenSpec.upto pressBackSpec)) pressBackUptoCard
end Rows
end Go.Proofs.YtcbhpadficfnnaaDoor
