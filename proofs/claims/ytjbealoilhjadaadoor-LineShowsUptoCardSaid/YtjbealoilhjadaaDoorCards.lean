/-
  DERIVED. GIVEN WITH THE SEED: THE CARDS: each row of YtjbealoilhjadaaDoorRows.lean that lists a variable, with what it lists TIED to the program's text (the seventh form; the later family's looks); each row that meets fmt, with fmt's text TOLD by the authors' own Lean function (tested against real Go, not proved from fmt's source: count such statements apart). THE CARD IS WHAT COUNTS. Prove the row's statement (the work); the ties are given (YtjbealoilhjadaaDoorTie.lean); close each card by the builder's one call (the guide's Derived/Test/ToyasCard.lean, 'card_holds'). Laid BY PROGRAM, IN A SANDBOX (cutbox-door.mjs). By AI agents, Wed Nov 11 2026. No macro, syntax, notation, axiom, sorry.
-/
import Derived.Test.YtjbealoilhjadaaDoorRows
import GoSem.ClaimSeven
namespace Go.Proofs.YtjbealoilhjadaaDoor
namespace Rows

/-- THE TIED CARD OF 'farkeep.LineShows'. -/
def lineShowsCard : Claim7 := { stood := { row := lineShowsRow, standIns := [], harness := (true, "42486f25b709fd5b923f072640e0a986a8940e882a9d998607f9d5069392623b"), looks := false }, kinds := [], alts := [], laidByText := true, laidKinds := [.data, .pinned], laidTests := true, laidLooks := .later }
def LineShowsCardSaid : Prop := Claim7.holds Tryd.pinned (.plain (OpenSpec.ofChange lineShowsSpec)) lineShowsCard

/-- THE SECOND FORM's CARD OF 'farkeep.LineShows'. -/
def lineShowsUptoCard : Claim7 := { stood := { row := lineShowsUptoRow, standIns := [], harness := (true, "42486f25b709fd5b923f072640e0a986a8940e882a9d998607f9d5069392623b"), looks := false }, kinds := [], alts := [], laidByText := true, laidKinds := [.data, .pinned], laidTests := true, laidLooks := .later }
def LineShowsUptoCardSaid : Prop := Claim7.holds Tryd.pinned (.plain (OpenSpec.upto lineShowsSpec)) lineShowsUptoCard
end Rows
end Go.Proofs.YtjbealoilhjadaaDoor
