/-
  DERIVED. GIVEN WITH THE SEED: THE CARDS: each row of YtjoccdgmcdkbkaaDoorRows.lean that lists a variable, with what it lists TIED to the program's text (the seventh form; the later family's looks); each row that meets fmt, with fmt's text TOLD by the authors' own Lean function (tested against real Go, not proved from fmt's source: count such statements apart). THE CARD IS WHAT COUNTS. Prove the row's statement (the work); the ties are given (YtjoccdgmcdkbkaaDoorTie.lean); close each card by the builder's one call (the guide's Derived/Test/ToyasCard.lean, 'card_holds'). Laid BY PROGRAM, IN A SANDBOX (cutbox-door.mjs). By AI agents, Wed Nov 11 2026. No macro, syntax, notation, axiom, sorry.
-/
import Derived.Test.YtjoccdgmcdkbkaaDoorRows
import GoSem.ClaimSeven
namespace Go.Proofs.YtjoccdgmcdkbkaaDoor
namespace Rows

/-- THE TIED CARD OF 'farkeep.ScreenPlain'. -/
def screenPlainCard : Claim7 := { stood := { row := screenPlainRow, standIns := [], harness := (true, "bcec0b344ec8f7dc49ab8e7c81a2703d3421807a34159bdd1cf776238014b1f3"), looks := false }, kinds := [], alts := [], laidByText := true, laidKinds := [.data, .data, .data], laidTests := true, laidLooks := .later }
def ScreenPlainCardSaid : Prop := Claim7.holds Tryd.pinned (.plain (OpenSpec.ofChange screenPlainSpec)) screenPlainCard

/-- THE SECOND FORM's CARD OF 'farkeep.ScreenPlain'. -/
def screenPlainUptoCard : Claim7 := { stood := { row := screenPlainUptoRow, standIns := [], harness := (true, "bcec0b344ec8f7dc49ab8e7c81a2703d3421807a34159bdd1cf776238014b1f3"), looks := false }, kinds := [], alts := [], laidByText := true, laidKinds := [.data, .data, .data], laidTests := true, laidLooks := .later }
def ScreenPlainUptoCardSaid : Prop := Claim7.holds Tryd.pinned (.plain (OpenSpec.upto screenPlainSpec)) screenPlainUptoCard
end Rows
end Go.Proofs.YtjoccdgmcdkbkaaDoor
