/-
  DERIVED. GIVEN WITH THE SEED: THE CARDS: each row of YthblnlmpfgfgcaaDoorRows.lean that lists a variable, with what it lists TIED to the program's text (the seventh form; the later family's looks); each row that meets fmt, with fmt's text TOLD by the authors' own Lean function (tested against real Go, not proved from fmt's source: count such statements apart). THE CARD IS WHAT COUNTS. Prove the row's statement (the work); the ties are given (YthblnlmpfgfgcaaDoorTie.lean); close each card by the builder's one call (the guide's Derived/Test/ToyasCard.lean, 'card_holds'). Laid BY PROGRAM, IN A SANDBOX (cutbox-door.mjs). By AI agents, Wed Nov 11 2026. No macro, syntax, notation, axiom, sorry.
-/
import Derived.Test.YthblnlmpfgfgcaaDoorRows
import GoSem.ClaimSeven
namespace Go.Proofs.YthblnlmpfgfgcaaDoor
namespace Rows

/-- THE TIED CARD OF 'farkeep.LineQuotes'. -/
def lineQuotesCard : Claim7 := { stood := { row := lineQuotesRow, standIns := [], harness := (true, "eda2278f5ec1b3b0f281473756e2b436f33ed24776c76857082715d274d2004f"), looks := false }, kinds := [], alts := [], laidByText := true, laidKinds := [.data, .pinned], laidTests := true, laidLooks := .later }
def LineQuotesCardSaid : Prop := Claim7.holds Tryd.pinned (.plain (OpenSpec.ofChange lineQuotesSpec)) lineQuotesCard

/-- THE TIED CARD OF 'farkeep.IacBack'. -/
def iacBackCard : Claim7 := { stood := { row := iacBackRow, standIns := [], harness := (true, "eda2278f5ec1b3b0f281473756e2b436f33ed24776c76857082715d274d2004f"), looks := false }, kinds := [], alts := [], laidByText := true, laidKinds := [.data, .pinned], laidTests := true, laidLooks := .later }
def IacBackCardSaid : Prop := Claim7.holds Tryd.pinned (.plain (OpenSpec.ofChange iacBackSpec)) iacBackCard

/-- THE SECOND FORM's CARD OF 'farkeep.LineQuotes'. -/
def lineQuotesUptoCard : Claim7 := { stood := { row := lineQuotesUptoRow, standIns := [], harness := (true, "eda2278f5ec1b3b0f281473756e2b436f33ed24776c76857082715d274d2004f"), looks := false }, kinds := [], alts := [], laidByText := true, laidKinds := [.data, .pinned], laidTests := true, laidLooks := .later }
def LineQuotesUptoCardSaid : Prop := Claim7.holds Tryd.pinned (.plain (OpenSpec.upto lineQuotesSpec)) lineQuotesUptoCard

/-- THE SECOND FORM's CARD OF 'farkeep.IacBack'. -/
def iacBackUptoCard : Claim7 := { stood := { row := iacBackUptoRow, standIns := [], harness := (true, "eda2278f5ec1b3b0f281473756e2b436f33ed24776c76857082715d274d2004f"), looks := false }, kinds := [], alts := [], laidByText := true, laidKinds := [.data, .pinned], laidTests := true, laidLooks := .later }
def IacBackUptoCardSaid : Prop := Claim7.holds Tryd.pinned (.plain (OpenSpec.upto iacBackSpec)) iacBackUptoCard
end Rows
end Go.Proofs.YthblnlmpfgfgcaaDoor
