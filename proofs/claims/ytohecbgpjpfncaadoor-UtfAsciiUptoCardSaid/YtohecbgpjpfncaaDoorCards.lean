/-
  DERIVED. GIVEN WITH THE SEED: THE CARDS: each row of YtohecbgpjpfncaaDoorRows.lean that lists a variable, with what it lists TIED to the program's text (the seventh form; the later family's looks); each row that meets fmt, with fmt's text TOLD by the authors' own Lean function (tested against real Go, not proved from fmt's source: count such statements apart). THE CARD IS WHAT COUNTS. Prove the row's statement (the work); the ties are given (YtohecbgpjpfncaaDoorTie.lean); close each card by the builder's one call (the guide's Derived/Test/ToyasCard.lean, 'card_holds'). Laid BY PROGRAM, IN A SANDBOX (cutbox-door.mjs). By AI agents, Wed Nov 11 2026. No macro, syntax, notation, axiom, sorry.
-/
import Derived.Test.YtohecbgpjpfncaaDoorRows
import GoSem.ClaimSeven
namespace Go.Proofs.YtohecbgpjpfncaaDoor
namespace Rows

/-- THE TIED CARD OF 'farkeep.UtfLeft'. -/
def utfLeftCard : Claim7 := { stood := { row := utfLeftRow, standIns := [], harness := (true, "0113c35f9ed6a31661ce638cf36e4579542d2efca62842978b4ae6651f7cde4b"), looks := false }, kinds := [], alts := [], laidByText := true, laidKinds := [.data, .pinned], laidTests := true, laidLooks := .later }
def UtfLeftCardSaid : Prop := Claim7.holds Tryd.pinned (.plain (OpenSpec.ofChange utfLeftSpec)) utfLeftCard

/-- THE TIED CARD OF 'farkeep.UtfCuts'. -/
def utfCutsCard : Claim7 := { stood := { row := utfCutsRow, standIns := [], harness := (true, "0113c35f9ed6a31661ce638cf36e4579542d2efca62842978b4ae6651f7cde4b"), looks := false }, kinds := [], alts := [], laidByText := true, laidKinds := [.data, .pinned], laidTests := true, laidLooks := .later }
def UtfCutsCardSaid : Prop := Claim7.holds Tryd.pinned (.plain (OpenSpec.ofChange utfCutsSpec)) utfCutsCard

/-- THE TIED CARD OF 'farkeep.UtfBack'. -/
def utfBackCard : Claim7 := { stood := { row := utfBackRow, standIns := [], harness := (true, "0113c35f9ed6a31661ce638cf36e4579542d2efca62842978b4ae6651f7cde4b"), looks := false }, kinds := [], alts := [], laidByText := true, laidKinds := [.data, .pinned], laidTests := true, laidLooks := .later }
def UtfBackCardSaid : Prop := Claim7.holds Tryd.pinned (.plain (OpenSpec.ofChange utfBackSpec)) utfBackCard

/-- THE TIED CARD OF 'farkeep.UtfAscii'. -/
def utfAsciiCard : Claim7 := { stood := { row := utfAsciiRow, standIns := [], harness := (true, "0113c35f9ed6a31661ce638cf36e4579542d2efca62842978b4ae6651f7cde4b"), looks := false }, kinds := [], alts := [], laidByText := true, laidKinds := [.data, .pinned], laidTests := true, laidLooks := .later }
def UtfAsciiCardSaid : Prop := Claim7.holds Tryd.pinned (.plain (OpenSpec.ofChange utfAsciiSpec)) utfAsciiCard

/-- THE SECOND FORM's CARD OF 'farkeep.UtfLeft'. -/
def utfLeftUptoCard : Claim7 := { stood := { row := utfLeftUptoRow, standIns := [], harness := (true, "0113c35f9ed6a31661ce638cf36e4579542d2efca62842978b4ae6651f7cde4b"), looks := false }, kinds := [], alts := [], laidByText := true, laidKinds := [.data, .pinned], laidTests := true, laidLooks := .later }
def UtfLeftUptoCardSaid : Prop := Claim7.holds Tryd.pinned (.plain (OpenSpec.upto utfLeftSpec)) utfLeftUptoCard

/-- THE SECOND FORM's CARD OF 'farkeep.UtfCuts'. -/
def utfCutsUptoCard : Claim7 := { stood := { row := utfCutsUptoRow, standIns := [], harness := (true, "0113c35f9ed6a31661ce638cf36e4579542d2efca62842978b4ae6651f7cde4b"), looks := false }, kinds := [], alts := [], laidByText := true, laidKinds := [.data, .pinned], laidTests := true, laidLooks := .later }
def UtfCutsUptoCardSaid : Prop := Claim7.holds Tryd.pinned (.plain (OpenSpec.upto utfCutsSpec)) utfCutsUptoCard

/-- THE SECOND FORM's CARD OF 'farkeep.UtfBack'. -/
def utfBackUptoCard : Claim7 := { stood := { row := utfBackUptoRow, standIns := [], harness := (true, "0113c35f9ed6a31661ce638cf36e4579542d2efca62842978b4ae6651f7cde4b"), looks := false }, kinds := [], alts := [], laidByText := true, laidKinds := [.data, .pinned], laidTests := true, laidLooks := .later }
def UtfBackUptoCardSaid : Prop := Claim7.holds Tryd.pinned (.plain (OpenSpec.upto utfBackSpec)) utfBackUptoCard

/-- THE SECOND FORM's CARD OF 'farkeep.UtfAscii'. -/
def utfAsciiUptoCard : Claim7 := { stood := { row := utfAsciiUptoRow, standIns := [], harness := (true, "0113c35f9ed6a31661ce638cf36e4579542d2efca62842978b4ae6651f7cde4b"), looks := false }, kinds := [], alts := [], laidByText := true, laidKinds := [.data, .pinned], laidTests := true, laidLooks := .later }
def UtfAsciiUptoCardSaid : Prop := Claim7.holds Tryd.pinned (.plain (OpenSpec.upto utfAsciiSpec)) utfAsciiUptoCard
end Rows
end Go.Proofs.YtohecbgpjpfncaaDoor
