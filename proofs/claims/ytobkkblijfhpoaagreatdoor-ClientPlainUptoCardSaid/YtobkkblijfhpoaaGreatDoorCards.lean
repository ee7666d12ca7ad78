/-
  DERIVED. GIVEN WITH THE SEED: THE CARDS: each row of YtobkkblijfhpoaaGreatDoorRows.lean that lists a variable, with what it lists TIED to the program's text (the seventh form; the later family's looks); each row that meets fmt, with fmt's text TOLD by the authors' own Lean function (tested against real Go, not proved from fmt's source: count such statements apart). THE CARD IS WHAT COUNTS. Prove the row's statement (the work); the ties are given (YtobkkblijfhpoaaGreatDoorTie.lean); close each card by the builder's one call (the guide's Derived/Test/ToyasCard.lean, 'card_holds'). Laid BY PROGRAM, IN A SANDBOX (cutbox-door.mjs). By AI agents, Wed Nov 11 2026. No macro, syntax, notation, axiom, sorry.
-/
import Derived.Test.YtobkkblijfhpoaaGreatDoorRows
import GoSem.ClaimSeven
namespace Go.Proofs.YtobkkblijfhpoaaGreatDoor
namespace Rows

/-- THE TIED CARD OF 'fartop.TopTwo'. -/
def topTwoCard : Claim7 := { stood := { row := topTwoRow, standIns := [], harness := (true, "09455bfcd3f59508d3cc90b06920022f540fa3b019501032ec689f5bcb98f764"), looks := false }, kinds := [], alts := [], laidByText := true, laidKinds := [.data, .data, .data, .data, .pinned], laidTests := true, laidLooks := .later }
def TopTwoCardSaid : Prop := Claim7.holds Tryz.pinned (.plain (OpenSpec.ofChange topTwoSpec)) topTwoCard

/-- THE TIED CARD OF 'farkeep.ClientPlain'. -/
def clientPlainCard : Claim7 := { stood := { row := clientPlainRow, standIns := [], harness := (true, "09455bfcd3f59508d3cc90b06920022f540fa3b019501032ec689f5bcb98f764"), looks := false }, kinds := [], alts := [], laidByText := true, laidKinds := [.data, .data, .data, .data, .pinned], laidTests := true, laidLooks := .later }
def ClientPlainCardSaid : Prop := Claim7.holds Tryz.pinned (.plain (OpenSpec.ofChange clientPlainSpec)) clientPlainCard

/-- THE TIED CARD OF 'fartop.TopPast'. -/
def topPastCard : Claim7 := { stood := { row := topPastRow, standIns := [], harness := (true, "09455bfcd3f59508d3cc90b06920022f540fa3b019501032ec689f5bcb98f764"), looks := false }, kinds := [], alts := [], laidByText := true, laidKinds := [.data, .data, .data, .data, .pinned], laidTests := true, laidLooks := .later }
def TopPastCardSaid : Prop := Claim7.holds Tryz.pinned (.plain (OpenSpec.ofChange topPastSpec)) topPastCard

/-- THE SECOND FORM's CARD OF 'fartop.TopTwo'. -/
def topTwoUptoCard : Claim7 := { stood := { row := topTwoUptoRow, standIns := [], harness := (true, "09455bfcd3f59508d3cc90b06920022f540fa3b019501032ec689f5bcb98f764"), looks := false }, kinds := [], alts := [], laidByText := true, laidKinds := [.data, .data, .data, .data, .pinned], laidTests := true, laidLooks := .later }
def TopTwoUptoCardSaid : Prop := Claim7.holds Tryz.pinned (.plain (OpenSpec.upto topTwoSpec)) topTwoUptoCard

/-- THE SECOND FORM's CARD OF 'farkeep.ClientPlain'. -/
def clientPlainUptoCard : Claim7 := { stood := { row := clientPlainUptoRow, standIns := [], harness := (true, "09455bfcd3f59508d3cc90b06920022f540fa3b019501032ec689f5bcb98f764"), looks := false }, kinds := [], alts := [], laidByText := true, laidKinds := [.data, .data, .data, .data, .pinned], laidTests := true, laidLooks := .later }
def ClientPlainUptoCardSaid : Prop := Claim7.holds Tryz.pinned (.plain (OpenSpec.upto clientPlainSpec)) clientPlainUptoCard

/-- THE SECOND FORM's CARD OF 'fartop.TopPast'. -/
def topPastUptoCard : Claim7 := { stood := { row := topPastUptoRow, standIns := [], harness := (true, "09455bfcd3f59508d3cc90b06920022f540fa3b019501032ec689f5bcb98f764"), looks := false }, kinds := [], alts := [], laidByText := true, laidKinds := [.data, .data, .data, .data, .pinned], laidTests := true, laidLooks := .later }
def TopPastUptoCardSaid : Prop := Claim7.holds Tryz.pinned (.plain (OpenSpec.upto topPastSpec)) topPastUptoCard
end Rows
end Go.Proofs.YtobkkblijfhpoaaGreatDoor
