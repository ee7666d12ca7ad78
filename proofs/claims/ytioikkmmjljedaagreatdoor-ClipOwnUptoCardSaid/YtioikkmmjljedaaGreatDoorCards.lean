/-
  DERIVED. GIVEN WITH THE SEED: THE CARDS: each row of YtioikkmmjljedaaGreatDoorRows.lean that lists a variable, with what it lists TIED to the program's text (the seventh form; the later family's looks); each row that meets fmt, with fmt's text TOLD by the authors' own Lean function (tested against real Go, not proved from fmt's source: count such statements apart). THE CARD IS WHAT COUNTS. Prove the row's statement (the work); the ties are given (YtioikkmmjljedaaGreatDoorTie.lean); close each card by the builder's one call (the guide's Derived/Test/ToyasCard.lean, 'card_holds'). Laid BY PROGRAM, IN A SANDBOX (cutbox-door.mjs). By AI agents, Wed Nov 11 2026. No macro, syntax, notation, axiom, sorry.
-/
import Derived.Test.YtioikkmmjljedaaGreatDoorRows
import GoSem.ClaimSeven
namespace Go.Proofs.YtioikkmmjljedaaGreatDoor
namespace Rows

/-- THE TIED CARD OF 'farkeep.ClipWays'. -/
def clipWaysCard : Claim7 := { stood := { row := clipWaysRow, standIns := [], harness := (true, "7f78d4a5febf4a98c414c64b69c49605ed43bf639b4f2d43c4483a61f34ea08a"), looks := false }, kinds := [], alts := [], laidByText := true, laidKinds := [.data, .data, .data], laidTests := true, laidLooks := .later }
def ClipWaysCardSaid : Prop := Claim7.holds Tryz.pinned (.plain (OpenSpec.ofChange clipWaysSpec)) clipWaysCard

/-- THE TIED CARD OF 'farkeep.ClipCuts'. -/
def clipCutsCard : Claim7 := { stood := { row := clipCutsRow, standIns := [], harness := (true, "7f78d4a5febf4a98c414c64b69c49605ed43bf639b4f2d43c4483a61f34ea08a"), looks := false }, kinds := [], alts := [], laidByText := true, laidKinds := [.data, .data, .data], laidTests := true, laidLooks := .later }
def ClipCutsCardSaid : Prop := Claim7.holds Tryz.pinned (.plain (OpenSpec.ofChange clipCutsSpec)) clipCutsCard

/-- THE TIED CARD OF 'farkeep.ClipAll'. -/
def clipAllCard : Claim7 := { stood := { row := clipAllRow, standIns := [], harness := (true, "7f78d4a5febf4a98c414c64b69c49605ed43bf639b4f2d43c4483a61f34ea08a"), looks := false }, kinds := [], alts := [], laidByText := true, laidKinds := [.data, .data, .data], laidTests := true, laidLooks := .later }
def ClipAllCardSaid : Prop := Claim7.holds Tryz.pinned (.plain (OpenSpec.ofChange clipAllSpec)) clipAllCard

/-- THE TIED CARD OF 'farkeep.ClipOwn'. -/
def clipOwnCard : Claim7 := { stood := { row := clipOwnRow, standIns := [], harness := (true, "7f78d4a5febf4a98c414c64b69c49605ed43bf639b4f2d43c4483a61f34ea08a"), looks := false }, kinds := [], alts := [], laidByText := true, laidKinds := [.data, .data, .data], laidTests := true, laidLooks := .later }
def ClipOwnCardSaid : Prop := Claim7.holds Tryz.pinned (.plain (OpenSpec.ofChange clipOwnSpec)) clipOwnCard

/-- THE SECOND FORM's CARD OF 'farkeep.ClipWays'. -/
def clipWaysUptoCard : Claim7 := { stood := { row := clipWaysUptoRow, standIns := [], harness := (true, "7f78d4a5febf4a98c414c64b69c49605ed43bf639b4f2d43c4483a61f34ea08a"), looks := false }, kinds := [], alts := [], laidByText := true, laidKinds := [.data, .data, .data], laidTests := true, laidLooks := .later }
def ClipWaysUptoCardSaid : Prop := Claim7.holds Tryz.pinned (.plain (OpenSpec.upto clipWaysSpec)) clipWaysUptoCard

/-- THE SECOND FORM's CARD OF 'farkeep.ClipCuts'. -/
def clipCutsUptoCard : Claim7 := { stood := { row := clipCutsUptoRow, standIns := [], harness := (true, "7f78d4a5febf4a98c414c64b69c49605ed43bf639b4f2d43c4483a61f34ea08a"), looks := false }, kinds := [], alts := [], laidByText := true, laidKinds := [.data, .data, .data], laidTests := true, laidLooks := .later }
def ClipCutsUptoCardSaid : Prop := Claim7.holds Tryz.pinned (.plain (OpenSpec.upto clipCutsSpec)) clipCutsUptoCard

/-- THE SECOND FORM's CARD OF 'farkeep.ClipAll'. -/
def clipAllUptoCard : Claim7 := { stood := { row := clipAllUptoRow, standIns := [], harness := (true, "7f78d4a5febf4a98c414c64b69c49605ed43bf639b4f2d43c4483a61f34ea08a"), looks := false }, kinds := [], alts := [], laidByText := true, laidKinds := [.data, .data, .data], laidTests := true, laidLooks := .later }
def ClipAllUptoCardSaid : Prop := Claim7.holds Tryz.pinned (.plain (OpenSpec.upto clipAllSpec)) clipAllUptoCard

/-- THE SECOND FORM's CARD OF 'farkeep.ClipOwn'. -/
def clipOwnUptoCard : Claim7 := { stood := { row := clipOwnUptoRow, standIns := [], harness := (true, "7f78d4a5febf4a98c414c64b69c49605ed43bf639b4f2d43c4483a61f34ea08a"), looks := false }, kinds := [], alts := [], laidByText := true, laidKinds := [.data, .data, .data], laidTests := true, laidLooks := .later }
def ClipOwnUptoCardSaid : Prop := Claim7.holds Tryz.pinned (.plain (OpenSpec.upto clipOwnSpec)) clipOwnUptoCard
end Rows
end Go.Proofs.YtioikkmmjljedaaGreatDoor
