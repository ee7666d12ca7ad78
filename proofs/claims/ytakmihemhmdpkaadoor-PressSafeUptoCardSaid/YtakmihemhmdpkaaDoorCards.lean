/-
  DERIVED. GIVEN WITH THE SEED: THE CARDS: each row of YtakmihemhmdpkaaDoorRows.lean that lists a variable, with what it lists TIED to the program's text (the seventh form; the later family's looks); each row that meets fmt, with fmt's text TOLD by the authors' own Lean function (tested against real Go, not proved from fmt's source: count such statements apart). THE CARD IS WHAT COUNTS. Prove the row's statement (the work); the ties are given (YtakmihemhmdpkaaDoorTie.lean); close each card by the builder's one call (the guide's Derived/Test/ToyasCard.lean, 'card_holds'). Laid BY PROGRAM, IN A SANDBOX (cutbox-door.mjs). By AI agents, Wed Nov 11 2026. No macro, syntax, notation, axiom, sorry.
-/
import Derived.Test.YtakmihemhmdpkaaDoorRows
import GoSem.ClaimSeven
namespace Go.Proofs.YtakmihemhmdpkaaDoor
namespace Rows

/-- THE TIED CARD OF 'farkeep.ParsePlain'. -/
def parsePlainCard : Claim7 := { stood := { row := parsePlainRow, standIns := [], harness := (true, "f4943a76e97037cdb9d59be852ed72af0aba2ca791f18aef178e5d60ee754f94"), looks := true }, kinds := [], alts := [], laidByText := true, laidKinds := [.data, .pinned], laidTests := true, laidLooks := .later }
def ParsePlainCardSaid : Prop := Claim7.holds Tryd.pinned (.plain (OpenSpec.ofChange parsePlainSpec)) parsePlainCard

/-- THE TIED CARD OF 'farkeep.ParseRight'. -/
def parseRightCard : Claim7 := { stood := { row := parseRightRow, standIns := [], harness := (true, "f4943a76e97037cdb9d59be852ed72af0aba2ca791f18aef178e5d60ee754f94"), looks := true }, kinds := [], alts := [], laidByText := true, laidKinds := [.data, .pinned], laidTests := true, laidLooks := .later }
def ParseRightCardSaid : Prop := Claim7.holds Tryd.pinned (.plain (OpenSpec.ofChange parseRightSpec)) parseRightCard

/-- THE TIED CARD OF 'farkeep.ParseCuts'. -/
def parseCutsCard : Claim7 := { stood := { row := parseCutsRow, standIns := [], harness := (true, "f4943a76e97037cdb9d59be852ed72af0aba2ca791f18aef178e5d60ee754f94"), looks := true }, kinds := [], alts := [], laidByText := true, laidKinds := [.data, .pinned], laidTests := true, laidLooks := .later }
def ParseCutsCardSaid : Prop := Claim7.holds Tryd.pinned (.plain (OpenSpec.ofChange parseCutsSpec)) parseCutsCard

/-- THE TIED CARD OF 'farkeep.ParseHeals'. -/
def parseHealsCard : Claim7 := { stood := { row := parseHealsRow, standIns := [], harness := (true, "f4943a76e97037cdb9d59be852ed72af0aba2ca791f18aef178e5d60ee754f94"), looks := true }, kinds := [], alts := [], laidByText := true, laidKinds := [.data, .pinned], laidTests := true, laidLooks := .later }
def ParseHealsCardSaid : Prop := Claim7.holds Tryd.pinned (.plain (OpenSpec.ofChange parseHealsSpec)) parseHealsCard

/-- THE TIED CARD OF 'farkeep.ParseBack'. -/
def parseBackCard : Claim7 := { stood := { row := parseBackRow, standIns := [], harness := (true, "f4943a76e97037cdb9d59be852ed72af0aba2ca791f18aef178e5d60ee754f94"), looks := true }, kinds := [], alts := [], laidByText := true, laidKinds := [.data, .data, .data, .data, .pinned], laidTests := true, laidLooks := .later }
def ParseBackCardSaid : Prop := Claim7.holds Tryd.pinned (.plain (OpenSpec.ofChange parseBackSpec)) parseBackCard

/-- THE TIED CARD OF 'farkeep.PressOne'. -/
def pressOneCard : Claim7 := { stood := { row := pressOneRow, standIns := [], harness := (true, "f4943a76e97037cdb9d59be852ed72af0aba2ca791f18aef178e5d60ee754f94"), looks := true }, kinds := [], alts := [], laidByText := true, laidKinds := [.data, .data, .data, .data, .pinned], laidTests := true, laidLooks := .later }
def PressOneCardSaid : Prop := Claim7.holds Tryd.pinned (.plain (OpenSpec.ofChange pressOneSpec)) pressOneCard

/-- THE TIED CARD OF 'farkeep.PressSafe'. -/
def pressSafeCard : Claim7 := { stood := { row := pressSafeRow, standIns := [], harness := (true, "f4943a76e97037cdb9d59be852ed72af0aba2ca791f18aef178e5d60ee754f94"), looks := true }, kinds := [], alts := [], laidByText := true, laidKinds := [.data, .data, .data, .data, .pinned], laidTests := true, laidLooks := .later }
def PressSafeCardSaid : Prop := Claim7.holds Tryd.pinned (.plain (OpenSpec.ofChange pressSafeSpec)) pressSafeCard

/-- THE TIED CARD OF 'farkeep.PressBack'. -/
def pressBackCard : Claim7 := { stood := { row := pressBackRow, standIns := [], harness := (true, "f4943a76e97037cdb9d59be852ed72af0aba2ca791f18aef178e5d60ee754f94"), looks := true }, kinds := [], alts := [], laidByText := true, laidKinds := [.data, .data, .data, .data, .sentinel, .sentinel, .pinned], laidTests := true, laidLooks := .later }
def PressBackCardSaid : Prop := Claim7.holds Tryd.pinned (.plain (OpenSpec.ofChange pressBackSpec)) pressBackCard

/-- THE SECOND FORM's CARD OF 'farkeep.ParsePlain'. -/
def parsePlainUptoCard : Claim7 := { stood := { row := parsePlainUptoRow, standIns := [], harness := (true, "f4943a76e97037cdb9d59be852ed72af0aba2ca791f18aef178e5d60ee754f94"), looks := true }, kinds := [], alts := [], laidByText := true, laidKinds := [.data, .pinned], laidTests := true, laidLooks := .later }
def ParsePlainUptoCardSaid : Prop := Claim7.holds Tryd.pinned (.plain (OpenSpec.upto parsePlainSpec)) parsePlainUptoCard

/-- THE SECOND FORM's CARD OF 'farkeep.ParseRight'. -/
def parseRightUptoCard : Claim7 := { stood := { row := parseRightUptoRow, standIns := [], harness := (true, "f4943a76e97037cdb9d59be852ed72af0aba2ca791f18aef178e5d60ee754f94"), looks := true }, kinds := [], alts := [], laidByText := true, laidKinds := [.data, .pinned], laidTests := true, laidLooks := .later }
def ParseRightUptoCardSaid : Prop := Claim7.holds Tryd.pinned (.plain (OpenSpec.upto parseRightSpec)) parseRightUptoCard

/-- THE SECOND FORM's CARD OF 'farkeep.ParseCuts'. -/
def parseCutsUptoCard : Claim7 := { stood := { row := parseCutsUptoRow, standIns := [], harness := (true, "f4943a76e97037cdb9d59be852ed72af0aba2ca791f18aef178e5d60ee754f94"), looks := true }, kinds := [], alts := [], laidByText := true, laidKinds := [.data, .pinned], laidTests := true, laidLooks := .later }
def ParseCutsUptoCardSaid : Prop := Claim7.holds Tryd.pinned (.plain (OpenSpec.upto parseCutsSpec)) parseCutsUptoCard

/-- THE SECOND FORM's CARD OF 'farkeep.ParseHeals'. -/
def parseHealsUptoCard : Claim7 := { stood := { row := parseHealsUptoRow, standIns := [], harness := (true, "f4943a76e97037cdb9d59be852ed72af0aba2ca791f18aef178e5d60ee754f94"), looks := true }, kinds := [], alts := [], laidByText := true, laidKinds := [.data, .pinned], laidTests := true, laidLooks := .later }
def ParseHealsUptoCardSaid : Prop := Claim7.holds Tryd.pinned (.plain (OpenSpec.upto parseHealsSpec)) parseHealsUptoCard

/-- THE SECOND FORM's CARD OF 'farkeep.ParseBack'. -/
def parseBackUptoCard : Claim7 := { stood := { row := parseBackUptoRow, standIns := [], harness := (true, "f4943a76e97037cdb9d59be852ed72af0aba2ca791f18aef178e5d60ee754f94"), looks := true }, kinds := [], alts := [], laidByText := true, laidKinds := [.data, .data, .data, .data, .pinned], laidTests := true, laidLooks := .later }
def ParseBackUptoCardSaid : Prop := Claim7.holds Tryd.pinned (.plain (OpenSpec.upto parseBackSpec)) parseBackUptoCard

/-- THE SECOND FORM's CARD OF 'farkeep.PressOne'. -/
def pressOneUptoCard : Claim7 := { stood := { row := pressOneUptoRow, standIns := [], harness := (true, "f4943a76e97037cdb9d59be852ed72af0aba2ca791f18aef178e5d60ee754f94"), looks := true }, kinds := [], alts := [], laidByText := true, laidKinds := [.data, .data, .data, .data, .pinned], laidTests := true, laidLooks := .later }
def PressOneUptoCardSaid : Prop := Claim7.holds Tryd.pinned (.plain (OpenSpec.upto pressOneSpec)) pressOneUptoCard

/-- THE SECOND FORM's CARD OF 'farkeep.PressSafe'. -/
def pressSafeUptoCard : Claim7 := { stood := { row := pressSafeUptoRow, standIns := [], harness := (true, "f4943a76e97037cdb9d59be852ed72af0aba2ca791f18aef178e5d60ee754f94"), looks := true }, kinds := [], alts := [], laidByText := true, laidKinds := [.data, .data, .data, .data, .pinned], laidTests := true, laidLooks := .later }
def PressSafeUptoCardSaid : Prop := Claim7.holds Tryd.pinned (.plain (OpenSpec.upto pressSafeSpec)) pressSafeUptoCard

/-- THE SECOND FORM's CARD OF 'farkeep.PressBack'. -/
def pressBackUptoCard : Claim7 := { stood := { row := pressBackUptoRow, standIns := [], harness := (true, "f4943a76e97037cdb9d59be852ed72af0aba2ca791f18aef178e5d60ee754f94"), looks := true }, kinds := [], alts := [], laidByText := true, laidKinds := [.data, .data, .data, .data, .sentinel, .sentinel, .pinned], laidTests := true, laidLooks := .later }
def PressBackUptoCardSaid : Prop := Claim7.holds Tryd.pinned (.plain (OpenSpec.upto pressBackSpec)) pressBackUptoCard
end Rows
end Go.Proofs.YtakmihemhmdpkaaDoor
