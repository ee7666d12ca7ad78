/-
  DERIVED. GIVEN WITH THE SEED: THE CARDS: each row of YtjoccdgmcdkbkaaGreatDoorRows.lean that lists a variable, with what it lists TIED to the program's text (the seventh form; the later family's looks); each row that meets fmt, with fmt's text TOLD by the authors' own Lean function (tested against real Go, not proved from fmt's source: count such statements apart). THE CARD IS WHAT COUNTS. Prove the row's statement (the work); the ties are given (YtjoccdgmcdkbkaaGreatDoorTie.lean); close each card by the builder's one call (the guide's Derived/Test/ToyasCard.lean, 'card_holds'). Laid BY PROGRAM, IN A SANDBOX (cutbox-door.mjs). By AI agents, Wed Nov 11 2026. No macro, syntax, notation, axiom, sorry.
-/
import Derived.Test.YtjoccdgmcdkbkaaGreatDoorRows
import GoSem.ClaimSeven
namespace Go.Proofs.YtjoccdgmcdkbkaaGreatDoor
namespace Rows

/-- THE TIED CARD OF 'farkeep.ScreenTells'. -/
def screenTellsCard : Claim7 := { stood := { row := screenTellsRow, standIns := [], harness := (true, "df2969626186798b466ad8e24c91bd55e110eff0b478a762b091d477f072bd4e"), looks := false }, kinds := [], alts := [], laidByText := true, laidKinds := [.data, .data, .data], laidTests := true, laidLooks := .later }
def ScreenTellsCardSaid : Prop := Claim7.holds Tryz.pinned (.plain (OpenSpec.ofChange screenTellsSpec)) screenTellsCard

/-- THE TIED CARD OF 'farkeep.ScreenStill'. -/
def screenStillCard : Claim7 := { stood := { row := screenStillRow, standIns := [], harness := (true, "df2969626186798b466ad8e24c91bd55e110eff0b478a762b091d477f072bd4e"), looks := false }, kinds := [], alts := [], laidByText := true, laidKinds := [.data, .data, .data], laidTests := true, laidLooks := .later }
def ScreenStillCardSaid : Prop := Claim7.holds Tryz.pinned (.plain (OpenSpec.ofChange screenStillSpec)) screenStillCard

/-- THE TIED CARD OF 'farkeep.ScreenSaves'. -/
def screenSavesCard : Claim7 := { stood := { row := screenSavesRow, standIns := [], harness := (true, "df2969626186798b466ad8e24c91bd55e110eff0b478a762b091d477f072bd4e"), looks := false }, kinds := [], alts := [], laidByText := true, laidKinds := [.data, .data, .data], laidTests := true, laidLooks := .later }
def ScreenSavesCardSaid : Prop := Claim7.holds Tryz.pinned (.plain (OpenSpec.ofChange screenSavesSpec)) screenSavesCard

/-- THE TIED CARD OF 'farkeep.ScreenOther'. -/
def screenOtherCard : Claim7 := { stood := { row := screenOtherRow, standIns := [], harness := (true, "df2969626186798b466ad8e24c91bd55e110eff0b478a762b091d477f072bd4e"), looks := false }, kinds := [], alts := [], laidByText := true, laidKinds := [.data, .data, .data], laidTests := true, laidLooks := .later }
def ScreenOtherCardSaid : Prop := Claim7.holds Tryz.pinned (.plain (OpenSpec.ofChange screenOtherSpec)) screenOtherCard

/-- THE TIED CARD OF 'farkeep.ScreenCuts'. -/
def screenCutsCard : Claim7 := { stood := { row := screenCutsRow, standIns := [], harness := (true, "df2969626186798b466ad8e24c91bd55e110eff0b478a762b091d477f072bd4e"), looks := false }, kinds := [], alts := [], laidByText := true, laidKinds := [.data, .data, .data], laidTests := true, laidLooks := .later }
def ScreenCutsCardSaid : Prop := Claim7.holds Tryz.pinned (.plain (OpenSpec.ofChange screenCutsSpec)) screenCutsCard

/-- THE TIED CARD OF 'farkeep.ScreenRight'. -/
def screenRightCard : Claim7 := { stood := { row := screenRightRow, standIns := [], harness := (true, "df2969626186798b466ad8e24c91bd55e110eff0b478a762b091d477f072bd4e"), looks := false }, kinds := [], alts := [], laidByText := true, laidKinds := [.data, .data, .data], laidTests := true, laidLooks := .later }
def ScreenRightCardSaid : Prop := Claim7.holds Tryz.pinned (.plain (OpenSpec.ofChange screenRightSpec)) screenRightCard

/-- THE TIED CARD OF 'farkeep.ScreenClears'. -/
def screenClearsCard : Claim7 := { stood := { row := screenClearsRow, standIns := [], harness := (true, "df2969626186798b466ad8e24c91bd55e110eff0b478a762b091d477f072bd4e"), looks := false }, kinds := [], alts := [], laidByText := true, laidKinds := [.data, .data, .data], laidTests := true, laidLooks := .later }
def ScreenClearsCardSaid : Prop := Claim7.holds Tryz.pinned (.plain (OpenSpec.ofChange screenClearsSpec)) screenClearsCard

/-- THE TIED CARD OF 'farkeep.ScreenSize'. -/
def screenSizeCard : Claim7 := { stood := { row := screenSizeRow, standIns := [], harness := (true, "df2969626186798b466ad8e24c91bd55e110eff0b478a762b091d477f072bd4e"), looks := false }, kinds := [], alts := [], laidByText := true, laidKinds := [.data, .data, .data], laidTests := true, laidLooks := .later }
def ScreenSizeCardSaid : Prop := Claim7.holds Tryz.pinned (.plain (OpenSpec.ofChange screenSizeSpec)) screenSizeCard

/-- THE TIED CARD OF 'farkeep.ClipWays'. -/
def clipWaysCard : Claim7 := { stood := { row := clipWaysRow, standIns := [], harness := (true, "df2969626186798b466ad8e24c91bd55e110eff0b478a762b091d477f072bd4e"), looks := false }, kinds := [], alts := [], laidByText := true, laidKinds := [.data, .data, .data], laidTests := true, laidLooks := .later }
def ClipWaysCardSaid : Prop := Claim7.holds Tryz.pinned (.plain (OpenSpec.ofChange clipWaysSpec)) clipWaysCard

/-- THE TIED CARD OF 'farkeep.ClipCuts'. -/
def clipCutsCard : Claim7 := { stood := { row := clipCutsRow, standIns := [], harness := (true, "df2969626186798b466ad8e24c91bd55e110eff0b478a762b091d477f072bd4e"), looks := false }, kinds := [], alts := [], laidByText := true, laidKinds := [.data, .data, .data], laidTests := true, laidLooks := .later }
def ClipCutsCardSaid : Prop := Claim7.holds Tryz.pinned (.plain (OpenSpec.ofChange clipCutsSpec)) clipCutsCard

/-- THE TIED CARD OF 'farkeep.ClipAll'. -/
def clipAllCard : Claim7 := { stood := { row := clipAllRow, standIns := [], harness := (true, "df2969626186798b466ad8e24c91bd55e110eff0b478a762b091d477f072bd4e"), looks := false }, kinds := [], alts := [], laidByText := true, laidKinds := [.data, .data, .data], laidTests := true, laidLooks := .later }
def ClipAllCardSaid : Prop := Claim7.holds Tryz.pinned (.plain (OpenSpec.ofChange clipAllSpec)) clipAllCard

/-- THE SECOND FORM's CARD OF 'farkeep.ScreenTells'. -/
def screenTellsUptoCard : Claim7 := { stood := { row := screenTellsUptoRow, standIns := [], harness := (true, "df2969626186798b466ad8e24c91bd55e110eff0b478a762b091d477f072bd4e"), looks := false }, kinds := [], alts := [], laidByText := true, laidKinds := [.data, .data, .data], laidTests := true, laidLooks := .later }
def ScreenTellsUptoCardSaid : Prop := Claim7.holds Tryz.pinned (.plain (OpenSpec.upto screenTellsSpec)) screenTellsUptoCard

/-- THE SECOND FORM's CARD OF 'farkeep.ScreenStill'. -/
def screenStillUptoCard : Claim7 := { stood := { row := screenStillUptoRow, standIns := [], harness := (true, "df2969626186798b466ad8e24c91bd55e110eff0b478a762b091d477f072bd4e"), looks := false }, kinds := [], alts := [], laidByText := true, laidKinds := [.data, .data, .data], laidTests := true, laidLooks := .later }
def ScreenStillUptoCardSaid : Prop := Claim7.holds Tryz.pinned (.plain (OpenSpec.upto screenStillSpec)) screenStillUptoCard

/-- THE SECOND FORM's CARD OF 'farkeep.ScreenSaves'. -/
def screenSavesUptoCard : Claim7 := { stood := { row := screenSavesUptoRow, standIns := [], harness := (true, "df2969626186798b466ad8e24c91bd55e110eff0b478a762b091d477f072bd4e"), looks := false }, kinds := [], alts := [], laidByText := true, laidKinds := [.data, .data, .data], laidTests := true, laidLooks := .later }
def ScreenSavesUptoCardSaid : Prop := Claim7.holds Tryz.pinned (.plain (OpenSpec.upto screenSavesSpec)) screenSavesUptoCard

/-- THE SECOND FORM's CARD OF 'farkeep.ScreenOther'. -/
def screenOtherUptoCard : Claim7 := { stood := { row := screenOtherUptoRow, standIns := [], harness := (true, "df2969626186798b466ad8e24c91bd55e110eff0b478a762b091d477f072bd4e"), looks := false }, kinds := [], alts := [], laidByText := true, laidKinds := [.data, .data, .data], laidTests := true, laidLooks := .later }
def ScreenOtherUptoCardSaid : Prop := Claim7.holds Tryz.pinned (.plain (OpenSpec.upto screenOtherSpec)) screenOtherUptoCard

/-- THE SECOND FORM's CARD OF 'farkeep.ScreenCuts'. -/
def screenCutsUptoCard : Claim7 := { stood := { row := screenCutsUptoRow, standIns := [], harness := (true, "df2969626186798b466ad8e24c91bd55e110eff0b478a762b091d477f072bd4e"), looks := false }, kinds := [], alts := [], laidByText := true, laidKinds := [.data, .data, .data], laidTests := true, laidLooks := .later }
def ScreenCutsUptoCardSaid : Prop := Claim7.holds Tryz.pinned (.plain (OpenSpec.upto screenCutsSpec)) screenCutsUptoCard

/-- THE SECOND FORM's CARD OF 'farkeep.ScreenRight'. -/
def screenRightUptoCard : Claim7 := { stood := { row := screenRightUptoRow, standIns := [], harness := (true, "df2969626186798b466ad8e24c91bd55e110eff0b478a762b091d477f072bd4e"), looks := false }, kinds := [], alts := [], laidByText := true, laidKinds := [.data, .data, .data], laidTests := true, laidLooks := .later }
def ScreenRightUptoCardSaid : Prop := Claim7.holds Tryz.pinned (.plain (OpenSpec.upto screenRightSpec)) screenRightUptoCard

/-- THE SECOND FORM's CARD OF 'farkeep.ScreenClears'. -/
def screenClearsUptoCard : Claim7 := { stood := { row := screenClearsUptoRow, standIns := [], harness := (true, "df2969626186798b466ad8e24c91bd55e110eff0b478a762b091d477f072bd4e"), looks := false }, kinds := [], alts := [], laidByText := true, laidKinds := [.data, .data, .data], laidTests := true, laidLooks := .later }
def ScreenClearsUptoCardSaid : Prop := Claim7.holds Tryz.pinned (.plain (OpenSpec.upto screenClearsSpec)) screenClearsUptoCard

/-- THE SECOND FORM's CARD OF 'farkeep.ScreenSize'. -/
def screenSizeUptoCard : Claim7 := { stood := { row := screenSizeUptoRow, standIns := [], harness := (true, "df2969626186798b466ad8e24c91bd55e110eff0b478a762b091d477f072bd4e"), looks := false }, kinds := [], alts := [], laidByText := true, laidKinds := [.data, .data, .data], laidTests := true, laidLooks := .later }
def ScreenSizeUptoCardSaid : Prop := Claim7.holds Tryz.pinned (.plain (OpenSpec.upto screenSizeSpec)) screenSizeUptoCard

/-- THE SECOND FORM's CARD OF 'farkeep.ClipWays'. -/
def clipWaysUptoCard : Claim7 := { stood := { row := clipWaysUptoRow, standIns := [], harness := (true, "df2969626186798b466ad8e24c91bd55e110eff0b478a762b091d477f072bd4e"), looks := false }, kinds := [], alts := [], laidByText := true, laidKinds := [.data, .data, .data], laidTests := true, laidLooks := .later }
def ClipWaysUptoCardSaid : Prop := Claim7.holds Tryz.pinned (.plain (OpenSpec.upto clipWaysSpec)) clipWaysUptoCard

/-- THE SECOND FORM's CARD OF 'farkeep.ClipCuts'. -/
def clipCutsUptoCard : Claim7 := { stood := { row := clipCutsUptoRow, standIns := [], harness := (true, "df2969626186798b466ad8e24c91bd55e110eff0b478a762b091d477f072bd4e"), looks := false }, kinds := [], alts := [], laidByText := true, laidKinds := [.data, .data, .data], laidTests := true, laidLooks := .later }
def ClipCutsUptoCardSaid : Prop := Claim7.holds Tryz.pinned (.plain (OpenSpec.upto clipCutsSpec)) clipCutsUptoCard

/-- THE SECOND FORM's CARD OF 'farkeep.ClipAll'. -/
def clipAllUptoCard : Claim7 := { stood := { row := clipAllUptoRow, standIns := [], harness := (true, "df2969626186798b466ad8e24c91bd55e110eff0b478a762b091d477f072bd4e"), looks := false }, kinds := [], alts := [], laidByText := true, laidKinds := [.data, .data, .data], laidTests := true, laidLooks := .later }
def ClipAllUptoCardSaid : Prop := Claim7.holds Tryz.pinned (.plain (OpenSpec.upto clipAllSpec)) clipAllUptoCard
end Rows
end Go.Proofs.YtjoccdgmcdkbkaaGreatDoor
