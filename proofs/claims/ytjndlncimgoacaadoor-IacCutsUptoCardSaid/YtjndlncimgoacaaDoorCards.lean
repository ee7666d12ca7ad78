/-
  DERIVED. GIVEN WITH THE SEED: THE CARDS: each row of YtjndlncimgoacaaDoorRows.lean that lists a variable, with what it lists TIED to the program's text (the seventh form; the later family's looks); each row that meets fmt, with fmt's text TOLD by the authors' own Lean function (tested against real Go, not proved from fmt's source: count such statements apart). THE CARD IS WHAT COUNTS. Prove the row's statement (the work); the ties are given (YtjndlncimgoacaaDoorTie.lean); close each card by the builder's one call (the guide's Derived/Test/ToyasCard.lean, 'card_holds'). Laid BY PROGRAM, IN A SANDBOX (cutbox-door.mjs). By AI agents, Wed Nov 11 2026. No macro, syntax, notation, axiom, sorry.
-/
import Derived.Test.YtjndlncimgoacaaDoorRows
import GoSem.ClaimSeven
namespace Go.Proofs.YtjndlncimgoacaaDoor
namespace Rows

/-- THE TIED CARD OF 'farkeep.IacPlain'. -/
def iacPlainCard : Claim7 := { stood := { row := iacPlainRow, standIns := [], harness := (true, "260346f3f669dd1e35a2843f473b759ade75e8993e32406f74563c268b1df128"), looks := false }, kinds := [], alts := [], laidByText := true, laidKinds := [.data, .pinned], laidTests := true, laidLooks := .later }
def IacPlainCardSaid : Prop := Claim7.holds Tryd.pinned (.plain (OpenSpec.ofChange iacPlainSpec)) iacPlainCard

/-- THE TIED CARD OF 'farkeep.IacRight'. -/
def iacRightCard : Claim7 := { stood := { row := iacRightRow, standIns := [], harness := (true, "260346f3f669dd1e35a2843f473b759ade75e8993e32406f74563c268b1df128"), looks := false }, kinds := [], alts := [], laidByText := true, laidKinds := [.data, .pinned], laidTests := true, laidLooks := .later }
def IacRightCardSaid : Prop := Claim7.holds Tryd.pinned (.plain (OpenSpec.ofChange iacRightSpec)) iacRightCard

/-- THE TIED CARD OF 'farkeep.IacAgain'. -/
def iacAgainCard : Claim7 := { stood := { row := iacAgainRow, standIns := [], harness := (true, "260346f3f669dd1e35a2843f473b759ade75e8993e32406f74563c268b1df128"), looks := false }, kinds := [], alts := [], laidByText := true, laidKinds := [.data, .pinned], laidTests := true, laidLooks := .later }
def IacAgainCardSaid : Prop := Claim7.holds Tryd.pinned (.plain (OpenSpec.ofChange iacAgainSpec)) iacAgainCard

/-- THE TIED CARD OF 'farkeep.IacCuts'. -/
def iacCutsCard : Claim7 := { stood := { row := iacCutsRow, standIns := [], harness := (true, "260346f3f669dd1e35a2843f473b759ade75e8993e32406f74563c268b1df128"), looks := false }, kinds := [], alts := [], laidByText := true, laidKinds := [.data, .pinned], laidTests := true, laidLooks := .later }
def IacCutsCardSaid : Prop := Claim7.holds Tryd.pinned (.plain (OpenSpec.ofChange iacCutsSpec)) iacCutsCard

/-- THE TIED CARD OF 'farkeep.IacBack'. -/
def iacBackCard : Claim7 := { stood := { row := iacBackRow, standIns := [], harness := (true, "260346f3f669dd1e35a2843f473b759ade75e8993e32406f74563c268b1df128"), looks := false }, kinds := [], alts := [], laidByText := true, laidKinds := [.data, .pinned], laidTests := true, laidLooks := .later }
def IacBackCardSaid : Prop := Claim7.holds Tryd.pinned (.plain (OpenSpec.ofChange iacBackSpec)) iacBackCard

/-- THE SECOND FORM's CARD OF 'farkeep.IacPlain'. -/
def iacPlainUptoCard : Claim7 := { stood := { row := iacPlainUptoRow, standIns := [], harness := (true, "260346f3f669dd1e35a2843f473b759ade75e8993e32406f74563c268b1df128"), looks := false }, kinds := [], alts := [], laidByText := true, laidKinds := [.data, .pinned], laidTests := true, laidLooks := .later }
def IacPlainUptoCardSaid : Prop := Claim7.holds Tryd.pinned (.plain (OpenSpec.upto iacPlainSpec)) iacPlainUptoCard

/-- THE SECOND FORM's CARD OF 'farkeep.IacRight'. -/
def iacRightUptoCard : Claim7 := { stood := { row := iacRightUptoRow, standIns := [], harness := (true, "260346f3f669dd1e35a2843f473b759ade75e8993e32406f74563c268b1df128"), looks := false }, kinds := [], alts := [], laidByText := true, laidKinds := [.data, .pinned], laidTests := true, laidLooks := .later }
def IacRightUptoCardSaid : Prop := Claim7.holds Tryd.pinned (.plain (OpenSpec.upto iacRightSpec)) iacRightUptoCard

/-- THE SECOND FORM's CARD OF 'farkeep.IacAgain'. -/
def iacAgainUptoCard : Claim7 := { stood := { row := iacAgainUptoRow, standIns := [], harness := (true, "260346f3f669dd1e35a2843f473b759ade75e8993e32406f74563c268b1df128"), looks := false }, kinds := [], alts := [], laidByText := true, laidKinds := [.data, .pinned], laidTests := true, laidLooks := .later }
def IacAgainUptoCardSaid : Prop := Claim7.holds Tryd.pinned (.plain (OpenSpec.upto iacAgainSpec)) iacAgainUptoCard

/-- THE SECOND FORM's CARD OF 'farkeep.IacCuts'. -/
def iacCutsUptoCard : Claim7 := { stood := { row := iacCutsUptoRow, standIns := [], harness := (true, "260346f3f669dd1e35a2843f473b759ade75e8993e32406f74563c268b1df128"), looks := false }, kinds := [], alts := [], laidByText := true, laidKinds := [.data, .pinned], laidTests := true, laidLooks := .later }
def IacCutsUptoCardSaid : Prop := Claim7.holds Tryd.pinned (.plain (OpenSpec.upto iacCutsSpec)) iacCutsUptoCard

/-- THE SECOND FORM's CARD OF 'farkeep.IacBack'. -/
def iacBackUptoCard : Claim7 := { stood := { row := iacBackUptoRow, standIns := [], harness := (true, "260346f3f669dd1e35a2843f473b759ade75e8993e32406f74563c268b1df128"), looks := false }, kinds := [], alts := [], laidByText := true, laidKinds := [.data, .pinned], laidTests := true, laidLooks := .later }
def IacBackUptoCardSaid : Prop := Claim7.holds Tryd.pinned (.plain (OpenSpec.upto iacBackSpec)) iacBackUptoCard
end Rows
end Go.Proofs.YtjndlncimgoacaaDoor
