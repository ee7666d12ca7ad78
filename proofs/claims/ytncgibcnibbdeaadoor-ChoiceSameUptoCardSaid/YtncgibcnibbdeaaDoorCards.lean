/-
  DERIVED. GIVEN WITH THE SEED: THE CARDS: each row of YtncgibcnibbdeaaDoorRows.lean that lists a variable, with what it lists TIED to the program's text (the seventh form; the later family's looks); each row that meets fmt, with fmt's text TOLD by the authors' own Lean function (tested against real Go, not proved from fmt's source: count such statements apart). THE CARD IS WHAT COUNTS. Prove the row's statement (the work); the ties are given (YtncgibcnibbdeaaDoorTie.lean); close each card by the builder's one call (the guide's Derived/Test/ToyasCard.lean, 'card_holds'). Laid BY PROGRAM, IN A SANDBOX (cutbox-door.mjs). By AI agents, Wed Nov 11 2026. No macro, syntax, notation, axiom, sorry.
-/
import Derived.Test.YtncgibcnibbdeaaDoorRows
import GoSem.ClaimSeven
namespace Go.Proofs.YtncgibcnibbdeaaDoor
namespace Rows

/-- THE TIED CARD OF 'farkeep.ChoiceWords'. -/
def choiceWordsCard : Claim7 := { stood := { row := choiceWordsRow, standIns := [], harness := (true, "70874ebc5faac4d2406b8cc4469fb970a620dc8a4bf0af49c85d2c45956108a1"), looks := false }, kinds := [], alts := [], laidByText := true, laidKinds := [.data, .pinned], laidTests := true, laidLooks := .later }
def ChoiceWordsCardSaid : Prop := Claim7.holds Tryd.pinned (.plain (OpenSpec.ofChange choiceWordsSpec)) choiceWordsCard

/-- THE TIED CARD OF 'farkeep.ChoiceMeets'. -/
def choiceMeetsCard : Claim7 := { stood := { row := choiceMeetsRow, standIns := [], harness := (true, "70874ebc5faac4d2406b8cc4469fb970a620dc8a4bf0af49c85d2c45956108a1"), looks := false }, kinds := [], alts := [], laidByText := true, laidKinds := [.data, .pinned], laidTests := true, laidLooks := .later }
def ChoiceMeetsCardSaid : Prop := Claim7.holds Tryd.pinned (.plain (OpenSpec.ofChange choiceMeetsSpec)) choiceMeetsCard

/-- THE TIED CARD OF 'farkeep.ChoiceSame'. -/
def choiceSameCard : Claim7 := { stood := { row := choiceSameRow, standIns := [], harness := (true, "70874ebc5faac4d2406b8cc4469fb970a620dc8a4bf0af49c85d2c45956108a1"), looks := false }, kinds := [], alts := [], laidByText := true, laidKinds := [.data, .pinned], laidTests := true, laidLooks := .later }
def ChoiceSameCardSaid : Prop := Claim7.holds Tryd.pinned (.plain (OpenSpec.ofChange choiceSameSpec)) choiceSameCard

/-- THE TIED CARD OF 'farkeep.ArgsJoins'. -/
def argsJoinsCard : Claim7 := { stood := { row := argsJoinsRow, standIns := [], harness := (true, "70874ebc5faac4d2406b8cc4469fb970a620dc8a4bf0af49c85d2c45956108a1"), looks := false }, kinds := [], alts := [], laidByText := true, laidKinds := [.data, .pinned], laidTests := true, laidLooks := .later }
def ArgsJoinsCardSaid : Prop := Claim7.holds Tryd.pinned (.plain (OpenSpec.ofChange argsJoinsSpec)) argsJoinsCard

/-- THE TIED CARD OF 'farkeep.ArgsBack'. -/
def argsBackCard : Claim7 := { stood := { row := argsBackRow, standIns := [], harness := (true, "70874ebc5faac4d2406b8cc4469fb970a620dc8a4bf0af49c85d2c45956108a1"), looks := false }, kinds := [], alts := [], laidByText := true, laidKinds := [.data, .data, .data, .data, .pinned], laidTests := true, laidLooks := .later }
def ArgsBackCardSaid : Prop := Claim7.holds Tryd.pinned (.plain (OpenSpec.ofChange argsBackSpec)) argsBackCard

/-- THE SECOND FORM's CARD OF 'farkeep.ChoiceWords'. -/
def choiceWordsUptoCard : Claim7 := { stood := { row := choiceWordsUptoRow, standIns := [], harness := (true, "70874ebc5faac4d2406b8cc4469fb970a620dc8a4bf0af49c85d2c45956108a1"), looks := false }, kinds := [], alts := [], laidByText := true, laidKinds := [.data, .pinned], laidTests := true, laidLooks := .later }
def ChoiceWordsUptoCardSaid : Prop := Claim7.holds Tryd.pinned (.plain (OpenSpec.upto choiceWordsSpec)) choiceWordsUptoCard

/-- THE SECOND FORM's CARD OF 'farkeep.ChoiceMeets'. -/
def choiceMeetsUptoCard : Claim7 := { stood := { row := choiceMeetsUptoRow, standIns := [], harness := (true, "70874ebc5faac4d2406b8cc4469fb970a620dc8a4bf0af49c85d2c45956108a1"), looks := false }, kinds := [], alts := [], laidByText := true, laidKinds := [.data, .pinned], laidTests := true, laidLooks := .later }
def ChoiceMeetsUptoCardSaid : Prop := Claim7.holds Tryd.pinned (.plain (OpenSpec.upto choiceMeetsSpec)) choiceMeetsUptoCard

/-- THE SECOND FORM's CARD OF 'farkeep.ChoiceSame'. -/
def choiceSameUptoCard : Claim7 := { stood := { row := choiceSameUptoRow, standIns := [], harness := (true, "70874ebc5faac4d2406b8cc4469fb970a620dc8a4bf0af49c85d2c45956108a1"), looks := false }, kinds := [], alts := [], laidByText := true, laidKinds := [.data, .pinned], laidTests := true, laidLooks := .later }
def ChoiceSameUptoCardSaid : Prop := Claim7.holds Tryd.pinned (.plain (OpenSpec.upto choiceSameSpec)) choiceSameUptoCard

/-- THE SECOND FORM's CARD OF 'farkeep.ArgsJoins'. -/
def argsJoinsUptoCard : Claim7 := { stood := { row := argsJoinsUptoRow, standIns := [], harness := (true, "70874ebc5faac4d2406b8cc4469fb970a620dc8a4bf0af49c85d2c45956108a1"), looks := false }, kinds := [], alts := [], laidByText := true, laidKinds := [.data, .pinned], laidTests := true, laidLooks := .later }
def ArgsJoinsUptoCardSaid : Prop := Claim7.holds Tryd.pinned (.plain (OpenSpec.upto argsJoinsSpec)) argsJoinsUptoCard

/-- THE SECOND FORM's CARD OF 'farkeep.ArgsBack'. -/
def argsBackUptoCard : Claim7 := { stood := { row := argsBackUptoRow, standIns := [], harness := (true, "70874ebc5faac4d2406b8cc4469fb970a620dc8a4bf0af49c85d2c45956108a1"), looks := false }, kinds := [], alts := [], laidByText := true, laidKinds := [.data, .data, .data, .data, .pinned], laidTests := true, laidLooks := .later }
def ArgsBackUptoCardSaid : Prop := Claim7.holds Tryd.pinned (.plain (OpenSpec.upto argsBackSpec)) argsBackUptoCard
end Rows
end Go.Proofs.YtncgibcnibbdeaaDoor
