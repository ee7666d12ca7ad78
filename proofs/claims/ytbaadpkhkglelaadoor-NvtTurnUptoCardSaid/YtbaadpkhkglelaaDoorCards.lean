/-
  DERIVED. GIVEN WITH THE SEED: THE CARDS: each row of YtbaadpkhkglelaaDoorRows.lean that lists a variable, with what it lists TIED to the program's text (the seventh form; the later family's looks); each row that meets fmt, with fmt's text TOLD by the authors' own Lean function (tested against real Go, not proved from fmt's source: count such statements apart). THE CARD IS WHAT COUNTS. Prove the row's statement (the work); the ties are given (YtbaadpkhkglelaaDoorTie.lean); close each card by the builder's one call (the guide's Derived/Test/ToyasCard.lean, 'card_holds'). Laid BY PROGRAM, IN A SANDBOX (cutbox-door.mjs). By AI agents, Wed Nov 11 2026. No macro, syntax, notation, axiom, sorry.
-/
import Derived.Test.YtbaadpkhkglelaaDoorRows
import GoSem.ClaimSeven
namespace Go.Proofs.YtbaadpkhkglelaaDoor
namespace Rows

/-- THE TIED CARD OF 'farkeep.NvtTurn'. -/
def nvtTurnCard : Claim7 := { stood := { row := nvtTurnRow, standIns := [], harness := (true, "1f36703da80cea910eca888075232c3ef9917a2569d630f1a5de3099d6fff787"), looks := false }, kinds := [], alts := [], laidByText := true, laidKinds := [.data, .pinned], laidTests := true, laidLooks := .later }
def NvtTurnCardSaid : Prop := Claim7.holds Tryd.pinned (.plain (OpenSpec.ofChange nvtTurnSpec)) nvtTurnCard

/-- THE SECOND FORM's CARD OF 'farkeep.NvtTurn'. -/
def nvtTurnUptoCard : Claim7 := { stood := { row := nvtTurnUptoRow, standIns := [], harness := (true, "1f36703da80cea910eca888075232c3ef9917a2569d630f1a5de3099d6fff787"), looks := false }, kinds := [], alts := [], laidByText := true, laidKinds := [.data, .pinned], laidTests := true, laidLooks := .later }
def NvtTurnUptoCardSaid : Prop := Claim7.holds Tryd.pinned (.plain (OpenSpec.upto nvtTurnSpec)) nvtTurnUptoCard
end Rows
end Go.Proofs.YtbaadpkhkglelaaDoor
