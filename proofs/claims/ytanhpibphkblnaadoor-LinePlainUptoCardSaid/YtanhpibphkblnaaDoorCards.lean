/-
  DERIVED. GIVEN WITH THE SEED: THE CARDS: each row of YtanhpibphkblnaaDoorRows.lean that lists a variable, with what it lists TIED to the program's text (the seventh form; the later family's looks); each row that meets fmt, with fmt's text TOLD by the authors' own Lean function (tested against real Go, not proved from fmt's source: count such statements apart). THE CARD IS WHAT COUNTS. Prove the row's statement (the work); the ties are given (YtanhpibphkblnaaDoorTie.lean); close each card by the builder's one call (the guide's Derived/Test/ToyasCard.lean, 'card_holds'). Laid BY PROGRAM, IN A SANDBOX (cutbox-door.mjs). By AI agents, Wed Nov 11 2026. No macro, syntax, notation, axiom, sorry.
-/
import Derived.Test.YtanhpibphkblnaaDoorRows
import GoSem.ClaimSeven
namespace Go.Proofs.YtanhpibphkblnaaDoor
namespace Rows

/-- THE TIED CARD OF 'farkeep.MaskSets'. -/
def maskSetsCard : Claim7 := { stood := { row := maskSetsRow, standIns := [], harness := (true, "afc2586347eaa54d7065c2c246fb13257491c91262a1b9f364d45110d4308093"), looks := false }, kinds := [], alts := [], laidByText := true, laidKinds := [.data, .pinned], laidTests := true, laidLooks := .later }
def MaskSetsCardSaid : Prop := Claim7.holds Tryd.pinned (.plain (OpenSpec.ofChange maskSetsSpec)) maskSetsCard

/-- THE TIED CARD OF 'farkeep.MaskBack'. -/
def maskBackCard : Claim7 := { stood := { row := maskBackRow, standIns := [], harness := (true, "afc2586347eaa54d7065c2c246fb13257491c91262a1b9f364d45110d4308093"), looks := false }, kinds := [], alts := [], laidByText := true, laidKinds := [.data, .pinned], laidTests := true, laidLooks := .later }
def MaskBackCardSaid : Prop := Claim7.holds Tryd.pinned (.plain (OpenSpec.ofChange maskBackSpec)) maskBackCard

/-- THE TIED CARD OF 'farkeep.PressApart'. -/
def pressApartCard : Claim7 := { stood := { row := pressApartRow, standIns := [], harness := (true, "afc2586347eaa54d7065c2c246fb13257491c91262a1b9f364d45110d4308093"), looks := false }, kinds := [], alts := [], laidByText := true, laidKinds := [.data, .data, .data], laidTests := true, laidLooks := .later }
def PressApartCardSaid : Prop := Claim7.holds Tryd.pinned (.plain (OpenSpec.ofChange pressApartSpec)) pressApartCard

/-- THE TIED CARD OF 'farkeep.PressAlt'. -/
def pressAltCard : Claim7 := { stood := { row := pressAltRow, standIns := [], harness := (true, "afc2586347eaa54d7065c2c246fb13257491c91262a1b9f364d45110d4308093"), looks := false }, kinds := [], alts := [], laidByText := true, laidKinds := [.data, .data, .data], laidTests := true, laidLooks := .later }
def PressAltCardSaid : Prop := Claim7.holds Tryd.pinned (.plain (OpenSpec.ofChange pressAltSpec)) pressAltCard

/-- THE TIED CARD OF 'farkeep.LineCuts'. -/
def lineCutsCard : Claim7 := { stood := { row := lineCutsRow, standIns := [], harness := (true, "afc2586347eaa54d7065c2c246fb13257491c91262a1b9f364d45110d4308093"), looks := false }, kinds := [], alts := [], laidByText := true, laidKinds := [.data, .pinned], laidTests := true, laidLooks := .later }
def LineCutsCardSaid : Prop := Claim7.holds Tryd.pinned (.plain (OpenSpec.ofChange lineCutsSpec)) lineCutsCard

/-- THE TIED CARD OF 'farkeep.LineErases'. -/
def lineErasesCard : Claim7 := { stood := { row := lineErasesRow, standIns := [], harness := (true, "afc2586347eaa54d7065c2c246fb13257491c91262a1b9f364d45110d4308093"), looks := false }, kinds := [], alts := [], laidByText := true, laidKinds := [.data, .pinned], laidTests := true, laidLooks := .later }
def LineErasesCardSaid : Prop := Claim7.holds Tryd.pinned (.plain (OpenSpec.ofChange lineErasesSpec)) lineErasesCard

/-- THE TIED CARD OF 'farkeep.LinePlain'. -/
def linePlainCard : Claim7 := { stood := { row := linePlainRow, standIns := [], harness := (true, "afc2586347eaa54d7065c2c246fb13257491c91262a1b9f364d45110d4308093"), looks := false }, kinds := [], alts := [], laidByText := true, laidKinds := [.data, .pinned], laidTests := true, laidLooks := .later }
def LinePlainCardSaid : Prop := Claim7.holds Tryd.pinned (.plain (OpenSpec.ofChange linePlainSpec)) linePlainCard

/-- THE TIED CARD OF 'farkeep.LineQuotes'. -/
def lineQuotesCard : Claim7 := { stood := { row := lineQuotesRow, standIns := [], harness := (true, "afc2586347eaa54d7065c2c246fb13257491c91262a1b9f364d45110d4308093"), looks := false }, kinds := [], alts := [], laidByText := true, laidKinds := [.data, .pinned], laidTests := true, laidLooks := .later }
def LineQuotesCardSaid : Prop := Claim7.holds Tryd.pinned (.plain (OpenSpec.ofChange lineQuotesSpec)) lineQuotesCard

/-- THE TIED CARD OF 'farkeep.LineShows'. -/
def lineShowsCard : Claim7 := { stood := { row := lineShowsRow, standIns := [], harness := (true, "afc2586347eaa54d7065c2c246fb13257491c91262a1b9f364d45110d4308093"), looks := false }, kinds := [], alts := [], laidByText := true, laidKinds := [.data, .pinned], laidTests := true, laidLooks := .later }
def LineShowsCardSaid : Prop := Claim7.holds Tryd.pinned (.plain (OpenSpec.ofChange lineShowsSpec)) lineShowsCard

/-- THE SECOND FORM's CARD OF 'farkeep.MaskSets'. -/
def maskSetsUptoCard : Claim7 := { stood := { row := maskSetsUptoRow, standIns := [], harness := (true, "afc2586347eaa54d7065c2c246fb13257491c91262a1b9f364d45110d4308093"), looks := false }, kinds := [], alts := [], laidByText := true, laidKinds := [.data, .pinned], laidTests := true, laidLooks := .later }
def MaskSetsUptoCardSaid : Prop := Claim7.holds Tryd.pinned (.plain (OpenSpec.upto maskSetsSpec)) maskSetsUptoCard

/-- THE SECOND FORM's CARD OF 'farkeep.MaskBack'. -/
def maskBackUptoCard : Claim7 := { stood := { row := maskBackUptoRow, standIns := [], harness := (true, "afc2586347eaa54d7065c2c246fb13257491c91262a1b9f364d45110d4308093"), looks := false }, kinds := [], alts := [], laidByText := true, laidKinds := [.data, .pinned], laidTests := true, laidLooks := .later }
def MaskBackUptoCardSaid : Prop := Claim7.holds Tryd.pinned (.plain (OpenSpec.upto maskBackSpec)) maskBackUptoCard

/-- THE SECOND FORM's CARD OF 'farkeep.PressApart'. -/
def pressApartUptoCard : Claim7 := { stood := { row := pressApartUptoRow, standIns := [], harness := (true, "afc2586347eaa54d7065c2c246fb13257491c91262a1b9f364d45110d4308093"), looks := false }, kinds := [], alts := [], laidByText := true, laidKinds := [.data, .data, .data], laidTests := true, laidLooks := .later }
def PressApartUptoCardSaid : Prop := Claim7.holds Tryd.pinned (.plain (OpenSpec.upto pressApartSpec)) pressApartUptoCard

/-- THE SECOND FORM's CARD OF 'farkeep.PressAlt'. -/
def pressAltUptoCard : Claim7 := { stood := { row := pressAltUptoRow, standIns := [], harness := (true, "afc2586347eaa54d7065c2c246fb13257491c91262a1b9f364d45110d4308093"), looks := false }, kinds := [], alts := [], laidByText := true, laidKinds := [.data, .data, .data], laidTests := true, laidLooks := .later }
def PressAltUptoCardSaid : Prop := Claim7.holds Tryd.pinned (.plain (OpenSpec.upto pressAltSpec)) pressAltUptoCard

/-- THE SECOND FORM's CARD OF 'farkeep.LineCuts'. -/
def lineCutsUptoCard : Claim7 := { stood := { row := lineCutsUptoRow, standIns := [], harness := (true, "afc2586347eaa54d7065c2c246fb13257491c91262a1b9f364d45110d4308093"), looks := false }, kinds := [], alts := [], laidByText := true, laidKinds := [.data, .pinned], laidTests := true, laidLooks := .later }
def LineCutsUptoCardSaid : Prop := Claim7.holds Tryd.pinned (.plain (OpenSpec.upto lineCutsSpec)) lineCutsUptoCard

/-- THE SECOND FORM's CARD OF 'farkeep.LineErases'. -/
def lineErasesUptoCard : Claim7 := { stood := { row := lineErasesUptoRow, standIns := [], harness := (true, "afc2586347eaa54d7065c2c246fb13257491c91262a1b9f364d45110d4308093"), looks := false }, kinds := [], alts := [], laidByText := true, laidKinds := [.data, .pinned], laidTests := true, laidLooks := .later }
def LineErasesUptoCardSaid : Prop := Claim7.holds Tryd.pinned (.plain (OpenSpec.upto lineErasesSpec)) lineErasesUptoCard

/-- THE SECOND FORM's CARD OF 'farkeep.LinePlain'. -/
def linePlainUptoCard : Claim7 := { stood := { row := linePlainUptoRow, standIns := [], harness := (true, "afc2586347eaa54d7065c2c246fb13257491c91262a1b9f364d45110d4308093"), looks := false }, kinds := [], alts := [], laidByText := true, laidKinds := [.data, .pinned], laidTests := true, laidLooks := .later }
def LinePlainUptoCardSaid : Prop := Claim7.holds Tryd.pinned (.plain (OpenSpec.upto linePlainSpec)) linePlainUptoCard

/-- THE SECOND FORM's CARD OF 'farkeep.LineQuotes'. -/
def lineQuotesUptoCard : Claim7 := { stood := { row := lineQuotesUptoRow, standIns := [], harness := (true, "afc2586347eaa54d7065c2c246fb13257491c91262a1b9f364d45110d4308093"), looks := false }, kinds := [], alts := [], laidByText := true, laidKinds := [.data, .pinned], laidTests := true, laidLooks := .later }
def LineQuotesUptoCardSaid : Prop := Claim7.holds Tryd.pinned (.plain (OpenSpec.upto lineQuotesSpec)) lineQuotesUptoCard

/-- THE SECOND FORM's CARD OF 'farkeep.LineShows'. -/
def lineShowsUptoCard : Claim7 := { stood := { row := lineShowsUptoRow, standIns := [], harness := (true, "afc2586347eaa54d7065c2c246fb13257491c91262a1b9f364d45110d4308093"), looks := false }, kinds := [], alts := [], laidByText := true, laidKinds := [.data, .pinned], laidTests := true, laidLooks := .later }
def LineShowsUptoCardSaid : Prop := Claim7.holds Tryd.pinned (.plain (OpenSpec.upto lineShowsSpec)) lineShowsUptoCard
end Rows
end Go.Proofs.YtanhpibphkblnaaDoor
