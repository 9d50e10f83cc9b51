/-
  DERIVED. GIVEN WITH THE SEED: THE CARDS: each row of YtbhienpbfidgjaaGreatDoorRows.lean that lists a variable, with what it lists TIED to the program's text (the seventh form; the later family's looks); each row that meets fmt, with fmt's text TOLD by the authors' own Lean function (tested against real Go, not proved from fmt's source: count such statements apart). THE CARD IS WHAT COUNTS. Prove the row's statement (the work); the ties are given (YtbhienpbfidgjaaGreatDoorTie.lean); close each card by the builder's one call (the guide's Derived/Test/ToyasCard.lean, 'card_holds'). Laid BY PROGRAM, IN A SANDBOX (cutbox-door.mjs). By AI agents, Wed Nov 11 2026. No macro, syntax, notation, axiom, sorry.
-/
import Derived.Test.YtbhienpbfidgjaaGreatDoorRows
import GoSem.ClaimSeven
namespace Go.Proofs.YtbhienpbfidgjaaGreatDoor
namespace Rows

/-- THE TIED CARD OF 'caissalaw06.PositionValid'. -/
def positionValidCard : Claim7 := { stood := { row := positionValidRow, standIns := [], harness := (true, "afd9a7f328a1d481f3df556b865a7f28ab1d75cf7bd565249a8dd5d4a467fc71"), looks := true }, kinds := [], alts := [], laidByText := true, laidKinds := [.data, .data, .data, .data, .data, .widerDeep, .widerDeep, .widerDeep, .sentinel, .sentinel, .data, .pinned], laidTests := true, laidLooks := .later }
def PositionValidCardSaid : Prop := Claim7.holds Tryz.pinned (.plain (OpenSpec.ofChange positionValidSpec)) positionValidCard

/-- THE TIED CARD OF 'caissalaw06.PositionTexts'. -/
def positionTextsCard : Claim7 := { stood := { row := positionTextsRow, standIns := [], harness := (true, "afd9a7f328a1d481f3df556b865a7f28ab1d75cf7bd565249a8dd5d4a467fc71"), looks := true }, kinds := [], alts := [], laidByText := true, laidKinds := [.data, .data, .data, .data, .data, .widerDeep, .widerDeep, .widerDeep, .sentinel, .sentinel, .data, .pinned], laidTests := true, laidLooks := .later }
def PositionTextsCardSaid : Prop := Claim7.holds Tryz.pinned (.plain (OpenSpec.ofChange positionTextsSpec)) positionTextsCard

/-- THE TIED CARD OF 'caissalaw06.PositionParses'. -/
def positionParsesCard : Claim7 := { stood := { row := positionParsesRow, standIns := [], harness := (true, "afd9a7f328a1d481f3df556b865a7f28ab1d75cf7bd565249a8dd5d4a467fc71"), looks := true }, kinds := [], alts := [], laidByText := true, laidKinds := [.data, .data, .data, .data, .data, .widerDeep, .widerDeep, .widerDeep, .sentinel, .sentinel, .data, .pinned], laidTests := true, laidLooks := .later }
def PositionParsesCardSaid : Prop := Claim7.holds Tryz.pinned (.plain (OpenSpec.ofChange positionParsesSpec)) positionParsesCard

/-- THE TIED CARD OF 'caissalaw06.PositionOf'. -/
def positionOfCard : Claim7 := { stood := { row := positionOfRow, standIns := [], harness := (true, "afd9a7f328a1d481f3df556b865a7f28ab1d75cf7bd565249a8dd5d4a467fc71"), looks := true }, kinds := [], alts := [], laidByText := true, laidKinds := [.data, .data, .data, .data, .data, .widerDeep, .widerDeep, .widerDeep, .sentinel, .sentinel, .data, .pinned], laidTests := true, laidLooks := .later }
def PositionOfCardSaid : Prop := Claim7.holds Tryz.pinned (.plain (OpenSpec.ofChange positionOfSpec)) positionOfCard

/-- THE TIED CARD OF 'caissalaw06.PositionHolds'. -/
def positionHoldsCard : Claim7 := { stood := { row := positionHoldsRow, standIns := [], harness := (true, "afd9a7f328a1d481f3df556b865a7f28ab1d75cf7bd565249a8dd5d4a467fc71"), looks := true }, kinds := [], alts := [], laidByText := true, laidKinds := [.data, .data, .data, .data, .data, .widerDeep, .widerDeep, .widerDeep, .sentinel, .sentinel, .data, .pinned], laidTests := true, laidLooks := .later }
def PositionHoldsCardSaid : Prop := Claim7.holds Tryz.pinned (.plain (OpenSpec.ofChange positionHoldsSpec)) positionHoldsCard

/-- THE TIED CARD OF 'caissalaw06.PositionEqual'. -/
def positionEqualCard : Claim7 := { stood := { row := positionEqualRow, standIns := [], harness := (true, "afd9a7f328a1d481f3df556b865a7f28ab1d75cf7bd565249a8dd5d4a467fc71"), looks := true }, kinds := [], alts := [], laidByText := true, laidKinds := [.data, .data, .data, .data, .data, .widerDeep, .widerDeep, .widerDeep, .sentinel, .sentinel, .data, .pinned], laidTests := true, laidLooks := .later }
def PositionEqualCardSaid : Prop := Claim7.holds Tryz.pinned (.plain (OpenSpec.ofChange positionEqualSpec)) positionEqualCard

/-- THE TIED CARD OF 'caissalaw29.StipulationValids'. -/
def stipulationValidsCard : Claim7 := { stood := { row := stipulationValidsRow, standIns := [], harness := (true, "afd9a7f328a1d481f3df556b865a7f28ab1d75cf7bd565249a8dd5d4a467fc71"), looks := true }, kinds := [], alts := [], laidByText := true, laidKinds := [.data, .data, .data, .data, .data, .widerDeep, .widerDeep, .widerDeep, .sentinel, .sentinel, .data, .pinned], laidTests := true, laidLooks := .later }
def StipulationValidsCardSaid : Prop := Claim7.holds Tryz.pinned (.plain (OpenSpec.ofChange stipulationValidsSpec)) stipulationValidsCard

/-- THE TIED CARD OF 'caissalaw29.StipulationTexts'. -/
def stipulationTextsCard : Claim7 := { stood := { row := stipulationTextsRow, standIns := [], harness := (true, "afd9a7f328a1d481f3df556b865a7f28ab1d75cf7bd565249a8dd5d4a467fc71"), looks := true }, kinds := [], alts := [], laidByText := true, laidKinds := [.data, .data, .data, .data, .data, .widerDeep, .widerDeep, .widerDeep, .sentinel, .sentinel, .data, .pinned], laidTests := true, laidLooks := .later }
def StipulationTextsCardSaid : Prop := Claim7.holds Tryz.pinned (.plain (OpenSpec.ofChange stipulationTextsSpec)) stipulationTextsCard

/-- THE TIED CARD OF 'caissalaw29.StipulationParses'. -/
def stipulationParsesCard : Claim7 := { stood := { row := stipulationParsesRow, standIns := [], harness := (true, "afd9a7f328a1d481f3df556b865a7f28ab1d75cf7bd565249a8dd5d4a467fc71"), looks := true }, kinds := [], alts := [], laidByText := true, laidKinds := [.data, .data, .data, .data, .data, .widerDeep, .widerDeep, .widerDeep, .sentinel, .sentinel, .data, .pinned], laidTests := true, laidLooks := .later }
def StipulationParsesCardSaid : Prop := Claim7.holds Tryz.pinned (.plain (OpenSpec.ofChange stipulationParsesSpec)) stipulationParsesCard

/-- THE TIED CARD OF 'caissalaw29.StipulationPlies'. -/
def stipulationPliesCard : Claim7 := { stood := { row := stipulationPliesRow, standIns := [], harness := (true, "afd9a7f328a1d481f3df556b865a7f28ab1d75cf7bd565249a8dd5d4a467fc71"), looks := true }, kinds := [], alts := [], laidByText := true, laidKinds := [.data, .data, .data, .data, .data, .widerDeep, .widerDeep, .widerDeep, .sentinel, .sentinel, .data, .pinned], laidTests := true, laidLooks := .later }
def StipulationPliesCardSaid : Prop := Claim7.holds Tryz.pinned (.plain (OpenSpec.ofChange stipulationPliesSpec)) stipulationPliesCard

/-- THE TIED CARD OF 'caissalaw29.StipulationUsuals'. -/
def stipulationUsualsCard : Claim7 := { stood := { row := stipulationUsualsRow, standIns := [], harness := (true, "afd9a7f328a1d481f3df556b865a7f28ab1d75cf7bd565249a8dd5d4a467fc71"), looks := true }, kinds := [], alts := [], laidByText := true, laidKinds := [.data, .data, .data, .data, .data, .widerDeep, .widerDeep, .widerDeep, .sentinel, .sentinel, .data, .pinned], laidTests := true, laidLooks := .later }
def StipulationUsualsCardSaid : Prop := Claim7.holds Tryz.pinned (.plain (OpenSpec.ofChange stipulationUsualsSpec)) stipulationUsualsCard

/-- THE TIED CARD OF 'caissalaw29.StipulationNexts'. -/
def stipulationNextsCard : Claim7 := { stood := { row := stipulationNextsRow, standIns := [], harness := (true, "afd9a7f328a1d481f3df556b865a7f28ab1d75cf7bd565249a8dd5d4a467fc71"), looks := true }, kinds := [], alts := [], laidByText := true, laidKinds := [.data, .data, .data, .data, .data, .widerDeep, .widerDeep, .widerDeep, .sentinel, .sentinel, .data, .pinned], laidTests := true, laidLooks := .later }
def StipulationNextsCardSaid : Prop := Claim7.holds Tryz.pinned (.plain (OpenSpec.ofChange stipulationNextsSpec)) stipulationNextsCard

/-- THE TIED CARD OF 'caissalaw29.StipulationHolds'. -/
def stipulationHoldsCard : Claim7 := { stood := { row := stipulationHoldsRow, standIns := [], harness := (true, "afd9a7f328a1d481f3df556b865a7f28ab1d75cf7bd565249a8dd5d4a467fc71"), looks := true }, kinds := [], alts := [], laidByText := true, laidKinds := [.data, .data, .data, .data, .data, .widerDeep, .widerDeep, .widerDeep, .sentinel, .sentinel, .data, .pinned], laidTests := true, laidLooks := .later }
def StipulationHoldsCardSaid : Prop := Claim7.holds Tryz.pinned (.plain (OpenSpec.ofChange stipulationHoldsSpec)) stipulationHoldsCard

/-- THE SECOND FORM's CARD OF 'caissalaw06.PositionValid'. -/
def positionValidUptoCard : Claim7 := { stood := { row := positionValidUptoRow, standIns := [], harness := (true, "afd9a7f328a1d481f3df556b865a7f28ab1d75cf7bd565249a8dd5d4a467fc71"), looks := true }, kinds := [], alts := [], laidByText := true, laidKinds := [.data, .data, .data, .data, .data, .widerDeep, .widerDeep, .widerDeep, .sentinel, .sentinel, .data, .pinned], laidTests := true, laidLooks := .later }
def PositionValidUptoCardSaid : Prop := Claim7.holds Tryz.pinned (.plain (OpenSpec.upto positionValidSpec)) positionValidUptoCard

/-- THE SECOND FORM's CARD OF 'caissalaw06.PositionTexts'. -/
def positionTextsUptoCard : Claim7 := { stood := { row := positionTextsUptoRow, standIns := [], harness := (true, "afd9a7f328a1d481f3df556b865a7f28ab1d75cf7bd565249a8dd5d4a467fc71"), looks := true }, kinds := [], alts := [], laidByText := true, laidKinds := [.data, .data, .data, .data, .data, .widerDeep, .widerDeep, .widerDeep, .sentinel, .sentinel, .data, .pinned], laidTests := true, laidLooks := .later }
def PositionTextsUptoCardSaid : Prop := Claim7.holds Tryz.pinned (.plain (OpenSpec.upto positionTextsSpec)) positionTextsUptoCard

/-- THE SECOND FORM's CARD OF 'caissalaw06.PositionParses'. -/
def positionParsesUptoCard : Claim7 := { stood := { row := positionParsesUptoRow, standIns := [], harness := (true, "afd9a7f328a1d481f3df556b865a7f28ab1d75cf7bd565249a8dd5d4a467fc71"), looks := true }, kinds := [], alts := [], laidByText := true, laidKinds := [.data, .data, .data, .data, .data, .widerDeep, .widerDeep, .widerDeep, .sentinel, .sentinel, .data, .pinned], laidTests := true, laidLooks := .later }
def PositionParsesUptoCardSaid : Prop := Claim7.holds Tryz.pinned (.plain (OpenSpec.upto positionParsesSpec)) positionParsesUptoCard

/-- THE SECOND FORM's CARD OF 'caissalaw06.PositionOf'. -/
def positionOfUptoCard : Claim7 := { stood := { row := positionOfUptoRow, standIns := [], harness := (true, "afd9a7f328a1d481f3df556b865a7f28ab1d75cf7bd565249a8dd5d4a467fc71"), looks := true }, kinds := [], alts := [], laidByText := true, laidKinds := [.data, .data, .data, .data, .data, .widerDeep, .widerDeep, .widerDeep, .sentinel, .sentinel, .data, .pinned], laidTests := true, laidLooks := .later }
def PositionOfUptoCardSaid : Prop := Claim7.holds Tryz.pinned (.plain (OpenSpec.upto positionOfSpec)) positionOfUptoCard

/-- THE SECOND FORM's CARD OF 'caissalaw06.PositionHolds'. -/
def positionHoldsUptoCard : Claim7 := { stood := { row := positionHoldsUptoRow, standIns := [], harness := (true, "afd9a7f328a1d481f3df556b865a7f28ab1d75cf7bd565249a8dd5d4a467fc71"), looks := true }, kinds := [], alts := [], laidByText := true, laidKinds := [.data, .data, .data, .data, .data, .widerDeep, .widerDeep, .widerDeep, .sentinel, .sentinel, .data, .pinned], laidTests := true, laidLooks := .later }
def PositionHoldsUptoCardSaid : Prop := Claim7.holds Tryz.pinned (.plain (OpenSpec.upto positionHoldsSpec)) positionHoldsUptoCard

/-- THE SECOND FORM's CARD OF 'caissalaw06.PositionEqual'. -/
def positionEqualUptoCard : Claim7 := { stood := { row := positionEqualUptoRow, standIns := [], harness := (true, "afd9a7f328a1d481f3df556b865a7f28ab1d75cf7bd565249a8dd5d4a467fc71"), looks := true }, kinds := [], alts := [], laidByText := true, laidKinds := [.data, .data, .data, .data, .data, .widerDeep, .widerDeep, .widerDeep, .sentinel, .sentinel, .data, .pinned], laidTests := true, laidLooks := .later }
def PositionEqualUptoCardSaid : Prop := Claim7.holds Tryz.pinned (.plain (OpenSpec.upto positionEqualSpec)) positionEqualUptoCard

/-- THE SECOND FORM's CARD OF 'caissalaw29.StipulationValids'. -/
def stipulationValidsUptoCard : Claim7 := { stood := { row := stipulationValidsUptoRow, standIns := [], harness := (true, "afd9a7f328a1d481f3df556b865a7f28ab1d75cf7bd565249a8dd5d4a467fc71"), looks := true }, kinds := [], alts := [], laidByText := true, laidKinds := [.data, .data, .data, .data, .data, .widerDeep, .widerDeep, .widerDeep, .sentinel, .sentinel, .data, .pinned], laidTests := true, laidLooks := .later }
def StipulationValidsUptoCardSaid : Prop := Claim7.holds Tryz.pinned (.plain (OpenSpec.upto stipulationValidsSpec)) stipulationValidsUptoCard

/-- THE SECOND FORM's CARD OF 'caissalaw29.StipulationTexts'. -/
def stipulationTextsUptoCard : Claim7 := { stood := { row := stipulationTextsUptoRow, standIns := [], harness := (true, "afd9a7f328a1d481f3df556b865a7f28ab1d75cf7bd565249a8dd5d4a467fc71"), looks := true }, kinds := [], alts := [], laidByText := true, laidKinds := [.data, .data, .data, .data, .data, .widerDeep, .widerDeep, .widerDeep, .sentinel, .sentinel, .data, .pinned], laidTests := true, laidLooks := .later }
def StipulationTextsUptoCardSaid : Prop := Claim7.holds Tryz.pinned (.plain (OpenSpec.upto stipulationTextsSpec)) stipulationTextsUptoCard

/-- THE SECOND FORM's CARD OF 'caissalaw29.StipulationParses'. -/
def stipulationParsesUptoCard : Claim7 := { stood := { row := stipulationParsesUptoRow, standIns := [], harness := (true, "afd9a7f328a1d481f3df556b865a7f28ab1d75cf7bd565249a8dd5d4a467fc71"), looks := true }, kinds := [], alts := [], laidByText := true, laidKinds := [.data, .data, .data, .data, .data, .widerDeep, .widerDeep, .widerDeep, .sentinel, .sentinel, .data, .pinned], laidTests := true, laidLooks := .later }
def StipulationParsesUptoCardSaid : Prop := Claim7.holds Tryz.pinned (.plain (OpenSpec.upto stipulationParsesSpec)) stipulationParsesUptoCard

/-- THE SECOND FORM's CARD OF 'caissalaw29.StipulationPlies'. -/
def stipulationPliesUptoCard : Claim7 := { stood := { row := stipulationPliesUptoRow, standIns := [], harness := (true, "afd9a7f328a1d481f3df556b865a7f28ab1d75cf7bd565249a8dd5d4a467fc71"), looks := true }, kinds := [], alts := [], laidByText := true, laidKinds := [.data, .data, .data, .data, .data, .widerDeep, .widerDeep, .widerDeep, .sentinel, .sentinel, .data, .pinned], laidTests := true, laidLooks := .later }
def StipulationPliesUptoCardSaid : Prop := Claim7.holds Tryz.pinned (.plain (OpenSpec.upto stipulationPliesSpec)) stipulationPliesUptoCard

/-- THE SECOND FORM's CARD OF 'caissalaw29.StipulationUsuals'. -/
def stipulationUsualsUptoCard : Claim7 := { stood := { row := stipulationUsualsUptoRow, standIns := [], harness := (true, "afd9a7f328a1d481f3df556b865a7f28ab1d75cf7bd565249a8dd5d4a467fc71"), looks := true }, kinds := [], alts := [], laidByText := true, laidKinds := [.data, .data, .data, .data, .data, .widerDeep, .widerDeep, .widerDeep, .sentinel, .sentinel, .data, .pinned], laidTests := true, laidLooks := .later }
def StipulationUsualsUptoCardSaid : Prop := Claim7.holds Tryz.pinned (.plain (OpenSpec.upto stipulationUsualsSpec)) stipulationUsualsUptoCard

/-- THE SECOND FORM's CARD OF 'caissalaw29.StipulationNexts'. -/
def stipulationNextsUptoCard : Claim7 := { stood := { row := stipulationNextsUptoRow, standIns := [], harness := (true, "afd9a7f328a1d481f3df556b865a7f28ab1d75cf7bd565249a8dd5d4a467fc71"), looks := true }, kinds := [], alts := [], laidByText := true, laidKinds := [.data, .data, .data, .data, .data, .widerDeep, .widerDeep, .widerDeep, .sentinel, .sentinel, .data, .pinned], laidTests := true, laidLooks := .later }
def StipulationNextsUptoCardSaid : Prop := Claim7.holds Tryz.pinned (.plain (OpenSpec.upto stipulationNextsSpec)) stipulationNextsUptoCard

/-- THE SECOND FORM's CARD OF 'caissalaw29.StipulationHolds'. -/
def stipulationHoldsUptoCard : Claim7 := { stood := { row := stipulationHoldsUptoRow, standIns := [], harness := (true, "afd9a7f328a1d481f3df556b865a7f28ab1d75cf7bd565249a8dd5d4a467fc71"), looks := true }, kinds := [], alts := [], laidByText := true, laidKinds := [.data, .data, .data, .data, .data, .widerDeep, .widerDeep, .widerDeep, .sentinel, .sentinel, .data, .pinned], laidTests := true, laidLooks := .later }
def StipulationHoldsUptoCardSaid : Prop := Claim7.holds Tryz.pinned (.plain (OpenSpec.upto stipulationHoldsSpec)) stipulationHoldsUptoCard
end Rows
end Go.Proofs.YtbhienpbfidgjaaGreatDoor
