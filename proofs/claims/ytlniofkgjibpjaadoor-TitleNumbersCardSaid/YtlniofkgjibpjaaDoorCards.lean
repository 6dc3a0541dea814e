/-
  DERIVED. GIVEN WITH THE SEED: THE CARDS: each row of YtlniofkgjibpjaaDoorRows.lean that lists a variable, with what it lists TIED to the program's text (the seventh form; the later family's looks); each row that meets fmt, with fmt's text TOLD by the authors' own Lean function (tested against real Go, not proved from fmt's source: count such statements apart). THE CARD IS WHAT COUNTS. Prove the row's statement (the work); the ties are given (YtlniofkgjibpjaaDoorTie.lean); close each card by the builder's one call (the guide's Derived/Test/ToyasCard.lean, 'card_holds'). Laid BY PROGRAM, IN A SANDBOX (cutbox-door.mjs). By AI agents, Wed Nov 11 2026. No macro, syntax, notation, axiom, sorry.
-/
import Derived.Test.YtlniofkgjibpjaaDoorRows
import GoSem.ClaimSeven
namespace Go.Proofs.YtlniofkgjibpjaaDoor
namespace Rows

/-- THE TIED CARD OF 'frisketlaw13.TitleParts'. -/
def titlePartsCard : Claim7 := { stood := { row := titlePartsRow, standIns := [], harness := (true, "2a6a94bf736a18bee46b5e712b93237359740c5daa196ed17d43cd7b983f26c1"), looks := false }, kinds := [], alts := [], laidByText := true, laidKinds := [.data, .pinned], laidTests := true, laidLooks := .later }
def TitlePartsCardSaid : Prop := Claim7.holds Tryd.pinned (.plain (OpenSpec.ofChange titlePartsSpec)) titlePartsCard

/-- THE TIED CARD OF 'frisketlaw13.TitlePlaces'. -/
def titlePlacesCard : Claim7 := { stood := { row := titlePlacesRow, standIns := [], harness := (true, "2a6a94bf736a18bee46b5e712b93237359740c5daa196ed17d43cd7b983f26c1"), looks := false }, kinds := [], alts := [], laidByText := true, laidKinds := [.data, .pinned], laidTests := true, laidLooks := .later }
def TitlePlacesCardSaid : Prop := Claim7.holds Tryd.pinned (.plain (OpenSpec.ofChange titlePlacesSpec)) titlePlacesCard

/-- THE TIED CARD OF 'frisketlaw13.TitleMiddle'. -/
def titleMiddleCard : Claim7 := { stood := { row := titleMiddleRow, standIns := [], harness := (true, "2a6a94bf736a18bee46b5e712b93237359740c5daa196ed17d43cd7b983f26c1"), looks := false }, kinds := [], alts := [], laidByText := true, laidKinds := [.data, .pinned], laidTests := true, laidLooks := .later }
def TitleMiddleCardSaid : Prop := Claim7.holds Tryd.pinned (.plain (OpenSpec.ofChange titleMiddleSpec)) titleMiddleCard

/-- THE TIED CARD OF 'frisketlaw13.TitleBack'. -/
def titleBackCard : Claim7 := { stood := { row := titleBackRow, standIns := [], harness := (true, "2a6a94bf736a18bee46b5e712b93237359740c5daa196ed17d43cd7b983f26c1"), looks := false }, kinds := [], alts := [], laidByText := true, laidKinds := [.data, .pinned], laidTests := true, laidLooks := .later }
def TitleBackCardSaid : Prop := Claim7.holds Tryd.pinned (.plain (OpenSpec.ofChange titleBackSpec)) titleBackCard

/-- THE TIED CARD OF 'frisketlaw13.TitleChars'. -/
def titleCharsCard : Claim7 := { stood := { row := titleCharsRow, standIns := [], harness := (true, "2a6a94bf736a18bee46b5e712b93237359740c5daa196ed17d43cd7b983f26c1"), looks := false }, kinds := [], alts := [], laidByText := true, laidKinds := [.data, .data, .data, .data, .pinned], laidTests := true, laidLooks := .later }
def TitleCharsCardSaid : Prop := Claim7.holds Tryd.pinned (.plain (OpenSpec.ofChange titleCharsSpec)) titleCharsCard

/-- THE TIED CARD OF 'frisketlaw13.TitleNumbers'. -/
def titleNumbersCard : Claim7 := { stood := { row := titleNumbersRow, standIns := [], harness := (true, "2a6a94bf736a18bee46b5e712b93237359740c5daa196ed17d43cd7b983f26c1"), looks := false }, kinds := [], alts := [], laidByText := true, laidKinds := [.data, .data, .data, .data, .pinned, .pinned], laidTests := true, laidLooks := .later }
def TitleNumbersCardSaid : Prop := Claim7.holds Tryd.pinned (.plain (OpenSpec.ofChange titleNumbersSpec)) titleNumbersCard

/-- THE SECOND FORM's CARD OF 'frisketlaw13.TitleParts'. -/
def titlePartsUptoCard : Claim7 := { stood := { row := titlePartsUptoRow, standIns := [], harness := (true, "2a6a94bf736a18bee46b5e712b93237359740c5daa196ed17d43cd7b983f26c1"), looks := false }, kinds := [], alts := [], laidByText := true, laidKinds := [.data, .pinned], laidTests := true, laidLooks := .later }
def TitlePartsUptoCardSaid : Prop := Claim7.holds Tryd.pinned (.plain (OpenSpec.upto titlePartsSpec)) titlePartsUptoCard

/-- THE SECOND FORM's CARD OF 'frisketlaw13.TitlePlaces'. -/
def titlePlacesUptoCard : Claim7 := { stood := { row := titlePlacesUptoRow, standIns := [], harness := (true, "2a6a94bf736a18bee46b5e712b93237359740c5daa196ed17d43cd7b983f26c1"), looks := false }, kinds := [], alts := [], laidByText := true, laidKinds := [.data, .pinned], laidTests := true, laidLooks := .later }
def TitlePlacesUptoCardSaid : Prop := Claim7.holds Tryd.pinned (.plain (OpenSpec.upto titlePlacesSpec)) titlePlacesUptoCard

/-- THE SECOND FORM's CARD OF 'frisketlaw13.TitleMiddle'. -/
def titleMiddleUptoCard : Claim7 := { stood := { row := titleMiddleUptoRow, standIns := [], harness := (true, "2a6a94bf736a18bee46b5e712b93237359740c5daa196ed17d43cd7b983f26c1"), looks := false }, kinds := [], alts := [], laidByText := true, laidKinds := [.data, .pinned], laidTests := true, laidLooks := .later }
def TitleMiddleUptoCardSaid : Prop := Claim7.holds Tryd.pinned (.plain (OpenSpec.upto titleMiddleSpec)) titleMiddleUptoCard

/-- THE SECOND FORM's CARD OF 'frisketlaw13.TitleBack'. -/
def titleBackUptoCard : Claim7 := { stood := { row := titleBackUptoRow, standIns := [], harness := (true, "2a6a94bf736a18bee46b5e712b93237359740c5daa196ed17d43cd7b983f26c1"), looks := false }, kinds := [], alts := [], laidByText := true, laidKinds := [.data, .pinned], laidTests := true, laidLooks := .later }
def TitleBackUptoCardSaid : Prop := Claim7.holds Tryd.pinned (.plain (OpenSpec.upto titleBackSpec)) titleBackUptoCard

/-- THE SECOND FORM's CARD OF 'frisketlaw13.TitleChars'. -/
def titleCharsUptoCard : Claim7 := { stood := { row := titleCharsUptoRow, standIns := [], harness := (true, "2a6a94bf736a18bee46b5e712b93237359740c5daa196ed17d43cd7b983f26c1"), looks := false }, kinds := [], alts := [], laidByText := true, laidKinds := [.data, .data, .data, .data, .pinned], laidTests := true, laidLooks := .later }
def TitleCharsUptoCardSaid : Prop := Claim7.holds Tryd.pinned (.plain (OpenSpec.upto titleCharsSpec)) titleCharsUptoCard

/-- THE SECOND FORM's CARD OF 'frisketlaw13.TitleNumbers'. -/
def titleNumbersUptoCard : Claim7 := { stood := { row := titleNumbersUptoRow, standIns := [], harness := (true, "2a6a94bf736a18bee46b5e712b93237359740c5daa196ed17d43cd7b983f26c1"), looks := false }, kinds := [], alts := [], laidByText := true, laidKinds := [.data, .data, .data, .data, .pinned, .pinned], laidTests := true, laidLooks := .later }
def TitleNumbersUptoCardSaid : Prop := Claim7.holds Tryd.pinned (.plain (OpenSpec.upto titleNumbersSpec)) titleNumbersUptoCard
end Rows
end Go.Proofs.YtlniofkgjibpjaaDoor
