/-
  DERIVED. GIVEN WITH THE SEED: THE CARDS: each row of YtggifbbiiickmaaGreatDoorRows.lean that lists a variable, with what it lists TIED to the program's text (the seventh form; the later family's looks); each row that meets fmt, with fmt's text TOLD by the authors' own Lean function (tested against real Go, not proved from fmt's source: count such statements apart). THE CARD IS WHAT COUNTS. Prove the row's statement (the work); the ties are given (YtggifbbiiickmaaGreatDoorTie.lean); close each card by the builder's one call (the guide's Derived/Test/ToyasCard.lean, 'card_holds'). Laid BY PROGRAM, IN A SANDBOX (cutbox-door.mjs). By AI agents, Wed Nov 11 2026. No macro, syntax, notation, axiom, sorry.
-/
import Derived.Test.YtggifbbiiickmaaGreatDoorRows
import GoSem.ClaimSeven
namespace Go.Proofs.YtggifbbiiickmaaGreatDoor
namespace Rows

/-- THE TIED CARD OF 'frisketlaw08.GlyphBoxes'. -/
def glyphBoxesCard : Claim7 := { stood := { row := glyphBoxesRow, standIns := [], harness := (true, "cc336b560cdcfa937047064353d746ac4b4848303162e16556e3f198854a1200"), looks := true }, kinds := [], alts := [], laidByText := true, laidKinds := [.data, .data, .data, .data, .sentinel, .sentinel, .listed, .data, .pinned], laidTests := true, laidLooks := .later }
def GlyphBoxesCardSaid : Prop := Claim7.holds Tryz.pinned (.plain (OpenSpec.ofChange glyphBoxesSpec)) glyphBoxesCard

/-- THE TIED CARD OF 'frisketlaw08.GlyphTexts'. -/
def glyphTextsCard : Claim7 := { stood := { row := glyphTextsRow, standIns := [], harness := (true, "cc336b560cdcfa937047064353d746ac4b4848303162e16556e3f198854a1200"), looks := true }, kinds := [], alts := [], laidByText := true, laidKinds := [.data, .data, .data, .data, .sentinel, .sentinel, .listed, .data, .pinned], laidTests := true, laidLooks := .later }
def GlyphTextsCardSaid : Prop := Claim7.holds Tryz.pinned (.plain (OpenSpec.ofChange glyphTextsSpec)) glyphTextsCard

/-- THE TIED CARD OF 'frisketlaw08.GlyphRows'. -/
def glyphRowsCard : Claim7 := { stood := { row := glyphRowsRow, standIns := [], harness := (true, "cc336b560cdcfa937047064353d746ac4b4848303162e16556e3f198854a1200"), looks := true }, kinds := [], alts := [], laidByText := true, laidKinds := [.data, .data, .data, .data, .sentinel, .sentinel, .listed, .data, .pinned], laidTests := true, laidLooks := .later }
def GlyphRowsCardSaid : Prop := Claim7.holds Tryz.pinned (.plain (OpenSpec.ofChange glyphRowsSpec)) glyphRowsCard

/-- THE TIED CARD OF 'frisketlaw08.GlyphSums'. -/
def glyphSumsCard : Claim7 := { stood := { row := glyphSumsRow, standIns := [], harness := (true, "cc336b560cdcfa937047064353d746ac4b4848303162e16556e3f198854a1200"), looks := true }, kinds := [], alts := [], laidByText := true, laidKinds := [.data, .data, .data, .data, .sentinel, .sentinel, .listed, .data, .pinned], laidTests := true, laidLooks := .later }
def GlyphSumsCardSaid : Prop := Claim7.holds Tryz.pinned (.plain (OpenSpec.ofChange glyphSumsSpec)) glyphSumsCard

/-- THE TIED CARD OF 'frisketlaw08.GlyphShifts'. -/
def glyphShiftsCard : Claim7 := { stood := { row := glyphShiftsRow, standIns := [], harness := (true, "cc336b560cdcfa937047064353d746ac4b4848303162e16556e3f198854a1200"), looks := true }, kinds := [], alts := [], laidByText := true, laidKinds := [.data, .data, .data, .data, .sentinel, .sentinel, .listed, .data, .pinned], laidTests := true, laidLooks := .later }
def GlyphShiftsCardSaid : Prop := Claim7.holds Tryz.pinned (.plain (OpenSpec.ofChange glyphShiftsSpec)) glyphShiftsCard

/-- THE TIED CARD OF 'frisketlaw08.GlyphMoves'. -/
def glyphMovesCard : Claim7 := { stood := { row := glyphMovesRow, standIns := [], harness := (true, "cc336b560cdcfa937047064353d746ac4b4848303162e16556e3f198854a1200"), looks := true }, kinds := [], alts := [], laidByText := true, laidKinds := [.data, .data, .data, .data, .sentinel, .sentinel, .listed, .data, .pinned], laidTests := true, laidLooks := .later }
def GlyphMovesCardSaid : Prop := Claim7.holds Tryz.pinned (.plain (OpenSpec.ofChange glyphMovesSpec)) glyphMovesCard

/-- THE TIED CARD OF 'frisketlaw08.GlyphWidths'. -/
def glyphWidthsCard : Claim7 := { stood := { row := glyphWidthsRow, standIns := [], harness := (true, "cc336b560cdcfa937047064353d746ac4b4848303162e16556e3f198854a1200"), looks := true }, kinds := [], alts := [], laidByText := true, laidKinds := [.data, .data, .data, .data, .sentinel, .sentinel, .listed, .data, .pinned], laidTests := true, laidLooks := .later }
def GlyphWidthsCardSaid : Prop := Claim7.holds Tryz.pinned (.plain (OpenSpec.ofChange glyphWidthsSpec)) glyphWidthsCard

/-- THE SECOND FORM's CARD OF 'frisketlaw08.GlyphBoxes'. -/
def glyphBoxesUptoCard : Claim7 := { stood := { row := glyphBoxesUptoRow, standIns := [], harness := (true, "cc336b560cdcfa937047064353d746ac4b4848303162e16556e3f198854a1200"), looks := true }, kinds := [], alts := [], laidByText := true, laidKinds := [.data, .data, .data, .data, .sentinel, .sentinel, .listed, .data, .pinned], laidTests := true, laidLooks := .later }
def GlyphBoxesUptoCardSaid : Prop := Claim7.holds Tryz.pinned (.plain (OpenSpec.upto glyphBoxesSpec)) glyphBoxesUptoCard

/-- THE SECOND FORM's CARD OF 'frisketlaw08.GlyphTexts'. -/
def glyphTextsUptoCard : Claim7 := { stood := { row := glyphTextsUptoRow, standIns := [], harness := (true, "cc336b560cdcfa937047064353d746ac4b4848303162e16556e3f198854a1200"), looks := true }, kinds := [], alts := [], laidByText := true, laidKinds := [.data, .data, .data, .data, .sentinel, .sentinel, .listed, .data, .pinned], laidTests := true, laidLooks := .later }
def GlyphTextsUptoCardSaid : Prop := Claim7.holds Tryz.pinned (.plain (OpenSpec.upto glyphTextsSpec)) glyphTextsUptoCard

/-- THE SECOND FORM's CARD OF 'frisketlaw08.GlyphRows'. -/
def glyphRowsUptoCard : Claim7 := { stood := { row := glyphRowsUptoRow, standIns := [], harness := (true, "cc336b560cdcfa937047064353d746ac4b4848303162e16556e3f198854a1200"), looks := true }, kinds := [], alts := [], laidByText := true, laidKinds := [.data, .data, .data, .data, .sentinel, .sentinel, .listed, .data, .pinned], laidTests := true, laidLooks := .later }
def GlyphRowsUptoCardSaid : Prop := Claim7.holds Tryz.pinned (.plain (OpenSpec.upto glyphRowsSpec)) glyphRowsUptoCard

/-- THE SECOND FORM's CARD OF 'frisketlaw08.GlyphSums'. -/
def glyphSumsUptoCard : Claim7 := { stood := { row := glyphSumsUptoRow, standIns := [], harness := (true, "cc336b560cdcfa937047064353d746ac4b4848303162e16556e3f198854a1200"), looks := true }, kinds := [], alts := [], laidByText := true, laidKinds := [.data, .data, .data, .data, .sentinel, .sentinel, .listed, .data, .pinned], laidTests := true, laidLooks := .later }
def GlyphSumsUptoCardSaid : Prop := Claim7.holds Tryz.pinned (.plain (OpenSpec.upto glyphSumsSpec)) glyphSumsUptoCard

/-- THE SECOND FORM's CARD OF 'frisketlaw08.GlyphShifts'. -/
def glyphShiftsUptoCard : Claim7 := { stood := { row := glyphShiftsUptoRow, standIns := [], harness := (true, "cc336b560cdcfa937047064353d746ac4b4848303162e16556e3f198854a1200"), looks := true }, kinds := [], alts := [], laidByText := true, laidKinds := [.data, .data, .data, .data, .sentinel, .sentinel, .listed, .data, .pinned], laidTests := true, laidLooks := .later }
def GlyphShiftsUptoCardSaid : Prop := Claim7.holds Tryz.pinned (.plain (OpenSpec.upto glyphShiftsSpec)) glyphShiftsUptoCard

/-- THE SECOND FORM's CARD OF 'frisketlaw08.GlyphMoves'. -/
def glyphMovesUptoCard : Claim7 := { stood := { row := glyphMovesUptoRow, standIns := [], harness := (true, "cc336b560cdcfa937047064353d746ac4b4848303162e16556e3f198854a1200"), looks := true }, kinds := [], alts := [], laidByText := true, laidKinds := [.data, .data, .data, .data, .sentinel, .sentinel, .listed, .data, .pinned], laidTests := true, laidLooks := .later }
def GlyphMovesUptoCardSaid : Prop := Claim7.holds Tryz.pinned (.plain (OpenSpec.upto glyphMovesSpec)) glyphMovesUptoCard

/-- THE SECOND FORM's CARD OF 'frisketlaw08.GlyphWidths'. -/
def glyphWidthsUptoCard : Claim7 := { stood := { row := glyphWidthsUptoRow, standIns := [], harness := (true, "cc336b560cdcfa937047064353d746ac4b4848303162e16556e3f198854a1200"), looks := true }, kinds := [], alts := [], laidByText := true, laidKinds := [.data, .data, .data, .data, .sentinel, .sentinel, .listed, .data, .pinned], laidTests := true, laidLooks := .later }
def GlyphWidthsUptoCardSaid : Prop := Claim7.holds Tryz.pinned (.plain (OpenSpec.upto glyphWidthsSpec)) glyphWidthsUptoCard
end Rows
end Go.Proofs.YtggifbbiiickmaaGreatDoor
