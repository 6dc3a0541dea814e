/-
  DERIVED. GIVEN WITH THE SEED: THE CARDS: each row of YtaifemkokfoadaaGreatDoorRows.lean that lists a variable, with what it lists TIED to the program's text (the seventh form; the later family's looks); each row that meets fmt, with fmt's text TOLD by the authors' own Lean function (tested against real Go, not proved from fmt's source: count such statements apart). THE CARD IS WHAT COUNTS. Prove the row's statement (the work); the ties are given (YtaifemkokfoadaaGreatDoorTie.lean); close each card by the builder's one call (the guide's Derived/Test/ToyasCard.lean, 'card_holds'). Laid BY PROGRAM, IN A SANDBOX (cutbox-door.mjs). By AI agents, Wed Nov 11 2026. No macro, syntax, notation, axiom, sorry.
-/
import Derived.Test.YtaifemkokfoadaaGreatDoorRows
import GoSem.ClaimSeven
namespace Go.Proofs.YtaifemkokfoadaaGreatDoor
namespace Rows

/-- THE TIED CARD OF 'frisketlaw07.FontGrows'. -/
def fontGrowsCard : Claim7 := { stood := { row := fontGrowsRow, standIns := [], harness := (true, "6ddb8766e40130a38551bf6624c057b29a9eb359b48b33ef66c4056b53609c86"), looks := true }, kinds := [], alts := [], laidByText := true, laidKinds := [.data, .data, .data, .data, .sentinel, .sentinel, .listed, .data, .pinned], laidTests := true, laidLooks := .later }
def FontGrowsCardSaid : Prop := Claim7.holds Tryz.pinned (.plain (OpenSpec.ofChange fontGrowsSpec)) fontGrowsCard

/-- THE TIED CARD OF 'frisketlaw07.FontStandard'. -/
def fontStandardCard : Claim7 := { stood := { row := fontStandardRow, standIns := [], harness := (true, "6ddb8766e40130a38551bf6624c057b29a9eb359b48b33ef66c4056b53609c86"), looks := true }, kinds := [], alts := [], laidByText := true, laidKinds := [.data, .data, .data, .data, .sentinel, .sentinel, .listed, .data, .pinned], laidTests := true, laidLooks := .later }
def FontStandardCardSaid : Prop := Claim7.holds Tryz.pinned (.plain (OpenSpec.ofChange fontStandardSpec)) fontStandardCard

/-- THE TIED CARD OF 'frisketlaw07.FontSame'. -/
def fontSameCard : Claim7 := { stood := { row := fontSameRow, standIns := [], harness := (true, "6ddb8766e40130a38551bf6624c057b29a9eb359b48b33ef66c4056b53609c86"), looks := true }, kinds := [], alts := [], laidByText := true, laidKinds := [.data, .data, .data, .data, .sentinel, .sentinel, .listed, .data, .pinned], laidTests := true, laidLooks := .later }
def FontSameCardSaid : Prop := Claim7.holds Tryz.pinned (.plain (OpenSpec.ofChange fontSameSpec)) fontSameCard

/-- THE TIED CARD OF 'frisketlaw07.FontRaw'. -/
def fontRawCard : Claim7 := { stood := { row := fontRawRow, standIns := [], harness := (true, "6ddb8766e40130a38551bf6624c057b29a9eb359b48b33ef66c4056b53609c86"), looks := true }, kinds := [], alts := [], laidByText := true, laidKinds := [.data, .data, .data, .data, .sentinel, .sentinel, .listed, .data, .pinned], laidTests := true, laidLooks := .later }
def FontRawCardSaid : Prop := Claim7.holds Tryz.pinned (.plain (OpenSpec.ofChange fontRawSpec)) fontRawCard

/-- THE TIED CARD OF 'frisketlaw07.FontAsks'. -/
def fontAsksCard : Claim7 := { stood := { row := fontAsksRow, standIns := [], harness := (true, "6ddb8766e40130a38551bf6624c057b29a9eb359b48b33ef66c4056b53609c86"), looks := true }, kinds := [], alts := [], laidByText := true, laidKinds := [.data, .data, .data, .data, .sentinel, .sentinel, .listed, .data, .pinned], laidTests := true, laidLooks := .later }
def FontAsksCardSaid : Prop := Claim7.holds Tryz.pinned (.plain (OpenSpec.ofChange fontAsksSpec)) fontAsksCard

/-- THE TIED CARD OF 'frisketlaw07.FontParses'. -/
def fontParsesCard : Claim7 := { stood := { row := fontParsesRow, standIns := [], harness := (true, "6ddb8766e40130a38551bf6624c057b29a9eb359b48b33ef66c4056b53609c86"), looks := true }, kinds := [], alts := [], laidByText := true, laidKinds := [.data, .data, .data, .data, .sentinel, .sentinel, .listed, .data, .pinned], laidTests := true, laidLooks := .later }
def FontParsesCardSaid : Prop := Claim7.holds Tryz.pinned (.plain (OpenSpec.ofChange fontParsesSpec)) fontParsesCard

/-- THE TIED CARD OF 'frisketlaw07.FontBack'. -/
def fontBackCard : Claim7 := { stood := { row := fontBackRow, standIns := [], harness := (true, "6ddb8766e40130a38551bf6624c057b29a9eb359b48b33ef66c4056b53609c86"), looks := true }, kinds := [], alts := [], laidByText := true, laidKinds := [.data, .data, .data, .data, .sentinel, .sentinel, .listed, .data, .pinned], laidTests := true, laidLooks := .later }
def FontBackCardSaid : Prop := Claim7.holds Tryz.pinned (.plain (OpenSpec.ofChange fontBackSpec)) fontBackCard

/-- THE SECOND FORM's CARD OF 'frisketlaw07.FontGrows'. -/
def fontGrowsUptoCard : Claim7 := { stood := { row := fontGrowsUptoRow, standIns := [], harness := (true, "6ddb8766e40130a38551bf6624c057b29a9eb359b48b33ef66c4056b53609c86"), looks := true }, kinds := [], alts := [], laidByText := true, laidKinds := [.data, .data, .data, .data, .sentinel, .sentinel, .listed, .data, .pinned], laidTests := true, laidLooks := .later }
def FontGrowsUptoCardSaid : Prop := Claim7.holds Tryz.pinned (.plain (OpenSpec.upto fontGrowsSpec)) fontGrowsUptoCard

/-- THE SECOND FORM's CARD OF 'frisketlaw07.FontStandard'. -/
def fontStandardUptoCard : Claim7 := { stood := { row := fontStandardUptoRow, standIns := [], harness := (true, "6ddb8766e40130a38551bf6624c057b29a9eb359b48b33ef66c4056b53609c86"), looks := true }, kinds := [], alts := [], laidByText := true, laidKinds := [.data, .data, .data, .data, .sentinel, .sentinel, .listed, .data, .pinned], laidTests := true, laidLooks := .later }
def FontStandardUptoCardSaid : Prop := Claim7.holds Tryz.pinned (.plain (OpenSpec.upto fontStandardSpec)) fontStandardUptoCard

/-- THE SECOND FORM's CARD OF 'frisketlaw07.FontSame'. -/
def fontSameUptoCard : Claim7 := { stood := { row := fontSameUptoRow, standIns := [], harness := (true, "6ddb8766e40130a38551bf6624c057b29a9eb359b48b33ef66c4056b53609c86"), looks := true }, kinds := [], alts := [], laidByText := true, laidKinds := [.data, .data, .data, .data, .sentinel, .sentinel, .listed, .data, .pinned], laidTests := true, laidLooks := .later }
def FontSameUptoCardSaid : Prop := Claim7.holds Tryz.pinned (.plain (OpenSpec.upto fontSameSpec)) fontSameUptoCard

/-- THE SECOND FORM's CARD OF 'frisketlaw07.FontRaw'. -/
def fontRawUptoCard : Claim7 := { stood := { row := fontRawUptoRow, standIns := [], harness := (true, "6ddb8766e40130a38551bf6624c057b29a9eb359b48b33ef66c4056b53609c86"), looks := true }, kinds := [], alts := [], laidByText := true, laidKinds := [.data, .data, .data, .data, .sentinel, .sentinel, .listed, .data, .pinned], laidTests := true, laidLooks := .later }
def FontRawUptoCardSaid : Prop := Claim7.holds Tryz.pinned (.plain (OpenSpec.upto fontRawSpec)) fontRawUptoCard

/-- THE SECOND FORM's CARD OF 'frisketlaw07.FontAsks'. -/
def fontAsksUptoCard : Claim7 := { stood := { row := fontAsksUptoRow, standIns := [], harness := (true, "6ddb8766e40130a38551bf6624c057b29a9eb359b48b33ef66c4056b53609c86"), looks := true }, kinds := [], alts := [], laidByText := true, laidKinds := [.data, .data, .data, .data, .sentinel, .sentinel, .listed, .data, .pinned], laidTests := true, laidLooks := .later }
def FontAsksUptoCardSaid : Prop := Claim7.holds Tryz.pinned (.plain (OpenSpec.upto fontAsksSpec)) fontAsksUptoCard

/-- THE SECOND FORM's CARD OF 'frisketlaw07.FontParses'. -/
def fontParsesUptoCard : Claim7 := { stood := { row := fontParsesUptoRow, standIns := [], harness := (true, "6ddb8766e40130a38551bf6624c057b29a9eb359b48b33ef66c4056b53609c86"), looks := true }, kinds := [], alts := [], laidByText := true, laidKinds := [.data, .data, .data, .data, .sentinel, .sentinel, .listed, .data, .pinned], laidTests := true, laidLooks := .later }
def FontParsesUptoCardSaid : Prop := Claim7.holds Tryz.pinned (.plain (OpenSpec.upto fontParsesSpec)) fontParsesUptoCard

/-- THE SECOND FORM's CARD OF 'frisketlaw07.FontBack'. -/
def fontBackUptoCard : Claim7 := { stood := { row := fontBackUptoRow, standIns := [], harness := (true, "6ddb8766e40130a38551bf6624c057b29a9eb359b48b33ef66c4056b53609c86"), looks := true }, kinds := [], alts := [], laidByText := true, laidKinds := [.data, .data, .data, .data, .sentinel, .sentinel, .listed, .data, .pinned], laidTests := true, laidLooks := .later }
def FontBackUptoCardSaid : Prop := Claim7.holds Tryz.pinned (.plain (OpenSpec.upto fontBackSpec)) fontBackUptoCard
end Rows
end Go.Proofs.YtaifemkokfoadaaGreatDoor
