/-
  DERIVED. GIVEN WITH THE SEED: THE CARDS: each row of YtajbpjojockgoaaDoorRows.lean that lists a variable, with what it lists TIED to the program's text (the seventh form; the later family's looks); each row that meets fmt, with fmt's text TOLD by the authors' own Lean function (tested against real Go, not proved from fmt's source: count such statements apart). THE CARD IS WHAT COUNTS. Prove the row's statement (the work); the ties are given (YtajbpjojockgoaaDoorTie.lean); close each card by the builder's one call (the guide's Derived/Test/ToyasCard.lean, 'card_holds'). Laid BY PROGRAM, IN A SANDBOX (cutbox-door.mjs). By AI agents, Wed Nov 11 2026. No macro, syntax, notation, axiom, sorry.
-/
import Derived.Test.YtajbpjojockgoaaDoorRows
import GoSem.ClaimSeven
namespace Go.Proofs.YtajbpjojockgoaaDoor
namespace Rows

/-- THE TIED CARD OF 'frisketlaw02.RegisterLetters'. -/
def registerLettersCard : Claim7 := { stood := { row := registerLettersRow, standIns := [], harness := (true, "cbf5952a75bc60d891f78b928fafd6376799bcb3fd01929fc3ebca1698fe3712"), looks := false }, kinds := [], alts := [], laidByText := true, laidKinds := [.data, .data, .data, .data, .pinned, .pinned], laidTests := true, laidLooks := .later }
def RegisterLettersCardSaid : Prop := Claim7.holds Tryd.pinned (.plain (OpenSpec.ofChange registerLettersSpec)) registerLettersCard

/-- THE TIED CARD OF 'frisketlaw02.RegisterWrites'. -/
def registerWritesCard : Claim7 := { stood := { row := registerWritesRow, standIns := [], harness := (true, "cbf5952a75bc60d891f78b928fafd6376799bcb3fd01929fc3ebca1698fe3712"), looks := false }, kinds := [], alts := [], laidByText := true, laidKinds := [.data, .data, .data, .data, .pinned, .pinned], laidTests := true, laidLooks := .later }
def RegisterWritesCardSaid : Prop := Claim7.holds Tryd.pinned (.plain (OpenSpec.ofChange registerWritesSpec)) registerWritesCard

/-- THE TIED CARD OF 'frisketlaw02.RegisterRoman'. -/
def registerRomanCard : Claim7 := { stood := { row := registerRomanRow, standIns := [], harness := (true, "cbf5952a75bc60d891f78b928fafd6376799bcb3fd01929fc3ebca1698fe3712"), looks := false }, kinds := [], alts := [], laidByText := true, laidKinds := [.data, .data, .data, .data, .pinned, .pinned], laidTests := true, laidLooks := .later }
def RegisterRomanCardSaid : Prop := Claim7.holds Tryd.pinned (.plain (OpenSpec.ofChange registerRomanSpec)) registerRomanCard

/-- THE SECOND FORM's CARD OF 'frisketlaw02.RegisterLetters'. -/
def registerLettersUptoCard : Claim7 := { stood := { row := registerLettersUptoRow, standIns := [], harness := (true, "cbf5952a75bc60d891f78b928fafd6376799bcb3fd01929fc3ebca1698fe3712"), looks := false }, kinds := [], alts := [], laidByText := true, laidKinds := [.data, .data, .data, .data, .pinned, .pinned], laidTests := true, laidLooks := .later }
def RegisterLettersUptoCardSaid : Prop := Claim7.holds Tryd.pinned (.plain (OpenSpec.upto registerLettersSpec)) registerLettersUptoCard

/-- THE SECOND FORM's CARD OF 'frisketlaw02.RegisterWrites'. -/
def registerWritesUptoCard : Claim7 := { stood := { row := registerWritesUptoRow, standIns := [], harness := (true, "cbf5952a75bc60d891f78b928fafd6376799bcb3fd01929fc3ebca1698fe3712"), looks := false }, kinds := [], alts := [], laidByText := true, laidKinds := [.data, .data, .data, .data, .pinned, .pinned], laidTests := true, laidLooks := .later }
def RegisterWritesUptoCardSaid : Prop := Claim7.holds Tryd.pinned (.plain (OpenSpec.upto registerWritesSpec)) registerWritesUptoCard

/-- THE SECOND FORM's CARD OF 'frisketlaw02.RegisterRoman'. -/
def registerRomanUptoCard : Claim7 := { stood := { row := registerRomanUptoRow, standIns := [], harness := (true, "cbf5952a75bc60d891f78b928fafd6376799bcb3fd01929fc3ebca1698fe3712"), looks := false }, kinds := [], alts := [], laidByText := true, laidKinds := [.data, .data, .data, .data, .pinned, .pinned], laidTests := true, laidLooks := .later }
def RegisterRomanUptoCardSaid : Prop := Claim7.holds Tryd.pinned (.plain (OpenSpec.upto registerRomanSpec)) registerRomanUptoCard
end Rows
end Go.Proofs.YtajbpjojockgoaaDoor
