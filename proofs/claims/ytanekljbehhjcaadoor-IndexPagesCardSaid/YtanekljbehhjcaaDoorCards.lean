/-
  DERIVED. GIVEN WITH THE SEED: THE CARDS: each row of YtanekljbehhjcaaDoorRows.lean that lists a variable, with what it lists TIED to the program's text (the seventh form; the later family's looks); each row that meets fmt, with fmt's text TOLD by the authors' own Lean function (tested against real Go, not proved from fmt's source: count such statements apart). THE CARD IS WHAT COUNTS. Prove the row's statement (the work); the ties are given (YtanekljbehhjcaaDoorTie.lean); close each card by the builder's one call (the guide's Derived/Test/ToyasCard.lean, 'card_holds'). Laid BY PROGRAM, IN A SANDBOX (cutbox-door.mjs). By AI agents, Wed Nov 11 2026. No macro, syntax, notation, axiom, sorry.
-/
import Derived.Test.YtanekljbehhjcaaDoorRows
import GoSem.ClaimSeven
namespace Go.Proofs.YtanekljbehhjcaaDoor
namespace Rows

/-- THE TIED CARD OF 'frisketlaw27.IndexNotes'. -/
def indexNotesCard : Claim7 := { stood := { row := indexNotesRow, standIns := [], harness := (true, "548ba8ba2ba03d4073c183186b95566d48a0e1b734bf7ecad52939f691cdae72"), looks := true }, kinds := [], alts := [], laidByText := true, laidKinds := [.data, .data, .data, .sentinel, .sentinel], laidTests := true, laidLooks := .later }
def IndexNotesCardSaid : Prop := Claim7.holds Tryd.pinned (.plain (OpenSpec.ofChange indexNotesSpec)) indexNotesCard

/-- THE TIED CARD OF 'frisketlaw27.IndexPages'. -/
def indexPagesCard : Claim7 := { stood := { row := indexPagesRow, standIns := [], harness := (true, "548ba8ba2ba03d4073c183186b95566d48a0e1b734bf7ecad52939f691cdae72"), looks := true }, kinds := [], alts := [], laidByText := true, laidKinds := [.data, .data, .data, .data, .sentinel, .sentinel, .pinned], laidTests := true, laidLooks := .later }
def IndexPagesCardSaid : Prop := Claim7.holds Tryd.pinned (.plain (OpenSpec.ofChange indexPagesSpec)) indexPagesCard

/-- THE TIED CARD OF 'frisketlaw27.IndexSpreads'. -/
def indexSpreadsCard : Claim7 := { stood := { row := indexSpreadsRow, standIns := [], harness := (true, "548ba8ba2ba03d4073c183186b95566d48a0e1b734bf7ecad52939f691cdae72"), looks := true }, kinds := [], alts := [], laidByText := true, laidKinds := [.data, .data, .data, .data, .sentinel, .sentinel, .pinned], laidTests := true, laidLooks := .later }
def IndexSpreadsCardSaid : Prop := Claim7.holds Tryd.pinned (.plain (OpenSpec.ofChange indexSpreadsSpec)) indexSpreadsCard

/-- THE SECOND FORM's CARD OF 'frisketlaw27.IndexNotes'. -/
def indexNotesUptoCard : Claim7 := { stood := { row := indexNotesUptoRow, standIns := [], harness := (true, "548ba8ba2ba03d4073c183186b95566d48a0e1b734bf7ecad52939f691cdae72"), looks := true }, kinds := [], alts := [], laidByText := true, laidKinds := [.data, .data, .data, .sentinel, .sentinel], laidTests := true, laidLooks := .later }
def IndexNotesUptoCardSaid : Prop := Claim7.holds Tryd.pinned (.plain (OpenSpec.upto indexNotesSpec)) indexNotesUptoCard

/-- THE SECOND FORM's CARD OF 'frisketlaw27.IndexPages'. -/
def indexPagesUptoCard : Claim7 := { stood := { row := indexPagesUptoRow, standIns := [], harness := (true, "548ba8ba2ba03d4073c183186b95566d48a0e1b734bf7ecad52939f691cdae72"), looks := true }, kinds := [], alts := [], laidByText := true, laidKinds := [.data, .data, .data, .data, .sentinel, .sentinel, .pinned], laidTests := true, laidLooks := .later }
def IndexPagesUptoCardSaid : Prop := Claim7.holds Tryd.pinned (.plain (OpenSpec.upto indexPagesSpec)) indexPagesUptoCard

/-- THE SECOND FORM's CARD OF 'frisketlaw27.IndexSpreads'. -/
def indexSpreadsUptoCard : Claim7 := { stood := { row := indexSpreadsUptoRow, standIns := [], harness := (true, "548ba8ba2ba03d4073c183186b95566d48a0e1b734bf7ecad52939f691cdae72"), looks := true }, kinds := [], alts := [], laidByText := true, laidKinds := [.data, .data, .data, .data, .sentinel, .sentinel, .pinned], laidTests := true, laidLooks := .later }
def IndexSpreadsUptoCardSaid : Prop := Claim7.holds Tryd.pinned (.plain (OpenSpec.upto indexSpreadsSpec)) indexSpreadsUptoCard
end Rows
end Go.Proofs.YtanekljbehhjcaaDoor
