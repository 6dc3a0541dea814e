/-
  DERIVED. GIVEN WITH THE SEED: THE CARDS: each row of YtajbpjojockgoaaGreatDoorRows.lean that lists a variable, with what it lists TIED to the program's text (the seventh form; the later family's looks); each row that meets fmt, with fmt's text TOLD by the authors' own Lean function (tested against real Go, not proved from fmt's source: count such statements apart). THE CARD IS WHAT COUNTS. Prove the row's statement (the work); the ties are given (YtajbpjojockgoaaGreatDoorTie.lean); close each card by the builder's one call (the guide's Derived/Test/ToyasCard.lean, 'card_holds'). Laid BY PROGRAM, IN A SANDBOX (cutbox-door.mjs). By AI agents, Wed Nov 11 2026. No macro, syntax, notation, axiom, sorry.
-/
import Derived.Test.YtajbpjojockgoaaGreatDoorRows
import GoSem.ClaimSeven
namespace Go.Proofs.YtajbpjojockgoaaGreatDoor
namespace Rows

/-- THE TIED CARD OF 'frisketlaw02.RegisterFull'. -/
def registerFullCard : Claim7 := { stood := { row := registerFullRow, standIns := [], harness := (true, "54e4b175345e82a557c314c135ca0e0178b30297b833506798e7127283edcc79"), looks := true }, kinds := [], alts := [], laidByText := true, laidKinds := [.data, .data, .data, .data, .pinned, .pinned], laidTests := true, laidLooks := .later }
def RegisterFullCardSaid : Prop := Claim7.holds Tryz.pinned (.plain (OpenSpec.ofChange registerFullSpec)) registerFullCard

/-- THE TIED CARD OF 'frisketlaw02.RegisterDoes'. -/
def registerDoesCard : Claim7 := { stood := { row := registerDoesRow, standIns := [], harness := (true, "54e4b175345e82a557c314c135ca0e0178b30297b833506798e7127283edcc79"), looks := true }, kinds := [], alts := [], laidByText := true, laidKinds := [.data, .data, .data, .data, .pinned, .pinned], laidTests := true, laidLooks := .later }
def RegisterDoesCardSaid : Prop := Claim7.holds Tryz.pinned (.plain (OpenSpec.ofChange registerDoesSpec)) registerDoesCard

/-- THE TIED CARD OF 'frisketlaw02.RegisterNil'. -/
def registerNilCard : Claim7 := { stood := { row := registerNilRow, standIns := [], harness := (true, "54e4b175345e82a557c314c135ca0e0178b30297b833506798e7127283edcc79"), looks := true }, kinds := [], alts := [], laidByText := true, laidKinds := [.data, .data, .data, .data, .pinned, .pinned], laidTests := true, laidLooks := .later }
def RegisterNilCardSaid : Prop := Claim7.holds Tryz.pinned (.plain (OpenSpec.ofChange registerNilSpec)) registerNilCard

/-- THE TIED CARD OF 'frisketlaw02.RegisterApart'. -/
def registerApartCard : Claim7 := { stood := { row := registerApartRow, standIns := [], harness := (true, "54e4b175345e82a557c314c135ca0e0178b30297b833506798e7127283edcc79"), looks := true }, kinds := [], alts := [], laidByText := true, laidKinds := [.data, .data, .data, .data, .pinned, .pinned], laidTests := true, laidLooks := .later }
def RegisterApartCardSaid : Prop := Claim7.holds Tryz.pinned (.plain (OpenSpec.ofChange registerApartSpec)) registerApartCard

/-- THE SECOND FORM's CARD OF 'frisketlaw02.RegisterFull'. -/
def registerFullUptoCard : Claim7 := { stood := { row := registerFullUptoRow, standIns := [], harness := (true, "54e4b175345e82a557c314c135ca0e0178b30297b833506798e7127283edcc79"), looks := true }, kinds := [], alts := [], laidByText := true, laidKinds := [.data, .data, .data, .data, .pinned, .pinned], laidTests := true, laidLooks := .later }
def RegisterFullUptoCardSaid : Prop := Claim7.holds Tryz.pinned (.plain (OpenSpec.upto registerFullSpec)) registerFullUptoCard

/-- THE SECOND FORM's CARD OF 'frisketlaw02.RegisterDoes'. -/
def registerDoesUptoCard : Claim7 := { stood := { row := registerDoesUptoRow, standIns := [], harness := (true, "54e4b175345e82a557c314c135ca0e0178b30297b833506798e7127283edcc79"), looks := true }, kinds := [], alts := [], laidByText := true, laidKinds := [.data, .data, .data, .data, .pinned, .pinned], laidTests := true, laidLooks := .later }
def RegisterDoesUptoCardSaid : Prop := Claim7.holds Tryz.pinned (.plain (OpenSpec.upto registerDoesSpec)) registerDoesUptoCard

/-- THE SECOND FORM's CARD OF 'frisketlaw02.RegisterNil'. -/
def registerNilUptoCard : Claim7 := { stood := { row := registerNilUptoRow, standIns := [], harness := (true, "54e4b175345e82a557c314c135ca0e0178b30297b833506798e7127283edcc79"), looks := true }, kinds := [], alts := [], laidByText := true, laidKinds := [.data, .data, .data, .data, .pinned, .pinned], laidTests := true, laidLooks := .later }
def RegisterNilUptoCardSaid : Prop := Claim7.holds Tryz.pinned (.plain (OpenSpec.upto registerNilSpec)) registerNilUptoCard

/-- THE SECOND FORM's CARD OF 'frisketlaw02.RegisterApart'. -/
def registerApartUptoCard : Claim7 := { stood := { row := registerApartUptoRow, standIns := [], harness := (true, "54e4b175345e82a557c314c135ca0e0178b30297b833506798e7127283edcc79"), looks := true }, kinds := [], alts := [], laidByText := true, laidKinds := [.data, .data, .data, .data, .pinned, .pinned], laidTests := true, laidLooks := .later }
def RegisterApartUptoCardSaid : Prop := Claim7.holds Tryz.pinned (.plain (OpenSpec.upto registerApartSpec)) registerApartUptoCard
end Rows
end Go.Proofs.YtajbpjojockgoaaGreatDoor
