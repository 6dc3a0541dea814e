/-
  From what a row lists to the tables that the contracts of chapter 2 ask.
-/
import Derived.Test.YtajbpjojockgoaaGreatDoorText
import Derived.Test.YtajbpjojockgoaaGreatDoorFrame
import Derived.Lib.LaidU8
namespace Go.Proofs.YtajbpjojockgoaaGreatDoor
open Go.RowKit

theorem tabs_of {W : World} {l : List (String × DataW Unit)} (h : laidMet Tryz.prog l W) (h1 : ("internal/strconv.uint64pow10", Lib.tabData .u64 Lib.pow10Tab) ∈ l) : Tabs W := by
  have htab : Lib.TabIs Tryz.prog W "internal/strconv.uint64pow10" .u64 Lib.pow10Tab := tabIs_of_laid (g := 3) (t := 168) (e := 127) (n := 20) (by kernel_rfl) (by kernel_rfl) Tryz.underlying168 Tryz.underlying127 (by kernel_rfl) (by kernel_rfl) h h1
  exact ⟨htab, World.block_lt_of_cell? _ _ (Lib.TabIs.cell htab (g := 3) (by kernel_rfl) 0 (by rw [Lib.pow10Tab_length]; omega))⟩
end Go.Proofs.YtajbpjojockgoaaGreatDoor
