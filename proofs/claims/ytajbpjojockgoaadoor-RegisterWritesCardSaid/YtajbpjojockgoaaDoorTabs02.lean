/-
  From what a row lists to the tables that the contracts of chapter 2 ask.
-/
import Derived.Test.YtajbpjojockgoaaDoorLaws02
import Derived.Test.YtajbpjojockgoaaDoorFrame
import Derived.Lib.LaidU8
namespace Go.Proofs.YtajbpjojockgoaaDoor
open Go.RowKit

set_option maxRecDepth 100000 in
theorem u8extra : U8Extra Tryd.prog Tryd.lays260_ren := {
  n3 := by kernel_rfl
  n4 := by kernel_rfl
  y3 := by kernel_rfl
  y4 := by kernel_rfl
  c5 := by kernel_rfl
  c119 := by kernel_rfl
  c138 := by kernel_rfl }
theorem tabs_of {W : World} {l : List (String × DataW Unit)} (h : laidMet Tryd.prog l W) (h1 : ("internal/strconv.uint64pow10", Lib.tabData .u64 Lib.pow10Tab) ∈ l) : Tabs W := by
  have htab : Lib.TabIs Tryd.prog W "internal/strconv.uint64pow10" .u64 Lib.pow10Tab := tabIs_of_laid (g := 4) (t := 102) (e := 78) (n := 20) (by kernel_rfl) (by kernel_rfl) Tryd.underlying102 Tryd.underlying78 (by kernel_rfl) (by kernel_rfl) h h1
  exact ⟨htab, World.block_lt_of_cell? _ _ (Lib.TabIs.cell htab (g := 4) (by kernel_rfl) 0 (by rw [Lib.pow10Tab_length]; omega))⟩
theorem utf8_of {W : World} {l : List (String × DataW Unit)} (h : laidMet Tryd.prog l W) (h1 : ("unicode/utf8.first", Lib.firstData) ∈ l) (h2 : ("unicode/utf8.acceptRanges", Lib.acceptData) ∈ l) :
    Lib.Utf8Tabs 0 1 W :=
  utf8Tabs_of_reads Tryd.lays260 u8extra (Lib.laidMet.reads h h1) (Lib.laidMet.reads h h2)
end Go.Proofs.YtajbpjojockgoaaDoor
