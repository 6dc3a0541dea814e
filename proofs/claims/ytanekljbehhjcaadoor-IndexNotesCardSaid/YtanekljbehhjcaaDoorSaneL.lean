/-
  The fixed example of chapter 27 is true. No condition.
-/
import Derived.Test.YtanekljbehhjcaaDoorPages
import Derived.Test.YtanekljbehhjcaaDoorPXx4
namespace Go.Proofs.YtanekljbehhjcaaDoor
open Go.RowKit Go.Proofs.YtanekljbehhjcaaDoorW.PrintWords Go.Proofs.YtanekljbehhjcaaDoor.PX

theorem dec1 (n : Nat) (h : n < 10) : dec (n : Int) = [UInt8.ofNat (48 + n)] := by
  unfold dec; rw [Int.toNat_natCast, Lib.decDigits, dif_pos h]
theorem sane_pages : pagesOf [3, 1, 2, 7] = (bar [49, 45, 51, 44, 32, 55], 0) := by
  have h0 : ([3, 1, 2, 7] : List Int).any badPage = false := by decide
  have h1 : sortD [3, 1, 2, 7] = [1, 2, 3, 7] := by decide
  have r0 : runTo [1, 2, 3, 7] 0 = 2 := by decide
  have r3 : runTo [1, 2, 3, 7] 3 = 3 := by decide
  unfold pagesOf
  rw [h0, if_neg (by simp), h1]
  have p : partsFrom [1, 2, 3, 7] 0 = [[49, 45, 51], [55]] := by
    rw [partsFrom_run (by decide) (by rw [r0]; decide), r0, partsFrom_one (by decide) (by rw [r3]; decide), partsFrom_end (by decide)]
    rw [show ([1, 2, 3, 7] : List Int).getD 0 0 = ((1 : Nat) : Int) from rfl, show ([1, 2, 3, 7] : List Int).getD 2 0 = ((3 : Nat) : Int) from rfl, show ([1, 2, 3, 7] : List Int).getD (2 + 1) 0 = ((7 : Nat) : Int) from rfl]
    rw [dec1 1 (by decide), dec1 3 (by decide), dec1 7 (by decide)]
    rfl
  unfold pagesT
  rw [p]
  rfl
theorem sane_some : frisketlaw27_sane.f = some true := by
  unfold frisketlaw27_sane.f index_Pages.f
  rw [if_pos (by decide), sane_pages]
  rw [Option.bind_some, bar_toList]
  rfl
theorem sane_any (w : World) (hG : GW w) : Calls Tryd.prog 6 #[] w fun e w' => e = .returned (.bool true) ∧ Below w.heap.size w w' := frisketlaw27_sane.calls true w hG sane_some
end Go.Proofs.YtanekljbehhjcaaDoor
