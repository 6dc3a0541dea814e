/-
  The fixed example of chapter 2; 
-/
import Derived.Test.YtajbpjojockgoaaGreatDoorWriteForm
namespace Go.Proofs.YtajbpjojockgoaaGreatDoor
open Go.RowKit

theorem wr_a (n : Nat) (h : n ≤ 1000000000) : wrOut n [97] = (textB n [97], 0) := by
  unfold wrOut
  rw [if_pos (by decide), if_pos (by unfold fitsB; exact decide_eq_true (by omega))]
  unfold textL
  rw [if_neg (by omega)]
  rfl
theorem ab_is : textB 28 [97] = [97, 98] := by
  unfold textB
  rw [if_neg (by decide), if_pos rfl, if_pos (by decide), letL_pos 28 (by decide), show (28 - 1) / 26 = 1 from rfl, letL_pos 1 (by decide), show (1 - 1) / 26 = 0 from rfl, letL_zero]
  rfl
theorem writeA (n : Nat) (h : n ≤ 1000000000) (w : World) (ht : Tabs w) :
    Calls Tryz.prog 36 #[.int .i64 n, .string ⟨#[97]⟩] w fun e w' => e = .returned (.tuple #[.string (bar (textB n [97])), .int .i64 0]) ∧ Below w.heap.size w w' := by
  have h2 := write_any n [97] w (by decide) ht
  rw [wr_a n h] at h2
  exact h2
set_option maxRecDepth 100000 in
set_option maxHeartbeats 2000000 in
theorem sane_any (w : World) (ht : Tabs w) :
    Calls Tryz.prog 14 #[] w fun e w' => e = .returned (.bool true) ∧ Below w.heap.size w w' := by
  have h := writeA 28 (by decide) w ht
  rw [ab_is] at h
  have k : (bar [97, 98]).toList = [97, 98] := toList_bar _
  go_enter Tryz.func14, Tryz.ntmps14
  go_wp2_with (go_at_call 36; refine h.mono ?_; rintro e w1 ⟨rfl, hb⟩)
  go_ret
  exact ⟨rfl, hb⟩
end Go.Proofs.YtajbpjojockgoaaGreatDoor
