/-
  The fixed example of chapter 2; RegisterLetters is true.
-/
import Derived.Test.YtajbpjojockgoaaDoorWriteForm
import Derived.Test.YtajbpjojockgoaaDoorNextPlain
namespace Go.Proofs.YtajbpjojockgoaaDoor
open Go.RowKit

theorem wr_a (n : Nat) (h : n ≤ 1000000000) : wrOut n [97] = (textB n [97], 0) := by
  unfold wrOut
  rw [if_pos (by decide), if_pos (by unfold fitsB; exact decide_eq_true (by omega))]
  unfold textL
  rw [if_neg (by omega)]
  rfl
theorem ab_is : textB 28 [97] = [97, 98] := by
  unfold textB
  rw [if_neg (by decide), if_pos rfl, if_pos (by decide), letL_pos 28 (by decide), show (28 - 1) / 26 = 1 from rfl, letL_pos 1 (by decide), show (1 - 1) / 26 = 0 from rfl, letL_zero]
  rfl
theorem writeA (n : Nat) (h : n ≤ 1000000000) (w : World) (ht : Tabs w) :
    Calls Tryd.prog 6 #[.int .i64 n, .string ⟨#[97]⟩] w fun e w' => e = .returned (.tuple #[.string (bar (textB n [97])), .int .i64 0]) ∧ Below w.heap.size w w' := by
  have h2 := write_any n [97] w (by decide) ht
  rw [wr_a n h] at h2
  exact h2
set_option maxRecDepth 100000 in
set_option maxHeartbeats 2000000 in
theorem sane_any (w : World) (ht : Tabs w) :
    Calls Tryd.prog 7 #[] w fun e w' => e = .returned (.bool true) ∧ Below w.heap.size w w' := by
  have h := writeA 28 (by decide) w ht
  rw [ab_is] at h
  have k : (bar [97, 98]).toList = [97, 98] := toList_bar _
  go_enter Tryd.func7, Tryd.ntmps7
  go_wp2_with (go_at_call 6; refine h.mono ?_; rintro e w1 ⟨rfl, hb⟩)
  go_ret
  exact ⟨rfl, hb⟩
set_option maxRecDepth 100000 in
set_option maxHeartbeats 2000000 in
theorem law0 (n : Int) (w : World) (s t : ByteArray) (c1 : (s.toList == [48]) = true) (c2 : (t.toList == [97]) = true) (c3 : ¬ t.size < s.size) (hk : wrap64 ((IntKind.u64.wrap n).tmod 999999999) = 0)
    (hs : ∀ w', Below w.heap.size w w' → Calls Tryd.prog 7 #[] w' fun e w'' => e = .returned (.bool true) ∧ Below w'.heap.size w' w'')
    (h1 : ∀ w', Below w.heap.size w w' → Calls Tryd.prog 6 #[.int .i64 0, .string ⟨#[97]⟩] w' fun e w'' => e = .returned (.tuple #[.string s, .int .i64 0]) ∧ Below w'.heap.size w' w'')
    (h2 : ∀ w', Below w.heap.size w w' → Calls Tryd.prog 6 #[.int .i64 1, .string ⟨#[97]⟩] w' fun e w'' => e = .returned (.tuple #[.string t, .int .i64 0]) ∧ Below w'.heap.size w' w'') :
    Calls Tryd.prog 3 #[.int .i64 n] w fun e w' => e = .returned (.bool true) ∧ Below w.heap.size w w' := by
  go_enter Tryd.func3, Tryd.ntmps3
  go_wp2_with fail
  refine (h1 _ (Below.refl _ _)).mono ?_; rintro e w1 ⟨rfl, hb⟩
  go_wp2_with fail
  refine (h2 _ hb).mono ?_; rintro e w2 ⟨rfl, hb2⟩
  have hb := belowThen hb hb2
  go_wp2_with fail
  refine (hs _ hb).mono ?_; rintro e w3 ⟨rfl, hb3⟩
  go_wp2_with fail
  go_ret
  exact ⟨rfl, belowThen hb hb3⟩
set_option maxRecDepth 100000 in
set_option maxHeartbeats 2000000 in
theorem law1 (n K : Int) (w : World) (s t : ByteArray) (c1 : s.size < t.size) (hk : wrap64 ((IntKind.u64.wrap n).tmod 999999999) = K) (hK0 : 0 < K) (hK1 : K < 999999999)
    (hs : ∀ w', Below w.heap.size w w' → Calls Tryd.prog 7 #[] w' fun e w'' => e = .returned (.bool true) ∧ Below w'.heap.size w' w'')
    (h1 : ∀ w', Below w.heap.size w w' → Calls Tryd.prog 6 #[.int .i64 K, .string ⟨#[97]⟩] w' fun e w'' => e = .returned (.tuple #[.string s, .int .i64 0]) ∧ Below w'.heap.size w' w'')
    (h2 : ∀ w', Below w.heap.size w w' → Calls Tryd.prog 6 #[.int .i64 (K + 1), .string ⟨#[97]⟩] w' fun e w'' => e = .returned (.tuple #[.string t, .int .i64 0]) ∧ Below w'.heap.size w' w'') :
    Calls Tryd.prog 3 #[.int .i64 n] w fun e w' => e = .returned (.bool true) ∧ Below w.heap.size w w' := by
  go_enter Tryd.func3, Tryd.ntmps3
  go_wp2_with fail
  refine (h1 _ (Below.refl _ _)).mono ?_; rintro e w1 ⟨rfl, hb⟩
  go_wp2_with fail
  refine (h2 _ hb).mono ?_; rintro e w2 ⟨rfl, hb2⟩
  have hb := belowThen hb hb2
  go_wp2_with fail
  refine (hs _ hb).mono ?_; rintro e w3 ⟨rfl, hb3⟩
  go_wp2_with fail
  go_ret
  exact ⟨rfl, belowThen hb hb3⟩
set_option maxRecDepth 100000 in
set_option maxHeartbeats 2000000 in
theorem law2 (n K : Int) (w : World) (s t : ByteArray) (c0 : t.size = s.size) (c1 : Op.bytesLess t.toList s.toList = false) (c2 : (t.toList == s.toList) = false) (hk : wrap64 ((IntKind.u64.wrap n).tmod 999999999) = K) (hK0 : 0 < K) (hK1 : K < 999999999)
    (hs : ∀ w', Below w.heap.size w w' → Calls Tryd.prog 7 #[] w' fun e w'' => e = .returned (.bool true) ∧ Below w'.heap.size w' w'')
    (h1 : ∀ w', Below w.heap.size w w' → Calls Tryd.prog 6 #[.int .i64 K, .string ⟨#[97]⟩] w' fun e w'' => e = .returned (.tuple #[.string s, .int .i64 0]) ∧ Below w'.heap.size w' w'')
    (h2 : ∀ w', Below w.heap.size w w' → Calls Tryd.prog 6 #[.int .i64 (K + 1), .string ⟨#[97]⟩] w' fun e w'' => e = .returned (.tuple #[.string t, .int .i64 0]) ∧ Below w'.heap.size w' w'') :
    Calls Tryd.prog 3 #[.int .i64 n] w fun e w' => e = .returned (.bool true) ∧ Below w.heap.size w w' := by
  go_enter Tryd.func3, Tryd.ntmps3
  go_wp2_with fail
  refine (h1 _ (Below.refl _ _)).mono ?_; rintro e w1 ⟨rfl, hb⟩
  go_wp2_with fail
  refine (h2 _ hb).mono ?_; rintro e w2 ⟨rfl, hb2⟩
  have hb := belowThen hb hb2
  go_wp2_with fail
  refine (hs _ hb).mono ?_; rintro e w3 ⟨rfl, hb3⟩
  go_wp2_with fail
  go_ret
  exact ⟨rfl, belowThen hb hb3⟩
/-- **RegisterLetters is true.** -/
theorem lawLetters (n : Int) (w : World) (ht : Tabs w) :
    Calls Tryd.prog 3 #[.int .i64 n] w fun e w' => e = .returned (.bool true) ∧ Below w.heap.size w w' := by
  have hs : ∀ w', Below w.heap.size w w' → Calls Tryd.prog 7 #[] w' fun e w'' => e = .returned (.bool true) ∧ Below w'.heap.size w' w'' := fun w' hb => sane_any w' (ht.under hb)
  obtain ⟨k, hk, hk1⟩ : ∃ k : Nat, wrap64 ((IntKind.u64.wrap n).tmod 999999999) = (k : Int) ∧ k < 999999999 := by
    have h0 : 0 ≤ IntKind.u64.wrap n := by rw [IntKind.wrap_u64]; omega
    rw [Int.tmod_eq_emod_of_nonneg h0]
    refine ⟨(IntKind.u64.wrap n % 999999999).toNat, ?_, by omega⟩
    unfold wrap64; omega
  by_cases h0 : k = 0
  · subst h0
    refine law0 n w (bar (textB 0 [97])) (bar (textB 1 [97])) ?_ ?_ ?_ hk hs (fun w' hb => writeA 0 (by decide) w' (ht.under hb)) (fun w' hb => writeA 1 (by decide) w' (ht.under hb))
    · rw [toList_bar]; decide +kernel
    · rw [toList_bar]; unfold textB; rw [if_neg (by decide), if_pos rfl, if_pos (by decide), letL_pos 1 (by decide), show (1 - 1) / 26 = 0 from rfl, letL_zero]; rfl
    · rw [bar_size, bar_size]
      rw [show textB 1 [97] = [97] from by unfold textB; rw [if_neg (by decide), if_pos rfl, if_pos (by decide), letL_pos 1 (by decide), show (1 - 1) / 26 = 0 from rfl, letL_zero]; rfl]
      decide +kernel
  · have e1 : textB k [97] = letL k := by unfold textB; rw [if_neg (by decide), if_pos rfl, if_pos (by omega)]
    have e2 : textB (k + 1) [97] = letL (k + 1) := by unfold textB; rw [if_neg (by decide), if_pos rfl, if_pos (by omega)]
    have w1 : ∀ w', Below w.heap.size w w' → _ := fun w' hb => writeA k (by omega) w' (ht.under hb)
    have w2 : ∀ w', Below w.heap.size w w' → _ := fun w' hb => writeA (k + 1) (by omega) w' (ht.under hb)
    rw [e1] at w1
    rw [e2] at w2
    rcases letL_next k (by omega) with h | ⟨h1, h2⟩
    · exact law1 n k w _ _ (by rw [bar_size, bar_size]; exact h) hk (by omega) (by omega) hs w1 w2
    · exact law2 n k w _ _ (by rw [bar_size, bar_size]; exact h1.symm) (by rw [toList_bar, toList_bar]; exact (less_turn _ _ h2).1) (by rw [toList_bar, toList_bar]; exact (less_turn _ _ h2).2) hk (by omega) (by omega) hs w1 w2
end Go.Proofs.YtajbpjojockgoaaDoor
