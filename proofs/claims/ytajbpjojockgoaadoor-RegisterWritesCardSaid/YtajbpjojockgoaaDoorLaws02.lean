/-
  RegisterWrites, RegisterRoman are true.
-/
import Derived.Test.YtajbpjojockgoaaDoorSane02
import Derived.Test.YtajbpjojockgoaaDoorRefWrite
import Derived.Test.YtajbpjojockgoaaDoorRefRead
namespace Go.Proofs.YtajbpjojockgoaaDoor
open Go.RowKit

/-- All tables that chapter 2 reads. -/
structure Tabs2 (w : World) : Prop where
  t : Tabs w
  u : Lib.Utf8Tabs 0 1 w
theorem Tabs2.under {w w' : World} (h : Tabs2 w) (hb : Below w.heap.size w w') : Tabs2 w' := ⟨h.t.under hb, Utf8Tabs_below h.u hb⟩

set_option maxRecDepth 100000 in
set_option maxHeartbeats 2000000 in
theorem lawWrites_big (n : Int) (f s : ByteArray) (w : World) (ht : Tabs w) (h : 200 < s.size ∨ (¬ 200 < s.size ∧ 50 < f.size)) :
    Calls Tryd.prog 4 #[.int .i64 n, .string f, .string s] w fun e w' => e = .returned (.bool true) ∧ Below w.heap.size w w' := by
  have hs := sane_any w ht
  rcases h with h | ⟨h1, h2⟩
  all_goals
    go_enter Tryd.func4, Tryd.ntmps4
    go_wp2_with fail
    refine hs.mono ?_; rintro e w1 ⟨rfl, hb⟩
    go_wp2_with fail
    go_ret
    exact ⟨rfl, hb⟩
set_option maxRecDepth 100000 in
set_option maxHeartbeats 2000000 in
theorem lawWrites_walk (n x a b : Int) (t : ByteArray) (f s : ByteArray) (w : World) (h1 : s.size ≤ 200) (h2 : f.size ≤ 50)
    (hS : ∀ w', Below w.heap.size w w' → Calls Tryd.prog 7 #[] w' fun e w'' => e = .returned (.bool true) ∧ Below w'.heap.size w' w'')
    (hA : ∀ w', Below w.heap.size w w' → Calls Tryd.prog 6 #[.int .i64 n, .string f] w' fun e w'' => e = .returned (.tuple #[.string t, .int .i64 a]) ∧ Below w'.heap.size w' w'')
    (hB : ∀ w', Below w.heap.size w w' → Calls Tryd.prog 8 #[.int .i64 n, .string f] w' fun e w'' => e = .returned (.tuple #[.string t, .int .i64 a]) ∧ Below w'.heap.size w' w'')
    (hC : ∀ w', Below w.heap.size w w' → Calls Tryd.prog 9 #[.string s] w' fun e w'' => e = .returned (.tuple #[.int .i64 x, .int .i64 b]) ∧ Below w'.heap.size w' w'')
    (hD : ∀ w', Below w.heap.size w w' → Calls Tryd.prog 10 #[.string s] w' fun e w'' => e = .returned (.tuple #[.int .i64 x, .int .i64 b]) ∧ Below w'.heap.size w' w'') :
    Calls Tryd.prog 4 #[.int .i64 n, .string f, .string s] w fun e w' => e = .returned (.bool true) ∧ Below w.heap.size w w' := by
  go_enter Tryd.func4, Tryd.ntmps4
  go_wp2_with fail
  refine (hA _ (Below.refl _ _)).mono ?_; rintro e w1 ⟨rfl, hb⟩
  go_wp2_with fail
  refine (hB _ hb).mono ?_; rintro e w2 ⟨rfl, hb2⟩
  have hb := belowThen hb hb2
  go_wp2_with fail
  refine (hC _ hb).mono ?_; rintro e w3 ⟨rfl, hb3⟩
  have hb := belowThen hb hb3
  go_wp2_with fail
  refine (hD _ hb).mono ?_; rintro e w4 ⟨rfl, hb4⟩
  have hb := belowThen hb hb4
  go_wp2_with fail
  refine (hS _ hb).mono ?_; rintro e w5 ⟨rfl, hb5⟩
  go_wp2_with fail
  go_ret
  exact ⟨rfl, belowThen hb hb5⟩
/-- **RegisterWrites is true.** -/
theorem lawWrites (n : Int) (f s : ByteArray) (w : World) (ht : Tabs2 w) :
    Calls Tryd.prog 4 #[.int .i64 n, .string f, .string s] w fun e w' => e = .returned (.bool true) ∧ Below w.heap.size w w' := by
  by_cases h1 : 200 < s.size
  · exact lawWrites_big n f s w ht.t (.inl h1)
  by_cases h2 : 50 < f.size
  · exact lawWrites_big n f s w ht.t (.inr ⟨h1, h2⟩)
  have hsl : s.data.toList.length = s.size := (Lib.size_eq s).symm
  have hfl : f.data.toList.length = f.size := (Lib.size_eq f).symm
  have hA := fun w' (hb : Below w.heap.size w w') => write_any n f.data.toList w' (by omega) (ht.t.under hb)
  have hB := fun w' (_ : Below w.heap.size w w') => refWrite_any n f.data.toList w' (by omega)
  have hC := fun w' (hb : Below w.heap.size w w') => read_any s.data.toList w' (ht.under hb).t (ht.under hb).u
  have hD := fun w' (_ : Below w.heap.size w w') => refRead_walk s.data.toList _ w' _ rfl rfl (by omega)
  simp only [bar_of, rd_rf] at hA hB hC hD
  exact lawWrites_walk n _ _ _ _ f s w (by omega) (by omega) (fun w' hb => sane_any w' (ht.t.under hb)) hA hB hC hD

theorem wr_rom (n : Nat) (h0 : 0 < n) (h1 : n < 40000) : wrOut n [105] = (romL n, 0) ∧ wrOut n [73] = (Lib.toUpperA (romL n), 0) := by
  constructor
  · unfold wrOut
    rw [if_pos (by decide), if_pos (by unfold fitsB; exact decide_eq_true (by omega))]
    unfold textL
    rw [if_neg (by omega), show ((n : Int)).natAbs = n by omega, show textP n [105] = textB n [105] from by unfold textP; rw [if_neg (by decide)], textB_rom n h0 h1]
  · unfold wrOut
    rw [if_pos (by decide), if_pos (by unfold fitsB; exact decide_eq_true (by omega))]
    unfold textL
    rw [if_neg (by omega), show ((n : Int)).natAbs = n by omega, show textP n [73] = Lib.toUpperA (textB n (Lib.toLowerA [73])) from by unfold textP; rw [if_pos (.inl rfl)], lower_i, textB_rom n h0 h1]
set_option maxRecDepth 100000 in
set_option maxHeartbeats 2000000 in
theorem lawRoman_walk (n K : Int) (t u : ByteArray) (w : World) (hK : 0 ≤ K) (hK1 : K < 39999) (hk : wrap64 ((IntKind.u64.wrap n).tmod 39999) = K)
    (hS : ∀ w', Below w.heap.size w w' → Calls Tryd.prog 7 #[] w' fun e w'' => e = .returned (.bool true) ∧ Below w'.heap.size w' w'')
    (hA : ∀ w', Below w.heap.size w w' → Calls Tryd.prog 6 #[.int .i64 (1 + K), .string ⟨#[105]⟩] w' fun e w'' => e = .returned (.tuple #[.string t, .int .i64 0]) ∧ Below w'.heap.size w' w'')
    (hB : ∀ w', Below w.heap.size w w' → Calls Tryd.prog 6 #[.int .i64 (1 + K), .string ⟨#[73]⟩] w' fun e w'' => e = .returned (.tuple #[.string u, .int .i64 0]) ∧ Below w'.heap.size w' w'')
    (hC : ∀ w', Below w.heap.size w w' → Calls Tryd.prog 9 #[.string t] w' fun e w'' => e = .returned (.tuple #[.int .i64 (1 + K), .int .i64 0]) ∧ Below w'.heap.size w' w'')
    (hD : ∀ w', Below w.heap.size w w' → Calls Tryd.prog 9 #[.string u] w' fun e w'' => e = .returned (.tuple #[.int .i64 (1 + K), .int .i64 0]) ∧ Below w'.heap.size w' w'') :
    Calls Tryd.prog 5 #[.int .i64 n] w fun e w' => e = .returned (.bool true) ∧ Below w.heap.size w w' := by
  go_enter Tryd.func5, Tryd.ntmps5
  go_wp2_with fail
  refine (hA _ (Below.refl _ _)).mono ?_; rintro e w1 ⟨rfl, hb⟩
  go_wp2_with fail
  refine (hB _ hb).mono ?_; rintro e w2 ⟨rfl, hb2⟩
  have hb := belowThen hb hb2
  go_wp2_with fail
  refine (hC _ hb).mono ?_; rintro e w3 ⟨rfl, hb3⟩
  have hb := belowThen hb hb3
  go_wp2_with fail
  refine (hD _ hb).mono ?_; rintro e w4 ⟨rfl, hb4⟩
  have hb := belowThen hb hb4
  go_wp2_with fail
  refine (hS _ hb).mono ?_; rintro e w5 ⟨rfl, hb5⟩
  go_wp2_with fail
  go_ret
  exact ⟨rfl, belowThen hb hb5⟩
/-- **RegisterRoman is true.** -/
theorem lawRoman (n : Int) (w : World) (ht : Tabs2 w) :
    Calls Tryd.prog 5 #[.int .i64 n] w fun e w' => e = .returned (.bool true) ∧ Below w.heap.size w w' := by
  obtain ⟨k, hk, hk1⟩ : ∃ k : Nat, wrap64 ((IntKind.u64.wrap n).tmod 39999) = (k : Int) ∧ k < 39999 := by
    have h0 : 0 ≤ IntKind.u64.wrap n := by rw [IntKind.wrap_u64]; omega
    rw [Int.tmod_eq_emod_of_nonneg h0]
    refine ⟨(IntKind.u64.wrap n % 39999).toNat, ?_, by omega⟩
    unfold wrap64; omega
  obtain ⟨e1, e2⟩ := wr_rom (1 + k) (by omega) (by omega)
  obtain ⟨r1, r2⟩ := rd_small (1 + k) (by omega) (by omega)
  have hA := fun w' (hb : Below w.heap.size w w') => write_any ((1 + k : Nat) : Int) [105] w' (by decide) (ht.t.under hb)
  have hB := fun w' (hb : Below w.heap.size w w') => write_any ((1 + k : Nat) : Int) [73] w' (by decide) (ht.t.under hb)
  have hC := fun w' (hb : Below w.heap.size w w') => read_any (romL (1 + k)) w' (ht.under hb).t (ht.under hb).u
  have hD := fun w' (hb : Below w.heap.size w w') => read_any (Lib.toUpperA (romL (1 + k))) w' (ht.under hb).t (ht.under hb).u
  rw [e1] at hA
  rw [e2] at hB
  rw [r1] at hC
  rw [r2] at hD
  have ek : ((1 + k : Nat) : Int) = 1 + (k : Int) := by omega
  rw [ek] at hA hB hC hD
  exact lawRoman_walk n k _ _ w (by omega) (by omega) hk (fun w' hb => sane_any w' (ht.t.under hb)) hA hB hC hD
end Go.Proofs.YtajbpjojockgoaaDoor
