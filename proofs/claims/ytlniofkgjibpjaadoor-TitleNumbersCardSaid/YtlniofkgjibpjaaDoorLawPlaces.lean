/-
  The law TitlePlaces returns true at any widths, in every world in which the library's number lies. No condition.
-/
import Derived.Test.YtlniofkgjibpjaaDoorParts
import Derived.Test.YtlniofkgjibpjaaDoorPlaces
namespace Go.Proofs.YtlniofkgjibpjaaDoor
open Go.RowKit

theorem later {B : Nat} {w w' : World} {m : Int} (hb : Below B w w') (hB : 0 < B) (h : w.cell? ⟨0, 0, none⟩ = some (.int .i64 m)) : w'.cell? ⟨0, 0, none⟩ = some (.int .i64 m) := (hb.cell hB).trans h

set_option maxRecDepth 100000 in
set_option maxHeartbeats 1000000 in
theorem lawPlaces_ok (a b c n : Int) (m : Int) (w : World) (hm : w.cell? ⟨0, 0, none⟩ = some (.int .i64 m)) (ha : 0 ≤ a) (ha' : a ≤ 10000000) (hb : 0 ≤ b) (hb' : b ≤ 10000000) (hc : 0 ≤ c) (hc' : c ≤ 10000000) (hn : 0 ≤ n) (hn' : n ≤ 10000000) :
    Calls Tryd.prog 4 #[.agg #[.int .i64 a, .int .i64 b, .int .i64 c], .int .i64 n] w fun e w' => e = .returned (.bool true) ∧ Below w.heap.size w w' := by
  have he := run_eq3i
  have hw0 : 0 < w.heap.size := World.block_lt_of_cell? _ _ hm
  have HM := Lib.hid hm
  clear hm
  go_enter Tryd.func4, Tryd.ntmps4
  go_wp2_with fail
  refine (places_any a b c n _ ha ha' hb hb' hc hc' hn hn').mono ?_
  rintro e w1 ⟨rfl, hb1⟩
  have hz1 := hb1.size
  simp only [World.size_alloc] at hz1 hb1
  have b1 := (BlockIs.fresh w 28 [.int .i64 a, .int .i64 b, .int .i64 c]).under hb1 (by omega)
  have m0 := b1.cellAt 0 _ rfl
  have m1 := b1.cellAt 1 _ rfl
  have m2 := b1.cellAt 2 _ rfl
  have hB1 : Below w.heap.size w w1 := (by go_grown : Below w.heap.size w _).trans (hb1.mono (by omega))
  have hl1 : w.heap.size < w1.heap.size := by omega
  clear b1 hb1 hz1
  go_wp2_with fail
  refine (refPlaces_any a b c n _ ha ha' hb hb' hc hc' hn hn').mono ?_
  rintro e w2 ⟨rfl, hb2⟩
  have hz2 := hb2.size
  simp only [World.size_alloc] at hz2 hb2
  have b2 := (BlockIs.fresh w1 28 [.int .i64 0, .int .i64 ((n - b) / 2), .int .i64 (n - c)]).under hb2 (by omega)
  have k0 := b2.cellAt 0 _ rfl
  have k1 := b2.cellAt 1 _ rfl
  have k2 := b2.cellAt 2 _ rfl
  have hB2 : Below w.heap.size w w2 := hB1.trans ((by go_grown : Below w.heap.size w1 _).trans (hb2.mono (by omega)))
  have hl2 : w1.heap.size < w2.heap.size := by omega
  clear b2 hb2 hz2 m0 m1 m2 hB1
  go_wp2_with fail
  refine (sane_any m _ ?_).mono ?_
  · rw [World.cell?_alloc_past _ _ _ (by show 0 < w2.heap.size; omega)]; exact later hB2 hw0 HM.out
  rintro e w3 ⟨rfl, hb3⟩
  have hz3 := hb3.size
  go_wp2
  go_ret
  exact ⟨rfl, hB2.trans ((by go_grown : Below w.heap.size w2 _).trans (hb3.mono (by simp only [World.size_alloc]; omega)))⟩
set_option maxRecDepth 100000 in
set_option maxHeartbeats 1000000 in
theorem lawPlaces_no (a b c n : Int) (m : Int) (w : World) (hm : w.cell? ⟨0, 0, none⟩ = some (.int .i64 m)) (hno : ¬ (0 ≤ a ∧ a ≤ 10000000 ∧ 0 ≤ b ∧ b ≤ 10000000 ∧ 0 ≤ c ∧ c ≤ 10000000 ∧ 0 ≤ n ∧ n ≤ 10000000)) :
    Calls Tryd.prog 4 #[.agg #[.int .i64 a, .int .i64 b, .int .i64 c], .int .i64 n] w fun e w' => e = .returned (.bool true) ∧ Below w.heap.size w w' := by
  have he := run_eq3i
  have hw0 : 0 < w.heap.size := World.block_lt_of_cell? _ _ hm
  have HM := Lib.hid hm
  clear hm
  have HN := Lib.hid hno
  clear hno
  go_enter Tryd.func4, Tryd.ntmps4
  go_wp2_with fail
  refine (places_no a b c n _ HN.out).mono ?_
  rintro e w1 ⟨rfl, hb1⟩
  have hz1 := hb1.size
  simp only [World.size_alloc] at hz1 hb1
  have b1 := (BlockIs.fresh w 28 [.int .i64 a, .int .i64 b, .int .i64 c]).under hb1 (by omega)
  have m0 := b1.cellAt 0 _ rfl
  have m1 := b1.cellAt 1 _ rfl
  have m2 := b1.cellAt 2 _ rfl
  have hB1 : Below w.heap.size w w1 := (by go_grown : Below w.heap.size w _).trans (hb1.mono (by omega))
  have hl1 : w.heap.size < w1.heap.size := by omega
  clear b1 hb1 hz1
  go_wp2_with fail
  refine (refPlaces_no a b c n _ HN.out).mono ?_
  rintro e w2 ⟨rfl, hb2⟩
  have hz2 := hb2.size
  simp only [World.size_alloc] at hz2 hb2
  have b2 := (BlockIs.fresh w1 28 [.int .i64 0, .int .i64 0, .int .i64 0]).under hb2 (by omega)
  have k0 := b2.cellAt 0 _ rfl
  have k1 := b2.cellAt 1 _ rfl
  have k2 := b2.cellAt 2 _ rfl
  have hB2 : Below w.heap.size w w2 := hB1.trans ((by go_grown : Below w.heap.size w1 _).trans (hb2.mono (by omega)))
  have hl2 : w1.heap.size < w2.heap.size := by omega
  clear b2 hb2 hz2 m0 m1 m2 hB1
  go_wp2_with fail
  refine (sane_any m _ ?_).mono ?_
  · rw [World.cell?_alloc_past _ _ _ (by show 0 < w2.heap.size; omega)]; exact later hB2 hw0 HM.out
  rintro e w3 ⟨rfl, hb3⟩
  have hz3 := hb3.size
  go_wp2
  go_ret
  exact ⟨rfl, hB2.trans ((by go_grown : Below w.heap.size w2 _).trans (hb3.mono (by simp only [World.size_alloc]; omega)))⟩

theorem lawPlaces_any (a b c n : Int) (m : Int) (w : World) (hm : w.cell? ⟨0, 0, none⟩ = some (.int .i64 m)) :
    Calls Tryd.prog 4 #[.agg #[.int .i64 a, .int .i64 b, .int .i64 c], .int .i64 n] w fun e w' => e = .returned (.bool true) ∧ Below w.heap.size w w' := by
  by_cases h : 0 ≤ a ∧ a ≤ 10000000 ∧ 0 ≤ b ∧ b ≤ 10000000 ∧ 0 ≤ c ∧ c ≤ 10000000 ∧ 0 ≤ n ∧ n ≤ 10000000
  · obtain ⟨h1, h2, h3, h4, h5, h6, h7, h8⟩ := h
    exact lawPlaces_ok a b c n m w hm h1 h2 h3 h4 h5 h6 h7 h8
  · exact lawPlaces_no a b c n m w hm h

theorem maxLen_there {W : World} (h : W.ShapedOpen Tryd.prog) : ∃ m, W.cell? ⟨0, 0, none⟩ = some (.int .i64 m) := Tryd.laysM147.s1_3 W h
end Go.Proofs.YtlniofkgjibpjaaDoor
