/-
  The laws TitleParts and TitleMiddle return true at any input. No condition.
-/
import Derived.Test.YtlniofkgjibpjaaDoorLawPlaces
namespace Go.Proofs.YtlniofkgjibpjaaDoor
open Go.RowKit

theorem partsV_form (l : List UInt8) : ∃ (x y z : ByteArray) (k : Int), partsV l = (.agg #[.string x, .string y, .string z], k) := by
  unfold partsV
  split
  · exact ⟨_, _, _, _, rfl⟩
  · split <;> exact ⟨_, _, _, _, rfl⟩

set_option maxRecDepth 100000 in
set_option maxHeartbeats 1000000 in
theorem lawParts_long (s : ByteArray) (m : Int) (w : World) (hm : w.cell? ⟨0, 0, none⟩ = some (.int .i64 m)) (hs : 3000 < s.size) :
    Calls Tryd.prog 3 #[.string s] w fun e w' => e = .returned (.bool true) ∧ Below w.heap.size w w' := by
  go_enter Tryd.func3, Tryd.ntmps3
  go_wp2_with (go_at_call 9; refine (sane_any m _ hm).mono ?_; rintro e w' ⟨rfl, hb⟩)
  go_ret
  exact ⟨rfl, hb⟩

set_option maxRecDepth 100000 in
set_option maxHeartbeats 1000000 in
theorem lawParts_short (s : ByteArray) (m : Int) (w : World) (hm : w.cell? ⟨0, 0, none⟩ = some (.int .i64 m)) (hs : s.size ≤ 3000) :
    Calls Tryd.prog 3 #[.string s] w fun e w' => e = .returned (.bool true) ∧ Below w.heap.size w w' := by
  obtain ⟨x, y, z, k, hk⟩ := partsV_form s.data.toList
  have he := run_eq3s
  have hw0 : 0 < w.heap.size := World.block_lt_of_cell? _ _ hm
  have c1 := fun W h => parts_any s m W h (by omega)
  have c2 := fun W => refParts_any s W (by omega)
  rw [hk] at c1 c2
  have C1 := Lib.hid c1
  have C2 := Lib.hid c2
  have HM := Lib.hid hm
  clear c1 c2 hk hm
  go_enter Tryd.func3, Tryd.ntmps3
  go_wp2_with fail
  refine (C1.out _ HM.out).mono ?_
  rintro e w1 ⟨rfl, hb1⟩
  have hz1 := hb1.size
  have hB1 := hb1
  go_wp2_with fail
  refine (C2.out _).mono ?_
  rintro e w2 ⟨rfl, hb2⟩
  have hz2 := hb2.size
  simp only [World.size_alloc] at hz2 hb2
  have b2 := (BlockIs.fresh w1 23 [.string x, .string y, .string z]).under hb2 (by omega)
  have k0 := b2.cellAt 0 _ rfl
  have k1 := b2.cellAt 1 _ rfl
  have k2 := b2.cellAt 2 _ rfl
  have hB2 : Below w.heap.size w w2 := hB1.trans ((by go_grown : Below w.heap.size w1 _).trans (hb2.mono (by omega)))
  have hl2 : w1.heap.size < w2.heap.size := by omega
  clear b2 hb2 hz2 hB1 hb1
  go_wp2_with fail
  refine (sane_any m _ ?_).mono ?_
  · rw [World.cell?_alloc_past _ _ _ (by show 0 < w2.heap.size; omega)]; exact later hB2 hw0 HM.out
  rintro e w3 ⟨rfl, hb3⟩
  have hz3 := hb3.size
  go_wp2
  go_ret
  exact ⟨rfl, hB2.trans ((by go_grown : Below w.heap.size w2 _).trans (hb3.mono (by simp only [World.size_alloc]; omega)))⟩

theorem remU (a : Int) : ∃ A, wrap64 ((IntKind.u64.wrap a).tmod 10000001) = A ∧ 0 ≤ A ∧ A ≤ 10000000 := by
  refine ⟨_, rfl, ?_, ?_⟩
  all_goals
    rw [IntKind.wrap_u64, Int.tmod_eq_emod_of_nonneg (by omega)]
    unfold wrap64
    omega

set_option maxRecDepth 100000 in
set_option maxHeartbeats 1000000 in
theorem lawMiddle (a b c n : Int) (m : Int) (w : World) (hm : w.cell? ⟨0, 0, none⟩ = some (.int .i64 m)) :
    Calls Tryd.prog 5 #[.agg #[.int .i64 a, .int .i64 b, .int .i64 c], .int .i64 n] w fun e w' => e = .returned (.bool true) ∧ Below w.heap.size w w' := by
  obtain ⟨A, ea, ha, ha'⟩ := remU a
  obtain ⟨B, eb, hb, hb'⟩ := remU b
  obtain ⟨C, ec, hc, hc'⟩ := remU c
  obtain ⟨N, en, hn, hn'⟩ := remU n
  have hw0 : 0 < w.heap.size := World.block_lt_of_cell? _ _ hm
  have HM := Lib.hid hm
  clear hm
  go_enter Tryd.func5, Tryd.ntmps5
  go_wp2_with fail
  refine wp_loop_rounds 4 ?_
  repeat any_goals (rw [rounds_succ]; go_wp2_with fail)
  refine (places_any A B C N _ ha ha' hb hb' hc hc' hn hn').mono ?_
  rintro e w1 ⟨rfl, hb1⟩
  have hz1 := hb1.size
  simp only [World.size_alloc] at hz1 hb1
  have b1 := (BlockIs.fresh (w.alloc (.cells #[.int .i64 a, .int .i64 b, .int .i64 c] 28)) 28 [.int .i64 A, .int .i64 B, .int .i64 C]).under hb1 (by simp)
  simp only [World.size_alloc] at b1
  have k0 := b1.cellAt 0 _ rfl
  have k1 := b1.cellAt 1 _ rfl
  have k2 := b1.cellAt 2 _ rfl
  have hB1 : Below w.heap.size w w1 := (by go_grown : Below w.heap.size w _).trans (hb1.mono (by omega))
  have hl1 : w.heap.size + 1 < w1.heap.size := by omega
  have hl2 : w.heap.size < w1.heap.size := by omega
  have t1 : ((N - C + C) != N) = false := by simp
  clear b1 hb1 hz1
  go_wp2_with fail
  refine (sane_any m _ ?_).mono ?_
  · rw [World.cell?_alloc_past _ _ _ (by show 0 < w1.heap.size; omega)]; exact later hB1 hw0 HM.out
  rintro e w3 ⟨rfl, hb3⟩
  have hz3 := hb3.size
  go_wp2
  go_ret
  exact ⟨rfl, hB1.trans ((by go_grown : Below w.heap.size w1 _).trans (hb3.mono (by simp only [World.size_alloc]; omega)))⟩
end Go.Proofs.YtlniofkgjibpjaaDoor
