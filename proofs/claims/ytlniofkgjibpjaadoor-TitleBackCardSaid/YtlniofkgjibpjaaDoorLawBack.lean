/-
  The law TitleBack returns true at any three parts. No condition but the form's reach.
-/
import Derived.Test.YtlniofkgjibpjaaDoorRefWrite
import Derived.Test.YtlniofkgjibpjaaDoorBackPlain
namespace Go.Proofs.YtlniofkgjibpjaaDoor
open Go.RowKit

theorem writeV_len (x y z : List UInt8) (hl : x.length + y.length + z.length ≤ 3000) : (writeV x y z).1.length ≤ 4000 := by
  unfold writeV
  split
  · simp
  · split
    · simp [joinQ]; omega
    · simp

set_option maxRecDepth 100000 in
set_option maxHeartbeats 1000000 in
theorem lawBack_long (x y z : List UInt8) (m : Int) (w : World) (hm : w.cell? ⟨0, 0, none⟩ = some (.int .i64 m)) (hl : 3000 < x.length + y.length + z.length) (hx : x.length ≤ 9000000000000000) (hy : y.length ≤ 9000000000000000) (hz : z.length ≤ 9000000000000000) :
    Calls Tryd.prog 6 #[.agg #[.string (bar x), .string (bar y), .string (bar z)]] w fun e w' => e = .returned (.bool true) ∧ Below w.heap.size w w' := by
  have sx : (bar x).size = x.length := bar_size x
  have sy : (bar y).size = y.length := bar_size y
  have sz : (bar z).size = z.length := bar_size z
  have hw0 : 0 < w.heap.size := World.block_lt_of_cell? _ _ hm
  have HM := Lib.hid hm
  clear hm
  go_enter Tryd.func6, Tryd.ntmps6
  go_wp2_with fail
  refine (sane_any m _ (by rw [World.cell?_alloc_past _ _ _ hw0]; exact HM.out)).mono ?_
  rintro e w1 ⟨rfl, hb⟩
  go_wp2
  go_ret
  exact ⟨rfl, (by go_grown : Below w.heap.size w _).trans (hb.mono (by simp))⟩

set_option maxRecDepth 100000 in
set_option maxHeartbeats 1000000 in
theorem lawBack_short (x y z : List UInt8) (m : Int) (w : World) (hm : w.cell? ⟨0, 0, none⟩ = some (.int .i64 m)) (hl : x.length + y.length + z.length ≤ 3000) :
    Calls Tryd.prog 6 #[.agg #[.string (bar x), .string (bar y), .string (bar z)]] w fun e w' => e = .returned (.bool true) ∧ Below w.heap.size w w' := by
  have sx : (bar x).size = x.length := bar_size x
  have sy : (bar y).size = y.length := bar_size y
  have sz : (bar z).size = z.length := bar_size z
  have hw0 : 0 < w.heap.size := World.block_lt_of_cell? _ _ hm
  have HM := Lib.hid hm
  have he := run_eq3s
  have c1 := fun W => write_any x y z W hl
  have c2 := fun W => refWrite_any x y z W hl
  have hlen := writeV_len x y z hl
  have hback := parts_of_write x y z
  generalize writeV x y z = V at c1 c2 hlen hback
  obtain ⟨s, k⟩ := V
  have C1 := Lib.hid c1
  have C2 := Lib.hid c2
  have HB := Lib.hid hback
  clear c1 c2 hback hm
  have b0 := BlockIs.fresh w 23 [.string (bar x), .string (bar y), .string (bar z)]
  have hB0 : Below w.heap.size w (w.alloc (.cells #[.string (bar x), .string (bar y), .string (bar z)] 23)) := by go_grown
  have hin : w.heap.size < (w.alloc (.cells #[.string (bar x), .string (bar y), .string (bar z)] 23)).heap.size := by simp
  have B0 := Lib.hid b0
  clear b0
  go_enter Tryd.func6, Tryd.ntmps6
  go_wp2_with fail
  refine (C1.out _).mono ?_
  rintro e w1 ⟨rfl, hb1⟩
  have b1 := B0.out.under hb1 hin
  have hB1 := hB0.trans (hb1.mono (by simp))
  have hl1 := b1.inside
  have m0 := b1.cellAt 0 _ rfl
  have m1 := b1.cellAt 1 _ rfl
  have m2 := b1.cellAt 2 _ rfl
  have B1 := Lib.hid b1
  clear b1 hb1 hin hB0
  go_wp2_with fail
  refine (C2.out _).mono ?_
  rintro e w2 ⟨rfl, hb2⟩
  have b2 := B1.out.under hb2 hl1
  have hB2 := hB1.trans (hb2.mono (by omega))
  have hl2 := b2.inside
  clear m0 m1 m2 hl1 hB1
  have m0 := b2.cellAt 0 _ rfl
  have m1 := b2.cellAt 1 _ rfl
  have m2 := b2.cellAt 2 _ rfl
  have B2 := Lib.hid b2
  clear b2 hb2
  by_cases hk : k = 0
  · subst hk
    have hp := HB.out rfl
    go_wp2_with fail
    have c := parts_any (bar s) m w2 (later hB2 hw0 HM.out) (by rw [bar_size]; exact Nat.le_trans hlen (by decide))
    rw [bar_data, hp] at c
    refine c.mono ?_
    rintro e w3 ⟨rfl, hb3⟩
    clear c hp
    have b3 := B2.out.under hb3 hl2
    have hl3 := b3.inside
    have hB3 := hB2.trans (hb3.mono (by omega))
    clear m0 m1 m2 hl2 hB2
    have m0 := b3.cellAt 0 _ rfl
    have m1 := b3.cellAt 1 _ rfl
    have m2 := b3.cellAt 2 _ rfl
    clear b3 hb3
    go_wp2_with fail
    refine (sane_any m _ (by rw [World.cell?_alloc_past _ _ _ (by show 0 < w3.heap.size; omega)]; exact later hB3 hw0 HM.out)).mono ?_
    rintro e w4 ⟨rfl, hb4⟩
    go_wp2
    go_ret
    exact ⟨rfl, hB3.trans ((by go_grown : Below w.heap.size w3 _).trans (hb4.mono (by simp only [World.size_alloc]; omega)))⟩
  · have hk' : (k == 0) = false := by simpa using hk
    have hk2 : ¬ k = 0 := hk
    clear hk
    go_wp2_with fail
    refine (sane_any m _ (later hB2 hw0 HM.out)).mono ?_
    rintro e w4 ⟨rfl, hb4⟩
    go_wp2
    go_ret
    exact ⟨rfl, hB2.trans (hb4.mono (by omega))⟩
end Go.Proofs.YtlniofkgjibpjaaDoor
