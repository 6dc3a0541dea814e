/-
  Texts that lean on one another, laid in one file. No condition.
-/
import Derived.Test.YtaifemkokfoadaaGreatDoorGSR1
import Derived.Test.YtaifemkokfoadaaGreatDoorGSR2
import Derived.Test.YtaifemkokfoadaaGreatDoorGSR3
import Derived.RangeFuncRecord
import Derived.Deep.RegionHeld3
import Derived.Outline
import Derived.Lib.Hide
import Derived.WalkSpells
import Derived.WalkLawsBesides
import Derived.Test.YtaifemkokfoadaaGreatDoorWWords
import Derived.Deep.Slices
import Derived.ChangeArms
import Derived.ChangeSlices
import Derived.SizedLaws
import Derived.WideShapes
import Derived.Lib.LaidU8
import Derived.Shelf.Vars
namespace Go.Proofs.YtaifemkokfoadaaGreatDoor.PX
open Go.RowKit Go.Proofs.YtaifemkokfoadaaGreatDoorW.PrintWords Go.Proofs.YtaifemkokfoadaaGreatDoorW.PrintLast Go.Proofs.YtaifemkokfoadaaGreatDoorW.PrintMore
attribute [local go_sem] max2_int min2_int max_two min_two max_three min_three max_four min_four   -- for this text's walks alone
set_option linter.unusedVariables false
set_option linter.unusedSimpArgs false
def frisketref07_Join.f (k : Nat) (a0_0 : ByteArray) (a0_1 : Bool) (a0_2 : Int) (l0_3 : List (S81)) (l0_4 : List (S83)) (l0_5 : List (S84)) (a1 : ByteArray) (a2 : ByteArray) : Option (ByteArray × Bool) := (frisketref07_Valid.f a0_0 a0_1 a0_2 l0_3 l0_4 l0_5).bind fun t419 => (if t419 = true then ((frisketref07_JoinOf.f k a0_0 a0_1 a0_2 l0_3 l0_4 l0_5 a1 a2).bind fun bt420 => (some (bt420.1, bt420.2))) else (some ((⟨#[]⟩ : ByteArray), false)))
set_option maxHeartbeats 8000000 in
set_option maxRecDepth 100000 in
theorem frisketref07_Join.calls (k : Nat) (a0_0 : ByteArray) (a0_1 : Bool) (a0_2 : Int) (A0_3 : Option Addr) (c0_3 : Nat) (l0_3 : List (S81)) (A0_4 : Option Addr) (c0_4 : Nat) (l0_4 : List (S83)) (A0_5 : Option Addr) (c0_5 : Nat) (l0_5 : List (S84)) (a1 : ByteArray) (a2 : ByteArray) (r1 : ByteArray) (r2 : Bool) (w : World) (hr0_3 : Kd.C k81 w A0_3 l0_3.length l0_3) (hc0_3 : l0_3.length ≤ c0_3) (hr0_4 : Kd.C k83 w A0_4 l0_4.length l0_4) (hc0_4 : l0_4.length ≤ c0_4) (hr0_5 : Kd.C k84 w A0_5 l0_5.length l0_5) (hc0_5 : l0_5.length ≤ c0_5) (h : frisketref07_Join.f k a0_0 a0_1 a0_2 l0_3 l0_4 l0_5 a1 a2 = some (r1, r2)) :
  Calls Tryz.prog 72 #[.agg #[.string a0_0, .bool a0_1, .int .i64 a0_2, .slice A0_3 l0_3.length c0_3, .slice A0_4 l0_4.length c0_4, .slice A0_5 l0_5.length c0_5], .string a1, .string a2] w fun e w' => e = .returned (.tuple #[.string r1, .bool r2]) ∧ Below w.heap.size w w' := by
 have hu44 := Tryz.underlying44
 have HR0_3 := Aside0.mk hr0_3
 have HC0_3 := Aside0.mk hc0_3
 clear hr0_3 hc0_3
 have HR0_4 := Aside0.mk hr0_4
 have HC0_4 := Aside0.mk hc0_4
 clear hr0_4 hc0_4
 have HR0_5 := Aside0.mk hr0_5
 have HC0_5 := Aside0.mk hc0_5
 clear hr0_5 hc0_5
 have HB := Aside0.mk (Below.refl w.heap.size w)
 have H : ((frisketref07_Valid.f a0_0 a0_1 a0_2 l0_3 l0_4 l0_5).bind fun t419 => (if t419 = true then ((frisketref07_JoinOf.f k a0_0 a0_1 a0_2 l0_3 l0_4 l0_5 a1 a2).bind fun bt420 => (some (bt420.1, bt420.2))) else (some ((⟨#[]⟩ : ByteArray), false)))) = some (r1, r2) := h
 clear h
 replace H := Option.bind_eq_some_iff.mp H
 obtain ⟨t419, A40, H⟩ := H
 replace H : (if t419 = true then ((frisketref07_JoinOf.f k a0_0 a0_1 a0_2 l0_3 l0_4 l0_5 a1 a2).bind fun bt420 => (some (bt420.1, bt420.2))) else (some ((⟨#[]⟩ : ByteArray), false))) = some (r1, r2) := H
 have A4 := Aside0.mk A40
 clear A40
 by_cases c5 : t419 = true
 ·subst c5
  have H1 : ((frisketref07_JoinOf.f k a0_0 a0_1 a0_2 l0_3 l0_4 l0_5 a1 a2).bind fun bt420 => (some (bt420.1, bt420.2))) = some (r1, r2) := by rw [if_pos rfl] at H; exact H
  clear H
  have H := H1
  clear H1
  replace H := Option.bind_eq_some_iff.mp H
  obtain ⟨⟨t420, t421⟩, A60, H⟩ := H
  replace H : (some (t420, t421)) = some (r1, r2) := H
  have A6 := Aside0.mk A60
  clear A60
  simp only [Option.some.injEq, Prod.mk.injEq] at H
  obtain ⟨rfl, rfl⟩ := H
  go_enter Tryz.func72, Tryz.ntmps72
  go_wp2_with (first | ((with_reducible refine gate_dst (N := 3) rfl ?_); refine box_event ?hg (N := 3) ?hd (cs := #[.string a0_0, .bool a0_1, .int .i64 a0_2, .slice A0_3 l0_3.length c0_3, .slice A0_4 l0_4.length c0_4, .slice A0_5 l0_5.length c0_5]) (t := 44) ?hr ?_; (case hd => rfl); (case hg => rfl); (case hr => first | (go_simp; done) | (go_simp; rfl)); intro gb418 hg w7 hbox hb; have n0_ := Aside0.mk (below_step (by repeat (first | (with_reducible first | exact HB.out | apply below_alloc | apply pw_below_drewN | apply below_drew1) | exact HB.out)) hb); have n1_ := Aside0.mk (hbox); have n2_ := Aside0.mk ((by rw [hg]; exact (below_size (by repeat (first | (with_reducible first | exact HB.out | apply below_alloc | apply pw_below_drewN | apply below_drew1) | exact HB.out))) : w.heap.size ≤ gb418)); have n3_ := Aside0.mk ((by rw [hg]; exact (below_size (by repeat (first | (with_reducible first | exact HB.out | apply below_alloc | apply pw_below_drewN | apply below_drew1) | exact HB.out))) : w.heap.size ≤ gb418)); clear HB; have HB := n0_; have BK418 := n1_; have GW418 := n2_; have GE418 := n3_; clear n0_ n1_ n2_ n3_; clear hb hbox hg; have hcz8_0 : w7.cell? ⟨gb418, 0, none⟩ = some (.string a0_0) := (blk_cell BK418.out 0).trans rfl; have hcz8_1 : w7.cell? ⟨gb418, 1, none⟩ = some (.bool a0_1) := (blk_cell BK418.out 1).trans rfl; have hcz8_2 : w7.cell? ⟨gb418, 2, none⟩ = some (.int .i64 a0_2) := (blk_cell BK418.out 2).trans rfl; have hcz8_3 : w7.cell? ⟨gb418, 3, none⟩ = some (.slice A0_3 l0_3.length c0_3) := (blk_cell BK418.out 3).trans rfl; have hcz8_4 : w7.cell? ⟨gb418, 4, none⟩ = some (.slice A0_4 l0_4.length c0_4) := (blk_cell BK418.out 4).trans rfl; have hcz8_5 : w7.cell? ⟨gb418, 5, none⟩ = some (.slice A0_5 l0_5.length c0_5) := (blk_cell BK418.out 5).trans rfl; have hfz8_0 := blk_frozen BK418.out 0; have hfz8_1 := blk_frozen BK418.out 1; have hfz8_2 := blk_frozen BK418.out 2; have hfz8_3 := blk_frozen BK418.out 3; have hfz8_4 := blk_frozen BK418.out 4; have hfz8_5 := blk_frozen BK418.out 5) | ((with_reducible refine gate_callee (f := 61) rfl ?_); refine goesL_ (some 9) rfl rfl Tryz.func61 (by kernel_rfl) rfl #[.agg #[.string a0_0, .bool a0_1, .int .i64 a0_2, .slice A0_3 l0_3.length c0_3, .slice A0_4 l0_4.length c0_4, .slice A0_5 l0_5.length c0_5]] rfl (by (try simp only [List.map_toArray, List.map_cons, List.map_nil]); first | done | rfl | (simp only [List.length_drop, List.length_take]; rfl)) ?_; (with_reducible refine (frisketref07_Valid.calls a0_0 a0_1 a0_2 _ _ l0_3 _ _ l0_4 _ _ l0_5 true _ ?side1 ?side2 ?side3 ?side4 ?side5 ?side6 A4.out).mono ?_); (case side1 => repeat (first | exact (Kd.C_below HR0_3.out HB.out) | (with_reducible refine Kd.C_alloc ?_ _) | (with_reducible refine Kd.C_drewN ?_ _) | (with_reducible refine Kd.C_drew ?_))); (case side2 => exact HC0_3.out); (case side3 => repeat (first | exact (Kd.C_below HR0_4.out HB.out) | (with_reducible refine Kd.C_alloc ?_ _) | (with_reducible refine Kd.C_drewN ?_ _) | (with_reducible refine Kd.C_drew ?_))); (case side4 => exact HC0_4.out); (case side5 => repeat (first | exact (Kd.C_below HR0_5.out HB.out) | (with_reducible refine Kd.C_alloc ?_ _) | (with_reducible refine Kd.C_drewN ?_ _) | (with_reducible refine Kd.C_drew ?_))); (case side6 => exact HC0_5.out); rintro e w9 ⟨rfl, hb⟩; refine ⟨_, rfl, ?_⟩; have n0_ := Aside0.mk (blk_below (g := gb418) (o := .cells #[.string a0_0, .bool a0_1, .int .i64 a0_2, .slice A0_3 l0_3.length c0_3, .slice A0_4 l0_4.length c0_4, .slice A0_5 l0_5.length c0_5] 44 (0, 0)) (by (with_reducible repeat (first | refine blk_drewN ?_ _ | refine blk_drew ?_ | refine blk_alloc ?_ _)); exact BK418.out) hb); have n1_ := Aside0.mk (below_step (by repeat (first | (with_reducible first | exact HB.out | apply below_alloc | apply pw_below_drewN | apply below_drew1 | refine below_set ?_ GE418.out) | exact HB.out)) hb); clear BK418; clear HB; have BK418 := n0_; have HB := n1_; clear n0_ n1_; (try clear hb); (try clear hb2); (try clear hk); (try clear hi); have hcz10_0 : w9.cell? ⟨gb418, 0, none⟩ = some (.string a0_0) := (blk_cell BK418.out 0).trans rfl; have hcz10_1 : w9.cell? ⟨gb418, 1, none⟩ = some (.bool a0_1) := (blk_cell BK418.out 1).trans rfl; have hcz10_2 : w9.cell? ⟨gb418, 2, none⟩ = some (.int .i64 a0_2) := (blk_cell BK418.out 2).trans rfl; have hcz10_3 : w9.cell? ⟨gb418, 3, none⟩ = some (.slice A0_3 l0_3.length c0_3) := (blk_cell BK418.out 3).trans rfl; have hcz10_4 : w9.cell? ⟨gb418, 4, none⟩ = some (.slice A0_4 l0_4.length c0_4) := (blk_cell BK418.out 4).trans rfl; have hcz10_5 : w9.cell? ⟨gb418, 5, none⟩ = some (.slice A0_5 l0_5.length c0_5) := (blk_cell BK418.out 5).trans rfl; have hfz10_0 := blk_frozen BK418.out 0; have hfz10_1 := blk_frozen BK418.out 1; have hfz10_2 := blk_frozen BK418.out 2; have hfz10_3 := blk_frozen BK418.out 3; have hfz10_4 := blk_frozen BK418.out 4; have hfz10_5 := blk_frozen BK418.out 5) | ((with_reducible refine gate_callee (f := 112) rfl ?_); refine goesL_ (some 14) rfl rfl Tryz.func112 (by kernel_rfl) rfl #[.agg #[.string a0_0, .bool a0_1, .int .i64 a0_2, .slice A0_3 l0_3.length c0_3, .slice A0_4 l0_4.length c0_4, .slice A0_5 l0_5.length c0_5], .string a1, .string a2] rfl (by (try simp only [List.map_toArray, List.map_cons, List.map_nil]); first | done | rfl | (simp only [List.length_drop, List.length_take]; rfl)) ?_; (with_reducible refine (frisketref07_JoinOf.calls k a0_0 a0_1 a0_2 _ _ l0_3 _ _ l0_4 _ _ l0_5 a1 a2 t420 t421 _ ?side1 ?side2 ?side3 ?side4 ?side5 ?side6 A6.out).mono ?_); (case side1 => repeat (first | exact (Kd.C_below HR0_3.out HB.out) | (with_reducible refine Kd.C_alloc ?_ _) | (with_reducible refine Kd.C_drewN ?_ _) | (with_reducible refine Kd.C_drew ?_))); (case side2 => exact HC0_3.out); (case side3 => repeat (first | exact (Kd.C_below HR0_4.out HB.out) | (with_reducible refine Kd.C_alloc ?_ _) | (with_reducible refine Kd.C_drewN ?_ _) | (with_reducible refine Kd.C_drew ?_))); (case side4 => exact HC0_4.out); (case side5 => repeat (first | exact (Kd.C_below HR0_5.out HB.out) | (with_reducible refine Kd.C_alloc ?_ _) | (with_reducible refine Kd.C_drewN ?_ _) | (with_reducible refine Kd.C_drew ?_))); (case side6 => exact HC0_5.out); rintro e w11 ⟨rfl, hb⟩; refine ⟨_, rfl, ?_⟩; have n0_ := Aside0.mk (blk_below (g := gb418) (o := .cells #[.string a0_0, .bool a0_1, .int .i64 a0_2, .slice A0_3 l0_3.length c0_3, .slice A0_4 l0_4.length c0_4, .slice A0_5 l0_5.length c0_5] 44 (0, 0)) (by (with_reducible repeat (first | refine blk_drewN ?_ _ | refine blk_drew ?_ | refine blk_alloc ?_ _)); exact BK418.out) hb); have n1_ := Aside0.mk (below_step (by repeat (first | (with_reducible first | exact HB.out | apply below_alloc | apply pw_below_drewN | apply below_drew1 | refine below_set ?_ GE418.out) | exact HB.out)) hb); clear BK418; clear HB; have BK418 := n0_; have HB := n1_; clear n0_ n1_; (try clear hb); (try clear hb2); (try clear hk); (try clear hi)))
  go_ret2
  exact ⟨by first | rfl | (simp [errW_none, errW_some] <;> rfl) | (simp [*, errW_none, errW_some] <;> rfl), by repeat (first | (with_reducible first | exact HB.out | apply below_alloc | apply pw_below_drewN | apply below_drew1 | refine below_set ?_ GE418.out) | exact HB.out)⟩
 ·replace c5 := Bool.eq_false_iff.mpr c5
  subst c5
  have H1 : (some ((⟨#[]⟩ : ByteArray), false)) = some (r1, r2) := by rw [if_neg (show ¬ (false = true) by decide)] at H; exact H
  clear H
  have H := H1
  clear H1
  simp only [Option.some.injEq, Prod.mk.injEq] at H
  obtain ⟨rfl, rfl⟩ := H
  go_enter Tryz.func72, Tryz.ntmps72
  go_wp2_with (first | ((with_reducible refine gate_dst (N := 3) rfl ?_); refine box_event ?hg (N := 3) ?hd (cs := #[.string a0_0, .bool a0_1, .int .i64 a0_2, .slice A0_3 l0_3.length c0_3, .slice A0_4 l0_4.length c0_4, .slice A0_5 l0_5.length c0_5]) (t := 44) ?hr ?_; (case hd => rfl); (case hg => rfl); (case hr => first | (go_simp; done) | (go_simp; rfl)); intro gb418 hg w12 hbox hb; have n0_ := Aside0.mk (below_step (by repeat (first | (with_reducible first | exact HB.out | apply below_alloc | apply pw_below_drewN | apply below_drew1) | exact HB.out)) hb); have n1_ := Aside0.mk (hbox); have n2_ := Aside0.mk ((by rw [hg]; exact (below_size (by repeat (first | (with_reducible first | exact HB.out | apply below_alloc | apply pw_below_drewN | apply below_drew1) | exact HB.out))) : w.heap.size ≤ gb418)); have n3_ := Aside0.mk ((by rw [hg]; exact (below_size (by repeat (first | (with_reducible first | exact HB.out | apply below_alloc | apply pw_below_drewN | apply below_drew1) | exact HB.out))) : w.heap.size ≤ gb418)); clear HB; have HB := n0_; have BK418 := n1_; have GW418 := n2_; have GE418 := n3_; clear n0_ n1_ n2_ n3_; clear hb hbox hg; have hcz13_0 : w12.cell? ⟨gb418, 0, none⟩ = some (.string a0_0) := (blk_cell BK418.out 0).trans rfl; have hcz13_1 : w12.cell? ⟨gb418, 1, none⟩ = some (.bool a0_1) := (blk_cell BK418.out 1).trans rfl; have hcz13_2 : w12.cell? ⟨gb418, 2, none⟩ = some (.int .i64 a0_2) := (blk_cell BK418.out 2).trans rfl; have hcz13_3 : w12.cell? ⟨gb418, 3, none⟩ = some (.slice A0_3 l0_3.length c0_3) := (blk_cell BK418.out 3).trans rfl; have hcz13_4 : w12.cell? ⟨gb418, 4, none⟩ = some (.slice A0_4 l0_4.length c0_4) := (blk_cell BK418.out 4).trans rfl; have hcz13_5 : w12.cell? ⟨gb418, 5, none⟩ = some (.slice A0_5 l0_5.length c0_5) := (blk_cell BK418.out 5).trans rfl; have hfz13_0 := blk_frozen BK418.out 0; have hfz13_1 := blk_frozen BK418.out 1; have hfz13_2 := blk_frozen BK418.out 2; have hfz13_3 := blk_frozen BK418.out 3; have hfz13_4 := blk_frozen BK418.out 4; have hfz13_5 := blk_frozen BK418.out 5) | ((with_reducible refine gate_callee (f := 61) rfl ?_); refine goesL_ (some 9) rfl rfl Tryz.func61 (by kernel_rfl) rfl #[.agg #[.string a0_0, .bool a0_1, .int .i64 a0_2, .slice A0_3 l0_3.length c0_3, .slice A0_4 l0_4.length c0_4, .slice A0_5 l0_5.length c0_5]] rfl (by (try simp only [List.map_toArray, List.map_cons, List.map_nil]); first | done | rfl | (simp only [List.length_drop, List.length_take]; rfl)) ?_; (with_reducible refine (frisketref07_Valid.calls a0_0 a0_1 a0_2 _ _ l0_3 _ _ l0_4 _ _ l0_5 false _ ?side1 ?side2 ?side3 ?side4 ?side5 ?side6 A4.out).mono ?_); (case side1 => repeat (first | exact (Kd.C_below HR0_3.out HB.out) | (with_reducible refine Kd.C_alloc ?_ _) | (with_reducible refine Kd.C_drewN ?_ _) | (with_reducible refine Kd.C_drew ?_))); (case side2 => exact HC0_3.out); (case side3 => repeat (first | exact (Kd.C_below HR0_4.out HB.out) | (with_reducible refine Kd.C_alloc ?_ _) | (with_reducible refine Kd.C_drewN ?_ _) | (with_reducible refine Kd.C_drew ?_))); (case side4 => exact HC0_4.out); (case side5 => repeat (first | exact (Kd.C_below HR0_5.out HB.out) | (with_reducible refine Kd.C_alloc ?_ _) | (with_reducible refine Kd.C_drewN ?_ _) | (with_reducible refine Kd.C_drew ?_))); (case side6 => exact HC0_5.out); rintro e w14 ⟨rfl, hb⟩; refine ⟨_, rfl, ?_⟩; have n0_ := Aside0.mk (blk_below (g := gb418) (o := .cells #[.string a0_0, .bool a0_1, .int .i64 a0_2, .slice A0_3 l0_3.length c0_3, .slice A0_4 l0_4.length c0_4, .slice A0_5 l0_5.length c0_5] 44 (0, 0)) (by (with_reducible repeat (first | refine blk_drewN ?_ _ | refine blk_drew ?_ | refine blk_alloc ?_ _)); exact BK418.out) hb); have n1_ := Aside0.mk (below_step (by repeat (first | (with_reducible first | exact HB.out | apply below_alloc | apply pw_below_drewN | apply below_drew1 | refine below_set ?_ GE418.out) | exact HB.out)) hb); clear BK418; clear HB; have BK418 := n0_; have HB := n1_; clear n0_ n1_; (try clear hb); (try clear hb2); (try clear hk); (try clear hi)))
  go_ret2
  exact ⟨by first | rfl | (simp [errW_none, errW_some] <;> rfl) | (simp [*, errW_none, errW_some] <;> rfl), by repeat (first | (with_reducible first | exact HB.out | apply below_alloc | apply pw_below_drewN | apply below_drew1 | refine below_set ?_ GE418.out) | exact HB.out)⟩
def font_Scale.f (a0 : Int) (a1 : Int) : Option (Int × Int) := if a0 < (-3000) then (some (0, 1)) else (if a0 > 3000 then (some (0, 1)) else (if a1 < 1 then (some (0, 1)) else (if a1 > 1000 then (some (0, 1)) else ((font_scale.f a0 a1).bind fun t422 => (some (t422, 0))))))
set_option maxHeartbeats 8000000 in
set_option maxRecDepth 100000 in
theorem font_Scale.calls (a0 : Int) (a1 : Int) (r1 : Int) (r2 : Int) (w : World) (h : font_Scale.f a0 a1 = some (r1, r2)) :
  Calls Tryz.prog 73 #[.int .i64 a0, .int .i64 a1] w fun e w' => e = .returned (.tuple #[.int .i64 r1, .int .i64 r2]) ∧ Drawn0 w w' := by
 have H : (if a0 < (-3000) then (some (0, 1)) else (if a0 > 3000 then (some (0, 1)) else (if a1 < 1 then (some (0, 1)) else (if a1 > 1000 then (some (0, 1)) else ((font_scale.f a0 a1).bind fun t422 => (some (t422, 0))))))) = some (r1, r2) := h
 clear h
 by_cases c3 : a0 < (-3000)
 ·rw [if_pos c3] at H
  have c3b0 : decide (a0 < (-3000)) = true := decide_eq_true c3
  clear c3
  simp only [Option.some.injEq, Prod.mk.injEq] at H
  obtain ⟨rfl, rfl⟩ := H
  go_enter Tryz.func73, Tryz.ntmps73
  go_wp2
  go_ret2
  exact ⟨by first | rfl | (simp; done) | (simp [*]; done), by repeat (first | exact Drawn0.refl _ | apply Drawn0.step)⟩
 ·rw [if_neg c3] at H
  have c3b0 : decide (a0 < (-3000)) = false := decide_eq_false c3
  clear c3
  by_cases c4 : a0 > 3000
  ·rw [if_pos c4] at H
   have c4b0 : decide (3000 < a0) = true := decide_eq_true c4
   clear c4
   simp only [Option.some.injEq, Prod.mk.injEq] at H
   obtain ⟨rfl, rfl⟩ := H
   go_enter Tryz.func73, Tryz.ntmps73
   go_wp2
   go_ret2
   exact ⟨by first | rfl | (simp; done) | (simp [*]; done), by repeat (first | exact Drawn0.refl _ | apply Drawn0.step)⟩
  ·rw [if_neg c4] at H
   have c4b0 : decide (3000 < a0) = false := decide_eq_false c4
   clear c4
   by_cases c5 : a1 < 1
   ·rw [if_pos c5] at H
    have c5b0 : decide (a1 < 1) = true := decide_eq_true c5
    clear c5
    simp only [Option.some.injEq, Prod.mk.injEq] at H
    obtain ⟨rfl, rfl⟩ := H
    go_enter Tryz.func73, Tryz.ntmps73
    go_wp2
    go_ret2
    exact ⟨by first | rfl | (simp; done) | (simp [*]; done), by repeat (first | exact Drawn0.refl _ | apply Drawn0.step)⟩
   ·rw [if_neg c5] at H
    have c5b0 : decide (a1 < 1) = false := decide_eq_false c5
    clear c5
    by_cases c6 : a1 > 1000
    ·rw [if_pos c6] at H
     have c6b0 : decide (1000 < a1) = true := decide_eq_true c6
     clear c6
     simp only [Option.some.injEq, Prod.mk.injEq] at H
     obtain ⟨rfl, rfl⟩ := H
     go_enter Tryz.func73, Tryz.ntmps73
     go_wp2
     go_ret2
     exact ⟨by first | rfl | (simp; done) | (simp [*]; done), by repeat (first | exact Drawn0.refl _ | apply Drawn0.step)⟩
    ·rw [if_neg c6] at H
     have c6b0 : decide (1000 < a1) = false := decide_eq_false c6
     clear c6
     replace H := Option.bind_eq_some_iff.mp H
     obtain ⟨t422, A70, H⟩ := H
     replace H : (some (t422, 0)) = some (r1, r2) := H
     have A7 := Aside0.mk A70
     clear A70
     simp only [Option.some.injEq, Prod.mk.injEq] at H
     obtain ⟨rfl, rfl⟩ := H
     go_enter Tryz.func73, Tryz.ntmps73
     go_wp2_with (first | ((with_reducible refine gate_callee (f := 28) rfl ?_); refine goesL_ (some 22) rfl rfl Tryz.func28 (by kernel_rfl) rfl #[.int .i64 a0, .int .i64 a1] rfl (by (try simp only [List.map_toArray, List.map_cons, List.map_nil]); first | done | rfl | (simp only [List.length_drop, List.length_take]; rfl)) ?_; (with_reducible refine (font_scale.calls a0 a1 t422 _ A7.out).mono ?_); rintro e w' ⟨rfl, ⟨nd, rfl⟩⟩; refine ⟨_, rfl, ?_⟩))
     go_ret2
     exact ⟨by first | rfl | (simp; done) | (simp [*]; done), by repeat (first | exact Drawn0.refl _ | apply Drawn0.step)⟩
end Go.Proofs.YtaifemkokfoadaaGreatDoor.PX

namespace Go.Proofs.YtaifemkokfoadaaGreatDoor.PX
open Go.RowKit Go.Proofs.YtaifemkokfoadaaGreatDoorW.PrintWords Go.Proofs.YtaifemkokfoadaaGreatDoorW.PrintLast Go.Proofs.YtaifemkokfoadaaGreatDoorW.PrintMore
attribute [local go_sem] max2_int min2_int max_two min_two max_three min_three max_four min_four   -- for this text's walks alone
set_option linter.unusedVariables false
set_option linter.unusedSimpArgs false
def frisketref07_Scale.f (a0 : Int) (a1 : Int) : Option (Int × Int) := if a0 < (-3000) then (some (0, 1)) else (if a0 > 3000 then (some (0, 1)) else (if a1 < 1 then (some (0, 1)) else (if a1 > 1000 then (some (0, 1)) else ((frisketref07_scale.f a0 a1).bind fun t423 => (some (t423, 0))))))
set_option maxHeartbeats 8000000 in
set_option maxRecDepth 100000 in
theorem frisketref07_Scale.calls (a0 : Int) (a1 : Int) (r1 : Int) (r2 : Int) (w : World) (h : frisketref07_Scale.f a0 a1 = some (r1, r2)) :
  Calls Tryz.prog 74 #[.int .i64 a0, .int .i64 a1] w fun e w' => e = .returned (.tuple #[.int .i64 r1, .int .i64 r2]) ∧ Drawn0 w w' := by
 have H : (if a0 < (-3000) then (some (0, 1)) else (if a0 > 3000 then (some (0, 1)) else (if a1 < 1 then (some (0, 1)) else (if a1 > 1000 then (some (0, 1)) else ((frisketref07_scale.f a0 a1).bind fun t423 => (some (t423, 0))))))) = some (r1, r2) := h
 clear h
 by_cases c3 : a0 < (-3000)
 ·rw [if_pos c3] at H
  have c3b0 : decide (a0 < (-3000)) = true := decide_eq_true c3
  clear c3
  simp only [Option.some.injEq, Prod.mk.injEq] at H
  obtain ⟨rfl, rfl⟩ := H
  go_enter Tryz.func74, Tryz.ntmps74
  go_wp2
  go_ret2
  exact ⟨by first | rfl | (simp; done) | (simp [*]; done), by repeat (first | exact Drawn0.refl _ | apply Drawn0.step)⟩
 ·rw [if_neg c3] at H
  have c3b0 : decide (a0 < (-3000)) = false := decide_eq_false c3
  clear c3
  by_cases c4 : a0 > 3000
  ·rw [if_pos c4] at H
   have c4b0 : decide (3000 < a0) = true := decide_eq_true c4
   clear c4
   simp only [Option.some.injEq, Prod.mk.injEq] at H
   obtain ⟨rfl, rfl⟩ := H
   go_enter Tryz.func74, Tryz.ntmps74
   go_wp2
   go_ret2
   exact ⟨by first | rfl | (simp; done) | (simp [*]; done), by repeat (first | exact Drawn0.refl _ | apply Drawn0.step)⟩
  ·rw [if_neg c4] at H
   have c4b0 : decide (3000 < a0) = false := decide_eq_false c4
   clear c4
   by_cases c5 : a1 < 1
   ·rw [if_pos c5] at H
    have c5b0 : decide (a1 < 1) = true := decide_eq_true c5
    clear c5
    simp only [Option.some.injEq, Prod.mk.injEq] at H
    obtain ⟨rfl, rfl⟩ := H
    go_enter Tryz.func74, Tryz.ntmps74
    go_wp2
    go_ret2
    exact ⟨by first | rfl | (simp; done) | (simp [*]; done), by repeat (first | exact Drawn0.refl _ | apply Drawn0.step)⟩
   ·rw [if_neg c5] at H
    have c5b0 : decide (a1 < 1) = false := decide_eq_false c5
    clear c5
    by_cases c6 : a1 > 1000
    ·rw [if_pos c6] at H
     have c6b0 : decide (1000 < a1) = true := decide_eq_true c6
     clear c6
     simp only [Option.some.injEq, Prod.mk.injEq] at H
     obtain ⟨rfl, rfl⟩ := H
     go_enter Tryz.func74, Tryz.ntmps74
     go_wp2
     go_ret2
     exact ⟨by first | rfl | (simp; done) | (simp [*]; done), by repeat (first | exact Drawn0.refl _ | apply Drawn0.step)⟩
    ·rw [if_neg c6] at H
     have c6b0 : decide (1000 < a1) = false := decide_eq_false c6
     clear c6
     replace H := Option.bind_eq_some_iff.mp H
     obtain ⟨t423, A70, H⟩ := H
     replace H : (some (t423, 0)) = some (r1, r2) := H
     have A7 := Aside0.mk A70
     clear A70
     simp only [Option.some.injEq, Prod.mk.injEq] at H
     obtain ⟨rfl, rfl⟩ := H
     go_enter Tryz.func74, Tryz.ntmps74
     go_wp2_with (first | ((with_reducible refine gate_callee (f := 110) rfl ?_); refine goesL_ (some 22) rfl rfl Tryz.func110 (by kernel_rfl) rfl #[.int .i64 a0, .int .i64 a1] rfl (by (try simp only [List.map_toArray, List.map_cons, List.map_nil]); first | done | rfl | (simp only [List.length_drop, List.length_take]; rfl)) ?_; (with_reducible refine (frisketref07_scale.calls a0 a1 t423 _ A7.out).mono ?_); rintro e w' ⟨rfl, ⟨nd, rfl⟩⟩; refine ⟨_, rfl, ?_⟩))
     go_ret2
     exact ⟨by first | rfl | (simp; done) | (simp [*]; done), by repeat (first | exact Drawn0.refl _ | apply Drawn0.step)⟩
end Go.Proofs.YtaifemkokfoadaaGreatDoor.PX

namespace Go.Proofs.YtaifemkokfoadaaGreatDoor
open Go.RowKit Go.Proofs.YtaifemkokfoadaaGreatDoorW.PrintWords Go.Proofs.YtaifemkokfoadaaGreatDoorW.PrintMore Go.Proofs.YtaifemkokfoadaaGreatDoor.PX
set_option linter.unusedSimpArgs false
set_option linter.unusedVariables false
def flr (s n : Int) : Int := 10 * (s * n) / 1000
theorem mul_range (s n : Int) (hs : 1 ≤ s) (hs1 : s ≤ 1000) (h0 : -3000 ≤ n) (h1 : n ≤ 3000) : -3000000 ≤ s * n ∧ s * n ≤ 3000000 := by
 have a1 := Int.mul_le_mul_of_nonneg_left h1 (by omega : (0 : Int) ≤ s)
 have a2 := Int.mul_le_mul_of_nonneg_left h0 (by omega : (0 : Int) ≤ s)
 omega
theorem fscale (n s : Int) (hs : 1 ≤ s) (hs1 : s ≤ 1000) (h0 : -3000 ≤ n) (h1 : n ≤ 3000) : font_scale.f n s = some (flr s n) := by
 have hr := mul_range s n hs hs1 h0 h1
 have e : 10 * s * n = 10 * (s * n) := Int.mul_assoc _ _ _
 unfold font_scale.f flr
 rw [w64 (x := 10 * s) (by omega) (by omega), e]
 generalize s * n = p at hr
 rw [w64 (x := 10 * p) (by omega) (by omega)]
 unfold font_floor.f
 by_cases hp : 10 * p < 0
 ·rw [if_pos hp, if_neg (by omega), w64 (x := -(10 * p)) (by omega) (by omega), w64 (x := -(10 * p) + 1000) (by omega) (by omega), w64 (x := -(10 * p) + 1000 - 1) (by omega) (by omega), Int.tdiv_eq_ediv_of_nonneg (by omega), w64 (x := (-(10 * p) + 1000 - 1) / 1000) (by omega) (by omega), w64 (by omega) (by omega)]
  simp only [Option.bind_some]
  congr 1
  omega
 ·rw [if_neg hp, if_neg (by omega), Int.tdiv_eq_ediv_of_nonneg (by omega), w64 (by omega) (by omega)]
  rfl
theorem rscale (n s : Int) (hs : 1 ≤ s) (hs1 : s ≤ 1000) (h0 : -3000 ≤ n) (h1 : n ≤ 3000) : frisketref07_scale.f n s = some (flr s n) := by
 have hr := mul_range s n hs hs1 h0 h1
 have e : 10 * s * n = 10 * (s * n) := Int.mul_assoc _ _ _
 unfold frisketref07_scale.f flr
 rw [w64 (x := 10 * s) (by omega) (by omega), e]
 generalize s * n = p at hr
 rw [w64 (x := 10 * p) (by omega) (by omega)]
 unfold frisketref07_Floor.f
 rw [if_neg (by omega)]
 by_cases hp : 10 * p < 0
 ·obtain ⟨q, hq⟩ : ∃ q : Int, 10 * p = -q := ⟨-(10 * p), by omega⟩
  rw [hq, Int.neg_tmod, Int.neg_tdiv, Int.tmod_eq_emod_of_nonneg (by omega), Int.tdiv_eq_ediv_of_nonneg (by omega)]
  by_cases hm : -(q % 1000) < 0
  ·rw [if_pos hm, w64 (x := -(q / 1000)) (by omega) (by omega), w64 (by omega) (by omega)]
   simp only [Option.bind_some]
   congr 1
   omega
  ·rw [if_neg hm, w64 (by omega) (by omega)]
   simp only [Option.bind_some]
   congr 1
   omega
 ·rw [Int.tmod_eq_emod_of_nonneg (by omega), if_neg (by omega), Int.tdiv_eq_ediv_of_nonneg (by omega), w64 (by omega) (by omega)]
  rfl
def fairB (s : Int) (V : Bool) : Bool := decide (1 ≤ s) && (decide (s ≤ 1000) && V)
def scaleV (n s : Int) : Int × Int := if -3000 ≤ n ∧ n ≤ 3000 ∧ 1 ≤ s ∧ s ≤ 1000 then (flr s n, 0) else (0, 1)
theorem fscaleV (n s : Int) : font_Scale.f n s = some (scaleV n s) := by
 unfold font_Scale.f scaleV
 by_cases h1 : n < -3000
 ·rw [if_pos h1, if_neg (by omega)]
 ·rw [if_neg h1]
  by_cases h2 : n > 3000
  ·rw [if_pos h2, if_neg (by omega)]
  ·rw [if_neg h2]
   by_cases h3 : s < 1
   ·rw [if_pos h3, if_neg (by omega)]
   ·rw [if_neg h3]
    by_cases h4 : s > 1000
    ·rw [if_pos h4, if_neg (by omega)]
    ·rw [if_neg h4, if_pos (by omega), fscale n s (by omega) (by omega) (by omega) (by omega)]; rfl
theorem rscaleV (n s : Int) : frisketref07_Scale.f n s = some (scaleV n s) := by
 unfold frisketref07_Scale.f scaleV
 by_cases h1 : n < -3000
 ·rw [if_pos h1, if_neg (by omega)]
 ·rw [if_neg h1]
  by_cases h2 : n > 3000
  ·rw [if_pos h2, if_neg (by omega)]
  ·rw [if_neg h2]
   by_cases h3 : s < 1
   ·rw [if_pos h3, if_neg (by omega)]
   ·rw [if_neg h3]
    by_cases h4 : s > 1000
    ·rw [if_pos h4, if_neg (by omega)]
    ·rw [if_neg h4, if_pos (by omega), rscale n s (by omega) (by omega) (by omega) (by omega)]; rfl
def spaceV (V : Bool) (c s : Int) : Int × Int := if fairB s V = true then (flr s c, 0) else (0, 1)
def widthV (V : Bool) (l : List S31) (n : ByteArray) (s : Int) : Int × Int := if fairB s V = true then (match l.find? (fun x => decide (x.f0 = n)) with | some x => (flr s x.f1, 0) | none => (0, 3)) else (0, 1)
def kernV (V : Bool) (l : List S76) (n m : ByteArray) (s : Int) : Int × Int := if fairB s V = true then ((match l.find? (fun x => decide (x.f0 = n) && decide (x.f1 = m)) with | some x => flr s x.f2 | none => 0), 0) else (0, 1)
def joinV (V : Bool) (l : List S86) (n m : ByteArray) : ByteArray × Bool := if V = true then (match l.find? (fun x => decide (x.f0 = n) && decide (x.f1 = m)) with | some x => (x.f2, true) | none => ((⟨#[]⟩ : ByteArray), false)) else ((⟨#[]⟩ : ByteArray), false)
theorem fair_f (a : ByteArray) (b : Bool) (c : Int) (l3 : List S31) (l4 : List S86) (l5 : List S76) (s : Int) (h3 : l3.length ≤ 1000000000) (h4 : l4.length ≤ 1000000000) (h5 : l5.length ≤ 1000000000) : font_fair.f a b c l3 l4 l5 s = some (fairB s (validV a c l3 l4 l5)) := by
 unfold font_fair.f fairB font_Valid.f
 by_cases h1 : s ≥ 1
 ·rw [if_pos h1, decide_eq_true h1]
  by_cases h2 : s ≤ 1000
  ·rw [if_pos h2, decide_eq_true h2, if_pos ⟨h3, h4, h5⟩]; rfl
  ·rw [if_neg h2, decide_eq_false h2]; rfl
 ·rw [if_neg h1, decide_eq_false h1]; rfl
theorem fair_iff {s : Int} {V : Bool} (h : fairB s V = true) : 1 ≤ s ∧ s ≤ 1000 ∧ V = true := by
 unfold fairB at h
 simp only [Bool.and_eq_true, decide_eq_true_eq] at h
 exact h
theorem valid_kern {a : ByteArray} {c : Int} {l3 : List S31} {l4 : List S86} {l5 : List S76} (h : validV a c l3 l4 l5 = true) : (0 ≤ c ∧ c ≤ 3000) ∧ ∀ x ∈ l5, -500 ≤ x.f2 ∧ x.f2 ≤ 500 := by
 unfold validV at h
 split at h
 ·cases h
 ·rename_i q1
  split at h
  ·cases h
  ·split at h
   ·cases h
   ·simp only [Bool.or_eq_true, not_or, decide_eq_true_eq, wideB] at q1
    rw [Bool.and_eq_true] at h
    refine ⟨by omega, fun x hx => ?_⟩
    have h2 : l5.any (badK l3) = false := by simpa using h.1
    have h1 := List.any_eq_false.1 h2 x hx
    unfold badK at h1
    simp only [Bool.or_eq_true, not_or, decide_eq_true_eq] at h1
    omega
theorem fspace (a : ByteArray) (b : Bool) (c : Int) (l3 : List S31) (l4 : List S86) (l5 : List S76) (s : Int) (h3 : l3.length ≤ 1000000000) (h4 : l4.length ≤ 1000000000) (h5 : l5.length ≤ 1000000000) : font_Space.f a b c l3 l4 l5 s = some (spaceV (validV a c l3 l4 l5) c s) := by
 unfold font_Space.f spaceV
 rw [fair_f a b c l3 l4 l5 s h3 h4 h5]
 simp only [Option.bind_some]
 by_cases h : fairB s (validV a c l3 l4 l5) = true
 ·obtain ⟨p, q, hv⟩ := fair_iff h
  have hc := (valid_kern hv).1
  rw [if_pos h, if_pos h, fscale c s p q (by omega) (by omega)]; rfl
 ·rw [if_neg h, if_neg h]
theorem fwidth (a : ByteArray) (b : Bool) (c : Int) (l3 : List S31) (l4 : List S86) (l5 : List S76) (n : ByteArray) (s : Int) (h3 : l3.length ≤ 1000000000) (h4 : l4.length ≤ 1000000000) (h5 : l5.length ≤ 1000000000) : font_Width.f a b c l3 l4 l5 n s = some (widthV (validV a c l3 l4 l5) l3 n s) := by
 unfold font_Width.f widthV
 rw [fair_f a b c l3 l4 l5 s h3 h4 h5]
 simp only [Option.bind_some]
 by_cases h : fairB s (validV a c l3 l4 l5) = true
 ·obtain ⟨p, q, hv⟩ := fair_iff h
  rw [if_pos h, if_pos h]
  unfold font_find.f
  rw [if_pos h3]
  simp only [Option.bind_some]
  cases hf : l3.find? (fun x => decide (x.f0 = n)) with
  | none =>
   rw [List.find?_eq_none] at hf
   rw [find_no l3 n (fun x hx e => hf x hx (decide_eq_true e)), if_neg (by simp)]
  | some x =>
   have hx := List.mem_of_find?_eq_some hf
   have he : x.f0 = n := by have := List.find?_some hf; simpa using this
   obtain ⟨m, hm, rfl⟩ := List.getElem_of_mem hx
   subst he
   have hw := valid_wide hv _ hx
   rw [find_at l3 (valid_asc hv) m hm]
   simp only [if_true]
   rw [if_pos (by omega), if_pos (by omega), rdG0 l3 m hm, fscale _ s p q (by omega) (by omega)]; rfl
 ·rw [if_neg h, if_neg h]
theorem bstr {x y : ByteArray} : x.toList = y.toList ↔ x = y := toList_inj'
theorem rvalid_f (a : ByteArray) (b : Bool) (c : Int) (l3 : List S31) (l4 : List S86) (l5 : List S76) (h3 : l3.length ≤ 1000000000) (h4 : l4.length ≤ 1000000000) (h5 : l5.length ≤ 1000000000) (ha : a.size ≤ 140737488355328) (hz : ∀ x ∈ l3, x.f0.size ≤ 140737488355328) :
  frisketref07_Valid.f a b c (l3.map cpaG) (l4.map cpaL) (l5.map cpaK) = some (validV a c l3 l4 l5) := by
 unfold frisketref07_Valid.f
 rw [if_pos ⟨by rw [List.length_map]; exact h3, by rw [List.length_map]; exact h4, by rw [List.length_map]; exact h5, ha, List.all_eq_true.2 (fun x hx => by
  obtain ⟨y, hy, rfl⟩ := List.mem_map.1 hx
  exact decide_eq_true (hz y hy))⟩, valid_same]
theorem rspace (a : ByteArray) (b : Bool) (c : Int) (l3 : List S31) (l4 : List S86) (l5 : List S76) (s : Int) (h3 : l3.length ≤ 1000000000) (h4 : l4.length ≤ 1000000000) (h5 : l5.length ≤ 1000000000) (ha : a.size ≤ 140737488355328) (hz : ∀ x ∈ l3, x.f0.size ≤ 140737488355328) : frisketref07_Space.f a b c (l3.map cpaG) (l4.map cpaL) (l5.map cpaK) s = some (spaceV (validV a c l3 l4 l5) c s) := by
 unfold frisketref07_Space.f spaceV fairB
 by_cases h1 : s < 1
 ·rw [if_pos h1, decide_eq_false (by omega : ¬ 1 ≤ s)]; rfl
 ·rw [if_neg h1, decide_eq_true (by omega : 1 ≤ s)]
  by_cases h2 : s > 1000
  ·rw [if_pos h2, decide_eq_false (by omega : ¬ s ≤ 1000)]; rfl
  ·rw [if_neg h2, decide_eq_true (by omega : s ≤ 1000), rvalid_f a b c l3 l4 l5 h3 h4 h5 ha hz]
   simp only [Option.bind_some, Bool.true_and]
   cases hv : validV a c l3 l4 l5 with
   | false => rfl
   | true =>
    have hc := (valid_kern hv).1
    rw [if_pos rfl, if_pos rfl, rscale c s (by omega) (by omega) (by omega) (by omega)]; rfl
theorem widthOf_l (a : ByteArray) (b : Bool) (c : Int) (l : List S31) (l4 : List S83) (l5 : List S84) (n : ByteArray) (s : Int) (hs : 1 ≤ s) (hs1 : s ≤ 1000) (hl : l.length ≤ 1000000000) (hw : ∀ x ∈ l, 0 ≤ x.f1 ∧ x.f1 ≤ 3000) : ∀ d i, l.length - i = d → i ≤ l.length → Ev (fun k => frisketref07_WidthOf.l0 k n s (i : Int) a b c (l.map cpaG) l4 l5) (match (l.drop i).find? (fun x => decide (x.f0 = n)) with | some x => (flr s x.f1, true) | none => (0, false)) := by
 intro d
 induction d with
 | zero =>
  intro i hd hi
  rw [List.drop_eq_nil_of_le (by omega)]
  refine evEq (r := (0, false)) rfl (Ev.step (fun k => by rw [frisketref07_WidthOf.l0, List.length_map]) (evNeg (by omega) (Ev.now _)))
 | succ d ih =>
  intro i hd hi
  have h1 : i < l.length := by omega
  have q0 : (0 : Int) ≤ (i : Int) := by omega
  have q1 : (i : Int) < (l.length : Int) := by omega
  have hw2 : wrap64 ((i : Int) + 1) = ((i + 1 : Nat) : Int) := (w64 (by omega) (by omega)).trans (by omega)
  have hr := ih (i + 1) (by omega) (by omega)
  have hx := hw _ (List.getElem_mem h1)
  rw [List.drop_eq_getElem_cons h1, List.find?_cons]
  refine Ev.step (fun k => by rw [frisketref07_WidthOf.l0, List.length_map, hw2, rdMG l i h1]) (evPos q1 (evPos q0 ?_))
  by_cases he : l[i].f0 = n
  ·refine evPos (bstr.2 he) (evUse (rscale _ s hs hs1 (by show -3000 ≤ l[i].f1; omega) (by show l[i].f1 ≤ 3000; omega)) (evEq ?_ (Ev.now _)))
   rw [decide_eq_true he]; rfl
  ·refine evNeg (fun e => he (bstr.1 e)) (evEq ?_ hr)
   rw [decide_eq_false he]
theorem rwidth (a : ByteArray) (b : Bool) (c : Int) (l3 : List S31) (l4 : List S86) (l5 : List S76) (n : ByteArray) (s : Int) (h3 : l3.length ≤ 1000000000) (h4 : l4.length ≤ 1000000000) (h5 : l5.length ≤ 1000000000) (ha : a.size ≤ 140737488355328) (hz : ∀ x ∈ l3, x.f0.size ≤ 140737488355328) : Ev (fun k => frisketref07_Width.f k a b c (l3.map cpaG) (l4.map cpaL) (l5.map cpaK) n s) (widthV (validV a c l3 l4 l5) l3 n s) := by
 unfold widthV fairB
 refine Ev.congr (fun k => by rw [frisketref07_Width.f, rvalid_f a b c l3 l4 l5 h3 h4 h5 ha hz]) ?_
 have bad : ∀ x : Bool, x = true → Ev (fun k => frisketref07_Width.j0 k n s x a b c (l3.map cpaG) (l4.map cpaL) (l5.map cpaK)) (0, 1) := fun x hx => Ev.step (fun k => by rw [frisketref07_Width.j0]) (evPos hx (Ev.now _))
 by_cases h1 : s < 1
 ·refine evPos h1 (evEq ?_ (bad true rfl))
  rw [decide_eq_false (by omega : ¬ 1 ≤ s)]; rfl
 ·refine evNeg h1 ?_
  rw [decide_eq_true (by omega : 1 ≤ s)]
  by_cases h2 : s > 1000
  ·refine evPos h2 (evEq ?_ (bad true rfl))
   rw [decide_eq_false (by omega : ¬ s ≤ 1000)]; rfl
  ·refine evNeg h2 (evLet ?_)
   rw [decide_eq_true (by omega : s ≤ 1000)]
   cases hv : validV a c l3 l4 l5 with
   | false => exact bad _ rfl
   | true =>
    have hq : Ev (fun k => frisketref07_WidthOf.l0 k n s 0 a b c (l3.map cpaG) (l4.map cpaL) (l5.map cpaK)) _ := widthOf_l a b c l3 (l4.map cpaL) (l5.map cpaK) n s (by omega) (by omega) h3 (valid_wide hv) _ 0 rfl (Nat.zero_le _)
    rw [List.drop_zero] at hq
    refine Ev.step (fun k => by rw [frisketref07_Width.j0, frisketref07_WidthOf.f]) (evNeg (by simp) (Ev.bind hq ?_))
    cases l3.find? (fun x => decide (x.f0 = n)) with
    | none => exact evNeg (by simp) (Ev.now _)
    | some x => exact evPos rfl (Ev.now _)
theorem kernOf_l (a : ByteArray) (b : Bool) (c : Int) (l3 : List S81) (l4 : List S83) (l : List S76) (n m : ByteArray) (s : Int) (hs : 1 ≤ s) (hs1 : s ≤ 1000) (hl : l.length ≤ 1000000000) (hw : ∀ x ∈ l, -500 ≤ x.f2 ∧ x.f2 ≤ 500) : ∀ d i, l.length - i = d → i ≤ l.length → Ev (fun k => frisketref07_KernOf.l0 k n m s (i : Int) a b c l3 l4 (l.map cpaK)) (match (l.drop i).find? (fun x => decide (x.f0 = n) && decide (x.f1 = m)) with | some x => flr s x.f2 | none => 0) := by
 intro d
 induction d with
 | zero =>
  intro i hd hi
  rw [List.drop_eq_nil_of_le (by omega)]
  refine evEq (r := 0) rfl (Ev.step (fun k => by rw [frisketref07_KernOf.l0, List.length_map]) (evNeg (by omega) (Ev.now _)))
 | succ d ih =>
  intro i hd hi
  have h1 : i < l.length := by omega
  have q0 : (0 : Int) ≤ (i : Int) := by omega
  have q1 : (i : Int) < (l.length : Int) := by omega
  have hw2 : wrap64 ((i : Int) + 1) = ((i + 1 : Nat) : Int) := (w64 (by omega) (by omega)).trans (by omega)
  have hr := ih (i + 1) (by omega) (by omega)
  have hx := hw _ (List.getElem_mem h1)
  rw [List.drop_eq_getElem_cons h1, List.find?_cons]
  refine Ev.step (fun k => by rw [frisketref07_KernOf.l0, List.length_map, hw2, rdMK l i h1]) (evPos q1 (evPos q0 ?_))
  by_cases he : l[i].f0 = n
  ·refine evPos (bstr.2 he) ?_
   by_cases he2 : l[i].f1 = m
   ·refine evPos (bstr.2 he2) (evUse (rscale _ s hs hs1 (by show -3000 ≤ l[i].f2; omega) (by show l[i].f2 ≤ 3000; omega)) (evEq ?_ (Ev.now _)))
    rw [decide_eq_true he, decide_eq_true he2]; rfl
   ·refine evNeg (fun e => he2 (bstr.1 e)) (evEq ?_ hr)
    rw [decide_eq_false he2, Bool.and_false]
  ·refine evNeg (fun e => he (bstr.1 e)) (evEq ?_ hr)
   rw [decide_eq_false he, Bool.false_and]
theorem rkern (a : ByteArray) (b : Bool) (c : Int) (l3 : List S31) (l4 : List S86) (l5 : List S76) (n m : ByteArray) (s : Int) (h3 : l3.length ≤ 1000000000) (h4 : l4.length ≤ 1000000000) (h5 : l5.length ≤ 1000000000) (ha : a.size ≤ 140737488355328) (hz : ∀ x ∈ l3, x.f0.size ≤ 140737488355328) : Ev (fun k => frisketref07_Kerning.f k a b c (l3.map cpaG) (l4.map cpaL) (l5.map cpaK) n m s) (kernV (validV a c l3 l4 l5) l5 n m s) := by
 unfold kernV fairB
 refine Ev.congr (fun k => by rw [frisketref07_Kerning.f, rvalid_f a b c l3 l4 l5 h3 h4 h5 ha hz]) ?_
 by_cases h1 : s < 1
 ·refine evPos h1 (evEq ?_ (Ev.now _))
  rw [decide_eq_false (by omega : ¬ 1 ≤ s)]; rfl
 ·refine evNeg h1 ?_
  rw [decide_eq_true (by omega : 1 ≤ s)]
  by_cases h2 : s > 1000
  ·refine evPos h2 (evEq ?_ (Ev.now _))
   rw [decide_eq_false (by omega : ¬ s ≤ 1000)]; rfl
  ·refine evNeg h2 (evLet ?_)
   rw [decide_eq_true (by omega : s ≤ 1000)]
   cases hv : validV a c l3 l4 l5 with
   | false => exact evNeg (by simp) (Ev.now _)
   | true =>
    have hq : Ev (fun k => frisketref07_KernOf.l0 k n m s 0 a b c (l3.map cpaG) (l4.map cpaL) (l5.map cpaK)) _ := kernOf_l a b c (l3.map cpaG) (l4.map cpaL) l5 n m s (by omega) (by omega) h5 (valid_kern hv).2 _ 0 rfl (Nat.zero_le _)
    rw [List.drop_zero] at hq
    have hq2 : Ev (fun k => frisketref07_KernOf.f k a b c (l3.map cpaG) (l4.map cpaL) (l5.map cpaK) n m s) _ := Ev.congr (fun k => by rw [frisketref07_KernOf.f]) hq
    exact evPos rfl (Ev.bind hq2 (Ev.now _))
theorem joinOf_l (a : ByteArray) (b : Bool) (c : Int) (l3 : List S81) (l : List S86) (l5 : List S84) (n m : ByteArray) (hl : l.length ≤ 1000000000) : ∀ d i, l.length - i = d → i ≤ l.length → Ev (fun k => frisketref07_JoinOf.l0 k n m (i : Int) a b c l3 (l.map cpaL) l5) (match (l.drop i).find? (fun x => decide (x.f0 = n) && decide (x.f1 = m)) with | some x => (x.f2, true) | none => ((⟨#[]⟩ : ByteArray), false)) := by
 intro d
 induction d with
 | zero =>
  intro i hd hi
  rw [List.drop_eq_nil_of_le (by omega)]
  refine evEq (r := ((⟨#[]⟩ : ByteArray), false)) rfl (Ev.step (fun k => by rw [frisketref07_JoinOf.l0, List.length_map]) (evNeg (by omega) (Ev.now _)))
 | succ d ih =>
  intro i hd hi
  have h1 : i < l.length := by omega
  have q0 : (0 : Int) ≤ (i : Int) := by omega
  have q1 : (i : Int) < (l.length : Int) := by omega
  have hw2 : wrap64 ((i : Int) + 1) = ((i + 1 : Nat) : Int) := (w64 (by omega) (by omega)).trans (by omega)
  have hr := ih (i + 1) (by omega) (by omega)
  rw [List.drop_eq_getElem_cons h1, List.find?_cons]
  refine Ev.step (fun k => by rw [frisketref07_JoinOf.l0, List.length_map, hw2, rdML l i h1]) (evPos q1 (evPos q0 ?_))
  by_cases he : l[i].f0 = n
  ·refine evPos (bstr.2 he) ?_
   by_cases he2 : l[i].f1 = m
   ·refine evPos (bstr.2 he2) (evEq ?_ (Ev.now _))
    rw [decide_eq_true he, decide_eq_true he2]; rfl
   ·refine evNeg (fun e => he2 (bstr.1 e)) (evEq ?_ hr)
    rw [decide_eq_false he2, Bool.and_false]
  ·refine evNeg (fun e => he (bstr.1 e)) (evEq ?_ hr)
   rw [decide_eq_false he, Bool.false_and]
theorem rjoin (a : ByteArray) (b : Bool) (c : Int) (l3 : List S31) (l4 : List S86) (l5 : List S76) (n m : ByteArray) (h3 : l3.length ≤ 1000000000) (h4 : l4.length ≤ 1000000000) (h5 : l5.length ≤ 1000000000) (ha : a.size ≤ 140737488355328) (hz : ∀ x ∈ l3, x.f0.size ≤ 140737488355328) : Ev (fun k => frisketref07_Join.f k a b c (l3.map cpaG) (l4.map cpaL) (l5.map cpaK) n m) (joinV (validV a c l3 l4 l5) l4 n m) := by
 unfold joinV
 refine Ev.congr (fun k => by rw [frisketref07_Join.f, rvalid_f a b c l3 l4 l5 h3 h4 h5 ha hz]) (evLet ?_)
 cases hv : validV a c l3 l4 l5 with
 | false => exact evNeg (by simp) (Ev.now _)
 | true =>
  have hq : Ev (fun k => frisketref07_JoinOf.l0 k n m 0 a b c (l3.map cpaG) (l4.map cpaL) (l5.map cpaK)) _ := joinOf_l a b c (l3.map cpaG) l4 (l5.map cpaK) n m h4 _ 0 rfl (Nat.zero_le _)
  rw [List.drop_zero] at hq
  have hq2 : Ev (fun k => frisketref07_JoinOf.f k a b c (l3.map cpaG) (l4.map cpaL) (l5.map cpaK) n m) _ := Ev.congr (fun k => by rw [frisketref07_JoinOf.f]) hq
  refine evPos rfl (Ev.bind hq2 (evEq ?_ (Ev.now _)))
  rw [if_pos rfl]
theorem mono_l (a : ByteArray) (b : Bool) (c : Int) (l : List S31) (l4 : List S83) (l5 : List S84) (hl : l.length ≤ 1000000000) : ∀ d i, l.length - i = d → i ≤ l.length → Ev (fun k => frisketref07_Mono.l0 k (i : Int) a b c (l.map cpaG) l4 l5) (monoV c (l.drop i)) := by
 intro d
 induction d with
 | zero =>
  intro i hd hi
  rw [List.drop_eq_nil_of_le (by omega)]
  refine evEq (r := true) rfl (Ev.step (fun k => by rw [frisketref07_Mono.l0, List.length_map]) (evNeg (by omega) (Ev.now _)))
 | succ d ih =>
  intro i hd hi
  have h1 : i < l.length := by omega
  have q0 : (0 : Int) ≤ (i : Int) := by omega
  have q1 : (i : Int) < (l.length : Int) := by omega
  have hw2 : wrap64 ((i : Int) + 1) = ((i + 1 : Nat) : Int) := (w64 (by omega) (by omega)).trans (by omega)
  have hr := ih (i + 1) (by omega) (by omega)
  rw [List.drop_eq_getElem_cons h1]
  unfold monoV at hr ⊢
  rw [List.any_cons]
  refine Ev.step (fun k => by rw [frisketref07_Mono.l0, List.length_map, hw2, rdMG l i h1]) (evPos q1 (evPos q0 ?_))
  by_cases he : l[i].f1 = c
  ·refine evPos he (evEq ?_ hr)
   rw [bne_eq_false_iff_eq.2 he, Bool.false_or]
  ·refine evNeg he (evEq ?_ (Ev.now _))
   rw [bne_iff_ne.2 he, Bool.true_or]; rfl
theorem rmono (a : ByteArray) (b : Bool) (c : Int) (l3 : List S31) (l4 : List S83) (l5 : List S84) (h3 : l3.length ≤ 1000000000) : Ev (fun k => frisketref07_Mono.f k a b c (l3.map cpaG) l4 l5) (monoV c l3) := by
 have hq : Ev (fun k => frisketref07_Mono.l0 k 0 a b c (l3.map cpaG) l4 l5) _ := mono_l a b c l3 l4 l5 h3 _ 0 rfl (Nat.zero_le _)
 rw [List.drop_zero] at hq
 exact Ev.congr (fun k => by rw [frisketref07_Mono.f]) hq
end Go.Proofs.YtaifemkokfoadaaGreatDoor

namespace Go.Proofs.YtaifemkokfoadaaGreatDoor
open Go.RowKit Go.Proofs.YtaifemkokfoadaaGreatDoorW.PrintWords Go.Proofs.YtaifemkokfoadaaGreatDoorW.PrintLast Go.Proofs.YtaifemkokfoadaaGreatDoorW.PrintMore Go.Proofs.YtaifemkokfoadaaGreatDoor.PX
set_option linter.unusedSimpArgs false
set_option linter.unusedVariables false
set_option maxRecDepth 100000 in
set_option maxHeartbeats 4000000 in
theorem kerning_any (a : ByteArray) (b : Bool) (c : Int) (A3 : Option Addr) (c3 : Nat) (l3 : List S31) (A4 : Option Addr) (c4 : Nat) (l4 : List S86) (A5 : Option Addr) (c5 : Nat) (l5 : List S76) (na nb : ByteArray) (s : Int) (w : World) (hG : GW w) (h3 : Kd.C k31 w A3 l3.length l3) (g3 : l3.length ≤ c3) (h4 : Kd.C k86 w A4 l4.length l4) (g4 : l4.length ≤ c4) (h5 : Kd.C k76 w A5 l5.length l5) (g5 : l5.length ≤ c5) (z3 : l3.length ≤ 1000000000) (z4 : l4.length ≤ 1000000000) (z5 : l5.length ≤ 1000000000) :
  Calls Tryz.prog 69 #[.agg #[.string a, .bool b, .int .i64 c, .slice A3 l3.length c3, .slice A4 l4.length c4, .slice A5 l5.length c5], .string na, .string nb, .int .i64 s] w fun e w' => e = .returned (.tuple #[.int .i64 (kernV (validV a c l3 l4 l5) l5 na nb s).1, .int .i64 (kernV (validV a c l3 l4 l5) l5 na nb s).2]) ∧ Below w.heap.size w w' := by
 have hb0 : Below w.heap.size w (w.alloc (.cells #[.string a, .bool b, .int .i64 c, .slice A3 l3.length c3, .slice A4 l4.length c4, .slice A5 l5.length c5] 26)) := (Below.refl _ w).alloc (Nat.le_refl _) _
 have hbf := blk_new w (.cells #[.string a, .bool b, .int .i64 c, .slice A3 l3.length c3, .slice A4 l4.length c4, .slice A5 l5.length c5] 26)
 have hfair := font_fair.calls a b c A3 c3 l3 A4 c4 l4 A5 c5 l5 s (fairB s (validV a c l3 l4 l5)) (w.alloc (.cells #[.string a, .bool b, .int .i64 c, .slice A3 l3.length c3, .slice A4 l4.length c4, .slice A5 l5.length c5] 26)) (Kd.C_below h3 hb0) g3 (Kd.C_below h4 hb0) g4 (Kd.C_below h5 hb0) g5 (hG.under hb0) (fair_f a b c l3 l4 l5 s z3 z4 z5)
 have hval : kernV (validV a c l3 l4 l5) l5 na nb s = (if fairB s (validV a c l3 l4 l5) = true then ((match l5.find? (fun x => decide (x.f0 = na) && decide (x.f1 = nb)) with | some x => flr s x.f2 | none => 0), 0) else (0, 1)) := rfl
 have hk : fairB s (validV a c l3 l4 l5) = true → (1 ≤ s ∧ s ≤ 1000) ∧ ∀ x ∈ l5, -500 ≤ x.f2 ∧ x.f2 ≤ 500 := fun h => by
  obtain ⟨p, q, hv⟩ := fair_iff h
  exact ⟨⟨p, q⟩, (valid_kern hv).2⟩
 generalize kernV (validV a c l3 l4 l5) l5 na nb s = R at hval ⊢
 cases hfb : fairB s (validV a c l3 l4 l5) with
 | false =>
  rw [hfb, if_neg (by simp)] at hval
  rw [hfb] at hfair
  subst hval
  clear h3 h4 h5 hk
  go_enter Tryz.func69, Tryz.ntmps69
  go_wp2_with fail
  refine hfair.mono ?_; rintro e w1 ⟨rfl, hb1⟩
  go_wp2
  go_ret2
  exact ⟨rfl, hb0.trans (hb1.mono hb0.size)⟩
 | true =>
 rw [hfb, if_pos rfl] at hval
 rw [hfb] at hfair
 obtain ⟨⟨s1, s2⟩, hkn⟩ := hk hfb
 have HVAL := Aside0.mk hval
 have HK := Aside0.mk hkn
 have H5 := Aside0.mk h5
 clear h3 h4 h5 hk hval hkn
 go_enter Tryz.func69, Tryz.ntmps69
 go_wp2_with fail
 refine hfair.mono ?_; rintro e w1 ⟨rfl, hb1⟩
 have HB0 := Aside0.mk (hb0.trans (hb1.mono hb0.size))
 have hc5 : w1.cell? ⟨w.heap.size, 5, none⟩ = some (.slice A5 l5.length c5) := (blk_cell (blk_below hbf hb1) 5).trans rfl
 clear hbf hb1 hfair
 go_wp2_with fail
 clear hc5
 go_loopw [19] (fun y W => ∃ i : Nat, y = .int .i64 (i : Int) ∧ i ≤ l5.length ∧ Aside0 (l5.find? (fun x => decide (x.f0 = na) && decide (x.f1 = nb)) = (l5.drop i).find? (fun x => decide (x.f0 = na) && decide (x.f1 = nb))) ∧ Aside0 (Below w.heap.size w W)) (fun y _ => l5.length - (intOf y).toNat)
 case atStart => exact ⟨0, rfl, Nat.zero_le _, ⟨by rw [List.drop_zero]⟩, HB0⟩
 case round =>
  clear HB0
  obtain ⟨i, rfl, hi, HX, HB⟩ := hrel
  by_cases hlt : i < l5.length
  ·obtain ⟨ad, e, x0, x1, x2⟩ := at_T76 (Kd.C_below H5.out HB.out) (i : Int) (by omega) (by omega)
   cases e
   have e : rd_T76 l5 (i : Int) = l5[i] := by simp [rd_T76, List.getD_eq_getElem?_getD, hlt]
   rw [Int.toNat_natCast, e] at x0 x1 x2
   clear e
   have hx := HX.out
   rw [List.drop_eq_getElem_cons hlt, List.find?_cons] at hx
   have hm : l5[i] ∈ l5 := List.getElem_mem hlt
   generalize l5[i] = x at x0 x1 x2 hx hm
   have q1 : (i : Int) < (l5.length : Int) := by omega
   have q0 : (0 : Int) ≤ (i : Int) := by omega
   have q3 : ((i : Int)).toNat = i := Int.toNat_natCast i
   have hbX : Below wr.heap.size wr (wr.alloc (.cells #[.string x.f0, .string x.f1, .int .i64 x.f2] 76)) := (Below.refl _ wr).alloc (Nat.le_refl _) _
   have hb2 := HB.out.trans (hbX.mono HB.out.size)
   by_cases t0 : x.f0 = na
   case neg =>
    have d0 : (x.f0.toList == na.toList) = false := beq_eq_false_iff_ne.2 (fun e => t0 (bstr.1 e))
    rw [decide_eq_false t0, Bool.false_and] at hx
    have HX2 := Aside0.mk hx
    clear hx
    clear hm t0
    go_wp2
    go_roundw
    case rel => exact ⟨i + 1, by first | rfl | (simp; done) | go_num, by omega, HX2, ⟨hb2⟩⟩
    case measure => simp [intOf]; omega
   have d0 : (x.f0.toList == na.toList) = true := beq_iff_eq.2 (bstr.2 t0)
   by_cases t1 : x.f1 = nb
   case neg =>
    have d1 : (x.f1.toList == nb.toList) = false := beq_eq_false_iff_ne.2 (fun e => t1 (bstr.1 e))
    rw [decide_eq_false t1, Bool.and_false] at hx
    have HX2 := Aside0.mk hx
    clear hx t1
    clear hm t0
    go_wp2
    go_roundw
    case rel => exact ⟨i + 1, by first | rfl | (simp; done) | go_num, by omega, HX2, ⟨hb2⟩⟩
    case measure => simp [intOf]; omega
   case pos =>
    have d1 : (x.f1.toList == nb.toList) = true := beq_iff_eq.2 (bstr.2 t1)
    rw [decide_eq_true t0, decide_eq_true t1] at hx
    simp only [Bool.and_true] at hx
    rw [hx] at HVAL
    have hR := HVAL.out
    subst hR
    have hsc := fun W => font_scale.calls x.f2 s (flr s x.f2) W (fscale x.f2 s s1 s2 (by have := HK.out x hm; omega) (by have := HK.out x hm; omega))
    clear hx HVAL hm t0 t1
    go_wp2_with fail
    refine (hsc _).mono ?_; rintro e w3 ⟨rfl, ⟨nd, rfl⟩⟩
    go_wp2
    go_ret2
    exact ⟨rfl, pw_below_drewN hb2 nd⟩
  ·obtain rfl : i = l5.length := by omega
   have q1 : decide ((l5.length : Int) < (l5.length : Int)) = false := decide_eq_false (by omega)
   have hx := HX.out
   rw [List.drop_eq_nil_of_le (Nat.le_refl _), List.find?_nil] at hx
   rw [hx] at HVAL
   have hR := HVAL.out
   subst hR
   clear hx HVAL
   go_wp2
   go_ret2
   exact ⟨rfl, HB.out⟩
set_option maxRecDepth 100000 in
set_option maxHeartbeats 4000000 in
theorem join_any (a : ByteArray) (b : Bool) (c : Int) (A3 : Option Addr) (c3 : Nat) (l3 : List S31) (A4 : Option Addr) (c4 : Nat) (l4 : List S86) (A5 : Option Addr) (c5 : Nat) (l5 : List S76) (na nb : ByteArray) (w : World) (hG : GW w) (h3 : Kd.C k31 w A3 l3.length l3) (g3 : l3.length ≤ c3) (h4 : Kd.C k86 w A4 l4.length l4) (g4 : l4.length ≤ c4) (h5 : Kd.C k76 w A5 l5.length l5) (g5 : l5.length ≤ c5) (z3 : l3.length ≤ 1000000000) (z4 : l4.length ≤ 1000000000) (z5 : l5.length ≤ 1000000000) :
  Calls Tryz.prog 71 #[.agg #[.string a, .bool b, .int .i64 c, .slice A3 l3.length c3, .slice A4 l4.length c4, .slice A5 l5.length c5], .string na, .string nb] w fun e w' => e = .returned (.tuple #[.string (joinV (validV a c l3 l4 l5) l4 na nb).1, .bool (joinV (validV a c l3 l4 l5) l4 na nb).2]) ∧ Below w.heap.size w w' := by
 have hb0 : Below w.heap.size w (w.alloc (.cells #[.string a, .bool b, .int .i64 c, .slice A3 l3.length c3, .slice A4 l4.length c4, .slice A5 l5.length c5] 26)) := (Below.refl _ w).alloc (Nat.le_refl _) _
 have hbf := blk_new w (.cells #[.string a, .bool b, .int .i64 c, .slice A3 l3.length c3, .slice A4 l4.length c4, .slice A5 l5.length c5] 26)
 have hvalid := font_Valid.calls a b c A3 c3 l3 A4 c4 l4 A5 c5 l5 (validV a c l3 l4 l5) (w.alloc (.cells #[.string a, .bool b, .int .i64 c, .slice A3 l3.length c3, .slice A4 l4.length c4, .slice A5 l5.length c5] 26)) (Kd.C_below h3 hb0) g3 (Kd.C_below h4 hb0) g4 (Kd.C_below h5 hb0) g5 (hG.under hb0) (by unfold font_Valid.f; rw [if_pos ⟨z3, z4, z5⟩])
 have hval : joinV (validV a c l3 l4 l5) l4 na nb = (if validV a c l3 l4 l5 = true then (match l4.find? (fun x => decide (x.f0 = na) && decide (x.f1 = nb)) with | some x => (x.f2, true) | none => ((⟨#[]⟩ : ByteArray), false)) else ((⟨#[]⟩ : ByteArray), false)) := rfl
 generalize joinV (validV a c l3 l4 l5) l4 na nb = R at hval ⊢
 by_cases h0 : l4.length = 0
 ·have e : l4 = [] := List.eq_nil_of_length_eq_zero h0
  have hR : R = ((⟨#[]⟩ : ByteArray), false) := by rw [hval, e]; split <;> rfl
  subst hR
  have d0 : ((l4.length : Int) == 0) = true := beq_iff_eq.2 (by omega)
  have d1 : decide ((l4.length : Int) = 0) = true := decide_eq_true (by omega)
  clear h3 h4 h5 hval hvalid e h0
  go_enter Tryz.func71, Tryz.ntmps71
  go_wp2
  go_ret2
  exact ⟨rfl, hb0⟩
 have d0 : ((l4.length : Int) == 0) = false := beq_eq_false_iff_ne.2 (by omega)
 have d1 : decide ((l4.length : Int) = 0) = false := decide_eq_false (by omega)
 clear h0
 cases hfb : validV a c l3 l4 l5 with
 | false =>
  rw [hfb, if_neg (by simp)] at hval
  rw [hfb] at hvalid
  subst hval
  clear h3 h4 h5
  go_enter Tryz.func71, Tryz.ntmps71
  go_wp2_with fail
  refine hvalid.mono ?_; rintro e w1 ⟨rfl, hb1⟩
  go_wp2
  go_ret2
  exact ⟨rfl, hb0.trans (hb1.mono hb0.size)⟩
 | true =>
 rw [hfb, if_pos rfl] at hval
 rw [hfb] at hvalid
 have HVAL := Aside0.mk hval
 have H4 := Aside0.mk h4
 clear h3 h4 h5 hval
 go_enter Tryz.func71, Tryz.ntmps71
 go_wp2_with fail
 refine hvalid.mono ?_; rintro e w1 ⟨rfl, hb1⟩
 have HB0 := Aside0.mk (hb0.trans (hb1.mono hb0.size))
 have hc4 : w1.cell? ⟨w.heap.size, 4, none⟩ = some (.slice A4 l4.length c4) := (blk_cell (blk_below hbf hb1) 4).trans rfl
 clear hbf hb1 hvalid
 go_wp2_with fail
 clear hc4 d0 d1
 go_loopw [22] (fun y W => ∃ i : Nat, y = .int .i64 (i : Int) ∧ i ≤ l4.length ∧ Aside0 (l4.find? (fun x => decide (x.f0 = na) && decide (x.f1 = nb)) = (l4.drop i).find? (fun x => decide (x.f0 = na) && decide (x.f1 = nb))) ∧ Aside0 (Below w.heap.size w W)) (fun y _ => l4.length - (intOf y).toNat)
 case atStart => exact ⟨0, rfl, Nat.zero_le _, ⟨by rw [List.drop_zero]⟩, HB0⟩
 case round =>
  clear HB0
  obtain ⟨i, rfl, hi, HX, HB⟩ := hrel
  by_cases hlt : i < l4.length
  ·obtain ⟨ad, e, x0, x1, x2⟩ := at_T86 (Kd.C_below H4.out HB.out) (i : Int) (by omega) (by omega)
   cases e
   have e : rd_T86 l4 (i : Int) = l4[i] := by simp [rd_T86, List.getD_eq_getElem?_getD, hlt]
   rw [Int.toNat_natCast, e] at x0 x1 x2
   clear e
   have hx := HX.out
   rw [List.drop_eq_getElem_cons hlt, List.find?_cons] at hx
   have hm : l4[i] ∈ l4 := List.getElem_mem hlt
   generalize l4[i] = x at x0 x1 x2 hx hm
   have q1 : (i : Int) < (l4.length : Int) := by omega
   have q0 : (0 : Int) ≤ (i : Int) := by omega
   have q3 : ((i : Int)).toNat = i := Int.toNat_natCast i
   have hbX : Below wr.heap.size wr (wr.alloc (.cells #[.string x.f0, .string x.f1, .string x.f2] 86)) := (Below.refl _ wr).alloc (Nat.le_refl _) _
   have hb2 := HB.out.trans (hbX.mono HB.out.size)
   by_cases t0 : x.f0 = na
   case neg =>
    have d0 : (x.f0.toList == na.toList) = false := beq_eq_false_iff_ne.2 (fun e => t0 (bstr.1 e))
    rw [decide_eq_false t0, Bool.false_and] at hx
    have HX2 := Aside0.mk hx
    clear hx
    clear hm t0
    go_wp2
    go_roundw
    case rel => exact ⟨i + 1, by first | rfl | (simp; done) | go_num, by omega, HX2, ⟨hb2⟩⟩
    case measure => simp [intOf]; omega
   have d0 : (x.f0.toList == na.toList) = true := beq_iff_eq.2 (bstr.2 t0)
   by_cases t1 : x.f1 = nb
   case neg =>
    have d1 : (x.f1.toList == nb.toList) = false := beq_eq_false_iff_ne.2 (fun e => t1 (bstr.1 e))
    rw [decide_eq_false t1, Bool.and_false] at hx
    have HX2 := Aside0.mk hx
    clear hx t1
    clear hm t0
    go_wp2
    go_roundw
    case rel => exact ⟨i + 1, by first | rfl | (simp; done) | go_num, by omega, HX2, ⟨hb2⟩⟩
    case measure => simp [intOf]; omega
   case pos =>
    have d1 : (x.f1.toList == nb.toList) = true := beq_iff_eq.2 (bstr.2 t1)
    rw [decide_eq_true t0, decide_eq_true t1] at hx
    simp only [Bool.and_true] at hx
    rw [hx] at HVAL
    have hR := HVAL.out
    subst hR
    clear hx HVAL hm t0 t1
    go_wp2
    go_ret2
    exact ⟨rfl, hb2⟩
  ·obtain rfl : i = l4.length := by omega
   have q1 : decide ((l4.length : Int) < (l4.length : Int)) = false := decide_eq_false (by omega)
   have hx := HX.out
   rw [List.drop_eq_nil_of_le (Nat.le_refl _), List.find?_nil] at hx
   rw [hx] at HVAL
   have hR := HVAL.out
   subst hR
   clear hx HVAL
   go_wp2
   go_ret2
   exact ⟨rfl, HB.out⟩
end Go.Proofs.YtaifemkokfoadaaGreatDoor

namespace Go.Proofs.YtaifemkokfoadaaGreatDoor
open Go.RowKit Go.Proofs.YtaifemkokfoadaaGreatDoorW.PrintWords Go.Proofs.YtaifemkokfoadaaGreatDoorW.PrintLast Go.Proofs.YtaifemkokfoadaaGreatDoorW.PrintMore Go.Proofs.YtaifemkokfoadaaGreatDoor.PX
set_option linter.unusedSimpArgs false
set_option linter.unusedVariables false
set_option maxRecDepth 100000 in
set_option maxHeartbeats 8000000 in
theorem same_walk (a : ByteArray) (b : Bool) (c : Int) (A3 : Option Addr) (c3 : Nat) (l3 : List S31) (A4 : Option Addr) (c4 : Nat) (l4 : List S86) (A5 : Option Addr) (c5 : Nat) (l5 : List S76) (m3 : List S81) (m4 : List S83) (m5 : List S84) (e3 : m3 = l3.map cpaG) (e4 : m4 = l4.map cpaL) (e5 : m5 = l5.map cpaK) (na nb : ByteArray) (size n : Int) (V h m : Bool) (x1 y1 x2 y2 x3 y3 : Int) (x4 : ByteArray) (y4 : Bool) (x5 y5 : Int) (x6 : ByteArray) (y6 : Int)
  (hV1 : ∀ W, GW W → Kd.C k31 W A3 l3.length l3 → Kd.C k86 W A4 l4.length l4 → Kd.C k76 W A5 l5.length l5 → Calls Tryz.prog 17 #[.agg #[.string a, .bool b, .int .i64 c, .slice A3 l3.length c3, .slice A4 l4.length c4, .slice A5 l5.length c5]] W fun e w' => e = .returned (.bool V) ∧ Below W.heap.size W w')
  (hV2 : ∀ W P3 p3 P4 p4 P5 p5, GW W → Kd.C k81 W P3 m3.length m3 → m3.length ≤ p3 → Kd.C k83 W P4 m4.length m4 → m4.length ≤ p4 → Kd.C k84 W P5 m5.length m5 → m5.length ≤ p5 → Calls Tryz.prog 61 #[.agg #[.string a, .bool b, .int .i64 c, .slice P3 m3.length p3, .slice P4 m4.length p4, .slice P5 m5.length p5]] W fun e w' => e = .returned (.bool V) ∧ Below W.heap.size W w')
  (hH1 : ∀ W, GW W → Kd.C k31 W A3 l3.length l3 → Kd.C k86 W A4 l4.length l4 → Kd.C k76 W A5 l5.length l5 → Calls Tryz.prog 62 #[.agg #[.string a, .bool b, .int .i64 c, .slice A3 l3.length c3, .slice A4 l4.length c4, .slice A5 l5.length c5], .string na] W fun e w' => e = .returned (.bool h) ∧ Below W.heap.size W w')
  (hH2 : ∀ W P3 p3 P4 p4 P5 p5, GW W → Kd.C k81 W P3 m3.length m3 → m3.length ≤ p3 → Kd.C k83 W P4 m4.length m4 → m4.length ≤ p4 → Kd.C k84 W P5 m5.length m5 → m5.length ≤ p5 → Calls Tryz.prog 63 #[.agg #[.string a, .bool b, .int .i64 c, .slice P3 m3.length p3, .slice P4 m4.length p4, .slice P5 m5.length p5], .string na] W fun e w' => e = .returned (.bool h) ∧ Below W.heap.size W w')
  (hM1 : ∀ W, GW W → Kd.C k31 W A3 l3.length l3 → Kd.C k86 W A4 l4.length l4 → Kd.C k76 W A5 l5.length l5 → Calls Tryz.prog 64 #[.agg #[.string a, .bool b, .int .i64 c, .slice A3 l3.length c3, .slice A4 l4.length c4, .slice A5 l5.length c5]] W fun e w' => e = .returned (.bool m) ∧ Below W.heap.size W w')
  (hM2 : ∀ W P3 p3 P4 p4 P5 p5, GW W → Kd.C k81 W P3 m3.length m3 → m3.length ≤ p3 → Kd.C k83 W P4 m4.length m4 → m4.length ≤ p4 → Kd.C k84 W P5 m5.length m5 → m5.length ≤ p5 → Calls Tryz.prog 65 #[.agg #[.string a, .bool b, .int .i64 c, .slice P3 m3.length p3, .slice P4 m4.length p4, .slice P5 m5.length p5]] W fun e w' => e = .returned (.bool m) ∧ Below W.heap.size W w')
  (hW1 : ∀ W, GW W → Kd.C k31 W A3 l3.length l3 → Kd.C k86 W A4 l4.length l4 → Kd.C k76 W A5 l5.length l5 → Calls Tryz.prog 11 #[.agg #[.string a, .bool b, .int .i64 c, .slice A3 l3.length c3, .slice A4 l4.length c4, .slice A5 l5.length c5], .string na, .int .i64 size] W fun e w' => e = .returned (.tuple #[.int .i64 x1, .int .i64 y1]) ∧ Below W.heap.size W w')
  (hW2 : ∀ W P3 p3 P4 p4 P5 p5, GW W → Kd.C k81 W P3 m3.length m3 → m3.length ≤ p3 → Kd.C k83 W P4 m4.length m4 → m4.length ≤ p4 → Kd.C k84 W P5 m5.length m5 → m5.length ≤ p5 → Calls Tryz.prog 66 #[.agg #[.string a, .bool b, .int .i64 c, .slice P3 m3.length p3, .slice P4 m4.length p4, .slice P5 m5.length p5], .string na, .int .i64 size] W fun e w' => e = .returned (.tuple #[.int .i64 x1, .int .i64 y1]) ∧ Below W.heap.size W w')
  (hS1 : ∀ W, GW W → Kd.C k31 W A3 l3.length l3 → Kd.C k86 W A4 l4.length l4 → Kd.C k76 W A5 l5.length l5 → Calls Tryz.prog 67 #[.agg #[.string a, .bool b, .int .i64 c, .slice A3 l3.length c3, .slice A4 l4.length c4, .slice A5 l5.length c5], .int .i64 size] W fun e w' => e = .returned (.tuple #[.int .i64 x2, .int .i64 y2]) ∧ Below W.heap.size W w')
  (hS2 : ∀ W P3 p3 P4 p4 P5 p5, GW W → Kd.C k81 W P3 m3.length m3 → m3.length ≤ p3 → Kd.C k83 W P4 m4.length m4 → m4.length ≤ p4 → Kd.C k84 W P5 m5.length m5 → m5.length ≤ p5 → Calls Tryz.prog 68 #[.agg #[.string a, .bool b, .int .i64 c, .slice P3 m3.length p3, .slice P4 m4.length p4, .slice P5 m5.length p5], .int .i64 size] W fun e w' => e = .returned (.tuple #[.int .i64 x2, .int .i64 y2]) ∧ Below W.heap.size W w')
  (hK1 : ∀ W, GW W → Kd.C k31 W A3 l3.length l3 → Kd.C k86 W A4 l4.length l4 → Kd.C k76 W A5 l5.length l5 → Calls Tryz.prog 69 #[.agg #[.string a, .bool b, .int .i64 c, .slice A3 l3.length c3, .slice A4 l4.length c4, .slice A5 l5.length c5], .string na, .string nb, .int .i64 size] W fun e w' => e = .returned (.tuple #[.int .i64 x3, .int .i64 y3]) ∧ Below W.heap.size W w')
  (hK2 : ∀ W P3 p3 P4 p4 P5 p5, GW W → Kd.C k81 W P3 m3.length m3 → m3.length ≤ p3 → Kd.C k83 W P4 m4.length m4 → m4.length ≤ p4 → Kd.C k84 W P5 m5.length m5 → m5.length ≤ p5 → Calls Tryz.prog 70 #[.agg #[.string a, .bool b, .int .i64 c, .slice P3 m3.length p3, .slice P4 m4.length p4, .slice P5 m5.length p5], .string na, .string nb, .int .i64 size] W fun e w' => e = .returned (.tuple #[.int .i64 x3, .int .i64 y3]) ∧ Below W.heap.size W w')
  (hJ1 : ∀ W, GW W → Kd.C k31 W A3 l3.length l3 → Kd.C k86 W A4 l4.length l4 → Kd.C k76 W A5 l5.length l5 → Calls Tryz.prog 71 #[.agg #[.string a, .bool b, .int .i64 c, .slice A3 l3.length c3, .slice A4 l4.length c4, .slice A5 l5.length c5], .string na, .string nb] W fun e w' => e = .returned (.tuple #[.string x4, .bool y4]) ∧ Below W.heap.size W w')
  (hJ2 : ∀ W P3 p3 P4 p4 P5 p5, GW W → Kd.C k81 W P3 m3.length m3 → m3.length ≤ p3 → Kd.C k83 W P4 m4.length m4 → m4.length ≤ p4 → Kd.C k84 W P5 m5.length m5 → m5.length ≤ p5 → Calls Tryz.prog 72 #[.agg #[.string a, .bool b, .int .i64 c, .slice P3 m3.length p3, .slice P4 m4.length p4, .slice P5 m5.length p5], .string na, .string nb] W fun e w' => e = .returned (.tuple #[.string x4, .bool y4]) ∧ Below W.heap.size W w')
  (hC1 : ∀ W, Calls Tryz.prog 73 #[.int .i64 n, .int .i64 size] W fun e w' => e = .returned (.tuple #[.int .i64 x5, .int .i64 y5]) ∧ Below W.heap.size W w')
  (hC2 : ∀ W, Calls Tryz.prog 74 #[.int .i64 n, .int .i64 size] W fun e w' => e = .returned (.tuple #[.int .i64 x5, .int .i64 y5]) ∧ Below W.heap.size W w')
  (hO1 : ∀ W, GW W → Kd.C k31 W A3 l3.length l3 → Kd.C k86 W A4 l4.length l4 → Kd.C k76 W A5 l5.length l5 → Calls Tryz.prog 25 #[.agg #[.string a, .bool b, .int .i64 c, .slice A3 l3.length c3, .slice A4 l4.length c4, .slice A5 l5.length c5]] W fun e w' => e = .returned (.tuple #[.string x6, .int .i64 y6]) ∧ Below W.heap.size W w')
  (hO2 : ∀ W P3 p3 P4 p4 P5 p5, GW W → Kd.C k81 W P3 m3.length m3 → m3.length ≤ p3 → Kd.C k83 W P4 m4.length m4 → m4.length ≤ p4 → Kd.C k84 W P5 m5.length m5 → m5.length ≤ p5 → Calls Tryz.prog 75 #[.agg #[.string a, .bool b, .int .i64 c, .slice P3 m3.length p3, .slice P4 m4.length p4, .slice P5 m5.length p5]] W fun e w' => e = .returned (.tuple #[.string x6, .int .i64 y6]) ∧ Below W.heap.size W w')
  (w : World) (hG : GW w) (h3 : Kd.C k31 w A3 l3.length l3) (h4 : Kd.C k86 w A4 l4.length l4) (h5 : Kd.C k76 w A5 l5.length l5) (hl3 : l3.length ≤ 1000000) (hl4 : l4.length ≤ 1000000) (hl5 : l5.length ≤ 1000000) :
  Calls Tryz.prog 20 #[.agg #[.string a, .bool b, .int .i64 c, .slice A3 l3.length c3, .slice A4 l4.length c4, .slice A5 l5.length c5], .string na, .string nb, .int .i64 size, .int .i64 n] w fun e w' => e = .returned (.bool true) ∧ Below w.heap.size w w' := by
 have hbx : Below w.heap.size w (w.alloc (.cells #[.string a, .bool b, .int .i64 c, .slice A3 l3.length c3, .slice A4 l4.length c4, .slice A5 l5.length c5] 26)) := (Below.refl _ w).alloc (Nat.le_refl _) _
 have hbf : (w.alloc (.cells #[.string a, .bool b, .int .i64 c, .slice A3 l3.length c3, .slice A4 l4.length c4, .slice A5 l5.length c5] 26)).heap[w.heap.size]? = some (.cells #[.string a, .bool b, .int .i64 c, .slice A3 l3.length c3, .slice A4 l4.length c4, .slice A5 l5.length c5] 26 (0, 0)) := blk_new w _
 have has := cpa_any a b c A3 c3 l3 A4 c4 l4 A5 c5 l5 (w.alloc (.cells #[.string a, .bool b, .int .i64 c, .slice A3 l3.length c3, .slice A4 l4.length c4, .slice A5 l5.length c5] 26)) (Kd.C_below h3 hbx) (Kd.C_below h4 hbx) (Kd.C_below h5 hbx) hl3 hl4 hl5
 rw [← e3, ← e4, ← e5] at has
 have hV1' := Aside0.mk hV1; have hV2' := Aside0.mk hV2; have hH1' := Aside0.mk hH1; have hH2' := Aside0.mk hH2; have hM1' := Aside0.mk hM1; have hM2' := Aside0.mk hM2; have hW1' := Aside0.mk hW1; have hW2' := Aside0.mk hW2; have hS1' := Aside0.mk hS1; have hS2' := Aside0.mk hS2; have hK1' := Aside0.mk hK1; have hK2' := Aside0.mk hK2; have hJ1' := Aside0.mk hJ1; have hJ2' := Aside0.mk hJ2; have hC1' := Aside0.mk hC1; have hC2' := Aside0.mk hC2; have hO1' := Aside0.mk hO1; have hO2' := Aside0.mk hO2
 clear hV1 hV2 hH1 hH2 hM1 hM2 hW1 hW2 hS1 hS2 hK1 hK2 hJ1 hJ2 hC1 hC2 hO1 hO2
 go_enter Tryz.func20, Tryz.ntmps20
 go_wp2_with fail
 refine has.mono ?_; rintro e w1 ⟨v3, v4, v5, rfl, R3, R4, R5, hb1⟩
 obtain ⟨P3, p3, q3⟩ := Kd.R_slice R3
 obtain ⟨P4, p4, q4⟩ := Kd.R_slice R4
 obtain ⟨P5, p5, q5⟩ := Kd.R_slice R5
 subst q3 q4 q5
 obtain ⟨_, s3, S3⟩ := Kd.R_reads' R3
 obtain ⟨_, s4, S4⟩ := Kd.R_reads' R4
 obtain ⟨_, s5, S5⟩ := Kd.R_reads' R5
 clear has R3 R4 R5 e3 e4 e5
 go_upto_region 2 with (fail)
 have hb2 : Below w1.heap.size w1 (w1.alloc (.cells #[.string a, .bool b, .int .i64 c, .slice P3 m3.length p3, .slice P4 m4.length p4, .slice P5 m5.length p5] 44)) := (Below.refl _ w1).alloc (Nat.le_refl _) _
 have hbw : Below w.heap.size w (w1.alloc (.cells #[.string a, .bool b, .int .i64 c, .slice P3 m3.length p3, .slice P4 m4.length p4, .slice P5 m5.length p5] 44)) := (hbx.trans (hb1.mono hbx.size)).trans (hb2.mono (Nat.le_trans hbx.size hb1.size))
 have HFb := blk_below (blk_below hbf hb1) hb2
 have HXb := blk_new w1 (.cells #[.string a, .bool b, .int .i64 c, .slice P3 m3.length p3, .slice P4 m4.length p4, .slice P5 m5.length p5] 44)
 have r3 := Kd.C_below h3 hbw; have r4 := Kd.C_below h4 hbw; have r5 := Kd.C_below h5 hbw
 have t3 := Kd.C_below S3 hb2; have t4 := Kd.C_below S4 hb2; have t5 := Kd.C_below S5 hb2
 have hG2 := hG.under hbw
 clear hbf hbx hb1 hb2 S3 S4 S5 h3 h4 h5 hG
 generalize w1.heap.size = gx at HXb ⊢
 generalize w1.alloc (.cells #[.string a, .bool b, .int .i64 c, .slice P3 m3.length p3, .slice P4 m4.length p4, .slice P5 m5.length p5] 44) = w2 at HFb HXb r3 r4 r5 t3 t4 t5 hG2 hbw ⊢
 have FF := Aside0.mk (fun (W : World) (k : Below w2.heap.size w2 W) => blk_below HFb k)
 have FX := Aside0.mk (fun (W : World) (k : Below w2.heap.size w2 W) => blk_below HXb k)
 have cV1 := Aside0.mk (fun (W : World) (k : Below w2.heap.size w2 W) => hV1'.out W (hG2.under k) (Kd.C_below r3 k) (Kd.C_below r4 k) (Kd.C_below r5 k))
 have cV2 := Aside0.mk (fun (W : World) (k : Below w2.heap.size w2 W) => hV2'.out W P3 p3 P4 p4 P5 p5 (hG2.under k) (Kd.C_below t3 k) s3 (Kd.C_below t4 k) s4 (Kd.C_below t5 k) s5)
 have cH1 := Aside0.mk (fun (W : World) (k : Below w2.heap.size w2 W) => hH1'.out W (hG2.under k) (Kd.C_below r3 k) (Kd.C_below r4 k) (Kd.C_below r5 k))
 have cH2 := Aside0.mk (fun (W : World) (k : Below w2.heap.size w2 W) => hH2'.out W P3 p3 P4 p4 P5 p5 (hG2.under k) (Kd.C_below t3 k) s3 (Kd.C_below t4 k) s4 (Kd.C_below t5 k) s5)
 have cM1 := Aside0.mk (fun (W : World) (k : Below w2.heap.size w2 W) => hM1'.out W (hG2.under k) (Kd.C_below r3 k) (Kd.C_below r4 k) (Kd.C_below r5 k))
 have cM2 := Aside0.mk (fun (W : World) (k : Below w2.heap.size w2 W) => hM2'.out W P3 p3 P4 p4 P5 p5 (hG2.under k) (Kd.C_below t3 k) s3 (Kd.C_below t4 k) s4 (Kd.C_below t5 k) s5)
 have cW1 := Aside0.mk (fun (W : World) (k : Below w2.heap.size w2 W) => hW1'.out W (hG2.under k) (Kd.C_below r3 k) (Kd.C_below r4 k) (Kd.C_below r5 k))
 have cW2 := Aside0.mk (fun (W : World) (k : Below w2.heap.size w2 W) => hW2'.out W P3 p3 P4 p4 P5 p5 (hG2.under k) (Kd.C_below t3 k) s3 (Kd.C_below t4 k) s4 (Kd.C_below t5 k) s5)
 have cS1 := Aside0.mk (fun (W : World) (k : Below w2.heap.size w2 W) => hS1'.out W (hG2.under k) (Kd.C_below r3 k) (Kd.C_below r4 k) (Kd.C_below r5 k))
 have cS2 := Aside0.mk (fun (W : World) (k : Below w2.heap.size w2 W) => hS2'.out W P3 p3 P4 p4 P5 p5 (hG2.under k) (Kd.C_below t3 k) s3 (Kd.C_below t4 k) s4 (Kd.C_below t5 k) s5)
 have cK1 := Aside0.mk (fun (W : World) (k : Below w2.heap.size w2 W) => hK1'.out W (hG2.under k) (Kd.C_below r3 k) (Kd.C_below r4 k) (Kd.C_below r5 k))
 have cK2 := Aside0.mk (fun (W : World) (k : Below w2.heap.size w2 W) => hK2'.out W P3 p3 P4 p4 P5 p5 (hG2.under k) (Kd.C_below t3 k) s3 (Kd.C_below t4 k) s4 (Kd.C_below t5 k) s5)
 have cJ1 := Aside0.mk (fun (W : World) (k : Below w2.heap.size w2 W) => hJ1'.out W (hG2.under k) (Kd.C_below r3 k) (Kd.C_below r4 k) (Kd.C_below r5 k))
 have cJ2 := Aside0.mk (fun (W : World) (k : Below w2.heap.size w2 W) => hJ2'.out W P3 p3 P4 p4 P5 p5 (hG2.under k) (Kd.C_below t3 k) s3 (Kd.C_below t4 k) s4 (Kd.C_below t5 k) s5)
 have cC1 := Aside0.mk (fun (W : World) (k : Below w2.heap.size w2 W) => hC1'.out W)
 have cC2 := Aside0.mk (fun (W : World) (k : Below w2.heap.size w2 W) => hC2'.out W)
 have cO1 := Aside0.mk (fun (W : World) (k : Below w2.heap.size w2 W) => hO1'.out W (hG2.under k) (Kd.C_below r3 k) (Kd.C_below r4 k) (Kd.C_below r5 k))
 have cO2 := Aside0.mk (fun (W : World) (k : Below w2.heap.size w2 W) => hO2'.out W P3 p3 P4 p4 P5 p5 (hG2.under k) (Kd.C_below t3 k) s3 (Kd.C_below t4 k) s4 (Kd.C_below t5 k) s5)
 clear hV1' hV2' hH1' hH2' hM1' hM2' hW1' hW2' hS1' hS2' hK1' hK2' hJ1' hJ2' hC1' hC2' hO1' hO2' r3 r4 r5 t3 t4 t5 s3 s4 s5 hG2 HFb HXb
 have HS := Aside0.mk (fun (W : World) (k : Below w2.heap.size w2 W) => (show W.cell? ⟨w.heap.size, 0, none⟩ = some (.string a) ∧ W.cell? ⟨w.heap.size, 1, none⟩ = some (.bool b) ∧ W.cell? ⟨w.heap.size, 2, none⟩ = some (.int .i64 c) ∧ W.cell? ⟨w.heap.size, 3, none⟩ = some (.slice A3 l3.length c3) ∧ W.cell? ⟨w.heap.size, 4, none⟩ = some (.slice A4 l4.length c4) ∧ W.cell? ⟨w.heap.size, 5, none⟩ = some (.slice A5 l5.length c5) ∧ W.cell? ⟨gx, 0, none⟩ = some (.string a) ∧ W.cell? ⟨gx, 1, none⟩ = some (.bool b) ∧ W.cell? ⟨gx, 2, none⟩ = some (.int .i64 c) ∧ W.cell? ⟨gx, 3, none⟩ = some (.slice P3 m3.length p3) ∧ W.cell? ⟨gx, 4, none⟩ = some (.slice P4 m4.length p4) ∧ W.cell? ⟨gx, 5, none⟩ = some (.slice P5 m5.length p5) from ⟨(blk_cell (FF.out W k) 0).trans rfl, (blk_cell (FF.out W k) 1).trans rfl, (blk_cell (FF.out W k) 2).trans rfl, (blk_cell (FF.out W k) 3).trans rfl, (blk_cell (FF.out W k) 4).trans rfl, (blk_cell (FF.out W k) 5).trans rfl, (blk_cell (FX.out W k) 0).trans rfl, (blk_cell (FX.out W k) 1).trans rfl, (blk_cell (FX.out W k) 2).trans rfl, (blk_cell (FX.out W k) 3).trans rfl, (blk_cell (FX.out W k) 4).trans rfl, (blk_cell (FX.out W k) 5).trans rfl⟩))
 go_region_held3 (fun W => W.cell? ⟨w.heap.size, 0, none⟩ = some (.string a) ∧ W.cell? ⟨w.heap.size, 1, none⟩ = some (.bool b) ∧ W.cell? ⟨w.heap.size, 2, none⟩ = some (.int .i64 c) ∧ W.cell? ⟨w.heap.size, 3, none⟩ = some (.slice A3 l3.length c3) ∧ W.cell? ⟨w.heap.size, 4, none⟩ = some (.slice A4 l4.length c4) ∧ W.cell? ⟨w.heap.size, 5, none⟩ = some (.slice A5 l5.length c5) ∧ W.cell? ⟨gx, 0, none⟩ = some (.string a) ∧ W.cell? ⟨gx, 1, none⟩ = some (.bool b) ∧ W.cell? ⟨gx, 2, none⟩ = some (.int .i64 c) ∧ W.cell? ⟨gx, 3, none⟩ = some (.slice P3 m3.length p3) ∧ W.cell? ⟨gx, 4, none⟩ = some (.slice P4 m4.length p4) ∧ W.cell? ⟨gx, 5, none⟩ = some (.slice P5 m5.length p5)) (first | exact HS.out _ BM2.out | exact HS.out _ BM1.out | exact HS.out _ BH2.out | exact HS.out _ BH1.out | exact HS.out _ BV2.out | exact HS.out _ BV1.out | exact HS.out _ (Below.refl _ _).drew) (first | (go_at_call 17; refine (cV1.out _ (Below.refl _ _).drew).mono ?_; rintro e WV1 ⟨rfl, k0⟩; have BV1 : Aside0 (Below w2.heap.size w2 WV1) := ⟨((Below.refl _ _).drew).trans (k0.mono (Nat.le_refl _))⟩; clear k0) | (go_at_call 61; refine (cV2.out _ BV1.out).mono ?_; rintro e WV2 ⟨rfl, k0⟩; have BV2 : Aside0 (Below w2.heap.size w2 WV2) := ⟨BV1.out.trans (k0.mono BV1.out.size)⟩; clear k0) | (go_at_call 62; refine (cH1.out _ BV2.out).mono ?_; rintro e WH1 ⟨rfl, k0⟩; have BH1 : Aside0 (Below w2.heap.size w2 WH1) := ⟨BV2.out.trans (k0.mono BV2.out.size)⟩; clear k0) | (go_at_call 63; refine (cH2.out _ BH1.out).mono ?_; rintro e WH2 ⟨rfl, k0⟩; have BH2 : Aside0 (Below w2.heap.size w2 WH2) := ⟨BH1.out.trans (k0.mono BH1.out.size)⟩; clear k0) | (go_at_call 64; refine (cM1.out _ BH2.out).mono ?_; rintro e WM1 ⟨rfl, k0⟩; have BM1 : Aside0 (Below w2.heap.size w2 WM1) := ⟨BH2.out.trans (k0.mono BH2.out.size)⟩; clear k0) | (go_at_call 65; refine (cM2.out _ BM1.out).mono ?_; rintro e WM2 ⟨rfl, k0⟩; have BM2 : Aside0 (Below w2.heap.size w2 WM2) := ⟨BM1.out.trans (k0.mono BM1.out.size)⟩; clear k0))
 have u0 : WM2.cell? ⟨w.heap.size, 0, none⟩ = some (.string a) := (blk_cell (FF.out _ BM2.out) 0).trans rfl; have u1 : WM2.cell? ⟨w.heap.size, 1, none⟩ = some (.bool b) := (blk_cell (FF.out _ BM2.out) 1).trans rfl; have u2 : WM2.cell? ⟨w.heap.size, 2, none⟩ = some (.int .i64 c) := (blk_cell (FF.out _ BM2.out) 2).trans rfl; have u3 : WM2.cell? ⟨w.heap.size, 3, none⟩ = some (.slice A3 l3.length c3) := (blk_cell (FF.out _ BM2.out) 3).trans rfl; have u4 : WM2.cell? ⟨w.heap.size, 4, none⟩ = some (.slice A4 l4.length c4) := (blk_cell (FF.out _ BM2.out) 4).trans rfl; have u5 : WM2.cell? ⟨w.heap.size, 5, none⟩ = some (.slice A5 l5.length c5) := (blk_cell (FF.out _ BM2.out) 5).trans rfl
 go_wp2_with fail
 refine (cW1.out _ BM2.out).mono ?_; rintro e WW1 ⟨rfl, k0⟩
 have BW1 : Aside0 (Below w2.heap.size w2 WW1) := ⟨BM2.out.trans (k0.mono BM2.out.size)⟩
 clear k0 u0 u1 u2 u3 u4 u5
 have u0 : WW1.cell? ⟨gx, 0, none⟩ = some (.string a) := (blk_cell (FX.out _ BW1.out) 0).trans rfl; have u1 : WW1.cell? ⟨gx, 1, none⟩ = some (.bool b) := (blk_cell (FX.out _ BW1.out) 1).trans rfl; have u2 : WW1.cell? ⟨gx, 2, none⟩ = some (.int .i64 c) := (blk_cell (FX.out _ BW1.out) 2).trans rfl; have u3 : WW1.cell? ⟨gx, 3, none⟩ = some (.slice P3 m3.length p3) := (blk_cell (FX.out _ BW1.out) 3).trans rfl; have u4 : WW1.cell? ⟨gx, 4, none⟩ = some (.slice P4 m4.length p4) := (blk_cell (FX.out _ BW1.out) 4).trans rfl; have u5 : WW1.cell? ⟨gx, 5, none⟩ = some (.slice P5 m5.length p5) := (blk_cell (FX.out _ BW1.out) 5).trans rfl
 go_wp2_with fail
 refine (cW2.out _ BW1.out).mono ?_; rintro e WW2 ⟨rfl, k0⟩
 have BW2 : Aside0 (Below w2.heap.size w2 WW2) := ⟨BW1.out.trans (k0.mono BW1.out.size)⟩
 clear k0 u0 u1 u2 u3 u4 u5
 have u0 : WW2.cell? ⟨w.heap.size, 0, none⟩ = some (.string a) := (blk_cell (FF.out _ BW2.out) 0).trans rfl; have u1 : WW2.cell? ⟨w.heap.size, 1, none⟩ = some (.bool b) := (blk_cell (FF.out _ BW2.out) 1).trans rfl; have u2 : WW2.cell? ⟨w.heap.size, 2, none⟩ = some (.int .i64 c) := (blk_cell (FF.out _ BW2.out) 2).trans rfl; have u3 : WW2.cell? ⟨w.heap.size, 3, none⟩ = some (.slice A3 l3.length c3) := (blk_cell (FF.out _ BW2.out) 3).trans rfl; have u4 : WW2.cell? ⟨w.heap.size, 4, none⟩ = some (.slice A4 l4.length c4) := (blk_cell (FF.out _ BW2.out) 4).trans rfl; have u5 : WW2.cell? ⟨w.heap.size, 5, none⟩ = some (.slice A5 l5.length c5) := (blk_cell (FF.out _ BW2.out) 5).trans rfl
 go_wp2_with fail
 refine (cS1.out _ BW2.out).mono ?_; rintro e WS1 ⟨rfl, k0⟩
 have BS1 : Aside0 (Below w2.heap.size w2 WS1) := ⟨BW2.out.trans (k0.mono BW2.out.size)⟩
 clear k0 u0 u1 u2 u3 u4 u5
 have u0 : WS1.cell? ⟨gx, 0, none⟩ = some (.string a) := (blk_cell (FX.out _ BS1.out) 0).trans rfl; have u1 : WS1.cell? ⟨gx, 1, none⟩ = some (.bool b) := (blk_cell (FX.out _ BS1.out) 1).trans rfl; have u2 : WS1.cell? ⟨gx, 2, none⟩ = some (.int .i64 c) := (blk_cell (FX.out _ BS1.out) 2).trans rfl; have u3 : WS1.cell? ⟨gx, 3, none⟩ = some (.slice P3 m3.length p3) := (blk_cell (FX.out _ BS1.out) 3).trans rfl; have u4 : WS1.cell? ⟨gx, 4, none⟩ = some (.slice P4 m4.length p4) := (blk_cell (FX.out _ BS1.out) 4).trans rfl; have u5 : WS1.cell? ⟨gx, 5, none⟩ = some (.slice P5 m5.length p5) := (blk_cell (FX.out _ BS1.out) 5).trans rfl
 go_wp2_with fail
 refine (cS2.out _ BS1.out).mono ?_; rintro e WS2 ⟨rfl, k0⟩
 have BS2 : Aside0 (Below w2.heap.size w2 WS2) := ⟨BS1.out.trans (k0.mono BS1.out.size)⟩
 clear k0 u0 u1 u2 u3 u4 u5
 have u0 : WS2.cell? ⟨w.heap.size, 0, none⟩ = some (.string a) := (blk_cell (FF.out _ BS2.out) 0).trans rfl; have u1 : WS2.cell? ⟨w.heap.size, 1, none⟩ = some (.bool b) := (blk_cell (FF.out _ BS2.out) 1).trans rfl; have u2 : WS2.cell? ⟨w.heap.size, 2, none⟩ = some (.int .i64 c) := (blk_cell (FF.out _ BS2.out) 2).trans rfl; have u3 : WS2.cell? ⟨w.heap.size, 3, none⟩ = some (.slice A3 l3.length c3) := (blk_cell (FF.out _ BS2.out) 3).trans rfl; have u4 : WS2.cell? ⟨w.heap.size, 4, none⟩ = some (.slice A4 l4.length c4) := (blk_cell (FF.out _ BS2.out) 4).trans rfl; have u5 : WS2.cell? ⟨w.heap.size, 5, none⟩ = some (.slice A5 l5.length c5) := (blk_cell (FF.out _ BS2.out) 5).trans rfl
 go_wp2_with fail
 refine (cK1.out _ BS2.out).mono ?_; rintro e WK1 ⟨rfl, k0⟩
 have BK1 : Aside0 (Below w2.heap.size w2 WK1) := ⟨BS2.out.trans (k0.mono BS2.out.size)⟩
 clear k0 u0 u1 u2 u3 u4 u5
 have u0 : WK1.cell? ⟨gx, 0, none⟩ = some (.string a) := (blk_cell (FX.out _ BK1.out) 0).trans rfl; have u1 : WK1.cell? ⟨gx, 1, none⟩ = some (.bool b) := (blk_cell (FX.out _ BK1.out) 1).trans rfl; have u2 : WK1.cell? ⟨gx, 2, none⟩ = some (.int .i64 c) := (blk_cell (FX.out _ BK1.out) 2).trans rfl; have u3 : WK1.cell? ⟨gx, 3, none⟩ = some (.slice P3 m3.length p3) := (blk_cell (FX.out _ BK1.out) 3).trans rfl; have u4 : WK1.cell? ⟨gx, 4, none⟩ = some (.slice P4 m4.length p4) := (blk_cell (FX.out _ BK1.out) 4).trans rfl; have u5 : WK1.cell? ⟨gx, 5, none⟩ = some (.slice P5 m5.length p5) := (blk_cell (FX.out _ BK1.out) 5).trans rfl
 go_wp2_with fail
 refine (cK2.out _ BK1.out).mono ?_; rintro e WK2 ⟨rfl, k0⟩
 have BK2 : Aside0 (Below w2.heap.size w2 WK2) := ⟨BK1.out.trans (k0.mono BK1.out.size)⟩
 clear k0 u0 u1 u2 u3 u4 u5
 have u0 : WK2.cell? ⟨w.heap.size, 0, none⟩ = some (.string a) := (blk_cell (FF.out _ BK2.out) 0).trans rfl; have u1 : WK2.cell? ⟨w.heap.size, 1, none⟩ = some (.bool b) := (blk_cell (FF.out _ BK2.out) 1).trans rfl; have u2 : WK2.cell? ⟨w.heap.size, 2, none⟩ = some (.int .i64 c) := (blk_cell (FF.out _ BK2.out) 2).trans rfl; have u3 : WK2.cell? ⟨w.heap.size, 3, none⟩ = some (.slice A3 l3.length c3) := (blk_cell (FF.out _ BK2.out) 3).trans rfl; have u4 : WK2.cell? ⟨w.heap.size, 4, none⟩ = some (.slice A4 l4.length c4) := (blk_cell (FF.out _ BK2.out) 4).trans rfl; have u5 : WK2.cell? ⟨w.heap.size, 5, none⟩ = some (.slice A5 l5.length c5) := (blk_cell (FF.out _ BK2.out) 5).trans rfl
 go_wp2_with fail
 refine (cJ1.out _ BK2.out).mono ?_; rintro e WJ1 ⟨rfl, k0⟩
 have BJ1 : Aside0 (Below w2.heap.size w2 WJ1) := ⟨BK2.out.trans (k0.mono BK2.out.size)⟩
 clear k0 u0 u1 u2 u3 u4 u5
 have u0 : WJ1.cell? ⟨gx, 0, none⟩ = some (.string a) := (blk_cell (FX.out _ BJ1.out) 0).trans rfl; have u1 : WJ1.cell? ⟨gx, 1, none⟩ = some (.bool b) := (blk_cell (FX.out _ BJ1.out) 1).trans rfl; have u2 : WJ1.cell? ⟨gx, 2, none⟩ = some (.int .i64 c) := (blk_cell (FX.out _ BJ1.out) 2).trans rfl; have u3 : WJ1.cell? ⟨gx, 3, none⟩ = some (.slice P3 m3.length p3) := (blk_cell (FX.out _ BJ1.out) 3).trans rfl; have u4 : WJ1.cell? ⟨gx, 4, none⟩ = some (.slice P4 m4.length p4) := (blk_cell (FX.out _ BJ1.out) 4).trans rfl; have u5 : WJ1.cell? ⟨gx, 5, none⟩ = some (.slice P5 m5.length p5) := (blk_cell (FX.out _ BJ1.out) 5).trans rfl
 go_wp2_with fail
 refine (cJ2.out _ BJ1.out).mono ?_; rintro e WJ2 ⟨rfl, k0⟩
 have BJ2 : Aside0 (Below w2.heap.size w2 WJ2) := ⟨BJ1.out.trans (k0.mono BJ1.out.size)⟩
 clear k0 u0 u1 u2 u3 u4 u5
 skip
 go_wp2_with fail
 refine (cC1.out _ BJ2.out).mono ?_; rintro e WC1 ⟨rfl, k0⟩
 have BC1 : Aside0 (Below w2.heap.size w2 WC1) := ⟨BJ2.out.trans (k0.mono BJ2.out.size)⟩
 clear k0
 skip
 go_wp2_with fail
 refine (cC2.out _ BC1.out).mono ?_; rintro e WC2 ⟨rfl, k0⟩
 have BC2 : Aside0 (Below w2.heap.size w2 WC2) := ⟨BC1.out.trans (k0.mono BC1.out.size)⟩
 clear k0
 have u0 : WC2.cell? ⟨w.heap.size, 0, none⟩ = some (.string a) := (blk_cell (FF.out _ BC2.out) 0).trans rfl; have u1 : WC2.cell? ⟨w.heap.size, 1, none⟩ = some (.bool b) := (blk_cell (FF.out _ BC2.out) 1).trans rfl; have u2 : WC2.cell? ⟨w.heap.size, 2, none⟩ = some (.int .i64 c) := (blk_cell (FF.out _ BC2.out) 2).trans rfl; have u3 : WC2.cell? ⟨w.heap.size, 3, none⟩ = some (.slice A3 l3.length c3) := (blk_cell (FF.out _ BC2.out) 3).trans rfl; have u4 : WC2.cell? ⟨w.heap.size, 4, none⟩ = some (.slice A4 l4.length c4) := (blk_cell (FF.out _ BC2.out) 4).trans rfl; have u5 : WC2.cell? ⟨w.heap.size, 5, none⟩ = some (.slice A5 l5.length c5) := (blk_cell (FF.out _ BC2.out) 5).trans rfl
 go_wp2_with fail
 refine (cO1.out _ BC2.out).mono ?_; rintro e WO1 ⟨rfl, k0⟩
 have BO1 : Aside0 (Below w2.heap.size w2 WO1) := ⟨BC2.out.trans (k0.mono BC2.out.size)⟩
 clear k0 u0 u1 u2 u3 u4 u5
 have u0 : WO1.cell? ⟨gx, 0, none⟩ = some (.string a) := (blk_cell (FX.out _ BO1.out) 0).trans rfl; have u1 : WO1.cell? ⟨gx, 1, none⟩ = some (.bool b) := (blk_cell (FX.out _ BO1.out) 1).trans rfl; have u2 : WO1.cell? ⟨gx, 2, none⟩ = some (.int .i64 c) := (blk_cell (FX.out _ BO1.out) 2).trans rfl; have u3 : WO1.cell? ⟨gx, 3, none⟩ = some (.slice P3 m3.length p3) := (blk_cell (FX.out _ BO1.out) 3).trans rfl; have u4 : WO1.cell? ⟨gx, 4, none⟩ = some (.slice P4 m4.length p4) := (blk_cell (FX.out _ BO1.out) 4).trans rfl; have u5 : WO1.cell? ⟨gx, 5, none⟩ = some (.slice P5 m5.length p5) := (blk_cell (FX.out _ BO1.out) 5).trans rfl
 go_wp2_with fail
 refine (cO2.out _ BO1.out).mono ?_; rintro e WO2 ⟨rfl, k0⟩
 have BO2 : Aside0 (Below w2.heap.size w2 WO2) := ⟨BO1.out.trans (k0.mono BO1.out.size)⟩
 clear k0 u0 u1 u2 u3 u4 u5
 go_wp2_with fail
 go_ret
 exact ⟨by first | rfl | (simp; done), hbw.trans (BO2.out.mono hbw.size)⟩
end Go.Proofs.YtaifemkokfoadaaGreatDoor

namespace Go.Proofs.YtaifemkokfoadaaGreatDoor.PX
open Go.RowKit Go.Proofs.YtaifemkokfoadaaGreatDoorW.PrintWords Go.Proofs.YtaifemkokfoadaaGreatDoorW.PrintLast Go.Proofs.YtaifemkokfoadaaGreatDoorW.PrintMore
attribute [local go_sem] max2_int min2_int max_two min_two max_three min_three max_four min_four   -- for this text's walks alone
set_option linter.unusedVariables false
set_option linter.unusedSimpArgs false
def frisketref01_Digits.l0 : Nat → Int → ByteArray → Option (ByteArray)
 | 0, _, _ => none
 | k + 1, x0, x3 => if x0 > 9 then ((some (([(wrap64 (48 + (Int.tmod (wrap64 (Int.tdiv x0 10)) 10))) % 256] : List Int) : List Int)).bind fun y427 => (if (strOfNums y427).size + x3.size ≤ 9223372036854775807 then (frisketref01_Digits.l0 k (wrap64 (Int.tdiv x0 10)) ((strOfNums y427) ++ x3)) else (none))) else (some x3)
def frisketref01_Digits.f (k : Nat) (a0 : Int) : Option (ByteArray) := frisketref01_Digits.l0 k a0 (strOfNums (([(wrap64 (48 + (Int.tmod a0 10))) % 256] : List Int)))
set_option maxHeartbeats 8000000 in
set_option maxRecDepth 100000 in
theorem frisketref01_Digits.calls (k : Nat) (a0 : Int) (r : ByteArray) (w : World) (h : frisketref01_Digits.f k a0 = some r) :
  Calls Tryz.prog 113 #[.int .i64 a0] w fun e w' => e = .returned (.string r) ∧ Below w.heap.size w w' := by
 have HB := Aside0.mk (Below.refl w.heap.size w)
 have H : (frisketref01_Digits.l0 k a0 (strOfNums (([(wrap64 (48 + (Int.tmod a0 10))) % 256] : List Int)))) = some r := h
 clear h
 obtain ⟨y424, hy424⟩ : ∃ y_ : List Int, y_ = (([(wrap64 (48 + (Int.tmod a0 10))) % 256] : List Int)) := ⟨_, rfl⟩
 replace H : (frisketref01_Digits.l0 k a0 (strOfNums y424)) = some r := by first | (rw [hy424]; with_reducible exact H) | (have H2_ := (Option.bind_some _ _).symm.trans H; rw [hy424]; with_reducible exact H2_) | (have H2_ := (Option.bind_some _ _).symm.trans H; with_reducible exact H2_) | with_reducible exact H | (rw [hy424]; exact H) | exact H
 have Ny424 := Aside0.mk hy424
 clear hy424
 have H' := Aside0.mk H
 clear H
 go_enter Tryz.func113, Tryz.ntmps113
 go_wp2_with (first | ((with_reducible refine gate_dst (N := 8) rfl ?_); refine Kd.R_lit (Kd.int .u8) _ 5 ?hg (N := 8) ?hd (xs := ([(wrap64 (48 + (Int.tmod a0 10))) % 256] : List Int)) (inner := [.int .u8 ((wrap64 (48 + (Int.tmod a0 10))) % 256)]) (ok := fun _ => True) (okp := fun _ => True) ?hr ?hp (fun _ hk => hk) trivial (Below.refl _ _) (Nat.le_refl _) (by simp) ?_; (case hd => rfl); (case hg => rfl); (case hr => first | (go_simp; done) | (go_simp; rfl)); (case hp => exact (Reps.one (show Kd.M (Kd.int .u8) _ _ _ ((wrap64 (48 + (Int.tmod a0 10))) % 256) [.int .u8 ((wrap64 (48 + (Int.tmod a0 10))) % 256)] from rfl) (Reps.none _ _))); intro v425 w2 ho3 hb hg_ hnew_; clear hg_ hnew_; (first | rw [← Ny424.out] at ho3 | (simp only [Int.reduceToNat] at ho3; rw [← Ny424.out] at ho3)); have n0_ := Aside0.mk (Kd.R_lower ho3 (below_size (by repeat (first | (with_reducible first | exact HB.out | apply below_alloc | apply pw_below_drewN | apply below_drew1) | exact HB.out)))); have n1_ := Aside0.mk (below_step (by repeat (first | (with_reducible first | exact HB.out | apply below_alloc | apply pw_below_drewN | apply below_drew1) | exact HB.out)) hb); clear HB; have HO426 := n0_; have HB := n1_; clear n0_ n1_; clear hb ho3; have hcv4 := own_string (P := Tryz.prog) Tryz.underlying66 Tryz.underlying5 Tryz.underlying9 (Kd.own_of_R HO426.out)))
 go_loopg [0, 3] k (fun kq v0 v3 w' => ∃ (x0_1 : Int) (x3_1 : ByteArray), v0 = .int .i64 x0_1 ∧ v3 = .string x3_1 ∧ Aside0 (frisketref01_Digits.l0 kq x0_1 x3_1 = some r) ∧ Aside0 (kq ≤ k) ∧ Aside0 (Below w.heap.size w w'))
 case atStart => exact ⟨(a0), (strOfNums y424), (by first | rfl | (simp; done) | (simp [*]; done)), (by first | rfl | (simp; done) | (simp [*]; done)), H', ⟨Nat.le_refl _⟩, ⟨by repeat (first | (with_reducible first | exact HB.out | apply below_alloc | apply pw_below_drewN | apply below_drew1) | exact HB.out)⟩⟩
 case round =>
  clear H'
  try clear c1
  try clear p2
  try clear hcv4
  obtain ⟨x0_1, x3_1, rfl, rfl, HA, HK1, HB⟩ := hrel
  cases gk with
  | zero => exact absurd HA.out (by simp [frisketref01_Digits.l0])
  | succ k1 =>
   have H := HA.out
   clear HA
   simp only [frisketref01_Digits.l0] at H
   by_cases c5 : x0_1 > 9
   ·rw [if_pos c5] at H
    have c5b0 : decide (9 < x0_1) = true := decide_eq_true c5
    clear c5
    obtain ⟨y427, hy427⟩ : ∃ y_ : List Int, y_ = (([(wrap64 (48 + (Int.tmod (wrap64 (Int.tdiv x0_1 10)) 10))) % 256] : List Int)) := ⟨_, rfl⟩
    replace H : (if (strOfNums y427).size + x3_1.size ≤ 9223372036854775807 then (frisketref01_Digits.l0 k1 (wrap64 (Int.tdiv x0_1 10)) ((strOfNums y427) ++ x3_1)) else (none)) = some r := by first | (rw [hy427]; with_reducible exact H) | (have H2_ := (Option.bind_some _ _).symm.trans H; rw [hy427]; with_reducible exact H2_) | (have H2_ := (Option.bind_some _ _).symm.trans H; with_reducible exact H2_) | with_reducible exact H | (rw [hy427]; exact H) | exact H
    have Ny427 := Aside0.mk hy427
    clear hy427
    by_cases c6 : (strOfNums y427).size + x3_1.size ≤ 9223372036854775807
    ·rw [if_pos c6] at H
     have c6b0 := eq_true c6
     have c6b1 : decide ((strOfNums y427).size + x3_1.size ≤ 9223372036854775807) = true := decide_eq_true c6
     try have c6b2 : (9223372036854775807 < (strOfNums y427).size + x3_1.size) = False := eq_false (Nat.not_lt.2 c6)
     have H' := Aside0.mk H
     clear H
     go_wp2_with (first | ((with_reducible refine gate_dst (N := 18) rfl ?_); refine Kd.R_lit (Kd.int .u8) _ 5 ?hg (N := 18) ?hd (xs := ([(wrap64 (48 + (Int.tmod (wrap64 (Int.tdiv x0_1 10)) 10))) % 256] : List Int)) (inner := [.int .u8 ((wrap64 (48 + (Int.tmod (wrap64 (Int.tdiv x0_1 10)) 10))) % 256)]) (ok := fun _ => True) (okp := fun _ => True) ?hr ?hp (fun _ hk => hk) trivial (Below.refl _ _) (Nat.le_refl _) (by simp) ?_; (case hd => rfl); (case hg => rfl); (case hr => first | (go_simp; done) | (go_simp; rfl)); (case hp => exact (Reps.one (show Kd.M (Kd.int .u8) _ _ _ ((wrap64 (48 + (Int.tmod (wrap64 (Int.tdiv x0_1 10)) 10))) % 256) [.int .u8 ((wrap64 (48 + (Int.tmod (wrap64 (Int.tdiv x0_1 10)) 10))) % 256)] from rfl) (Reps.none _ _))); intro v428 w7 ho8 hb hg_ hnew_; clear hg_ hnew_; (first | rw [← Ny427.out] at ho8 | (simp only [Int.reduceToNat] at ho8; rw [← Ny427.out] at ho8)); have n0_ := Aside0.mk (Kd.R_lower ho8 (below_size (by repeat (first | (with_reducible first | exact HB.out | apply below_alloc | apply pw_below_drewN | apply below_drew1) | exact HB.out)))); have n1_ := Aside0.mk (below_step (by repeat (first | (with_reducible first | exact HB.out | apply below_alloc | apply pw_below_drewN | apply below_drew1) | exact HB.out)) hb); clear HB; have HO429 := n0_; have HB := n1_; clear n0_ n1_; clear hb ho8; have hcv9 := own_string (P := Tryz.prog) Tryz.underlying66 Tryz.underlying5 Tryz.underlying9 (Kd.own_of_R HO429.out)))
     go_roundg k1
     case measure => have := HK1.out; omega
     case rel => exact ⟨(wrap64 (Int.tdiv x0_1 10)), ((strOfNums y427) ++ x3_1), (by first | rfl | (simp; done) | (simp [*]; done)), (by first | rfl | (simp; done) | (simp [*]; done)), H', ⟨by have := HK1.out; omega⟩, ⟨by repeat (first | (with_reducible first | exact HB.out | apply below_alloc | apply pw_below_drewN | apply below_drew1) | exact HB.out)⟩⟩
    ·rw [if_neg c6] at H
     exact absurd H (by simp)
   ·rw [if_neg c5] at H
    have c5b0 : decide (9 < x0_1) = false := decide_eq_false c5
    clear c5
    obtain rfl := Option.some.inj H
    go_wp2
    go_ret
    exact ⟨by first | rfl | (simp [errW_none, errW_some] <;> rfl) | (simp [*, errW_none, errW_some] <;> rfl), by repeat (first | (with_reducible first | exact HB.out | apply below_alloc | apply pw_below_drewN | apply below_drew1) | exact HB.out)⟩
end Go.Proofs.YtaifemkokfoadaaGreatDoor.PX

namespace Go.Proofs.YtaifemkokfoadaaGreatDoor.PX
open Go.RowKit Go.Proofs.YtaifemkokfoadaaGreatDoorW.PrintWords Go.Proofs.YtaifemkokfoadaaGreatDoorW.PrintLast Go.Proofs.YtaifemkokfoadaaGreatDoorW.PrintMore
attribute [local go_sem] max2_int min2_int max_two min_two max_three min_three max_four min_four   -- for this text's walks alone
set_option linter.unusedVariables false
set_option linter.unusedSimpArgs false
def frisketref07_Signed.l0 : Nat → Int → ByteArray → Option (ByteArray)
 | 0, _, _ => none
 | k + 1, x0, x3 => if x0 < 0 then ((some (([(wrap64 (48 - (Int.tmod x0 10))) % 256] : List Int) : List Int)).bind fun y431 => (if (strOfNums y431).size + x3.size ≤ 9223372036854775807 then (frisketref07_Signed.l0 k (wrap64 (Int.tdiv x0 10)) ((strOfNums y431) ++ x3)) else (none))) else (if 1 + x3.size ≤ 9223372036854775807 then (some ((⟨#[45]⟩ : ByteArray) ++ x3)) else (none))
def frisketref07_Signed.f (k : Nat) (a0 : Int) : Option (ByteArray) := if a0 ≥ 0 then ((frisketref01_Digits.f k a0).bind fun t430 => (some t430)) else (frisketref07_Signed.l0 k a0 (⟨#[]⟩ : ByteArray))
set_option maxHeartbeats 8000000 in
set_option maxRecDepth 100000 in
theorem frisketref07_Signed.calls (k : Nat) (a0 : Int) (r : ByteArray) (w : World) (h : frisketref07_Signed.f k a0 = some r) :
  Calls Tryz.prog 114 #[.int .i64 a0] w fun e w' => e = .returned (.string r) ∧ Below w.heap.size w w' := by
 have HB := Aside0.mk (Below.refl w.heap.size w)
 have H : (if a0 ≥ 0 then ((frisketref01_Digits.f k a0).bind fun t430 => (some t430)) else (frisketref07_Signed.l0 k a0 (⟨#[]⟩ : ByteArray))) = some r := h
 clear h
 by_cases c2 : a0 ≥ 0
 ·rw [if_pos c2] at H
  have c2b0 : decide (0 ≤ a0) = true := decide_eq_true c2
  clear c2
  replace H := Option.bind_eq_some_iff.mp H
  obtain ⟨t430, A30, H⟩ := H
  replace H : (some t430) = some r := H
  have A3 := Aside0.mk A30
  clear A30
  obtain rfl := Option.some.inj H
  go_enter Tryz.func114, Tryz.ntmps114
  go_wp2_with (first | ((with_reducible refine gate_callee (f := 113) rfl ?_); refine goesL_ (some 7) rfl rfl Tryz.func113 (by kernel_rfl) rfl #[.int .i64 a0] rfl (by (try simp only [List.map_toArray, List.map_cons, List.map_nil]); first | done | rfl | (simp only [List.length_drop, List.length_take]; rfl)) ?_; (with_reducible refine (frisketref01_Digits.calls k a0 t430 _ A3.out).mono ?_); rintro e w4 ⟨rfl, hb⟩; refine ⟨_, rfl, ?_⟩; have n0_ := Aside0.mk (below_step (by repeat (first | (with_reducible first | exact HB.out | apply below_alloc | apply pw_below_drewN | apply below_drew1) | exact HB.out)) hb); clear HB; have HB := n0_; clear n0_; (try clear hb); (try clear hb2); (try clear hk); (try clear hi)))
  go_ret
  exact ⟨by first | rfl | (simp [errW_none, errW_some] <;> rfl) | (simp [*, errW_none, errW_some] <;> rfl), by repeat (first | (with_reducible first | exact HB.out | apply below_alloc | apply pw_below_drewN | apply below_drew1) | exact HB.out)⟩
 ·rw [if_neg c2] at H
  have c2b0 : decide (0 ≤ a0) = false := decide_eq_false c2
  clear c2
  have H' := Aside0.mk H
  clear H
  go_enter Tryz.func114, Tryz.ntmps114
  go_wp2
  go_loopg [0, 3] k (fun kq v0 v3 w' => ∃ (x0_1 : Int) (x3_1 : ByteArray), v0 = .int .i64 x0_1 ∧ v3 = .string x3_1 ∧ Aside0 (frisketref07_Signed.l0 kq x0_1 x3_1 = some r) ∧ Aside0 (kq ≤ k) ∧ Aside0 (Below w.heap.size w w'))
  case atStart => exact ⟨(a0), ((⟨#[]⟩ : ByteArray)), (by first | rfl | (simp; done) | (simp [*]; done)), (by first | rfl | (simp; done) | (simp [*]; done)), H', ⟨Nat.le_refl _⟩, ⟨by repeat (first | (with_reducible first | exact HB.out | apply below_alloc | apply pw_below_drewN | apply below_drew1) | exact HB.out)⟩⟩
  case round =>
   clear H'
   try clear c1
   try clear c2
   try clear c2b0
   try clear p2
   obtain ⟨x0_1, x3_1, rfl, rfl, HA, HK1, HB⟩ := hrel
   cases gk with
   | zero => exact absurd HA.out (by simp [frisketref07_Signed.l0])
   | succ k1 =>
    have H := HA.out
    clear HA
    simp only [frisketref07_Signed.l0] at H
    by_cases c5 : x0_1 < 0
    ·rw [if_pos c5] at H
     have c5b0 : decide (x0_1 < 0) = true := decide_eq_true c5
     clear c5
     obtain ⟨y431, hy431⟩ : ∃ y_ : List Int, y_ = (([(wrap64 (48 - (Int.tmod x0_1 10))) % 256] : List Int)) := ⟨_, rfl⟩
     replace H : (if (strOfNums y431).size + x3_1.size ≤ 9223372036854775807 then (frisketref07_Signed.l0 k1 (wrap64 (Int.tdiv x0_1 10)) ((strOfNums y431) ++ x3_1)) else (none)) = some r := by first | (rw [hy431]; with_reducible exact H) | (have H2_ := (Option.bind_some _ _).symm.trans H; rw [hy431]; with_reducible exact H2_) | (have H2_ := (Option.bind_some _ _).symm.trans H; with_reducible exact H2_) | with_reducible exact H | (rw [hy431]; exact H) | exact H
     have Ny431 := Aside0.mk hy431
     clear hy431
     by_cases c6 : (strOfNums y431).size + x3_1.size ≤ 9223372036854775807
     ·rw [if_pos c6] at H
      have c6b0 := eq_true c6
      have c6b1 : decide ((strOfNums y431).size + x3_1.size ≤ 9223372036854775807) = true := decide_eq_true c6
      try have c6b2 : (9223372036854775807 < (strOfNums y431).size + x3_1.size) = False := eq_false (Nat.not_lt.2 c6)
      have H' := Aside0.mk H
      clear H
      go_wp2_with (first | ((with_reducible refine gate_dst (N := 14) rfl ?_); refine Kd.R_lit (Kd.int .u8) _ 5 ?hg (N := 14) ?hd (xs := ([(wrap64 (48 - (Int.tmod x0_1 10))) % 256] : List Int)) (inner := [.int .u8 ((wrap64 (48 - (Int.tmod x0_1 10))) % 256)]) (ok := fun _ => True) (okp := fun _ => True) ?hr ?hp (fun _ hk => hk) trivial (Below.refl _ _) (Nat.le_refl _) (by simp) ?_; (case hd => rfl); (case hg => rfl); (case hr => first | (go_simp; done) | (go_simp; rfl)); (case hp => exact (Reps.one (show Kd.M (Kd.int .u8) _ _ _ ((wrap64 (48 - (Int.tmod x0_1 10))) % 256) [.int .u8 ((wrap64 (48 - (Int.tmod x0_1 10))) % 256)] from rfl) (Reps.none _ _))); intro v432 w7 ho8 hb hg_ hnew_; clear hg_ hnew_; (first | rw [← Ny431.out] at ho8 | (simp only [Int.reduceToNat] at ho8; rw [← Ny431.out] at ho8)); have n0_ := Aside0.mk (Kd.R_lower ho8 (below_size (by repeat (first | (with_reducible first | exact HB.out | apply below_alloc | apply pw_below_drewN | apply below_drew1) | exact HB.out)))); have n1_ := Aside0.mk (below_step (by repeat (first | (with_reducible first | exact HB.out | apply below_alloc | apply pw_below_drewN | apply below_drew1) | exact HB.out)) hb); clear HB; have HO433 := n0_; have HB := n1_; clear n0_ n1_; clear hb ho8; have hcv9 := own_string (P := Tryz.prog) Tryz.underlying66 Tryz.underlying5 Tryz.underlying9 (Kd.own_of_R HO433.out)))
      go_roundg k1
      case measure => have := HK1.out; omega
      case rel => exact ⟨(wrap64 (Int.tdiv x0_1 10)), ((strOfNums y431) ++ x3_1), (by first | rfl | (simp; done) | (simp [*]; done)), (by first | rfl | (simp; done) | (simp [*]; done)), H', ⟨by have := HK1.out; omega⟩, ⟨by repeat (first | (with_reducible first | exact HB.out | apply below_alloc | apply pw_below_drewN | apply below_drew1) | exact HB.out)⟩⟩
     ·rw [if_neg c6] at H
      exact absurd H (by simp)
    ·rw [if_neg c5] at H
     have c5b0 : decide (x0_1 < 0) = false := decide_eq_false c5
     clear c5
     by_cases c10 : 1 + x3_1.size ≤ 9223372036854775807
     ·rw [if_pos c10] at H
      have c10b0 := eq_true c10
      have c10b1 : decide (1 + x3_1.size ≤ 9223372036854775807) = true := decide_eq_true c10
      try have c10b2 : (9223372036854775807 < 1 + x3_1.size) = False := eq_false (Nat.not_lt.2 c10)
      obtain rfl := Option.some.inj H
      go_wp2
      go_ret
      exact ⟨by first | rfl | (simp [errW_none, errW_some] <;> rfl) | (simp [*, errW_none, errW_some] <;> rfl), by repeat (first | (with_reducible first | exact HB.out | apply below_alloc | apply pw_below_drewN | apply below_drew1) | exact HB.out)⟩
     ·rw [if_neg c10] at H
      exact absurd H (by simp)
end Go.Proofs.YtaifemkokfoadaaGreatDoor.PX

namespace Go.Proofs.YtaifemkokfoadaaGreatDoor.PX
open Go.RowKit Go.Proofs.YtaifemkokfoadaaGreatDoorW.PrintWords Go.Proofs.YtaifemkokfoadaaGreatDoorW.PrintLast Go.Proofs.YtaifemkokfoadaaGreatDoorW.PrintMore
attribute [local go_sem] max2_int min2_int max_two min_two max_three min_three max_four min_four   -- for this text's walks alone
set_option linter.unusedVariables false
set_option linter.unusedSimpArgs false
end Go.Proofs.YtaifemkokfoadaaGreatDoor.PX

namespace Go.Proofs.YtaifemkokfoadaaGreatDoor
open Go.RowKit Go.Proofs.YtaifemkokfoadaaGreatDoorW.PrintWords Go.Proofs.YtaifemkokfoadaaGreatDoor.PX
/-- What is still to be written in front, at n. -/
def frontD (n : Nat) : List UInt8 := if n < 10 then [] else Lib.decDigits (n / 10)
theorem dec_front (n : Nat) : Lib.decDigits n = frontD n ++ [UInt8.ofNat (48 + n % 10)] := by
  rw [Lib.decDigits]
  unfold frontD
  split
  · rw [show n % 10 = n by omega]; rfl
  · rfl
theorem frontD_big (n : Nat) (h : 9 < n) : frontD n = Lib.decDigits (n / 10) := by unfold frontD; rw [if_neg (by omega)]
theorem frontD_small (n : Nat) (h : n ≤ 9) : frontD n = [] := by unfold frontD; rw [if_pos (by omega)]
theorem tdiv10 (n : Nat) : Int.tdiv (n : Int) 10 = ((n / 10 : Nat) : Int) := by
  rw [Int.tdiv_eq_ediv_of_nonneg (by omega)]; rfl
theorem tmod10 (n : Nat) : Int.tmod (n : Int) 10 = ((n % 10 : Nat) : Int) := by
  rw [Int.tmod_eq_emod_of_nonneg (by omega)]; rfl
theorem byteD (n : Nat) : (wrap64 (48 + Int.tmod (n : Int) 10)) % 256 = ((48 + n % 10 : Nat) : Int) := by
  rw [tmod10, w64 (by omega) (by omega)]; omega
theorem digits_l (m : Nat) : ∀ (n : Nat) (s : List UInt8), n < 10 ^ m → n ≤ 9223372036854775807 → s.length + m ≤ 1000 →
    Ev (fun k => frisketref01_Digits.l0 k (n : Int) (bar s)) (bar (frontD n ++ s)) := by
  induction m with
  | zero =>
    intro n s h _ hs
    refine Ev.step (fun k => by rw [frisketref01_Digits.l0]) ?_
    refine evNeg (by omega) ?_
    rw [frontD_small n (by omega)]
    exact Ev.now _
  | succ m ih =>
    intro n s h hn hs
    refine Ev.step (fun k => by rw [frisketref01_Digits.l0]) ?_
    by_cases h9 : n ≤ 9
    · refine evNeg (by omega) ?_
      rw [frontD_small n h9]
      exact Ev.now _
    · have e : wrap64 (Int.tdiv (n : Int) 10) = ((n / 10 : Nat) : Int) := by rw [tdiv10, w64 (by omega) (by omega)]
      rw [e, byteD]
      refine evPos (by omega) (evLet (evPos ?_ ?_))
      · rw [strOf_one, bar_size, bar_size]; simp only [List.length_cons, List.length_nil]; omega
      · rw [strOf_one, bar_app, frontD_big n (by omega), dec_front (n / 10), List.append_assoc]
        refine ih (n / 10) _ (by rw [Nat.pow_succ] at h; omega) (by omega) ?_
        simp only [List.length_append, List.length_cons, List.length_nil]; omega
theorem digits_ev (n : Nat) (h : n ≤ 9223372036854775807) : Ev (fun k => frisketref01_Digits.f k (n : Int)) (bar (Lib.decDigits n)) := by
  unfold frisketref01_Digits.f
  rw [byteD, strOf_one, dec_front n]
  exact digits_l 19 n _ (by omega) h (by simp)
theorem tmodneg (n : Nat) : Int.tmod (-(n : Int)) 10 = -((n % 10 : Nat) : Int) := by
  rw [Int.neg_tmod, tmod10]
theorem tdivneg (n : Nat) : Int.tdiv (-(n : Int)) 10 = -((n / 10 : Nat) : Int) := by
  rw [Int.neg_tdiv, tdiv10]
theorem byteN (n : Nat) : (wrap64 (48 - Int.tmod (-(n : Int)) 10)) % 256 = ((48 + n % 10 : Nat) : Int) := by
  rw [tmodneg, w64 (by omega) (by omega)]; omega
theorem signed_l (m : Nat) : ∀ (n : Nat) (s : List UInt8), n < 10 ^ m → n ≤ 9223372036854775808 → s.length + m ≤ 1000 → (n = 0 → s ≠ []) →
    Ev (fun k => frisketref07_Signed.l0 k (-(n : Int)) (bar s)) (bar (45 :: (if n = 0 then s else Lib.decDigits n ++ s))) := by
  induction m with
  | zero =>
    intro n s h _ hs _
    obtain rfl : n = 0 := by omega
    refine Ev.step (fun k => by rw [frisketref07_Signed.l0]) ?_
    refine evNeg (by omega) (evPos (by rw [bar_size]; omega) ?_)
    exact evOf (congrArg some (bar_app [45] s))
  | succ m ih =>
    intro n s h hn hs h0
    refine Ev.step (fun k => by rw [frisketref07_Signed.l0]) ?_
    by_cases h9 : n = 0
    · subst h9
      refine evNeg (by omega) (evPos (by rw [bar_size]; omega) ?_)
      exact evOf (congrArg some (bar_app [45] s))
    · have e : wrap64 (Int.tdiv (-(n : Int)) 10) = -((n / 10 : Nat) : Int) := by rw [tdivneg, w64 (by omega) (by omega)]
      rw [e, byteN]
      refine evPos (by omega) (evLet (evPos ?_ ?_))
      · rw [strOf_one, bar_size, bar_size]; simp only [List.length_cons, List.length_nil]; omega
      · rw [strOf_one, bar_app, if_neg h9]
        refine evEq ?_ (ih (n / 10) _ (by rw [Nat.pow_succ] at h; omega) (by omega) ?_ ?_)
        · congr 2
          rw [dec_front n]
          by_cases hz : n / 10 = 0
          · rw [if_pos hz, frontD_small n (by omega)]; rfl
          · rw [if_neg hz, frontD_big n (by omega), List.append_assoc]; rfl
        · simp only [List.length_append, List.length_cons, List.length_nil]; omega
        · intro _ h; cases h
theorem signed_ev (n : Int) (h0 : -9223372036854775808 ≤ n) (h1 : n ≤ 9223372036854775807) : Ev (fun k => frisketref07_Signed.f k n) (bar (Lib.itoa n)) := by
  unfold frisketref07_Signed.f Lib.itoa
  by_cases hn : n < 0
  · refine evNeg (by omega) ?_
    rw [if_pos hn]
    have e : n = -(n.natAbs : Int) := by omega
    refine evEq ?_ (Ev.congr (fun k => ?_) (signed_l 19 n.natAbs [] (by omega) (by omega) (by simp) (by omega)))
    · rw [if_neg (by omega), List.append_nil]
    · rw [← e]; rfl
  · refine evPos (by omega) ?_
    rw [if_neg hn]
    have e : n = (n.toNat : Int) := by omega
    refine Ev.bind (a := bar (Lib.decDigits n.toNat)) (Ev.congr (fun k => ?_) (digits_ev n.toNat (by omega))) (Ev.now _)
    rw [← e]
end Go.Proofs.YtaifemkokfoadaaGreatDoor

namespace Go.Proofs.YtaifemkokfoadaaGreatDoor
open Go.RowKit Go.Proofs.YtaifemkokfoadaaGreatDoorW.PrintWords
/-- A text or a number, as 'any' holds it; its text. -/
def encP : ByteArray ⊕ Int → Value
  | .inl s => .iface 9 (.string s)
  | .inr n => .iface 3 (.int .i64 n)
def txt1 : ByteArray ⊕ Int → List UInt8
  | .inl s => s.data.toList
  | .inr n => Lib.itoa n
def txtP (ps : List (ByteArray ⊕ Int)) : List UInt8 := (ps.map txt1).flatten
theorem txtP_snoc (ps : List (ByteArray ⊕ Int)) (k : Nat) (x : ByteArray ⊕ Int) (h : ps[k]? = some x) : txtP (ps.take (k + 1)) = txtP (ps.take k) ++ txt1 x := by
  unfold txtP
  rw [List.take_add_one, h]; simp
theorem txtP_le (ps : List (ByteArray ⊕ Int)) (k : Nat) : (txtP (ps.take k)).length ≤ (txtP ps).length := by
  have : txtP ps = txtP (ps.take k) ++ txtP (ps.drop k) := by
    unfold txtP; rw [← List.flatten_append, ← List.map_append, List.take_append_drop]
  rw [this, List.length_append]; omega
theorem txt1_len (s : ByteArray) : (txt1 (.inl s)).length = s.size := Array.length_toList
theorem byteCells_len (l : List UInt8) : (Lib.byteCells l).length = l.length := by simp [Lib.byteCells]
theorem builder_below {T e : TypeId} {B b : Nat} {bs : List Value} {w w' : World} (h : Lib.IsBuilder T e B b bs w) (hb : Below w.heap.size w w') : Lib.IsBuilder T e B b bs w' := by
  have key : ∀ p, Lib.BuilderAt T e B b p bs w → Lib.BuilderAt T e B b p bs w' := fun p ⟨h1, v, h2, h3, h4⟩ => ⟨h1, v, (hb.block b (Array.getElem?_eq_some_iff.1 h2).1).trans h2, pw_own_below h3 hb, h4⟩
  exact h.imp (key _) (key _)
set_option maxRecDepth 100000 in
set_option maxHeartbeats 2000000 in
theorem joined_calls (ps : List (ByteArray ⊕ Int)) (g off c : Nat) (w : World) (hG : GW w) (hn : ∀ n, .inr n ∈ ps → -9223372036854775808 ≤ n ∧ n ≤ 9223372036854775807)
    (hc : ∀ j x, ps[j]? = some x → w.cell? ⟨g, off + j, none⟩ = some (encP x)) (hg : g < w.heap.size) (hp : ps.length ≤ 1000000) (hlen : (txtP ps).length ≤ 140737488355328) :
    Calls Tryz.prog 84 #[.slice (some ⟨g, off, none⟩) ps.length c] w fun e w' => e = .returned (.string (bar (txtP ps))) ∧ Below w.heap.size w w' := by
  have ta1 : ∀ (s : ByteArray) (W : World), (Instr.typeAssert (.iface 9 (.string s)) 20 9 true).run Tryz.prog W = .ok (.tuple #[.string s, .bool true]) W := fun _ _ => by rfl
  have ta2 : ∀ (n : Int) (W : World), (Instr.typeAssert (.iface 3 (.int .i64 n)) 20 9 true).run Tryz.prog W = .ok (.tuple #[.string ⟨#[]⟩, .bool false]) W := fun _ _ => by rfl
  have ta3 : ∀ (n : Int) (W : World), (Instr.typeAssert (.iface 3 (.int .i64 n)) 20 3 true).run Tryz.prog W = .ok (.tuple #[.int .i64 n, .bool true]) W := fun _ _ => by rfl
  go_enter Tryz.func84, Tryz.ntmps84
  go_wp2_with fail
  go_loopw [10] (fun i wr => ∃ k : Nat, k ≤ ps.length ∧ i = .int .i64 k ∧ Lib.IsBuilder 129 5 w.heap.size w.heap.size (Lib.byteCells (txtP (ps.take k))) wr ∧ Below w.heap.size w wr) (fun i _ => ps.length - (intOf i).toNat)
  case atStart =>
    refine ⟨0, Nat.zero_le _, rfl, .inl ?_, (Below.refl _ _).alloc (Nat.le_refl _) _⟩
    exact ⟨Nat.le_refl _, .slice none 0 0, World.alloc_heap_new w _, World.ownsRow_nil _ _ _ _, by simp [Value.ownBlock]⟩
  case round =>
    obtain ⟨k, hk, rfl, hB, hb⟩ := hrel
    have HB := Lib.hid hB
    clear hB
    by_cases hlt : k < ps.length
    · have hx := List.getElem?_eq_getElem hlt
      have hcell : wr.cell? ⟨g, off + k, none⟩ = some (encP ps[k]) := (hb.cell (p := ⟨g, off + k, none⟩) hg).trans (hc k _ hx)
      have hsnoc := txtP_snoc ps k _ hx
      have hle := txtP_le ps (k + 1)
      rw [hsnoc, List.length_append] at hle
      have HS := Lib.hid hsnoc
      clear hsnoc
      have hmem : ps[k] ∈ ps := List.getElem_mem hlt
      have hz := hb.size
      have hG2 := hG.under hb
      generalize ps[k] = x at hx hcell HS hle hmem
      clear hx
      cases x with
      | inl s =>
        have e1 := txt1_len s
        have hw := Tryz.Builder_WriteString w.heap.size w.heap.size _ s wr HB.out (by rw [byteCells_len]; omega) hz
        clear e1
        simp only [encP] at hcell
        clear hle hmem HB
        go_wp2_with fail
        refine hw.mono ?_; rintro e w2 ⟨rfl, hB2, hb2⟩
        go_wp2_with fail
        go_roundw
        case rel => exact ⟨k + 1, by omega, by go_num, by rw [HS.out]; exact .inr (by simpa [Lib.byteCells, Lib.strCells, txt1] using hB2), hb.trans hb2⟩
        case measure => simp [intOf]; omega
      | inr n =>
        obtain ⟨n0, n1⟩ := hn n hmem
        have hi := itoa_any n wr n0 n1 hG2
        simp only [encP] at hcell
        have hl1 : (txtP (ps.take k)).length + (Lib.itoa n).length ≤ 140737488355328 := Nat.le_trans hle hlen
        clear hle hmem
        go_wp2_with fail
        refine hi.mono ?_; rintro e w2 ⟨rfl, hb2⟩
        have hB2 : Lib.IsBuilder 129 5 w.heap.size w.heap.size (Lib.byteCells (txtP (ps.take k))) w2 := builder_below HB.out hb2
        have hw := Tryz.Builder_WriteString w.heap.size w.heap.size _ (bar (Lib.itoa n)) w2 hB2 (by rw [byteCells_len, bar_size]; exact hl1) (Nat.le_trans hz hb2.size)
        clear hB2
        go_wp2_with fail
        refine hw.mono ?_; rintro e w3 ⟨rfl, hB3, hb3⟩
        go_wp2_with fail
        go_roundw
        case rel => exact ⟨k + 1, by omega, by go_num, by rw [HS.out]; exact .inr (by simpa [Lib.byteCells, Lib.strCells, txt1, bar_data] using hB3), (hb.trans (hb2.mono hz)).trans hb3⟩
        case measure => simp [intOf]; omega
    · obtain rfl : k = ps.length := by omega
      rw [List.take_length] at HB
      have hs := Tryz.Builder_String_any w.heap.size w.heap.size _ wr HB.out hb.size
      clear HB
      go_wp2_with fail
      refine hs.mono ?_; rintro e w2 ⟨rfl, hb2⟩
      go_wp2_with fail
      go_ret
      exact ⟨rfl, hb.trans hb2⟩
end Go.Proofs.YtaifemkokfoadaaGreatDoor

namespace Go.Proofs.YtaifemkokfoadaaGreatDoor
open Go.RowKit Go.Shelf Go.Proofs.YtaifemkokfoadaaGreatDoorW.PrintWords Go.Proofs.YtaifemkokfoadaaGreatDoorW.PrintLast Go.Proofs.YtaifemkokfoadaaGreatDoorW.PrintMore Go.Proofs.YtaifemkokfoadaaGreatDoor.PX
set_option linter.unusedSimpArgs false
set_option linter.unusedVariables false
/-- The rows' texts, the first k of them. -/
def rowsT {α : Type} (f : α → List UInt8) (l : List α) (k : Nat) : List UInt8 := ((l.take k).map f).flatten
theorem rowsT_zero {α : Type} (f : α → List UInt8) (l : List α) : rowsT f l 0 = [] := rfl
theorem rowsT_succ {α : Type} (f : α → List UInt8) (l : List α) (k : Nat) (x : α) (h : l[k]? = some x) : rowsT f l (k + 1) = rowsT f l k ++ f x := by
 unfold rowsT
 rw [List.take_add_one, h]; simp
theorem rowsT_le {α : Type} (f : α → List UInt8) (l : List α) (k : Nat) : (rowsT f l k).length ≤ (rowsT f l l.length).length := by
 unfold rowsT
 rw [List.take_length]
 have h : (l.map f).flatten = ((l.take k).map f).flatten ++ ((l.drop k).map f).flatten := by rw [← List.flatten_append, ← List.map_append, List.take_append_drop]
 rw [h, List.length_append]; omega
def partsG (x : S31) : List (ByteArray ⊕ Int) := [.inl ⟨#[103, 32]⟩, .inl x.f0, .inl ⟨#[32]⟩, .inr x.f1, .inl ⟨#[10]⟩]
def lineG (x : S31) : List UInt8 := txtP (partsG x)
def partsL (x : S86) : List (ByteArray ⊕ Int) := [.inl ⟨#[108, 32]⟩, .inl x.f0, .inl ⟨#[32]⟩, .inl x.f1, .inl ⟨#[32]⟩, .inl x.f2, .inl ⟨#[10]⟩]
def lineL (x : S86) : List UInt8 := txtP (partsL x)
def partsK (x : S76) : List (ByteArray ⊕ Int) := [.inl ⟨#[107, 32]⟩, .inl x.f0, .inl ⟨#[32]⟩, .inl x.f1, .inl ⟨#[32]⟩, .inr x.f2, .inl ⟨#[10]⟩]
def lineK (x : S76) : List UInt8 := txtP (partsK x)
def partsS (c : Int) : List (ByteArray ⊕ Int) := [.inl ⟨#[10, 115, 112, 97, 99, 101, 32]⟩, .inr c, .inl ⟨#[10]⟩]
def head1 (a : ByteArray) : List UInt8 := [102, 111, 110, 116, 32] ++ a.data.toList
def head2 (a : ByteArray) (b : Bool) : List UInt8 := head1 a ++ (if b = true then [32, 115, 112, 101, 99, 105, 97, 108] else [])
def headT (a : ByteArray) (b : Bool) (c : Int) : List UInt8 := head2 a b ++ txtP (partsS c)
def writeV (a : ByteArray) (b : Bool) (c : Int) (l3 : List S31) (l4 : List S86) (l5 : List S76) : List UInt8 := ((headT a b c ++ rowsT lineG l3 l3.length) ++ rowsT lineL l4 l4.length) ++ rowsT lineK l5 l5.length
theorem ws_any (B b : Nat) (l : List UInt8) (s : ByteArray) (w : World) (h : Lib.IsBuilder 129 5 B b (Lib.byteCells l) w) (hlen : l.length + s.size ≤ 140737488355328) (hz : B ≤ w.heap.size) :
  Calls Tryz.prog 83 #[.pointer (some ⟨b, 0, none⟩), .string s] w fun e w' => e = .returned (.tuple #[.int .i64 s.size, .nilIface]) ∧ Lib.IsBuilder 129 5 B b (Lib.byteCells (l ++ s.data.toList)) w' ∧ Below B w w' :=
 (Tryz.Builder_WriteString B b _ s w h (by rw [byteCells_len]; exact hlen) hz).mono fun e w' ⟨h1, h2, h3⟩ => ⟨h1, .inr (by simpa [Lib.byteCells, Lib.strCells] using h2), h3⟩
theorem joined_at (ps : List (ByteArray ⊕ Int)) (cs : Array Value) (t : TypeId) (n g : Nat) (W : World) (hg : g = W.heap.size) (hcs : cs = (ps.map encP).toArray) (hps : n = ps.length) (hG : GW W) (hn : ∀ n, .inr n ∈ ps → -9223372036854775808 ≤ n ∧ n ≤ 9223372036854775807) (hp : ps.length ≤ 1000000) (hlen : (txtP ps).length ≤ 140737488355328) :
  Calls Tryz.prog 84 #[.slice (some ⟨g, 0, none⟩) n n] (W.alloc (.cells cs t)) fun e w' => e = .returned (.string (bar (txtP ps))) ∧ Below W.heap.size W w' := by
 subst hg hcs hps
 have hb : Below W.heap.size W (W.alloc (.cells (ps.map encP).toArray t)) := (Below.refl _ W).alloc (Nat.le_refl _) _
 refine (joined_calls ps W.heap.size 0 ps.length _ (hG.under hb) hn ?_ (by simp) hp hlen).mono ?_
 ·intro j x hx
  rw [Nat.zero_add]
  refine cell_blk (World.alloc_heap_new W _) j _ ?_
  simp [hx]
 ·rintro e w' ⟨rfl, h⟩
  exact ⟨rfl, hb.trans (h.mono (by simp))⟩
theorem valid_nums (a : ByteArray) (c : Int) (l3 : List S31) (l4 : List S86) (l5 : List S76) (h : validV a c l3 l4 l5 = true) :
  (0 ≤ c ∧ c ≤ 3000) ∧ (∀ x ∈ l3, 0 ≤ x.f1 ∧ x.f1 ≤ 3000) ∧ (∀ x ∈ l5, -500 ≤ x.f2 ∧ x.f2 ≤ 500) := by
 unfold validV at h
 split at h
 ·cases h
 ·rename_i q1
  split at h
  ·cases h
  ·rename_i q2
   split at h
   ·cases h
   ·rename_i q3
    simp only [Bool.or_eq_true, not_or, decide_eq_true_eq, wideB] at q1
    simp only [Bool.or_eq_true, not_or, Bool.not_eq_true, Bool.not_eq_false'] at q2
    rw [Bool.and_eq_true] at h
    refine ⟨by omega, fun x hx => ?_, fun x hx => ?_⟩
    ·have h1 := List.any_eq_false.1 q2.1 x hx
     unfold badG wideB at h1
     simp only [Bool.or_eq_true, not_or, decide_eq_true_eq] at h1
     omega
    ·have h2 : l5.any (badK l3) = false := by simpa using h.1
     have h1 := List.any_eq_false.1 h2 x hx
     unfold badK at h1
     simp only [Bool.or_eq_true, not_or, decide_eq_true_eq] at h1
     omega
theorem app_data (a b : ByteArray) : (a ++ b).data.toList = a.data.toList ++ b.data.toList := by simp
set_option maxRecDepth 100000 in
set_option maxHeartbeats 8000000 in
theorem write_ok (a : ByteArray) (b : Bool) (c : Int) (A3 : Option Addr) (c3 : Nat) (l3 : List S31) (A4 : Option Addr) (c4 : Nat) (l4 : List S86) (A5 : Option Addr) (c5 : Nat) (l5 : List S76) (g3 : l3.length ≤ c3) (g4 : l4.length ≤ c4) (g5 : l5.length ≤ c5) (w : World) (hG : GW w) (h3 : Kd.C k31 w A3 l3.length l3) (h4 : Kd.C k86 w A4 l4.length l4) (h5 : Kd.C k76 w A5 l5.length l5) (hl3 : l3.length ≤ 1000000000) (hl4 : l4.length ≤ 1000000000) (hl5 : l5.length ≤ 1000000000) (hv : validV a c l3 l4 l5 = true) (hlen : (writeV a b c l3 l4 l5).length ≤ 1000000000) :
  Calls Tryz.prog 25 #[.agg #[.string a, .bool b, .int .i64 c, .slice A3 l3.length c3, .slice A4 l4.length c4, .slice A5 l5.length c5]] w fun e w' => e = .returned (.tuple #[.string (bar (writeV a b c l3 l4 l5)), .int .i64 0]) ∧ Below w.heap.size w w' := by
 have hbx : Below w.heap.size w (w.alloc (.cells #[.string a, .bool b, .int .i64 c, .slice A3 l3.length c3, .slice A4 l4.length c4, .slice A5 l5.length c5] 26)) := (Below.refl _ w).alloc (Nat.le_refl _) _
 have hval := font_Valid.calls a b c A3 c3 l3 A4 c4 l4 A5 c5 l5 true (w.alloc (.cells #[.string a, .bool b, .int .i64 c, .slice A3 l3.length c3, .slice A4 l4.length c4, .slice A5 l5.length c5] 26)) (Kd.C_below h3 hbx) g3 (Kd.C_below h4 hbx) g4 (Kd.C_below h5 hbx) g5 (hG.under hbx) (by unfold font_Valid.f; rw [if_pos ⟨hl3, hl4, hl5⟩, hv])
 obtain ⟨nc, n3, n5⟩ := valid_nums a c l3 l4 l5 hv
 have hT : (headT a b c).length + (rowsT lineG l3 l3.length).length + (rowsT lineL l4 l4.length).length + (rowsT lineK l5 l5.length).length ≤ 1000000000 := by
  have := hlen
  unfold writeV at this
  simp only [List.length_append] at this
  omega
 have hT2 : (head2 a b).length + (txtP (partsS c)).length = (headT a b c).length := by unfold headT; rw [List.length_append]
 have hT1 : (head1 a).length ≤ (head2 a b).length := by unfold head2; rw [List.length_append]; omega
 have hT3 : (head1 a).length = 5 + a.size := by unfold head1; rw [List.length_append]; rfl
 have hT4 : b = true → (head1 a).length + 8 = (head2 a b).length := by intro h; unfold head2; rw [List.length_append, if_pos h]; rfl
 generalize hwv : writeV a b c l3 l4 l5 = V
 have HV := Lib.hid hwv
 clear hwv hlen hv
 go_enter Tryz.func25, Tryz.ntmps25
 go_wp2_with fail
 refine hval.mono ?_; rintro e w1 ⟨rfl, hb1⟩
 have hbw : Below w.heap.size w w1 := hbx.trans (hb1.mono hbx.size)
 have BX : w1.heap[w.heap.size]? = some (.cells #[.string a, .bool b, .int .i64 c, .slice A3 l3.length c3, .slice A4 l4.length c4, .slice A5 l5.length c5] 26 (0, 0)) := blk_below (blk_new w _) hb1
 have hG1 := hG.under hbw
 have k3 := Kd.C_below h3 hbw
 have k4 := Kd.C_below h4 hbw
 have k5 := Kd.C_below h5 hbw
 have hlt : w.heap.size < w1.heap.size := blk_lt BX
 have hf : ∀ W, Below w1.heap.size w1 W → W.heap[w.heap.size]? = some (.cells #[.string a, .bool b, .int .i64 c, .slice A3 l3.length c3, .slice A4 l4.length c4, .slice A5 l5.length c5] 26 (0, 0)) := fun W h => blk_below BX h
 have HF := Lib.hid hf

 have q0 : (w1.alloc (.cells #[.pointer none, .slice none 0 0] 129)).cell? ⟨w.heap.size, 0, none⟩ = some (.string a) := (blk_cell (hf _ ((Below.refl _ _).alloc (Nat.le_refl _) _)) 0).trans rfl
 clear hval hb1 hbx hG h3 h4 h5 hf
 go_wp2_with fail
 refine (ws_any w1.heap.size w1.heap.size [] ((⟨#[102, 111, 110, 116, 32]⟩ : ByteArray) ++ a) _ (.inl ⟨Nat.le_refl _, .slice none 0 0, World.alloc_heap_new w1 _, World.ownsRow_nil _ _ _ _, by simp [Value.ownBlock]⟩) (by rw [ByteArray.size_append]; show 0 + (5 + a.size) ≤ _; omega) (by simp)).mono ?_
 rintro e w2 ⟨rfl, hB, hbb⟩
 have hb2 : Below w1.heap.size w1 w2 := ((Below.refl _ w1).alloc (Nat.le_refl _) _).trans hbb
 have hB : Lib.IsBuilder 129 5 w1.heap.size w1.heap.size (Lib.byteCells (head1 a)) w2 := by rw [List.nil_append, app_data] at hB; exact hB
 clear hbb
 have HBd := Aside0.mk hB
 clear hB
 have HT := Aside0.mk (And.intro hT (And.intro hT2 (And.intro hT1 (And.intro hT3 hT4))))
 clear hT hT2 hT1 hT3 hT4
 cases hbv : b
 case' true =>
  have hcb : w2.cell? ⟨w.heap.size, 1, none⟩ = some (.bool true) := by rw [← hbv]; exact (blk_cell (HF.out w2 hb2) 1).trans rfl
  go_wp2_with fail
  refine (ws_any w1.heap.size w1.heap.size (head1 a) (⟨#[32, 115, 112, 101, 99, 105, 97, 108]⟩ : ByteArray) w2 HBd.out (by obtain ⟨p1, p2, p3, p4, p5⟩ := HT.out; have := p5 hbv; show (head1 a).length + 8 ≤ _; omega) hb2.size).mono ?_
  rintro e w2 ⟨rfl, hB, hbb⟩
  have hb2 : Below w1.heap.size w1 w2 := hb2.trans hbb
  clear hcb HBd
  have HBd : Aside0 (Lib.IsBuilder 129 5 w1.heap.size w1.heap.size (Lib.byteCells (head2 a b)) w2) := ⟨by unfold head2; rw [if_pos hbv]; exact hB⟩
  clear hB hbb
 case' false =>
  have hcb : w2.cell? ⟨w.heap.size, 1, none⟩ = some (.bool false) := by rw [← hbv]; exact (blk_cell (HF.out w2 hb2) 1).trans rfl
  have HBd : Aside0 (Lib.IsBuilder 129 5 w1.heap.size w1.heap.size (Lib.byteCells (head2 a b)) w2) := ⟨by unfold head2; rw [if_neg (by rw [hbv]; simp), List.append_nil]; exact HBd.out⟩
 all_goals
  have hc2 : w2.cell? ⟨w.heap.size, 2, none⟩ = some (.int .i64 c) := (blk_cell (HF.out w2 hb2) 2).trans rfl
  go_wp2_with fail
  refine (joined_at (partsS c) _ _ 3 w2.heap.size w2 rfl (by rfl) (by rfl) (hG1.under hb2) (by intro n hn; simp [partsS] at hn; omega) (by show 3 ≤ 1000000; decide) (by obtain ⟨p1, p2, p3, p4, p5⟩ := HT.out; omega)).mono ?_
  rintro e w3 ⟨rfl, hb3⟩
  clear hc2
  go_wp2_with fail
  refine (ws_any w1.heap.size w1.heap.size (head2 a b) (bar (txtP (partsS c))) w3 (builder_below HBd.out hb3) (by obtain ⟨p1, p2, p3, p4, p5⟩ := HT.out; rw [bar_size]; omega) (Nat.le_trans hb2.size hb3.size)).mono ?_
  rintro e w4 ⟨rfl, hB, hbb⟩
  have hb4 : Below w1.heap.size w1 w4 := (hb2.trans (hb3.mono hb2.size)).trans hbb
  have HBd : Aside0 (Lib.IsBuilder 129 5 w1.heap.size w1.heap.size (Lib.byteCells (headT a b c ++ rowsT lineG l3 0)) w4) := ⟨by rw [bar_data] at hB; rw [rowsT_zero, List.append_nil]; exact hB⟩
  clear hB hbb hb3 hb2
  have hc3 : w4.cell? ⟨w.heap.size, 3, none⟩ = some (.slice A3 l3.length c3) := (blk_cell (HF.out w4 hb4) 3).trans rfl
  go_wp2_with fail
  go_loopw [32] (fun y W => ∃ k : Nat, y = .int .i64 (k : Int) ∧ k ≤ l3.length ∧ Aside0 (Lib.IsBuilder 129 5 w1.heap.size w1.heap.size (Lib.byteCells (headT a b c ++ rowsT lineG l3 k)) W) ∧ Aside0 (Below w1.heap.size w1 W)) (fun y _ => l3.length - (intOf y).toNat)
  case atStart => exact ⟨0, rfl, Nat.zero_le _, HBd, ⟨hb4⟩⟩
  case round =>
   clear HBd hb4 hc3
   obtain ⟨k, rfl, hk, HBd, HB⟩ := hrel
   by_cases hlt : k < l3.length
   ·have hx := List.getElem?_eq_getElem hlt
    obtain ⟨ad, e, x0, x1⟩ := at_T31 (Kd.C_below k3 HB.out) (k : Int) (by omega) (by omega)
    cases e
    have e : rd_T31 l3 (k : Int) = l3[k] := by simp [rd_T31, List.getD_eq_getElem?_getD, hlt]
    rw [Int.toNat_natCast, e] at x0 x1
    clear e
    generalize l3[k] = x at hx x0 x1
    have HS := Aside0.mk (rowsT_succ lineG l3 k x hx)
    have hle := rowsT_le lineG l3 (k + 1)
    rw [HS.out, List.length_append] at hle
    have hL : (headT a b c ++ rowsT lineG l3 k).length + (txtP (partsG x)).length ≤ 1000000000 := by obtain ⟨p1, p2, p3, p4, p5⟩ := HT.out; have e : lineG x = txtP (partsG x) := rfl; rw [e] at hle; simp only [List.length_append] at hle ⊢; omega
    have HL := Aside0.mk hL
    have q1 : (k : Int) < (l3.length : Int) := by omega
    have q0 : (0 : Int) ≤ (k : Int) := by omega
    have q3 : ((k : Int)).toNat = k := Int.toNat_natCast k
    clear hle hL
    go_wp2_with fail
    have hbX : Below wr.heap.size wr (wr.alloc (.cells #[.string x.f0, .int .i64 x.f1] 31)) := (Below.refl _ wr).alloc (Nat.le_refl _) _
    have hzX : (wr.alloc (.cells #[.string x.f0, .int .i64 x.f1] 31)).heap.size = wr.heap.size + 1 := by simp
    refine (joined_at (partsG x) _ _ 5 (wr.heap.size + 1) (wr.alloc (.cells #[.string x.f0, .int .i64 x.f1] 31)) hzX.symm (by rfl) (by rfl) ((hG1.under HB.out).under hbX) (by have := n3 x (List.mem_of_getElem? hx); intro n hn; simp [partsG] at hn; omega) (by show 5 ≤ 1000000; decide) (by have := HL.out; omega)).mono ?_
    rintro e w5 ⟨rfl, hb5⟩
    have hb6 : Below wr.heap.size wr w5 := hbX.trans (hb5.mono hbX.size)
    clear hbX hzX hb5
    go_wp2_with fail
    refine (ws_any w1.heap.size w1.heap.size (headT a b c ++ rowsT lineG l3 k) (bar (txtP (partsG x))) w5 (builder_below HBd.out hb6) (by have := HL.out; rw [bar_size]; omega) (Nat.le_trans HB.out.size hb6.size)).mono ?_
    rintro e w7 ⟨rfl, hB, hbb⟩
    have HB2 : Aside0 (Below w1.heap.size w1 w7) := ⟨(HB.out.trans (hb6.mono HB.out.size)).trans hbb⟩
    have HBd2 : Aside0 (Lib.IsBuilder 129 5 w1.heap.size w1.heap.size (Lib.byteCells (headT a b c ++ rowsT lineG l3 (k + 1))) w7) := ⟨by rw [bar_data, List.append_assoc] at hB; rw [HS.out]; exact hB⟩
    clear hB hbb hb6 HBd HB
    go_wp2_with fail
    go_roundw
    case rel => exact ⟨k + 1, by first | rfl | (simp; done) | go_num, by omega, HBd2, HB2⟩
    case measure => simp [intOf]; omega
   ·obtain rfl : k = l3.length := by omega
    have hb9 := HB.out
    have HBd : Aside0 (Lib.IsBuilder 129 5 w1.heap.size w1.heap.size (Lib.byteCells ((headT a b c ++ rowsT lineG l3 l3.length) ++ rowsT lineL l4 0)) wr) := ⟨by rw [rowsT_zero, List.append_nil]; exact HBd.out⟩
    clear HB
    have hc4 : wr.cell? ⟨w.heap.size, 4, none⟩ = some (.slice A4 l4.length c4) := (blk_cell (HF.out wr hb9) 4).trans rfl
    go_wp2_with fail
    go_loopw [52] (fun y W => ∃ k : Nat, y = .int .i64 (k : Int) ∧ k ≤ l4.length ∧ Aside0 (Lib.IsBuilder 129 5 w1.heap.size w1.heap.size (Lib.byteCells ((headT a b c ++ rowsT lineG l3 l3.length) ++ rowsT lineL l4 k)) W) ∧ Aside0 (Below w1.heap.size w1 W)) (fun y _ => l4.length - (intOf y).toNat)
    case atStart => exact ⟨0, rfl, Nat.zero_le _, HBd, ⟨hb9⟩⟩
    case round =>
     clear HBd hb9 hc4
     obtain ⟨k, rfl, hk, HBd, HB⟩ := hrel
     by_cases hlt : k < l4.length
     ·have hx := List.getElem?_eq_getElem hlt
      obtain ⟨ad, e, x0, x1, x2⟩ := at_T86 (Kd.C_below k4 HB.out) (k : Int) (by omega) (by omega)
      cases e
      have e : rd_T86 l4 (k : Int) = l4[k] := by simp [rd_T86, List.getD_eq_getElem?_getD, hlt]
      rw [Int.toNat_natCast, e] at x0 x1 x2
      clear e
      generalize l4[k] = x at hx x0 x1 x2
      have HS := Aside0.mk (rowsT_succ lineL l4 k x hx)
      have hle := rowsT_le lineL l4 (k + 1)
      rw [HS.out, List.length_append] at hle
      have hL : ((headT a b c ++ rowsT lineG l3 l3.length) ++ rowsT lineL l4 k).length + (txtP (partsL x)).length ≤ 1000000000 := by obtain ⟨p1, p2, p3, p4, p5⟩ := HT.out; have e : lineL x = txtP (partsL x) := rfl; rw [e] at hle; simp only [List.length_append] at hle ⊢; omega
      have HL := Aside0.mk hL
      have q1 : (k : Int) < (l4.length : Int) := by omega
      have q0 : (0 : Int) ≤ (k : Int) := by omega
      have q3 : ((k : Int)).toNat = k := Int.toNat_natCast k
      clear hle hL
      go_wp2_with fail
      have hbX : Below wr.heap.size wr (wr.alloc (.cells #[.string x.f0, .string x.f1, .string x.f2] 86)) := (Below.refl _ wr).alloc (Nat.le_refl _) _
      have hzX : (wr.alloc (.cells #[.string x.f0, .string x.f1, .string x.f2] 86)).heap.size = wr.heap.size + 1 := by simp
      refine (joined_at (partsL x) _ _ 7 (wr.heap.size + 1) (wr.alloc (.cells #[.string x.f0, .string x.f1, .string x.f2] 86)) hzX.symm (by rfl) (by rfl) ((hG1.under HB.out).under hbX) (by intro n hn; simp [partsL] at hn) (by show 7 ≤ 1000000; decide) (by have := HL.out; omega)).mono ?_
      rintro e w5 ⟨rfl, hb5⟩
      have hb6 : Below wr.heap.size wr w5 := hbX.trans (hb5.mono hbX.size)
      clear hbX hzX hb5
      go_wp2_with fail
      refine (ws_any w1.heap.size w1.heap.size ((headT a b c ++ rowsT lineG l3 l3.length) ++ rowsT lineL l4 k) (bar (txtP (partsL x))) w5 (builder_below HBd.out hb6) (by have := HL.out; rw [bar_size]; omega) (Nat.le_trans HB.out.size hb6.size)).mono ?_
      rintro e w7 ⟨rfl, hB, hbb⟩
      have HB2 : Aside0 (Below w1.heap.size w1 w7) := ⟨(HB.out.trans (hb6.mono HB.out.size)).trans hbb⟩
      have HBd2 : Aside0 (Lib.IsBuilder 129 5 w1.heap.size w1.heap.size (Lib.byteCells ((headT a b c ++ rowsT lineG l3 l3.length) ++ rowsT lineL l4 (k + 1))) w7) := ⟨by rw [bar_data, List.append_assoc] at hB; rw [HS.out]; exact hB⟩
      clear hB hbb hb6 HBd HB
      go_wp2_with fail
      go_roundw
      case rel => exact ⟨k + 1, by first | rfl | (simp; done) | go_num, by omega, HBd2, HB2⟩
      case measure => simp [intOf]; omega
     ·obtain rfl : k = l4.length := by omega
      have hb9 := HB.out
      have HBd : Aside0 (Lib.IsBuilder 129 5 w1.heap.size w1.heap.size (Lib.byteCells (((headT a b c ++ rowsT lineG l3 l3.length) ++ rowsT lineL l4 l4.length) ++ rowsT lineK l5 0)) wr) := ⟨by rw [rowsT_zero, List.append_nil]; exact HBd.out⟩
      clear HB
      have hc5 : wr.cell? ⟨w.heap.size, 5, none⟩ = some (.slice A5 l5.length c5) := (blk_cell (HF.out wr hb9) 5).trans rfl
      go_wp2_with fail
      go_loopw [76] (fun y W => ∃ k : Nat, y = .int .i64 (k : Int) ∧ k ≤ l5.length ∧ Aside0 (Lib.IsBuilder 129 5 w1.heap.size w1.heap.size (Lib.byteCells (((headT a b c ++ rowsT lineG l3 l3.length) ++ rowsT lineL l4 l4.length) ++ rowsT lineK l5 k)) W) ∧ Aside0 (Below w1.heap.size w1 W)) (fun y _ => l5.length - (intOf y).toNat)
      case atStart => exact ⟨0, rfl, Nat.zero_le _, HBd, ⟨hb9⟩⟩
      case round =>
       clear HBd hb9 hc5
       obtain ⟨k, rfl, hk, HBd, HB⟩ := hrel
       by_cases hlt : k < l5.length
       ·have hx := List.getElem?_eq_getElem hlt
        obtain ⟨ad, e, x0, x1, x2⟩ := at_T76 (Kd.C_below k5 HB.out) (k : Int) (by omega) (by omega)
        cases e
        have e : rd_T76 l5 (k : Int) = l5[k] := by simp [rd_T76, List.getD_eq_getElem?_getD, hlt]
        rw [Int.toNat_natCast, e] at x0 x1 x2
        clear e
        generalize l5[k] = x at hx x0 x1 x2
        have HS := Aside0.mk (rowsT_succ lineK l5 k x hx)
        have hle := rowsT_le lineK l5 (k + 1)
        rw [HS.out, List.length_append] at hle
        have hL : (((headT a b c ++ rowsT lineG l3 l3.length) ++ rowsT lineL l4 l4.length) ++ rowsT lineK l5 k).length + (txtP (partsK x)).length ≤ 1000000000 := by obtain ⟨p1, p2, p3, p4, p5⟩ := HT.out; have e : lineK x = txtP (partsK x) := rfl; rw [e] at hle; simp only [List.length_append] at hle ⊢; omega
        have HL := Aside0.mk hL
        have q1 : (k : Int) < (l5.length : Int) := by omega
        have q0 : (0 : Int) ≤ (k : Int) := by omega
        have q3 : ((k : Int)).toNat = k := Int.toNat_natCast k
        clear hle hL
        go_wp2_with fail
        have hbX : Below wr.heap.size wr (wr.alloc (.cells #[.string x.f0, .string x.f1, .int .i64 x.f2] 76)) := (Below.refl _ wr).alloc (Nat.le_refl _) _
        have hzX : (wr.alloc (.cells #[.string x.f0, .string x.f1, .int .i64 x.f2] 76)).heap.size = wr.heap.size + 1 := by simp
        refine (joined_at (partsK x) _ _ 7 (wr.heap.size + 1) (wr.alloc (.cells #[.string x.f0, .string x.f1, .int .i64 x.f2] 76)) hzX.symm (by rfl) (by rfl) ((hG1.under HB.out).under hbX) (by have := n5 x (List.mem_of_getElem? hx); intro n hn; simp [partsK] at hn; omega) (by show 7 ≤ 1000000; decide) (by have := HL.out; omega)).mono ?_
        rintro e w5 ⟨rfl, hb5⟩
        have hb6 : Below wr.heap.size wr w5 := hbX.trans (hb5.mono hbX.size)
        clear hbX hzX hb5
        go_wp2_with fail
        refine (ws_any w1.heap.size w1.heap.size (((headT a b c ++ rowsT lineG l3 l3.length) ++ rowsT lineL l4 l4.length) ++ rowsT lineK l5 k) (bar (txtP (partsK x))) w5 (builder_below HBd.out hb6) (by have := HL.out; rw [bar_size]; omega) (Nat.le_trans HB.out.size hb6.size)).mono ?_
        rintro e w7 ⟨rfl, hB, hbb⟩
        have HB2 : Aside0 (Below w1.heap.size w1 w7) := ⟨(HB.out.trans (hb6.mono HB.out.size)).trans hbb⟩
        have HBd2 : Aside0 (Lib.IsBuilder 129 5 w1.heap.size w1.heap.size (Lib.byteCells (((headT a b c ++ rowsT lineG l3 l3.length) ++ rowsT lineL l4 l4.length) ++ rowsT lineK l5 (k + 1))) w7) := ⟨by rw [bar_data, List.append_assoc] at hB; rw [HS.out]; exact hB⟩
        clear hB hbb hb6 HBd HB
        go_wp2_with fail
        go_roundw
        case rel => exact ⟨k + 1, by first | rfl | (simp; done) | go_num, by omega, HBd2, HB2⟩
        case measure => simp [intOf]; omega
       ·obtain rfl : k = l5.length := by omega
        have hb9 := HB.out
        have HBe : Lib.IsBuilder 129 5 w1.heap.size w1.heap.size (Lib.byteCells V) wr := by rw [← HV.out]; exact HBd.out
        have hs := Tryz.Builder_String_any w1.heap.size w1.heap.size _ wr HBe hb9.size
        clear HBd HB HBe
        go_wp2_with fail
        refine hs.mono ?_; rintro e w2 ⟨rfl, hb10⟩
        go_wp2_with fail
        go_ret2
        exact ⟨rfl, (hbw.trans (hb9.mono hbw.size)).trans (hb10.mono hbw.size)⟩
set_option maxRecDepth 100000 in
theorem write_bad (a : ByteArray) (b : Bool) (c : Int) (A3 : Option Addr) (c3 : Nat) (l3 : List S31) (A4 : Option Addr) (c4 : Nat) (l4 : List S86) (A5 : Option Addr) (c5 : Nat) (l5 : List S76) (g3 : l3.length ≤ c3) (g4 : l4.length ≤ c4) (g5 : l5.length ≤ c5) (w : World) (hG : GW w) (h3 : Kd.C k31 w A3 l3.length l3) (h4 : Kd.C k86 w A4 l4.length l4) (h5 : Kd.C k76 w A5 l5.length l5) (hl3 : l3.length ≤ 1000000000) (hl4 : l4.length ≤ 1000000000) (hl5 : l5.length ≤ 1000000000) (hv : validV a c l3 l4 l5 = false) :
  Calls Tryz.prog 25 #[.agg #[.string a, .bool b, .int .i64 c, .slice A3 l3.length c3, .slice A4 l4.length c4, .slice A5 l5.length c5]] w fun e w' => e = .returned (.tuple #[.string (⟨#[]⟩ : ByteArray), .int .i64 1]) ∧ Below w.heap.size w w' := by
 have hbx : Below w.heap.size w (w.alloc (.cells #[.string a, .bool b, .int .i64 c, .slice A3 l3.length c3, .slice A4 l4.length c4, .slice A5 l5.length c5] 26)) := (Below.refl _ w).alloc (Nat.le_refl _) _
 have hval := font_Valid.calls a b c A3 c3 l3 A4 c4 l4 A5 c5 l5 false (w.alloc (.cells #[.string a, .bool b, .int .i64 c, .slice A3 l3.length c3, .slice A4 l4.length c4, .slice A5 l5.length c5] 26)) (Kd.C_below h3 hbx) g3 (Kd.C_below h4 hbx) g4 (Kd.C_below h5 hbx) g5 (hG.under hbx) (by unfold font_Valid.f; rw [if_pos ⟨hl3, hl4, hl5⟩, hv])
 clear hG h3 h4 h5
 go_enter Tryz.func25, Tryz.ntmps25
 go_wp2_with fail
 refine hval.mono ?_; rintro e w1 ⟨rfl, hb1⟩
 go_wp2
 go_ret2
 exact ⟨rfl, hbx.trans (hb1.mono hbx.size)⟩
end Go.Proofs.YtaifemkokfoadaaGreatDoor

namespace Go.Proofs.YtaifemkokfoadaaGreatDoor
open Go.RowKit Go.Proofs.YtaifemkokfoadaaGreatDoorW.PrintWords Go.Proofs.YtaifemkokfoadaaGreatDoorW.PrintLast Go.Proofs.YtaifemkokfoadaaGreatDoorW.PrintMore Go.Proofs.YtaifemkokfoadaaGreatDoor.PX
set_option linter.unusedSimpArgs false
set_option linter.unusedVariables false
def rlineG (x : S81) : List UInt8 := [103, 32] ++ x.f0.data.toList ++ [32] ++ Lib.itoa x.f1 ++ [10]
def rlineL (x : S83) : List UInt8 := [108, 32] ++ x.f0.data.toList ++ [32] ++ x.f1.data.toList ++ [32] ++ x.f2.data.toList ++ [10]
def rlineK (x : S84) : List UInt8 := [107, 32] ++ x.f0.data.toList ++ [32] ++ x.f1.data.toList ++ [32] ++ Lib.itoa x.f2 ++ [10]
def rwriteV (a : ByteArray) (b : Bool) (c : Int) (l3 : List S81) (l4 : List S83) (l5 : List S84) : List UInt8 := ((headT a b c ++ rowsT rlineG l3 l3.length) ++ rowsT rlineL l4 l4.length) ++ rowsT rlineK l5 l5.length
theorem digits_q (n : Int) (h0 : 0 ≤ n) (h1 : n ≤ 9223372036854775807) (W : World) : Calls Tryz.prog 113 #[.int .i64 n] W fun e w' => e = .returned (.string (bar (Lib.itoa n))) ∧ Below W.heap.size W w' := by
 obtain ⟨k, hk⟩ := (digits_ev n.toNat (by omega)).rounds
 have e : ((n.toNat : Nat) : Int) = n := by omega
 have hk : frisketref01_Digits.f k n = some (bar (Lib.itoa n)) := by rw [← e]; rw [show Lib.itoa ((n.toNat : Nat) : Int) = Lib.decDigits n.toNat from by unfold Lib.itoa; rw [if_neg (by omega), e]]; exact hk
 exact frisketref01_Digits.calls k n _ W hk
theorem signed_q (n : Int) (h0 : -9223372036854775808 ≤ n) (h1 : n ≤ 9223372036854775807) (W : World) : Calls Tryz.prog 114 #[.int .i64 n] W fun e w' => e = .returned (.string (bar (Lib.itoa n))) ∧ Below W.heap.size W w' := by
 obtain ⟨k, hk⟩ := (signed_ev n h0 h1).rounds
 exact frisketref07_Signed.calls k n _ W hk
theorem rvalid_nums (a : ByteArray) (c : Int) (l3 : List S81) (l4 : List S83) (l5 : List S84) (h : rvalidV a c l3 l4 l5 = true) : (0 ≤ c ∧ c ≤ 3000) ∧ (∀ (i : Nat) (hi : i < l3.length), 0 ≤ l3[i].f1 ∧ l3[i].f1 ≤ 3000) ∧ (∀ (i : Nat) (hi : i < l5.length), -500 ≤ l5[i].f2 ∧ l5[i].f2 ≤ 500) := by
 unfold rvalidV at h
 simp only [Bool.and_eq_true, Bool.not_eq_true'] at h
 refine ⟨?_, fun i hi => ?_, fun i hi => ?_⟩
 ·have := h.1.2.1
  unfold wideR at this
  simp only [Bool.or_eq_false_iff, decide_eq_false_iff_not] at this
  omega
 ·have h1 := List.all_eq_true.1 h.2.1 i (List.mem_range.2 hi)
  have e : rd_T81 l3 (i : Int) = l3[i] := by simp [rd_T81, List.getD_eq_getElem?_getD, hi]
  unfold rokG wideR at h1
  rw [e] at h1
  simp only [Bool.and_eq_true, Bool.not_eq_true', Bool.or_eq_false_iff, decide_eq_false_iff_not] at h1
  omega
 ·have h1 := List.all_eq_true.1 h.2.2.2 i (List.mem_range.2 hi)
  have e : rd_T84 l5 (i : Int) = l5[i] := by simp [rd_T84, List.getD_eq_getElem?_getD, hi]
  unfold rokK at h1
  rw [e] at h1
  simp only [Bool.and_eq_true, Bool.not_eq_true', decide_eq_false_iff_not] at h1
  omega
theorem sz_of {s : ByteArray} {l : List UInt8} (h : s.data.toList = l) : s.size = l.length := by rw [← h, Array.length_toList]; rfl
set_option maxRecDepth 100000 in
theorem rwrite_bad (a : ByteArray) (b : Bool) (c : Int) (A3 : Option Addr) (c3 : Nat) (l3 : List S81) (A4 : Option Addr) (c4 : Nat) (l4 : List S83) (A5 : Option Addr) (c5 : Nat) (l5 : List S84) (w : World) (h3 : Kd.C k81 w A3 l3.length l3) (g3 : l3.length ≤ c3) (h4 : Kd.C k83 w A4 l4.length l4) (g4 : l4.length ≤ c4) (h5 : Kd.C k84 w A5 l5.length l5) (g5 : l5.length ≤ c5) (hl3 : l3.length ≤ 1000000000) (hl4 : l4.length ≤ 1000000000) (hl5 : l5.length ≤ 1000000000) (ha : a.size ≤ 140737488355328) (hz : ∀ x ∈ l3, x.f0.size ≤ 140737488355328) (hv : rvalidV a c l3 l4 l5 = false) :
  Calls Tryz.prog 75 #[.agg #[.string a, .bool b, .int .i64 c, .slice A3 l3.length c3, .slice A4 l4.length c4, .slice A5 l5.length c5]] w fun e w' => e = .returned (.tuple #[.string (⟨#[]⟩ : ByteArray), .int .i64 1]) ∧ Below w.heap.size w w' := by
 have hbx : Below w.heap.size w (w.alloc (.cells #[.string a, .bool b, .int .i64 c, .slice A3 l3.length c3, .slice A4 l4.length c4, .slice A5 l5.length c5] 44)) := (Below.refl _ w).alloc (Nat.le_refl _) _
 have hval := rvalid_any a b c A3 c3 l3 A4 c4 l4 A5 c5 l5 (w.alloc (.cells #[.string a, .bool b, .int .i64 c, .slice A3 l3.length c3, .slice A4 l4.length c4, .slice A5 l5.length c5] 44)) (Kd.C_below h3 hbx) g3 (Kd.C_below h4 hbx) g4 (Kd.C_below h5 hbx) g5 hl3 hl4 hl5 ha hz
 rw [hv] at hval
 clear h3 h4 h5 hz
 go_enter Tryz.func75, Tryz.ntmps75
 go_wp2_with fail
 refine hval.mono ?_; rintro e w1 ⟨rfl, hb1⟩
 go_wp2
 go_ret2
 exact ⟨rfl, hbx.trans (hb1.mono hbx.size)⟩
set_option maxRecDepth 100000 in
set_option maxHeartbeats 8000000 in
theorem rwrite_ok (a : ByteArray) (b : Bool) (c : Int) (A3 : Option Addr) (c3 : Nat) (l3 : List S81) (A4 : Option Addr) (c4 : Nat) (l4 : List S83) (A5 : Option Addr) (c5 : Nat) (l5 : List S84) (w : World) (h3 : Kd.C k81 w A3 l3.length l3) (g3 : l3.length ≤ c3) (h4 : Kd.C k83 w A4 l4.length l4) (g4 : l4.length ≤ c4) (h5 : Kd.C k84 w A5 l5.length l5) (g5 : l5.length ≤ c5) (hl3 : l3.length ≤ 1000000000) (hl4 : l4.length ≤ 1000000000) (hl5 : l5.length ≤ 1000000000) (ha : a.size ≤ 140737488355328) (hz : ∀ x ∈ l3, x.f0.size ≤ 140737488355328) (hv : rvalidV a c l3 l4 l5 = true) (hlen : (rwriteV a b c l3 l4 l5).length ≤ 1000000000) :
  Calls Tryz.prog 75 #[.agg #[.string a, .bool b, .int .i64 c, .slice A3 l3.length c3, .slice A4 l4.length c4, .slice A5 l5.length c5]] w fun e w' => e = .returned (.tuple #[.string (bar (rwriteV a b c l3 l4 l5)), .int .i64 0]) ∧ Below w.heap.size w w' := by
 have hbx : Below w.heap.size w (w.alloc (.cells #[.string a, .bool b, .int .i64 c, .slice A3 l3.length c3, .slice A4 l4.length c4, .slice A5 l5.length c5] 44)) := (Below.refl _ w).alloc (Nat.le_refl _) _
 have hval := rvalid_any a b c A3 c3 l3 A4 c4 l4 A5 c5 l5 (w.alloc (.cells #[.string a, .bool b, .int .i64 c, .slice A3 l3.length c3, .slice A4 l4.length c4, .slice A5 l5.length c5] 44)) (Kd.C_below h3 hbx) g3 (Kd.C_below h4 hbx) g4 (Kd.C_below h5 hbx) g5 hl3 hl4 hl5 ha hz
 rw [hv] at hval
 obtain ⟨nc, n3, n5⟩ := rvalid_nums a c l3 l4 l5 hv
 have hT : (headT a b c).length + (rowsT rlineG l3 l3.length).length + (rowsT rlineL l4 l4.length).length + (rowsT rlineK l5 l5.length).length ≤ 1000000000 := by
  have := hlen
  unfold rwriteV at this
  simp only [List.length_append] at this
  omega
 have hT2 : (head2 a b).length + (txtP (partsS c)).length = (headT a b c).length := by unfold headT; rw [List.length_append]
 have hT1 : (head1 a).length ≤ (head2 a b).length := by unfold head2; rw [List.length_append]; omega
 have hT3 : (head1 a).length = 5 + a.size := by unfold head1; rw [List.length_append]; rfl
 have hT4 : b = true → (head1 a).length + 8 = (head2 a b).length := by intro h; unfold head2; rw [List.length_append, if_pos h]; rfl
 have hT5 : (txtP (partsS c)).length = 7 + (Lib.itoa c).length + 1 := by simp [txtP, partsS, txt1]; omega
 generalize hwv : rwriteV a b c l3 l4 l5 = V
 have HV := Aside0.mk hwv
 clear hwv hlen hv hz
 go_enter Tryz.func75, Tryz.ntmps75
 go_wp2_with fail
 refine hval.mono ?_; rintro e w1 ⟨rfl, hb1⟩
 have hbw : Below w.heap.size w w1 := hbx.trans (hb1.mono hbx.size)
 have BX : w1.heap[w.heap.size]? = some (.cells #[.string a, .bool b, .int .i64 c, .slice A3 l3.length c3, .slice A4 l4.length c4, .slice A5 l5.length c5] 44 (0, 0)) := blk_below (blk_new w _) hb1
 have k3 := Aside0.mk (Kd.C_below h3 hbw)
 have k4 := Aside0.mk (Kd.C_below h4 hbw)
 have k5 := Aside0.mk (Kd.C_below h5 hbw)
 have HF := Aside0.mk (fun (W : World) (h : Below w1.heap.size w1 W) => blk_below BX h)
 have HT := Aside0.mk (And.intro hT (And.intro hT2 (And.intro hT1 (And.intro hT3 (And.intro hT4 hT5)))))
 have q0 : w1.cell? ⟨w.heap.size, 0, none⟩ = some (.string a) := (blk_cell BX 0).trans rfl
 have q1 : w1.cell? ⟨w.heap.size, 1, none⟩ = some (.bool b) := (blk_cell BX 1).trans rfl
 have q2 : w1.cell? ⟨w.heap.size, 2, none⟩ = some (.int .i64 c) := (blk_cell BX 2).trans rfl
 have z0 : (9223372036854775807 < 5 + a.size) = False := eq_false (by omega)
 have z1 : (9223372036854775807 < 5 + a.size + 8) = False := eq_false (by omega)
 have hdig := digits_q c nc.1 (by omega) w1
 have hDd : (bar (Lib.itoa c)).data.toList = Lib.itoa c := bar_data _
 have hDz : (bar (Lib.itoa c)).size ≤ 1000000000 := by rw [bar_size]; omega
 generalize bar (Lib.itoa c) = D at hdig hDd hDz
 have z2 : (9223372036854775807 < 7 + D.size) = False := eq_false (by omega)
 have z3 : (9223372036854775807 < 7 + D.size + 1) = False := eq_false (by omega)
 have z4 : (9223372036854775807 < 5 + a.size + (7 + D.size + 1)) = False := eq_false (by omega)
 have z5 : (9223372036854775807 < 5 + a.size + 8 + (7 + D.size + 1)) = False := eq_false (by omega)
 clear hval hb1 hbx h3 h4 h5 BX hT hT1 hT2 hT3 hT4 hT5
 cases hbv : b
 case' true =>
  rw [hbv] at q1
  go_wp2_with fail
  refine hdig.mono ?_; rintro e w2 ⟨rfl, hb2⟩
  have hs : ((((⟨#[102, 111, 110, 116, 32]⟩ : ByteArray) ++ a) ++ (⟨#[32, 115, 112, 101, 99, 105, 97, 108]⟩ : ByteArray)) ++ (((⟨#[10, 115, 112, 97, 99, 101, 32]⟩ : ByteArray) ++ D) ++ (⟨#[10]⟩ : ByteArray))).data.toList = headT a b c ++ rowsT rlineG l3 0 := by
   rw [rowsT_zero, List.append_nil]
   unfold headT head2 head1
   rw [if_pos hbv]
   simp only [app_data, hDd, txtP, partsS, txt1, List.map_cons, List.map_nil, List.flatten_cons, List.flatten_nil, List.append_nil]
   simp
  go_wp2_with fail
  generalize ((((⟨#[102, 111, 110, 116, 32]⟩ : ByteArray) ++ a) ++ (⟨#[32, 115, 112, 101, 99, 105, 97, 108]⟩ : ByteArray)) ++ (((⟨#[10, 115, 112, 97, 99, 101, 32]⟩ : ByteArray) ++ D) ++ (⟨#[10]⟩ : ByteArray))) = s at hs ⊢
 case' false =>
  rw [hbv] at q1
  go_wp2_with fail
  refine hdig.mono ?_; rintro e w2 ⟨rfl, hb2⟩
  have hs : (((⟨#[102, 111, 110, 116, 32]⟩ : ByteArray) ++ a) ++ (((⟨#[10, 115, 112, 97, 99, 101, 32]⟩ : ByteArray) ++ D) ++ (⟨#[10]⟩ : ByteArray))).data.toList = headT a b c ++ rowsT rlineG l3 0 := by
   rw [rowsT_zero, List.append_nil]
   unfold headT head2 head1
   rw [if_neg (by rw [hbv]; simp)]
   simp only [app_data, hDd, txtP, partsS, txt1, List.map_cons, List.map_nil, List.flatten_cons, List.flatten_nil, List.append_nil]
   simp
  go_wp2_with fail
  generalize (((⟨#[102, 111, 110, 116, 32]⟩ : ByteArray) ++ a) ++ (((⟨#[10, 115, 112, 97, 99, 101, 32]⟩ : ByteArray) ++ D) ++ (⟨#[10]⟩ : ByteArray))) = s at hs ⊢
 all_goals
  clear q0 q1 q2 z0 z1 z2 z3 z4 z5 hdig hDd hDz
  have HB0 := Aside0.mk hb2
  have HS0 := Aside0.mk hs
  clear hb2 hs
  go_loopw [4, 5] (fun y4 y W => ∃ (k : Nat) (s : ByteArray), y4 = .string s ∧ y = .int .i64 (k : Int) ∧ k ≤ l3.length ∧ Aside0 (s.data.toList = headT a b c ++ rowsT rlineG l3 k) ∧ Aside0 (Below w1.heap.size w1 W)) (fun _ y _ => l3.length - (intOf y).toNat)
  case atStart => exact ⟨0, s, rfl, rfl, Nat.zero_le _, HS0, HB0⟩
  case round =>
   clear HS0 HB0
   obtain ⟨k, s, rfl, rfl, hk, HS3, HB3⟩ := hrel
   have hcf : wr.cell? ⟨w.heap.size, 3, none⟩ = some (.slice A3 l3.length c3) := (blk_cell (HF.out wr HB3.out) 3).trans rfl
   by_cases hlt : k < l3.length
   ·have hx := List.getElem?_eq_getElem hlt
    obtain ⟨ad, e, x0, x1⟩ := at_T81 (Kd.C_below k3.out HB3.out) (k : Int) (by omega) (by omega)
    cases e
    have e : rd_T81 l3 (k : Int) = l3[k] := by simp [rd_T81, List.getD_eq_getElem?_getD, hlt]
    rw [Int.toNat_natCast, e] at x0 x1
    clear e
    have hnum := n3 k hlt
    generalize l3[k] = x at hx hnum x0 x1
    have HS := Aside0.mk (rowsT_succ rlineG l3 k x hx)
    have hle := rowsT_le rlineG l3 (k + 1)
    rw [HS.out, List.length_append] at hle
    have hss := sz_of HS3.out
    have hL : s.size + (rlineG x).length ≤ 1000000000 := by obtain ⟨p1, p2, p3, p4, p5, p6⟩ := HT.out; rw [hss]; simp only [List.length_append] at hle ⊢; omega
    have hE : (rlineG x).length = 2 + x.f0.size + 1 + (Lib.itoa x.f1).length + 1 := by
     unfold rlineG
     simp only [List.length_append, List.length_cons, List.length_nil, Array.length_toList]
     rfl
    have hcl := fun W => digits_q x.f1 (by omega) (by omega) W
    have hDd : (bar (Lib.itoa x.f1)).data.toList = Lib.itoa x.f1 := bar_data _
    have hDz : (bar (Lib.itoa x.f1)).size = (Lib.itoa x.f1).length := bar_size _
    generalize bar (Lib.itoa x.f1) = D at hcl hDd hDz
    have z0 : (9223372036854775807 < 2 + x.f0.size) = False := eq_false (by omega)
    have z1 : (9223372036854775807 < 2 + x.f0.size + 1) = False := eq_false (by omega)
    have z2 : (9223372036854775807 < 2 + x.f0.size + 1 + D.size) = False := eq_false (by omega)
    have z3 : (9223372036854775807 < 2 + x.f0.size + 1 + D.size + 1) = False := eq_false (by omega)
    have z9 : (9223372036854775807 < s.size + (2 + x.f0.size + 1 + D.size + 1)) = False := eq_false (by omega)
    have hnew : Aside0 ((s ++ (((((⟨#[103, 32]⟩ : ByteArray) ++ x.f0) ++ (⟨#[32]⟩ : ByteArray)) ++ D) ++ (⟨#[10]⟩ : ByteArray))).data.toList = headT a b c ++ rowsT rlineG l3 (k + 1)) := ⟨by
     rw [HS.out, app_data, HS3.out]
     unfold rlineG
     simp only [app_data, hDd, List.append_assoc]⟩
    have q1 : (k : Int) < (l3.length : Int) := by omega
    have q0 : (0 : Int) ≤ (k : Int) := by omega
    have q3 : ((k : Int)).toNat = k := Int.toNat_natCast k
    have q2 : decide ((k : Int) < (l3.length : Int)) = true := decide_eq_true q1
    clear hle hL hE hss hDd hDz
    go_wp2_with fail
    have HSx := Aside0.mk (fun (W : World) (h : Below wr.heap.size wr W) => (show W.cell? ⟨w.heap.size, 3, none⟩ = some (.slice (some ad) l3.length c3) ∧ W.cell? (ad.add (k * 2)) = some (.string x.f0) ∧ W.cell? ⟨(ad.add (k * 2)).block, (ad.add (k * 2)).off + 1, none⟩ = some (.int .i64 x.f1) from ⟨(h.cell (World.block_lt_of_cell? wr _ hcf)).trans hcf, (h.cell (World.block_lt_of_cell? wr _ x0)).trans x0, (h.cell (World.block_lt_of_cell? wr _ x1)).trans x1⟩))
    go_region_held3 (fun W => W.cell? ⟨w.heap.size, 3, none⟩ = some (.slice (some ad) l3.length c3) ∧ W.cell? (ad.add (k * 2)) = some (.string x.f0) ∧ W.cell? ⟨(ad.add (k * 2)).block, (ad.add (k * 2)).off + 1, none⟩ = some (.int .i64 x.f1)) (first | exact HSx.out _ HA1.out | exact HSx.out _ (Below.refl _ _).drew) (first | (go_at_call 113; refine (hcl _).mono ?_; rintro e wA ⟨rfl, hA0⟩; have HA1 : Aside0 (Below wr.heap.size wr wA) := ⟨((Below.refl _ _).drew).trans (hA0.mono (Nat.le_refl _))⟩; clear hA0))
    have HB9 : Aside0 (Below w1.heap.size w1 wA) := ⟨HB3.out.trans (HA1.out.mono HB3.out.size)⟩
    go_wp2
    go_roundw
    case rel => exact ⟨k + 1, _, rfl, by first | rfl | (simp; done) | go_num, by omega, hnew, HB9⟩
    case measure => simp [intOf]; omega
   ·obtain rfl : k = l3.length := by omega
    have q2 : decide ((l3.length : Int) < (l3.length : Int)) = false := decide_eq_false (by omega)
    have q1 : ¬ (l3.length : Int) < (l3.length : Int) := by omega
    have HN : Aside0 (s.data.toList = (headT a b c ++ rowsT rlineG l3 l3.length) ++ rowsT rlineL l4 0) := ⟨by rw [rowsT_zero, List.append_nil]; exact HS3.out⟩
    clear HS3
    go_wp2
    go_loopw [4, 6] (fun y4 y W => ∃ (k : Nat) (s : ByteArray), y4 = .string s ∧ y = .int .i64 (k : Int) ∧ k ≤ l4.length ∧ Aside0 (s.data.toList = (headT a b c ++ rowsT rlineG l3 l3.length) ++ rowsT rlineL l4 k) ∧ Aside0 (Below w1.heap.size w1 W)) (fun _ y _ => l4.length - (intOf y).toNat)
    case atStart => exact ⟨0, s, rfl, rfl, Nat.zero_le _, HN, HB3⟩
    case round =>
     clear HN HB3
     obtain ⟨k, s, rfl, rfl, hk, HS4, HB4⟩ := hrel
     have hcf : wr.cell? ⟨w.heap.size, 4, none⟩ = some (.slice A4 l4.length c4) := (blk_cell (HF.out wr HB4.out) 4).trans rfl
     by_cases hlt : k < l4.length
     ·have hx := List.getElem?_eq_getElem hlt
      obtain ⟨ad, e, x0, x1, x2⟩ := at_T83 (Kd.C_below k4.out HB4.out) (k : Int) (by omega) (by omega)
      cases e
      have e : rd_T83 l4 (k : Int) = l4[k] := by simp [rd_T83, List.getD_eq_getElem?_getD, hlt]
      rw [Int.toNat_natCast, e] at x0 x1 x2
      clear e
      skip
      generalize l4[k] = x at hx  x0 x1 x2
      have HS := Aside0.mk (rowsT_succ rlineL l4 k x hx)
      have hle := rowsT_le rlineL l4 (k + 1)
      rw [HS.out, List.length_append] at hle
      have hss := sz_of HS4.out
      have hL : s.size + (rlineL x).length ≤ 1000000000 := by obtain ⟨p1, p2, p3, p4, p5, p6⟩ := HT.out; rw [hss]; simp only [List.length_append] at hle ⊢; omega
      have hE : (rlineL x).length = 2 + x.f0.size + 1 + x.f1.size + 1 + x.f2.size + 1 := by
       unfold rlineL
       simp only [List.length_append, List.length_cons, List.length_nil, Array.length_toList]
       rfl
      have z0 : (9223372036854775807 < 2 + x.f0.size) = False := eq_false (by omega)
      have z1 : (9223372036854775807 < 2 + x.f0.size + 1) = False := eq_false (by omega)
      have z2 : (9223372036854775807 < 2 + x.f0.size + 1 + x.f1.size) = False := eq_false (by omega)
      have z3 : (9223372036854775807 < 2 + x.f0.size + 1 + x.f1.size + 1) = False := eq_false (by omega)
      have z4 : (9223372036854775807 < 2 + x.f0.size + 1 + x.f1.size + 1 + x.f2.size) = False := eq_false (by omega)
      have z5 : (9223372036854775807 < 2 + x.f0.size + 1 + x.f1.size + 1 + x.f2.size + 1) = False := eq_false (by omega)
      have z9 : (9223372036854775807 < s.size + (2 + x.f0.size + 1 + x.f1.size + 1 + x.f2.size + 1)) = False := eq_false (by omega)
      have hnew : Aside0 ((s ++ (((((((⟨#[108, 32]⟩ : ByteArray) ++ x.f0) ++ (⟨#[32]⟩ : ByteArray)) ++ x.f1) ++ (⟨#[32]⟩ : ByteArray)) ++ x.f2) ++ (⟨#[10]⟩ : ByteArray))).data.toList = (headT a b c ++ rowsT rlineG l3 l3.length) ++ rowsT rlineL l4 (k + 1)) := ⟨by
       rw [HS.out, app_data, HS4.out]
       unfold rlineL
       simp only [app_data, List.append_assoc]⟩
      have q1 : (k : Int) < (l4.length : Int) := by omega
      have q0 : (0 : Int) ≤ (k : Int) := by omega
      have q3 : ((k : Int)).toNat = k := Int.toNat_natCast k
      have q2 : decide ((k : Int) < (l4.length : Int)) = true := decide_eq_true q1
      clear hle hL hE hss 
      go_wp2_with fail
      go_quiet (fail)
      have HB9 := Aside0.mk (pw_below_drewN HB4.out nq)
      go_wp2
      go_roundw
      case rel => exact ⟨k + 1, _, rfl, by first | rfl | (simp; done) | go_num, by omega, hnew, HB9⟩
      case measure => simp [intOf]; omega
     ·obtain rfl : k = l4.length := by omega
      have q2 : decide ((l4.length : Int) < (l4.length : Int)) = false := decide_eq_false (by omega)
      have q1 : ¬ (l4.length : Int) < (l4.length : Int) := by omega
      have HN : Aside0 (s.data.toList = ((headT a b c ++ rowsT rlineG l3 l3.length) ++ rowsT rlineL l4 l4.length) ++ rowsT rlineK l5 0) := ⟨by rw [rowsT_zero, List.append_nil]; exact HS4.out⟩
      clear HS4
      go_wp2
      go_loopw [4, 7] (fun y4 y W => ∃ (k : Nat) (s : ByteArray), y4 = .string s ∧ y = .int .i64 (k : Int) ∧ k ≤ l5.length ∧ Aside0 (s.data.toList = ((headT a b c ++ rowsT rlineG l3 l3.length) ++ rowsT rlineL l4 l4.length) ++ rowsT rlineK l5 k) ∧ Aside0 (Below w1.heap.size w1 W)) (fun _ y _ => l5.length - (intOf y).toNat)
      case atStart => exact ⟨0, s, rfl, rfl, Nat.zero_le _, HN, HB4⟩
      case round =>
       clear HN HB4
       obtain ⟨k, s, rfl, rfl, hk, HS5, HB5⟩ := hrel
       have hcf : wr.cell? ⟨w.heap.size, 5, none⟩ = some (.slice A5 l5.length c5) := (blk_cell (HF.out wr HB5.out) 5).trans rfl
       by_cases hlt : k < l5.length
       ·have hx := List.getElem?_eq_getElem hlt
        obtain ⟨ad, e, x0, x1, x2⟩ := at_T84 (Kd.C_below k5.out HB5.out) (k : Int) (by omega) (by omega)
        cases e
        have e : rd_T84 l5 (k : Int) = l5[k] := by simp [rd_T84, List.getD_eq_getElem?_getD, hlt]
        rw [Int.toNat_natCast, e] at x0 x1 x2
        clear e
        have hnum := n5 k hlt
        generalize l5[k] = x at hx hnum x0 x1 x2
        have HS := Aside0.mk (rowsT_succ rlineK l5 k x hx)
        have hle := rowsT_le rlineK l5 (k + 1)
        rw [HS.out, List.length_append] at hle
        have hss := sz_of HS5.out
        have hL : s.size + (rlineK x).length ≤ 1000000000 := by obtain ⟨p1, p2, p3, p4, p5, p6⟩ := HT.out; rw [hss]; simp only [List.length_append] at hle ⊢; omega
        have hE : (rlineK x).length = 2 + x.f0.size + 1 + x.f1.size + 1 + (Lib.itoa x.f2).length + 1 := by
         unfold rlineK
         simp only [List.length_append, List.length_cons, List.length_nil, Array.length_toList]
         rfl
        have hcl := fun W => signed_q x.f2 (by omega) (by omega) W
        have hDd : (bar (Lib.itoa x.f2)).data.toList = Lib.itoa x.f2 := bar_data _
        have hDz : (bar (Lib.itoa x.f2)).size = (Lib.itoa x.f2).length := bar_size _
        generalize bar (Lib.itoa x.f2) = D at hcl hDd hDz
        have z0 : (9223372036854775807 < 2 + x.f0.size) = False := eq_false (by omega)
        have z1 : (9223372036854775807 < 2 + x.f0.size + 1) = False := eq_false (by omega)
        have z2 : (9223372036854775807 < 2 + x.f0.size + 1 + x.f1.size) = False := eq_false (by omega)
        have z3 : (9223372036854775807 < 2 + x.f0.size + 1 + x.f1.size + 1) = False := eq_false (by omega)
        have z4 : (9223372036854775807 < 2 + x.f0.size + 1 + x.f1.size + 1 + D.size) = False := eq_false (by omega)
        have z5 : (9223372036854775807 < 2 + x.f0.size + 1 + x.f1.size + 1 + D.size + 1) = False := eq_false (by omega)
        have z9 : (9223372036854775807 < s.size + (2 + x.f0.size + 1 + x.f1.size + 1 + D.size + 1)) = False := eq_false (by omega)
        have hnew : Aside0 ((s ++ (((((((⟨#[107, 32]⟩ : ByteArray) ++ x.f0) ++ (⟨#[32]⟩ : ByteArray)) ++ x.f1) ++ (⟨#[32]⟩ : ByteArray)) ++ D) ++ (⟨#[10]⟩ : ByteArray))).data.toList = ((headT a b c ++ rowsT rlineG l3 l3.length) ++ rowsT rlineL l4 l4.length) ++ rowsT rlineK l5 (k + 1)) := ⟨by
         rw [HS.out, app_data, HS5.out]
         unfold rlineK
         simp only [app_data, hDd, List.append_assoc]⟩
        have q1 : (k : Int) < (l5.length : Int) := by omega
        have q0 : (0 : Int) ≤ (k : Int) := by omega
        have q3 : ((k : Int)).toNat = k := Int.toNat_natCast k
        have q2 : decide ((k : Int) < (l5.length : Int)) = true := decide_eq_true q1
        clear hle hL hE hss hDd hDz
        go_wp2_with fail
        have HSx := Aside0.mk (fun (W : World) (h : Below wr.heap.size wr W) => (show W.cell? ⟨w.heap.size, 5, none⟩ = some (.slice (some ad) l5.length c5) ∧ W.cell? (ad.add (k * 3)) = some (.string x.f0) ∧ W.cell? ⟨(ad.add (k * 3)).block, (ad.add (k * 3)).off + 1, none⟩ = some (.string x.f1) ∧ W.cell? ⟨(ad.add (k * 3)).block, (ad.add (k * 3)).off + 2, none⟩ = some (.int .i64 x.f2) from ⟨(h.cell (World.block_lt_of_cell? wr _ hcf)).trans hcf, (h.cell (World.block_lt_of_cell? wr _ x0)).trans x0, (h.cell (World.block_lt_of_cell? wr _ x1)).trans x1, (h.cell (World.block_lt_of_cell? wr _ x2)).trans x2⟩))
        go_region_held3 (fun W => W.cell? ⟨w.heap.size, 5, none⟩ = some (.slice (some ad) l5.length c5) ∧ W.cell? (ad.add (k * 3)) = some (.string x.f0) ∧ W.cell? ⟨(ad.add (k * 3)).block, (ad.add (k * 3)).off + 1, none⟩ = some (.string x.f1) ∧ W.cell? ⟨(ad.add (k * 3)).block, (ad.add (k * 3)).off + 2, none⟩ = some (.int .i64 x.f2)) (first | exact HSx.out _ HA1.out | exact HSx.out _ (Below.refl _ _).drew) (first | (go_at_call 114; refine (hcl _).mono ?_; rintro e wA ⟨rfl, hA0⟩; have HA1 : Aside0 (Below wr.heap.size wr wA) := ⟨((Below.refl _ _).drew).trans (hA0.mono (Nat.le_refl _))⟩; clear hA0))
        have HB9 : Aside0 (Below w1.heap.size w1 wA) := ⟨HB5.out.trans (HA1.out.mono HB5.out.size)⟩
        go_wp2
        go_roundw
        case rel => exact ⟨k + 1, _, rfl, by first | rfl | (simp; done) | go_num, by omega, hnew, HB9⟩
        case measure => simp [intOf]; omega
       ·obtain rfl : k = l5.length := by omega
        have q2 : decide ((l5.length : Int) < (l5.length : Int)) = false := decide_eq_false (by omega)
        have q1 : ¬ (l5.length : Int) < (l5.length : Int) := by omega
        have he : s = bar V := by
         rw [← HV.out]
         unfold rwriteV
         rw [← HS5.out, bar_of]
        subst he
        go_wp2
        go_ret2
        exact ⟨rfl, hbw.trans (HB5.out.mono hbw.size)⟩
end Go.Proofs.YtaifemkokfoadaaGreatDoor

namespace Go.Proofs.YtaifemkokfoadaaGreatDoor
open Go.RowKit Go.Proofs.YtaifemkokfoadaaGreatDoorW.PrintWords Go.Proofs.YtaifemkokfoadaaGreatDoorW.PrintLast Go.Proofs.YtaifemkokfoadaaGreatDoorW.PrintMore Go.Proofs.YtaifemkokfoadaaGreatDoor.PX
set_option linter.unusedSimpArgs false
set_option linter.unusedVariables false
theorem rowsT_map {α β : Type} (f : β → List UInt8) (g : α → β) (l : List α) : rowsT f (l.map g) (l.map g).length = rowsT (fun x => f (g x)) l l.length := by
  unfold rowsT
  rw [List.take_length, List.take_length, List.map_map]; rfl
theorem write_same (a : ByteArray) (b : Bool) (c : Int) (l3 : List S31) (l4 : List S86) (l5 : List S76) : rwriteV a b c (l3.map cpaG) (l4.map cpaL) (l5.map cpaK) = writeV a b c l3 l4 l5 := by
  have eG : (fun x => rlineG (cpaG x)) = lineG := by funext x; simp [rlineG, cpaG, lineG, partsG, txtP, txt1]
  have eL : (fun x => rlineL (cpaL x)) = lineL := by funext x; simp [rlineL, cpaL, lineL, partsL, txtP, txt1]
  have eK : (fun x => rlineK (cpaK x)) = lineK := by funext x; simp [rlineK, cpaK, lineK, partsK, txtP, txt1]
  unfold rwriteV writeV
  rw [rowsT_map, rowsT_map, rowsT_map, eG, eL, eK]
theorem rows_bound {α : Type} (f : α → List UInt8) (M : Nat) (l : List α) (h : ∀ x ∈ l, (f x).length ≤ M) : (rowsT f l l.length).length ≤ M * l.length := by
  unfold rowsT
  rw [List.take_length]
  induction l with
  | nil => simp
  | cons x r ih =>
    rw [List.map_cons, List.flatten_cons, List.length_append, List.length_cons, Nat.mul_succ]
    have h1 := h x List.mem_cons_self
    have h2 := ih (fun y hy => h y (List.mem_cons_of_mem _ hy))
    omega
theorem dec_bound : ∀ (m n : Nat), n ≤ m → (Lib.decDigits n).length ≤ n + 1 := by
  intro m
  induction m with
  | zero => intro n h; rw [dec_front n]; unfold frontD; rw [if_pos (by omega)]; simp
  | succ m ih =>
    intro n h
    rw [dec_front n]
    unfold frontD
    split
    · simp
    · rw [List.length_append]
      have := ih (n / 10) (by omega)
      simp only [List.length_cons, List.length_nil]
      omega
theorem itoa_bound (n : Int) (h0 : -3000 ≤ n) (h1 : n ≤ 3000) : (Lib.itoa n).length ≤ 3002 := by
  unfold Lib.itoa
  split
  · have := dec_bound n.natAbs n.natAbs (Nat.le_refl _)
    simp only [List.length_cons]
    omega
  · have := dec_bound n.toNat n.toNat (Nat.le_refl _)
    omega
theorem name_len {s : ByteArray} (h : nameB s.data.toList = true) : s.size ≤ 10 := by
  unfold nameB at h
  simp only [Bool.and_eq_true, decide_eq_true_eq] at h
  have e : s.data.toList.length = s.size := Array.length_toList
  omega
theorem valid_names {a : ByteArray} {c : Int} {l3 : List S31} {l4 : List S86} {l5 : List S76} (h : validV a c l3 l4 l5 = true) :
    a.size ≤ 10 ∧ (∀ x ∈ l3, x.f0.size ≤ 10) ∧ (∀ x ∈ l4, x.f0.size ≤ 10 ∧ x.f1.size ≤ 10 ∧ x.f2.size ≤ 10) ∧ (∀ x ∈ l5, x.f0.size ≤ 10 ∧ x.f1.size ≤ 10) := by
  have ha := valid_asc h
  unfold validV at h
  split at h
  · cases h
  · rename_i q1
    split at h
    · cases h
    · rename_i q2
      split at h
      · cases h
      · rename_i q3
        simp only [Bool.or_eq_true, not_or, Bool.not_eq_true', Bool.not_eq_false, Bool.not_eq_true] at q1 q2 q3
        have hn : ∀ x ∈ l3, x.f0.size ≤ 10 := fun x hx => by
          have h1 := List.any_eq_false.1 q2.1 x hx
          unfold badG at h1
          simp only [Bool.or_eq_true, not_or, Bool.not_eq_true', Bool.not_eq_false] at h1
          exact name_len h1.1
        have hf : ∀ n, (findV l3 n).2 = true → n.size ≤ 10 := fun n hn2 => by
          rw [find_has l3 ha n, List.any_eq_true] at hn2
          obtain ⟨x, hx, he⟩ := hn2
          rw [← of_decide_eq_true he]; exact hn x hx
        refine ⟨?_, hn, fun x hx => ?_, fun x hx => ?_⟩
        · have h1 := q1.1
          unfold fnameB at h1
          simp only [Bool.and_eq_true, decide_eq_true_eq] at h1
          have e : a.data.toList.length = a.size := Array.length_toList
          omega
        · have h1 := List.any_eq_false.1 q3.1 x hx
          unfold badL allV at h1
          simp only [List.all_cons, List.all_nil, Bool.and_true, Bool.not_eq_true', Bool.not_eq_false, Bool.and_eq_true] at h1
          exact ⟨hf _ h1.1, hf _ h1.2.1, hf _ h1.2.2⟩
        · rw [Bool.and_eq_true] at h
          have h2 : l5.any (badK l3) = false := by simpa using h.1
          have h1 := List.any_eq_false.1 h2 x hx
          unfold badK allV at h1
          simp only [List.all_cons, List.all_nil, Bool.and_true, Bool.or_eq_true, not_or, Bool.not_eq_true', Bool.not_eq_false, Bool.and_eq_true] at h1
          exact ⟨hf _ h1.2.2.2.1, hf _ h1.2.2.2.2⟩
theorem len_data (s : ByteArray) : s.data.toList.length = s.size := Array.length_toList
theorem write_len {a : ByteArray} {b : Bool} {c : Int} {l3 : List S31} {l4 : List S86} {l5 : List S76} (h : validV a c l3 l4 l5 = true) : (writeV a b c l3 l4 l5).length ≤ 1000000000 := by
  obtain ⟨na, n3, n4, n5⟩ := valid_names h
  obtain ⟨hc, hk⟩ := valid_kern h
  have hw := valid_wide h
  obtain ⟨z3, z4, z5⟩ := valid_len h
  have b3 := rows_bound lineG 4000 l3 (fun x hx => by
    have p := n3 x hx; have q := hw x hx; have r := itoa_bound x.f1 (by omega) (by omega)
    simp [lineG, partsG, txtP, txt1, len_data]; omega)
  have b4 := rows_bound lineL 4000 l4 (fun x hx => by
    have p := n4 x hx
    simp [lineL, partsL, txtP, txt1, len_data]; omega)
  have b5 := rows_bound lineK 4000 l5 (fun x hx => by
    have p := n5 x hx; have q := hk x hx; have r := itoa_bound x.f2 (by omega) (by omega)
    simp [lineK, partsK, txtP, txt1, len_data]; omega)
  have b0 : (headT a b c).length ≤ 4000 := by
    have r := itoa_bound c (by omega) (by omega)
    unfold headT head2 head1
    rw [List.length_append, List.length_append, List.length_append]
    have : (txtP (partsS c)).length = 7 + (Lib.itoa c).length + 1 := by simp [txtP, partsS, txt1]; omega
    rw [this, len_data]
    split <;> simp only [List.length_cons, List.length_nil] <;> omega
  unfold writeV
  simp only [List.length_append]
  omega
set_option maxRecDepth 100000 in
theorem same_true (a : ByteArray) (b : Bool) (c : Int) (A3 : Option Addr) (c3 : Nat) (l3 : List S31) (A4 : Option Addr) (c4 : Nat) (l4 : List S86) (A5 : Option Addr) (c5 : Nat) (l5 : List S76) (na nb : ByteArray) (size n : Int) (w : World) (hG : GW w) (h3 : Kd.C k31 w A3 l3.length l3) (g3 : l3.length ≤ c3) (h4 : Kd.C k86 w A4 l4.length l4) (g4 : l4.length ≤ c4) (h5 : Kd.C k76 w A5 l5.length l5) (g5 : l5.length ≤ c5) (z3 : l3.length ≤ 1000000) (z4 : l4.length ≤ 1000000) (z5 : l5.length ≤ 1000000) (ha : a.size ≤ 140737488355328) (hz : ∀ x ∈ l3, x.f0.size ≤ 140737488355328) :
    Calls Tryz.prog 20 #[.agg #[.string a, .bool b, .int .i64 c, .slice A3 l3.length c3, .slice A4 l4.length c4, .slice A5 l5.length c5], .string na, .string nb, .int .i64 size, .int .i64 n] w fun e w' => e = .returned (.bool true) ∧ Below w.heap.size w w' := by
  have m3 : (l3.map cpaG).length ≤ 1000000000 := by rw [List.length_map]; omega
  have m4 : (l4.map cpaL).length ≤ 1000000000 := by rw [List.length_map]; omega
  have m5 : (l5.map cpaK).length ≤ 1000000000 := by rw [List.length_map]; omega
  have hz2 : ∀ x ∈ l3.map cpaG, x.f0.size ≤ 140737488355328 := fun x hx => by
    obtain ⟨y, hy, rfl⟩ := List.mem_map.1 hx
    exact hz y hy
  have y3 : l3.length ≤ 1000000000 := by omega
  have y4 : l4.length ≤ 1000000000 := by omega
  have y5 : l5.length ≤ 1000000000 := by omega
  have hv1 : font_Valid.f a b c l3 l4 l5 = some (validV a c l3 l4 l5) := by unfold font_Valid.f; rw [if_pos ⟨y3, y4, y5⟩]
  have hrv := valid_same a c l3 l4 l5
  obtain ⟨kw, hw⟩ := (rwidth a b c l3 l4 l5 na size y3 y4 y5 ha hz).rounds
  obtain ⟨kk2, hk2⟩ := (rkern a b c l3 l4 l5 na nb size y3 y4 y5 ha hz).rounds
  obtain ⟨kj2, hj2⟩ := (rjoin a b c l3 l4 l5 na nb y3 y4 y5 ha hz).rounds
  obtain ⟨km, hm⟩ := (rmono a b c l3 (l4.map cpaL) (l5.map cpaK) y3).rounds
  have hO : (∀ W, GW W → Kd.C k31 W A3 l3.length l3 → Kd.C k86 W A4 l4.length l4 → Kd.C k76 W A5 l5.length l5 → Calls Tryz.prog 25 #[.agg #[.string a, .bool b, .int .i64 c, .slice A3 l3.length c3, .slice A4 l4.length c4, .slice A5 l5.length c5]] W fun e w' => e = .returned (.tuple #[.string (if validV a c l3 l4 l5 = true then bar (writeV a b c l3 l4 l5) else (⟨#[]⟩ : ByteArray)), .int .i64 (if validV a c l3 l4 l5 = true then 0 else 1)]) ∧ Below W.heap.size W w') := by
    intro W g k3 k4 k5
    cases hv : validV a c l3 l4 l5 with
    | true => exact write_ok a b c A3 c3 l3 A4 c4 l4 A5 c5 l5 g3 g4 g5 W g k3 k4 k5 y3 y4 y5 hv (write_len hv)
    | false => exact write_bad a b c A3 c3 l3 A4 c4 l4 A5 c5 l5 g3 g4 g5 W g k3 k4 k5 y3 y4 y5 hv
  have hO2 : (∀ W P3 p3 P4 p4 P5 p5, GW W → Kd.C k81 W P3 (l3.map cpaG).length (l3.map cpaG) → (l3.map cpaG).length ≤ p3 → Kd.C k83 W P4 (l4.map cpaL).length (l4.map cpaL) → (l4.map cpaL).length ≤ p4 → Kd.C k84 W P5 (l5.map cpaK).length (l5.map cpaK) → (l5.map cpaK).length ≤ p5 → Calls Tryz.prog 75 #[.agg #[.string a, .bool b, .int .i64 c, .slice P3 (l3.map cpaG).length p3, .slice P4 (l4.map cpaL).length p4, .slice P5 (l5.map cpaK).length p5]] W fun e w' => e = .returned (.tuple #[.string (if validV a c l3 l4 l5 = true then bar (writeV a b c l3 l4 l5) else (⟨#[]⟩ : ByteArray)), .int .i64 (if validV a c l3 l4 l5 = true then 0 else 1)]) ∧ Below W.heap.size W w') := by
    intro W P3 p3 P4 p4 P5 p5 g k3 s3 k4 s4 k5 s5
    cases hv : validV a c l3 l4 l5 with
    | true =>
      have hl := write_len (b := b) hv
      rw [← write_same] at hl ⊢
      exact rwrite_ok a b c P3 p3 (l3.map cpaG) P4 p4 (l4.map cpaL) P5 p5 (l5.map cpaK) W k3 s3 k4 s4 k5 s5 m3 m4 m5 ha hz2 (hrv.trans hv) hl
    | false => exact rwrite_bad a b c P3 p3 (l3.map cpaG) P4 p4 (l4.map cpaL) P5 p5 (l5.map cpaK) W k3 s3 k4 s4 k5 s5 m3 m4 m5 ha hz2 (hrv.trans hv)
  exact same_walk a b c A3 c3 l3 A4 c4 l4 A5 c5 l5 (l3.map cpaG) (l4.map cpaL) (l5.map cpaK) rfl rfl rfl na nb size n (validV a c l3 l4 l5) (hasV l3 na) (monoV c l3) (widthV (validV a c l3 l4 l5) l3 na size).1 (widthV (validV a c l3 l4 l5) l3 na size).2 (spaceV (validV a c l3 l4 l5) c size).1 (spaceV (validV a c l3 l4 l5) c size).2 (kernV (validV a c l3 l4 l5) l5 na nb size).1 (kernV (validV a c l3 l4 l5) l5 na nb size).2 (joinV (validV a c l3 l4 l5) l4 na nb).1 (joinV (validV a c l3 l4 l5) l4 na nb).2 (scaleV n size).1 (scaleV n size).2 _ _
    (fun W g k3 k4 k5 => font_Valid.calls a b c A3 c3 l3 A4 c4 l4 A5 c5 l5 _ W k3 g3 k4 g4 k5 g5 g hv1)
    (fun W P3 p3 P4 p4 P5 p5 g k3 s3 k4 s4 k5 s5 => by rw [← hrv]; exact rvalid_any a b c P3 p3 (l3.map cpaG) P4 p4 (l4.map cpaL) P5 p5 (l5.map cpaK) W k3 s3 k4 s4 k5 s5 m3 m4 m5 ha hz2)
    (fun W g k3 k4 k5 => font_Has.calls a b c A3 c3 l3 A4 c4 l4 A5 c5 l5 na _ W k3 g3 k4 g4 k5 g5 g (by unfold font_Has.f; rw [if_pos y3]))
    (fun W P3 p3 P4 p4 P5 p5 g k3 s3 k4 s4 k5 s5 => by rw [← has_map]; exact has_q a b c P3 p3 (l3.map cpaG) P4 p4 (l4.map cpaL) P5 p5 (l5.map cpaK) na W k3 s3 k4 s4 k5 s5 m3)
    (fun W g k3 k4 k5 => font_Mono.calls a b c A3 c3 l3 A4 c4 l4 A5 c5 l5 _ W k3 g3 k4 g4 k5 g5 g (by unfold font_Mono.f; rw [if_pos y3]))
    (fun W P3 p3 P4 p4 P5 p5 g k3 s3 k4 s4 k5 s5 => frisketref07_Mono.calls km a b c P3 p3 (l3.map cpaG) P4 p4 (l4.map cpaL) P5 p5 (l5.map cpaK) _ W k3 s3 k4 s4 k5 s5 hm)
    (fun W g k3 k4 k5 => font_Width.calls a b c A3 c3 l3 A4 c4 l4 A5 c5 l5 na size _ _ W k3 g3 k4 g4 k5 g5 g (fwidth a b c l3 l4 l5 na size y3 y4 y5))
    (fun W P3 p3 P4 p4 P5 p5 g k3 s3 k4 s4 k5 s5 => frisketref07_Width.calls kw a b c P3 p3 (l3.map cpaG) P4 p4 (l4.map cpaL) P5 p5 (l5.map cpaK) na size _ _ W k3 s3 k4 s4 k5 s5 hw)
    (fun W g k3 k4 k5 => font_Space.calls a b c A3 c3 l3 A4 c4 l4 A5 c5 l5 size _ _ W k3 g3 k4 g4 k5 g5 g (fspace a b c l3 l4 l5 size y3 y4 y5))
    (fun W P3 p3 P4 p4 P5 p5 g k3 s3 k4 s4 k5 s5 => frisketref07_Space.calls a b c P3 p3 (l3.map cpaG) P4 p4 (l4.map cpaL) P5 p5 (l5.map cpaK) size _ _ W k3 s3 k4 s4 k5 s5 (rspace a b c l3 l4 l5 size y3 y4 y5 ha hz))
    (fun W g k3 k4 k5 => kerning_any a b c A3 c3 l3 A4 c4 l4 A5 c5 l5 na nb size W g k3 g3 k4 g4 k5 g5 y3 y4 y5)
    (fun W P3 p3 P4 p4 P5 p5 g k3 s3 k4 s4 k5 s5 => frisketref07_Kerning.calls kk2 a b c P3 p3 (l3.map cpaG) P4 p4 (l4.map cpaL) P5 p5 (l5.map cpaK) na nb size _ _ W k3 s3 k4 s4 k5 s5 hk2)
    (fun W g k3 k4 k5 => join_any a b c A3 c3 l3 A4 c4 l4 A5 c5 l5 na nb W g k3 g3 k4 g4 k5 g5 y3 y4 y5)
    (fun W P3 p3 P4 p4 P5 p5 g k3 s3 k4 s4 k5 s5 => frisketref07_Join.calls kj2 a b c P3 p3 (l3.map cpaG) P4 p4 (l4.map cpaL) P5 p5 (l5.map cpaK) na nb _ _ W k3 s3 k4 s4 k5 s5 hj2)
    (fun W => (font_Scale.calls n size _ _ W (fscaleV n size)).mono fun e w' h => ⟨h.1, drawn_below h.2⟩)
    (fun W => (frisketref07_Scale.calls n size _ _ W (rscaleV n size)).mono fun e w' h => ⟨h.1, drawn_below h.2⟩)
    hO hO2 w hG h3 h4 h5 z3 z4 z5
end Go.Proofs.YtaifemkokfoadaaGreatDoor

namespace Go.Proofs.YtaifemkokfoadaaGreatDoor
open Go.RowKit Go.Proofs.YtaifemkokfoadaaGreatDoorW.PrintWords Go.Proofs.YtaifemkokfoadaaGreatDoorW.PrintLast Go.Proofs.YtaifemkokfoadaaGreatDoorW.PrintMore Go.Proofs.YtaifemkokfoadaaGreatDoor.PX
set_option linter.unusedSimpArgs false
set_option linter.unusedVariables false
set_option maxRecDepth 100000 in
set_option maxHeartbeats 4000000 in
theorem raw_calls (a : ByteArray) (b : Bool) (c : Int) (A3 : Option Addr) (c3 : Nat) (l3 : List S31) (A4 : Option Addr) (c4 : Nat) (l4 : List S86) (A5 : Option Addr) (c5 : Nat) (l5 : List S76) (na nb : ByteArray) (size n : Int) (w : World) (hG : GW w) (h3 : Kd.C k31 w A3 l3.length l3) (g3 : l3.length ≤ c3) (h4 : Kd.C k86 w A4 l4.length l4) (g4 : l4.length ≤ c4) (h5 : Kd.C k76 w A5 l5.length l5) (g5 : l5.length ≤ c5) (ha : a.size ≤ 140737488355328) (hz : ∀ x ∈ l3, x.f0.size ≤ 140737488355328) :
    Calls Tryz.prog 6 #[.agg #[.string a, .bool b, .int .i64 c, .slice A3 l3.length c3, .slice A4 l4.length c4, .slice A5 l5.length c5, .string na, .string nb, .int .i64 size, .int .i64 n]] w fun e w' => e = .returned (.bool true) ∧ Below w.heap.size w w' := by
  have HG := Aside0.mk hG
  have hsm := Aside0.mk (fun (W : World) (hb : Below w.heap.size w W) (z3 : l3.length ≤ 1000000) (z4 : l4.length ≤ 1000000) (z5 : l5.length ≤ 1000000) => same_true a b c A3 c3 l3 A4 c4 l4 A5 c5 l5 na nb size n W (hG.under hb) (Kd.C_below h3 hb) g3 (Kd.C_below h4 hb) g4 (Kd.C_below h5 hb) g5 z3 z4 z5 ha hz)
  clear hG h3 h4 h5 hz ha
  have hb0 : Below w.heap.size w (w.alloc (.cells #[.string a, .bool b, .int .i64 c, .slice A3 l3.length c3, .slice A4 l4.length c4, .slice A5 l5.length c5, .string na, .string nb, .int .i64 size, .int .i64 n] 50)) := (Below.refl _ w).alloc (Nat.le_refl _) _
  go_enter Tryz.func6, Tryz.ntmps6
  go_wp2_with fail
  have hbk := blk_new w (.cells #[.string a, .bool b, .int .i64 c, .slice A3 l3.length c3, .slice A4 l4.length c4, .slice A5 l5.length c5, .string na, .string nb, .int .i64 size, .int .i64 n] 50)
  generalize hg : w.heap.size = g at hbk hb0 ⊢
  generalize w.alloc (.cells #[.string a, .bool b, .int .i64 c, .slice A3 l3.length c3, .slice A4 l4.length c4, .slice A5 l5.length c5, .string na, .string nb, .int .i64 size, .int .i64 n] 50) = w1 at hbk hb0 ⊢
  have q0 : w1.cell? ⟨g, 0, none⟩ = some (.string a) := (blk_cell hbk 0).trans rfl
  have q1 : w1.cell? ⟨g, 1, none⟩ = some (.bool b) := (blk_cell hbk 1).trans rfl
  have q2 : w1.cell? ⟨g, 2, none⟩ = some (.int .i64 c) := (blk_cell hbk 2).trans rfl
  have q3 : w1.cell? ⟨g, 3, none⟩ = some (.slice A3 l3.length c3) := (blk_cell hbk 3).trans rfl
  have q4 : w1.cell? ⟨g, 4, none⟩ = some (.slice A4 l4.length c4) := (blk_cell hbk 4).trans rfl
  have q5 : w1.cell? ⟨g, 5, none⟩ = some (.slice A5 l5.length c5) := (blk_cell hbk 5).trans rfl
  have q6 : w1.cell? ⟨g, 6, none⟩ = some (.string na) := (blk_cell hbk 6).trans rfl
  have q7 : w1.cell? ⟨g, 7, none⟩ = some (.string nb) := (blk_cell hbk 7).trans rfl
  have q8 : w1.cell? ⟨g, 8, none⟩ = some (.int .i64 size) := (blk_cell hbk 8).trans rfl
  have q9 : w1.cell? ⟨g, 9, none⟩ = some (.int .i64 n) := (blk_cell hbk 9).trans rfl
  have HS := Aside0.mk (fun (W : World) (h : Below w1.heap.size w1 W) => (show W.cell? ⟨g, 0, none⟩ = some (.string a) ∧ W.cell? ⟨g, 1, none⟩ = some (.bool b) ∧ W.cell? ⟨g, 2, none⟩ = some (.int .i64 c) ∧ W.cell? ⟨g, 3, none⟩ = some (.slice A3 l3.length c3) ∧ W.cell? ⟨g, 4, none⟩ = some (.slice A4 l4.length c4) ∧ W.cell? ⟨g, 5, none⟩ = some (.slice A5 l5.length c5) ∧ W.cell? ⟨g, 6, none⟩ = some (.string na) ∧ W.cell? ⟨g, 7, none⟩ = some (.string nb) ∧ W.cell? ⟨g, 8, none⟩ = some (.int .i64 size) ∧ W.cell? ⟨g, 9, none⟩ = some (.int .i64 n) from ⟨(h.cell (World.block_lt_of_cell? w1 _ q0)).trans q0, (h.cell (World.block_lt_of_cell? w1 _ q1)).trans q1, (h.cell (World.block_lt_of_cell? w1 _ q2)).trans q2, (h.cell (World.block_lt_of_cell? w1 _ q3)).trans q3, (h.cell (World.block_lt_of_cell? w1 _ q4)).trans q4, (h.cell (World.block_lt_of_cell? w1 _ q5)).trans q5, (h.cell (World.block_lt_of_cell? w1 _ q6)).trans q6, (h.cell (World.block_lt_of_cell? w1 _ q7)).trans q7, (h.cell (World.block_lt_of_cell? w1 _ q8)).trans q8, (h.cell (World.block_lt_of_cell? w1 _ q9)).trans q9⟩))
  go_region_held3 (fun W => W.cell? ⟨g, 0, none⟩ = some (.string a) ∧ W.cell? ⟨g, 1, none⟩ = some (.bool b) ∧ W.cell? ⟨g, 2, none⟩ = some (.int .i64 c) ∧ W.cell? ⟨g, 3, none⟩ = some (.slice A3 l3.length c3) ∧ W.cell? ⟨g, 4, none⟩ = some (.slice A4 l4.length c4) ∧ W.cell? ⟨g, 5, none⟩ = some (.slice A5 l5.length c5) ∧ W.cell? ⟨g, 6, none⟩ = some (.string na) ∧ W.cell? ⟨g, 7, none⟩ = some (.string nb) ∧ W.cell? ⟨g, 8, none⟩ = some (.int .i64 size) ∧ W.cell? ⟨g, 9, none⟩ = some (.int .i64 n)) (first | go_keep | exact HS.out _ (Below.refl _ _).drew | exact HS.out _ (((Below.refl _ _).drew).alloc (Nat.le_refl _) _)) (fail)
  have hbk2 : ((w1.alloc (.cells #[.string a, .bool b, .int .i64 c, .slice A3 l3.length c3, .slice A4 l4.length c4, .slice A5 l5.length c5] 26)).drew).heap[w1.heap.size]? = some (.cells #[.string a, .bool b, .int .i64 c, .slice A3 l3.length c3, .slice A4 l4.length c4, .slice A5 l5.length c5] 26 (0, 0)) := blk_drew (blk_new w1 _)
  have hb2 : Below w.heap.size w ((w1.alloc (.cells #[.string a, .bool b, .int .i64 c, .slice A3 l3.length c3, .slice A4 l4.length c4, .slice A5 l5.length c5] 26)).drew) := by rw [hg]; exact (hb0.alloc (by rw [← hg]; exact hb0.size) _).drew
  clear HS q0 q1 q2 q3 q4 q5 q6 q7 q8 q9 hbk hb0 hg
  generalize w1.heap.size = g2 at hbk2 ⊢
  generalize (w1.alloc (.cells #[.string a, .bool b, .int .i64 c, .slice A3 l3.length c3, .slice A4 l4.length c4, .slice A5 l5.length c5] 26)).drew = w2 at hbk2 hb2 ⊢
  have u0 : w2.cell? ⟨g2, 0, none⟩ = some (.string a) := (blk_cell hbk2 0).trans rfl
  have u1 : w2.cell? ⟨g2, 1, none⟩ = some (.bool b) := (blk_cell hbk2 1).trans rfl
  have u2 : w2.cell? ⟨g2, 2, none⟩ = some (.int .i64 c) := (blk_cell hbk2 2).trans rfl
  have u3 : w2.cell? ⟨g2, 3, none⟩ = some (.slice A3 l3.length c3) := (blk_cell hbk2 3).trans rfl
  have u4 : w2.cell? ⟨g2, 4, none⟩ = some (.slice A4 l4.length c4) := (blk_cell hbk2 4).trans rfl
  have u5 : w2.cell? ⟨g2, 5, none⟩ = some (.slice A5 l5.length c5) := (blk_cell hbk2 5).trans rfl
  have hsane := frisketlaw07_sane.calls true w2 (HG.out.under hb2) sane_ev
  by_cases b3 : 60 < l3.length
  case' neg =>
    by_cases b4 : 60 < l4.length
    case' neg =>
      by_cases b5 : 60 < l5.length
  case' neg =>
    have hsame := hsm.out w2 hb2 (by omega) (by omega) (by omega)
    go_wp2_with fail
    refine hsame.mono ?_; rintro e w3 ⟨rfl, hb3⟩
    have hb4 := hb2.trans (hb3.mono hb2.size)
    have hsane2 := frisketlaw07_sane.calls true w3 (HG.out.under hb4) sane_ev
    go_wp2_with fail
    refine hsane2.mono ?_; rintro e w4 ⟨rfl, hb5⟩
    go_wp2_with fail
    go_ret
    exact ⟨rfl, hb4.trans (hb5.mono hb4.size)⟩
  all_goals
    go_wp2_with fail
    refine hsane.mono ?_; rintro e w3 ⟨rfl, hb3⟩
    go_wp2_with fail
    go_ret
    exact ⟨rfl, hb2.trans (hb3.mono hb2.size)⟩
end Go.Proofs.YtaifemkokfoadaaGreatDoor

namespace Go.Proofs.YtaifemkokfoadaaGreatDoor
open Go.ChangeShapes Go.WideShapes Go.RowKit Go.Deep Go.Proofs.YtaifemkokfoadaaGreatDoorW.PrintWords
section
variable {H : Type} {enc : TypeId × Value → H} {P : Program} {w : World} {sp : Nat → Bool} {held : Bool} {α : Type}
end
theorem weightsAll_mem {H : Type} {P : Program} {e : TypeId} : ∀ {elems : List (DataW H)} {D : DataW H}, D ∈ elems → ∀ n ∈ D.weights P e, n ∈ DataW.weightsAll P e elems
  | d0 :: r, D, h, n, hn => by
    simp only [DataW.weightsAll, List.mem_append]
    rcases List.mem_cons.1 h with rfl | h
    · exact .inl hn
    · exact .inr (weightsAll_mem h n hn)
end Go.Proofs.YtaifemkokfoadaaGreatDoor

namespace Go.Proofs.YtaifemkokfoadaaGreatDoor
open Go.ChangeShapes Go.WideShapes Go.RowKit Go.Deep Go.Proofs.YtaifemkokfoadaaGreatDoorW.PrintWords Go.Proofs.YtaifemkokfoadaaGreatDoor.PX
section
variable {H : Type} {enc : TypeId × Value → H} {w : World} {sp : Nat → Bool} {held : Bool}
theorem dec_rows {α : Type} [Inhabited α] (d : Kd α) {P : Program} {t e : TypeId} {fuel : Nat} {cs : List Value} {x : DataW H × List MemPlace} (ht : P.underlying t = some (.slice e)) (hc : P.cellsOf e = d.sz)
    (dec : ∀ n cs x, DataW.trod enc P w 0 sp held n e cs = some x → ∃ y : α, d.K w y cs) (h : DataW.trod enc P w 0 sp held fuel t cs = some x) :
    ∃ A c l, cs = [.slice A l.length c] ∧ l.length ≤ c ∧ Kd.C d w A l.length l ∧ (l.length = 0 ∨ ∃ elems spare, x.1 = .slice elems spare ∧ elems.length = l.length) := by
  rcases open_slice ht h with ⟨hcs, _⟩ | ⟨a, len, cap, m, n, D, Pl, hcs, _, hl, hm, hmm, hx, hel⟩
  · exact ⟨none, 0, [], hcs, Nat.le_refl _, ⟨rfl, by simp, fun h => by simp at h⟩, .inl rfl⟩
  · have hlm : len ≤ m := by rw [hmm]; split <;> omega
    obtain ⟨F, hF⟩ := choose_lt (α := α) (p := fun i y => ∃ cs', w.cells? 0 (a.add (i * d.sz)) d.sz = some cs' ∧ d.K w y cs') (n := m) (fun i hi => by
      obtain ⟨cs', h1, h2⟩ := hel i hi
      rw [hc] at h1
      obtain ⟨y, hy⟩ := dec _ _ _ h2
      exact ⟨y, cs', h1, hy⟩)
    refine ⟨some a, cap, (List.range len).map F, by simp [hcs], by simpa using hl, ⟨rfl, ?_, fun _ => ⟨a, rfl, fun j p hj => ?_⟩⟩, .inr ⟨_, _, by rw [hx], by simp⟩⟩
    · have : maxLen = 9223372036854775807 := rfl
      simp; omega
    · have hj2 : j < len := by
        rcases Nat.lt_or_ge j len with h1 | h1
        · exact h1
        · rw [List.getElem?_eq_none (by simpa using h1)] at hj; cases hj
      rw [List.getElem?_map, List.getElem?_range hj2] at hj
      cases hj
      obtain ⟨cs', h1, h2⟩ := hF j (by omega)
      obtain ⟨_, h3, h4⟩ := World.cells?_some h1
      refine ⟨cs', h3, h2, fun i u hu => ?_⟩
      have hi : i < d.sz := by
        rw [← h3]
        rcases Nat.lt_or_ge i cs'.length with h1 | h1
        · exact h1
        · rw [List.getElem?_eq_none h1] at hu; cases hu
      have := h4 i hi
      rw [Go.Deep.add_add] at this
      rw [this, hu]
set_option maxRecDepth 100000 in
theorem decL (n : Nat) (cs : List Value) (x : DataW H × List MemPlace) (h : DataW.trod enc Tryz.prog w 0 sp held n 86 cs = some x) : ∃ y : S86, k86.K w y cs := by
  obtain ⟨xs, k, hk, hxy, hcl, hxl, hf⟩ := DataW.trod_struct Tryz.underlying86 h
  have c0 : Tryz.prog.cellsOf 86 = 3 := by kernel_rfl
  have c9 : Tryz.prog.cellsOf 9 = 1 := by kernel_rfl
  rw [c0] at hcl
  match xs, hxl, cs, hcl with
  | [y0, y1, y2], _, [v0, v1, v2], _ =>
    have g0 := hf 0 _ rfl
    have g1 := hf 1 _ rfl
    have g2 := hf 2 _ rfl
    simp [c9] at g0 g1 g2
    obtain ⟨n0, e0, _⟩ := DataW.trod_string Tryz.underlying9 g0
    obtain ⟨n1, e1, _⟩ := DataW.trod_string Tryz.underlying9 g1
    obtain ⟨n2, e2, _⟩ := DataW.trod_string Tryz.underlying9 g2
    cases e0; cases e1; cases e2
    exact ⟨⟨n0, n1, n2⟩, k86_mk w ⟨n0, n1, n2⟩⟩
set_option maxRecDepth 100000 in
theorem decK (n : Nat) (cs : List Value) (x : DataW H × List MemPlace) (h : DataW.trod enc Tryz.prog w 0 sp held n 76 cs = some x) : ∃ y : S76, k76.K w y cs := by
  obtain ⟨xs, k, hk, hxy, hcl, hxl, hf⟩ := DataW.trod_struct Tryz.underlying76 h
  have c0 : Tryz.prog.cellsOf 76 = 3 := by kernel_rfl
  have c3 : Tryz.prog.cellsOf 3 = 1 := by kernel_rfl
  have c9 : Tryz.prog.cellsOf 9 = 1 := by kernel_rfl
  rw [c0] at hcl
  match xs, hxl, cs, hcl with
  | [y0, y1, y2], _, [v0, v1, v2], _ =>
    have g0 := hf 0 _ rfl
    have g1 := hf 1 _ rfl
    have g2 := hf 2 _ rfl
    simp [c3, c9] at g0 g1 g2
    obtain ⟨n0, e0, _⟩ := DataW.trod_string Tryz.underlying9 g0
    obtain ⟨n1, e1, _⟩ := DataW.trod_string Tryz.underlying9 g1
    obtain ⟨n2, e2, _⟩ := DataW.trod_int Tryz.underlying3 g2
    cases e0; cases e1; cases e2
    exact ⟨⟨n0, n1, n2⟩, k76_mk w ⟨n0, n1, n2⟩⟩
end
end Go.Proofs.YtaifemkokfoadaaGreatDoor

namespace Go.Proofs.YtaifemkokfoadaaGreatDoor
open Go.ChangeShapes Go.WideShapes Go.RowKit Go.Deep Go.Proofs.YtaifemkokfoadaaGreatDoorW.PrintWords Go.Proofs.YtaifemkokfoadaaGreatDoor.PX
set_option linter.unusedSimpArgs false
set_option linter.unusedVariables false
section
variable {H : Type} {enc : TypeId × Value → H} {w : World} {sp : Nat → Bool} {held : Bool}
theorem dec_rowsG {α : Type} [Inhabited α] (d : Kd α) {P : Program} {t e : TypeId} {fuel : Nat} {cs : List Value} {x : DataW H × List MemPlace} (Good : α → DataW H → Prop) (ht : P.underlying t = some (.slice e)) (hc : P.cellsOf e = d.sz)
    (dec : ∀ n cs x, DataW.trod enc P w 0 sp held n e cs = some x → ∃ y : α, d.K w y cs ∧ Good y x.1) (h : DataW.trod enc P w 0 sp held fuel t cs = some x) :
    ∃ A c l, cs = [.slice A l.length c] ∧ l.length ≤ c ∧ Kd.C d w A l.length l ∧ (l = [] ∨ ∃ elems spare, x.1 = .slice elems spare ∧ ∀ y ∈ l, ∃ D ∈ elems, Good y D) := by
  rcases open_slice ht h with ⟨hcs, _⟩ | ⟨a, len, cap, m, n, D, Pl, hcs, _, hl, hm, hmm, hx, hel⟩
  · exact ⟨none, 0, [], hcs, Nat.le_refl _, ⟨rfl, by simp, fun h => by simp at h⟩, .inl rfl⟩
  · have hlm : len ≤ m := by rw [hmm]; split <;> omega
    obtain ⟨F, hF⟩ := choose_lt (α := α) (p := fun i y => ∃ cs', w.cells? 0 (a.add (i * d.sz)) d.sz = some cs' ∧ d.K w y cs' ∧ Good y (D i)) (n := m) (fun i hi => by
      obtain ⟨cs', h1, h2⟩ := hel i hi
      rw [hc] at h1
      obtain ⟨y, hy, hg⟩ := dec _ _ _ h2
      exact ⟨y, cs', h1, hy, hg⟩)
    refine ⟨some a, cap, (List.range len).map F, by simp [hcs], by simpa using hl, ⟨rfl, ?_, fun _ => ⟨a, rfl, fun j p hj => ?_⟩⟩, .inr ⟨_, _, by rw [hx], fun y hy => ?_⟩⟩
    · have : maxLen = 9223372036854775807 := rfl
      simp; omega
    · have hj2 : j < len := by
        rcases Nat.lt_or_ge j len with h1 | h1
        · exact h1
        · rw [List.getElem?_eq_none (by simpa using h1)] at hj; cases hj
      rw [List.getElem?_map, List.getElem?_range hj2] at hj
      cases hj
      obtain ⟨cs', h1, h2, _⟩ := hF j (by omega)
      obtain ⟨_, h3, h4⟩ := World.cells?_some h1
      refine ⟨cs', h3, h2, fun i u hu => ?_⟩
      have hi : i < d.sz := by
        rw [← h3]
        rcases Nat.lt_or_ge i cs'.length with h1 | h1
        · exact h1
        · rw [List.getElem?_eq_none h1] at hu; cases hu
      have := h4 i hi
      rw [Go.Deep.add_add] at this
      rw [this, hu]
    · obtain ⟨i, hi, rfl⟩ := List.mem_map.1 hy
      have hi2 := List.mem_range.1 hi
      obtain ⟨_, _, _, hg⟩ := hF i (by omega)
      exact ⟨D i, List.mem_map.2 ⟨i, List.mem_range.2 (by omega), rfl⟩, hg⟩
set_option maxRecDepth 100000 in
theorem decG2 (n : Nat) (cs : List Value) (x : DataW H × List MemPlace) (h : DataW.trod enc Tryz.prog w 0 sp held n 31 cs = some x) : ∃ y : S31, k31.K w y cs ∧ ∃ b, x.1 = .agg [.lit (.string y.f0.data.toList), b] := by
  obtain ⟨xs, k, hk, hxy, hcl, hxl, hf⟩ := DataW.trod_struct Tryz.underlying31 h
  have c0 : Tryz.prog.cellsOf 31 = 2 := by kernel_rfl
  have c3 : Tryz.prog.cellsOf 3 = 1 := by kernel_rfl
  have c9 : Tryz.prog.cellsOf 9 = 1 := by kernel_rfl
  rw [c0] at hcl
  match xs, hxl, cs, hcl with
  | [y0, y1], _, [v0, v1], _ =>
    have g0 := hf 0 _ rfl
    have g1 := hf 1 _ rfl
    simp [c3, c9] at g0 g1
    obtain ⟨n0, e0, f0, _⟩ := DataW.trod_string Tryz.underlying9 g0
    obtain ⟨n1, e1, _⟩ := DataW.trod_int Tryz.underlying3 g1
    cases e0; cases e1
    refine ⟨⟨n0, n1⟩, k31_mk w ⟨n0, n1⟩, y1.1, ?_⟩
    rw [hxy, f0]
    rfl
set_option maxRecDepth 100000 in
theorem open_raw {r : Reach} {b0 : Nat} {v : Value} {d0 : DataW H} {ps : List MemPlace} (hwt : (DataW.weightsEach Tryz.prog [50] [d0]).all (· ≤ reachBytes) = true)
    (hval : Value.okWide Tryz.prog w r b0 50 v) (h : DataW.Trod enc Tryz.prog w 0 sp held 50 v d0 ps) :
    ∃ a b c A3 c3 l3 A4 c4 l4 A5 c5 l5 na nb size n, v = .agg #[.string a, .bool b, .int .i64 c, .slice A3 l3.length c3, .slice A4 l4.length c4, .slice A5 l5.length c5, .string na, .string nb, .int .i64 size, .int .i64 n] ∧ Kd.C k31 w A3 l3.length l3 ∧ l3.length ≤ c3 ∧ Kd.C k86 w A4 l4.length l4 ∧ l4.length ≤ c4 ∧ Kd.C k76 w A5 l5.length l5 ∧ l5.length ≤ c5 ∧
      a.size ≤ 140737488355328 ∧ ∀ x ∈ l3, x.f0.size ≤ 140737488355328 := by
  obtain ⟨cs, rfl, hsz⟩ := okWide_struct Tryz.underlying50 hval
  obtain ⟨fuel, hf0⟩ := h
  obtain ⟨xs, k, hk, hxy, hcl, hxl, hf⟩ := DataW.trod_struct Tryz.underlying50 hf0
  have c50 : Tryz.prog.cellsOf 50 = 10 := by kernel_rfl
  have c0 : Tryz.prog.cellsOf 26 = 6 := by kernel_rfl
  have c3 : Tryz.prog.cellsOf 3 = 1 := by kernel_rfl
  have c9 : Tryz.prog.cellsOf 9 = 1 := by kernel_rfl
  have c4 : Tryz.prog.cellsOf 4 = 1 := by kernel_rfl
  have cG : Tryz.prog.cellsOf 22 = 1 := by kernel_rfl
  have cL : Tryz.prog.cellsOf 23 = 1 := by kernel_rfl
  have cK : Tryz.prog.cellsOf 24 = 1 := by kernel_rfl
  have hcs : (Value.agg cs).cells.toList = cs.toList := by simp [Value.cells]
  rw [hcs] at hf hcl
  rw [c50] at hcl
  have hcc : cs = ⟨cs.toList⟩ := rfl
  generalize cs.toList = L at hf hcl hcc
  subst hcc
  match xs, hxl, L, hcl with
  | [z0, z1, z2, z3, z4], _, [v0, v1, v2, v3, v4, v5, v6, v7, v8, v9], _ =>
    have f0 := hf 0 _ rfl
    have f1 := hf 1 _ rfl
    have f2 := hf 2 _ rfl
    have f3 := hf 3 _ rfl
    have f4 := hf 4 _ rfl
    simp [c3, c9, c0] at f0 f1 f2 f3 f4
    obtain ⟨na, e6, _⟩ := DataW.trod_string Tryz.underlying9 f1
    obtain ⟨nb, e7, _⟩ := DataW.trod_string Tryz.underlying9 f2
    obtain ⟨n8, e8, _⟩ := DataW.trod_int Tryz.underlying3 f3
    obtain ⟨n9, e9, _⟩ := DataW.trod_int Tryz.underlying3 f4
    obtain ⟨ys, k2, hk2, hxy2, hcl2, hxl2, hf2⟩ := DataW.trod_struct Tryz.underlying26 f0
    match ys, hxl2 with
    | [y0, y1, y2, y3, y4, y5], _ =>
    have g0 := hf2 0 _ rfl
    have g1 := hf2 1 _ rfl
    have g2 := hf2 2 _ rfl
    have g3 := hf2 3 _ rfl
    have g4 := hf2 4 _ rfl
    have g5 := hf2 5 _ rfl
    simp [c3, c9, c4, cG, cL, cK] at g0 g1 g2 g3 g4 g5
    obtain ⟨n0, e0, t0, _⟩ := DataW.trod_string Tryz.underlying9 g0
    obtain ⟨n1, e1, _⟩ := DataW.trod_bool Tryz.underlying4 g1
    obtain ⟨n2, e2, _⟩ := DataW.trod_int Tryz.underlying3 g2
    obtain ⟨A3, c3', l3, e3, q3, r3, s3⟩ := dec_rowsG k31 (fun y D => ∃ b, D = .agg [.lit (.string y.f0.data.toList), b]) Tryz.underlying22 (by kernel_rfl) decG2 g3
    obtain ⟨A4, c4', l4, e4, q4, r4, s4⟩ := dec_rows k86 Tryz.underlying23 (by kernel_rfl) decL g4
    obtain ⟨A5, c5', l5, e5, q5, r5, s5⟩ := dec_rows k76 Tryz.underlying24 (by kernel_rfl) decK g5
    cases e0; cases e1; cases e2; cases e3; cases e4; cases e5; cases e6; cases e7; cases e8; cases e9
    have hd0 : d0 = .agg [z0.1, z1.1, z2.1, z3.1, z4.1] := (Prod.mk.inj hxy).1
    have hz0 : z0.1 = .agg [y0.1, y1.1, y2.1, y3.1, y4.1, y5.1] := by rw [hxy2]; rfl
    have hall : ∀ m, m ∈ DataW.weights Tryz.prog 26 (.agg [y0.1, y1.1, y2.1, y3.1, y4.1, y5.1] : DataW H) → m ≤ reachBytes := by
      intro m hm
      have h1 : m ∈ DataW.weights Tryz.prog 50 d0 := by
        rw [hd0, hz0]
        have hw : DataW.weights Tryz.prog 50 (.agg [.agg [y0.1, y1.1, y2.1, y3.1, y4.1, y5.1], z1.1, z2.1, z3.1, z4.1] : DataW H) = DataW.weightsEach Tryz.prog [26, 9, 9, 3, 3] [.agg [y0.1, y1.1, y2.1, y3.1, y4.1, y5.1], z1.1, z2.1, z3.1, z4.1] := by
          rw [DataW.weights, Tryz.underlying50]
          rfl
        rw [hw]
        exact DataW.weights_mem_each (j := 0) rfl rfl m hm
      have h2 := List.all_eq_true.1 hwt m (DataW.weights_mem_each (j := 0) rfl rfl m h1)
      simpa using h2
    have hw2 : DataW.weights Tryz.prog 26 (.agg [y0.1, y1.1, y2.1, y3.1, y4.1, y5.1] : DataW H) = DataW.weightsEach Tryz.prog [9, 4, 3, 22, 23, 24] [y0.1, y1.1, y2.1, y3.1, y4.1, y5.1] := by
      rw [DataW.weights, Tryz.underlying26]
      rfl
    have hlt : reachBytes ≤ 140737488355328 := by have := reachBytes_lt; omega
    refine ⟨n0, n1, n2, A3, c3', l3, A4, c4', l4, A5, c5', l5, na, nb, n8, n9, rfl, r3, q3, r4, q4, r5, q5, ?_, fun x hx => ?_⟩
    · refine Nat.le_trans (hall _ ?_) hlt
      rw [hw2]
      refine DataW.weights_mem_each (j := 0) rfl rfl _ ?_
      rw [t0]
      simp [DataW.weights]
    · rcases s3 with s | ⟨elems, spare, e, hg⟩
      · rw [s] at hx; cases hx
      · obtain ⟨D, hD, b, rfl⟩ := hg x hx
        refine Nat.le_trans (hall _ ?_) hlt
        rw [hw2]
        refine DataW.weights_mem_each (j := 3) rfl rfl _ ?_
        rw [e]
        simp only [DataW.weights, Tryz.underlying22, List.mem_cons, List.mem_append]
        refine .inr (.inl (weightsAll_mem hD _ ?_))
        simp only [DataW.weights, Tryz.underlying31]
        simp only [DataW.weightsEach, DataW.weights, List.map_cons, List.map_nil, List.mem_append, List.mem_cons]
        exact .inl (.inl (Array.length_toList).symm)
end
end Go.Proofs.YtaifemkokfoadaaGreatDoor

namespace Go.Proofs.YtaifemkokfoadaaGreatDoor
open Go.RowKit Go.ChangeShapes Go.WideShapes Go.Proofs.YtaifemkokfoadaaGreatDoorW.PrintWords
theorem iface_of_laid {P : Program} {w : World} {l : List (String × DataW Unit)} {n nm : String} {d : DataW Unit} {g : Nat} {t : TypeId} {ms : Array (String × TypeId)} (h : laidMet P l w) (hm : (n, .iface nm d) ∈ l)
    (hg : P.globalNamed n = some g) (ht : (P.globals[g]?).map (·.type) = some t) (hu : P.underlying t = some (.interface ms)) : ∃ tp p, w.var? P n = some #[.iface tp p] := by
  obtain ⟨g', t', cs, fuel, p, e1, e2, e3, e4⟩ := Lib.laidMet.reads h hm
  obtain rfl : g' = g := Option.some.inj (e1.symm.trans hg)
  obtain rfl : t' = t := Option.some.inj (e2.symm.trans ht)
  cases fuel with
  | zero => simp [DataW.trod] at e4
  | succ k =>
    unfold DataW.trod at e4
    rw [hu] at e4
    obtain ⟨cl⟩ := cs
    rw [e3]
    match cl, e4 with
    | [], e4 => simp at e4
    | [v], e4 =>
      cases v <;> simp at e4
      exact ⟨_, _, rfl⟩
    | _ :: _ :: _, e4 => simp at e4
theorem gw_of {W : World} {l : List (String × DataW Unit)} {ds : DataW Unit} {dr : DataW Unit} {n1 n2 : String} (h : laidMet Tryz.prog l W) (hsh : W.ShapedOpen Tryz.prog) (h1 : ("internal/strconv.uint64pow10", Lib.tabData .u64 Lib.pow10Tab) ∈ l) (h2 : ("strconv.ErrSyntax", .iface n1 ds) ∈ l) (h3 : ("strconv.ErrRange", .iface n2 dr) ∈ l) (h4 : ("strings.asciiSpace", Lib.tabData .u8 Lib.asciiSpaceTab) ∈ l) : GW W := by
  have htab : Lib.TabIs Tryz.prog W "internal/strconv.uint64pow10" .u64 Lib.pow10Tab := tabIs_of_laid (g := 7) (t := 244) (e := 186) (n := 20) (by kernel_rfl) (by kernel_rfl) Tryz.underlying244 Tryz.underlying186 (by kernel_rfl) (by kernel_rfl) h h1
  have hspc : Lib.TabIs Tryz.prog W "strings.asciiSpace" .u8 Lib.asciiSpaceTab := tabIs_of_laid (g := 0) (t := 140) (e := 5) (n := 256) (by kernel_rfl) (by kernel_rfl) Tryz.underlying140 Tryz.underlying5 (by kernel_rfl) (by kernel_rfl) h h4
  refine ⟨htab, iface_of_laid (g := 3) h h2 (by kernel_rfl) (t := 131) (by kernel_rfl) Tryz.underlying131, iface_of_laid (g := 4) h h3 (by kernel_rfl) (t := 131) (by kernel_rfl) Tryz.underlying131, hspc,
    cell_of_shapedOpen_int (t := 3) (zero := #[.int .i64 0]) hsh (of_decide_eq_true (by kernel_rfl)) (by kernel_rfl) rfl (by kernel_rfl) (by kernel_rfl) Tryz.underlying3, ?_⟩
  obtain ⟨o, _, h4, _⟩ := hsh.2 11 (of_decide_eq_true (by kernel_rfl)) (of_decide_eq_true (by kernel_rfl))
  rcases Nat.lt_or_ge 11 W.heap.size with h5 | h5
  · omega
  · rw [Array.getElem?_eq_none h5] at h4; cases h4
end Go.Proofs.YtaifemkokfoadaaGreatDoor
