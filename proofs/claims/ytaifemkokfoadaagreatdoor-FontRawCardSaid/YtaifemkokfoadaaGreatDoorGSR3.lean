/-
  Texts that lean on one another, laid in one file. No condition.
-/
import Derived.Test.YtaifemkokfoadaaGreatDoorGSR1
import Derived.Deep.QuietTactic
import Derived.BigQuiet
import Derived.Deep.RegionHeld3
import Derived.Test.YtaifemkokfoadaaGreatDoorGSR2
namespace Go.Proofs.YtaifemkokfoadaaGreatDoor.PX
open Go.RowKit Go.Proofs.YtaifemkokfoadaaGreatDoorW.PrintWords Go.Proofs.YtaifemkokfoadaaGreatDoorW.PrintLast Go.Proofs.YtaifemkokfoadaaGreatDoorW.PrintMore
attribute [local go_sem] max2_int min2_int max_two min_two max_three min_three max_four min_four   -- for this text's walks alone
set_option linter.unusedVariables false
set_option linter.unusedSimpArgs false
def frisketref07_Mono.l0 : Nat → Int → ByteArray → Bool → Int → List (S81) → List (S83) → List (S84) → Option (Bool)
 | 0, _, _, _, _, _, _, _ => none
 | k + 1, x3, x381000, x381001, x381002, x381003, x381004, x381005 => if x3 < (x381003.length : Int) then (if 0 ≤ x3 then (if ((rd_T81 x381003 x3).f1) = x381002 then (frisketref07_Mono.l0 k (wrap64 (x3 + 1)) x381000 x381001 x381002 x381003 x381004 x381005) else (some false)) else (none)) else (some true)
def frisketref07_Mono.f (k : Nat) (a0_0 : ByteArray) (a0_1 : Bool) (a0_2 : Int) (l0_3 : List (S81)) (l0_4 : List (S83)) (l0_5 : List (S84)) : Option (Bool) := frisketref07_Mono.l0 k 0 a0_0 a0_1 a0_2 l0_3 l0_4 l0_5
set_option maxHeartbeats 8000000 in
set_option maxRecDepth 100000 in
theorem frisketref07_Mono.calls (k : Nat) (a0_0 : ByteArray) (a0_1 : Bool) (a0_2 : Int) (A0_3 : Option Addr) (c0_3 : Nat) (l0_3 : List (S81)) (A0_4 : Option Addr) (c0_4 : Nat) (l0_4 : List (S83)) (A0_5 : Option Addr) (c0_5 : Nat) (l0_5 : List (S84)) (r : Bool) (w : World) (hr0_3 : Kd.C k81 w A0_3 l0_3.length l0_3) (hc0_3 : l0_3.length ≤ c0_3) (hr0_4 : Kd.C k83 w A0_4 l0_4.length l0_4) (hc0_4 : l0_4.length ≤ c0_4) (hr0_5 : Kd.C k84 w A0_5 l0_5.length l0_5) (hc0_5 : l0_5.length ≤ c0_5) (h : frisketref07_Mono.f k a0_0 a0_1 a0_2 l0_3 l0_4 l0_5 = some r) :
  Calls Tryz.prog 65 #[.agg #[.string a0_0, .bool a0_1, .int .i64 a0_2, .slice A0_3 l0_3.length c0_3, .slice A0_4 l0_4.length c0_4, .slice A0_5 l0_5.length c0_5]] w fun e w' => e = .returned (.bool r) ∧ Below w.heap.size w w' := by
 have hu44 := Tryz.underlying44
 have HR0_3 := Aside0.mk hr0_3
 have HC0_3 := Aside0.mk hc0_3
 clear hr0_3 hc0_3
 have HR0_4 := Aside0.mk hr0_4
 have HC0_4 := Aside0.mk hc0_4
 clear hr0_4 hc0_4
 have HR0_5 := Aside0.mk hr0_5
 have HC0_5 := Aside0.mk hc0_5
 clear hr0_5 hc0_5
 have HB := Aside0.mk (Below.refl w.heap.size w)
 have H : (frisketref07_Mono.l0 k 0 a0_0 a0_1 a0_2 l0_3 l0_4 l0_5) = some r := h
 clear h
 have H' := Aside0.mk H
 clear H
 go_enter Tryz.func65, Tryz.ntmps65
 go_wp2_with (first | ((with_reducible refine gate_dst (N := 1) rfl ?_); refine box_event ?hg (N := 1) ?hd (cs := #[.string a0_0, .bool a0_1, .int .i64 a0_2, .slice A0_3 l0_3.length c0_3, .slice A0_4 l0_4.length c0_4, .slice A0_5 l0_5.length c0_5]) (t := 44) ?hr ?_; (case hd => rfl); (case hg => rfl); (case hr => first | (go_simp; done) | (go_simp; rfl)); intro gb380 hg w2 hbox hb; have n0_ := Aside0.mk (below_step (by repeat (first | (with_reducible first | exact HB.out | apply below_alloc | apply pw_below_drewN | apply below_drew1) | exact HB.out)) hb); have n1_ := Aside0.mk (hbox); have n2_ := Aside0.mk ((by rw [hg]; exact (below_size (by repeat (first | (with_reducible first | exact HB.out | apply below_alloc | apply pw_below_drewN | apply below_drew1) | exact HB.out))) : w.heap.size ≤ gb380)); have n3_ := Aside0.mk ((by rw [hg]; exact (below_size (by repeat (first | (with_reducible first | exact HB.out | apply below_alloc | apply pw_below_drewN | apply below_drew1) | exact HB.out))) : w.heap.size ≤ gb380)); clear HB; have HB := n0_; have BK380 := n1_; have GW380 := n2_; have GE380 := n3_; clear n0_ n1_ n2_ n3_; clear hb hbox hg))
 repeat (go_quiet (first | ((with_reducible refine gate_dst (N := 1) rfl ?_); refine box_event ?hg (N := 1) ?hd (cs := #[.string a0_0, .bool a0_1, .int .i64 a0_2, .slice A0_3 l0_3.length c0_3, .slice A0_4 l0_4.length c0_4, .slice A0_5 l0_5.length c0_5]) (t := 44) ?hr ?_; (case hd => rfl); (case hg => rfl); (case hr => first | (go_simp; done) | (go_simp; rfl)); intro gb380 hg w2 hbox hb; have n0_ := Aside0.mk (below_step (by repeat (first | (with_reducible first | exact HB.out | apply below_alloc | apply pw_below_drewN | apply below_drew1) | exact HB.out)) hb); have n1_ := Aside0.mk (hbox); have n2_ := Aside0.mk ((by rw [hg]; exact (below_size (by repeat (first | (with_reducible first | exact HB.out | apply below_alloc | apply pw_below_drewN | apply below_drew1) | exact HB.out))) : w.heap.size ≤ gb380)); have n3_ := Aside0.mk ((by rw [hg]; exact (below_size (by repeat (first | (with_reducible first | exact HB.out | apply below_alloc | apply pw_below_drewN | apply below_drew1) | exact HB.out))) : w.heap.size ≤ gb380)); clear HB; have HB := n0_; have BK380 := n1_; have GW380 := n2_; have GE380 := n3_; clear n0_ n1_ n2_ n3_; clear hb hbox hg)); try go_wp2_with (first | ((with_reducible refine gate_dst (N := 1) rfl ?_); refine box_event ?hg (N := 1) ?hd (cs := #[.string a0_0, .bool a0_1, .int .i64 a0_2, .slice A0_3 l0_3.length c0_3, .slice A0_4 l0_4.length c0_4, .slice A0_5 l0_5.length c0_5]) (t := 44) ?hr ?_; (case hd => rfl); (case hg => rfl); (case hr => first | (go_simp; done) | (go_simp; rfl)); intro gb380 hg w2 hbox hb; have n0_ := Aside0.mk (below_step (by repeat (first | (with_reducible first | exact HB.out | apply below_alloc | apply pw_below_drewN | apply below_drew1) | exact HB.out)) hb); have n1_ := Aside0.mk (hbox); have n2_ := Aside0.mk ((by rw [hg]; exact (below_size (by repeat (first | (with_reducible first | exact HB.out | apply below_alloc | apply pw_below_drewN | apply below_drew1) | exact HB.out))) : w.heap.size ≤ gb380)); have n3_ := Aside0.mk ((by rw [hg]; exact (below_size (by repeat (first | (with_reducible first | exact HB.out | apply below_alloc | apply pw_below_drewN | apply below_drew1) | exact HB.out))) : w.heap.size ≤ gb380)); clear HB; have HB := n0_; have BK380 := n1_; have GW380 := n2_; have GE380 := n3_; clear n0_ n1_ n2_ n3_; clear hb hbox hg)))
 go_loopg [3] k (fun kq v3 w' => ∃ (x3_1 : Int), v3 = .int .i64 x3_1 ∧ Aside0 (frisketref07_Mono.l0 kq x3_1 a0_0 a0_1 a0_2 l0_3 l0_4 l0_5 = some r) ∧ Aside0 (kq ≤ k) ∧ Aside0 (w'.heap[gb380]? = some (.cells #[.string a0_0, .bool a0_1, .int .i64 a0_2, (.slice A0_3 l0_3.length c0_3), (.slice A0_4 l0_4.length c0_4), (.slice A0_5 l0_5.length c0_5)] 44 (0, 0))) ∧ Aside0 (Below w.heap.size w w'))
 case atStart => exact ⟨(0), (by first | rfl | (simp; done) | (simp [*]; done)), H', ⟨Nat.le_refl _⟩, ⟨by (with_reducible repeat (first | refine blk_drewN ?_ _ | refine blk_drew ?_ | refine blk_alloc ?_ _)); exact BK380.out⟩, ⟨by repeat (first | (with_reducible first | exact HB.out | apply below_alloc | apply pw_below_drewN | apply below_drew1 | refine below_set ?_ GE380.out) | exact HB.out)⟩⟩
 case round =>
  clear H'
  try clear p2
  obtain ⟨x3_1, rfl, HA, HK1, BK380, HB⟩ := hrel
  cases gk with
  | zero => exact absurd HA.out (by simp [frisketref07_Mono.l0])
  | succ k1 =>
   have H := HA.out
   clear HA
   simp only [frisketref07_Mono.l0] at H
   by_cases c3 : x3_1 < (l0_3.length : Int)
   ·rw [if_pos c3] at H
    have c3b0 : decide (x3_1 < (l0_3.length : Int)) = true := decide_eq_true c3
    clear c3
    by_cases c4 : 0 ≤ x3_1
    ·rw [if_pos c4] at H
     have c4b0 : decide (0 ≤ x3_1) = true := decide_eq_true c4
     clear c4
     by_cases c5 : ((rd_T81 l0_3 x3_1).f1) = a0_2
     ·rw [if_pos c5] at H
      have c5b0 : (((rd_T81 l0_3 x3_1).f1) == a0_2) = true := beq_iff_eq.mpr c5
      have c5b1 : (((rd_T81 l0_3 x3_1).f1) != a0_2) = false := bne_eq_false_iff_eq.mpr c5
      clear c5
      have H' := Aside0.mk H
      clear H
      have hcz6_0 : wr.cell? ⟨gb380, 0, none⟩ = some (.string a0_0) := (blk_cell BK380.out 0).trans rfl
      have hcz6_1 : wr.cell? ⟨gb380, 1, none⟩ = some (.bool a0_1) := (blk_cell BK380.out 1).trans rfl
      have hcz6_2 : wr.cell? ⟨gb380, 2, none⟩ = some (.int .i64 a0_2) := (blk_cell BK380.out 2).trans rfl
      have hcz6_3 : wr.cell? ⟨gb380, 3, none⟩ = some (.slice A0_3 l0_3.length c0_3) := (blk_cell BK380.out 3).trans rfl
      have hcz6_4 : wr.cell? ⟨gb380, 4, none⟩ = some (.slice A0_4 l0_4.length c0_4) := (blk_cell BK380.out 4).trans rfl
      have hcz6_5 : wr.cell? ⟨gb380, 5, none⟩ = some (.slice A0_5 l0_5.length c0_5) := (blk_cell BK380.out 5).trans rfl
      have hfz6_0 := blk_frozen BK380.out 0
      have hfz6_1 := blk_frozen BK380.out 1
      have hfz6_2 := blk_frozen BK380.out 2
      have hfz6_3 := blk_frozen BK380.out 3
      have hfz6_4 := blk_frozen BK380.out 4
      have hfz6_5 := blk_frozen BK380.out 5
      have p381 : 0 ≤ (x3_1 : Int) := of_decide_eq_true (by first | (with_reducible assumption) | assumption)
      have q381 : x3_1 < (l0_3.length : Int) := of_decide_eq_true (by first | (with_reducible assumption) | assumption)
      obtain ⟨ad381, e381, hx381_0, hx381_1⟩ := at_T81 HR0_3.out x3_1 p381 q381
      cases e381
      replace hx381_0 := (HB.out.cell (World.block_lt_of_cell? w _ hx381_0)).trans hx381_0
      replace hx381_1 := (HB.out.cell (World.block_lt_of_cell? w _ hx381_1)).trans hx381_1
      replace p381 := eq_true p381
      replace q381 := eq_true q381
      go_wp2
      repeat (go_quiet (fail); try go_wp2)
      go_roundg k1
      case measure => have := HK1.out; omega
      case rel => exact ⟨(wrap64 (x3_1 + 1)), (by first | rfl | (simp; done) | (simp [*]; done)), H', ⟨by have := HK1.out; omega⟩, ⟨by (with_reducible repeat (first | refine blk_drewN ?_ _ | refine blk_drew ?_ | refine blk_alloc ?_ _)); exact BK380.out⟩, ⟨by repeat (first | (with_reducible first | exact HB.out | apply below_alloc | apply pw_below_drewN | apply below_drew1 | refine below_set ?_ GE380.out) | exact HB.out)⟩⟩
     ·rw [if_neg c5] at H
      have c5b0 : (((rd_T81 l0_3 x3_1).f1) == a0_2) = false := beq_eq_false_iff_ne.mpr c5
      have c5b1 : (((rd_T81 l0_3 x3_1).f1) != a0_2) = true := bne_iff_ne.mpr c5
      obtain rfl := Option.some.inj H
      have hcz7_0 : wr.cell? ⟨gb380, 0, none⟩ = some (.string a0_0) := (blk_cell BK380.out 0).trans rfl
      have hcz7_1 : wr.cell? ⟨gb380, 1, none⟩ = some (.bool a0_1) := (blk_cell BK380.out 1).trans rfl
      have hcz7_2 : wr.cell? ⟨gb380, 2, none⟩ = some (.int .i64 a0_2) := (blk_cell BK380.out 2).trans rfl
      have hcz7_3 : wr.cell? ⟨gb380, 3, none⟩ = some (.slice A0_3 l0_3.length c0_3) := (blk_cell BK380.out 3).trans rfl
      have hcz7_4 : wr.cell? ⟨gb380, 4, none⟩ = some (.slice A0_4 l0_4.length c0_4) := (blk_cell BK380.out 4).trans rfl
      have hcz7_5 : wr.cell? ⟨gb380, 5, none⟩ = some (.slice A0_5 l0_5.length c0_5) := (blk_cell BK380.out 5).trans rfl
      have hfz7_0 := blk_frozen BK380.out 0
      have hfz7_1 := blk_frozen BK380.out 1
      have hfz7_2 := blk_frozen BK380.out 2
      have hfz7_3 := blk_frozen BK380.out 3
      have hfz7_4 := blk_frozen BK380.out 4
      have hfz7_5 := blk_frozen BK380.out 5
      have p381 : 0 ≤ (x3_1 : Int) := of_decide_eq_true (by first | (with_reducible assumption) | assumption)
      have q381 : x3_1 < (l0_3.length : Int) := of_decide_eq_true (by first | (with_reducible assumption) | assumption)
      obtain ⟨ad381, e381, hx381_0, hx381_1⟩ := at_T81 HR0_3.out x3_1 p381 q381
      cases e381
      replace hx381_0 := (HB.out.cell (World.block_lt_of_cell? w _ hx381_0)).trans hx381_0
      replace hx381_1 := (HB.out.cell (World.block_lt_of_cell? w _ hx381_1)).trans hx381_1
      replace p381 := eq_true p381
      replace q381 := eq_true q381
      go_wp2
      repeat (go_quiet (fail); try go_wp2)
      go_ret
      exact ⟨by first | rfl | (simp [errW_none, errW_some] <;> rfl) | (simp [*, errW_none, errW_some] <;> rfl), by repeat (first | (with_reducible first | exact HB.out | apply below_alloc | apply pw_below_drewN | apply below_drew1 | refine below_set ?_ GE380.out) | exact HB.out)⟩
    ·rw [if_neg c4] at H
     exact absurd H (by simp)
   ·rw [if_neg c3] at H
    have c3b0 : decide (x3_1 < (l0_3.length : Int)) = false := decide_eq_false c3
    clear c3
    obtain rfl := Option.some.inj H
    have hcz8_0 : wr.cell? ⟨gb380, 0, none⟩ = some (.string a0_0) := (blk_cell BK380.out 0).trans rfl
    have hcz8_1 : wr.cell? ⟨gb380, 1, none⟩ = some (.bool a0_1) := (blk_cell BK380.out 1).trans rfl
    have hcz8_2 : wr.cell? ⟨gb380, 2, none⟩ = some (.int .i64 a0_2) := (blk_cell BK380.out 2).trans rfl
    have hcz8_3 : wr.cell? ⟨gb380, 3, none⟩ = some (.slice A0_3 l0_3.length c0_3) := (blk_cell BK380.out 3).trans rfl
    have hcz8_4 : wr.cell? ⟨gb380, 4, none⟩ = some (.slice A0_4 l0_4.length c0_4) := (blk_cell BK380.out 4).trans rfl
    have hcz8_5 : wr.cell? ⟨gb380, 5, none⟩ = some (.slice A0_5 l0_5.length c0_5) := (blk_cell BK380.out 5).trans rfl
    have hfz8_0 := blk_frozen BK380.out 0
    have hfz8_1 := blk_frozen BK380.out 1
    have hfz8_2 := blk_frozen BK380.out 2
    have hfz8_3 := blk_frozen BK380.out 3
    have hfz8_4 := blk_frozen BK380.out 4
    have hfz8_5 := blk_frozen BK380.out 5
    go_wp2
    repeat (go_quiet (fail); try go_wp2)
    go_ret
    exact ⟨by first | rfl | (simp [errW_none, errW_some] <;> rfl) | (simp [*, errW_none, errW_some] <;> rfl), by repeat (first | (with_reducible first | exact HB.out | apply below_alloc | apply pw_below_drewN | apply below_drew1 | refine below_set ?_ GE380.out) | exact HB.out)⟩
end Go.Proofs.YtaifemkokfoadaaGreatDoor.PX

namespace Go.Proofs.YtaifemkokfoadaaGreatDoor.PX
open Go.RowKit Go.Proofs.YtaifemkokfoadaaGreatDoorW.PrintWords Go.Proofs.YtaifemkokfoadaaGreatDoorW.PrintLast Go.Proofs.YtaifemkokfoadaaGreatDoorW.PrintMore
attribute [local go_sem] max2_int min2_int max_two min_two max_three min_three max_four min_four   -- for this text's walks alone
set_option linter.unusedVariables false
set_option linter.unusedSimpArgs false
def frisketref07_Floor.f (a0 : Int) (a1 : Int) : Option (Int) := if a1 = 0 then (none) else (if (Int.tmod a0 a1) < 0 then (some (wrap64 ((wrap64 (Int.tdiv a0 a1)) - 1))) else (some (wrap64 (Int.tdiv a0 a1))))
set_option maxHeartbeats 8000000 in
set_option maxRecDepth 100000 in
theorem frisketref07_Floor.calls (a0 : Int) (a1 : Int) (r : Int) (w : World) (h : frisketref07_Floor.f a0 a1 = some r) :
  Calls Tryz.prog 134 #[.int .i64 a0, .int .i64 a1] w fun e w' => e = .returned (.int .i64 r) ∧ Drawn0 w w' := by
 have H : (if a1 = 0 then (none) else (if (Int.tmod a0 a1) < 0 then (some (wrap64 ((wrap64 (Int.tdiv a0 a1)) - 1))) else (some (wrap64 (Int.tdiv a0 a1))))) = some r := h
 clear h
 by_cases c3 : a1 = 0
 ·rw [if_pos c3] at H
  exact absurd H (by simp)
 ·rw [if_neg c3] at H
  have c3b0 : (a1 == 0) = false := beq_eq_false_iff_ne.mpr c3
  have c3b1 : (a1 != 0) = true := bne_iff_ne.mpr c3
  by_cases c4 : (Int.tmod a0 a1) < 0
  ·rw [if_pos c4] at H
   have c4b0 : decide ((Int.tmod a0 a1) < 0) = true := decide_eq_true c4
   clear c4
   obtain rfl := Option.some.inj H
   go_enter Tryz.func134, Tryz.ntmps134
   go_wp2
   go_ret
   exact ⟨by first | rfl | (simp; done) | (simp [*]; done), by repeat (first | exact Drawn0.refl _ | apply Drawn0.step)⟩
  ·rw [if_neg c4] at H
   have c4b0 : decide ((Int.tmod a0 a1) < 0) = false := decide_eq_false c4
   clear c4
   obtain rfl := Option.some.inj H
   go_enter Tryz.func134, Tryz.ntmps134
   go_wp2
   go_ret
   exact ⟨by first | rfl | (simp; done) | (simp [*]; done), by repeat (first | exact Drawn0.refl _ | apply Drawn0.step)⟩
def frisketref07_scale.f (a0 : Int) (a1 : Int) : Option (Int) := (frisketref07_Floor.f (wrap64 ((wrap64 (10 * a1)) * a0)) 1000).bind fun t382 => (some t382)
set_option maxHeartbeats 8000000 in
set_option maxRecDepth 100000 in
theorem frisketref07_scale.calls (a0 : Int) (a1 : Int) (r : Int) (w : World) (h : frisketref07_scale.f a0 a1 = some r) :
  Calls Tryz.prog 110 #[.int .i64 a0, .int .i64 a1] w fun e w' => e = .returned (.int .i64 r) ∧ Drawn0 w w' := by
 have H : ((frisketref07_Floor.f (wrap64 ((wrap64 (10 * a1)) * a0)) 1000).bind fun t382 => (some t382)) = some r := h
 clear h
 replace H := Option.bind_eq_some_iff.mp H
 obtain ⟨t382, A30, H⟩ := H
 replace H : (some t382) = some r := H
 have A3 := Aside0.mk A30
 clear A30
 obtain rfl := Option.some.inj H
 go_enter Tryz.func110, Tryz.ntmps110
 go_wp2_with (first | ((with_reducible refine gate_callee (f := 134) rfl ?_); refine goesL_ (some 9) rfl rfl Tryz.func134 (by kernel_rfl) rfl #[.int .i64 (wrap64 ((wrap64 (10 * a1)) * a0)), .int .i64 1000] rfl (by (try simp only [List.map_toArray, List.map_cons, List.map_nil]); first | done | rfl | (simp only [List.length_drop, List.length_take]; rfl)) ?_; (with_reducible refine (frisketref07_Floor.calls (wrap64 ((wrap64 (10 * a1)) * a0)) 1000 t382 _ A3.out).mono ?_); rintro e w' ⟨rfl, ⟨nd, rfl⟩⟩; refine ⟨_, rfl, ?_⟩))
 go_ret
 exact ⟨by first | rfl | (simp; done) | (simp [*]; done), by repeat (first | exact Drawn0.refl _ | apply Drawn0.step)⟩
end Go.Proofs.YtaifemkokfoadaaGreatDoor.PX

namespace Go.Proofs.YtaifemkokfoadaaGreatDoor.PX
open Go.RowKit Go.Proofs.YtaifemkokfoadaaGreatDoorW.PrintWords Go.Proofs.YtaifemkokfoadaaGreatDoorW.PrintLast Go.Proofs.YtaifemkokfoadaaGreatDoorW.PrintMore
attribute [local go_sem] max2_int min2_int max_two min_two max_three min_three max_four min_four   -- for this text's walks alone
set_option linter.unusedVariables false
set_option linter.unusedSimpArgs false
def frisketref07_WidthOf.l0 : Nat → ByteArray → Int → Int → ByteArray → Bool → Int → List (S81) → List (S83) → List (S84) → Option (Int × Bool)
 | 0, _, _, _, _, _, _, _, _, _ => none
 | k + 1, x1, x2, x8, x384000, x384001, x384002, x384003, x384004, x384005 => if x8 < (x384003.length : Int) then (if 0 ≤ x8 then (if ((rd_T81 x384003 x8).f0).toList = x1.toList then ((frisketref07_scale.f ((rd_T81 x384003 x8).f1) x2).bind fun t386 => (some (t386, true))) else (frisketref07_WidthOf.l0 k x1 x2 (wrap64 (x8 + 1)) x384000 x384001 x384002 x384003 x384004 x384005)) else (none)) else (some (0, false))
def frisketref07_WidthOf.f (k : Nat) (a0_0 : ByteArray) (a0_1 : Bool) (a0_2 : Int) (l0_3 : List (S81)) (l0_4 : List (S83)) (l0_5 : List (S84)) (a1 : ByteArray) (a2 : Int) : Option (Int × Bool) := frisketref07_WidthOf.l0 k a1 a2 0 a0_0 a0_1 a0_2 l0_3 l0_4 l0_5
set_option maxHeartbeats 8000000 in
set_option maxRecDepth 100000 in
theorem frisketref07_WidthOf.calls (k : Nat) (a0_0 : ByteArray) (a0_1 : Bool) (a0_2 : Int) (A0_3 : Option Addr) (c0_3 : Nat) (l0_3 : List (S81)) (A0_4 : Option Addr) (c0_4 : Nat) (l0_4 : List (S83)) (A0_5 : Option Addr) (c0_5 : Nat) (l0_5 : List (S84)) (a1 : ByteArray) (a2 : Int) (r1 : Int) (r2 : Bool) (w : World) (hr0_3 : Kd.C k81 w A0_3 l0_3.length l0_3) (hc0_3 : l0_3.length ≤ c0_3) (hr0_4 : Kd.C k83 w A0_4 l0_4.length l0_4) (hc0_4 : l0_4.length ≤ c0_4) (hr0_5 : Kd.C k84 w A0_5 l0_5.length l0_5) (hc0_5 : l0_5.length ≤ c0_5) (h : frisketref07_WidthOf.f k a0_0 a0_1 a0_2 l0_3 l0_4 l0_5 a1 a2 = some (r1, r2)) :
  Calls Tryz.prog 109 #[.agg #[.string a0_0, .bool a0_1, .int .i64 a0_2, .slice A0_3 l0_3.length c0_3, .slice A0_4 l0_4.length c0_4, .slice A0_5 l0_5.length c0_5], .string a1, .int .i64 a2] w fun e w' => e = .returned (.tuple #[.int .i64 r1, .bool r2]) ∧ Below w.heap.size w w' := by
 have hu44 := Tryz.underlying44
 have HR0_3 := Aside0.mk hr0_3
 have HC0_3 := Aside0.mk hc0_3
 clear hr0_3 hc0_3
 have HR0_4 := Aside0.mk hr0_4
 have HC0_4 := Aside0.mk hc0_4
 clear hr0_4 hc0_4
 have HR0_5 := Aside0.mk hr0_5
 have HC0_5 := Aside0.mk hc0_5
 clear hr0_5 hc0_5
 have HB := Aside0.mk (Below.refl w.heap.size w)
 have H : (frisketref07_WidthOf.l0 k a1 a2 0 a0_0 a0_1 a0_2 l0_3 l0_4 l0_5) = some (r1, r2) := h
 clear h
 have H' := Aside0.mk H
 clear H
 go_enter Tryz.func109, Tryz.ntmps109
 go_wp2_with (first | ((with_reducible refine gate_dst (N := 3) rfl ?_); refine box_event ?hg (N := 3) ?hd (cs := #[.string a0_0, .bool a0_1, .int .i64 a0_2, .slice A0_3 l0_3.length c0_3, .slice A0_4 l0_4.length c0_4, .slice A0_5 l0_5.length c0_5]) (t := 44) ?hr ?_; (case hd => rfl); (case hg => rfl); (case hr => first | (go_simp; done) | (go_simp; rfl)); intro gb383 hg w4 hbox hb; have n0_ := Aside0.mk (below_step (by repeat (first | (with_reducible first | exact HB.out | apply below_alloc | apply pw_below_drewN | apply below_drew1) | exact HB.out)) hb); have n1_ := Aside0.mk (hbox); have n2_ := Aside0.mk ((by rw [hg]; exact (below_size (by repeat (first | (with_reducible first | exact HB.out | apply below_alloc | apply pw_below_drewN | apply below_drew1) | exact HB.out))) : w.heap.size ≤ gb383)); have n3_ := Aside0.mk ((by rw [hg]; exact (below_size (by repeat (first | (with_reducible first | exact HB.out | apply below_alloc | apply pw_below_drewN | apply below_drew1) | exact HB.out))) : w.heap.size ≤ gb383)); clear HB; have HB := n0_; have BK383 := n1_; have GW383 := n2_; have GE383 := n3_; clear n0_ n1_ n2_ n3_; clear hb hbox hg))
 go_loopg [8] k (fun kq v8 w' => ∃ (x8_1 : Int), v8 = .int .i64 x8_1 ∧ Aside0 (frisketref07_WidthOf.l0 kq a1 a2 x8_1 a0_0 a0_1 a0_2 l0_3 l0_4 l0_5 = some (r1, r2)) ∧ Aside0 (kq ≤ k) ∧ Aside0 (w'.heap[gb383]? = some (.cells #[.string a0_0, .bool a0_1, .int .i64 a0_2, (.slice A0_3 l0_3.length c0_3), (.slice A0_4 l0_4.length c0_4), (.slice A0_5 l0_5.length c0_5)] 44 (0, 0))) ∧ Aside0 (Below w.heap.size w w'))
 case atStart => exact ⟨(0), (by first | rfl | (simp; done) | (simp [*]; done)), H', ⟨Nat.le_refl _⟩, ⟨by (with_reducible repeat (first | refine blk_drewN ?_ _ | refine blk_drew ?_ | refine blk_alloc ?_ _)); exact BK383.out⟩, ⟨by repeat (first | (with_reducible first | exact HB.out | apply below_alloc | apply pw_below_drewN | apply below_drew1 | refine below_set ?_ GE383.out) | exact HB.out)⟩⟩
 case round =>
  clear H'
  try clear c1
  try clear p2
  obtain ⟨x8_1, rfl, HA, HK1, BK383, HB⟩ := hrel
  cases gk with
  | zero => exact absurd HA.out (by simp [frisketref07_WidthOf.l0])
  | succ k1 =>
   have H := HA.out
   clear HA
   simp only [frisketref07_WidthOf.l0] at H
   by_cases c5 : x8_1 < (l0_3.length : Int)
   ·rw [if_pos c5] at H
    have c5b0 : decide (x8_1 < (l0_3.length : Int)) = true := decide_eq_true c5
    clear c5
    by_cases c6 : 0 ≤ x8_1
    ·rw [if_pos c6] at H
     have c6b0 : decide (0 ≤ x8_1) = true := decide_eq_true c6
     clear c6
     by_cases c7 : ((rd_T81 l0_3 x8_1).f0).toList = a1.toList
     ·rw [if_pos c7] at H
      have c7b0 : (((rd_T81 l0_3 x8_1).f0).toList == a1.toList) = true := beq_iff_eq.mpr c7
      have c7b1 : (((rd_T81 l0_3 x8_1).f0).toList != a1.toList) = false := bne_eq_false_iff_eq.mpr c7
      clear c7
      replace H := Option.bind_eq_some_iff.mp H
      obtain ⟨t386, A80, H⟩ := H
      replace H : (some (t386, true)) = some (r1, r2) := H
      have A8 := Aside0.mk A80
      clear A80
      simp only [Option.some.injEq, Prod.mk.injEq] at H
      obtain ⟨rfl, rfl⟩ := H
      have hcz9_0 : wr.cell? ⟨gb383, 0, none⟩ = some (.string a0_0) := (blk_cell BK383.out 0).trans rfl
      have hcz9_1 : wr.cell? ⟨gb383, 1, none⟩ = some (.bool a0_1) := (blk_cell BK383.out 1).trans rfl
      have hcz9_2 : wr.cell? ⟨gb383, 2, none⟩ = some (.int .i64 a0_2) := (blk_cell BK383.out 2).trans rfl
      have hcz9_3 : wr.cell? ⟨gb383, 3, none⟩ = some (.slice A0_3 l0_3.length c0_3) := (blk_cell BK383.out 3).trans rfl
      have hcz9_4 : wr.cell? ⟨gb383, 4, none⟩ = some (.slice A0_4 l0_4.length c0_4) := (blk_cell BK383.out 4).trans rfl
      have hcz9_5 : wr.cell? ⟨gb383, 5, none⟩ = some (.slice A0_5 l0_5.length c0_5) := (blk_cell BK383.out 5).trans rfl
      have hfz9_0 := blk_frozen BK383.out 0
      have hfz9_1 := blk_frozen BK383.out 1
      have hfz9_2 := blk_frozen BK383.out 2
      have hfz9_3 := blk_frozen BK383.out 3
      have hfz9_4 := blk_frozen BK383.out 4
      have hfz9_5 := blk_frozen BK383.out 5
      have p384 : 0 ≤ (x8_1 : Int) := of_decide_eq_true (by first | (with_reducible assumption) | assumption)
      have q384 : x8_1 < (l0_3.length : Int) := of_decide_eq_true (by first | (with_reducible assumption) | assumption)
      obtain ⟨ad384, e384, hx384_0, hx384_1⟩ := at_T81 HR0_3.out x8_1 p384 q384
      cases e384
      replace hx384_0 := (HB.out.cell (World.block_lt_of_cell? w _ hx384_0)).trans hx384_0
      replace hx384_1 := (HB.out.cell (World.block_lt_of_cell? w _ hx384_1)).trans hx384_1
      replace p384 := eq_true p384
      replace q384 := eq_true q384
      have p385 : 0 ≤ (x8_1 : Int) := of_decide_eq_true (by first | (with_reducible assumption) | assumption)
      have q385 : x8_1 < (l0_3.length : Int) := of_decide_eq_true (by first | (with_reducible assumption) | assumption)
      obtain ⟨ad385, e385, hx385_0, hx385_1⟩ := at_T81 HR0_3.out x8_1 p385 q385
      obtain rfl : ad384 = ad385 := (by injection e385)
      replace hx385_0 := (HB.out.cell (World.block_lt_of_cell? w _ hx385_0)).trans hx385_0
      replace hx385_1 := (HB.out.cell (World.block_lt_of_cell? w _ hx385_1)).trans hx385_1
      replace p385 := eq_true p385
      replace q385 := eq_true q385
      go_wp2_with (first | ((with_reducible refine gate_callee (f := 110) rfl ?_); refine goesL_ (some 31) rfl rfl Tryz.func110 (by kernel_rfl) rfl #[.int .i64 ((rd_T81 l0_3 x8_1).f1), .int .i64 a2] rfl (by (try simp only [List.map_toArray, List.map_cons, List.map_nil]); first | done | rfl | (simp only [List.length_drop, List.length_take]; rfl)) ?_; (with_reducible refine (frisketref07_scale.calls ((rd_T81 l0_3 x8_1).f1) a2 t386 _ A8.out).mono ?_); rintro e w' ⟨rfl, ⟨nd, rfl⟩⟩; refine ⟨_, rfl, ?_⟩))
      go_ret2
      exact ⟨by first | rfl | (simp [errW_none, errW_some] <;> rfl) | (simp [*, errW_none, errW_some] <;> rfl), by repeat (first | (with_reducible first | exact HB.out | apply below_alloc | apply pw_below_drewN | apply below_drew1 | refine below_set ?_ GE383.out) | exact HB.out)⟩
     ·rw [if_neg c7] at H
      have c7b0 : (((rd_T81 l0_3 x8_1).f0).toList == a1.toList) = false := beq_eq_false_iff_ne.mpr c7
      have c7b1 : (((rd_T81 l0_3 x8_1).f0).toList != a1.toList) = true := bne_iff_ne.mpr c7
      have H' := Aside0.mk H
      clear H
      have hcz10_0 : wr.cell? ⟨gb383, 0, none⟩ = some (.string a0_0) := (blk_cell BK383.out 0).trans rfl
      have hcz10_1 : wr.cell? ⟨gb383, 1, none⟩ = some (.bool a0_1) := (blk_cell BK383.out 1).trans rfl
      have hcz10_2 : wr.cell? ⟨gb383, 2, none⟩ = some (.int .i64 a0_2) := (blk_cell BK383.out 2).trans rfl
      have hcz10_3 : wr.cell? ⟨gb383, 3, none⟩ = some (.slice A0_3 l0_3.length c0_3) := (blk_cell BK383.out 3).trans rfl
      have hcz10_4 : wr.cell? ⟨gb383, 4, none⟩ = some (.slice A0_4 l0_4.length c0_4) := (blk_cell BK383.out 4).trans rfl
      have hcz10_5 : wr.cell? ⟨gb383, 5, none⟩ = some (.slice A0_5 l0_5.length c0_5) := (blk_cell BK383.out 5).trans rfl
      have hfz10_0 := blk_frozen BK383.out 0
      have hfz10_1 := blk_frozen BK383.out 1
      have hfz10_2 := blk_frozen BK383.out 2
      have hfz10_3 := blk_frozen BK383.out 3
      have hfz10_4 := blk_frozen BK383.out 4
      have hfz10_5 := blk_frozen BK383.out 5
      have p384 : 0 ≤ (x8_1 : Int) := of_decide_eq_true (by first | (with_reducible assumption) | assumption)
      have q384 : x8_1 < (l0_3.length : Int) := of_decide_eq_true (by first | (with_reducible assumption) | assumption)
      obtain ⟨ad384, e384, hx384_0, hx384_1⟩ := at_T81 HR0_3.out x8_1 p384 q384
      cases e384
      replace hx384_0 := (HB.out.cell (World.block_lt_of_cell? w _ hx384_0)).trans hx384_0
      replace hx384_1 := (HB.out.cell (World.block_lt_of_cell? w _ hx384_1)).trans hx384_1
      replace p384 := eq_true p384
      replace q384 := eq_true q384
      go_wp2
      go_roundg k1
      case measure => have := HK1.out; omega
      case rel => exact ⟨(wrap64 (x8_1 + 1)), (by first | rfl | (simp; done) | (simp [*]; done)), H', ⟨by have := HK1.out; omega⟩, ⟨by (with_reducible repeat (first | refine blk_drewN ?_ _ | refine blk_drew ?_ | refine blk_alloc ?_ _)); exact BK383.out⟩, ⟨by repeat (first | (with_reducible first | exact HB.out | apply below_alloc | apply pw_below_drewN | apply below_drew1 | refine below_set ?_ GE383.out) | exact HB.out)⟩⟩
    ·rw [if_neg c6] at H
     exact absurd H (by simp)
   ·rw [if_neg c5] at H
    have c5b0 : decide (x8_1 < (l0_3.length : Int)) = false := decide_eq_false c5
    clear c5
    simp only [Option.some.injEq, Prod.mk.injEq] at H
    obtain ⟨rfl, rfl⟩ := H
    have hcz11_0 : wr.cell? ⟨gb383, 0, none⟩ = some (.string a0_0) := (blk_cell BK383.out 0).trans rfl
    have hcz11_1 : wr.cell? ⟨gb383, 1, none⟩ = some (.bool a0_1) := (blk_cell BK383.out 1).trans rfl
    have hcz11_2 : wr.cell? ⟨gb383, 2, none⟩ = some (.int .i64 a0_2) := (blk_cell BK383.out 2).trans rfl
    have hcz11_3 : wr.cell? ⟨gb383, 3, none⟩ = some (.slice A0_3 l0_3.length c0_3) := (blk_cell BK383.out 3).trans rfl
    have hcz11_4 : wr.cell? ⟨gb383, 4, none⟩ = some (.slice A0_4 l0_4.length c0_4) := (blk_cell BK383.out 4).trans rfl
    have hcz11_5 : wr.cell? ⟨gb383, 5, none⟩ = some (.slice A0_5 l0_5.length c0_5) := (blk_cell BK383.out 5).trans rfl
    have hfz11_0 := blk_frozen BK383.out 0
    have hfz11_1 := blk_frozen BK383.out 1
    have hfz11_2 := blk_frozen BK383.out 2
    have hfz11_3 := blk_frozen BK383.out 3
    have hfz11_4 := blk_frozen BK383.out 4
    have hfz11_5 := blk_frozen BK383.out 5
    go_wp2
    go_ret2
    exact ⟨by first | rfl | (simp [errW_none, errW_some] <;> rfl) | (simp [*, errW_none, errW_some] <;> rfl), by repeat (first | (with_reducible first | exact HB.out | apply below_alloc | apply pw_below_drewN | apply below_drew1 | refine below_set ?_ GE383.out) | exact HB.out)⟩
end Go.Proofs.YtaifemkokfoadaaGreatDoor.PX

namespace Go.Proofs.YtaifemkokfoadaaGreatDoor
open Go.RowKit Go.Proofs.YtaifemkokfoadaaGreatDoorW.PrintWords Go.Proofs.YtaifemkokfoadaaGreatDoorW.PrintLast Go.Proofs.YtaifemkokfoadaaGreatDoorW.PrintMore Go.Proofs.YtaifemkokfoadaaGreatDoor.PX
set_option linter.unusedSimpArgs false
set_option linter.unusedVariables false
section
variable {P : Program} {ops : Array Oper} {Q : Exit → Act → World → Prop} {md : Region.Mode} {S : World → Prop} {ds : List Nat} {T : Bool × List (List Nat × List Nat)} {oi : Oper} {v : Value} {fuel : Nat} {l : Array Bool} {a a' : Act} {w : World}
theorem rP (i : Nat) (N : Option Tmp) (HT : Aside0 (rtab md ops = T)) (h : wpAnyLast P md ops Q S ds fuel (l.setIfInBounds i true) a' w)
  (hi : ops[i]? = some oi := by exact rfl) (hN : oi.dst = N := by exact rfl) (hc : anyT T l.toList (l.setIfInBounds i true).toList i = true := by kernel_rfl) (hQ : ∀ c a w, Q (.panic c) (a.put oi.dst v) w → Q (.panic c) a w := by exact fun _ _ _ h => h)
  (hg : Region.wanted oi (yielded ops a.tmps) = true := by rfl) (hy : ∀ w, (execOp a.eval oi).run P w = .ok (.value v) w := by intro w'; go_simp; with_reducible rfl) (ha : a.put N v = a' := by simp only [Act.put, List.setIfInBounds_toArray, List.set_cons_zero, List.set_cons_succ, i64_w, i32_w]; rfl) :
  wpAnyLast P md ops Q S ds (fuel + 1) l a w := pure_ _ hi hN (any_of HT.out hc) hQ (Or.inl ⟨hg, hy⟩) ha h
theorem rU (i : Nat) (N : Option Tmp) (HT : Aside0 (rtab md ops = T)) (h : wpAnyLast P md ops Q S ds fuel (l.setIfInBounds i true) a' w)
  (hi : ops[i]? = some oi := by exact rfl) (hN : oi.dst = N := by exact rfl) (hc : anyT T l.toList (l.setIfInBounds i true).toList i = true := by kernel_rfl) (hQ : ∀ c a w, Q (.panic c) (a.put oi.dst undef) w → Q (.panic c) a w := by exact fun _ _ _ h => h)
  (hg : Region.wanted oi (yielded ops a.tmps) = false := by rfl) (ha : a.put N undef = a' := by simp only [Act.put, List.setIfInBounds_toArray, List.set_cons_zero, List.set_cons_succ, i64_w, i32_w]; rfl) :
  wpAnyLast P md ops Q S ds (fuel + 1) l a w := pure_ _ hi hN (any_of HT.out hc) hQ (Or.inr ⟨hg, rfl⟩) ha h
theorem rT {B : List Nat} (i : Nat) (N : Option Tmp) (HT : Aside0 (rtab md ops = T)) (HW : Aside0 (waitsOk T.2 B = true)) (hS : S w) (h : wpAnyLast P md ops Q S ds fuel (l.setIfInBounds i true) a' w)
  (hi : ops[i]? = some oi := by exact rfl) (hN : oi.dst = N := by exact rfl) (hc : takeW T B ds l.toList (l.setIfInBounds i true).toList i = true := by kernel_rfl) (hQ : ∀ c a w, Q (.panic c) (a.put oi.dst v) w → Q (.panic c) a w := by exact fun _ _ _ h => h)
  (hg : Region.wanted oi (yielded ops a.tmps) = true := by rfl) (hy : ∀ w, S w → (execOp a.eval oi).run P w = .ok (.value v) w := by intro w' hs_; go_simp; with_reducible rfl) (ha : a.put N v = a' := by simp only [Act.put, List.setIfInBounds_toArray, List.set_cons_zero, List.set_cons_succ, i64_w, i32_w]; rfl) :
  wpAnyLast P md ops Q S ds (fuel + 1) l a w := take_ _ hi hN (take_ofW HT.out HW.out hc) hQ (Or.inl ⟨hg, hy⟩) hS ha h
theorem rS {X : World} {B : List Nat} {n id : Nat} (HS : Aside0 (∀ W, Below X.heap.size X W → S W)) (hT : rtab .any ops = T) (hB : waitsOk T.2 B = true) (hm : P.follows .mixedOrders = true) (hn : ops.size = n) (hl : Array.replicate n false = l)
  (h : ∀ w, Aside0 (Below X.heap.size X w) → Aside0 (rtab .any ops = T) → Aside0 (waitsOk T.2 B = true) → S w → wpAnyLast P .any ops Q S [] n l a w) : (Code.region id ops true).wp P Q a X :=
 start_ _ hm hn hl (HS.out _ (Below.refl _ _).drew) fun hH => h _ ⟨(Below.refl _ _).drew⟩ ⟨hT⟩ ⟨hB⟩ hH
theorem rC {X : World} {f : FuncId} {fn : Func} {aps : Array Operand} {ts : Array TypeId} {args : Array Value} (i : Nat) (N : Option Tmp) (HT : Aside0 (rtab md ops = T)) (HS : Aside0 (∀ W, Below X.heap.size X W → S W)) (HY : Aside0 (Below X.heap.size X w)) (hf : P.funcs[f]? = some fn)
  (hcall : Calls P f args w fun e w' => e = .returned v ∧ Below w.heap.size w w') (h : ∀ w', Aside0 (Below X.heap.size X w') → S w' → wpAnyLast P md ops Q S ds fuel (l.setIfInBounds i true) a' w') (hname : (fn.name == "runtime.NumGoroutine") = false)
  (hi : ops[i]? = some oi := by exact rfl) (hN : oi.dst = N := by exact rfl) (hc : (readyT T.2 l.toList == [i] && l.toList.set i true == (l.setIfInBounds i true).toList) = true := by kernel_rfl) (hd : i ∉ ds := by decide) (hb : fn.body.isSome = true := by exact rfl) (hw : Region.wanted oi (yielded ops a.tmps) = true := by rfl)
  (hop : oi.op = .call { callee := .value (.func f), args := aps, argTypes := ts } := by exact rfl) (hargs : aps.map a.eval = args := by (try simp only [List.map_toArray, List.map_cons, List.map_nil]); first | done | rfl) (ha : a.put N v = a' := by simp only [Act.put, List.setIfInBounds_toArray, List.set_cons_zero, List.set_cons_succ, i64_w, i32_w]; rfl) :
  wpAnyLast P md ops Q S ds (fuel + 1) l a w := by
 refine one_ _ hi hN (one_of HT.out hc) hd fun K hK => ?_
 refine goes_ hf hname hb args hw hN hop hargs (hcall.mono ?_)
 rintro e w' ⟨rfl, hk⟩
 have h2 := HY.out.trans (hk.mono HY.out.size)
 refine ⟨_, rfl, hK.out _ _ (HS.out _ h2) fun hH => ?_⟩
 rw [ha]
 exact h _ ⟨h2⟩ hH
end
theorem rval.tab13 : rtab .any (opsOf Tryz.f61 13) = ((true, [([], []), ([], []), ([1], [1]), ([0, 2], [0, 2]), ([3], [3]), ([4, 3], [4]), ([5], [5]), ([5], [5]), ([7, 5], [5, 7]), ([6, 8, 5, 5], [5, 6, 8]), ([9, 5], [5, 9]), ([5, 10], [5, 10]), ([11, 9], [11]), ([12], [12]), ([12], [12]), ([14, 12], [12, 14]), ([13, 15, 12, 12], [12, 13, 15]), ([16, 12], [12, 16]), ([12, 17], [12, 17]), ([18, 16], [18]), ([19], [19]), ([20, 19], [19, 20]), ([21, 19, 19], [19, 21]), ([22], [22]), ([23, 22], [22, 23]), ([22], [22]), ([25, 22], [22, 25]), ([24, 26, 22], [22, 24, 26]), ([27, 22], [22, 27]), ([28, 22], [22, 28]), ([22], [22]), ([30, 22], [22, 30]), ([22], [22]), ([32, 22], [22, 32]), ([31, 33, 22], [22, 31, 33]), ([34, 22], [22, 34]), ([35, 22], [22, 35]), ([22], [22]), ([37, 22], [22, 37]), ([22], [22]), ([39, 22], [22, 39]), ([29, 36, 38, 40, 22, 22], [22, 29, 36, 38, 40]), ([41, 22], [22, 41]), ([22, 42, 19], [19, 22, 42]), ([19, 43], [19, 43])])) := by kernel_rfl
theorem rval.bits13 : waitsOk ((true, [([], []), ([], []), ([1], [1]), ([0, 2], [0, 2]), ([3], [3]), ([4, 3], [4]), ([5], [5]), ([5], [5]), ([7, 5], [5, 7]), ([6, 8, 5, 5], [5, 6, 8]), ([9, 5], [5, 9]), ([5, 10], [5, 10]), ([11, 9], [11]), ([12], [12]), ([12], [12]), ([14, 12], [12, 14]), ([13, 15, 12, 12], [12, 13, 15]), ([16, 12], [12, 16]), ([12, 17], [12, 17]), ([18, 16], [18]), ([19], [19]), ([20, 19], [19, 20]), ([21, 19, 19], [19, 21]), ([22], [22]), ([23, 22], [22, 23]), ([22], [22]), ([25, 22], [22, 25]), ([24, 26, 22], [22, 24, 26]), ([27, 22], [22, 27]), ([28, 22], [22, 28]), ([22], [22]), ([30, 22], [22, 30]), ([22], [22]), ([32, 22], [22, 32]), ([31, 33, 22], [22, 31, 33]), ([34, 22], [22, 34]), ([35, 22], [22, 35]), ([22], [22]), ([37, 22], [22, 37]), ([22], [22]), ([39, 22], [22, 39]), ([29, 36, 38, 40, 22, 22], [22, 29, 36, 38, 40]), ([41, 22], [22, 41]), ([22, 42, 19], [19, 22, 42]), ([19, 43], [19, 43])]) : Bool × List (List Nat × List Nat)).2 [0, 0, 2, 7, 15, 31, 63, 63, 191, 511, 1023, 2047, 4095, 8191, 8191, 24575, 65535, 131071, 262143, 524287, 1048575, 2097151, 4194303, 8388607, 16777215, 8388607, 41943039, 134217727, 268435455, 536870911, 8388607, 1082130431, 8388607, 4303355903, 16114515967, 33294385151, 67654123519, 8388607, 137447342079, 8388607, 549764202495, 2199023255551, 4398046511103, 8796093022207, 17592186044415] = true := by kernel_rfl
theorem rval.tab19 : rtab .any (opsOf Tryz.f61 19) = ((true, [([], []), ([], []), ([1], [1]), ([0, 2], [0, 2]), ([3], [3]), ([4, 3], [4]), ([5], [5]), ([5], [5]), ([7, 5], [5, 7]), ([6, 8, 5, 5], [5, 6, 8]), ([9, 5], [5, 9]), ([5, 10], [5, 10]), ([11, 9], [11]), ([12], [12]), ([13, 12], [12, 13]), ([14, 12], [12, 14]), ([12, 15], [12, 15]), ([16, 12], [16]), ([17], [17]), ([18, 17], [17, 18]), ([19, 17], [17, 19]), ([17, 20], [17, 20]), ([21, 17], [21]), ([22], [22]), ([23, 22], [22, 23]), ([24, 22], [22, 24]), ([22, 25], [22, 25]), ([26, 22], [26]), ([27], [27]), ([28, 27], [27, 28]), ([29, 27, 27], [27, 29]), ([30], [30]), ([31, 30], [30, 31]), ([30], [30]), ([33, 30], [30, 33]), ([32, 34, 30], [30, 32, 34]), ([35, 30], [30, 35]), ([36, 30], [30, 36]), ([30], [30]), ([38, 30], [30, 38]), ([30], [30]), ([40, 30], [30, 40]), ([39, 41, 30], [30, 39, 41]), ([42, 30], [30, 42]), ([43, 30], [30, 43]), ([30], [30]), ([45, 30], [30, 45]), ([30], [30]), ([47, 30], [30, 47]), ([37, 44, 46, 48, 30, 30], [30, 37, 44, 46, 48]), ([49, 30], [30, 49]), ([30, 50, 27], [27, 30, 50]), ([27, 51], [27, 51])])) := by kernel_rfl
theorem rval.bits19 : waitsOk ((true, [([], []), ([], []), ([1], [1]), ([0, 2], [0, 2]), ([3], [3]), ([4, 3], [4]), ([5], [5]), ([5], [5]), ([7, 5], [5, 7]), ([6, 8, 5, 5], [5, 6, 8]), ([9, 5], [5, 9]), ([5, 10], [5, 10]), ([11, 9], [11]), ([12], [12]), ([13, 12], [12, 13]), ([14, 12], [12, 14]), ([12, 15], [12, 15]), ([16, 12], [16]), ([17], [17]), ([18, 17], [17, 18]), ([19, 17], [17, 19]), ([17, 20], [17, 20]), ([21, 17], [21]), ([22], [22]), ([23, 22], [22, 23]), ([24, 22], [22, 24]), ([22, 25], [22, 25]), ([26, 22], [26]), ([27], [27]), ([28, 27], [27, 28]), ([29, 27, 27], [27, 29]), ([30], [30]), ([31, 30], [30, 31]), ([30], [30]), ([33, 30], [30, 33]), ([32, 34, 30], [30, 32, 34]), ([35, 30], [30, 35]), ([36, 30], [30, 36]), ([30], [30]), ([38, 30], [30, 38]), ([30], [30]), ([40, 30], [30, 40]), ([39, 41, 30], [30, 39, 41]), ([42, 30], [30, 42]), ([43, 30], [30, 43]), ([30], [30]), ([45, 30], [30, 45]), ([30], [30]), ([47, 30], [30, 47]), ([37, 44, 46, 48, 30, 30], [30, 37, 44, 46, 48]), ([49, 30], [30, 49]), ([30, 50, 27], [27, 30, 50]), ([27, 51], [27, 51])]) : Bool × List (List Nat × List Nat)).2 [0, 0, 2, 7, 15, 31, 63, 63, 191, 511, 1023, 2047, 4095, 8191, 16383, 32767, 65535, 131071, 262143, 524287, 1048575, 2097151, 4194303, 8388607, 16777215, 33554431, 67108863, 134217727, 268435455, 536870911, 1073741823, 2147483647, 4294967295, 2147483647, 10737418239, 34359738367, 68719476735, 137438953471, 2147483647, 277025390591, 2147483647, 1101659111423, 4125316087807, 8523362598911, 17319455621119, 2147483647, 35186519572479, 2147483647, 140739635838975, 562949953421311, 1125899906842623, 2251799813685247, 4503599627370495] = true := by kernel_rfl
set_option maxRecDepth 100000 in
set_option maxHeartbeats 16000000 in
theorem rvalid_any (a : ByteArray) (b : Bool) (c : Int) (A3 : Option Addr) (c3 : Nat) (l3 : List S81) (A4 : Option Addr) (c4 : Nat) (l4 : List S83) (A5 : Option Addr) (c5 : Nat) (l5 : List S84) (w : World) (h3 : Kd.C k81 w A3 l3.length l3) (g3 : l3.length ≤ c3) (h4 : Kd.C k83 w A4 l4.length l4) (g4 : l4.length ≤ c4) (h5 : Kd.C k84 w A5 l5.length l5) (g5 : l5.length ≤ c5) (hl3 : l3.length ≤ 1000000000) (hl4 : l4.length ≤ 1000000000) (hl5 : l5.length ≤ 1000000000) (ha : a.size ≤ 140737488355328) (hz : ∀ x ∈ l3, x.f0.size ≤ 140737488355328) :
  Calls Tryz.prog 61 #[.agg #[.string a, .bool b, .int .i64 c, .slice A3 l3.length c3, .slice A4 l4.length c4, .slice A5 l5.length c5]] w fun e w' => e = .returned (.bool (rvalidV a c l3 l4 l5)) ∧ Below w.heap.size w w' := by
 have hV0 : rvalidV a c l3 l4 l5 = ((fnameB a.data.toList && (!wideR c && (decide (l3.length ≤ 400) && (decide (l4.length ≤ 50) && decide (l5.length ≤ 500))))) && ((List.range l3.length).all (rokG l3) && ((List.range l4.length).all (rokL l3 l4) && (List.range l5.length).all (rokK l3 l5)))) := rfl
 generalize rvalidV a c l3 l4 l5 = V at hV0 ⊢
 have HV := Aside0.mk hV0
 clear hV0
 have hbf : (w.alloc (.cells #[.string a, .bool b, .int .i64 c, .slice A3 l3.length c3, .slice A4 l4.length c4, .slice A5 l5.length c5] 44)).heap[w.heap.size]? = some (.cells #[.string a, .bool b, .int .i64 c, .slice A3 l3.length c3, .slice A4 l4.length c4, .slice A5 l5.length c5] 44 (0, 0)) := blk_new _ _
 have hb0 : Below w.heap.size w (w.alloc (.cells #[.string a, .bool b, .int .i64 c, .slice A3 l3.length c3, .slice A4 l4.length c4, .slice A5 l5.length c5] 44)) := (Below.refl _ w).alloc (Nat.le_refl _) _
 have HF := Aside0.mk (fun (W : World) (h : Below (w.alloc (.cells #[.string a, .bool b, .int .i64 c, .slice A3 l3.length c3, .slice A4 l4.length c4, .slice A5 l5.length c5] 44)).heap.size (w.alloc (.cells #[.string a, .bool b, .int .i64 c, .slice A3 l3.length c3, .slice A4 l4.length c4, .slice A5 l5.length c5] 44)) W) => blk_below hbf h)
 have HW := Aside0.mk (fun (W : World) (h : Below (w.alloc (.cells #[.string a, .bool b, .int .i64 c, .slice A3 l3.length c3, .slice A4 l4.length c4, .slice A5 l5.length c5] 44)).heap.size (w.alloc (.cells #[.string a, .bool b, .int .i64 c, .slice A3 l3.length c3, .slice A4 l4.length c4, .slice A5 l5.length c5] 44)) W) => hb0.trans (h.mono hb0.size))
 have H3 := Aside0.mk h3; have H4 := Aside0.mk h4; have H5 := Aside0.mk h5; have G3 := Aside0.mk g3; have G4 := Aside0.mk g4; have G5 := Aside0.mk g5
 have HZ := Aside0.mk hz
 clear h3 h4 h5 g3 g4 g5 hbf hb0 hz
 have hfn := Aside0.mk (fun W => fname_q a ha W)
 cases hf : fnameB a.data.toList with
 | false =>
  have hv : V = false := by rw [HV.out, hf]; rfl
  subst hv
  rw [hf] at hfn
  go_enter Tryz.func61, Tryz.ntmps61
  go_wp2_with (go_at_call 104; refine (hfn.out _).mono ?_; rintro e w1 ⟨rfl, hd1⟩)
  go_ret
  exact ⟨rfl, HW.out _ (drawn_below hd1)⟩
 | true =>
 rw [hf] at hfn
 by_cases hbad : c < 0 ∨ 3000 < c ∨ 400 < l3.length ∨ 50 < l4.length ∨ 500 < l5.length
 ·have hv : V = false := by
   rw [HV.out]
   unfold wideR
   rcases hbad with h | h | h | h | h
   ·simp [h]
   ·simp [h]
   ·simp [show ¬ l3.length ≤ 400 by omega]
   ·simp [show ¬ l4.length ≤ 50 by omega]
   ·simp [show ¬ l5.length ≤ 500 by omega]
  subst hv
  by_cases b1 : c < 0
  case' neg =>
   by_cases b2 : 3000 < c
   case' neg =>
    by_cases b3 : 400 < l3.length
    case' neg =>
     by_cases b4 : 50 < l4.length
     case' neg => have b5 : 500 < l5.length := by omega
  all_goals
   clear hbad HV HZ
   go_enter Tryz.func61, Tryz.ntmps61
   go_wp2_with (go_at_call 104; refine (hfn.out _).mono ?_; rintro e w1 ⟨rfl, hd1⟩; have hc2 := (blk_cell (HF.out _ (drawn_below hd1)) 2).trans rfl; have hc3 := (blk_cell (HF.out _ (drawn_below hd1)) 3).trans rfl; have hc4 := (blk_cell (HF.out _ (drawn_below hd1)) 4).trans rfl; have hc5 := (blk_cell (HF.out _ (drawn_below hd1)) 5).trans rfl)
   go_ret
   exact ⟨rfl, HW.out _ (drawn_below hd1)⟩
 ·have hc0 : 0 ≤ c ∧ c ≤ 3000 := by omega
  have hn : l3.length ≤ 400 ∧ l4.length ≤ 50 ∧ l5.length ≤ 500 := by omega
  have HV2 : Aside0 (V = ((List.range l3.length).all (rokG l3) && ((List.range l4.length).all (rokL l3 l4) && (List.range l5.length).all (rokK l3 l5)))) := ⟨by
   rw [HV.out, hf]
   unfold wideR
   rw [decide_eq_false (by omega : ¬ c < 0), decide_eq_false (by omega : ¬ 3000 < c), decide_eq_true hn.1, decide_eq_true hn.2.1, decide_eq_true hn.2.2]
   rfl⟩
  obtain ⟨b1, b2⟩ := hc0
  obtain ⟨b3, b4, b5⟩ := hn
  clear HV hbad
  go_enter Tryz.func61, Tryz.ntmps61
  go_wp2_with (go_at_call 104; refine (hfn.out _).mono ?_; rintro e w1 ⟨rfl, hd1⟩; have hc2 := (blk_cell (HF.out _ (drawn_below hd1)) 2).trans rfl; have hc3 := (blk_cell (HF.out _ (drawn_below hd1)) 3).trans rfl; have hc4 := (blk_cell (HF.out _ (drawn_below hd1)) 4).trans rfl; have hc5 := (blk_cell (HF.out _ (drawn_below hd1)) 5).trans rfl)
  clear hfn
  go_loopw [3] (fun y W => ∃ i : Nat, y = .int .i64 (i : Int) ∧ i ≤ l3.length ∧ Aside0 (Below (w.alloc (.cells #[.string a, .bool b, .int .i64 c, .slice A3 l3.length c3, .slice A4 l4.length c4, .slice A5 l5.length c5] 44)).heap.size (w.alloc (.cells #[.string a, .bool b, .int .i64 c, .slice A3 l3.length c3, .slice A4 l4.length c4, .slice A5 l5.length c5] 44)) W) ∧ Aside0 (∀ j, j < i → rokG l3 j = true)) (fun y _ => l3.length - (intOf y).toNat)
  case atStart => exact ⟨0, rfl, Nat.zero_le _, ⟨drawn_below hd1⟩, ⟨fun _ h => absurd h (Nat.not_lt_zero _)⟩⟩
  case round =>
   clear hc2 hc3 hc4 hc5 hd1
   obtain ⟨i, rfl, hi, HB3, HK3⟩ := hrel
   have hcf := (blk_cell (HF.out _ HB3.out) 3).trans rfl
   by_cases hlt : i < l3.length
   ·have hC := Kd.C_below H3.out (HW.out _ HB3.out)
    have hbX : Below wr.heap.size wr (wr.alloc (.cells #[] 0)) := (Below.refl _ wr).alloc (Nat.le_refl _) _
    clear hbX
    obtain ⟨ad, e, x0, x1⟩ := at_T81 hC (i : Int) (by omega) (by omega)
    have hA := e
    rw [Int.toNat_natCast] at x0 x1
    have hlA : w.heap.size < wr.heap.size := blk_lt (HF.out _ HB3.out)
    rcases Nat.eq_zero_or_pos i with hi0 | hi0
    ·subst hi0
     simp only [Nat.zero_mul, Addr.add_zero'] at x0 x1
     have hok : rokG l3 0 = (nameB (rd_T81 l3 ((0 : Nat) : Int)).f0.data.toList && (!wideR (rd_T81 l3 ((0 : Nat) : Int)).f1 && true)) := by
      unfold rokG
      rw [decide_eq_true rfl, Bool.true_or]
     have hzx : (rd_T81 l3 ((0 : Nat) : Int)) ∈ l3 := by
      have e9 : rd_T81 l3 ((0 : Nat) : Int) = l3[0] := by simp only [rd_T81, Int.toNat_natCast, List.getD_eq_getElem?_getD, List.getElem?_eq_getElem hlt, Option.getD_some]
      rw [e9]; exact List.getElem_mem hlt
     generalize rd_T81 l3 ((0 : Nat) : Int) = x at x0 x1 hok hzx
     have hnq := fun W => (name_q x.f0 (HZ.out x hzx) W).mono fun e w' h => And.intro h.1 h.2.out
     have q1 : (0 : Int) < (l3.length : Int) := by omega
     have q6 : decide ((0 : Int) < (l3.length : Int)) = true := decide_eq_true q1
     rw [hA] at hcf
     clear hzx
     go_wp2_with fail
     have hbX : Below wr.heap.size wr (wr.alloc (.cells #[.string x.f0, .int .i64 x.f1] 81)) := (Below.refl _ wr).alloc (Nat.le_refl _) _
     have hBX := Aside0.mk (HB3.out.trans (hbX.mono HB3.out.size))
     have hbk := blk_new wr (.cells #[.string x.f0, .int .i64 x.f1] 81)
     have hX0 : (wr.alloc (.cells #[.string x.f0, .int .i64 x.f1] 81)).cell? ⟨wr.heap.size, 0, none⟩ = some (.string x.f0) := (blk_cell hbk 0).trans rfl
     have hX1 : (wr.alloc (.cells #[.string x.f0, .int .i64 x.f1] 81)).cell? ⟨wr.heap.size, 1, none⟩ = some (.int .i64 x.f1) := (blk_cell hbk 1).trans rfl
     clear hbk hbX x0 x1  hC hcf
     generalize wr.heap.size = g4 at hX0 hlA hX1 ⊢
     generalize (wr.alloc (.cells #[.string x.f0, .int .i64 x.f1] 81)) = X at hBX hX0 hX1  ⊢
     cases hnm : nameB x.f0.data.toList with
     | false =>
      simp only [hnm] at hnq
      have hv : V = false := by
       rw [HV2.out, rangeNot (i := 0) hlt (by rw [hok, hnm]; simp)]
       rfl
      subst hv
      go_quiet ((go_at_call 105; exact Calls.quiet_of (hnq _)))
      go_wp2
      go_ret
      exact ⟨rfl, HW.out _ (pw_below_drewN hBX.out nq)⟩
     | true =>
      simp only [hnm] at hnq
      by_cases d1 : x.f1 < 0
      ·have dd1 : decide (x.f1 < 0) = true := decide_eq_true d1
       have hv : V = false := by
        rw [HV2.out, rangeNot (i := 0) hlt (by rw [hok, hnm, (by unfold wideR; rw [dd1]; rfl : wideR x.f1 = true)]; simp)]
        rfl
       subst hv
       go_quiet ((go_at_call 105; exact Calls.quiet_of (hnq _)))
       go_wp2
       go_ret
       exact ⟨rfl, HW.out _ (pw_below_drewN hBX.out nq)⟩
      have dd1 : decide (x.f1 < 0) = false := decide_eq_false d1
      by_cases d2 : 3000 < x.f1
      ·have dd2 : decide (3000 < x.f1) = true := decide_eq_true d2
       have hv : V = false := by
        rw [HV2.out, rangeNot (i := 0) hlt (by rw [hok, hnm, (by unfold wideR; rw [dd2, Bool.or_true] : wideR x.f1 = true)]; simp)]
        rfl
       subst hv
       go_quiet ((go_at_call 105; exact Calls.quiet_of (hnq _)))
       go_wp2
       go_ret
       exact ⟨rfl, HW.out _ (pw_below_drewN hBX.out nq)⟩
      have dd2 : decide (3000 < x.f1) = false := decide_eq_false d2
      have hwd : wideR x.f1 = false := by unfold wideR; rw [dd1, dd2]; rfl
      have hok2 : rokG l3 0 = true := by rw [hok, hnm, hwd]; rfl
      go_quiet ((go_at_call 105; exact Calls.quiet_of (hnq _)))
      have hB9 := pw_below_drewN hBX.out nq
      go_wp2
      go_roundw
      case rel => exact ⟨0 + 1, by first | rfl | (simp; done) | go_num, by omega, ⟨hB9⟩, ⟨fun j hj => (Nat.lt_succ_iff_lt_or_eq.1 hj).elim (HK3.out j) (fun e => by rw [e]; exact hok2)⟩⟩
      case measure => simp [intOf]; omega
    ·obtain ⟨m, rfl⟩ : ∃ m, i = m + 1 := ⟨i - 1, by omega⟩
     obtain ⟨ad2, e2, y0, y1⟩ := at_T81 hC (m : Int) (by omega) (by omega)
     have e3 : ad = ad2 := by rw [hA] at e2; injection e2 with e2
     subst e3
     rw [Int.toNat_natCast] at y0 y1
     have hpr : (((m + 1 : Nat) : Int) - 1) = (m : Int) := by omega
     have hok : rokG l3 (m + 1) = (nameB (rd_T81 l3 (((m + 1) : Nat) : Int)).f0.data.toList && (!wideR (rd_T81 l3 (((m + 1) : Nat) : Int)).f1 && Op.bytesLess (rd_T81 l3 (m : Int)).f0.toList (rd_T81 l3 (((m + 1) : Nat) : Int)).f0.toList)) := by
      unfold rokG
      rw [decide_eq_false (by omega : ¬ m + 1 = 0), Bool.false_or, hpr]
     have hzx : (rd_T81 l3 (((m + 1) : Nat) : Int)) ∈ l3 := by
      have e9 : rd_T81 l3 (((m + 1) : Nat) : Int) = l3[(m + 1)] := by simp only [rd_T81, Int.toNat_natCast, List.getD_eq_getElem?_getD, List.getElem?_eq_getElem hlt, Option.getD_some]
      rw [e9]; exact List.getElem_mem hlt
     generalize rd_T81 l3 (((m + 1) : Nat) : Int) = x at x0 x1 hok hzx
     generalize rd_T81 l3 (m : Int) = p at y0 y1 hok
     have hnq := fun W => (name_q x.f0 (HZ.out x hzx) W).mono fun e w' h => And.intro h.1 h.2.out
     have e1 : IntKind.i64.wrap (((m : Int) + 1) - 1) = (m : Int) := by rw [Int.add_sub_cancel]; exact IntWalk.i64_in _ (by omega)
     have q1 : (m : Int) < (l3.length : Int) := by omega
     have q2 : (m : Int) + 1 < (l3.length : Int) := by omega
     have q3 : ((m : Int) + 1).toNat = m + 1 := by omega
     have q4 : (0 : Int) ≤ (m : Int) + 1 := by omega
     have e0 : IntKind.i64.wrap (m : Int) = (m : Int) := IntWalk.i64_in _ (by omega)
     have q5 : (0 : Int) ≤ (m : Int) := by omega
     have q7 : decide (0 < (m : Int) + 1) = true := decide_eq_true (by omega)
     have q8 : decide ((m : Int) + 1 < (l3.length : Int)) = true := decide_eq_true q2
     rw [hA] at hcf
     clear hzx
     go_wp2_with fail
     have hbX : Below wr.heap.size wr (wr.alloc (.cells #[.string x.f0, .int .i64 x.f1] 81)) := (Below.refl _ wr).alloc (Nat.le_refl _) _
     have hBX := Aside0.mk (HB3.out.trans (hbX.mono HB3.out.size))
     have hbk := blk_new wr (.cells #[.string x.f0, .int .i64 x.f1] 81)
     have hX0 : (wr.alloc (.cells #[.string x.f0, .int .i64 x.f1] 81)).cell? ⟨wr.heap.size, 0, none⟩ = some (.string x.f0) := (blk_cell hbk 0).trans rfl
     have hX1 : (wr.alloc (.cells #[.string x.f0, .int .i64 x.f1] 81)).cell? ⟨wr.heap.size, 1, none⟩ = some (.int .i64 x.f1) := (blk_cell hbk 1).trans rfl
     have hF3 : (wr.alloc (.cells #[.string x.f0, .int .i64 x.f1] 81)).cell? ⟨w.heap.size, 3, none⟩ = some (.slice (some ad) l3.length c3) := (blk_cell (HF.out _ hBX.out) 3).trans (by rw [hA]; rfl)
     have hP0 := (hbX.cell (World.block_lt_of_cell? wr _ y0)).trans y0
     clear hbk hbX x0 x1 y0 y1 hC hcf
     generalize wr.heap.size = g4 at hX0 hlA hX1 ⊢
     generalize (wr.alloc (.cells #[.string x.f0, .int .i64 x.f1] 81)) = X at hBX hX0 hX1 hF3 hP0  ⊢
     cases hnm : nameB x.f0.data.toList with
     | false =>
      simp only [hnm] at hnq
      have hv : V = false := by
       rw [HV2.out, rangeNot (i := (m + 1)) hlt (by rw [hok, hnm]; simp)]
       rfl
      subst hv
      go_quiet ((go_at_call 105; exact Calls.quiet_of (hnq _)))
      go_wp2
      go_ret
      exact ⟨rfl, HW.out _ (pw_below_drewN hBX.out nq)⟩
     | true =>
      simp only [hnm] at hnq
      by_cases d1 : x.f1 < 0
      ·have dd1 : decide (x.f1 < 0) = true := decide_eq_true d1
       have hv : V = false := by
        rw [HV2.out, rangeNot (i := (m + 1)) hlt (by rw [hok, hnm, (by unfold wideR; rw [dd1]; rfl : wideR x.f1 = true)]; simp)]
        rfl
       subst hv
       go_quiet ((go_at_call 105; exact Calls.quiet_of (hnq _)))
       go_wp2
       go_ret
       exact ⟨rfl, HW.out _ (pw_below_drewN hBX.out nq)⟩
      have dd1 : decide (x.f1 < 0) = false := decide_eq_false d1
      by_cases d2 : 3000 < x.f1
      ·have dd2 : decide (3000 < x.f1) = true := decide_eq_true d2
       have hv : V = false := by
        rw [HV2.out, rangeNot (i := (m + 1)) hlt (by rw [hok, hnm, (by unfold wideR; rw [dd2, Bool.or_true] : wideR x.f1 = true)]; simp)]
        rfl
       subst hv
       go_quiet ((go_at_call 105; exact Calls.quiet_of (hnq _)))
       go_wp2
       go_ret
       exact ⟨rfl, HW.out _ (pw_below_drewN hBX.out nq)⟩
      have dd2 : decide (3000 < x.f1) = false := decide_eq_false d2
      have hwd : wideR x.f1 = false := by unfold wideR; rw [dd1, dd2]; rfl
      cases hls : Op.bytesLess p.f0.toList x.f0.toList with
      | false =>
       have hv : V = false := by
        rw [HV2.out, rangeNot (i := (m + 1)) hlt (by rw [hok, hnm, hwd, hls]; simp)]
        rfl
       subst hv
       go_quiet ((go_at_call 105; exact Calls.quiet_of (hnq _)))
       go_wp2
       go_ret
       exact ⟨rfl, HW.out _ (pw_below_drewN hBX.out nq)⟩
      | true =>
       have hok2 : rokG l3 (m + 1) = true := by rw [hok, hnm, hwd, hls]; rfl
       go_quiet ((go_at_call 105; exact Calls.quiet_of (hnq _)))
       have hB9 := pw_below_drewN hBX.out nq
       clear e0 e1
       go_wp2
       go_roundw
       case rel => exact ⟨m + 1 + 1, by first | rfl | (simp; done) | go_num, by omega, ⟨hB9⟩, ⟨fun j hj => (Nat.lt_succ_iff_lt_or_eq.1 hj).elim (HK3.out j) (fun e => by rw [e]; exact hok2)⟩⟩
       case measure => simp [intOf]; omega
   ·obtain rfl : i = l3.length := by omega
    have q2 : decide ((l3.length : Int) < (l3.length : Int)) = false := decide_eq_false (by omega)
    have q1 : ¬ (l3.length : Int) < (l3.length : Int) := by omega
    have HV2 : Aside0 (V = ((List.range l4.length).all (rokL l3 l4) && (List.range l5.length).all (rokK l3 l5))) := ⟨by rw [HV2.out, rangeAll HK3.out, Bool.true_and]⟩
    go_wp2
    go_loopw [5] (fun y W => ∃ i : Nat, y = .int .i64 (i : Int) ∧ i ≤ l4.length ∧ Aside0 (Below (w.alloc (.cells #[.string a, .bool b, .int .i64 c, .slice A3 l3.length c3, .slice A4 l4.length c4, .slice A5 l5.length c5] 44)).heap.size (w.alloc (.cells #[.string a, .bool b, .int .i64 c, .slice A3 l3.length c3, .slice A4 l4.length c4, .slice A5 l5.length c5] 44)) W) ∧ Aside0 (∀ j, j < i → rokL l3 l4 j = true)) (fun y _ => l4.length - (intOf y).toNat)
    case atStart => exact ⟨0, rfl, Nat.zero_le _, HB3, ⟨fun _ h => absurd h (Nat.not_lt_zero _)⟩⟩
    case round =>
     skip
     obtain ⟨i, rfl, hi, HB4, HK4⟩ := hrel
     have hcf := (blk_cell (HF.out _ HB4.out) 4).trans rfl
     by_cases hlt : i < l4.length
     ·have hC := Kd.C_below H4.out (HW.out _ HB4.out)
      have hbX : Below wr.heap.size wr (wr.alloc (.cells #[] 0)) := (Below.refl _ wr).alloc (Nat.le_refl _) _
      clear hbX
      obtain ⟨ad, e, x0, x1, x2⟩ := at_T83 hC (i : Int) (by omega) (by omega)
      have hA := e
      rw [Int.toNat_natCast] at x0 x1 x2
      have hlA : w.heap.size < wr.heap.size := blk_lt (HF.out _ HB4.out)
      rcases Nat.eq_zero_or_pos i with hi0 | hi0
      ·subst hi0
       simp only [Nat.zero_mul, Addr.add_zero'] at x0 x1 x2
       have hok : rokL l3 l4 0 = (rhasV l3 (rd_T83 l4 ((0 : Nat) : Int)).f0 && (rhasV l3 (rd_T83 l4 ((0 : Nat) : Int)).f1 && (rhasV l3 (rd_T83 l4 ((0 : Nat) : Int)).f2 && true))) := by
        unfold rokL
        rw [decide_eq_true rfl, Bool.true_or]
       have hzx : (rd_T83 l4 ((0 : Nat) : Int)) ∈ l4 := by
        have e9 : rd_T83 l4 ((0 : Nat) : Int) = l4[0] := by simp only [rd_T83, Int.toNat_natCast, List.getD_eq_getElem?_getD, List.getElem?_eq_getElem hlt, Option.getD_some]
        rw [e9]; exact List.getElem_mem hlt
       generalize rd_T83 l4 ((0 : Nat) : Int) = x at x0 x1 x2 hok hzx
       have q1 : (0 : Int) < (l4.length : Int) := by omega
       have q6 : decide ((0 : Int) < (l4.length : Int)) = true := decide_eq_true q1
       rw [hA] at hcf
       clear hzx
       go_wp2_with fail
       have hbX : Below wr.heap.size wr (wr.alloc (.cells #[.string x.f0, .string x.f1, .string x.f2] 83)) := (Below.refl _ wr).alloc (Nat.le_refl _) _
       have hBX := Aside0.mk (HB4.out.trans (hbX.mono HB4.out.size))
       have hbk := blk_new wr (.cells #[.string x.f0, .string x.f1, .string x.f2] 83)
       have hX0 : (wr.alloc (.cells #[.string x.f0, .string x.f1, .string x.f2] 83)).cell? ⟨wr.heap.size, 0, none⟩ = some (.string x.f0) := (blk_cell hbk 0).trans rfl
       have hX1 : (wr.alloc (.cells #[.string x.f0, .string x.f1, .string x.f2] 83)).cell? ⟨wr.heap.size, 1, none⟩ = some (.string x.f1) := (blk_cell hbk 1).trans rfl
       have hX2 : (wr.alloc (.cells #[.string x.f0, .string x.f1, .string x.f2] 83)).cell? ⟨wr.heap.size, 2, none⟩ = some (.string x.f2) := (blk_cell hbk 2).trans rfl
       have hF0 : (wr.alloc (.cells #[.string x.f0, .string x.f1, .string x.f2] 83)).cell? ⟨w.heap.size, 0, none⟩ = some (.string a) := (blk_cell (HF.out _ hBX.out) 0).trans rfl
       have hF1 : (wr.alloc (.cells #[.string x.f0, .string x.f1, .string x.f2] 83)).cell? ⟨w.heap.size, 1, none⟩ = some (.bool b) := (blk_cell (HF.out _ hBX.out) 1).trans rfl
       have hF2 : (wr.alloc (.cells #[.string x.f0, .string x.f1, .string x.f2] 83)).cell? ⟨w.heap.size, 2, none⟩ = some (.int .i64 c) := (blk_cell (HF.out _ hBX.out) 2).trans rfl
       have hF3 : (wr.alloc (.cells #[.string x.f0, .string x.f1, .string x.f2] 83)).cell? ⟨w.heap.size, 3, none⟩ = some (.slice A3 l3.length c3) := (blk_cell (HF.out _ hBX.out) 3).trans rfl
       have hF4 : (wr.alloc (.cells #[.string x.f0, .string x.f1, .string x.f2] 83)).cell? ⟨w.heap.size, 4, none⟩ = some (.slice (some ad) l4.length c4) := (blk_cell (HF.out _ hBX.out) 4).trans (by rw [hA]; rfl)
       have hF5 : (wr.alloc (.cells #[.string x.f0, .string x.f1, .string x.f2] 83)).cell? ⟨w.heap.size, 5, none⟩ = some (.slice A5 l5.length c5) := (blk_cell (HF.out _ hBX.out) 5).trans rfl
       have hq := fun (W : World) (n : ByteArray) (h : Below (wr.alloc (.cells #[.string x.f0, .string x.f1, .string x.f2] 83)).heap.size (wr.alloc (.cells #[.string x.f0, .string x.f1, .string x.f2] 83)) W) => has_q a b c A3 c3 l3 A4 c4 l4 A5 c5 l5 n W (Kd.C_below H3.out ((HW.out _ hBX.out).trans (h.mono (HW.out _ hBX.out).size))) G3.out (Kd.C_below H4.out ((HW.out _ hBX.out).trans (h.mono (HW.out _ hBX.out).size))) G4.out (Kd.C_below H5.out ((HW.out _ hBX.out).trans (h.mono (HW.out _ hBX.out).size))) G5.out hl3
       rw [hA] at hq
       clear hbk hbX x0 x1 x2  hC hcf
       generalize wr.heap.size = g4 at hX0 hlA hX1 hX2 ⊢
       generalize (wr.alloc (.cells #[.string x.f0, .string x.f1, .string x.f2] 83)) = X at hBX hX0 hX1 hX2 hF0 hF1 hF2 hF3 hF4 hF5 hq ⊢
       have HS := Aside0.mk (fun (W : World) (h : Below X.heap.size X W) => (show W.cell? ⟨g4, 0, none⟩ = some (.string x.f0) ∧ W.cell? ⟨g4, 1, none⟩ = some (.string x.f1) ∧ W.cell? ⟨g4, 2, none⟩ = some (.string x.f2) ∧ W.cell? ⟨w.heap.size, 0, none⟩ = some (.string a) ∧ W.cell? ⟨w.heap.size, 1, none⟩ = some (.bool b) ∧ W.cell? ⟨w.heap.size, 2, none⟩ = some (.int .i64 c) ∧ W.cell? ⟨w.heap.size, 3, none⟩ = some (.slice A3 l3.length c3) ∧ W.cell? ⟨w.heap.size, 4, none⟩ = some (.slice (some ad) l4.length c4) ∧ W.cell? ⟨w.heap.size, 5, none⟩ = some (.slice A5 l5.length c5) from ⟨(h.cell (World.block_lt_of_cell? X _ hX0)).trans hX0, (h.cell (World.block_lt_of_cell? X _ hX1)).trans hX1, (h.cell (World.block_lt_of_cell? X _ hX2)).trans hX2, (h.cell (World.block_lt_of_cell? X _ hF0)).trans hF0, (h.cell (World.block_lt_of_cell? X _ hF1)).trans hF1, (h.cell (World.block_lt_of_cell? X _ hF2)).trans hF2, (h.cell (World.block_lt_of_cell? X _ hF3)).trans hF3, (h.cell (World.block_lt_of_cell? X _ hF4)).trans hF4, (h.cell (World.block_lt_of_cell? X _ hF5)).trans hF5⟩))
       cases r0 : rhasV l3 x.f0 with
       | false =>
        have h0 := fun (W : World) (h : Below X.heap.size X W) => hq W x.f0 h
        simp only [r0] at h0
        as_aux_lemma =>
        have hv : V = false := by
         rw [HV2.out, rangeNot (i := 0) hlt (by rw [hok, r0]; simp)]
         simp
        subst hv
        refine rS (n := 45) HS rval.tab13 rval.bits13 (by kernel_rfl) rfl rfl (fun w0 H0 T U h => ?_)
        refine rP 1 (some 96) T ?_; refine rT 0 (some 95) T U h ?_; refine rT 2 (some 97) T U h ?_
        clear h; refine rC 3 (some 98) T HS H0 Tryz.func63 (h0 _ H0.out) (fun w1 H1 h => ?_) (by kernel_rfl)
        refine rP 4 (some 99) T ?_; refine rP 5 (some 100) T ?_; refine rU 6 (some 101) T ?_; refine rU 7 (some 102) T ?_; refine rU 8 (some 103) T ?_; refine rU 9 (some 104) T ?_; refine rU 10 (some 105) T ?_; refine rP 11 (some 106) T ?_; refine rP 12 (some 107) T ?_; refine rU 13 (some 108) T ?_; refine rU 14 (some 109) T ?_; refine rU 15 (some 110) T ?_; refine rU 16 (some 111) T ?_; refine rU 17 (some 112) T ?_; refine rP 18 (some 113) T ?_; refine rP 19 (some 114) T ?_; refine rU 20 (some 115) T ?_; refine rU 21 (some 116) T ?_; refine rU 22 (some 117) T ?_; refine rU 23 (some 118) T ?_; refine rU 24 (some 119) T ?_; refine rU 25 (some 120) T ?_; refine rU 26 (some 121) T ?_; refine rU 27 (some 122) T ?_; refine rU 28 (some 123) T ?_; refine rU 29 (some 124) T ?_; refine rU 30 (some 125) T ?_; refine rU 31 (some 126) T ?_; refine rU 32 (some 127) T ?_; refine rU 33 (some 128) T ?_; refine rU 34 (some 129) T ?_; refine rU 35 (some 130) T ?_; refine rU 36 (some 131) T ?_; refine rU 37 (some 132) T ?_; refine rU 38 (some 133) T ?_; refine rU 39 (some 134) T ?_; refine rU 40 (some 135) T ?_; refine rU 41 (some 136) T ?_; refine rU 42 (some 137) T ?_; refine rU 43 (some 138) T ?_; refine rP 44 (some 139) T ?_
        refine done_ (done_of T.out (by kernel_rfl)) ?_; have hB9 := hBX.out.trans (H1.out.mono hBX.out.size); clear h; try go_wp2
        go_ret
        exact ⟨rfl, HW.out _ hB9⟩
       | true =>
       have h0 := fun (W : World) (h : Below X.heap.size X W) => hq W x.f0 h
       simp only [r0] at h0
       cases r1 : rhasV l3 x.f1 with
       | false =>
        have h1 := fun (W : World) (h : Below X.heap.size X W) => hq W x.f1 h
        simp only [r1] at h1
        as_aux_lemma =>
        have hv : V = false := by
         rw [HV2.out, rangeNot (i := 0) hlt (by rw [hok, r0, r1]; simp)]
         simp
        subst hv
        refine rS (n := 45) HS rval.tab13 rval.bits13 (by kernel_rfl) rfl rfl (fun w0 H0 T U h => ?_)
        refine rP 1 (some 96) T ?_; refine rT 0 (some 95) T U h ?_; refine rT 2 (some 97) T U h ?_
        clear h; refine rC 3 (some 98) T HS H0 Tryz.func63 (h0 _ H0.out) (fun w1 H1 h => ?_) (by kernel_rfl)
        refine rP 4 (some 99) T ?_; refine rP 5 (some 100) T ?_; refine rP 7 (some 102) T ?_; refine rT 6 (some 101) T U h ?_; refine rT 8 (some 103) T U h ?_
        clear h; refine rC 9 (some 104) T HS H1 Tryz.func63 (h1 _ H1.out) (fun w2 H2 h => ?_) (by kernel_rfl)
        refine rP 10 (some 105) T ?_; refine rP 11 (some 106) T ?_; refine rP 12 (some 107) T ?_; refine rU 13 (some 108) T ?_; refine rU 14 (some 109) T ?_; refine rU 15 (some 110) T ?_; refine rU 16 (some 111) T ?_; refine rU 17 (some 112) T ?_; refine rP 18 (some 113) T ?_; refine rP 19 (some 114) T ?_; refine rU 20 (some 115) T ?_; refine rU 21 (some 116) T ?_; refine rU 22 (some 117) T ?_; refine rU 23 (some 118) T ?_; refine rU 24 (some 119) T ?_; refine rU 25 (some 120) T ?_; refine rU 26 (some 121) T ?_; refine rU 27 (some 122) T ?_; refine rU 28 (some 123) T ?_; refine rU 29 (some 124) T ?_; refine rU 30 (some 125) T ?_; refine rU 31 (some 126) T ?_; refine rU 32 (some 127) T ?_; refine rU 33 (some 128) T ?_; refine rU 34 (some 129) T ?_; refine rU 35 (some 130) T ?_; refine rU 36 (some 131) T ?_; refine rU 37 (some 132) T ?_; refine rU 38 (some 133) T ?_; refine rU 39 (some 134) T ?_; refine rU 40 (some 135) T ?_; refine rU 41 (some 136) T ?_; refine rU 42 (some 137) T ?_; refine rU 43 (some 138) T ?_; refine rP 44 (some 139) T ?_
        refine done_ (done_of T.out (by kernel_rfl)) ?_; have hB9 := hBX.out.trans (H2.out.mono hBX.out.size); clear h; try go_wp2
        go_ret
        exact ⟨rfl, HW.out _ hB9⟩
       | true =>
       have h1 := fun (W : World) (h : Below X.heap.size X W) => hq W x.f1 h
       simp only [r1] at h1
       cases r2 : rhasV l3 x.f2 with
       | false =>
        have h2 := fun (W : World) (h : Below X.heap.size X W) => hq W x.f2 h
        simp only [r2] at h2
        as_aux_lemma =>
        have hv : V = false := by
         rw [HV2.out, rangeNot (i := 0) hlt (by rw [hok, r0, r1, r2]; simp)]
         simp
        subst hv
        refine rS (n := 45) HS rval.tab13 rval.bits13 (by kernel_rfl) rfl rfl (fun w0 H0 T U h => ?_)
        refine rP 1 (some 96) T ?_; refine rT 0 (some 95) T U h ?_; refine rT 2 (some 97) T U h ?_
        clear h; refine rC 3 (some 98) T HS H0 Tryz.func63 (h0 _ H0.out) (fun w1 H1 h => ?_) (by kernel_rfl)
        refine rP 4 (some 99) T ?_; refine rP 5 (some 100) T ?_; refine rP 7 (some 102) T ?_; refine rT 6 (some 101) T U h ?_; refine rT 8 (some 103) T U h ?_
        clear h; refine rC 9 (some 104) T HS H1 Tryz.func63 (h1 _ H1.out) (fun w2 H2 h => ?_) (by kernel_rfl)
        refine rP 10 (some 105) T ?_; refine rP 11 (some 106) T ?_; refine rP 12 (some 107) T ?_; refine rP 14 (some 109) T ?_; refine rT 13 (some 108) T U h ?_; refine rT 15 (some 110) T U h ?_
        clear h; refine rC 16 (some 111) T HS H2 Tryz.func63 (h2 _ H2.out) (fun w3 H3 h => ?_) (by kernel_rfl)
        refine rP 17 (some 112) T ?_; refine rP 18 (some 113) T ?_; refine rP 19 (some 114) T ?_; refine rU 20 (some 115) T ?_; refine rU 21 (some 116) T ?_; refine rU 22 (some 117) T ?_; refine rU 23 (some 118) T ?_; refine rU 24 (some 119) T ?_; refine rU 25 (some 120) T ?_; refine rU 26 (some 121) T ?_; refine rU 27 (some 122) T ?_; refine rU 28 (some 123) T ?_; refine rU 29 (some 124) T ?_; refine rU 30 (some 125) T ?_; refine rU 31 (some 126) T ?_; refine rU 32 (some 127) T ?_; refine rU 33 (some 128) T ?_; refine rU 34 (some 129) T ?_; refine rU 35 (some 130) T ?_; refine rU 36 (some 131) T ?_; refine rU 37 (some 132) T ?_; refine rU 38 (some 133) T ?_; refine rU 39 (some 134) T ?_; refine rU 40 (some 135) T ?_; refine rU 41 (some 136) T ?_; refine rU 42 (some 137) T ?_; refine rU 43 (some 138) T ?_; refine rP 44 (some 139) T ?_
        refine done_ (done_of T.out (by kernel_rfl)) ?_; have hB9 := hBX.out.trans (H3.out.mono hBX.out.size); clear h; try go_wp2
        go_ret
        exact ⟨rfl, HW.out _ hB9⟩
       | true =>
       have h2 := fun (W : World) (h : Below X.heap.size X W) => hq W x.f2 h
       simp only [r2] at h2
       as_aux_lemma =>
       have hok2 : rokL l3 l4 0 = true := by rw [hok, r0, r1, r2]; rfl
       refine rS (n := 45) HS rval.tab13 rval.bits13 (by kernel_rfl) rfl rfl (fun w0 H0 T U h => ?_)
       refine rP 1 (some 96) T ?_; refine rT 0 (some 95) T U h ?_; refine rT 2 (some 97) T U h ?_
       clear h; refine rC 3 (some 98) T HS H0 Tryz.func63 (h0 _ H0.out) (fun w1 H1 h => ?_) (by kernel_rfl)
       refine rP 4 (some 99) T ?_; refine rP 5 (some 100) T ?_; refine rP 7 (some 102) T ?_; refine rT 6 (some 101) T U h ?_; refine rT 8 (some 103) T U h ?_
       clear h; refine rC 9 (some 104) T HS H1 Tryz.func63 (h1 _ H1.out) (fun w2 H2 h => ?_) (by kernel_rfl)
       refine rP 10 (some 105) T ?_; refine rP 11 (some 106) T ?_; refine rP 12 (some 107) T ?_; refine rP 14 (some 109) T ?_; refine rT 13 (some 108) T U h ?_; refine rT 15 (some 110) T U h ?_
       clear h; refine rC 16 (some 111) T HS H2 Tryz.func63 (h2 _ H2.out) (fun w3 H3 h => ?_) (by kernel_rfl)
       refine rP 17 (some 112) T ?_; refine rP 18 (some 113) T ?_; refine rP 19 (some 114) T ?_; refine rP 20 (some 115) T ?_; refine rP 21 (some 116) T ?_; refine rP 22 (some 117) T ?_; refine rU 23 (some 118) T ?_; refine rU 24 (some 119) T ?_; refine rU 25 (some 120) T ?_; refine rU 26 (some 121) T ?_; refine rU 27 (some 122) T ?_; refine rU 28 (some 123) T ?_; refine rU 29 (some 124) T ?_; refine rU 30 (some 125) T ?_; refine rU 31 (some 126) T ?_; refine rU 32 (some 127) T ?_; refine rU 33 (some 128) T ?_; refine rU 34 (some 129) T ?_; refine rU 35 (some 130) T ?_; refine rU 36 (some 131) T ?_; refine rU 37 (some 132) T ?_; refine rU 38 (some 133) T ?_; refine rU 39 (some 134) T ?_; refine rU 40 (some 135) T ?_; refine rU 41 (some 136) T ?_; refine rU 42 (some 137) T ?_; refine rP 43 (some 138) T ?_; refine rP 44 (some 139) T ?_
       refine done_ (done_of T.out (by kernel_rfl)) ?_; have hB9 := hBX.out.trans (H3.out.mono hBX.out.size); clear h; try go_wp2
       go_roundw
       case rel => exact ⟨0 + 1, by first | rfl | (simp; done) | go_num, by omega, ⟨hB9⟩, ⟨fun j hj => (Nat.lt_succ_iff_lt_or_eq.1 hj).elim (HK4.out j) (fun e => by rw [e]; exact hok2)⟩⟩
       case measure => simp [intOf]; omega
      ·obtain ⟨m, rfl⟩ : ∃ m, i = m + 1 := ⟨i - 1, by omega⟩
       obtain ⟨ad2, e2, y0, y1, y2⟩ := at_T83 hC (m : Int) (by omega) (by omega)
       have e3 : ad = ad2 := by rw [hA] at e2; injection e2 with e2
       subst e3
       rw [Int.toNat_natCast] at y0 y1 y2
       have hpr : (((m + 1 : Nat) : Int) - 1) = (m : Int) := by omega
       have hok : rokL l3 l4 (m + 1) = (rhasV l3 (rd_T83 l4 (((m + 1) : Nat) : Int)).f0 && (rhasV l3 (rd_T83 l4 (((m + 1) : Nat) : Int)).f1 && (rhasV l3 (rd_T83 l4 (((m + 1) : Nat) : Int)).f2 && aheadV (rd_T83 l4 (m : Int)).f0 (rd_T83 l4 (m : Int)).f1 (rd_T83 l4 (((m + 1) : Nat) : Int)).f0 (rd_T83 l4 (((m + 1) : Nat) : Int)).f1))) := by
        unfold rokL
        rw [decide_eq_false (by omega : ¬ m + 1 = 0), Bool.false_or, hpr]
       have hzx : (rd_T83 l4 (((m + 1) : Nat) : Int)) ∈ l4 := by
        have e9 : rd_T83 l4 (((m + 1) : Nat) : Int) = l4[(m + 1)] := by simp only [rd_T83, Int.toNat_natCast, List.getD_eq_getElem?_getD, List.getElem?_eq_getElem hlt, Option.getD_some]
        rw [e9]; exact List.getElem_mem hlt
       generalize rd_T83 l4 (((m + 1) : Nat) : Int) = x at x0 x1 x2 hok hzx
       generalize rd_T83 l4 (m : Int) = p at y0 y1 y2 hok
       have e1 : IntKind.i64.wrap (((m : Int) + 1) - 1) = (m : Int) := by rw [Int.add_sub_cancel]; exact IntWalk.i64_in _ (by omega)
       have q1 : (m : Int) < (l4.length : Int) := by omega
       have q2 : (m : Int) + 1 < (l4.length : Int) := by omega
       have q3 : ((m : Int) + 1).toNat = m + 1 := by omega
       have q4 : (0 : Int) ≤ (m : Int) + 1 := by omega
       have e0 : IntKind.i64.wrap (m : Int) = (m : Int) := IntWalk.i64_in _ (by omega)
       have q5 : (0 : Int) ≤ (m : Int) := by omega
       have q7 : decide (0 < (m : Int) + 1) = true := decide_eq_true (by omega)
       have q8 : decide ((m : Int) + 1 < (l4.length : Int)) = true := decide_eq_true q2
       rw [hA] at hcf
       clear hzx
       go_wp2_with fail
       have hbX : Below wr.heap.size wr (wr.alloc (.cells #[.string x.f0, .string x.f1, .string x.f2] 83)) := (Below.refl _ wr).alloc (Nat.le_refl _) _
       have hBX := Aside0.mk (HB4.out.trans (hbX.mono HB4.out.size))
       have hbk := blk_new wr (.cells #[.string x.f0, .string x.f1, .string x.f2] 83)
       have hX0 : (wr.alloc (.cells #[.string x.f0, .string x.f1, .string x.f2] 83)).cell? ⟨wr.heap.size, 0, none⟩ = some (.string x.f0) := (blk_cell hbk 0).trans rfl
       have hX1 : (wr.alloc (.cells #[.string x.f0, .string x.f1, .string x.f2] 83)).cell? ⟨wr.heap.size, 1, none⟩ = some (.string x.f1) := (blk_cell hbk 1).trans rfl
       have hX2 : (wr.alloc (.cells #[.string x.f0, .string x.f1, .string x.f2] 83)).cell? ⟨wr.heap.size, 2, none⟩ = some (.string x.f2) := (blk_cell hbk 2).trans rfl
       have hF0 : (wr.alloc (.cells #[.string x.f0, .string x.f1, .string x.f2] 83)).cell? ⟨w.heap.size, 0, none⟩ = some (.string a) := (blk_cell (HF.out _ hBX.out) 0).trans rfl
       have hF1 : (wr.alloc (.cells #[.string x.f0, .string x.f1, .string x.f2] 83)).cell? ⟨w.heap.size, 1, none⟩ = some (.bool b) := (blk_cell (HF.out _ hBX.out) 1).trans rfl
       have hF2 : (wr.alloc (.cells #[.string x.f0, .string x.f1, .string x.f2] 83)).cell? ⟨w.heap.size, 2, none⟩ = some (.int .i64 c) := (blk_cell (HF.out _ hBX.out) 2).trans rfl
       have hF3 : (wr.alloc (.cells #[.string x.f0, .string x.f1, .string x.f2] 83)).cell? ⟨w.heap.size, 3, none⟩ = some (.slice A3 l3.length c3) := (blk_cell (HF.out _ hBX.out) 3).trans rfl
       have hF4 : (wr.alloc (.cells #[.string x.f0, .string x.f1, .string x.f2] 83)).cell? ⟨w.heap.size, 4, none⟩ = some (.slice (some ad) l4.length c4) := (blk_cell (HF.out _ hBX.out) 4).trans (by rw [hA]; rfl)
       have hF5 : (wr.alloc (.cells #[.string x.f0, .string x.f1, .string x.f2] 83)).cell? ⟨w.heap.size, 5, none⟩ = some (.slice A5 l5.length c5) := (blk_cell (HF.out _ hBX.out) 5).trans rfl
       have hP0 := (hbX.cell (World.block_lt_of_cell? wr _ y0)).trans y0
       have hP1 := (hbX.cell (World.block_lt_of_cell? wr _ y1)).trans y1
       have hq := fun (W : World) (n : ByteArray) (h : Below (wr.alloc (.cells #[.string x.f0, .string x.f1, .string x.f2] 83)).heap.size (wr.alloc (.cells #[.string x.f0, .string x.f1, .string x.f2] 83)) W) => has_q a b c A3 c3 l3 A4 c4 l4 A5 c5 l5 n W (Kd.C_below H3.out ((HW.out _ hBX.out).trans (h.mono (HW.out _ hBX.out).size))) G3.out (Kd.C_below H4.out ((HW.out _ hBX.out).trans (h.mono (HW.out _ hBX.out).size))) G4.out (Kd.C_below H5.out ((HW.out _ hBX.out).trans (h.mono (HW.out _ hBX.out).size))) G5.out hl3
       rw [hA] at hq
       clear hbk hbX x0 x1 x2 y0 y1 y2 hC hcf
       generalize wr.heap.size = g4 at hX0 hlA hX1 hX2 ⊢
       generalize (wr.alloc (.cells #[.string x.f0, .string x.f1, .string x.f2] 83)) = X at hBX hX0 hX1 hX2 hF0 hF1 hF2 hF3 hF4 hF5 hP0 hP1 hq ⊢
       have HS := Aside0.mk (fun (W : World) (h : Below X.heap.size X W) => (show W.cell? ⟨g4, 0, none⟩ = some (.string x.f0) ∧ W.cell? ⟨g4, 1, none⟩ = some (.string x.f1) ∧ W.cell? ⟨g4, 2, none⟩ = some (.string x.f2) ∧ W.cell? ⟨w.heap.size, 0, none⟩ = some (.string a) ∧ W.cell? ⟨w.heap.size, 1, none⟩ = some (.bool b) ∧ W.cell? ⟨w.heap.size, 2, none⟩ = some (.int .i64 c) ∧ W.cell? ⟨w.heap.size, 3, none⟩ = some (.slice A3 l3.length c3) ∧ W.cell? ⟨w.heap.size, 4, none⟩ = some (.slice (some ad) l4.length c4) ∧ W.cell? ⟨w.heap.size, 5, none⟩ = some (.slice A5 l5.length c5) ∧ W.cell? (ad.add (m * 3)) = some (.string p.f0) ∧ W.cell? ⟨(ad.add (m * 3)).block, (ad.add (m * 3)).off + 1, none⟩ = some (.string p.f1) from ⟨(h.cell (World.block_lt_of_cell? X _ hX0)).trans hX0, (h.cell (World.block_lt_of_cell? X _ hX1)).trans hX1, (h.cell (World.block_lt_of_cell? X _ hX2)).trans hX2, (h.cell (World.block_lt_of_cell? X _ hF0)).trans hF0, (h.cell (World.block_lt_of_cell? X _ hF1)).trans hF1, (h.cell (World.block_lt_of_cell? X _ hF2)).trans hF2, (h.cell (World.block_lt_of_cell? X _ hF3)).trans hF3, (h.cell (World.block_lt_of_cell? X _ hF4)).trans hF4, (h.cell (World.block_lt_of_cell? X _ hF5)).trans hF5, (h.cell (World.block_lt_of_cell? X _ hP0)).trans hP0, (h.cell (World.block_lt_of_cell? X _ hP1)).trans hP1⟩))
       cases r0 : rhasV l3 x.f0 with
       | false =>
        have h0 := fun (W : World) (h : Below X.heap.size X W) => hq W x.f0 h
        simp only [r0] at h0
        as_aux_lemma =>
        have hv : V = false := by
         rw [HV2.out, rangeNot (i := (m + 1)) hlt (by rw [hok, r0]; simp)]
         simp
        subst hv
        refine rS (n := 45) HS rval.tab13 rval.bits13 (by kernel_rfl) rfl rfl (fun w0 H0 T U h => ?_)
        refine rP 1 (some 96) T ?_; refine rT 0 (some 95) T U h ?_; refine rT 2 (some 97) T U h ?_
        clear h; refine rC 3 (some 98) T HS H0 Tryz.func63 (h0 _ H0.out) (fun w1 H1 h => ?_) (by kernel_rfl)
        refine rP 4 (some 99) T ?_; refine rP 5 (some 100) T ?_; refine rU 6 (some 101) T ?_; refine rU 7 (some 102) T ?_; refine rU 8 (some 103) T ?_; refine rU 9 (some 104) T ?_; refine rU 10 (some 105) T ?_; refine rP 11 (some 106) T ?_; refine rP 12 (some 107) T ?_; refine rU 13 (some 108) T ?_; refine rU 14 (some 109) T ?_; refine rU 15 (some 110) T ?_; refine rU 16 (some 111) T ?_; refine rU 17 (some 112) T ?_; refine rP 18 (some 113) T ?_; refine rP 19 (some 114) T ?_; refine rU 20 (some 115) T ?_; refine rU 21 (some 116) T ?_; refine rU 22 (some 117) T ?_; refine rU 23 (some 118) T ?_; refine rU 24 (some 119) T ?_; refine rU 25 (some 120) T ?_; refine rU 26 (some 121) T ?_; refine rU 27 (some 122) T ?_; refine rU 28 (some 123) T ?_; refine rU 29 (some 124) T ?_; refine rU 30 (some 125) T ?_; refine rU 31 (some 126) T ?_; refine rU 32 (some 127) T ?_; refine rU 33 (some 128) T ?_; refine rU 34 (some 129) T ?_; refine rU 35 (some 130) T ?_; refine rU 36 (some 131) T ?_; refine rU 37 (some 132) T ?_; refine rU 38 (some 133) T ?_; refine rU 39 (some 134) T ?_; refine rU 40 (some 135) T ?_; refine rU 41 (some 136) T ?_; refine rU 42 (some 137) T ?_; refine rU 43 (some 138) T ?_; refine rP 44 (some 139) T ?_
        refine done_ (done_of T.out (by kernel_rfl)) ?_; have hB9 := hBX.out.trans (H1.out.mono hBX.out.size); clear h; try go_wp2
        go_ret
        exact ⟨rfl, HW.out _ hB9⟩
       | true =>
       have h0 := fun (W : World) (h : Below X.heap.size X W) => hq W x.f0 h
       simp only [r0] at h0
       cases r1 : rhasV l3 x.f1 with
       | false =>
        have h1 := fun (W : World) (h : Below X.heap.size X W) => hq W x.f1 h
        simp only [r1] at h1
        as_aux_lemma =>
        have hv : V = false := by
         rw [HV2.out, rangeNot (i := (m + 1)) hlt (by rw [hok, r0, r1]; simp)]
         simp
        subst hv
        refine rS (n := 45) HS rval.tab13 rval.bits13 (by kernel_rfl) rfl rfl (fun w0 H0 T U h => ?_)
        refine rP 1 (some 96) T ?_; refine rT 0 (some 95) T U h ?_; refine rT 2 (some 97) T U h ?_
        clear h; refine rC 3 (some 98) T HS H0 Tryz.func63 (h0 _ H0.out) (fun w1 H1 h => ?_) (by kernel_rfl)
        refine rP 4 (some 99) T ?_; refine rP 5 (some 100) T ?_; refine rP 7 (some 102) T ?_; refine rT 6 (some 101) T U h ?_; refine rT 8 (some 103) T U h ?_
        clear h; refine rC 9 (some 104) T HS H1 Tryz.func63 (h1 _ H1.out) (fun w2 H2 h => ?_) (by kernel_rfl)
        refine rP 10 (some 105) T ?_; refine rP 11 (some 106) T ?_; refine rP 12 (some 107) T ?_; refine rU 13 (some 108) T ?_; refine rU 14 (some 109) T ?_; refine rU 15 (some 110) T ?_; refine rU 16 (some 111) T ?_; refine rU 17 (some 112) T ?_; refine rP 18 (some 113) T ?_; refine rP 19 (some 114) T ?_; refine rU 20 (some 115) T ?_; refine rU 21 (some 116) T ?_; refine rU 22 (some 117) T ?_; refine rU 23 (some 118) T ?_; refine rU 24 (some 119) T ?_; refine rU 25 (some 120) T ?_; refine rU 26 (some 121) T ?_; refine rU 27 (some 122) T ?_; refine rU 28 (some 123) T ?_; refine rU 29 (some 124) T ?_; refine rU 30 (some 125) T ?_; refine rU 31 (some 126) T ?_; refine rU 32 (some 127) T ?_; refine rU 33 (some 128) T ?_; refine rU 34 (some 129) T ?_; refine rU 35 (some 130) T ?_; refine rU 36 (some 131) T ?_; refine rU 37 (some 132) T ?_; refine rU 38 (some 133) T ?_; refine rU 39 (some 134) T ?_; refine rU 40 (some 135) T ?_; refine rU 41 (some 136) T ?_; refine rU 42 (some 137) T ?_; refine rU 43 (some 138) T ?_; refine rP 44 (some 139) T ?_
        refine done_ (done_of T.out (by kernel_rfl)) ?_; have hB9 := hBX.out.trans (H2.out.mono hBX.out.size); clear h; try go_wp2
        go_ret
        exact ⟨rfl, HW.out _ hB9⟩
       | true =>
       have h1 := fun (W : World) (h : Below X.heap.size X W) => hq W x.f1 h
       simp only [r1] at h1
       cases r2 : rhasV l3 x.f2 with
       | false =>
        have h2 := fun (W : World) (h : Below X.heap.size X W) => hq W x.f2 h
        simp only [r2] at h2
        as_aux_lemma =>
        have hv : V = false := by
         rw [HV2.out, rangeNot (i := (m + 1)) hlt (by rw [hok, r0, r1, r2]; simp)]
         simp
        subst hv
        refine rS (n := 45) HS rval.tab13 rval.bits13 (by kernel_rfl) rfl rfl (fun w0 H0 T U h => ?_)
        refine rP 1 (some 96) T ?_; refine rT 0 (some 95) T U h ?_; refine rT 2 (some 97) T U h ?_
        clear h; refine rC 3 (some 98) T HS H0 Tryz.func63 (h0 _ H0.out) (fun w1 H1 h => ?_) (by kernel_rfl)
        refine rP 4 (some 99) T ?_; refine rP 5 (some 100) T ?_; refine rP 7 (some 102) T ?_; refine rT 6 (some 101) T U h ?_; refine rT 8 (some 103) T U h ?_
        clear h; refine rC 9 (some 104) T HS H1 Tryz.func63 (h1 _ H1.out) (fun w2 H2 h => ?_) (by kernel_rfl)
        refine rP 10 (some 105) T ?_; refine rP 11 (some 106) T ?_; refine rP 12 (some 107) T ?_; refine rP 14 (some 109) T ?_; refine rT 13 (some 108) T U h ?_; refine rT 15 (some 110) T U h ?_
        clear h; refine rC 16 (some 111) T HS H2 Tryz.func63 (h2 _ H2.out) (fun w3 H3 h => ?_) (by kernel_rfl)
        refine rP 17 (some 112) T ?_; refine rP 18 (some 113) T ?_; refine rP 19 (some 114) T ?_; refine rU 20 (some 115) T ?_; refine rU 21 (some 116) T ?_; refine rU 22 (some 117) T ?_; refine rU 23 (some 118) T ?_; refine rU 24 (some 119) T ?_; refine rU 25 (some 120) T ?_; refine rU 26 (some 121) T ?_; refine rU 27 (some 122) T ?_; refine rU 28 (some 123) T ?_; refine rU 29 (some 124) T ?_; refine rU 30 (some 125) T ?_; refine rU 31 (some 126) T ?_; refine rU 32 (some 127) T ?_; refine rU 33 (some 128) T ?_; refine rU 34 (some 129) T ?_; refine rU 35 (some 130) T ?_; refine rU 36 (some 131) T ?_; refine rU 37 (some 132) T ?_; refine rU 38 (some 133) T ?_; refine rU 39 (some 134) T ?_; refine rU 40 (some 135) T ?_; refine rU 41 (some 136) T ?_; refine rU 42 (some 137) T ?_; refine rU 43 (some 138) T ?_; refine rP 44 (some 139) T ?_
        refine done_ (done_of T.out (by kernel_rfl)) ?_; have hB9 := hBX.out.trans (H3.out.mono hBX.out.size); clear h; try go_wp2
        go_ret
        exact ⟨rfl, HW.out _ hB9⟩
       | true =>
       have h2 := fun (W : World) (h : Below X.heap.size X W) => hq W x.f2 h
       simp only [r2] at h2
       have hah := fun W => (ahead_q p.f0 p.f1 x.f0 x.f1 W).mono fun e w' k => And.intro k.1 (drawn_below k.2)
       cases ra : aheadV p.f0 p.f1 x.f0 x.f1 with
       | false =>
        simp only [ra] at hah
        as_aux_lemma =>
        have hv : V = false := by
         rw [HV2.out, rangeNot (i := (m + 1)) hlt (by rw [hok, r0, r1, r2, ra]; simp)]
         simp
        subst hv
        refine rS (n := 45) HS rval.tab13 rval.bits13 (by kernel_rfl) rfl rfl (fun w0 H0 T U h => ?_)
        refine rP 1 (some 96) T ?_; refine rT 0 (some 95) T U h ?_; refine rT 2 (some 97) T U h ?_
        clear h; refine rC 3 (some 98) T HS H0 Tryz.func63 (h0 _ H0.out) (fun w1 H1 h => ?_) (by kernel_rfl)
        refine rP 4 (some 99) T ?_; refine rP 5 (some 100) T ?_; refine rP 7 (some 102) T ?_; refine rT 6 (some 101) T U h ?_; refine rT 8 (some 103) T U h ?_
        clear h; refine rC 9 (some 104) T HS H1 Tryz.func63 (h1 _ H1.out) (fun w2 H2 h => ?_) (by kernel_rfl)
        refine rP 10 (some 105) T ?_; refine rP 11 (some 106) T ?_; refine rP 12 (some 107) T ?_; refine rP 14 (some 109) T ?_; refine rT 13 (some 108) T U h ?_; refine rT 15 (some 110) T U h ?_
        clear h; refine rC 16 (some 111) T HS H2 Tryz.func63 (h2 _ H2.out) (fun w3 H3 h => ?_) (by kernel_rfl)
        refine rP 17 (some 112) T ?_; refine rP 18 (some 113) T ?_; refine rP 19 (some 114) T ?_; refine rP 20 (some 115) T ?_; refine rP 21 (some 116) T ?_; refine rP 22 (some 117) T ?_; refine rP 23 (some 118) T ?_; refine rP 25 (some 120) T ?_; refine rP 26 (some 121) T ?_; refine rP 30 (some 125) T ?_; refine rP 32 (some 127) T ?_; refine rP 33 (some 128) T ?_; refine rP 37 (some 132) T ?_; refine rP 39 (some 134) T ?_; refine rT 24 (some 119) T U h ?_; refine rP 27 (some 122) T ?_; refine rP 28 (some 123) T ?_; refine rT 29 (some 124) T U h ?_; refine rT 31 (some 126) T U h ?_; refine rP 34 (some 129) T ?_; refine rP 35 (some 130) T ?_; refine rT 36 (some 131) T U h ?_; refine rT 38 (some 133) T U h ?_; refine rT 40 (some 135) T U h ?_
        clear h; refine rC 41 (some 136) T HS H3 Tryz.func106 (hah _) (fun w4 H4 h => ?_) (by kernel_rfl)
        refine rP 42 (some 137) T ?_; refine rP 43 (some 138) T ?_; refine rP 44 (some 139) T ?_
        refine done_ (done_of T.out (by kernel_rfl)) ?_; have hB9 := hBX.out.trans (H4.out.mono hBX.out.size); clear h; try go_wp2
        go_ret
        exact ⟨rfl, HW.out _ hB9⟩
       | true =>
       simp only [ra] at hah
       as_aux_lemma =>
       have hok2 : rokL l3 l4 (m + 1) = true := by rw [hok, r0, r1, r2, ra]; rfl
       refine rS (n := 45) HS rval.tab13 rval.bits13 (by kernel_rfl) rfl rfl (fun w0 H0 T U h => ?_)
       refine rP 1 (some 96) T ?_; refine rT 0 (some 95) T U h ?_; refine rT 2 (some 97) T U h ?_
       clear h; refine rC 3 (some 98) T HS H0 Tryz.func63 (h0 _ H0.out) (fun w1 H1 h => ?_) (by kernel_rfl)
       refine rP 4 (some 99) T ?_; refine rP 5 (some 100) T ?_; refine rP 7 (some 102) T ?_; refine rT 6 (some 101) T U h ?_; refine rT 8 (some 103) T U h ?_
       clear h; refine rC 9 (some 104) T HS H1 Tryz.func63 (h1 _ H1.out) (fun w2 H2 h => ?_) (by kernel_rfl)
       refine rP 10 (some 105) T ?_; refine rP 11 (some 106) T ?_; refine rP 12 (some 107) T ?_; refine rP 14 (some 109) T ?_; refine rT 13 (some 108) T U h ?_; refine rT 15 (some 110) T U h ?_
       clear h; refine rC 16 (some 111) T HS H2 Tryz.func63 (h2 _ H2.out) (fun w3 H3 h => ?_) (by kernel_rfl)
       refine rP 17 (some 112) T ?_; refine rP 18 (some 113) T ?_; refine rP 19 (some 114) T ?_; refine rP 20 (some 115) T ?_; refine rP 21 (some 116) T ?_; refine rP 22 (some 117) T ?_; refine rP 23 (some 118) T ?_; refine rP 25 (some 120) T ?_; refine rP 26 (some 121) T ?_; refine rP 30 (some 125) T ?_; refine rP 32 (some 127) T ?_; refine rP 33 (some 128) T ?_; refine rP 37 (some 132) T ?_; refine rP 39 (some 134) T ?_; refine rT 24 (some 119) T U h ?_; refine rP 27 (some 122) T ?_; refine rP 28 (some 123) T ?_; refine rT 29 (some 124) T U h ?_; refine rT 31 (some 126) T U h ?_; refine rP 34 (some 129) T ?_; refine rP 35 (some 130) T ?_; refine rT 36 (some 131) T U h ?_; refine rT 38 (some 133) T U h ?_; refine rT 40 (some 135) T U h ?_
       clear h; refine rC 41 (some 136) T HS H3 Tryz.func106 (hah _) (fun w4 H4 h => ?_) (by kernel_rfl)
       refine rP 42 (some 137) T ?_; refine rP 43 (some 138) T ?_; refine rP 44 (some 139) T ?_
       refine done_ (done_of T.out (by kernel_rfl)) ?_; have hB9 := hBX.out.trans (H4.out.mono hBX.out.size); clear h; try go_wp2
       go_roundw
       case rel => exact ⟨m + 1 + 1, by first | rfl | (simp; done) | go_num, by omega, ⟨hB9⟩, ⟨fun j hj => (Nat.lt_succ_iff_lt_or_eq.1 hj).elim (HK4.out j) (fun e => by rw [e]; exact hok2)⟩⟩
       case measure => simp [intOf]; omega
     ·obtain rfl : i = l4.length := by omega
      have q2 : decide ((l4.length : Int) < (l4.length : Int)) = false := decide_eq_false (by omega)
      have q1 : ¬ (l4.length : Int) < (l4.length : Int) := by omega
      have HV2 : Aside0 (V = ((List.range l5.length).all (rokK l3 l5))) := ⟨by rw [HV2.out, rangeAll HK4.out, Bool.true_and]⟩
      go_wp2
      go_loopw [7] (fun y W => ∃ i : Nat, y = .int .i64 (i : Int) ∧ i ≤ l5.length ∧ Aside0 (Below (w.alloc (.cells #[.string a, .bool b, .int .i64 c, .slice A3 l3.length c3, .slice A4 l4.length c4, .slice A5 l5.length c5] 44)).heap.size (w.alloc (.cells #[.string a, .bool b, .int .i64 c, .slice A3 l3.length c3, .slice A4 l4.length c4, .slice A5 l5.length c5] 44)) W) ∧ Aside0 (∀ j, j < i → rokK l3 l5 j = true)) (fun y _ => l5.length - (intOf y).toNat)
      case atStart => exact ⟨0, rfl, Nat.zero_le _, HB4, ⟨fun _ h => absurd h (Nat.not_lt_zero _)⟩⟩
      case round =>
       skip
       obtain ⟨i, rfl, hi, HB5, HK5⟩ := hrel
       have hcf := (blk_cell (HF.out _ HB5.out) 5).trans rfl
       by_cases hlt : i < l5.length
       ·have hC := Kd.C_below H5.out (HW.out _ HB5.out)
        have hbX : Below wr.heap.size wr (wr.alloc (.cells #[] 0)) := (Below.refl _ wr).alloc (Nat.le_refl _) _
        clear hbX
        obtain ⟨ad, e, x0, x1, x2⟩ := at_T84 hC (i : Int) (by omega) (by omega)
        have hA := e
        rw [Int.toNat_natCast] at x0 x1 x2
        have hlA : w.heap.size < wr.heap.size := blk_lt (HF.out _ HB5.out)
        rcases Nat.eq_zero_or_pos i with hi0 | hi0
        ·subst hi0
         simp only [Nat.zero_mul, Addr.add_zero'] at x0 x1 x2
         have hok : rokK l3 l5 0 = (rhasV l3 (rd_T84 l5 ((0 : Nat) : Int)).f0 && (rhasV l3 (rd_T84 l5 ((0 : Nat) : Int)).f1 && (!decide ((rd_T84 l5 ((0 : Nat) : Int)).f2 = 0) && (!decide ((rd_T84 l5 ((0 : Nat) : Int)).f2 < -500) && (!decide (500 < (rd_T84 l5 ((0 : Nat) : Int)).f2) && true))))) := by
          unfold rokK
          rw [decide_eq_true rfl, Bool.true_or]
         have hzx : (rd_T84 l5 ((0 : Nat) : Int)) ∈ l5 := by
          have e9 : rd_T84 l5 ((0 : Nat) : Int) = l5[0] := by simp only [rd_T84, Int.toNat_natCast, List.getD_eq_getElem?_getD, List.getElem?_eq_getElem hlt, Option.getD_some]
          rw [e9]; exact List.getElem_mem hlt
         generalize rd_T84 l5 ((0 : Nat) : Int) = x at x0 x1 x2 hok hzx
         have q1 : (0 : Int) < (l5.length : Int) := by omega
         have q6 : decide ((0 : Int) < (l5.length : Int)) = true := decide_eq_true q1
         rw [hA] at hcf
         clear hzx
         go_wp2_with fail
         have hbX : Below wr.heap.size wr (wr.alloc (.cells #[.string x.f0, .string x.f1, .int .i64 x.f2] 84)) := (Below.refl _ wr).alloc (Nat.le_refl _) _
         have hBX := Aside0.mk (HB5.out.trans (hbX.mono HB5.out.size))
         have hbk := blk_new wr (.cells #[.string x.f0, .string x.f1, .int .i64 x.f2] 84)
         have hX0 : (wr.alloc (.cells #[.string x.f0, .string x.f1, .int .i64 x.f2] 84)).cell? ⟨wr.heap.size, 0, none⟩ = some (.string x.f0) := (blk_cell hbk 0).trans rfl
         have hX1 : (wr.alloc (.cells #[.string x.f0, .string x.f1, .int .i64 x.f2] 84)).cell? ⟨wr.heap.size, 1, none⟩ = some (.string x.f1) := (blk_cell hbk 1).trans rfl
         have hX2 : (wr.alloc (.cells #[.string x.f0, .string x.f1, .int .i64 x.f2] 84)).cell? ⟨wr.heap.size, 2, none⟩ = some (.int .i64 x.f2) := (blk_cell hbk 2).trans rfl
         have hF0 : (wr.alloc (.cells #[.string x.f0, .string x.f1, .int .i64 x.f2] 84)).cell? ⟨w.heap.size, 0, none⟩ = some (.string a) := (blk_cell (HF.out _ hBX.out) 0).trans rfl
         have hF1 : (wr.alloc (.cells #[.string x.f0, .string x.f1, .int .i64 x.f2] 84)).cell? ⟨w.heap.size, 1, none⟩ = some (.bool b) := (blk_cell (HF.out _ hBX.out) 1).trans rfl
         have hF2 : (wr.alloc (.cells #[.string x.f0, .string x.f1, .int .i64 x.f2] 84)).cell? ⟨w.heap.size, 2, none⟩ = some (.int .i64 c) := (blk_cell (HF.out _ hBX.out) 2).trans rfl
         have hF3 : (wr.alloc (.cells #[.string x.f0, .string x.f1, .int .i64 x.f2] 84)).cell? ⟨w.heap.size, 3, none⟩ = some (.slice A3 l3.length c3) := (blk_cell (HF.out _ hBX.out) 3).trans rfl
         have hF4 : (wr.alloc (.cells #[.string x.f0, .string x.f1, .int .i64 x.f2] 84)).cell? ⟨w.heap.size, 4, none⟩ = some (.slice A4 l4.length c4) := (blk_cell (HF.out _ hBX.out) 4).trans rfl
         have hF5 : (wr.alloc (.cells #[.string x.f0, .string x.f1, .int .i64 x.f2] 84)).cell? ⟨w.heap.size, 5, none⟩ = some (.slice (some ad) l5.length c5) := (blk_cell (HF.out _ hBX.out) 5).trans (by rw [hA]; rfl)
         have hq := fun (W : World) (n : ByteArray) (h : Below (wr.alloc (.cells #[.string x.f0, .string x.f1, .int .i64 x.f2] 84)).heap.size (wr.alloc (.cells #[.string x.f0, .string x.f1, .int .i64 x.f2] 84)) W) => has_q a b c A3 c3 l3 A4 c4 l4 A5 c5 l5 n W (Kd.C_below H3.out ((HW.out _ hBX.out).trans (h.mono (HW.out _ hBX.out).size))) G3.out (Kd.C_below H4.out ((HW.out _ hBX.out).trans (h.mono (HW.out _ hBX.out).size))) G4.out (Kd.C_below H5.out ((HW.out _ hBX.out).trans (h.mono (HW.out _ hBX.out).size))) G5.out hl3
         rw [hA] at hq
         clear hbk hbX x0 x1 x2  hC hcf
         generalize wr.heap.size = g4 at hX0 hlA hX1 hX2 ⊢
         generalize (wr.alloc (.cells #[.string x.f0, .string x.f1, .int .i64 x.f2] 84)) = X at hBX hX0 hX1 hX2 hF0 hF1 hF2 hF3 hF4 hF5 hq ⊢
         have HS := Aside0.mk (fun (W : World) (h : Below X.heap.size X W) => (show W.cell? ⟨g4, 0, none⟩ = some (.string x.f0) ∧ W.cell? ⟨g4, 1, none⟩ = some (.string x.f1) ∧ W.cell? ⟨g4, 2, none⟩ = some (.int .i64 x.f2) ∧ W.cell? ⟨w.heap.size, 0, none⟩ = some (.string a) ∧ W.cell? ⟨w.heap.size, 1, none⟩ = some (.bool b) ∧ W.cell? ⟨w.heap.size, 2, none⟩ = some (.int .i64 c) ∧ W.cell? ⟨w.heap.size, 3, none⟩ = some (.slice A3 l3.length c3) ∧ W.cell? ⟨w.heap.size, 4, none⟩ = some (.slice A4 l4.length c4) ∧ W.cell? ⟨w.heap.size, 5, none⟩ = some (.slice (some ad) l5.length c5) from ⟨(h.cell (World.block_lt_of_cell? X _ hX0)).trans hX0, (h.cell (World.block_lt_of_cell? X _ hX1)).trans hX1, (h.cell (World.block_lt_of_cell? X _ hX2)).trans hX2, (h.cell (World.block_lt_of_cell? X _ hF0)).trans hF0, (h.cell (World.block_lt_of_cell? X _ hF1)).trans hF1, (h.cell (World.block_lt_of_cell? X _ hF2)).trans hF2, (h.cell (World.block_lt_of_cell? X _ hF3)).trans hF3, (h.cell (World.block_lt_of_cell? X _ hF4)).trans hF4, (h.cell (World.block_lt_of_cell? X _ hF5)).trans hF5⟩))
         cases r0 : rhasV l3 x.f0 with
         | false =>
          have h0 := fun (W : World) (h : Below X.heap.size X W) => hq W x.f0 h
          simp only [r0] at h0
          as_aux_lemma =>
          have hv : V = false := by
           rw [HV2.out, rangeNot (i := 0) hlt (by rw [hok, r0]; simp)]
           done
          subst hv
          refine rS (n := 53) HS rval.tab19 rval.bits19 (by kernel_rfl) rfl rfl (fun w0 H0 T U h => ?_)
          refine rP 1 (some 153) T ?_; refine rT 0 (some 152) T U h ?_; refine rT 2 (some 154) T U h ?_
          clear h; refine rC 3 (some 155) T HS H0 Tryz.func63 (h0 _ H0.out) (fun w1 H1 h => ?_) (by kernel_rfl)
          refine rP 4 (some 156) T ?_; refine rP 5 (some 157) T ?_; refine rU 6 (some 158) T ?_; refine rU 7 (some 159) T ?_; refine rU 8 (some 160) T ?_; refine rU 9 (some 161) T ?_; refine rU 10 (some 162) T ?_; refine rP 11 (some 163) T ?_; refine rP 12 (some 164) T ?_; refine rU 13 (some 165) T ?_; refine rU 14 (some 166) T ?_; refine rU 15 (some 167) T ?_; refine rP 16 (some 168) T ?_; refine rP 17 (some 169) T ?_; refine rU 18 (some 170) T ?_; refine rU 19 (some 171) T ?_; refine rU 20 (some 172) T ?_; refine rP 21 (some 173) T ?_; refine rP 22 (some 174) T ?_; refine rU 23 (some 175) T ?_; refine rU 24 (some 176) T ?_; refine rU 25 (some 177) T ?_; refine rP 26 (some 178) T ?_; refine rP 27 (some 179) T ?_; refine rU 28 (some 180) T ?_; refine rU 29 (some 181) T ?_; refine rU 30 (some 182) T ?_; refine rU 31 (some 183) T ?_; refine rU 32 (some 184) T ?_; refine rU 33 (some 185) T ?_; refine rU 34 (some 186) T ?_; refine rU 35 (some 187) T ?_; refine rU 36 (some 188) T ?_; refine rU 37 (some 189) T ?_; refine rU 38 (some 190) T ?_; refine rU 39 (some 191) T ?_; refine rU 40 (some 192) T ?_; refine rU 41 (some 193) T ?_; refine rU 42 (some 194) T ?_; refine rU 43 (some 195) T ?_; refine rU 44 (some 196) T ?_; refine rU 45 (some 197) T ?_; refine rU 46 (some 198) T ?_; refine rU 47 (some 199) T ?_; refine rU 48 (some 200) T ?_; refine rU 49 (some 201) T ?_; refine rU 50 (some 202) T ?_; refine rU 51 (some 203) T ?_; refine rP 52 (some 204) T ?_
          refine done_ (done_of T.out (by kernel_rfl)) ?_; have hB9 := hBX.out.trans (H1.out.mono hBX.out.size); clear h; try go_wp2
          go_ret
          exact ⟨rfl, HW.out _ hB9⟩
         | true =>
         have h0 := fun (W : World) (h : Below X.heap.size X W) => hq W x.f0 h
         simp only [r0] at h0
         cases r1 : rhasV l3 x.f1 with
         | false =>
          have h1 := fun (W : World) (h : Below X.heap.size X W) => hq W x.f1 h
          simp only [r1] at h1
          as_aux_lemma =>
          have hv : V = false := by
           rw [HV2.out, rangeNot (i := 0) hlt (by rw [hok, r0, r1]; simp)]
           done
          subst hv
          refine rS (n := 53) HS rval.tab19 rval.bits19 (by kernel_rfl) rfl rfl (fun w0 H0 T U h => ?_)
          refine rP 1 (some 153) T ?_; refine rT 0 (some 152) T U h ?_; refine rT 2 (some 154) T U h ?_
          clear h; refine rC 3 (some 155) T HS H0 Tryz.func63 (h0 _ H0.out) (fun w1 H1 h => ?_) (by kernel_rfl)
          refine rP 4 (some 156) T ?_; refine rP 5 (some 157) T ?_; refine rP 7 (some 159) T ?_; refine rT 6 (some 158) T U h ?_; refine rT 8 (some 160) T U h ?_
          clear h; refine rC 9 (some 161) T HS H1 Tryz.func63 (h1 _ H1.out) (fun w2 H2 h => ?_) (by kernel_rfl)
          refine rP 10 (some 162) T ?_; refine rP 11 (some 163) T ?_; refine rP 12 (some 164) T ?_; refine rU 13 (some 165) T ?_; refine rU 14 (some 166) T ?_; refine rU 15 (some 167) T ?_; refine rP 16 (some 168) T ?_; refine rP 17 (some 169) T ?_; refine rU 18 (some 170) T ?_; refine rU 19 (some 171) T ?_; refine rU 20 (some 172) T ?_; refine rP 21 (some 173) T ?_; refine rP 22 (some 174) T ?_; refine rU 23 (some 175) T ?_; refine rU 24 (some 176) T ?_; refine rU 25 (some 177) T ?_; refine rP 26 (some 178) T ?_; refine rP 27 (some 179) T ?_; refine rU 28 (some 180) T ?_; refine rU 29 (some 181) T ?_; refine rU 30 (some 182) T ?_; refine rU 31 (some 183) T ?_; refine rU 32 (some 184) T ?_; refine rU 33 (some 185) T ?_; refine rU 34 (some 186) T ?_; refine rU 35 (some 187) T ?_; refine rU 36 (some 188) T ?_; refine rU 37 (some 189) T ?_; refine rU 38 (some 190) T ?_; refine rU 39 (some 191) T ?_; refine rU 40 (some 192) T ?_; refine rU 41 (some 193) T ?_; refine rU 42 (some 194) T ?_; refine rU 43 (some 195) T ?_; refine rU 44 (some 196) T ?_; refine rU 45 (some 197) T ?_; refine rU 46 (some 198) T ?_; refine rU 47 (some 199) T ?_; refine rU 48 (some 200) T ?_; refine rU 49 (some 201) T ?_; refine rU 50 (some 202) T ?_; refine rU 51 (some 203) T ?_; refine rP 52 (some 204) T ?_
          refine done_ (done_of T.out (by kernel_rfl)) ?_; have hB9 := hBX.out.trans (H2.out.mono hBX.out.size); clear h; try go_wp2
          go_ret
          exact ⟨rfl, HW.out _ hB9⟩
         | true =>
         have h1 := fun (W : World) (h : Below X.heap.size X W) => hq W x.f1 h
         simp only [r1] at h1
         by_cases tz : x.f2 = 0
         ·have dz : decide (x.f2 = 0) = true := decide_eq_true tz
          have dz2 : (x.f2 == 0) = true := beq_iff_eq.2 tz
          as_aux_lemma =>
          have hv : V = false := by
           rw [HV2.out, rangeNot (i := 0) hlt (by rw [hok, r0, r1, dz]; simp)]
           done
          subst hv
          refine rS (n := 53) HS rval.tab19 rval.bits19 (by kernel_rfl) rfl rfl (fun w0 H0 T U h => ?_)
          refine rP 1 (some 153) T ?_; refine rT 0 (some 152) T U h ?_; refine rT 2 (some 154) T U h ?_
          clear h; refine rC 3 (some 155) T HS H0 Tryz.func63 (h0 _ H0.out) (fun w1 H1 h => ?_) (by kernel_rfl)
          refine rP 4 (some 156) T ?_; refine rP 5 (some 157) T ?_; refine rP 7 (some 159) T ?_; refine rT 6 (some 158) T U h ?_; refine rT 8 (some 160) T U h ?_
          clear h; refine rC 9 (some 161) T HS H1 Tryz.func63 (h1 _ H1.out) (fun w2 H2 h => ?_) (by kernel_rfl)
          refine rP 10 (some 162) T ?_; refine rP 11 (some 163) T ?_; refine rP 12 (some 164) T ?_; refine rP 13 (some 165) T ?_; refine rT 14 (some 166) T U h ?_; refine rP 15 (some 167) T ?_; refine rP 16 (some 168) T ?_; refine rP 17 (some 169) T ?_; refine rU 18 (some 170) T ?_; refine rU 19 (some 171) T ?_; refine rU 20 (some 172) T ?_; refine rP 21 (some 173) T ?_; refine rP 22 (some 174) T ?_; refine rU 23 (some 175) T ?_; refine rU 24 (some 176) T ?_; refine rU 25 (some 177) T ?_; refine rP 26 (some 178) T ?_; refine rP 27 (some 179) T ?_; refine rU 28 (some 180) T ?_; refine rU 29 (some 181) T ?_; refine rU 30 (some 182) T ?_; refine rU 31 (some 183) T ?_; refine rU 32 (some 184) T ?_; refine rU 33 (some 185) T ?_; refine rU 34 (some 186) T ?_; refine rU 35 (some 187) T ?_; refine rU 36 (some 188) T ?_; refine rU 37 (some 189) T ?_; refine rU 38 (some 190) T ?_; refine rU 39 (some 191) T ?_; refine rU 40 (some 192) T ?_; refine rU 41 (some 193) T ?_; refine rU 42 (some 194) T ?_; refine rU 43 (some 195) T ?_; refine rU 44 (some 196) T ?_; refine rU 45 (some 197) T ?_; refine rU 46 (some 198) T ?_; refine rU 47 (some 199) T ?_; refine rU 48 (some 200) T ?_; refine rU 49 (some 201) T ?_; refine rU 50 (some 202) T ?_; refine rU 51 (some 203) T ?_; refine rP 52 (some 204) T ?_
          refine done_ (done_of T.out (by kernel_rfl)) ?_; have hB9 := hBX.out.trans (H2.out.mono hBX.out.size); clear h; try go_wp2
          go_ret
          exact ⟨rfl, HW.out _ hB9⟩
         have dz : decide (x.f2 = 0) = false := decide_eq_false tz
         have dz2 : (x.f2 == 0) = false := beq_eq_false_iff_ne.2 tz
         by_cases tlt : x.f2 < -500
         ·have dlt : decide (x.f2 < -500) = true := decide_eq_true tlt
          skip
          as_aux_lemma =>
          have hv : V = false := by
           rw [HV2.out, rangeNot (i := 0) hlt (by rw [hok, r0, r1, dz, dlt]; simp)]
           done
          subst hv
          refine rS (n := 53) HS rval.tab19 rval.bits19 (by kernel_rfl) rfl rfl (fun w0 H0 T U h => ?_)
          refine rP 1 (some 153) T ?_; refine rT 0 (some 152) T U h ?_; refine rT 2 (some 154) T U h ?_
          clear h; refine rC 3 (some 155) T HS H0 Tryz.func63 (h0 _ H0.out) (fun w1 H1 h => ?_) (by kernel_rfl)
          refine rP 4 (some 156) T ?_; refine rP 5 (some 157) T ?_; refine rP 7 (some 159) T ?_; refine rT 6 (some 158) T U h ?_; refine rT 8 (some 160) T U h ?_
          clear h; refine rC 9 (some 161) T HS H1 Tryz.func63 (h1 _ H1.out) (fun w2 H2 h => ?_) (by kernel_rfl)
          refine rP 10 (some 162) T ?_; refine rP 11 (some 163) T ?_; refine rP 12 (some 164) T ?_; refine rP 13 (some 165) T ?_; refine rT 14 (some 166) T U h ?_; refine rP 15 (some 167) T ?_; refine rP 16 (some 168) T ?_; refine rP 17 (some 169) T ?_; refine rP 18 (some 170) T ?_; refine rT 19 (some 171) T U h ?_; refine rP 20 (some 172) T ?_; refine rP 21 (some 173) T ?_; refine rP 22 (some 174) T ?_; refine rU 23 (some 175) T ?_; refine rU 24 (some 176) T ?_; refine rU 25 (some 177) T ?_; refine rP 26 (some 178) T ?_; refine rP 27 (some 179) T ?_; refine rU 28 (some 180) T ?_; refine rU 29 (some 181) T ?_; refine rU 30 (some 182) T ?_; refine rU 31 (some 183) T ?_; refine rU 32 (some 184) T ?_; refine rU 33 (some 185) T ?_; refine rU 34 (some 186) T ?_; refine rU 35 (some 187) T ?_; refine rU 36 (some 188) T ?_; refine rU 37 (some 189) T ?_; refine rU 38 (some 190) T ?_; refine rU 39 (some 191) T ?_; refine rU 40 (some 192) T ?_; refine rU 41 (some 193) T ?_; refine rU 42 (some 194) T ?_; refine rU 43 (some 195) T ?_; refine rU 44 (some 196) T ?_; refine rU 45 (some 197) T ?_; refine rU 46 (some 198) T ?_; refine rU 47 (some 199) T ?_; refine rU 48 (some 200) T ?_; refine rU 49 (some 201) T ?_; refine rU 50 (some 202) T ?_; refine rU 51 (some 203) T ?_; refine rP 52 (some 204) T ?_
          refine done_ (done_of T.out (by kernel_rfl)) ?_; have hB9 := hBX.out.trans (H2.out.mono hBX.out.size); clear h; try go_wp2
          go_ret
          exact ⟨rfl, HW.out _ hB9⟩
         have dlt : decide (x.f2 < -500) = false := decide_eq_false tlt
         skip
         by_cases tgt : 500 < x.f2
         ·have dgt : decide (500 < x.f2) = true := decide_eq_true tgt
          skip
          as_aux_lemma =>
          have hv : V = false := by
           rw [HV2.out, rangeNot (i := 0) hlt (by rw [hok, r0, r1, dz, dlt, dgt]; simp)]
           done
          subst hv
          refine rS (n := 53) HS rval.tab19 rval.bits19 (by kernel_rfl) rfl rfl (fun w0 H0 T U h => ?_)
          refine rP 1 (some 153) T ?_; refine rT 0 (some 152) T U h ?_; refine rT 2 (some 154) T U h ?_
          clear h; refine rC 3 (some 155) T HS H0 Tryz.func63 (h0 _ H0.out) (fun w1 H1 h => ?_) (by kernel_rfl)
          refine rP 4 (some 156) T ?_; refine rP 5 (some 157) T ?_; refine rP 7 (some 159) T ?_; refine rT 6 (some 158) T U h ?_; refine rT 8 (some 160) T U h ?_
          clear h; refine rC 9 (some 161) T HS H1 Tryz.func63 (h1 _ H1.out) (fun w2 H2 h => ?_) (by kernel_rfl)
          refine rP 10 (some 162) T ?_; refine rP 11 (some 163) T ?_; refine rP 12 (some 164) T ?_; refine rP 13 (some 165) T ?_; refine rT 14 (some 166) T U h ?_; refine rP 15 (some 167) T ?_; refine rP 16 (some 168) T ?_; refine rP 17 (some 169) T ?_; refine rP 18 (some 170) T ?_; refine rT 19 (some 171) T U h ?_; refine rP 20 (some 172) T ?_; refine rP 21 (some 173) T ?_; refine rP 22 (some 174) T ?_; refine rP 23 (some 175) T ?_; refine rT 24 (some 176) T U h ?_; refine rP 25 (some 177) T ?_; refine rP 26 (some 178) T ?_; refine rP 27 (some 179) T ?_; refine rU 28 (some 180) T ?_; refine rU 29 (some 181) T ?_; refine rU 30 (some 182) T ?_; refine rU 31 (some 183) T ?_; refine rU 32 (some 184) T ?_; refine rU 33 (some 185) T ?_; refine rU 34 (some 186) T ?_; refine rU 35 (some 187) T ?_; refine rU 36 (some 188) T ?_; refine rU 37 (some 189) T ?_; refine rU 38 (some 190) T ?_; refine rU 39 (some 191) T ?_; refine rU 40 (some 192) T ?_; refine rU 41 (some 193) T ?_; refine rU 42 (some 194) T ?_; refine rU 43 (some 195) T ?_; refine rU 44 (some 196) T ?_; refine rU 45 (some 197) T ?_; refine rU 46 (some 198) T ?_; refine rU 47 (some 199) T ?_; refine rU 48 (some 200) T ?_; refine rU 49 (some 201) T ?_; refine rU 50 (some 202) T ?_; refine rU 51 (some 203) T ?_; refine rP 52 (some 204) T ?_
          refine done_ (done_of T.out (by kernel_rfl)) ?_; have hB9 := hBX.out.trans (H2.out.mono hBX.out.size); clear h; try go_wp2
          go_ret
          exact ⟨rfl, HW.out _ hB9⟩
         have dgt : decide (500 < x.f2) = false := decide_eq_false tgt
         skip
         as_aux_lemma =>
         have hok2 : rokK l3 l5 0 = true := by rw [hok, r0, r1, dz, dlt, dgt]; rfl
         refine rS (n := 53) HS rval.tab19 rval.bits19 (by kernel_rfl) rfl rfl (fun w0 H0 T U h => ?_)
         refine rP 1 (some 153) T ?_; refine rT 0 (some 152) T U h ?_; refine rT 2 (some 154) T U h ?_
         clear h; refine rC 3 (some 155) T HS H0 Tryz.func63 (h0 _ H0.out) (fun w1 H1 h => ?_) (by kernel_rfl)
         refine rP 4 (some 156) T ?_; refine rP 5 (some 157) T ?_; refine rP 7 (some 159) T ?_; refine rT 6 (some 158) T U h ?_; refine rT 8 (some 160) T U h ?_
         clear h; refine rC 9 (some 161) T HS H1 Tryz.func63 (h1 _ H1.out) (fun w2 H2 h => ?_) (by kernel_rfl)
         refine rP 10 (some 162) T ?_; refine rP 11 (some 163) T ?_; refine rP 12 (some 164) T ?_; refine rP 13 (some 165) T ?_; refine rT 14 (some 166) T U h ?_; refine rP 15 (some 167) T ?_; refine rP 16 (some 168) T ?_; refine rP 17 (some 169) T ?_; refine rP 18 (some 170) T ?_; refine rT 19 (some 171) T U h ?_; refine rP 20 (some 172) T ?_; refine rP 21 (some 173) T ?_; refine rP 22 (some 174) T ?_; refine rP 23 (some 175) T ?_; refine rT 24 (some 176) T U h ?_; refine rP 25 (some 177) T ?_; refine rP 26 (some 178) T ?_; refine rP 27 (some 179) T ?_; refine rP 28 (some 180) T ?_; refine rP 29 (some 181) T ?_; refine rP 30 (some 182) T ?_; refine rU 31 (some 183) T ?_; refine rU 32 (some 184) T ?_; refine rU 33 (some 185) T ?_; refine rU 34 (some 186) T ?_; refine rU 35 (some 187) T ?_; refine rU 36 (some 188) T ?_; refine rU 37 (some 189) T ?_; refine rU 38 (some 190) T ?_; refine rU 39 (some 191) T ?_; refine rU 40 (some 192) T ?_; refine rU 41 (some 193) T ?_; refine rU 42 (some 194) T ?_; refine rU 43 (some 195) T ?_; refine rU 44 (some 196) T ?_; refine rU 45 (some 197) T ?_; refine rU 46 (some 198) T ?_; refine rU 47 (some 199) T ?_; refine rU 48 (some 200) T ?_; refine rU 49 (some 201) T ?_; refine rU 50 (some 202) T ?_; refine rP 51 (some 203) T ?_; refine rP 52 (some 204) T ?_
         refine done_ (done_of T.out (by kernel_rfl)) ?_; have hB9 := hBX.out.trans (H2.out.mono hBX.out.size); clear h; try go_wp2
         go_roundw
         case rel => exact ⟨0 + 1, by first | rfl | (simp; done) | go_num, by omega, ⟨hB9⟩, ⟨fun j hj => (Nat.lt_succ_iff_lt_or_eq.1 hj).elim (HK5.out j) (fun e => by rw [e]; exact hok2)⟩⟩
         case measure => simp [intOf]; omega
        ·obtain ⟨m, rfl⟩ : ∃ m, i = m + 1 := ⟨i - 1, by omega⟩
         obtain ⟨ad2, e2, y0, y1, y2⟩ := at_T84 hC (m : Int) (by omega) (by omega)
         have e3 : ad = ad2 := by rw [hA] at e2; injection e2 with e2
         subst e3
         rw [Int.toNat_natCast] at y0 y1 y2
         have hpr : (((m + 1 : Nat) : Int) - 1) = (m : Int) := by omega
         have hok : rokK l3 l5 (m + 1) = (rhasV l3 (rd_T84 l5 (((m + 1) : Nat) : Int)).f0 && (rhasV l3 (rd_T84 l5 (((m + 1) : Nat) : Int)).f1 && (!decide ((rd_T84 l5 (((m + 1) : Nat) : Int)).f2 = 0) && (!decide ((rd_T84 l5 (((m + 1) : Nat) : Int)).f2 < -500) && (!decide (500 < (rd_T84 l5 (((m + 1) : Nat) : Int)).f2) && aheadV (rd_T84 l5 (m : Int)).f0 (rd_T84 l5 (m : Int)).f1 (rd_T84 l5 (((m + 1) : Nat) : Int)).f0 (rd_T84 l5 (((m + 1) : Nat) : Int)).f1))))) := by
          unfold rokK
          rw [decide_eq_false (by omega : ¬ m + 1 = 0), Bool.false_or, hpr]
         have hzx : (rd_T84 l5 (((m + 1) : Nat) : Int)) ∈ l5 := by
          have e9 : rd_T84 l5 (((m + 1) : Nat) : Int) = l5[(m + 1)] := by simp only [rd_T84, Int.toNat_natCast, List.getD_eq_getElem?_getD, List.getElem?_eq_getElem hlt, Option.getD_some]
          rw [e9]; exact List.getElem_mem hlt
         generalize rd_T84 l5 (((m + 1) : Nat) : Int) = x at x0 x1 x2 hok hzx
         generalize rd_T84 l5 (m : Int) = p at y0 y1 y2 hok
         have e1 : IntKind.i64.wrap (((m : Int) + 1) - 1) = (m : Int) := by rw [Int.add_sub_cancel]; exact IntWalk.i64_in _ (by omega)
         have q1 : (m : Int) < (l5.length : Int) := by omega
         have q2 : (m : Int) + 1 < (l5.length : Int) := by omega
         have q3 : ((m : Int) + 1).toNat = m + 1 := by omega
         have q4 : (0 : Int) ≤ (m : Int) + 1 := by omega
         have e0 : IntKind.i64.wrap (m : Int) = (m : Int) := IntWalk.i64_in _ (by omega)
         have q5 : (0 : Int) ≤ (m : Int) := by omega
         have q7 : decide (0 < (m : Int) + 1) = true := decide_eq_true (by omega)
         have q8 : decide ((m : Int) + 1 < (l5.length : Int)) = true := decide_eq_true q2
         rw [hA] at hcf
         clear hzx
         go_wp2_with fail
         have hbX : Below wr.heap.size wr (wr.alloc (.cells #[.string x.f0, .string x.f1, .int .i64 x.f2] 84)) := (Below.refl _ wr).alloc (Nat.le_refl _) _
         have hBX := Aside0.mk (HB5.out.trans (hbX.mono HB5.out.size))
         have hbk := blk_new wr (.cells #[.string x.f0, .string x.f1, .int .i64 x.f2] 84)
         have hX0 : (wr.alloc (.cells #[.string x.f0, .string x.f1, .int .i64 x.f2] 84)).cell? ⟨wr.heap.size, 0, none⟩ = some (.string x.f0) := (blk_cell hbk 0).trans rfl
         have hX1 : (wr.alloc (.cells #[.string x.f0, .string x.f1, .int .i64 x.f2] 84)).cell? ⟨wr.heap.size, 1, none⟩ = some (.string x.f1) := (blk_cell hbk 1).trans rfl
         have hX2 : (wr.alloc (.cells #[.string x.f0, .string x.f1, .int .i64 x.f2] 84)).cell? ⟨wr.heap.size, 2, none⟩ = some (.int .i64 x.f2) := (blk_cell hbk 2).trans rfl
         have hF0 : (wr.alloc (.cells #[.string x.f0, .string x.f1, .int .i64 x.f2] 84)).cell? ⟨w.heap.size, 0, none⟩ = some (.string a) := (blk_cell (HF.out _ hBX.out) 0).trans rfl
         have hF1 : (wr.alloc (.cells #[.string x.f0, .string x.f1, .int .i64 x.f2] 84)).cell? ⟨w.heap.size, 1, none⟩ = some (.bool b) := (blk_cell (HF.out _ hBX.out) 1).trans rfl
         have hF2 : (wr.alloc (.cells #[.string x.f0, .string x.f1, .int .i64 x.f2] 84)).cell? ⟨w.heap.size, 2, none⟩ = some (.int .i64 c) := (blk_cell (HF.out _ hBX.out) 2).trans rfl
         have hF3 : (wr.alloc (.cells #[.string x.f0, .string x.f1, .int .i64 x.f2] 84)).cell? ⟨w.heap.size, 3, none⟩ = some (.slice A3 l3.length c3) := (blk_cell (HF.out _ hBX.out) 3).trans rfl
         have hF4 : (wr.alloc (.cells #[.string x.f0, .string x.f1, .int .i64 x.f2] 84)).cell? ⟨w.heap.size, 4, none⟩ = some (.slice A4 l4.length c4) := (blk_cell (HF.out _ hBX.out) 4).trans rfl
         have hF5 : (wr.alloc (.cells #[.string x.f0, .string x.f1, .int .i64 x.f2] 84)).cell? ⟨w.heap.size, 5, none⟩ = some (.slice (some ad) l5.length c5) := (blk_cell (HF.out _ hBX.out) 5).trans (by rw [hA]; rfl)
         have hP0 := (hbX.cell (World.block_lt_of_cell? wr _ y0)).trans y0
         have hP1 := (hbX.cell (World.block_lt_of_cell? wr _ y1)).trans y1
         have hq := fun (W : World) (n : ByteArray) (h : Below (wr.alloc (.cells #[.string x.f0, .string x.f1, .int .i64 x.f2] 84)).heap.size (wr.alloc (.cells #[.string x.f0, .string x.f1, .int .i64 x.f2] 84)) W) => has_q a b c A3 c3 l3 A4 c4 l4 A5 c5 l5 n W (Kd.C_below H3.out ((HW.out _ hBX.out).trans (h.mono (HW.out _ hBX.out).size))) G3.out (Kd.C_below H4.out ((HW.out _ hBX.out).trans (h.mono (HW.out _ hBX.out).size))) G4.out (Kd.C_below H5.out ((HW.out _ hBX.out).trans (h.mono (HW.out _ hBX.out).size))) G5.out hl3
         rw [hA] at hq
         clear hbk hbX x0 x1 x2 y0 y1 y2 hC hcf
         generalize wr.heap.size = g4 at hX0 hlA hX1 hX2 ⊢
         generalize (wr.alloc (.cells #[.string x.f0, .string x.f1, .int .i64 x.f2] 84)) = X at hBX hX0 hX1 hX2 hF0 hF1 hF2 hF3 hF4 hF5 hP0 hP1 hq ⊢
         have HS := Aside0.mk (fun (W : World) (h : Below X.heap.size X W) => (show W.cell? ⟨g4, 0, none⟩ = some (.string x.f0) ∧ W.cell? ⟨g4, 1, none⟩ = some (.string x.f1) ∧ W.cell? ⟨g4, 2, none⟩ = some (.int .i64 x.f2) ∧ W.cell? ⟨w.heap.size, 0, none⟩ = some (.string a) ∧ W.cell? ⟨w.heap.size, 1, none⟩ = some (.bool b) ∧ W.cell? ⟨w.heap.size, 2, none⟩ = some (.int .i64 c) ∧ W.cell? ⟨w.heap.size, 3, none⟩ = some (.slice A3 l3.length c3) ∧ W.cell? ⟨w.heap.size, 4, none⟩ = some (.slice A4 l4.length c4) ∧ W.cell? ⟨w.heap.size, 5, none⟩ = some (.slice (some ad) l5.length c5) ∧ W.cell? (ad.add (m * 3)) = some (.string p.f0) ∧ W.cell? ⟨(ad.add (m * 3)).block, (ad.add (m * 3)).off + 1, none⟩ = some (.string p.f1) from ⟨(h.cell (World.block_lt_of_cell? X _ hX0)).trans hX0, (h.cell (World.block_lt_of_cell? X _ hX1)).trans hX1, (h.cell (World.block_lt_of_cell? X _ hX2)).trans hX2, (h.cell (World.block_lt_of_cell? X _ hF0)).trans hF0, (h.cell (World.block_lt_of_cell? X _ hF1)).trans hF1, (h.cell (World.block_lt_of_cell? X _ hF2)).trans hF2, (h.cell (World.block_lt_of_cell? X _ hF3)).trans hF3, (h.cell (World.block_lt_of_cell? X _ hF4)).trans hF4, (h.cell (World.block_lt_of_cell? X _ hF5)).trans hF5, (h.cell (World.block_lt_of_cell? X _ hP0)).trans hP0, (h.cell (World.block_lt_of_cell? X _ hP1)).trans hP1⟩))
         cases r0 : rhasV l3 x.f0 with
         | false =>
          have h0 := fun (W : World) (h : Below X.heap.size X W) => hq W x.f0 h
          simp only [r0] at h0
          as_aux_lemma =>
          have hv : V = false := by
           rw [HV2.out, rangeNot (i := (m + 1)) hlt (by rw [hok, r0]; simp)]
           done
          subst hv
          refine rS (n := 53) HS rval.tab19 rval.bits19 (by kernel_rfl) rfl rfl (fun w0 H0 T U h => ?_)
          refine rP 1 (some 153) T ?_; refine rT 0 (some 152) T U h ?_; refine rT 2 (some 154) T U h ?_
          clear h; refine rC 3 (some 155) T HS H0 Tryz.func63 (h0 _ H0.out) (fun w1 H1 h => ?_) (by kernel_rfl)
          refine rP 4 (some 156) T ?_; refine rP 5 (some 157) T ?_; refine rU 6 (some 158) T ?_; refine rU 7 (some 159) T ?_; refine rU 8 (some 160) T ?_; refine rU 9 (some 161) T ?_; refine rU 10 (some 162) T ?_; refine rP 11 (some 163) T ?_; refine rP 12 (some 164) T ?_; refine rU 13 (some 165) T ?_; refine rU 14 (some 166) T ?_; refine rU 15 (some 167) T ?_; refine rP 16 (some 168) T ?_; refine rP 17 (some 169) T ?_; refine rU 18 (some 170) T ?_; refine rU 19 (some 171) T ?_; refine rU 20 (some 172) T ?_; refine rP 21 (some 173) T ?_; refine rP 22 (some 174) T ?_; refine rU 23 (some 175) T ?_; refine rU 24 (some 176) T ?_; refine rU 25 (some 177) T ?_; refine rP 26 (some 178) T ?_; refine rP 27 (some 179) T ?_; refine rU 28 (some 180) T ?_; refine rU 29 (some 181) T ?_; refine rU 30 (some 182) T ?_; refine rU 31 (some 183) T ?_; refine rU 32 (some 184) T ?_; refine rU 33 (some 185) T ?_; refine rU 34 (some 186) T ?_; refine rU 35 (some 187) T ?_; refine rU 36 (some 188) T ?_; refine rU 37 (some 189) T ?_; refine rU 38 (some 190) T ?_; refine rU 39 (some 191) T ?_; refine rU 40 (some 192) T ?_; refine rU 41 (some 193) T ?_; refine rU 42 (some 194) T ?_; refine rU 43 (some 195) T ?_; refine rU 44 (some 196) T ?_; refine rU 45 (some 197) T ?_; refine rU 46 (some 198) T ?_; refine rU 47 (some 199) T ?_; refine rU 48 (some 200) T ?_; refine rU 49 (some 201) T ?_; refine rU 50 (some 202) T ?_; refine rU 51 (some 203) T ?_; refine rP 52 (some 204) T ?_
          refine done_ (done_of T.out (by kernel_rfl)) ?_; have hB9 := hBX.out.trans (H1.out.mono hBX.out.size); clear h; try go_wp2
          go_ret
          exact ⟨rfl, HW.out _ hB9⟩
         | true =>
         have h0 := fun (W : World) (h : Below X.heap.size X W) => hq W x.f0 h
         simp only [r0] at h0
         cases r1 : rhasV l3 x.f1 with
         | false =>
          have h1 := fun (W : World) (h : Below X.heap.size X W) => hq W x.f1 h
          simp only [r1] at h1
          as_aux_lemma =>
          have hv : V = false := by
           rw [HV2.out, rangeNot (i := (m + 1)) hlt (by rw [hok, r0, r1]; simp)]
           done
          subst hv
          refine rS (n := 53) HS rval.tab19 rval.bits19 (by kernel_rfl) rfl rfl (fun w0 H0 T U h => ?_)
          refine rP 1 (some 153) T ?_; refine rT 0 (some 152) T U h ?_; refine rT 2 (some 154) T U h ?_
          clear h; refine rC 3 (some 155) T HS H0 Tryz.func63 (h0 _ H0.out) (fun w1 H1 h => ?_) (by kernel_rfl)
          refine rP 4 (some 156) T ?_; refine rP 5 (some 157) T ?_; refine rP 7 (some 159) T ?_; refine rT 6 (some 158) T U h ?_; refine rT 8 (some 160) T U h ?_
          clear h; refine rC 9 (some 161) T HS H1 Tryz.func63 (h1 _ H1.out) (fun w2 H2 h => ?_) (by kernel_rfl)
          refine rP 10 (some 162) T ?_; refine rP 11 (some 163) T ?_; refine rP 12 (some 164) T ?_; refine rU 13 (some 165) T ?_; refine rU 14 (some 166) T ?_; refine rU 15 (some 167) T ?_; refine rP 16 (some 168) T ?_; refine rP 17 (some 169) T ?_; refine rU 18 (some 170) T ?_; refine rU 19 (some 171) T ?_; refine rU 20 (some 172) T ?_; refine rP 21 (some 173) T ?_; refine rP 22 (some 174) T ?_; refine rU 23 (some 175) T ?_; refine rU 24 (some 176) T ?_; refine rU 25 (some 177) T ?_; refine rP 26 (some 178) T ?_; refine rP 27 (some 179) T ?_; refine rU 28 (some 180) T ?_; refine rU 29 (some 181) T ?_; refine rU 30 (some 182) T ?_; refine rU 31 (some 183) T ?_; refine rU 32 (some 184) T ?_; refine rU 33 (some 185) T ?_; refine rU 34 (some 186) T ?_; refine rU 35 (some 187) T ?_; refine rU 36 (some 188) T ?_; refine rU 37 (some 189) T ?_; refine rU 38 (some 190) T ?_; refine rU 39 (some 191) T ?_; refine rU 40 (some 192) T ?_; refine rU 41 (some 193) T ?_; refine rU 42 (some 194) T ?_; refine rU 43 (some 195) T ?_; refine rU 44 (some 196) T ?_; refine rU 45 (some 197) T ?_; refine rU 46 (some 198) T ?_; refine rU 47 (some 199) T ?_; refine rU 48 (some 200) T ?_; refine rU 49 (some 201) T ?_; refine rU 50 (some 202) T ?_; refine rU 51 (some 203) T ?_; refine rP 52 (some 204) T ?_
          refine done_ (done_of T.out (by kernel_rfl)) ?_; have hB9 := hBX.out.trans (H2.out.mono hBX.out.size); clear h; try go_wp2
          go_ret
          exact ⟨rfl, HW.out _ hB9⟩
         | true =>
         have h1 := fun (W : World) (h : Below X.heap.size X W) => hq W x.f1 h
         simp only [r1] at h1
         by_cases tz : x.f2 = 0
         ·have dz : decide (x.f2 = 0) = true := decide_eq_true tz
          have dz2 : (x.f2 == 0) = true := beq_iff_eq.2 tz
          as_aux_lemma =>
          have hv : V = false := by
           rw [HV2.out, rangeNot (i := (m + 1)) hlt (by rw [hok, r0, r1, dz]; simp)]
           done
          subst hv
          refine rS (n := 53) HS rval.tab19 rval.bits19 (by kernel_rfl) rfl rfl (fun w0 H0 T U h => ?_)
          refine rP 1 (some 153) T ?_; refine rT 0 (some 152) T U h ?_; refine rT 2 (some 154) T U h ?_
          clear h; refine rC 3 (some 155) T HS H0 Tryz.func63 (h0 _ H0.out) (fun w1 H1 h => ?_) (by kernel_rfl)
          refine rP 4 (some 156) T ?_; refine rP 5 (some 157) T ?_; refine rP 7 (some 159) T ?_; refine rT 6 (some 158) T U h ?_; refine rT 8 (some 160) T U h ?_
          clear h; refine rC 9 (some 161) T HS H1 Tryz.func63 (h1 _ H1.out) (fun w2 H2 h => ?_) (by kernel_rfl)
          refine rP 10 (some 162) T ?_; refine rP 11 (some 163) T ?_; refine rP 12 (some 164) T ?_; refine rP 13 (some 165) T ?_; refine rT 14 (some 166) T U h ?_; refine rP 15 (some 167) T ?_; refine rP 16 (some 168) T ?_; refine rP 17 (some 169) T ?_; refine rU 18 (some 170) T ?_; refine rU 19 (some 171) T ?_; refine rU 20 (some 172) T ?_; refine rP 21 (some 173) T ?_; refine rP 22 (some 174) T ?_; refine rU 23 (some 175) T ?_; refine rU 24 (some 176) T ?_; refine rU 25 (some 177) T ?_; refine rP 26 (some 178) T ?_; refine rP 27 (some 179) T ?_; refine rU 28 (some 180) T ?_; refine rU 29 (some 181) T ?_; refine rU 30 (some 182) T ?_; refine rU 31 (some 183) T ?_; refine rU 32 (some 184) T ?_; refine rU 33 (some 185) T ?_; refine rU 34 (some 186) T ?_; refine rU 35 (some 187) T ?_; refine rU 36 (some 188) T ?_; refine rU 37 (some 189) T ?_; refine rU 38 (some 190) T ?_; refine rU 39 (some 191) T ?_; refine rU 40 (some 192) T ?_; refine rU 41 (some 193) T ?_; refine rU 42 (some 194) T ?_; refine rU 43 (some 195) T ?_; refine rU 44 (some 196) T ?_; refine rU 45 (some 197) T ?_; refine rU 46 (some 198) T ?_; refine rU 47 (some 199) T ?_; refine rU 48 (some 200) T ?_; refine rU 49 (some 201) T ?_; refine rU 50 (some 202) T ?_; refine rU 51 (some 203) T ?_; refine rP 52 (some 204) T ?_
          refine done_ (done_of T.out (by kernel_rfl)) ?_; have hB9 := hBX.out.trans (H2.out.mono hBX.out.size); clear h; try go_wp2
          go_ret
          exact ⟨rfl, HW.out _ hB9⟩
         have dz : decide (x.f2 = 0) = false := decide_eq_false tz
         have dz2 : (x.f2 == 0) = false := beq_eq_false_iff_ne.2 tz
         by_cases tlt : x.f2 < -500
         ·have dlt : decide (x.f2 < -500) = true := decide_eq_true tlt
          skip
          as_aux_lemma =>
          have hv : V = false := by
           rw [HV2.out, rangeNot (i := (m + 1)) hlt (by rw [hok, r0, r1, dz, dlt]; simp)]
           done
          subst hv
          refine rS (n := 53) HS rval.tab19 rval.bits19 (by kernel_rfl) rfl rfl (fun w0 H0 T U h => ?_)
          refine rP 1 (some 153) T ?_; refine rT 0 (some 152) T U h ?_; refine rT 2 (some 154) T U h ?_
          clear h; refine rC 3 (some 155) T HS H0 Tryz.func63 (h0 _ H0.out) (fun w1 H1 h => ?_) (by kernel_rfl)
          refine rP 4 (some 156) T ?_; refine rP 5 (some 157) T ?_; refine rP 7 (some 159) T ?_; refine rT 6 (some 158) T U h ?_; refine rT 8 (some 160) T U h ?_
          clear h; refine rC 9 (some 161) T HS H1 Tryz.func63 (h1 _ H1.out) (fun w2 H2 h => ?_) (by kernel_rfl)
          refine rP 10 (some 162) T ?_; refine rP 11 (some 163) T ?_; refine rP 12 (some 164) T ?_; refine rP 13 (some 165) T ?_; refine rT 14 (some 166) T U h ?_; refine rP 15 (some 167) T ?_; refine rP 16 (some 168) T ?_; refine rP 17 (some 169) T ?_; refine rP 18 (some 170) T ?_; refine rT 19 (some 171) T U h ?_; refine rP 20 (some 172) T ?_; refine rP 21 (some 173) T ?_; refine rP 22 (some 174) T ?_; refine rU 23 (some 175) T ?_; refine rU 24 (some 176) T ?_; refine rU 25 (some 177) T ?_; refine rP 26 (some 178) T ?_; refine rP 27 (some 179) T ?_; refine rU 28 (some 180) T ?_; refine rU 29 (some 181) T ?_; refine rU 30 (some 182) T ?_; refine rU 31 (some 183) T ?_; refine rU 32 (some 184) T ?_; refine rU 33 (some 185) T ?_; refine rU 34 (some 186) T ?_; refine rU 35 (some 187) T ?_; refine rU 36 (some 188) T ?_; refine rU 37 (some 189) T ?_; refine rU 38 (some 190) T ?_; refine rU 39 (some 191) T ?_; refine rU 40 (some 192) T ?_; refine rU 41 (some 193) T ?_; refine rU 42 (some 194) T ?_; refine rU 43 (some 195) T ?_; refine rU 44 (some 196) T ?_; refine rU 45 (some 197) T ?_; refine rU 46 (some 198) T ?_; refine rU 47 (some 199) T ?_; refine rU 48 (some 200) T ?_; refine rU 49 (some 201) T ?_; refine rU 50 (some 202) T ?_; refine rU 51 (some 203) T ?_; refine rP 52 (some 204) T ?_
          refine done_ (done_of T.out (by kernel_rfl)) ?_; have hB9 := hBX.out.trans (H2.out.mono hBX.out.size); clear h; try go_wp2
          go_ret
          exact ⟨rfl, HW.out _ hB9⟩
         have dlt : decide (x.f2 < -500) = false := decide_eq_false tlt
         skip
         by_cases tgt : 500 < x.f2
         ·have dgt : decide (500 < x.f2) = true := decide_eq_true tgt
          skip
          as_aux_lemma =>
          have hv : V = false := by
           rw [HV2.out, rangeNot (i := (m + 1)) hlt (by rw [hok, r0, r1, dz, dlt, dgt]; simp)]
           done
          subst hv
          refine rS (n := 53) HS rval.tab19 rval.bits19 (by kernel_rfl) rfl rfl (fun w0 H0 T U h => ?_)
          refine rP 1 (some 153) T ?_; refine rT 0 (some 152) T U h ?_; refine rT 2 (some 154) T U h ?_
          clear h; refine rC 3 (some 155) T HS H0 Tryz.func63 (h0 _ H0.out) (fun w1 H1 h => ?_) (by kernel_rfl)
          refine rP 4 (some 156) T ?_; refine rP 5 (some 157) T ?_; refine rP 7 (some 159) T ?_; refine rT 6 (some 158) T U h ?_; refine rT 8 (some 160) T U h ?_
          clear h; refine rC 9 (some 161) T HS H1 Tryz.func63 (h1 _ H1.out) (fun w2 H2 h => ?_) (by kernel_rfl)
          refine rP 10 (some 162) T ?_; refine rP 11 (some 163) T ?_; refine rP 12 (some 164) T ?_; refine rP 13 (some 165) T ?_; refine rT 14 (some 166) T U h ?_; refine rP 15 (some 167) T ?_; refine rP 16 (some 168) T ?_; refine rP 17 (some 169) T ?_; refine rP 18 (some 170) T ?_; refine rT 19 (some 171) T U h ?_; refine rP 20 (some 172) T ?_; refine rP 21 (some 173) T ?_; refine rP 22 (some 174) T ?_; refine rP 23 (some 175) T ?_; refine rT 24 (some 176) T U h ?_; refine rP 25 (some 177) T ?_; refine rP 26 (some 178) T ?_; refine rP 27 (some 179) T ?_; refine rU 28 (some 180) T ?_; refine rU 29 (some 181) T ?_; refine rU 30 (some 182) T ?_; refine rU 31 (some 183) T ?_; refine rU 32 (some 184) T ?_; refine rU 33 (some 185) T ?_; refine rU 34 (some 186) T ?_; refine rU 35 (some 187) T ?_; refine rU 36 (some 188) T ?_; refine rU 37 (some 189) T ?_; refine rU 38 (some 190) T ?_; refine rU 39 (some 191) T ?_; refine rU 40 (some 192) T ?_; refine rU 41 (some 193) T ?_; refine rU 42 (some 194) T ?_; refine rU 43 (some 195) T ?_; refine rU 44 (some 196) T ?_; refine rU 45 (some 197) T ?_; refine rU 46 (some 198) T ?_; refine rU 47 (some 199) T ?_; refine rU 48 (some 200) T ?_; refine rU 49 (some 201) T ?_; refine rU 50 (some 202) T ?_; refine rU 51 (some 203) T ?_; refine rP 52 (some 204) T ?_
          refine done_ (done_of T.out (by kernel_rfl)) ?_; have hB9 := hBX.out.trans (H2.out.mono hBX.out.size); clear h; try go_wp2
          go_ret
          exact ⟨rfl, HW.out _ hB9⟩
         have dgt : decide (500 < x.f2) = false := decide_eq_false tgt
         skip
         have hah := fun W => (ahead_q p.f0 p.f1 x.f0 x.f1 W).mono fun e w' k => And.intro k.1 (drawn_below k.2)
         cases ra : aheadV p.f0 p.f1 x.f0 x.f1 with
         | false =>
          simp only [ra] at hah
          as_aux_lemma =>
          have hv : V = false := by
           rw [HV2.out, rangeNot (i := (m + 1)) hlt (by rw [hok, r0, r1, dz, dlt, dgt, ra]; simp)]
           done
          subst hv
          refine rS (n := 53) HS rval.tab19 rval.bits19 (by kernel_rfl) rfl rfl (fun w0 H0 T U h => ?_)
          refine rP 1 (some 153) T ?_; refine rT 0 (some 152) T U h ?_; refine rT 2 (some 154) T U h ?_
          clear h; refine rC 3 (some 155) T HS H0 Tryz.func63 (h0 _ H0.out) (fun w1 H1 h => ?_) (by kernel_rfl)
          refine rP 4 (some 156) T ?_; refine rP 5 (some 157) T ?_; refine rP 7 (some 159) T ?_; refine rT 6 (some 158) T U h ?_; refine rT 8 (some 160) T U h ?_
          clear h; refine rC 9 (some 161) T HS H1 Tryz.func63 (h1 _ H1.out) (fun w2 H2 h => ?_) (by kernel_rfl)
          refine rP 10 (some 162) T ?_; refine rP 11 (some 163) T ?_; refine rP 12 (some 164) T ?_; refine rP 13 (some 165) T ?_; refine rT 14 (some 166) T U h ?_; refine rP 15 (some 167) T ?_; refine rP 16 (some 168) T ?_; refine rP 17 (some 169) T ?_; refine rP 18 (some 170) T ?_; refine rT 19 (some 171) T U h ?_; refine rP 20 (some 172) T ?_; refine rP 21 (some 173) T ?_; refine rP 22 (some 174) T ?_; refine rP 23 (some 175) T ?_; refine rT 24 (some 176) T U h ?_; refine rP 25 (some 177) T ?_; refine rP 26 (some 178) T ?_; refine rP 27 (some 179) T ?_; refine rP 28 (some 180) T ?_; refine rP 29 (some 181) T ?_; refine rP 30 (some 182) T ?_; refine rP 31 (some 183) T ?_; refine rP 33 (some 185) T ?_; refine rP 34 (some 186) T ?_; refine rP 38 (some 190) T ?_; refine rP 40 (some 192) T ?_; refine rP 41 (some 193) T ?_; refine rP 45 (some 197) T ?_; refine rP 47 (some 199) T ?_; refine rT 32 (some 184) T U h ?_; refine rP 35 (some 187) T ?_; refine rP 36 (some 188) T ?_; refine rT 37 (some 189) T U h ?_; refine rT 39 (some 191) T U h ?_; refine rP 42 (some 194) T ?_; refine rP 43 (some 195) T ?_; refine rT 44 (some 196) T U h ?_; refine rT 46 (some 198) T U h ?_; refine rT 48 (some 200) T U h ?_
          clear h; refine rC 49 (some 201) T HS H2 Tryz.func106 (hah _) (fun w3 H3 h => ?_) (by kernel_rfl)
          refine rP 50 (some 202) T ?_; refine rP 51 (some 203) T ?_; refine rP 52 (some 204) T ?_
          refine done_ (done_of T.out (by kernel_rfl)) ?_; have hB9 := hBX.out.trans (H3.out.mono hBX.out.size); clear h; try go_wp2
          go_ret
          exact ⟨rfl, HW.out _ hB9⟩
         | true =>
         simp only [ra] at hah
         as_aux_lemma =>
         have hok2 : rokK l3 l5 (m + 1) = true := by rw [hok, r0, r1, dz, dlt, dgt, ra]; rfl
         refine rS (n := 53) HS rval.tab19 rval.bits19 (by kernel_rfl) rfl rfl (fun w0 H0 T U h => ?_)
         refine rP 1 (some 153) T ?_; refine rT 0 (some 152) T U h ?_; refine rT 2 (some 154) T U h ?_
         clear h; refine rC 3 (some 155) T HS H0 Tryz.func63 (h0 _ H0.out) (fun w1 H1 h => ?_) (by kernel_rfl)
         refine rP 4 (some 156) T ?_; refine rP 5 (some 157) T ?_; refine rP 7 (some 159) T ?_; refine rT 6 (some 158) T U h ?_; refine rT 8 (some 160) T U h ?_
         clear h; refine rC 9 (some 161) T HS H1 Tryz.func63 (h1 _ H1.out) (fun w2 H2 h => ?_) (by kernel_rfl)
         refine rP 10 (some 162) T ?_; refine rP 11 (some 163) T ?_; refine rP 12 (some 164) T ?_; refine rP 13 (some 165) T ?_; refine rT 14 (some 166) T U h ?_; refine rP 15 (some 167) T ?_; refine rP 16 (some 168) T ?_; refine rP 17 (some 169) T ?_; refine rP 18 (some 170) T ?_; refine rT 19 (some 171) T U h ?_; refine rP 20 (some 172) T ?_; refine rP 21 (some 173) T ?_; refine rP 22 (some 174) T ?_; refine rP 23 (some 175) T ?_; refine rT 24 (some 176) T U h ?_; refine rP 25 (some 177) T ?_; refine rP 26 (some 178) T ?_; refine rP 27 (some 179) T ?_; refine rP 28 (some 180) T ?_; refine rP 29 (some 181) T ?_; refine rP 30 (some 182) T ?_; refine rP 31 (some 183) T ?_; refine rP 33 (some 185) T ?_; refine rP 34 (some 186) T ?_; refine rP 38 (some 190) T ?_; refine rP 40 (some 192) T ?_; refine rP 41 (some 193) T ?_; refine rP 45 (some 197) T ?_; refine rP 47 (some 199) T ?_; refine rT 32 (some 184) T U h ?_; refine rP 35 (some 187) T ?_; refine rP 36 (some 188) T ?_; refine rT 37 (some 189) T U h ?_; refine rT 39 (some 191) T U h ?_; refine rP 42 (some 194) T ?_; refine rP 43 (some 195) T ?_; refine rT 44 (some 196) T U h ?_; refine rT 46 (some 198) T U h ?_; refine rT 48 (some 200) T U h ?_
         clear h; refine rC 49 (some 201) T HS H2 Tryz.func106 (hah _) (fun w3 H3 h => ?_) (by kernel_rfl)
         refine rP 50 (some 202) T ?_; refine rP 51 (some 203) T ?_; refine rP 52 (some 204) T ?_
         refine done_ (done_of T.out (by kernel_rfl)) ?_; have hB9 := hBX.out.trans (H3.out.mono hBX.out.size); clear h; try go_wp2
         go_roundw
         case rel => exact ⟨m + 1 + 1, by first | rfl | (simp; done) | go_num, by omega, ⟨hB9⟩, ⟨fun j hj => (Nat.lt_succ_iff_lt_or_eq.1 hj).elim (HK5.out j) (fun e => by rw [e]; exact hok2)⟩⟩
         case measure => simp [intOf]; omega
       ·obtain rfl : i = l5.length := by omega
        have q2 : decide ((l5.length : Int) < (l5.length : Int)) = false := decide_eq_false (by omega)
        have q1 : ¬ (l5.length : Int) < (l5.length : Int) := by omega
        have HV2 : Aside0 (V = true) := ⟨by rw [HV2.out, rangeAll HK5.out]⟩
        go_wp2
        go_ret
        exact ⟨by rw [HV2.out]; rfl, HW.out _ HB5.out⟩
/-- As the printed callers ask it. -/
def frisketref07_Valid.f (a : ByteArray) (_ : Bool) (c : Int) (l3 : List S81) (l4 : List S83) (l5 : List S84) : Option Bool :=
 if l3.length ≤ 1000000000 ∧ l4.length ≤ 1000000000 ∧ l5.length ≤ 1000000000 ∧ a.size ≤ 140737488355328 ∧ (l3.all fun x => decide (x.f0.size ≤ 140737488355328)) = true then some (rvalidV a c l3 l4 l5) else none
theorem frisketref07_Valid.calls (a : ByteArray) (b : Bool) (c : Int) (A3 : Option Addr) (c3 : Nat) (l3 : List S81) (A4 : Option Addr) (c4 : Nat) (l4 : List S83) (A5 : Option Addr) (c5 : Nat) (l5 : List S84) (r : Bool) (w : World) (h3 : Kd.C k81 w A3 l3.length l3) (g3 : l3.length ≤ c3) (h4 : Kd.C k83 w A4 l4.length l4) (g4 : l4.length ≤ c4) (h5 : Kd.C k84 w A5 l5.length l5) (g5 : l5.length ≤ c5) (h : frisketref07_Valid.f a b c l3 l4 l5 = some r) :
  Calls Tryz.prog 61 #[.agg #[.string a, .bool b, .int .i64 c, .slice A3 l3.length c3, .slice A4 l4.length c4, .slice A5 l5.length c5]] w fun e w' => e = .returned (.bool r) ∧ Below w.heap.size w w' := by
 unfold frisketref07_Valid.f at h
 split at h
 ·rename_i hl
  obtain rfl := Option.some.inj h
  exact rvalid_any a b c A3 c3 l3 A4 c4 l4 A5 c5 l5 w h3 g3 h4 g4 h5 g5 hl.1 hl.2.1 hl.2.2.1 hl.2.2.2.1 (fun x hx => of_decide_eq_true (List.all_eq_true.1 hl.2.2.2.2 x hx))
 ·cases h
end Go.Proofs.YtaifemkokfoadaaGreatDoor

namespace Go.Proofs.YtaifemkokfoadaaGreatDoor.PX
open Go.RowKit Go.Proofs.YtaifemkokfoadaaGreatDoorW.PrintWords Go.Proofs.YtaifemkokfoadaaGreatDoorW.PrintLast Go.Proofs.YtaifemkokfoadaaGreatDoorW.PrintMore
attribute [local go_sem] max2_int min2_int max_two min_two max_three min_three max_four min_four   -- for this text's walks alone
set_option linter.unusedVariables false
set_option linter.unusedSimpArgs false
def frisketref07_Width.j0 : Nat → ByteArray → Int → Bool → ByteArray → Bool → Int → List (S81) → List (S83) → List (S84) → Option (Int × Int)
 | 0, _, _, _, _, _, _, _, _, _ => none
 | k + 1, x1, x2, x20, x388000, x388001, x388002, x388003, x388004, x388005 => if x20 = true then (some (0, 1)) else ((frisketref07_WidthOf.f k x388000 x388001 x388002 x388003 x388004 x388005 x1 x2).bind fun bt389 => (if bt389.2 = true then (some (bt389.1, 0)) else (some (0, 3))))
def frisketref07_Width.f (k : Nat) (a0_0 : ByteArray) (a0_1 : Bool) (a0_2 : Int) (l0_3 : List (S81)) (l0_4 : List (S83)) (l0_5 : List (S84)) (a1 : ByteArray) (a2 : Int) : Option (Int × Int) := if a2 < 1 then (frisketref07_Width.j0 k a1 a2 true a0_0 a0_1 a0_2 l0_3 l0_4 l0_5) else (if a2 > 1000 then (frisketref07_Width.j0 k a1 a2 true a0_0 a0_1 a0_2 l0_3 l0_4 l0_5) else ((frisketref07_Valid.f a0_0 a0_1 a0_2 l0_3 l0_4 l0_5).bind fun t388 => (frisketref07_Width.j0 k a1 a2 (!t388) a0_0 a0_1 a0_2 l0_3 l0_4 l0_5)))
set_option maxHeartbeats 8000000 in
set_option maxRecDepth 100000 in
theorem frisketref07_Width.calls (k : Nat) (a0_0 : ByteArray) (a0_1 : Bool) (a0_2 : Int) (A0_3 : Option Addr) (c0_3 : Nat) (l0_3 : List (S81)) (A0_4 : Option Addr) (c0_4 : Nat) (l0_4 : List (S83)) (A0_5 : Option Addr) (c0_5 : Nat) (l0_5 : List (S84)) (a1 : ByteArray) (a2 : Int) (r1 : Int) (r2 : Int) (w : World) (hr0_3 : Kd.C k81 w A0_3 l0_3.length l0_3) (hc0_3 : l0_3.length ≤ c0_3) (hr0_4 : Kd.C k83 w A0_4 l0_4.length l0_4) (hc0_4 : l0_4.length ≤ c0_4) (hr0_5 : Kd.C k84 w A0_5 l0_5.length l0_5) (hc0_5 : l0_5.length ≤ c0_5) (h : frisketref07_Width.f k a0_0 a0_1 a0_2 l0_3 l0_4 l0_5 a1 a2 = some (r1, r2)) :
  Calls Tryz.prog 66 #[.agg #[.string a0_0, .bool a0_1, .int .i64 a0_2, .slice A0_3 l0_3.length c0_3, .slice A0_4 l0_4.length c0_4, .slice A0_5 l0_5.length c0_5], .string a1, .int .i64 a2] w fun e w' => e = .returned (.tuple #[.int .i64 r1, .int .i64 r2]) ∧ Below w.heap.size w w' := by
 have hu44 := Tryz.underlying44
 have HR0_3 := Aside0.mk hr0_3
 have HC0_3 := Aside0.mk hc0_3
 clear hr0_3 hc0_3
 have HR0_4 := Aside0.mk hr0_4
 have HC0_4 := Aside0.mk hc0_4
 clear hr0_4 hc0_4
 have HR0_5 := Aside0.mk hr0_5
 have HC0_5 := Aside0.mk hc0_5
 clear hr0_5 hc0_5
 have HB := Aside0.mk (Below.refl w.heap.size w)
 have H : (if a2 < 1 then (frisketref07_Width.j0 k a1 a2 true a0_0 a0_1 a0_2 l0_3 l0_4 l0_5) else (if a2 > 1000 then (frisketref07_Width.j0 k a1 a2 true a0_0 a0_1 a0_2 l0_3 l0_4 l0_5) else ((frisketref07_Valid.f a0_0 a0_1 a0_2 l0_3 l0_4 l0_5).bind fun t388 => (frisketref07_Width.j0 k a1 a2 (!t388) a0_0 a0_1 a0_2 l0_3 l0_4 l0_5)))) = some (r1, r2) := h
 clear h
 have HC4 := Aside0.mk H
 clear H
 go_enter Tryz.func66, Tryz.ntmps66
 go_upto_region 1 with (first | ((with_reducible refine gate_dst (N := 3) rfl ?_); refine box_event ?hg (N := 3) ?hd (cs := #[.string a0_0, .bool a0_1, .int .i64 a0_2, .slice A0_3 l0_3.length c0_3, .slice A0_4 l0_4.length c0_4, .slice A0_5 l0_5.length c0_5]) (t := 44) ?hr ?_; (case hd => rfl); (case hg => rfl); (case hr => first | (go_simp; done) | (go_simp; rfl)); intro gb387 hg w5 hbox hb; have n0_ := Aside0.mk (below_step (by repeat (first | (with_reducible first | exact HB.out | apply below_alloc | apply pw_below_drewN | apply below_drew1) | exact HB.out)) hb); have n1_ := Aside0.mk (hbox); have n2_ := Aside0.mk ((by rw [hg]; exact (below_size (by repeat (first | (with_reducible first | exact HB.out | apply below_alloc | apply pw_below_drewN | apply below_drew1) | exact HB.out))) : w.heap.size ≤ gb387)); have n3_ := Aside0.mk ((by rw [hg]; exact (below_size (by repeat (first | (with_reducible first | exact HB.out | apply below_alloc | apply pw_below_drewN | apply below_drew1) | exact HB.out))) : w.heap.size ≤ gb387)); clear HB; have HB := n0_; have BK387 := n1_; have GW387 := n2_; have GE387 := n3_; clear n0_ n1_ n2_ n3_; clear hb hbox hg))
 (try simp only [Act.put, List.setIfInBounds_toArray, List.set_cons_zero, List.set_cons_succ])
 go_cut [20] (fun v20 wc => ∃ (kq : Nat) (x20_3 : Bool), v20 = .bool x20_3 ∧ Aside0 (frisketref07_Width.j0 kq a1 a2 x20_3 a0_0 a0_1 a0_2 l0_3 l0_4 l0_5 = some (r1, r2)) ∧ Aside0 (kq ≤ k) ∧ Aside0 (wc.heap[gb387]? = some (.cells #[.string a0_0, .bool a0_1, .int .i64 a0_2, (.slice A0_3 l0_3.length c0_3), (.slice A0_4 l0_4.length c0_4), (.slice A0_5 l0_5.length c0_5)] 44 (0, 0))) ∧ Aside0 (Below w.heap.size w wc))
 case first =>
  have H := HC4.out
  clear HC4
  by_cases c6 : a2 < 1
  ·rw [if_pos c6] at H
   have c6b0 : decide (a2 < 1) = true := decide_eq_true c6
   clear c6
   (first | rw [c6b0] | (simp only [i64_w, i32_w]; rw [c6b0]) | skip)
   have H' := Aside0.mk H
   clear H
   go_wp2
   go_meet
   case rel => exact ⟨_, (true), (by first | rfl | (simp; done) | (simp [*]; done)), H', ⟨by first | omega | exact Nat.le_refl _⟩, ⟨by (with_reducible repeat (first | refine blk_drewN ?_ _ | refine blk_drew ?_ | refine blk_alloc ?_ _)); exact BK387.out⟩, ⟨by repeat (first | (with_reducible first | exact HB.out | apply below_alloc | apply pw_below_drewN | apply below_drew1 | refine below_set ?_ GE387.out) | exact HB.out)⟩⟩
  ·rw [if_neg c6] at H
   have c6b0 : decide (a2 < 1) = false := decide_eq_false c6
   clear c6
   (first | rw [c6b0] | (simp only [i64_w, i32_w]; rw [c6b0]) | skip)
   by_cases c7 : a2 > 1000
   ·rw [if_pos c7] at H
    have c7b0 : decide (1000 < a2) = true := decide_eq_true c7
    clear c7
    have H' := Aside0.mk H
    clear H
    go_wp2
    go_meet
    case rel => exact ⟨_, (true), (by first | rfl | (simp; done) | (simp [*]; done)), H', ⟨by first | omega | exact Nat.le_refl _⟩, ⟨by (with_reducible repeat (first | refine blk_drewN ?_ _ | refine blk_drew ?_ | refine blk_alloc ?_ _)); exact BK387.out⟩, ⟨by repeat (first | (with_reducible first | exact HB.out | apply below_alloc | apply pw_below_drewN | apply below_drew1 | refine below_set ?_ GE387.out) | exact HB.out)⟩⟩
   ·rw [if_neg c7] at H
    have c7b0 : decide (1000 < a2) = false := decide_eq_false c7
    clear c7
    replace H := Option.bind_eq_some_iff.mp H
    obtain ⟨t388, A80, H⟩ := H
    replace H : (frisketref07_Width.j0 k a1 a2 (!t388) a0_0 a0_1 a0_2 l0_3 l0_4 l0_5) = some (r1, r2) := H
    have A8 := Aside0.mk A80
    clear A80
    have H' := Aside0.mk H
    clear H
    have hcz9_0 : w5.cell? ⟨gb387, 0, none⟩ = some (.string a0_0) := (blk_cell BK387.out 0).trans rfl
    have hcz9_1 : w5.cell? ⟨gb387, 1, none⟩ = some (.bool a0_1) := (blk_cell BK387.out 1).trans rfl
    have hcz9_2 : w5.cell? ⟨gb387, 2, none⟩ = some (.int .i64 a0_2) := (blk_cell BK387.out 2).trans rfl
    have hcz9_3 : w5.cell? ⟨gb387, 3, none⟩ = some (.slice A0_3 l0_3.length c0_3) := (blk_cell BK387.out 3).trans rfl
    have hcz9_4 : w5.cell? ⟨gb387, 4, none⟩ = some (.slice A0_4 l0_4.length c0_4) := (blk_cell BK387.out 4).trans rfl
    have hcz9_5 : w5.cell? ⟨gb387, 5, none⟩ = some (.slice A0_5 l0_5.length c0_5) := (blk_cell BK387.out 5).trans rfl
    have hfz9_0 := blk_frozen BK387.out 0
    have hfz9_1 := blk_frozen BK387.out 1
    have hfz9_2 := blk_frozen BK387.out 2
    have hfz9_3 := blk_frozen BK387.out 3
    have hfz9_4 := blk_frozen BK387.out 4
    have hfz9_5 := blk_frozen BK387.out 5
    go_wp2_with (first | (go_at_call 61; (with_reducible refine (frisketref07_Valid.calls a0_0 a0_1 a0_2 _ _ l0_3 _ _ l0_4 _ _ l0_5 t388 _ ?side1 ?side2 ?side3 ?side4 ?side5 ?side6 A8.out).mono ?_); (case side1 => repeat (first | exact (Kd.C_below HR0_3.out HB.out) | (with_reducible refine Kd.C_alloc ?_ _) | (with_reducible refine Kd.C_drewN ?_ _) | (with_reducible refine Kd.C_drew ?_))); (case side2 => exact HC0_3.out); (case side3 => repeat (first | exact (Kd.C_below HR0_4.out HB.out) | (with_reducible refine Kd.C_alloc ?_ _) | (with_reducible refine Kd.C_drewN ?_ _) | (with_reducible refine Kd.C_drew ?_))); (case side4 => exact HC0_4.out); (case side5 => repeat (first | exact (Kd.C_below HR0_5.out HB.out) | (with_reducible refine Kd.C_alloc ?_ _) | (with_reducible refine Kd.C_drewN ?_ _) | (with_reducible refine Kd.C_drew ?_))); (case side6 => exact HC0_5.out); rintro e w10 ⟨rfl, hb⟩; have n0_ := Aside0.mk (blk_below (g := gb387) (o := .cells #[.string a0_0, .bool a0_1, .int .i64 a0_2, .slice A0_3 l0_3.length c0_3, .slice A0_4 l0_4.length c0_4, .slice A0_5 l0_5.length c0_5] 44 (0, 0)) (by (with_reducible repeat (first | refine blk_drewN ?_ _ | refine blk_drew ?_ | refine blk_alloc ?_ _)); exact BK387.out) hb); have n1_ := Aside0.mk (below_step (by repeat (first | (with_reducible first | exact HB.out | apply below_alloc | apply pw_below_drewN | apply below_drew1 | refine below_set ?_ GE387.out) | exact HB.out)) hb); clear BK387; clear HB; have BK387 := n0_; have HB := n1_; clear n0_ n1_; (try clear hb); (try clear hb2); (try clear hk); (try clear hi)))
    go_meet
    case rel => exact ⟨_, (!t388), (by first | rfl | (simp; done) | (simp [*]; done)), H', ⟨by first | omega | exact Nat.le_refl _⟩, ⟨by (with_reducible repeat (first | refine blk_drewN ?_ _ | refine blk_drew ?_ | refine blk_alloc ?_ _)); exact BK387.out⟩, ⟨by repeat (first | (with_reducible first | exact HB.out | apply below_alloc | apply pw_below_drewN | apply below_drew1 | refine below_set ?_ GE387.out) | exact HB.out)⟩⟩
 case rest =>
  clear HC4
  try clear p2
  try clear c6
  try clear c6b0
  try clear c7
  try clear c7b0
  try clear hcz9_0
  try clear hcz9_1
  try clear hcz9_2
  try clear hcz9_3
  try clear hcz9_4
  try clear hcz9_5
  try clear hfz9_0
  try clear hfz9_1
  try clear hfz9_2
  try clear hfz9_3
  try clear hfz9_4
  try clear hfz9_5
  obtain ⟨kq, x20_3, rfl, HA, HJ3, BK387, HB⟩ := hcut
  cases kq with
  | zero => exact absurd HA.out (by simp [frisketref07_Width.j0])
  | succ kj3 =>
   have H := HA.out
   clear HA
   simp only [frisketref07_Width.j0] at H
   by_cases c11 : x20_3 = true
   ·subst c11
    have H1 : (some (0, 1)) = some (r1, r2) := by rw [if_pos rfl] at H; exact H
    clear H
    have H := H1
    clear H1
    simp only [Option.some.injEq, Prod.mk.injEq] at H
    obtain ⟨rfl, rfl⟩ := H
    go_wp2
    go_ret2
    exact ⟨by first | rfl | (simp [errW_none, errW_some] <;> rfl) | (simp [*, errW_none, errW_some] <;> rfl), by repeat (first | (with_reducible first | exact HB.out | apply below_alloc | apply pw_below_drewN | apply below_drew1 | refine below_set ?_ GE387.out) | exact HB.out)⟩
   ·replace c11 := Bool.eq_false_iff.mpr c11
    subst c11
    have H1 : ((frisketref07_WidthOf.f kj3 a0_0 a0_1 a0_2 l0_3 l0_4 l0_5 a1 a2).bind fun bt389 => (if bt389.2 = true then (some (bt389.1, 0)) else (some (0, 3)))) = some (r1, r2) := by rw [if_neg (show ¬ (false = true) by decide)] at H; exact H
    clear H
    have H := H1
    clear H1
    replace H := Option.bind_eq_some_iff.mp H
    obtain ⟨⟨t389, t390⟩, A120, H⟩ := H
    replace H : (if t390 = true then (some (t389, 0)) else (some (0, 3))) = some (r1, r2) := H
    have A12 := Aside0.mk A120
    clear A120
    by_cases c13 : t390 = true
    ·subst c13
     have H1 : (some (t389, 0)) = some (r1, r2) := by rw [if_pos rfl] at H; exact H
     clear H
     have H := H1
     clear H1
     simp only [Option.some.injEq, Prod.mk.injEq] at H
     obtain ⟨rfl, rfl⟩ := H
     have hcz14_0 : wc.cell? ⟨gb387, 0, none⟩ = some (.string a0_0) := (blk_cell BK387.out 0).trans rfl
     have hcz14_1 : wc.cell? ⟨gb387, 1, none⟩ = some (.bool a0_1) := (blk_cell BK387.out 1).trans rfl
     have hcz14_2 : wc.cell? ⟨gb387, 2, none⟩ = some (.int .i64 a0_2) := (blk_cell BK387.out 2).trans rfl
     have hcz14_3 : wc.cell? ⟨gb387, 3, none⟩ = some (.slice A0_3 l0_3.length c0_3) := (blk_cell BK387.out 3).trans rfl
     have hcz14_4 : wc.cell? ⟨gb387, 4, none⟩ = some (.slice A0_4 l0_4.length c0_4) := (blk_cell BK387.out 4).trans rfl
     have hcz14_5 : wc.cell? ⟨gb387, 5, none⟩ = some (.slice A0_5 l0_5.length c0_5) := (blk_cell BK387.out 5).trans rfl
     have hfz14_0 := blk_frozen BK387.out 0
     have hfz14_1 := blk_frozen BK387.out 1
     have hfz14_2 := blk_frozen BK387.out 2
     have hfz14_3 := blk_frozen BK387.out 3
     have hfz14_4 := blk_frozen BK387.out 4
     have hfz14_5 := blk_frozen BK387.out 5
     go_wp2_with (first | ((with_reducible refine gate_callee (f := 109) rfl ?_); refine goesL_ (some 25) rfl rfl Tryz.func109 (by kernel_rfl) rfl #[.agg #[.string a0_0, .bool a0_1, .int .i64 a0_2, .slice A0_3 l0_3.length c0_3, .slice A0_4 l0_4.length c0_4, .slice A0_5 l0_5.length c0_5], .string a1, .int .i64 a2] rfl (by (try simp only [List.map_toArray, List.map_cons, List.map_nil]); first | done | rfl | (simp only [List.length_drop, List.length_take]; rfl)) ?_; (with_reducible refine (frisketref07_WidthOf.calls kj3 a0_0 a0_1 a0_2 _ _ l0_3 _ _ l0_4 _ _ l0_5 a1 a2 t389 true _ ?side1 ?side2 ?side3 ?side4 ?side5 ?side6 A12.out).mono ?_); (case side1 => repeat (first | exact (Kd.C_below HR0_3.out HB.out) | (with_reducible refine Kd.C_alloc ?_ _) | (with_reducible refine Kd.C_drewN ?_ _) | (with_reducible refine Kd.C_drew ?_))); (case side2 => exact HC0_3.out); (case side3 => repeat (first | exact (Kd.C_below HR0_4.out HB.out) | (with_reducible refine Kd.C_alloc ?_ _) | (with_reducible refine Kd.C_drewN ?_ _) | (with_reducible refine Kd.C_drew ?_))); (case side4 => exact HC0_4.out); (case side5 => repeat (first | exact (Kd.C_below HR0_5.out HB.out) | (with_reducible refine Kd.C_alloc ?_ _) | (with_reducible refine Kd.C_drewN ?_ _) | (with_reducible refine Kd.C_drew ?_))); (case side6 => exact HC0_5.out); rintro e w15 ⟨rfl, hb⟩; refine ⟨_, rfl, ?_⟩; have n0_ := Aside0.mk (blk_below (g := gb387) (o := .cells #[.string a0_0, .bool a0_1, .int .i64 a0_2, .slice A0_3 l0_3.length c0_3, .slice A0_4 l0_4.length c0_4, .slice A0_5 l0_5.length c0_5] 44 (0, 0)) (by (with_reducible repeat (first | refine blk_drewN ?_ _ | refine blk_drew ?_ | refine blk_alloc ?_ _)); exact BK387.out) hb); have n1_ := Aside0.mk (below_step (by repeat (first | (with_reducible first | exact HB.out | apply below_alloc | apply pw_below_drewN | apply below_drew1 | refine below_set ?_ GE387.out) | exact HB.out)) hb); clear BK387; clear HB; have BK387 := n0_; have HB := n1_; clear n0_ n1_; (try clear hb); (try clear hb2); (try clear hk); (try clear hi)))
     go_ret2
     exact ⟨by first | rfl | (simp [errW_none, errW_some] <;> rfl) | (simp [*, errW_none, errW_some] <;> rfl), by repeat (first | (with_reducible first | exact HB.out | apply below_alloc | apply pw_below_drewN | apply below_drew1 | refine below_set ?_ GE387.out) | exact HB.out)⟩
    ·replace c13 := Bool.eq_false_iff.mpr c13
     subst c13
     have H1 : (some (0, 3)) = some (r1, r2) := by rw [if_neg (show ¬ (false = true) by decide)] at H; exact H
     clear H
     have H := H1
     clear H1
     simp only [Option.some.injEq, Prod.mk.injEq] at H
     obtain ⟨rfl, rfl⟩ := H
     have hcz16_0 : wc.cell? ⟨gb387, 0, none⟩ = some (.string a0_0) := (blk_cell BK387.out 0).trans rfl
     have hcz16_1 : wc.cell? ⟨gb387, 1, none⟩ = some (.bool a0_1) := (blk_cell BK387.out 1).trans rfl
     have hcz16_2 : wc.cell? ⟨gb387, 2, none⟩ = some (.int .i64 a0_2) := (blk_cell BK387.out 2).trans rfl
     have hcz16_3 : wc.cell? ⟨gb387, 3, none⟩ = some (.slice A0_3 l0_3.length c0_3) := (blk_cell BK387.out 3).trans rfl
     have hcz16_4 : wc.cell? ⟨gb387, 4, none⟩ = some (.slice A0_4 l0_4.length c0_4) := (blk_cell BK387.out 4).trans rfl
     have hcz16_5 : wc.cell? ⟨gb387, 5, none⟩ = some (.slice A0_5 l0_5.length c0_5) := (blk_cell BK387.out 5).trans rfl
     have hfz16_0 := blk_frozen BK387.out 0
     have hfz16_1 := blk_frozen BK387.out 1
     have hfz16_2 := blk_frozen BK387.out 2
     have hfz16_3 := blk_frozen BK387.out 3
     have hfz16_4 := blk_frozen BK387.out 4
     have hfz16_5 := blk_frozen BK387.out 5
     go_wp2_with (first | ((with_reducible refine gate_callee (f := 109) rfl ?_); refine goesL_ (some 25) rfl rfl Tryz.func109 (by kernel_rfl) rfl #[.agg #[.string a0_0, .bool a0_1, .int .i64 a0_2, .slice A0_3 l0_3.length c0_3, .slice A0_4 l0_4.length c0_4, .slice A0_5 l0_5.length c0_5], .string a1, .int .i64 a2] rfl (by (try simp only [List.map_toArray, List.map_cons, List.map_nil]); first | done | rfl | (simp only [List.length_drop, List.length_take]; rfl)) ?_; (with_reducible refine (frisketref07_WidthOf.calls kj3 a0_0 a0_1 a0_2 _ _ l0_3 _ _ l0_4 _ _ l0_5 a1 a2 t389 false _ ?side1 ?side2 ?side3 ?side4 ?side5 ?side6 A12.out).mono ?_); (case side1 => repeat (first | exact (Kd.C_below HR0_3.out HB.out) | (with_reducible refine Kd.C_alloc ?_ _) | (with_reducible refine Kd.C_drewN ?_ _) | (with_reducible refine Kd.C_drew ?_))); (case side2 => exact HC0_3.out); (case side3 => repeat (first | exact (Kd.C_below HR0_4.out HB.out) | (with_reducible refine Kd.C_alloc ?_ _) | (with_reducible refine Kd.C_drewN ?_ _) | (with_reducible refine Kd.C_drew ?_))); (case side4 => exact HC0_4.out); (case side5 => repeat (first | exact (Kd.C_below HR0_5.out HB.out) | (with_reducible refine Kd.C_alloc ?_ _) | (with_reducible refine Kd.C_drewN ?_ _) | (with_reducible refine Kd.C_drew ?_))); (case side6 => exact HC0_5.out); rintro e w17 ⟨rfl, hb⟩; refine ⟨_, rfl, ?_⟩; have n0_ := Aside0.mk (blk_below (g := gb387) (o := .cells #[.string a0_0, .bool a0_1, .int .i64 a0_2, .slice A0_3 l0_3.length c0_3, .slice A0_4 l0_4.length c0_4, .slice A0_5 l0_5.length c0_5] 44 (0, 0)) (by (with_reducible repeat (first | refine blk_drewN ?_ _ | refine blk_drew ?_ | refine blk_alloc ?_ _)); exact BK387.out) hb); have n1_ := Aside0.mk (below_step (by repeat (first | (with_reducible first | exact HB.out | apply below_alloc | apply pw_below_drewN | apply below_drew1 | refine below_set ?_ GE387.out) | exact HB.out)) hb); clear BK387; clear HB; have BK387 := n0_; have HB := n1_; clear n0_ n1_; (try clear hb); (try clear hb2); (try clear hk); (try clear hi)))
     go_ret2
     exact ⟨by first | rfl | (simp [errW_none, errW_some] <;> rfl) | (simp [*, errW_none, errW_some] <;> rfl), by repeat (first | (with_reducible first | exact HB.out | apply below_alloc | apply pw_below_drewN | apply below_drew1 | refine below_set ?_ GE387.out) | exact HB.out)⟩
end Go.Proofs.YtaifemkokfoadaaGreatDoor.PX

namespace Go.Proofs.YtaifemkokfoadaaGreatDoor.PX
open Go.RowKit Go.Proofs.YtaifemkokfoadaaGreatDoorW.PrintWords Go.Proofs.YtaifemkokfoadaaGreatDoorW.PrintLast Go.Proofs.YtaifemkokfoadaaGreatDoorW.PrintMore
attribute [local go_sem] max2_int min2_int max_two min_two max_three min_three max_four min_four   -- for this text's walks alone
set_option linter.unusedVariables false
set_option linter.unusedSimpArgs false
def font_Space.f (a0_0 : ByteArray) (a0_1 : Bool) (a0_2 : Int) (l0_3 : List (S31)) (l0_4 : List (S86)) (l0_5 : List (S76)) (a1 : Int) : Option (Int × Int) := (font_fair.f a0_0 a0_1 a0_2 l0_3 l0_4 l0_5 a1).bind fun t392 => (if t392 = true then ((font_scale.f a0_2 a1).bind fun t393 => (some (t393, 0))) else (some (0, 1)))
set_option maxHeartbeats 8000000 in
set_option maxRecDepth 100000 in
theorem font_Space.calls (a0_0 : ByteArray) (a0_1 : Bool) (a0_2 : Int) (A0_3 : Option Addr) (c0_3 : Nat) (l0_3 : List (S31)) (A0_4 : Option Addr) (c0_4 : Nat) (l0_4 : List (S86)) (A0_5 : Option Addr) (c0_5 : Nat) (l0_5 : List (S76)) (a1 : Int) (r1 : Int) (r2 : Int) (w : World) (hr0_3 : Kd.C k31 w A0_3 l0_3.length l0_3) (hc0_3 : l0_3.length ≤ c0_3) (hr0_4 : Kd.C k86 w A0_4 l0_4.length l0_4) (hc0_4 : l0_4.length ≤ c0_4) (hr0_5 : Kd.C k76 w A0_5 l0_5.length l0_5) (hc0_5 : l0_5.length ≤ c0_5) (hG : GW w) (h : font_Space.f a0_0 a0_1 a0_2 l0_3 l0_4 l0_5 a1 = some (r1, r2)) :
  Calls Tryz.prog 67 #[.agg #[.string a0_0, .bool a0_1, .int .i64 a0_2, .slice A0_3 l0_3.length c0_3, .slice A0_4 l0_4.length c0_4, .slice A0_5 l0_5.length c0_5], .int .i64 a1] w fun e w' => e = .returned (.tuple #[.int .i64 r1, .int .i64 r2]) ∧ Below w.heap.size w w' := by
 have hu26 := Tryz.underlying26
 have HG := Aside0.mk hG
 clear hG
 have HR0_3 := Aside0.mk hr0_3
 have HC0_3 := Aside0.mk hc0_3
 clear hr0_3 hc0_3
 have HR0_4 := Aside0.mk hr0_4
 have HC0_4 := Aside0.mk hc0_4
 clear hr0_4 hc0_4
 have HR0_5 := Aside0.mk hr0_5
 have HC0_5 := Aside0.mk hc0_5
 clear hr0_5 hc0_5
 have HB := Aside0.mk (Below.refl w.heap.size w)
 have H : ((font_fair.f a0_0 a0_1 a0_2 l0_3 l0_4 l0_5 a1).bind fun t392 => (if t392 = true then ((font_scale.f a0_2 a1).bind fun t393 => (some (t393, 0))) else (some (0, 1)))) = some (r1, r2) := h
 clear h
 replace H := Option.bind_eq_some_iff.mp H
 obtain ⟨t392, A30, H⟩ := H
 replace H : (if t392 = true then ((font_scale.f a0_2 a1).bind fun t393 => (some (t393, 0))) else (some (0, 1))) = some (r1, r2) := H
 have A3 := Aside0.mk A30
 clear A30
 by_cases c4 : t392 = true
 ·subst c4
  have H1 : ((font_scale.f a0_2 a1).bind fun t393 => (some (t393, 0))) = some (r1, r2) := by rw [if_pos rfl] at H; exact H
  clear H
  have H := H1
  clear H1
  replace H := Option.bind_eq_some_iff.mp H
  obtain ⟨t393, A50, H⟩ := H
  replace H : (some (t393, 0)) = some (r1, r2) := H
  have A5 := Aside0.mk A50
  clear A50
  simp only [Option.some.injEq, Prod.mk.injEq] at H
  obtain ⟨rfl, rfl⟩ := H
  go_enter Tryz.func67, Tryz.ntmps67
  go_wp2_with (first | ((with_reducible refine gate_dst (N := 2) rfl ?_); refine box_event ?hg (N := 2) ?hd (cs := #[.string a0_0, .bool a0_1, .int .i64 a0_2, .slice A0_3 l0_3.length c0_3, .slice A0_4 l0_4.length c0_4, .slice A0_5 l0_5.length c0_5]) (t := 26) ?hr ?_; (case hd => rfl); (case hg => rfl); (case hr => first | (go_simp; done) | (go_simp; rfl)); intro gb391 hg w6 hbox hb; have n0_ := Aside0.mk (below_step (by repeat (first | (with_reducible first | exact HB.out | apply below_alloc | apply pw_below_drewN | apply below_drew1) | exact HB.out)) hb); have n1_ := Aside0.mk (hbox); have n2_ := Aside0.mk ((by rw [hg]; exact (below_size (by repeat (first | (with_reducible first | exact HB.out | apply below_alloc | apply pw_below_drewN | apply below_drew1) | exact HB.out))) : w.heap.size ≤ gb391)); have n3_ := Aside0.mk ((by rw [hg]; exact (below_size (by repeat (first | (with_reducible first | exact HB.out | apply below_alloc | apply pw_below_drewN | apply below_drew1) | exact HB.out))) : w.heap.size ≤ gb391)); clear HB; have HB := n0_; have BK391 := n1_; have GW391 := n2_; have GE391 := n3_; clear n0_ n1_ n2_ n3_; clear hb hbox hg; have hcz7_0 : w6.cell? ⟨gb391, 0, none⟩ = some (.string a0_0) := (blk_cell BK391.out 0).trans rfl; have hcz7_1 : w6.cell? ⟨gb391, 1, none⟩ = some (.bool a0_1) := (blk_cell BK391.out 1).trans rfl; have hcz7_2 : w6.cell? ⟨gb391, 2, none⟩ = some (.int .i64 a0_2) := (blk_cell BK391.out 2).trans rfl; have hcz7_3 : w6.cell? ⟨gb391, 3, none⟩ = some (.slice A0_3 l0_3.length c0_3) := (blk_cell BK391.out 3).trans rfl; have hcz7_4 : w6.cell? ⟨gb391, 4, none⟩ = some (.slice A0_4 l0_4.length c0_4) := (blk_cell BK391.out 4).trans rfl; have hcz7_5 : w6.cell? ⟨gb391, 5, none⟩ = some (.slice A0_5 l0_5.length c0_5) := (blk_cell BK391.out 5).trans rfl; have hfz7_0 := blk_frozen BK391.out 0; have hfz7_1 := blk_frozen BK391.out 1; have hfz7_2 := blk_frozen BK391.out 2; have hfz7_3 := blk_frozen BK391.out 3; have hfz7_4 := blk_frozen BK391.out 4; have hfz7_5 := blk_frozen BK391.out 5) | ((with_reducible refine gate_callee (f := 26) rfl ?_); refine goesL_ (some 8) rfl rfl Tryz.func26 (by kernel_rfl) rfl #[.agg #[.string a0_0, .bool a0_1, .int .i64 a0_2, .slice A0_3 l0_3.length c0_3, .slice A0_4 l0_4.length c0_4, .slice A0_5 l0_5.length c0_5], .int .i64 a1] rfl (by (try simp only [List.map_toArray, List.map_cons, List.map_nil]); first | done | rfl | (simp only [List.length_drop, List.length_take]; rfl)) ?_; (with_reducible refine (font_fair.calls a0_0 a0_1 a0_2 _ _ l0_3 _ _ l0_4 _ _ l0_5 a1 true _ ?side1 ?side2 ?side3 ?side4 ?side5 ?side6 ?side7 A3.out).mono ?_); (case side1 => repeat (first | exact (Kd.C_below HR0_3.out HB.out) | (with_reducible refine Kd.C_alloc ?_ _) | (with_reducible refine Kd.C_drewN ?_ _) | (with_reducible refine Kd.C_drew ?_))); (case side2 => exact HC0_3.out); (case side3 => repeat (first | exact (Kd.C_below HR0_4.out HB.out) | (with_reducible refine Kd.C_alloc ?_ _) | (with_reducible refine Kd.C_drewN ?_ _) | (with_reducible refine Kd.C_drew ?_))); (case side4 => exact HC0_4.out); (case side5 => repeat (first | exact (Kd.C_below HR0_5.out HB.out) | (with_reducible refine Kd.C_alloc ?_ _) | (with_reducible refine Kd.C_drewN ?_ _) | (with_reducible refine Kd.C_drew ?_))); (case side6 => exact HC0_5.out); (case side7 => exact GW.under HG.out (by repeat (first | (with_reducible first | exact HB.out | apply below_alloc | apply pw_below_drewN | apply below_drew1 | refine below_set ?_ GE391.out) | exact HB.out))); rintro e w8 ⟨rfl, hb⟩; refine ⟨_, rfl, ?_⟩; have n0_ := Aside0.mk (blk_below (g := gb391) (o := .cells #[.string a0_0, .bool a0_1, .int .i64 a0_2, .slice A0_3 l0_3.length c0_3, .slice A0_4 l0_4.length c0_4, .slice A0_5 l0_5.length c0_5] 26 (0, 0)) (by (with_reducible repeat (first | refine blk_drewN ?_ _ | refine blk_drew ?_ | refine blk_alloc ?_ _)); exact BK391.out) hb); have n1_ := Aside0.mk (below_step (by repeat (first | (with_reducible first | exact HB.out | apply below_alloc | apply pw_below_drewN | apply below_drew1 | refine below_set ?_ GE391.out) | exact HB.out)) hb); clear BK391; clear HB; have BK391 := n0_; have HB := n1_; clear n0_ n1_; (try clear hb); (try clear hb2); (try clear hk); (try clear hi); have hcz9_0 : w8.cell? ⟨gb391, 0, none⟩ = some (.string a0_0) := (blk_cell BK391.out 0).trans rfl; have hcz9_1 : w8.cell? ⟨gb391, 1, none⟩ = some (.bool a0_1) := (blk_cell BK391.out 1).trans rfl; have hcz9_2 : w8.cell? ⟨gb391, 2, none⟩ = some (.int .i64 a0_2) := (blk_cell BK391.out 2).trans rfl; have hcz9_3 : w8.cell? ⟨gb391, 3, none⟩ = some (.slice A0_3 l0_3.length c0_3) := (blk_cell BK391.out 3).trans rfl; have hcz9_4 : w8.cell? ⟨gb391, 4, none⟩ = some (.slice A0_4 l0_4.length c0_4) := (blk_cell BK391.out 4).trans rfl; have hcz9_5 : w8.cell? ⟨gb391, 5, none⟩ = some (.slice A0_5 l0_5.length c0_5) := (blk_cell BK391.out 5).trans rfl; have hfz9_0 := blk_frozen BK391.out 0; have hfz9_1 := blk_frozen BK391.out 1; have hfz9_2 := blk_frozen BK391.out 2; have hfz9_3 := blk_frozen BK391.out 3; have hfz9_4 := blk_frozen BK391.out 4; have hfz9_5 := blk_frozen BK391.out 5) | ((with_reducible refine gate_callee (f := 28) rfl ?_); refine goesL_ (some 13) rfl rfl Tryz.func28 (by kernel_rfl) rfl #[.int .i64 a0_2, .int .i64 a1] rfl (by (try simp only [List.map_toArray, List.map_cons, List.map_nil]); first | done | rfl | (simp only [List.length_drop, List.length_take]; rfl)) ?_; (with_reducible refine (font_scale.calls a0_2 a1 t393 _ A5.out).mono ?_); rintro e w' ⟨rfl, ⟨nd, rfl⟩⟩; refine ⟨_, rfl, ?_⟩))
  go_ret2
  exact ⟨by first | rfl | (simp [errW_none, errW_some] <;> rfl) | (simp [*, errW_none, errW_some] <;> rfl), by repeat (first | (with_reducible first | exact HB.out | apply below_alloc | apply pw_below_drewN | apply below_drew1 | refine below_set ?_ GE391.out) | exact HB.out)⟩
 ·replace c4 := Bool.eq_false_iff.mpr c4
  subst c4
  have H1 : (some (0, 1)) = some (r1, r2) := by rw [if_neg (show ¬ (false = true) by decide)] at H; exact H
  clear H
  have H := H1
  clear H1
  simp only [Option.some.injEq, Prod.mk.injEq] at H
  obtain ⟨rfl, rfl⟩ := H
  go_enter Tryz.func67, Tryz.ntmps67
  go_wp2_with (first | ((with_reducible refine gate_dst (N := 2) rfl ?_); refine box_event ?hg (N := 2) ?hd (cs := #[.string a0_0, .bool a0_1, .int .i64 a0_2, .slice A0_3 l0_3.length c0_3, .slice A0_4 l0_4.length c0_4, .slice A0_5 l0_5.length c0_5]) (t := 26) ?hr ?_; (case hd => rfl); (case hg => rfl); (case hr => first | (go_simp; done) | (go_simp; rfl)); intro gb391 hg w10 hbox hb; have n0_ := Aside0.mk (below_step (by repeat (first | (with_reducible first | exact HB.out | apply below_alloc | apply pw_below_drewN | apply below_drew1) | exact HB.out)) hb); have n1_ := Aside0.mk (hbox); have n2_ := Aside0.mk ((by rw [hg]; exact (below_size (by repeat (first | (with_reducible first | exact HB.out | apply below_alloc | apply pw_below_drewN | apply below_drew1) | exact HB.out))) : w.heap.size ≤ gb391)); have n3_ := Aside0.mk ((by rw [hg]; exact (below_size (by repeat (first | (with_reducible first | exact HB.out | apply below_alloc | apply pw_below_drewN | apply below_drew1) | exact HB.out))) : w.heap.size ≤ gb391)); clear HB; have HB := n0_; have BK391 := n1_; have GW391 := n2_; have GE391 := n3_; clear n0_ n1_ n2_ n3_; clear hb hbox hg; have hcz11_0 : w10.cell? ⟨gb391, 0, none⟩ = some (.string a0_0) := (blk_cell BK391.out 0).trans rfl; have hcz11_1 : w10.cell? ⟨gb391, 1, none⟩ = some (.bool a0_1) := (blk_cell BK391.out 1).trans rfl; have hcz11_2 : w10.cell? ⟨gb391, 2, none⟩ = some (.int .i64 a0_2) := (blk_cell BK391.out 2).trans rfl; have hcz11_3 : w10.cell? ⟨gb391, 3, none⟩ = some (.slice A0_3 l0_3.length c0_3) := (blk_cell BK391.out 3).trans rfl; have hcz11_4 : w10.cell? ⟨gb391, 4, none⟩ = some (.slice A0_4 l0_4.length c0_4) := (blk_cell BK391.out 4).trans rfl; have hcz11_5 : w10.cell? ⟨gb391, 5, none⟩ = some (.slice A0_5 l0_5.length c0_5) := (blk_cell BK391.out 5).trans rfl; have hfz11_0 := blk_frozen BK391.out 0; have hfz11_1 := blk_frozen BK391.out 1; have hfz11_2 := blk_frozen BK391.out 2; have hfz11_3 := blk_frozen BK391.out 3; have hfz11_4 := blk_frozen BK391.out 4; have hfz11_5 := blk_frozen BK391.out 5) | ((with_reducible refine gate_callee (f := 26) rfl ?_); refine goesL_ (some 8) rfl rfl Tryz.func26 (by kernel_rfl) rfl #[.agg #[.string a0_0, .bool a0_1, .int .i64 a0_2, .slice A0_3 l0_3.length c0_3, .slice A0_4 l0_4.length c0_4, .slice A0_5 l0_5.length c0_5], .int .i64 a1] rfl (by (try simp only [List.map_toArray, List.map_cons, List.map_nil]); first | done | rfl | (simp only [List.length_drop, List.length_take]; rfl)) ?_; (with_reducible refine (font_fair.calls a0_0 a0_1 a0_2 _ _ l0_3 _ _ l0_4 _ _ l0_5 a1 false _ ?side1 ?side2 ?side3 ?side4 ?side5 ?side6 ?side7 A3.out).mono ?_); (case side1 => repeat (first | exact (Kd.C_below HR0_3.out HB.out) | (with_reducible refine Kd.C_alloc ?_ _) | (with_reducible refine Kd.C_drewN ?_ _) | (with_reducible refine Kd.C_drew ?_))); (case side2 => exact HC0_3.out); (case side3 => repeat (first | exact (Kd.C_below HR0_4.out HB.out) | (with_reducible refine Kd.C_alloc ?_ _) | (with_reducible refine Kd.C_drewN ?_ _) | (with_reducible refine Kd.C_drew ?_))); (case side4 => exact HC0_4.out); (case side5 => repeat (first | exact (Kd.C_below HR0_5.out HB.out) | (with_reducible refine Kd.C_alloc ?_ _) | (with_reducible refine Kd.C_drewN ?_ _) | (with_reducible refine Kd.C_drew ?_))); (case side6 => exact HC0_5.out); (case side7 => exact GW.under HG.out (by repeat (first | (with_reducible first | exact HB.out | apply below_alloc | apply pw_below_drewN | apply below_drew1 | refine below_set ?_ GE391.out) | exact HB.out))); rintro e w12 ⟨rfl, hb⟩; refine ⟨_, rfl, ?_⟩; have n0_ := Aside0.mk (blk_below (g := gb391) (o := .cells #[.string a0_0, .bool a0_1, .int .i64 a0_2, .slice A0_3 l0_3.length c0_3, .slice A0_4 l0_4.length c0_4, .slice A0_5 l0_5.length c0_5] 26 (0, 0)) (by (with_reducible repeat (first | refine blk_drewN ?_ _ | refine blk_drew ?_ | refine blk_alloc ?_ _)); exact BK391.out) hb); have n1_ := Aside0.mk (below_step (by repeat (first | (with_reducible first | exact HB.out | apply below_alloc | apply pw_below_drewN | apply below_drew1 | refine below_set ?_ GE391.out) | exact HB.out)) hb); clear BK391; clear HB; have BK391 := n0_; have HB := n1_; clear n0_ n1_; (try clear hb); (try clear hb2); (try clear hk); (try clear hi)))
  go_ret2
  exact ⟨by first | rfl | (simp [errW_none, errW_some] <;> rfl) | (simp [*, errW_none, errW_some] <;> rfl), by repeat (first | (with_reducible first | exact HB.out | apply below_alloc | apply pw_below_drewN | apply below_drew1 | refine below_set ?_ GE391.out) | exact HB.out)⟩
def frisketref07_Space.f (a0_0 : ByteArray) (a0_1 : Bool) (a0_2 : Int) (l0_3 : List (S81)) (l0_4 : List (S83)) (l0_5 : List (S84)) (a1 : Int) : Option (Int × Int) := if a1 < 1 then (some (0, 1)) else (if a1 > 1000 then (some (0, 1)) else ((frisketref07_Valid.f a0_0 a0_1 a0_2 l0_3 l0_4 l0_5).bind fun t395 => (if t395 = true then ((frisketref07_scale.f a0_2 a1).bind fun t396 => (some (t396, 0))) else (some (0, 1)))))
set_option maxHeartbeats 8000000 in
set_option maxRecDepth 100000 in
theorem frisketref07_Space.calls (a0_0 : ByteArray) (a0_1 : Bool) (a0_2 : Int) (A0_3 : Option Addr) (c0_3 : Nat) (l0_3 : List (S81)) (A0_4 : Option Addr) (c0_4 : Nat) (l0_4 : List (S83)) (A0_5 : Option Addr) (c0_5 : Nat) (l0_5 : List (S84)) (a1 : Int) (r1 : Int) (r2 : Int) (w : World) (hr0_3 : Kd.C k81 w A0_3 l0_3.length l0_3) (hc0_3 : l0_3.length ≤ c0_3) (hr0_4 : Kd.C k83 w A0_4 l0_4.length l0_4) (hc0_4 : l0_4.length ≤ c0_4) (hr0_5 : Kd.C k84 w A0_5 l0_5.length l0_5) (hc0_5 : l0_5.length ≤ c0_5) (h : frisketref07_Space.f a0_0 a0_1 a0_2 l0_3 l0_4 l0_5 a1 = some (r1, r2)) :
  Calls Tryz.prog 68 #[.agg #[.string a0_0, .bool a0_1, .int .i64 a0_2, .slice A0_3 l0_3.length c0_3, .slice A0_4 l0_4.length c0_4, .slice A0_5 l0_5.length c0_5], .int .i64 a1] w fun e w' => e = .returned (.tuple #[.int .i64 r1, .int .i64 r2]) ∧ Below w.heap.size w w' := by
 have hu44 := Tryz.underlying44
 have HR0_3 := Aside0.mk hr0_3
 have HC0_3 := Aside0.mk hc0_3
 clear hr0_3 hc0_3
 have HR0_4 := Aside0.mk hr0_4
 have HC0_4 := Aside0.mk hc0_4
 clear hr0_4 hc0_4
 have HR0_5 := Aside0.mk hr0_5
 have HC0_5 := Aside0.mk hc0_5
 clear hr0_5 hc0_5
 have HB := Aside0.mk (Below.refl w.heap.size w)
 have H : (if a1 < 1 then (some (0, 1)) else (if a1 > 1000 then (some (0, 1)) else ((frisketref07_Valid.f a0_0 a0_1 a0_2 l0_3 l0_4 l0_5).bind fun t395 => (if t395 = true then ((frisketref07_scale.f a0_2 a1).bind fun t396 => (some (t396, 0))) else (some (0, 1)))))) = some (r1, r2) := h
 clear h
 by_cases c3 : a1 < 1
 ·rw [if_pos c3] at H
  have c3b0 : decide (a1 < 1) = true := decide_eq_true c3
  clear c3
  simp only [Option.some.injEq, Prod.mk.injEq] at H
  obtain ⟨rfl, rfl⟩ := H
  go_enter Tryz.func68, Tryz.ntmps68
  go_wp2_with (first | ((with_reducible refine gate_dst (N := 2) rfl ?_); refine box_event ?hg (N := 2) ?hd (cs := #[.string a0_0, .bool a0_1, .int .i64 a0_2, .slice A0_3 l0_3.length c0_3, .slice A0_4 l0_4.length c0_4, .slice A0_5 l0_5.length c0_5]) (t := 44) ?hr ?_; (case hd => rfl); (case hg => rfl); (case hr => first | (go_simp; done) | (go_simp; rfl)); intro gb394 hg w4 hbox hb; have n0_ := Aside0.mk (below_step (by repeat (first | (with_reducible first | exact HB.out | apply below_alloc | apply pw_below_drewN | apply below_drew1) | exact HB.out)) hb); have n1_ := Aside0.mk (hbox); have n2_ := Aside0.mk ((by rw [hg]; exact (below_size (by repeat (first | (with_reducible first | exact HB.out | apply below_alloc | apply pw_below_drewN | apply below_drew1) | exact HB.out))) : w.heap.size ≤ gb394)); have n3_ := Aside0.mk ((by rw [hg]; exact (below_size (by repeat (first | (with_reducible first | exact HB.out | apply below_alloc | apply pw_below_drewN | apply below_drew1) | exact HB.out))) : w.heap.size ≤ gb394)); clear HB; have HB := n0_; have BK394 := n1_; have GW394 := n2_; have GE394 := n3_; clear n0_ n1_ n2_ n3_; clear hb hbox hg))
  go_ret2
  exact ⟨by first | rfl | (simp [errW_none, errW_some] <;> rfl) | (simp [*, errW_none, errW_some] <;> rfl), by repeat (first | (with_reducible first | exact HB.out | apply below_alloc | apply pw_below_drewN | apply below_drew1 | refine below_set ?_ GE394.out) | exact HB.out)⟩
 ·rw [if_neg c3] at H
  have c3b0 : decide (a1 < 1) = false := decide_eq_false c3
  clear c3
  by_cases c5 : a1 > 1000
  ·rw [if_pos c5] at H
   have c5b0 : decide (1000 < a1) = true := decide_eq_true c5
   clear c5
   simp only [Option.some.injEq, Prod.mk.injEq] at H
   obtain ⟨rfl, rfl⟩ := H
   go_enter Tryz.func68, Tryz.ntmps68
   go_wp2_with (first | ((with_reducible refine gate_dst (N := 2) rfl ?_); refine box_event ?hg (N := 2) ?hd (cs := #[.string a0_0, .bool a0_1, .int .i64 a0_2, .slice A0_3 l0_3.length c0_3, .slice A0_4 l0_4.length c0_4, .slice A0_5 l0_5.length c0_5]) (t := 44) ?hr ?_; (case hd => rfl); (case hg => rfl); (case hr => first | (go_simp; done) | (go_simp; rfl)); intro gb394 hg w6 hbox hb; have n0_ := Aside0.mk (below_step (by repeat (first | (with_reducible first | exact HB.out | apply below_alloc | apply pw_below_drewN | apply below_drew1) | exact HB.out)) hb); have n1_ := Aside0.mk (hbox); have n2_ := Aside0.mk ((by rw [hg]; exact (below_size (by repeat (first | (with_reducible first | exact HB.out | apply below_alloc | apply pw_below_drewN | apply below_drew1) | exact HB.out))) : w.heap.size ≤ gb394)); have n3_ := Aside0.mk ((by rw [hg]; exact (below_size (by repeat (first | (with_reducible first | exact HB.out | apply below_alloc | apply pw_below_drewN | apply below_drew1) | exact HB.out))) : w.heap.size ≤ gb394)); clear HB; have HB := n0_; have BK394 := n1_; have GW394 := n2_; have GE394 := n3_; clear n0_ n1_ n2_ n3_; clear hb hbox hg))
   go_ret2
   exact ⟨by first | rfl | (simp [errW_none, errW_some] <;> rfl) | (simp [*, errW_none, errW_some] <;> rfl), by repeat (first | (with_reducible first | exact HB.out | apply below_alloc | apply pw_below_drewN | apply below_drew1 | refine below_set ?_ GE394.out) | exact HB.out)⟩
  ·rw [if_neg c5] at H
   have c5b0 : decide (1000 < a1) = false := decide_eq_false c5
   clear c5
   replace H := Option.bind_eq_some_iff.mp H
   obtain ⟨t395, A70, H⟩ := H
   replace H : (if t395 = true then ((frisketref07_scale.f a0_2 a1).bind fun t396 => (some (t396, 0))) else (some (0, 1))) = some (r1, r2) := H
   have A7 := Aside0.mk A70
   clear A70
   by_cases c8 : t395 = true
   ·subst c8
    have H1 : ((frisketref07_scale.f a0_2 a1).bind fun t396 => (some (t396, 0))) = some (r1, r2) := by rw [if_pos rfl] at H; exact H
    clear H
    have H := H1
    clear H1
    replace H := Option.bind_eq_some_iff.mp H
    obtain ⟨t396, A90, H⟩ := H
    replace H : (some (t396, 0)) = some (r1, r2) := H
    have A9 := Aside0.mk A90
    clear A90
    simp only [Option.some.injEq, Prod.mk.injEq] at H
    obtain ⟨rfl, rfl⟩ := H
    go_enter Tryz.func68, Tryz.ntmps68
    go_wp2_with (first | ((with_reducible refine gate_dst (N := 2) rfl ?_); refine box_event ?hg (N := 2) ?hd (cs := #[.string a0_0, .bool a0_1, .int .i64 a0_2, .slice A0_3 l0_3.length c0_3, .slice A0_4 l0_4.length c0_4, .slice A0_5 l0_5.length c0_5]) (t := 44) ?hr ?_; (case hd => rfl); (case hg => rfl); (case hr => first | (go_simp; done) | (go_simp; rfl)); intro gb394 hg w10 hbox hb; have n0_ := Aside0.mk (below_step (by repeat (first | (with_reducible first | exact HB.out | apply below_alloc | apply pw_below_drewN | apply below_drew1) | exact HB.out)) hb); have n1_ := Aside0.mk (hbox); have n2_ := Aside0.mk ((by rw [hg]; exact (below_size (by repeat (first | (with_reducible first | exact HB.out | apply below_alloc | apply pw_below_drewN | apply below_drew1) | exact HB.out))) : w.heap.size ≤ gb394)); have n3_ := Aside0.mk ((by rw [hg]; exact (below_size (by repeat (first | (with_reducible first | exact HB.out | apply below_alloc | apply pw_below_drewN | apply below_drew1) | exact HB.out))) : w.heap.size ≤ gb394)); clear HB; have HB := n0_; have BK394 := n1_; have GW394 := n2_; have GE394 := n3_; clear n0_ n1_ n2_ n3_; clear hb hbox hg; have hcz11_0 : w10.cell? ⟨gb394, 0, none⟩ = some (.string a0_0) := (blk_cell BK394.out 0).trans rfl; have hcz11_1 : w10.cell? ⟨gb394, 1, none⟩ = some (.bool a0_1) := (blk_cell BK394.out 1).trans rfl; have hcz11_2 : w10.cell? ⟨gb394, 2, none⟩ = some (.int .i64 a0_2) := (blk_cell BK394.out 2).trans rfl; have hcz11_3 : w10.cell? ⟨gb394, 3, none⟩ = some (.slice A0_3 l0_3.length c0_3) := (blk_cell BK394.out 3).trans rfl; have hcz11_4 : w10.cell? ⟨gb394, 4, none⟩ = some (.slice A0_4 l0_4.length c0_4) := (blk_cell BK394.out 4).trans rfl; have hcz11_5 : w10.cell? ⟨gb394, 5, none⟩ = some (.slice A0_5 l0_5.length c0_5) := (blk_cell BK394.out 5).trans rfl; have hfz11_0 := blk_frozen BK394.out 0; have hfz11_1 := blk_frozen BK394.out 1; have hfz11_2 := blk_frozen BK394.out 2; have hfz11_3 := blk_frozen BK394.out 3; have hfz11_4 := blk_frozen BK394.out 4; have hfz11_5 := blk_frozen BK394.out 5) | (go_at_call 61; (with_reducible refine (frisketref07_Valid.calls a0_0 a0_1 a0_2 _ _ l0_3 _ _ l0_4 _ _ l0_5 true _ ?side1 ?side2 ?side3 ?side4 ?side5 ?side6 A7.out).mono ?_); (case side1 => repeat (first | exact (Kd.C_below HR0_3.out HB.out) | (with_reducible refine Kd.C_alloc ?_ _) | (with_reducible refine Kd.C_drewN ?_ _) | (with_reducible refine Kd.C_drew ?_))); (case side2 => exact HC0_3.out); (case side3 => repeat (first | exact (Kd.C_below HR0_4.out HB.out) | (with_reducible refine Kd.C_alloc ?_ _) | (with_reducible refine Kd.C_drewN ?_ _) | (with_reducible refine Kd.C_drew ?_))); (case side4 => exact HC0_4.out); (case side5 => repeat (first | exact (Kd.C_below HR0_5.out HB.out) | (with_reducible refine Kd.C_alloc ?_ _) | (with_reducible refine Kd.C_drewN ?_ _) | (with_reducible refine Kd.C_drew ?_))); (case side6 => exact HC0_5.out); rintro e w12 ⟨rfl, hb⟩; have n0_ := Aside0.mk (blk_below (g := gb394) (o := .cells #[.string a0_0, .bool a0_1, .int .i64 a0_2, .slice A0_3 l0_3.length c0_3, .slice A0_4 l0_4.length c0_4, .slice A0_5 l0_5.length c0_5] 44 (0, 0)) (by (with_reducible repeat (first | refine blk_drewN ?_ _ | refine blk_drew ?_ | refine blk_alloc ?_ _)); exact BK394.out) hb); have n1_ := Aside0.mk (below_step (by repeat (first | (with_reducible first | exact HB.out | apply below_alloc | apply pw_below_drewN | apply below_drew1 | refine below_set ?_ GE394.out) | exact HB.out)) hb); clear BK394; clear HB; have BK394 := n0_; have HB := n1_; clear n0_ n1_; (try clear hb); (try clear hb2); (try clear hk); (try clear hi); have hcz13_0 : w12.cell? ⟨gb394, 0, none⟩ = some (.string a0_0) := (blk_cell BK394.out 0).trans rfl; have hcz13_1 : w12.cell? ⟨gb394, 1, none⟩ = some (.bool a0_1) := (blk_cell BK394.out 1).trans rfl; have hcz13_2 : w12.cell? ⟨gb394, 2, none⟩ = some (.int .i64 a0_2) := (blk_cell BK394.out 2).trans rfl; have hcz13_3 : w12.cell? ⟨gb394, 3, none⟩ = some (.slice A0_3 l0_3.length c0_3) := (blk_cell BK394.out 3).trans rfl; have hcz13_4 : w12.cell? ⟨gb394, 4, none⟩ = some (.slice A0_4 l0_4.length c0_4) := (blk_cell BK394.out 4).trans rfl; have hcz13_5 : w12.cell? ⟨gb394, 5, none⟩ = some (.slice A0_5 l0_5.length c0_5) := (blk_cell BK394.out 5).trans rfl; have hfz13_0 := blk_frozen BK394.out 0; have hfz13_1 := blk_frozen BK394.out 1; have hfz13_2 := blk_frozen BK394.out 2; have hfz13_3 := blk_frozen BK394.out 3; have hfz13_4 := blk_frozen BK394.out 4; have hfz13_5 := blk_frozen BK394.out 5) | ((with_reducible refine gate_callee (f := 110) rfl ?_); refine goesL_ (some 20) rfl rfl Tryz.func110 (by kernel_rfl) rfl #[.int .i64 a0_2, .int .i64 a1] rfl (by (try simp only [List.map_toArray, List.map_cons, List.map_nil]); first | done | rfl | (simp only [List.length_drop, List.length_take]; rfl)) ?_; (with_reducible refine (frisketref07_scale.calls a0_2 a1 t396 _ A9.out).mono ?_); rintro e w' ⟨rfl, ⟨nd, rfl⟩⟩; refine ⟨_, rfl, ?_⟩))
    go_ret2
    exact ⟨by first | rfl | (simp [errW_none, errW_some] <;> rfl) | (simp [*, errW_none, errW_some] <;> rfl), by repeat (first | (with_reducible first | exact HB.out | apply below_alloc | apply pw_below_drewN | apply below_drew1 | refine below_set ?_ GE394.out) | exact HB.out)⟩
   ·replace c8 := Bool.eq_false_iff.mpr c8
    subst c8
    have H1 : (some (0, 1)) = some (r1, r2) := by rw [if_neg (show ¬ (false = true) by decide)] at H; exact H
    clear H
    have H := H1
    clear H1
    simp only [Option.some.injEq, Prod.mk.injEq] at H
    obtain ⟨rfl, rfl⟩ := H
    go_enter Tryz.func68, Tryz.ntmps68
    go_wp2_with (first | ((with_reducible refine gate_dst (N := 2) rfl ?_); refine box_event ?hg (N := 2) ?hd (cs := #[.string a0_0, .bool a0_1, .int .i64 a0_2, .slice A0_3 l0_3.length c0_3, .slice A0_4 l0_4.length c0_4, .slice A0_5 l0_5.length c0_5]) (t := 44) ?hr ?_; (case hd => rfl); (case hg => rfl); (case hr => first | (go_simp; done) | (go_simp; rfl)); intro gb394 hg w14 hbox hb; have n0_ := Aside0.mk (below_step (by repeat (first | (with_reducible first | exact HB.out | apply below_alloc | apply pw_below_drewN | apply below_drew1) | exact HB.out)) hb); have n1_ := Aside0.mk (hbox); have n2_ := Aside0.mk ((by rw [hg]; exact (below_size (by repeat (first | (with_reducible first | exact HB.out | apply below_alloc | apply pw_below_drewN | apply below_drew1) | exact HB.out))) : w.heap.size ≤ gb394)); have n3_ := Aside0.mk ((by rw [hg]; exact (below_size (by repeat (first | (with_reducible first | exact HB.out | apply below_alloc | apply pw_below_drewN | apply below_drew1) | exact HB.out))) : w.heap.size ≤ gb394)); clear HB; have HB := n0_; have BK394 := n1_; have GW394 := n2_; have GE394 := n3_; clear n0_ n1_ n2_ n3_; clear hb hbox hg; have hcz15_0 : w14.cell? ⟨gb394, 0, none⟩ = some (.string a0_0) := (blk_cell BK394.out 0).trans rfl; have hcz15_1 : w14.cell? ⟨gb394, 1, none⟩ = some (.bool a0_1) := (blk_cell BK394.out 1).trans rfl; have hcz15_2 : w14.cell? ⟨gb394, 2, none⟩ = some (.int .i64 a0_2) := (blk_cell BK394.out 2).trans rfl; have hcz15_3 : w14.cell? ⟨gb394, 3, none⟩ = some (.slice A0_3 l0_3.length c0_3) := (blk_cell BK394.out 3).trans rfl; have hcz15_4 : w14.cell? ⟨gb394, 4, none⟩ = some (.slice A0_4 l0_4.length c0_4) := (blk_cell BK394.out 4).trans rfl; have hcz15_5 : w14.cell? ⟨gb394, 5, none⟩ = some (.slice A0_5 l0_5.length c0_5) := (blk_cell BK394.out 5).trans rfl; have hfz15_0 := blk_frozen BK394.out 0; have hfz15_1 := blk_frozen BK394.out 1; have hfz15_2 := blk_frozen BK394.out 2; have hfz15_3 := blk_frozen BK394.out 3; have hfz15_4 := blk_frozen BK394.out 4; have hfz15_5 := blk_frozen BK394.out 5) | (go_at_call 61; (with_reducible refine (frisketref07_Valid.calls a0_0 a0_1 a0_2 _ _ l0_3 _ _ l0_4 _ _ l0_5 false _ ?side1 ?side2 ?side3 ?side4 ?side5 ?side6 A7.out).mono ?_); (case side1 => repeat (first | exact (Kd.C_below HR0_3.out HB.out) | (with_reducible refine Kd.C_alloc ?_ _) | (with_reducible refine Kd.C_drewN ?_ _) | (with_reducible refine Kd.C_drew ?_))); (case side2 => exact HC0_3.out); (case side3 => repeat (first | exact (Kd.C_below HR0_4.out HB.out) | (with_reducible refine Kd.C_alloc ?_ _) | (with_reducible refine Kd.C_drewN ?_ _) | (with_reducible refine Kd.C_drew ?_))); (case side4 => exact HC0_4.out); (case side5 => repeat (first | exact (Kd.C_below HR0_5.out HB.out) | (with_reducible refine Kd.C_alloc ?_ _) | (with_reducible refine Kd.C_drewN ?_ _) | (with_reducible refine Kd.C_drew ?_))); (case side6 => exact HC0_5.out); rintro e w16 ⟨rfl, hb⟩; have n0_ := Aside0.mk (blk_below (g := gb394) (o := .cells #[.string a0_0, .bool a0_1, .int .i64 a0_2, .slice A0_3 l0_3.length c0_3, .slice A0_4 l0_4.length c0_4, .slice A0_5 l0_5.length c0_5] 44 (0, 0)) (by (with_reducible repeat (first | refine blk_drewN ?_ _ | refine blk_drew ?_ | refine blk_alloc ?_ _)); exact BK394.out) hb); have n1_ := Aside0.mk (below_step (by repeat (first | (with_reducible first | exact HB.out | apply below_alloc | apply pw_below_drewN | apply below_drew1 | refine below_set ?_ GE394.out) | exact HB.out)) hb); clear BK394; clear HB; have BK394 := n0_; have HB := n1_; clear n0_ n1_; (try clear hb); (try clear hb2); (try clear hk); (try clear hi)))
    go_ret2
    exact ⟨by first | rfl | (simp [errW_none, errW_some] <;> rfl) | (simp [*, errW_none, errW_some] <;> rfl), by repeat (first | (with_reducible first | exact HB.out | apply below_alloc | apply pw_below_drewN | apply below_drew1 | refine below_set ?_ GE394.out) | exact HB.out)⟩
end Go.Proofs.YtaifemkokfoadaaGreatDoor.PX

namespace Go.Proofs.YtaifemkokfoadaaGreatDoor.PX
open Go.RowKit Go.Proofs.YtaifemkokfoadaaGreatDoorW.PrintWords Go.Proofs.YtaifemkokfoadaaGreatDoorW.PrintLast Go.Proofs.YtaifemkokfoadaaGreatDoorW.PrintMore
attribute [local go_sem] max2_int min2_int max_two min_two max_three min_three max_four min_four   -- for this text's walks alone
set_option linter.unusedVariables false
set_option linter.unusedSimpArgs false
def frisketref07_KernOf.l0 : Nat → ByteArray → ByteArray → Int → Int → ByteArray → Bool → Int → List (S81) → List (S83) → List (S84) → Option (Int)
 | 0, _, _, _, _, _, _, _, _, _, _ => none
 | k + 1, x1, x2, x3, x9, x403000, x403001, x403002, x403003, x403004, x403005 => if x9 < (x403005.length : Int) then (if 0 ≤ x9 then (if ((rd_T84 x403005 x9).f0).toList = x1.toList then (if ((rd_T84 x403005 x9).f1).toList = x2.toList then ((frisketref07_scale.f ((rd_T84 x403005 x9).f2) x3).bind fun t406 => (some t406)) else (frisketref07_KernOf.l0 k x1 x2 x3 (wrap64 (x9 + 1)) x403000 x403001 x403002 x403003 x403004 x403005)) else (frisketref07_KernOf.l0 k x1 x2 x3 (wrap64 (x9 + 1)) x403000 x403001 x403002 x403003 x403004 x403005)) else (none)) else (some 0)
def frisketref07_KernOf.f (k : Nat) (a0_0 : ByteArray) (a0_1 : Bool) (a0_2 : Int) (l0_3 : List (S81)) (l0_4 : List (S83)) (l0_5 : List (S84)) (a1 : ByteArray) (a2 : ByteArray) (a3 : Int) : Option (Int) := frisketref07_KernOf.l0 k a1 a2 a3 0 a0_0 a0_1 a0_2 l0_3 l0_4 l0_5
set_option maxHeartbeats 8000000 in
set_option maxRecDepth 100000 in
theorem frisketref07_KernOf.calls (k : Nat) (a0_0 : ByteArray) (a0_1 : Bool) (a0_2 : Int) (A0_3 : Option Addr) (c0_3 : Nat) (l0_3 : List (S81)) (A0_4 : Option Addr) (c0_4 : Nat) (l0_4 : List (S83)) (A0_5 : Option Addr) (c0_5 : Nat) (l0_5 : List (S84)) (a1 : ByteArray) (a2 : ByteArray) (a3 : Int) (r : Int) (w : World) (hr0_3 : Kd.C k81 w A0_3 l0_3.length l0_3) (hc0_3 : l0_3.length ≤ c0_3) (hr0_4 : Kd.C k83 w A0_4 l0_4.length l0_4) (hc0_4 : l0_4.length ≤ c0_4) (hr0_5 : Kd.C k84 w A0_5 l0_5.length l0_5) (hc0_5 : l0_5.length ≤ c0_5) (h : frisketref07_KernOf.f k a0_0 a0_1 a0_2 l0_3 l0_4 l0_5 a1 a2 a3 = some r) :
  Calls Tryz.prog 111 #[.agg #[.string a0_0, .bool a0_1, .int .i64 a0_2, .slice A0_3 l0_3.length c0_3, .slice A0_4 l0_4.length c0_4, .slice A0_5 l0_5.length c0_5], .string a1, .string a2, .int .i64 a3] w fun e w' => e = .returned (.int .i64 r) ∧ Below w.heap.size w w' := by
 have hu44 := Tryz.underlying44
 have HR0_3 := Aside0.mk hr0_3
 have HC0_3 := Aside0.mk hc0_3
 clear hr0_3 hc0_3
 have HR0_4 := Aside0.mk hr0_4
 have HC0_4 := Aside0.mk hc0_4
 clear hr0_4 hc0_4
 have HR0_5 := Aside0.mk hr0_5
 have HC0_5 := Aside0.mk hc0_5
 clear hr0_5 hc0_5
 have HB := Aside0.mk (Below.refl w.heap.size w)
 have H : (frisketref07_KernOf.l0 k a1 a2 a3 0 a0_0 a0_1 a0_2 l0_3 l0_4 l0_5) = some r := h
 clear h
 have H' := Aside0.mk H
 clear H
 go_enter Tryz.func111, Tryz.ntmps111
 go_wp2_with (first | ((with_reducible refine gate_dst (N := 4) rfl ?_); refine box_event ?hg (N := 4) ?hd (cs := #[.string a0_0, .bool a0_1, .int .i64 a0_2, .slice A0_3 l0_3.length c0_3, .slice A0_4 l0_4.length c0_4, .slice A0_5 l0_5.length c0_5]) (t := 44) ?hr ?_; (case hd => rfl); (case hg => rfl); (case hr => first | (go_simp; done) | (go_simp; rfl)); intro gb402 hg w5 hbox hb; have n0_ := Aside0.mk (below_step (by repeat (first | (with_reducible first | exact HB.out | apply below_alloc | apply pw_below_drewN | apply below_drew1) | exact HB.out)) hb); have n1_ := Aside0.mk (hbox); have n2_ := Aside0.mk ((by rw [hg]; exact (below_size (by repeat (first | (with_reducible first | exact HB.out | apply below_alloc | apply pw_below_drewN | apply below_drew1) | exact HB.out))) : w.heap.size ≤ gb402)); have n3_ := Aside0.mk ((by rw [hg]; exact (below_size (by repeat (first | (with_reducible first | exact HB.out | apply below_alloc | apply pw_below_drewN | apply below_drew1) | exact HB.out))) : w.heap.size ≤ gb402)); clear HB; have HB := n0_; have BK402 := n1_; have GW402 := n2_; have GE402 := n3_; clear n0_ n1_ n2_ n3_; clear hb hbox hg))
 go_loopg [9] k (fun kq v9 w' => ∃ (x9_1 : Int), v9 = .int .i64 x9_1 ∧ Aside0 (frisketref07_KernOf.l0 kq a1 a2 a3 x9_1 a0_0 a0_1 a0_2 l0_3 l0_4 l0_5 = some r) ∧ Aside0 (kq ≤ k) ∧ Aside0 (w'.heap[gb402]? = some (.cells #[.string a0_0, .bool a0_1, .int .i64 a0_2, (.slice A0_3 l0_3.length c0_3), (.slice A0_4 l0_4.length c0_4), (.slice A0_5 l0_5.length c0_5)] 44 (0, 0))) ∧ Aside0 (Below w.heap.size w w'))
 case atStart => exact ⟨(0), (by first | rfl | (simp; done) | (simp [*]; done)), H', ⟨Nat.le_refl _⟩, ⟨by (with_reducible repeat (first | refine blk_drewN ?_ _ | refine blk_drew ?_ | refine blk_alloc ?_ _)); exact BK402.out⟩, ⟨by repeat (first | (with_reducible first | exact HB.out | apply below_alloc | apply pw_below_drewN | apply below_drew1 | refine below_set ?_ GE402.out) | exact HB.out)⟩⟩
 case round =>
  clear H'
  try clear c1
  try clear p2
  obtain ⟨x9_1, rfl, HA, HK1, BK402, HB⟩ := hrel
  cases gk with
  | zero => exact absurd HA.out (by simp [frisketref07_KernOf.l0])
  | succ k1 =>
   have H := HA.out
   clear HA
   simp only [frisketref07_KernOf.l0] at H
   by_cases c6 : x9_1 < (l0_5.length : Int)
   ·rw [if_pos c6] at H
    have c6b0 : decide (x9_1 < (l0_5.length : Int)) = true := decide_eq_true c6
    clear c6
    by_cases c7 : 0 ≤ x9_1
    ·rw [if_pos c7] at H
     have c7b0 : decide (0 ≤ x9_1) = true := decide_eq_true c7
     clear c7
     by_cases c8 : ((rd_T84 l0_5 x9_1).f0).toList = a1.toList
     ·rw [if_pos c8] at H
      have c8b0 : (((rd_T84 l0_5 x9_1).f0).toList == a1.toList) = true := beq_iff_eq.mpr c8
      have c8b1 : (((rd_T84 l0_5 x9_1).f0).toList != a1.toList) = false := bne_eq_false_iff_eq.mpr c8
      clear c8
      by_cases c9 : ((rd_T84 l0_5 x9_1).f1).toList = a2.toList
      ·rw [if_pos c9] at H
       have c9b0 : (((rd_T84 l0_5 x9_1).f1).toList == a2.toList) = true := beq_iff_eq.mpr c9
       have c9b1 : (((rd_T84 l0_5 x9_1).f1).toList != a2.toList) = false := bne_eq_false_iff_eq.mpr c9
       clear c9
       replace H := Option.bind_eq_some_iff.mp H
       obtain ⟨t406, A100, H⟩ := H
       replace H : (some t406) = some r := H
       have A10 := Aside0.mk A100
       clear A100
       obtain rfl := Option.some.inj H
       have hcz11_0 : wr.cell? ⟨gb402, 0, none⟩ = some (.string a0_0) := (blk_cell BK402.out 0).trans rfl
       have hcz11_1 : wr.cell? ⟨gb402, 1, none⟩ = some (.bool a0_1) := (blk_cell BK402.out 1).trans rfl
       have hcz11_2 : wr.cell? ⟨gb402, 2, none⟩ = some (.int .i64 a0_2) := (blk_cell BK402.out 2).trans rfl
       have hcz11_3 : wr.cell? ⟨gb402, 3, none⟩ = some (.slice A0_3 l0_3.length c0_3) := (blk_cell BK402.out 3).trans rfl
       have hcz11_4 : wr.cell? ⟨gb402, 4, none⟩ = some (.slice A0_4 l0_4.length c0_4) := (blk_cell BK402.out 4).trans rfl
       have hcz11_5 : wr.cell? ⟨gb402, 5, none⟩ = some (.slice A0_5 l0_5.length c0_5) := (blk_cell BK402.out 5).trans rfl
       have hfz11_0 := blk_frozen BK402.out 0
       have hfz11_1 := blk_frozen BK402.out 1
       have hfz11_2 := blk_frozen BK402.out 2
       have hfz11_3 := blk_frozen BK402.out 3
       have hfz11_4 := blk_frozen BK402.out 4
       have hfz11_5 := blk_frozen BK402.out 5
       have p403 : 0 ≤ (x9_1 : Int) := of_decide_eq_true (by first | (with_reducible assumption) | assumption)
       have q403 : x9_1 < (l0_5.length : Int) := of_decide_eq_true (by first | (with_reducible assumption) | assumption)
       obtain ⟨ad403, e403, hx403_0, hx403_1, hx403_2⟩ := at_T84 HR0_5.out x9_1 p403 q403
       cases e403
       replace hx403_0 := (HB.out.cell (World.block_lt_of_cell? w _ hx403_0)).trans hx403_0
       replace hx403_1 := (HB.out.cell (World.block_lt_of_cell? w _ hx403_1)).trans hx403_1
       replace hx403_2 := (HB.out.cell (World.block_lt_of_cell? w _ hx403_2)).trans hx403_2
       replace p403 := eq_true p403
       replace q403 := eq_true q403
       have p404 : 0 ≤ (x9_1 : Int) := of_decide_eq_true (by first | (with_reducible assumption) | assumption)
       have q404 : x9_1 < (l0_5.length : Int) := of_decide_eq_true (by first | (with_reducible assumption) | assumption)
       obtain ⟨ad404, e404, hx404_0, hx404_1, hx404_2⟩ := at_T84 HR0_5.out x9_1 p404 q404
       obtain rfl : ad403 = ad404 := (by injection e404)
       replace hx404_0 := (HB.out.cell (World.block_lt_of_cell? w _ hx404_0)).trans hx404_0
       replace hx404_1 := (HB.out.cell (World.block_lt_of_cell? w _ hx404_1)).trans hx404_1
       replace hx404_2 := (HB.out.cell (World.block_lt_of_cell? w _ hx404_2)).trans hx404_2
       replace p404 := eq_true p404
       replace q404 := eq_true q404
       have p405 : 0 ≤ (x9_1 : Int) := of_decide_eq_true (by first | (with_reducible assumption) | assumption)
       have q405 : x9_1 < (l0_5.length : Int) := of_decide_eq_true (by first | (with_reducible assumption) | assumption)
       obtain ⟨ad405, e405, hx405_0, hx405_1, hx405_2⟩ := at_T84 HR0_5.out x9_1 p405 q405
       obtain rfl : ad403 = ad405 := (by injection e405)
       replace hx405_0 := (HB.out.cell (World.block_lt_of_cell? w _ hx405_0)).trans hx405_0
       replace hx405_1 := (HB.out.cell (World.block_lt_of_cell? w _ hx405_1)).trans hx405_1
       replace hx405_2 := (HB.out.cell (World.block_lt_of_cell? w _ hx405_2)).trans hx405_2
       replace p405 := eq_true p405
       replace q405 := eq_true q405
       go_wp2_with (first | ((with_reducible refine gate_callee (f := 110) rfl ?_); refine goesL_ (some 42) rfl rfl Tryz.func110 (by kernel_rfl) rfl #[.int .i64 ((rd_T84 l0_5 x9_1).f2), .int .i64 a3] rfl (by (try simp only [List.map_toArray, List.map_cons, List.map_nil]); first | done | rfl | (simp only [List.length_drop, List.length_take]; rfl)) ?_; (with_reducible refine (frisketref07_scale.calls ((rd_T84 l0_5 x9_1).f2) a3 t406 _ A10.out).mono ?_); rintro e w' ⟨rfl, ⟨nd, rfl⟩⟩; refine ⟨_, rfl, ?_⟩))
       go_ret
       exact ⟨by first | rfl | (simp [errW_none, errW_some] <;> rfl) | (simp [*, errW_none, errW_some] <;> rfl), by repeat (first | (with_reducible first | exact HB.out | apply below_alloc | apply pw_below_drewN | apply below_drew1 | refine below_set ?_ GE402.out) | exact HB.out)⟩
      ·rw [if_neg c9] at H
       have c9b0 : (((rd_T84 l0_5 x9_1).f1).toList == a2.toList) = false := beq_eq_false_iff_ne.mpr c9
       have c9b1 : (((rd_T84 l0_5 x9_1).f1).toList != a2.toList) = true := bne_iff_ne.mpr c9
       have H' := Aside0.mk H
       clear H
       have hcz12_0 : wr.cell? ⟨gb402, 0, none⟩ = some (.string a0_0) := (blk_cell BK402.out 0).trans rfl
       have hcz12_1 : wr.cell? ⟨gb402, 1, none⟩ = some (.bool a0_1) := (blk_cell BK402.out 1).trans rfl
       have hcz12_2 : wr.cell? ⟨gb402, 2, none⟩ = some (.int .i64 a0_2) := (blk_cell BK402.out 2).trans rfl
       have hcz12_3 : wr.cell? ⟨gb402, 3, none⟩ = some (.slice A0_3 l0_3.length c0_3) := (blk_cell BK402.out 3).trans rfl
       have hcz12_4 : wr.cell? ⟨gb402, 4, none⟩ = some (.slice A0_4 l0_4.length c0_4) := (blk_cell BK402.out 4).trans rfl
       have hcz12_5 : wr.cell? ⟨gb402, 5, none⟩ = some (.slice A0_5 l0_5.length c0_5) := (blk_cell BK402.out 5).trans rfl
       have hfz12_0 := blk_frozen BK402.out 0
       have hfz12_1 := blk_frozen BK402.out 1
       have hfz12_2 := blk_frozen BK402.out 2
       have hfz12_3 := blk_frozen BK402.out 3
       have hfz12_4 := blk_frozen BK402.out 4
       have hfz12_5 := blk_frozen BK402.out 5
       have p403 : 0 ≤ (x9_1 : Int) := of_decide_eq_true (by first | (with_reducible assumption) | assumption)
       have q403 : x9_1 < (l0_5.length : Int) := of_decide_eq_true (by first | (with_reducible assumption) | assumption)
       obtain ⟨ad403, e403, hx403_0, hx403_1, hx403_2⟩ := at_T84 HR0_5.out x9_1 p403 q403
       cases e403
       replace hx403_0 := (HB.out.cell (World.block_lt_of_cell? w _ hx403_0)).trans hx403_0
       replace hx403_1 := (HB.out.cell (World.block_lt_of_cell? w _ hx403_1)).trans hx403_1
       replace hx403_2 := (HB.out.cell (World.block_lt_of_cell? w _ hx403_2)).trans hx403_2
       replace p403 := eq_true p403
       replace q403 := eq_true q403
       have p404 : 0 ≤ (x9_1 : Int) := of_decide_eq_true (by first | (with_reducible assumption) | assumption)
       have q404 : x9_1 < (l0_5.length : Int) := of_decide_eq_true (by first | (with_reducible assumption) | assumption)
       obtain ⟨ad404, e404, hx404_0, hx404_1, hx404_2⟩ := at_T84 HR0_5.out x9_1 p404 q404
       obtain rfl : ad403 = ad404 := (by injection e404)
       replace hx404_0 := (HB.out.cell (World.block_lt_of_cell? w _ hx404_0)).trans hx404_0
       replace hx404_1 := (HB.out.cell (World.block_lt_of_cell? w _ hx404_1)).trans hx404_1
       replace hx404_2 := (HB.out.cell (World.block_lt_of_cell? w _ hx404_2)).trans hx404_2
       replace p404 := eq_true p404
       replace q404 := eq_true q404
       go_wp2
       go_roundg k1
       case measure => have := HK1.out; omega
       case rel => exact ⟨(wrap64 (x9_1 + 1)), (by first | rfl | (simp; done) | (simp [*]; done)), H', ⟨by have := HK1.out; omega⟩, ⟨by (with_reducible repeat (first | refine blk_drewN ?_ _ | refine blk_drew ?_ | refine blk_alloc ?_ _)); exact BK402.out⟩, ⟨by repeat (first | (with_reducible first | exact HB.out | apply below_alloc | apply pw_below_drewN | apply below_drew1 | refine below_set ?_ GE402.out) | exact HB.out)⟩⟩
     ·rw [if_neg c8] at H
      have c8b0 : (((rd_T84 l0_5 x9_1).f0).toList == a1.toList) = false := beq_eq_false_iff_ne.mpr c8
      have c8b1 : (((rd_T84 l0_5 x9_1).f0).toList != a1.toList) = true := bne_iff_ne.mpr c8
      have H' := Aside0.mk H
      clear H
      have hcz13_0 : wr.cell? ⟨gb402, 0, none⟩ = some (.string a0_0) := (blk_cell BK402.out 0).trans rfl
      have hcz13_1 : wr.cell? ⟨gb402, 1, none⟩ = some (.bool a0_1) := (blk_cell BK402.out 1).trans rfl
      have hcz13_2 : wr.cell? ⟨gb402, 2, none⟩ = some (.int .i64 a0_2) := (blk_cell BK402.out 2).trans rfl
      have hcz13_3 : wr.cell? ⟨gb402, 3, none⟩ = some (.slice A0_3 l0_3.length c0_3) := (blk_cell BK402.out 3).trans rfl
      have hcz13_4 : wr.cell? ⟨gb402, 4, none⟩ = some (.slice A0_4 l0_4.length c0_4) := (blk_cell BK402.out 4).trans rfl
      have hcz13_5 : wr.cell? ⟨gb402, 5, none⟩ = some (.slice A0_5 l0_5.length c0_5) := (blk_cell BK402.out 5).trans rfl
      have hfz13_0 := blk_frozen BK402.out 0
      have hfz13_1 := blk_frozen BK402.out 1
      have hfz13_2 := blk_frozen BK402.out 2
      have hfz13_3 := blk_frozen BK402.out 3
      have hfz13_4 := blk_frozen BK402.out 4
      have hfz13_5 := blk_frozen BK402.out 5
      have p403 : 0 ≤ (x9_1 : Int) := of_decide_eq_true (by first | (with_reducible assumption) | assumption)
      have q403 : x9_1 < (l0_5.length : Int) := of_decide_eq_true (by first | (with_reducible assumption) | assumption)
      obtain ⟨ad403, e403, hx403_0, hx403_1, hx403_2⟩ := at_T84 HR0_5.out x9_1 p403 q403
      cases e403
      replace hx403_0 := (HB.out.cell (World.block_lt_of_cell? w _ hx403_0)).trans hx403_0
      replace hx403_1 := (HB.out.cell (World.block_lt_of_cell? w _ hx403_1)).trans hx403_1
      replace hx403_2 := (HB.out.cell (World.block_lt_of_cell? w _ hx403_2)).trans hx403_2
      replace p403 := eq_true p403
      replace q403 := eq_true q403
      go_wp2
      go_roundg k1
      case measure => have := HK1.out; omega
      case rel => exact ⟨(wrap64 (x9_1 + 1)), (by first | rfl | (simp; done) | (simp [*]; done)), H', ⟨by have := HK1.out; omega⟩, ⟨by (with_reducible repeat (first | refine blk_drewN ?_ _ | refine blk_drew ?_ | refine blk_alloc ?_ _)); exact BK402.out⟩, ⟨by repeat (first | (with_reducible first | exact HB.out | apply below_alloc | apply pw_below_drewN | apply below_drew1 | refine below_set ?_ GE402.out) | exact HB.out)⟩⟩
    ·rw [if_neg c7] at H
     exact absurd H (by simp)
   ·rw [if_neg c6] at H
    have c6b0 : decide (x9_1 < (l0_5.length : Int)) = false := decide_eq_false c6
    clear c6
    obtain rfl := Option.some.inj H
    have hcz14_0 : wr.cell? ⟨gb402, 0, none⟩ = some (.string a0_0) := (blk_cell BK402.out 0).trans rfl
    have hcz14_1 : wr.cell? ⟨gb402, 1, none⟩ = some (.bool a0_1) := (blk_cell BK402.out 1).trans rfl
    have hcz14_2 : wr.cell? ⟨gb402, 2, none⟩ = some (.int .i64 a0_2) := (blk_cell BK402.out 2).trans rfl
    have hcz14_3 : wr.cell? ⟨gb402, 3, none⟩ = some (.slice A0_3 l0_3.length c0_3) := (blk_cell BK402.out 3).trans rfl
    have hcz14_4 : wr.cell? ⟨gb402, 4, none⟩ = some (.slice A0_4 l0_4.length c0_4) := (blk_cell BK402.out 4).trans rfl
    have hcz14_5 : wr.cell? ⟨gb402, 5, none⟩ = some (.slice A0_5 l0_5.length c0_5) := (blk_cell BK402.out 5).trans rfl
    have hfz14_0 := blk_frozen BK402.out 0
    have hfz14_1 := blk_frozen BK402.out 1
    have hfz14_2 := blk_frozen BK402.out 2
    have hfz14_3 := blk_frozen BK402.out 3
    have hfz14_4 := blk_frozen BK402.out 4
    have hfz14_5 := blk_frozen BK402.out 5
    go_wp2
    go_ret
    exact ⟨by first | rfl | (simp [errW_none, errW_some] <;> rfl) | (simp [*, errW_none, errW_some] <;> rfl), by repeat (first | (with_reducible first | exact HB.out | apply below_alloc | apply pw_below_drewN | apply below_drew1 | refine below_set ?_ GE402.out) | exact HB.out)⟩
end Go.Proofs.YtaifemkokfoadaaGreatDoor.PX

namespace Go.Proofs.YtaifemkokfoadaaGreatDoor.PX
open Go.RowKit Go.Proofs.YtaifemkokfoadaaGreatDoorW.PrintWords Go.Proofs.YtaifemkokfoadaaGreatDoorW.PrintLast Go.Proofs.YtaifemkokfoadaaGreatDoorW.PrintMore
attribute [local go_sem] max2_int min2_int max_two min_two max_three min_three max_four min_four   -- for this text's walks alone
set_option linter.unusedVariables false
set_option linter.unusedSimpArgs false
def frisketref07_Kerning.f (k : Nat) (a0_0 : ByteArray) (a0_1 : Bool) (a0_2 : Int) (l0_3 : List (S81)) (l0_4 : List (S83)) (l0_5 : List (S84)) (a1 : ByteArray) (a2 : ByteArray) (a3 : Int) : Option (Int × Int) := if a3 < 1 then (some (0, 1)) else (if a3 > 1000 then (some (0, 1)) else ((frisketref07_Valid.f a0_0 a0_1 a0_2 l0_3 l0_4 l0_5).bind fun t408 => (if t408 = true then ((frisketref07_KernOf.f k a0_0 a0_1 a0_2 l0_3 l0_4 l0_5 a1 a2 a3).bind fun t409 => (some (t409, 0))) else (some (0, 1)))))
set_option maxHeartbeats 8000000 in
set_option maxRecDepth 100000 in
theorem frisketref07_Kerning.calls (k : Nat) (a0_0 : ByteArray) (a0_1 : Bool) (a0_2 : Int) (A0_3 : Option Addr) (c0_3 : Nat) (l0_3 : List (S81)) (A0_4 : Option Addr) (c0_4 : Nat) (l0_4 : List (S83)) (A0_5 : Option Addr) (c0_5 : Nat) (l0_5 : List (S84)) (a1 : ByteArray) (a2 : ByteArray) (a3 : Int) (r1 : Int) (r2 : Int) (w : World) (hr0_3 : Kd.C k81 w A0_3 l0_3.length l0_3) (hc0_3 : l0_3.length ≤ c0_3) (hr0_4 : Kd.C k83 w A0_4 l0_4.length l0_4) (hc0_4 : l0_4.length ≤ c0_4) (hr0_5 : Kd.C k84 w A0_5 l0_5.length l0_5) (hc0_5 : l0_5.length ≤ c0_5) (h : frisketref07_Kerning.f k a0_0 a0_1 a0_2 l0_3 l0_4 l0_5 a1 a2 a3 = some (r1, r2)) :
  Calls Tryz.prog 70 #[.agg #[.string a0_0, .bool a0_1, .int .i64 a0_2, .slice A0_3 l0_3.length c0_3, .slice A0_4 l0_4.length c0_4, .slice A0_5 l0_5.length c0_5], .string a1, .string a2, .int .i64 a3] w fun e w' => e = .returned (.tuple #[.int .i64 r1, .int .i64 r2]) ∧ Below w.heap.size w w' := by
 have hu44 := Tryz.underlying44
 have HR0_3 := Aside0.mk hr0_3
 have HC0_3 := Aside0.mk hc0_3
 clear hr0_3 hc0_3
 have HR0_4 := Aside0.mk hr0_4
 have HC0_4 := Aside0.mk hc0_4
 clear hr0_4 hc0_4
 have HR0_5 := Aside0.mk hr0_5
 have HC0_5 := Aside0.mk hc0_5
 clear hr0_5 hc0_5
 have HB := Aside0.mk (Below.refl w.heap.size w)
 have H : (if a3 < 1 then (some (0, 1)) else (if a3 > 1000 then (some (0, 1)) else ((frisketref07_Valid.f a0_0 a0_1 a0_2 l0_3 l0_4 l0_5).bind fun t408 => (if t408 = true then ((frisketref07_KernOf.f k a0_0 a0_1 a0_2 l0_3 l0_4 l0_5 a1 a2 a3).bind fun t409 => (some (t409, 0))) else (some (0, 1)))))) = some (r1, r2) := h
 clear h
 by_cases c5 : a3 < 1
 ·rw [if_pos c5] at H
  have c5b0 : decide (a3 < 1) = true := decide_eq_true c5
  clear c5
  simp only [Option.some.injEq, Prod.mk.injEq] at H
  obtain ⟨rfl, rfl⟩ := H
  go_enter Tryz.func70, Tryz.ntmps70
  go_wp2_with (first | ((with_reducible refine gate_dst (N := 4) rfl ?_); refine box_event ?hg (N := 4) ?hd (cs := #[.string a0_0, .bool a0_1, .int .i64 a0_2, .slice A0_3 l0_3.length c0_3, .slice A0_4 l0_4.length c0_4, .slice A0_5 l0_5.length c0_5]) (t := 44) ?hr ?_; (case hd => rfl); (case hg => rfl); (case hr => first | (go_simp; done) | (go_simp; rfl)); intro gb407 hg w6 hbox hb; have n0_ := Aside0.mk (below_step (by repeat (first | (with_reducible first | exact HB.out | apply below_alloc | apply pw_below_drewN | apply below_drew1) | exact HB.out)) hb); have n1_ := Aside0.mk (hbox); have n2_ := Aside0.mk ((by rw [hg]; exact (below_size (by repeat (first | (with_reducible first | exact HB.out | apply below_alloc | apply pw_below_drewN | apply below_drew1) | exact HB.out))) : w.heap.size ≤ gb407)); have n3_ := Aside0.mk ((by rw [hg]; exact (below_size (by repeat (first | (with_reducible first | exact HB.out | apply below_alloc | apply pw_below_drewN | apply below_drew1) | exact HB.out))) : w.heap.size ≤ gb407)); clear HB; have HB := n0_; have BK407 := n1_; have GW407 := n2_; have GE407 := n3_; clear n0_ n1_ n2_ n3_; clear hb hbox hg))
  go_ret2
  exact ⟨by first | rfl | (simp [errW_none, errW_some] <;> rfl) | (simp [*, errW_none, errW_some] <;> rfl), by repeat (first | (with_reducible first | exact HB.out | apply below_alloc | apply pw_below_drewN | apply below_drew1 | refine below_set ?_ GE407.out) | exact HB.out)⟩
 ·rw [if_neg c5] at H
  have c5b0 : decide (a3 < 1) = false := decide_eq_false c5
  clear c5
  by_cases c7 : a3 > 1000
  ·rw [if_pos c7] at H
   have c7b0 : decide (1000 < a3) = true := decide_eq_true c7
   clear c7
   simp only [Option.some.injEq, Prod.mk.injEq] at H
   obtain ⟨rfl, rfl⟩ := H
   go_enter Tryz.func70, Tryz.ntmps70
   go_wp2_with (first | ((with_reducible refine gate_dst (N := 4) rfl ?_); refine box_event ?hg (N := 4) ?hd (cs := #[.string a0_0, .bool a0_1, .int .i64 a0_2, .slice A0_3 l0_3.length c0_3, .slice A0_4 l0_4.length c0_4, .slice A0_5 l0_5.length c0_5]) (t := 44) ?hr ?_; (case hd => rfl); (case hg => rfl); (case hr => first | (go_simp; done) | (go_simp; rfl)); intro gb407 hg w8 hbox hb; have n0_ := Aside0.mk (below_step (by repeat (first | (with_reducible first | exact HB.out | apply below_alloc | apply pw_below_drewN | apply below_drew1) | exact HB.out)) hb); have n1_ := Aside0.mk (hbox); have n2_ := Aside0.mk ((by rw [hg]; exact (below_size (by repeat (first | (with_reducible first | exact HB.out | apply below_alloc | apply pw_below_drewN | apply below_drew1) | exact HB.out))) : w.heap.size ≤ gb407)); have n3_ := Aside0.mk ((by rw [hg]; exact (below_size (by repeat (first | (with_reducible first | exact HB.out | apply below_alloc | apply pw_below_drewN | apply below_drew1) | exact HB.out))) : w.heap.size ≤ gb407)); clear HB; have HB := n0_; have BK407 := n1_; have GW407 := n2_; have GE407 := n3_; clear n0_ n1_ n2_ n3_; clear hb hbox hg))
   go_ret2
   exact ⟨by first | rfl | (simp [errW_none, errW_some] <;> rfl) | (simp [*, errW_none, errW_some] <;> rfl), by repeat (first | (with_reducible first | exact HB.out | apply below_alloc | apply pw_below_drewN | apply below_drew1 | refine below_set ?_ GE407.out) | exact HB.out)⟩
  ·rw [if_neg c7] at H
   have c7b0 : decide (1000 < a3) = false := decide_eq_false c7
   clear c7
   replace H := Option.bind_eq_some_iff.mp H
   obtain ⟨t408, A90, H⟩ := H
   replace H : (if t408 = true then ((frisketref07_KernOf.f k a0_0 a0_1 a0_2 l0_3 l0_4 l0_5 a1 a2 a3).bind fun t409 => (some (t409, 0))) else (some (0, 1))) = some (r1, r2) := H
   have A9 := Aside0.mk A90
   clear A90
   by_cases c10 : t408 = true
   ·subst c10
    have H1 : ((frisketref07_KernOf.f k a0_0 a0_1 a0_2 l0_3 l0_4 l0_5 a1 a2 a3).bind fun t409 => (some (t409, 0))) = some (r1, r2) := by rw [if_pos rfl] at H; exact H
    clear H
    have H := H1
    clear H1
    replace H := Option.bind_eq_some_iff.mp H
    obtain ⟨t409, A110, H⟩ := H
    replace H : (some (t409, 0)) = some (r1, r2) := H
    have A11 := Aside0.mk A110
    clear A110
    simp only [Option.some.injEq, Prod.mk.injEq] at H
    obtain ⟨rfl, rfl⟩ := H
    go_enter Tryz.func70, Tryz.ntmps70
    go_wp2_with (first | ((with_reducible refine gate_dst (N := 4) rfl ?_); refine box_event ?hg (N := 4) ?hd (cs := #[.string a0_0, .bool a0_1, .int .i64 a0_2, .slice A0_3 l0_3.length c0_3, .slice A0_4 l0_4.length c0_4, .slice A0_5 l0_5.length c0_5]) (t := 44) ?hr ?_; (case hd => rfl); (case hg => rfl); (case hr => first | (go_simp; done) | (go_simp; rfl)); intro gb407 hg w12 hbox hb; have n0_ := Aside0.mk (below_step (by repeat (first | (with_reducible first | exact HB.out | apply below_alloc | apply pw_below_drewN | apply below_drew1) | exact HB.out)) hb); have n1_ := Aside0.mk (hbox); have n2_ := Aside0.mk ((by rw [hg]; exact (below_size (by repeat (first | (with_reducible first | exact HB.out | apply below_alloc | apply pw_below_drewN | apply below_drew1) | exact HB.out))) : w.heap.size ≤ gb407)); have n3_ := Aside0.mk ((by rw [hg]; exact (below_size (by repeat (first | (with_reducible first | exact HB.out | apply below_alloc | apply pw_below_drewN | apply below_drew1) | exact HB.out))) : w.heap.size ≤ gb407)); clear HB; have HB := n0_; have BK407 := n1_; have GW407 := n2_; have GE407 := n3_; clear n0_ n1_ n2_ n3_; clear hb hbox hg; have hcz13_0 : w12.cell? ⟨gb407, 0, none⟩ = some (.string a0_0) := (blk_cell BK407.out 0).trans rfl; have hcz13_1 : w12.cell? ⟨gb407, 1, none⟩ = some (.bool a0_1) := (blk_cell BK407.out 1).trans rfl; have hcz13_2 : w12.cell? ⟨gb407, 2, none⟩ = some (.int .i64 a0_2) := (blk_cell BK407.out 2).trans rfl; have hcz13_3 : w12.cell? ⟨gb407, 3, none⟩ = some (.slice A0_3 l0_3.length c0_3) := (blk_cell BK407.out 3).trans rfl; have hcz13_4 : w12.cell? ⟨gb407, 4, none⟩ = some (.slice A0_4 l0_4.length c0_4) := (blk_cell BK407.out 4).trans rfl; have hcz13_5 : w12.cell? ⟨gb407, 5, none⟩ = some (.slice A0_5 l0_5.length c0_5) := (blk_cell BK407.out 5).trans rfl; have hfz13_0 := blk_frozen BK407.out 0; have hfz13_1 := blk_frozen BK407.out 1; have hfz13_2 := blk_frozen BK407.out 2; have hfz13_3 := blk_frozen BK407.out 3; have hfz13_4 := blk_frozen BK407.out 4; have hfz13_5 := blk_frozen BK407.out 5) | (go_at_call 61; (with_reducible refine (frisketref07_Valid.calls a0_0 a0_1 a0_2 _ _ l0_3 _ _ l0_4 _ _ l0_5 true _ ?side1 ?side2 ?side3 ?side4 ?side5 ?side6 A9.out).mono ?_); (case side1 => repeat (first | exact (Kd.C_below HR0_3.out HB.out) | (with_reducible refine Kd.C_alloc ?_ _) | (with_reducible refine Kd.C_drewN ?_ _) | (with_reducible refine Kd.C_drew ?_))); (case side2 => exact HC0_3.out); (case side3 => repeat (first | exact (Kd.C_below HR0_4.out HB.out) | (with_reducible refine Kd.C_alloc ?_ _) | (with_reducible refine Kd.C_drewN ?_ _) | (with_reducible refine Kd.C_drew ?_))); (case side4 => exact HC0_4.out); (case side5 => repeat (first | exact (Kd.C_below HR0_5.out HB.out) | (with_reducible refine Kd.C_alloc ?_ _) | (with_reducible refine Kd.C_drewN ?_ _) | (with_reducible refine Kd.C_drew ?_))); (case side6 => exact HC0_5.out); rintro e w14 ⟨rfl, hb⟩; have n0_ := Aside0.mk (blk_below (g := gb407) (o := .cells #[.string a0_0, .bool a0_1, .int .i64 a0_2, .slice A0_3 l0_3.length c0_3, .slice A0_4 l0_4.length c0_4, .slice A0_5 l0_5.length c0_5] 44 (0, 0)) (by (with_reducible repeat (first | refine blk_drewN ?_ _ | refine blk_drew ?_ | refine blk_alloc ?_ _)); exact BK407.out) hb); have n1_ := Aside0.mk (below_step (by repeat (first | (with_reducible first | exact HB.out | apply below_alloc | apply pw_below_drewN | apply below_drew1 | refine below_set ?_ GE407.out) | exact HB.out)) hb); clear BK407; clear HB; have BK407 := n0_; have HB := n1_; clear n0_ n1_; (try clear hb); (try clear hb2); (try clear hk); (try clear hi); have hcz15_0 : w14.cell? ⟨gb407, 0, none⟩ = some (.string a0_0) := (blk_cell BK407.out 0).trans rfl; have hcz15_1 : w14.cell? ⟨gb407, 1, none⟩ = some (.bool a0_1) := (blk_cell BK407.out 1).trans rfl; have hcz15_2 : w14.cell? ⟨gb407, 2, none⟩ = some (.int .i64 a0_2) := (blk_cell BK407.out 2).trans rfl; have hcz15_3 : w14.cell? ⟨gb407, 3, none⟩ = some (.slice A0_3 l0_3.length c0_3) := (blk_cell BK407.out 3).trans rfl; have hcz15_4 : w14.cell? ⟨gb407, 4, none⟩ = some (.slice A0_4 l0_4.length c0_4) := (blk_cell BK407.out 4).trans rfl; have hcz15_5 : w14.cell? ⟨gb407, 5, none⟩ = some (.slice A0_5 l0_5.length c0_5) := (blk_cell BK407.out 5).trans rfl; have hfz15_0 := blk_frozen BK407.out 0; have hfz15_1 := blk_frozen BK407.out 1; have hfz15_2 := blk_frozen BK407.out 2; have hfz15_3 := blk_frozen BK407.out 3; have hfz15_4 := blk_frozen BK407.out 4; have hfz15_5 := blk_frozen BK407.out 5) | ((with_reducible refine gate_callee (f := 111) rfl ?_); refine goesL_ (some 25) rfl rfl Tryz.func111 (by kernel_rfl) rfl #[.agg #[.string a0_0, .bool a0_1, .int .i64 a0_2, .slice A0_3 l0_3.length c0_3, .slice A0_4 l0_4.length c0_4, .slice A0_5 l0_5.length c0_5], .string a1, .string a2, .int .i64 a3] rfl (by (try simp only [List.map_toArray, List.map_cons, List.map_nil]); first | done | rfl | (simp only [List.length_drop, List.length_take]; rfl)) ?_; (with_reducible refine (frisketref07_KernOf.calls k a0_0 a0_1 a0_2 _ _ l0_3 _ _ l0_4 _ _ l0_5 a1 a2 a3 t409 _ ?side1 ?side2 ?side3 ?side4 ?side5 ?side6 A11.out).mono ?_); (case side1 => repeat (first | exact (Kd.C_below HR0_3.out HB.out) | (with_reducible refine Kd.C_alloc ?_ _) | (with_reducible refine Kd.C_drewN ?_ _) | (with_reducible refine Kd.C_drew ?_))); (case side2 => exact HC0_3.out); (case side3 => repeat (first | exact (Kd.C_below HR0_4.out HB.out) | (with_reducible refine Kd.C_alloc ?_ _) | (with_reducible refine Kd.C_drewN ?_ _) | (with_reducible refine Kd.C_drew ?_))); (case side4 => exact HC0_4.out); (case side5 => repeat (first | exact (Kd.C_below HR0_5.out HB.out) | (with_reducible refine Kd.C_alloc ?_ _) | (with_reducible refine Kd.C_drewN ?_ _) | (with_reducible refine Kd.C_drew ?_))); (case side6 => exact HC0_5.out); rintro e w16 ⟨rfl, hb⟩; refine ⟨_, rfl, ?_⟩; have n0_ := Aside0.mk (blk_below (g := gb407) (o := .cells #[.string a0_0, .bool a0_1, .int .i64 a0_2, .slice A0_3 l0_3.length c0_3, .slice A0_4 l0_4.length c0_4, .slice A0_5 l0_5.length c0_5] 44 (0, 0)) (by (with_reducible repeat (first | refine blk_drewN ?_ _ | refine blk_drew ?_ | refine blk_alloc ?_ _)); exact BK407.out) hb); have n1_ := Aside0.mk (below_step (by repeat (first | (with_reducible first | exact HB.out | apply below_alloc | apply pw_below_drewN | apply below_drew1 | refine below_set ?_ GE407.out) | exact HB.out)) hb); clear BK407; clear HB; have BK407 := n0_; have HB := n1_; clear n0_ n1_; (try clear hb); (try clear hb2); (try clear hk); (try clear hi)))
    go_ret2
    exact ⟨by first | rfl | (simp [errW_none, errW_some] <;> rfl) | (simp [*, errW_none, errW_some] <;> rfl), by repeat (first | (with_reducible first | exact HB.out | apply below_alloc | apply pw_below_drewN | apply below_drew1 | refine below_set ?_ GE407.out) | exact HB.out)⟩
   ·replace c10 := Bool.eq_false_iff.mpr c10
    subst c10
    have H1 : (some (0, 1)) = some (r1, r2) := by rw [if_neg (show ¬ (false = true) by decide)] at H; exact H
    clear H
    have H := H1
    clear H1
    simp only [Option.some.injEq, Prod.mk.injEq] at H
    obtain ⟨rfl, rfl⟩ := H
    go_enter Tryz.func70, Tryz.ntmps70
    go_wp2_with (first | ((with_reducible refine gate_dst (N := 4) rfl ?_); refine box_event ?hg (N := 4) ?hd (cs := #[.string a0_0, .bool a0_1, .int .i64 a0_2, .slice A0_3 l0_3.length c0_3, .slice A0_4 l0_4.length c0_4, .slice A0_5 l0_5.length c0_5]) (t := 44) ?hr ?_; (case hd => rfl); (case hg => rfl); (case hr => first | (go_simp; done) | (go_simp; rfl)); intro gb407 hg w17 hbox hb; have n0_ := Aside0.mk (below_step (by repeat (first | (with_reducible first | exact HB.out | apply below_alloc | apply pw_below_drewN | apply below_drew1) | exact HB.out)) hb); have n1_ := Aside0.mk (hbox); have n2_ := Aside0.mk ((by rw [hg]; exact (below_size (by repeat (first | (with_reducible first | exact HB.out | apply below_alloc | apply pw_below_drewN | apply below_drew1) | exact HB.out))) : w.heap.size ≤ gb407)); have n3_ := Aside0.mk ((by rw [hg]; exact (below_size (by repeat (first | (with_reducible first | exact HB.out | apply below_alloc | apply pw_below_drewN | apply below_drew1) | exact HB.out))) : w.heap.size ≤ gb407)); clear HB; have HB := n0_; have BK407 := n1_; have GW407 := n2_; have GE407 := n3_; clear n0_ n1_ n2_ n3_; clear hb hbox hg; have hcz18_0 : w17.cell? ⟨gb407, 0, none⟩ = some (.string a0_0) := (blk_cell BK407.out 0).trans rfl; have hcz18_1 : w17.cell? ⟨gb407, 1, none⟩ = some (.bool a0_1) := (blk_cell BK407.out 1).trans rfl; have hcz18_2 : w17.cell? ⟨gb407, 2, none⟩ = some (.int .i64 a0_2) := (blk_cell BK407.out 2).trans rfl; have hcz18_3 : w17.cell? ⟨gb407, 3, none⟩ = some (.slice A0_3 l0_3.length c0_3) := (blk_cell BK407.out 3).trans rfl; have hcz18_4 : w17.cell? ⟨gb407, 4, none⟩ = some (.slice A0_4 l0_4.length c0_4) := (blk_cell BK407.out 4).trans rfl; have hcz18_5 : w17.cell? ⟨gb407, 5, none⟩ = some (.slice A0_5 l0_5.length c0_5) := (blk_cell BK407.out 5).trans rfl; have hfz18_0 := blk_frozen BK407.out 0; have hfz18_1 := blk_frozen BK407.out 1; have hfz18_2 := blk_frozen BK407.out 2; have hfz18_3 := blk_frozen BK407.out 3; have hfz18_4 := blk_frozen BK407.out 4; have hfz18_5 := blk_frozen BK407.out 5) | (go_at_call 61; (with_reducible refine (frisketref07_Valid.calls a0_0 a0_1 a0_2 _ _ l0_3 _ _ l0_4 _ _ l0_5 false _ ?side1 ?side2 ?side3 ?side4 ?side5 ?side6 A9.out).mono ?_); (case side1 => repeat (first | exact (Kd.C_below HR0_3.out HB.out) | (with_reducible refine Kd.C_alloc ?_ _) | (with_reducible refine Kd.C_drewN ?_ _) | (with_reducible refine Kd.C_drew ?_))); (case side2 => exact HC0_3.out); (case side3 => repeat (first | exact (Kd.C_below HR0_4.out HB.out) | (with_reducible refine Kd.C_alloc ?_ _) | (with_reducible refine Kd.C_drewN ?_ _) | (with_reducible refine Kd.C_drew ?_))); (case side4 => exact HC0_4.out); (case side5 => repeat (first | exact (Kd.C_below HR0_5.out HB.out) | (with_reducible refine Kd.C_alloc ?_ _) | (with_reducible refine Kd.C_drewN ?_ _) | (with_reducible refine Kd.C_drew ?_))); (case side6 => exact HC0_5.out); rintro e w19 ⟨rfl, hb⟩; have n0_ := Aside0.mk (blk_below (g := gb407) (o := .cells #[.string a0_0, .bool a0_1, .int .i64 a0_2, .slice A0_3 l0_3.length c0_3, .slice A0_4 l0_4.length c0_4, .slice A0_5 l0_5.length c0_5] 44 (0, 0)) (by (with_reducible repeat (first | refine blk_drewN ?_ _ | refine blk_drew ?_ | refine blk_alloc ?_ _)); exact BK407.out) hb); have n1_ := Aside0.mk (below_step (by repeat (first | (with_reducible first | exact HB.out | apply below_alloc | apply pw_below_drewN | apply below_drew1 | refine below_set ?_ GE407.out) | exact HB.out)) hb); clear BK407; clear HB; have BK407 := n0_; have HB := n1_; clear n0_ n1_; (try clear hb); (try clear hb2); (try clear hk); (try clear hi)))
    go_ret2
    exact ⟨by first | rfl | (simp [errW_none, errW_some] <;> rfl) | (simp [*, errW_none, errW_some] <;> rfl), by repeat (first | (with_reducible first | exact HB.out | apply below_alloc | apply pw_below_drewN | apply below_drew1 | refine below_set ?_ GE407.out) | exact HB.out)⟩
end Go.Proofs.YtaifemkokfoadaaGreatDoor.PX

namespace Go.Proofs.YtaifemkokfoadaaGreatDoor.PX
open Go.RowKit Go.Proofs.YtaifemkokfoadaaGreatDoorW.PrintWords Go.Proofs.YtaifemkokfoadaaGreatDoorW.PrintLast Go.Proofs.YtaifemkokfoadaaGreatDoorW.PrintMore
attribute [local go_sem] max2_int min2_int max_two min_two max_three min_three max_four min_four   -- for this text's walks alone
set_option linter.unusedVariables false
set_option linter.unusedSimpArgs false
def frisketref07_JoinOf.l0 : Nat → ByteArray → ByteArray → Int → ByteArray → Bool → Int → List (S81) → List (S83) → List (S84) → Option (ByteArray × Bool)
 | 0, _, _, _, _, _, _, _, _, _ => none
 | k + 1, x1, x2, x8, x415000, x415001, x415002, x415003, x415004, x415005 => if x8 < (x415004.length : Int) then (if 0 ≤ x8 then (if ((rd_T83 x415004 x8).f0).toList = x1.toList then (if ((rd_T83 x415004 x8).f1).toList = x2.toList then (some ((rd_T83 x415004 x8).f2, true)) else (frisketref07_JoinOf.l0 k x1 x2 (wrap64 (x8 + 1)) x415000 x415001 x415002 x415003 x415004 x415005)) else (frisketref07_JoinOf.l0 k x1 x2 (wrap64 (x8 + 1)) x415000 x415001 x415002 x415003 x415004 x415005)) else (none)) else (some ((⟨#[]⟩ : ByteArray), false))
def frisketref07_JoinOf.f (k : Nat) (a0_0 : ByteArray) (a0_1 : Bool) (a0_2 : Int) (l0_3 : List (S81)) (l0_4 : List (S83)) (l0_5 : List (S84)) (a1 : ByteArray) (a2 : ByteArray) : Option (ByteArray × Bool) := frisketref07_JoinOf.l0 k a1 a2 0 a0_0 a0_1 a0_2 l0_3 l0_4 l0_5
set_option maxHeartbeats 8000000 in
set_option maxRecDepth 100000 in
theorem frisketref07_JoinOf.calls (k : Nat) (a0_0 : ByteArray) (a0_1 : Bool) (a0_2 : Int) (A0_3 : Option Addr) (c0_3 : Nat) (l0_3 : List (S81)) (A0_4 : Option Addr) (c0_4 : Nat) (l0_4 : List (S83)) (A0_5 : Option Addr) (c0_5 : Nat) (l0_5 : List (S84)) (a1 : ByteArray) (a2 : ByteArray) (r1 : ByteArray) (r2 : Bool) (w : World) (hr0_3 : Kd.C k81 w A0_3 l0_3.length l0_3) (hc0_3 : l0_3.length ≤ c0_3) (hr0_4 : Kd.C k83 w A0_4 l0_4.length l0_4) (hc0_4 : l0_4.length ≤ c0_4) (hr0_5 : Kd.C k84 w A0_5 l0_5.length l0_5) (hc0_5 : l0_5.length ≤ c0_5) (h : frisketref07_JoinOf.f k a0_0 a0_1 a0_2 l0_3 l0_4 l0_5 a1 a2 = some (r1, r2)) :
  Calls Tryz.prog 112 #[.agg #[.string a0_0, .bool a0_1, .int .i64 a0_2, .slice A0_3 l0_3.length c0_3, .slice A0_4 l0_4.length c0_4, .slice A0_5 l0_5.length c0_5], .string a1, .string a2] w fun e w' => e = .returned (.tuple #[.string r1, .bool r2]) ∧ Below w.heap.size w w' := by
 have hu44 := Tryz.underlying44
 have HR0_3 := Aside0.mk hr0_3
 have HC0_3 := Aside0.mk hc0_3
 clear hr0_3 hc0_3
 have HR0_4 := Aside0.mk hr0_4
 have HC0_4 := Aside0.mk hc0_4
 clear hr0_4 hc0_4
 have HR0_5 := Aside0.mk hr0_5
 have HC0_5 := Aside0.mk hc0_5
 clear hr0_5 hc0_5
 have HB := Aside0.mk (Below.refl w.heap.size w)
 have H : (frisketref07_JoinOf.l0 k a1 a2 0 a0_0 a0_1 a0_2 l0_3 l0_4 l0_5) = some (r1, r2) := h
 clear h
 have H' := Aside0.mk H
 clear H
 go_enter Tryz.func112, Tryz.ntmps112
 go_wp2_with (first | ((with_reducible refine gate_dst (N := 3) rfl ?_); refine box_event ?hg (N := 3) ?hd (cs := #[.string a0_0, .bool a0_1, .int .i64 a0_2, .slice A0_3 l0_3.length c0_3, .slice A0_4 l0_4.length c0_4, .slice A0_5 l0_5.length c0_5]) (t := 44) ?hr ?_; (case hd => rfl); (case hg => rfl); (case hr => first | (go_simp; done) | (go_simp; rfl)); intro gb414 hg w4 hbox hb; have n0_ := Aside0.mk (below_step (by repeat (first | (with_reducible first | exact HB.out | apply below_alloc | apply pw_below_drewN | apply below_drew1) | exact HB.out)) hb); have n1_ := Aside0.mk (hbox); have n2_ := Aside0.mk ((by rw [hg]; exact (below_size (by repeat (first | (with_reducible first | exact HB.out | apply below_alloc | apply pw_below_drewN | apply below_drew1) | exact HB.out))) : w.heap.size ≤ gb414)); have n3_ := Aside0.mk ((by rw [hg]; exact (below_size (by repeat (first | (with_reducible first | exact HB.out | apply below_alloc | apply pw_below_drewN | apply below_drew1) | exact HB.out))) : w.heap.size ≤ gb414)); clear HB; have HB := n0_; have BK414 := n1_; have GW414 := n2_; have GE414 := n3_; clear n0_ n1_ n2_ n3_; clear hb hbox hg))
 go_loopg [8] k (fun kq v8 w' => ∃ (x8_1 : Int), v8 = .int .i64 x8_1 ∧ Aside0 (frisketref07_JoinOf.l0 kq a1 a2 x8_1 a0_0 a0_1 a0_2 l0_3 l0_4 l0_5 = some (r1, r2)) ∧ Aside0 (kq ≤ k) ∧ Aside0 (w'.heap[gb414]? = some (.cells #[.string a0_0, .bool a0_1, .int .i64 a0_2, (.slice A0_3 l0_3.length c0_3), (.slice A0_4 l0_4.length c0_4), (.slice A0_5 l0_5.length c0_5)] 44 (0, 0))) ∧ Aside0 (Below w.heap.size w w'))
 case atStart => exact ⟨(0), (by first | rfl | (simp; done) | (simp [*]; done)), H', ⟨Nat.le_refl _⟩, ⟨by (with_reducible repeat (first | refine blk_drewN ?_ _ | refine blk_drew ?_ | refine blk_alloc ?_ _)); exact BK414.out⟩, ⟨by repeat (first | (with_reducible first | exact HB.out | apply below_alloc | apply pw_below_drewN | apply below_drew1 | refine below_set ?_ GE414.out) | exact HB.out)⟩⟩
 case round =>
  clear H'
  try clear c1
  try clear p2
  obtain ⟨x8_1, rfl, HA, HK1, BK414, HB⟩ := hrel
  cases gk with
  | zero => exact absurd HA.out (by simp [frisketref07_JoinOf.l0])
  | succ k1 =>
   have H := HA.out
   clear HA
   simp only [frisketref07_JoinOf.l0] at H
   by_cases c5 : x8_1 < (l0_4.length : Int)
   ·rw [if_pos c5] at H
    have c5b0 : decide (x8_1 < (l0_4.length : Int)) = true := decide_eq_true c5
    clear c5
    by_cases c6 : 0 ≤ x8_1
    ·rw [if_pos c6] at H
     have c6b0 : decide (0 ≤ x8_1) = true := decide_eq_true c6
     clear c6
     by_cases c7 : ((rd_T83 l0_4 x8_1).f0).toList = a1.toList
     ·rw [if_pos c7] at H
      have c7b0 : (((rd_T83 l0_4 x8_1).f0).toList == a1.toList) = true := beq_iff_eq.mpr c7
      have c7b1 : (((rd_T83 l0_4 x8_1).f0).toList != a1.toList) = false := bne_eq_false_iff_eq.mpr c7
      clear c7
      by_cases c8 : ((rd_T83 l0_4 x8_1).f1).toList = a2.toList
      ·rw [if_pos c8] at H
       have c8b0 : (((rd_T83 l0_4 x8_1).f1).toList == a2.toList) = true := beq_iff_eq.mpr c8
       have c8b1 : (((rd_T83 l0_4 x8_1).f1).toList != a2.toList) = false := bne_eq_false_iff_eq.mpr c8
       clear c8
       simp only [Option.some.injEq, Prod.mk.injEq] at H
       obtain ⟨rfl, rfl⟩ := H
       have hcz9_0 : wr.cell? ⟨gb414, 0, none⟩ = some (.string a0_0) := (blk_cell BK414.out 0).trans rfl
       have hcz9_1 : wr.cell? ⟨gb414, 1, none⟩ = some (.bool a0_1) := (blk_cell BK414.out 1).trans rfl
       have hcz9_2 : wr.cell? ⟨gb414, 2, none⟩ = some (.int .i64 a0_2) := (blk_cell BK414.out 2).trans rfl
       have hcz9_3 : wr.cell? ⟨gb414, 3, none⟩ = some (.slice A0_3 l0_3.length c0_3) := (blk_cell BK414.out 3).trans rfl
       have hcz9_4 : wr.cell? ⟨gb414, 4, none⟩ = some (.slice A0_4 l0_4.length c0_4) := (blk_cell BK414.out 4).trans rfl
       have hcz9_5 : wr.cell? ⟨gb414, 5, none⟩ = some (.slice A0_5 l0_5.length c0_5) := (blk_cell BK414.out 5).trans rfl
       have hfz9_0 := blk_frozen BK414.out 0
       have hfz9_1 := blk_frozen BK414.out 1
       have hfz9_2 := blk_frozen BK414.out 2
       have hfz9_3 := blk_frozen BK414.out 3
       have hfz9_4 := blk_frozen BK414.out 4
       have hfz9_5 := blk_frozen BK414.out 5
       have p415 : 0 ≤ (x8_1 : Int) := of_decide_eq_true (by first | (with_reducible assumption) | assumption)
       have q415 : x8_1 < (l0_4.length : Int) := of_decide_eq_true (by first | (with_reducible assumption) | assumption)
       obtain ⟨ad415, e415, hx415_0, hx415_1, hx415_2⟩ := at_T83 HR0_4.out x8_1 p415 q415
       cases e415
       replace hx415_0 := (HB.out.cell (World.block_lt_of_cell? w _ hx415_0)).trans hx415_0
       replace hx415_1 := (HB.out.cell (World.block_lt_of_cell? w _ hx415_1)).trans hx415_1
       replace hx415_2 := (HB.out.cell (World.block_lt_of_cell? w _ hx415_2)).trans hx415_2
       replace p415 := eq_true p415
       replace q415 := eq_true q415
       have p416 : 0 ≤ (x8_1 : Int) := of_decide_eq_true (by first | (with_reducible assumption) | assumption)
       have q416 : x8_1 < (l0_4.length : Int) := of_decide_eq_true (by first | (with_reducible assumption) | assumption)
       obtain ⟨ad416, e416, hx416_0, hx416_1, hx416_2⟩ := at_T83 HR0_4.out x8_1 p416 q416
       obtain rfl : ad415 = ad416 := (by injection e416)
       replace hx416_0 := (HB.out.cell (World.block_lt_of_cell? w _ hx416_0)).trans hx416_0
       replace hx416_1 := (HB.out.cell (World.block_lt_of_cell? w _ hx416_1)).trans hx416_1
       replace hx416_2 := (HB.out.cell (World.block_lt_of_cell? w _ hx416_2)).trans hx416_2
       replace p416 := eq_true p416
       replace q416 := eq_true q416
       have p417 : 0 ≤ (x8_1 : Int) := of_decide_eq_true (by first | (with_reducible assumption) | assumption)
       have q417 : x8_1 < (l0_4.length : Int) := of_decide_eq_true (by first | (with_reducible assumption) | assumption)
       obtain ⟨ad417, e417, hx417_0, hx417_1, hx417_2⟩ := at_T83 HR0_4.out x8_1 p417 q417
       obtain rfl : ad415 = ad417 := (by injection e417)
       replace hx417_0 := (HB.out.cell (World.block_lt_of_cell? w _ hx417_0)).trans hx417_0
       replace hx417_1 := (HB.out.cell (World.block_lt_of_cell? w _ hx417_1)).trans hx417_1
       replace hx417_2 := (HB.out.cell (World.block_lt_of_cell? w _ hx417_2)).trans hx417_2
       replace p417 := eq_true p417
       replace q417 := eq_true q417
       go_wp2
       go_ret2
       exact ⟨by first | rfl | (simp [errW_none, errW_some] <;> rfl) | (simp [*, errW_none, errW_some] <;> rfl), by repeat (first | (with_reducible first | exact HB.out | apply below_alloc | apply pw_below_drewN | apply below_drew1 | refine below_set ?_ GE414.out) | exact HB.out)⟩
      ·rw [if_neg c8] at H
       have c8b0 : (((rd_T83 l0_4 x8_1).f1).toList == a2.toList) = false := beq_eq_false_iff_ne.mpr c8
       have c8b1 : (((rd_T83 l0_4 x8_1).f1).toList != a2.toList) = true := bne_iff_ne.mpr c8
       have H' := Aside0.mk H
       clear H
       have hcz10_0 : wr.cell? ⟨gb414, 0, none⟩ = some (.string a0_0) := (blk_cell BK414.out 0).trans rfl
       have hcz10_1 : wr.cell? ⟨gb414, 1, none⟩ = some (.bool a0_1) := (blk_cell BK414.out 1).trans rfl
       have hcz10_2 : wr.cell? ⟨gb414, 2, none⟩ = some (.int .i64 a0_2) := (blk_cell BK414.out 2).trans rfl
       have hcz10_3 : wr.cell? ⟨gb414, 3, none⟩ = some (.slice A0_3 l0_3.length c0_3) := (blk_cell BK414.out 3).trans rfl
       have hcz10_4 : wr.cell? ⟨gb414, 4, none⟩ = some (.slice A0_4 l0_4.length c0_4) := (blk_cell BK414.out 4).trans rfl
       have hcz10_5 : wr.cell? ⟨gb414, 5, none⟩ = some (.slice A0_5 l0_5.length c0_5) := (blk_cell BK414.out 5).trans rfl
       have hfz10_0 := blk_frozen BK414.out 0
       have hfz10_1 := blk_frozen BK414.out 1
       have hfz10_2 := blk_frozen BK414.out 2
       have hfz10_3 := blk_frozen BK414.out 3
       have hfz10_4 := blk_frozen BK414.out 4
       have hfz10_5 := blk_frozen BK414.out 5
       have p415 : 0 ≤ (x8_1 : Int) := of_decide_eq_true (by first | (with_reducible assumption) | assumption)
       have q415 : x8_1 < (l0_4.length : Int) := of_decide_eq_true (by first | (with_reducible assumption) | assumption)
       obtain ⟨ad415, e415, hx415_0, hx415_1, hx415_2⟩ := at_T83 HR0_4.out x8_1 p415 q415
       cases e415
       replace hx415_0 := (HB.out.cell (World.block_lt_of_cell? w _ hx415_0)).trans hx415_0
       replace hx415_1 := (HB.out.cell (World.block_lt_of_cell? w _ hx415_1)).trans hx415_1
       replace hx415_2 := (HB.out.cell (World.block_lt_of_cell? w _ hx415_2)).trans hx415_2
       replace p415 := eq_true p415
       replace q415 := eq_true q415
       have p416 : 0 ≤ (x8_1 : Int) := of_decide_eq_true (by first | (with_reducible assumption) | assumption)
       have q416 : x8_1 < (l0_4.length : Int) := of_decide_eq_true (by first | (with_reducible assumption) | assumption)
       obtain ⟨ad416, e416, hx416_0, hx416_1, hx416_2⟩ := at_T83 HR0_4.out x8_1 p416 q416
       obtain rfl : ad415 = ad416 := (by injection e416)
       replace hx416_0 := (HB.out.cell (World.block_lt_of_cell? w _ hx416_0)).trans hx416_0
       replace hx416_1 := (HB.out.cell (World.block_lt_of_cell? w _ hx416_1)).trans hx416_1
       replace hx416_2 := (HB.out.cell (World.block_lt_of_cell? w _ hx416_2)).trans hx416_2
       replace p416 := eq_true p416
       replace q416 := eq_true q416
       go_wp2
       go_roundg k1
       case measure => have := HK1.out; omega
       case rel => exact ⟨(wrap64 (x8_1 + 1)), (by first | rfl | (simp; done) | (simp [*]; done)), H', ⟨by have := HK1.out; omega⟩, ⟨by (with_reducible repeat (first | refine blk_drewN ?_ _ | refine blk_drew ?_ | refine blk_alloc ?_ _)); exact BK414.out⟩, ⟨by repeat (first | (with_reducible first | exact HB.out | apply below_alloc | apply pw_below_drewN | apply below_drew1 | refine below_set ?_ GE414.out) | exact HB.out)⟩⟩
     ·rw [if_neg c7] at H
      have c7b0 : (((rd_T83 l0_4 x8_1).f0).toList == a1.toList) = false := beq_eq_false_iff_ne.mpr c7
      have c7b1 : (((rd_T83 l0_4 x8_1).f0).toList != a1.toList) = true := bne_iff_ne.mpr c7
      have H' := Aside0.mk H
      clear H
      have hcz11_0 : wr.cell? ⟨gb414, 0, none⟩ = some (.string a0_0) := (blk_cell BK414.out 0).trans rfl
      have hcz11_1 : wr.cell? ⟨gb414, 1, none⟩ = some (.bool a0_1) := (blk_cell BK414.out 1).trans rfl
      have hcz11_2 : wr.cell? ⟨gb414, 2, none⟩ = some (.int .i64 a0_2) := (blk_cell BK414.out 2).trans rfl
      have hcz11_3 : wr.cell? ⟨gb414, 3, none⟩ = some (.slice A0_3 l0_3.length c0_3) := (blk_cell BK414.out 3).trans rfl
      have hcz11_4 : wr.cell? ⟨gb414, 4, none⟩ = some (.slice A0_4 l0_4.length c0_4) := (blk_cell BK414.out 4).trans rfl
      have hcz11_5 : wr.cell? ⟨gb414, 5, none⟩ = some (.slice A0_5 l0_5.length c0_5) := (blk_cell BK414.out 5).trans rfl
      have hfz11_0 := blk_frozen BK414.out 0
      have hfz11_1 := blk_frozen BK414.out 1
      have hfz11_2 := blk_frozen BK414.out 2
      have hfz11_3 := blk_frozen BK414.out 3
      have hfz11_4 := blk_frozen BK414.out 4
      have hfz11_5 := blk_frozen BK414.out 5
      have p415 : 0 ≤ (x8_1 : Int) := of_decide_eq_true (by first | (with_reducible assumption) | assumption)
      have q415 : x8_1 < (l0_4.length : Int) := of_decide_eq_true (by first | (with_reducible assumption) | assumption)
      obtain ⟨ad415, e415, hx415_0, hx415_1, hx415_2⟩ := at_T83 HR0_4.out x8_1 p415 q415
      cases e415
      replace hx415_0 := (HB.out.cell (World.block_lt_of_cell? w _ hx415_0)).trans hx415_0
      replace hx415_1 := (HB.out.cell (World.block_lt_of_cell? w _ hx415_1)).trans hx415_1
      replace hx415_2 := (HB.out.cell (World.block_lt_of_cell? w _ hx415_2)).trans hx415_2
      replace p415 := eq_true p415
      replace q415 := eq_true q415
      go_wp2
      go_roundg k1
      case measure => have := HK1.out; omega
      case rel => exact ⟨(wrap64 (x8_1 + 1)), (by first | rfl | (simp; done) | (simp [*]; done)), H', ⟨by have := HK1.out; omega⟩, ⟨by (with_reducible repeat (first | refine blk_drewN ?_ _ | refine blk_drew ?_ | refine blk_alloc ?_ _)); exact BK414.out⟩, ⟨by repeat (first | (with_reducible first | exact HB.out | apply below_alloc | apply pw_below_drewN | apply below_drew1 | refine below_set ?_ GE414.out) | exact HB.out)⟩⟩
    ·rw [if_neg c6] at H
     exact absurd H (by simp)
   ·rw [if_neg c5] at H
    have c5b0 : decide (x8_1 < (l0_4.length : Int)) = false := decide_eq_false c5
    clear c5
    simp only [Option.some.injEq, Prod.mk.injEq] at H
    obtain ⟨rfl, rfl⟩ := H
    have hcz12_0 : wr.cell? ⟨gb414, 0, none⟩ = some (.string a0_0) := (blk_cell BK414.out 0).trans rfl
    have hcz12_1 : wr.cell? ⟨gb414, 1, none⟩ = some (.bool a0_1) := (blk_cell BK414.out 1).trans rfl
    have hcz12_2 : wr.cell? ⟨gb414, 2, none⟩ = some (.int .i64 a0_2) := (blk_cell BK414.out 2).trans rfl
    have hcz12_3 : wr.cell? ⟨gb414, 3, none⟩ = some (.slice A0_3 l0_3.length c0_3) := (blk_cell BK414.out 3).trans rfl
    have hcz12_4 : wr.cell? ⟨gb414, 4, none⟩ = some (.slice A0_4 l0_4.length c0_4) := (blk_cell BK414.out 4).trans rfl
    have hcz12_5 : wr.cell? ⟨gb414, 5, none⟩ = some (.slice A0_5 l0_5.length c0_5) := (blk_cell BK414.out 5).trans rfl
    have hfz12_0 := blk_frozen BK414.out 0
    have hfz12_1 := blk_frozen BK414.out 1
    have hfz12_2 := blk_frozen BK414.out 2
    have hfz12_3 := blk_frozen BK414.out 3
    have hfz12_4 := blk_frozen BK414.out 4
    have hfz12_5 := blk_frozen BK414.out 5
    go_wp2
    go_ret2
    exact ⟨by first | rfl | (simp [errW_none, errW_some] <;> rfl) | (simp [*, errW_none, errW_some] <;> rfl), by repeat (first | (with_reducible first | exact HB.out | apply below_alloc | apply pw_below_drewN | apply below_drew1 | refine below_set ?_ GE414.out) | exact HB.out)⟩
end Go.Proofs.YtaifemkokfoadaaGreatDoor.PX
