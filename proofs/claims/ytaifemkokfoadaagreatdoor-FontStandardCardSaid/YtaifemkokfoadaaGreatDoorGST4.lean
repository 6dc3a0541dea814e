/-
  Texts that lean on one another, laid in one file. No condition.
-/
import Derived.Test.YtaifemkokfoadaaGreatDoorGST1
import Derived.Test.YtaifemkokfoadaaGreatDoorGST3
namespace Go.Proofs.YtaifemkokfoadaaGreatDoor.PX
open Go.RowKit Go.Proofs.YtaifemkokfoadaaGreatDoorW.PrintWords Go.Proofs.YtaifemkokfoadaaGreatDoorW.PrintLast Go.Proofs.YtaifemkokfoadaaGreatDoorW.PrintMore
attribute [local go_sem] max2_int min2_int max_two min_two max_three min_three max_four min_four   -- for this text's walks alone
set_option linter.unusedVariables false
set_option linter.unusedSimpArgs false
namespace SQ
abbrev BA := ByteArray
end SQ
open SQ
mutual
def frisketref07_Standard.l0 : Nat → Int → BA → Bool → Int → List (S81) → BA → Bool → Int → List (S81) → BA → Bool → Int → List (S81) → BA → Bool → Int → List (S81) → BA → Bool → Int → Option ((List (S44)))
 | 0, _, _, _, _, _, _, _, _, _, _, _, _, _, _, _, _, _, _, _, _ => none
 | k + 1, x6, x150000, x150001, x150002, x150003, x151000, x151001, x151002, x151003, x152000, x152001, x152002, x152003, x153000, x153001, x153002, x153003, x154000, x154001, x154002 => if x6 ≤ 126 then ((some (([(x6) % 256] : List Int) : List Int)).bind fun y154 => ((frisketref07_roman.f k ((x6) % 256)).bind fun t157 => ((frisketref07_put.f k x150003 (strOfNums y154) t157).bind fun t158 => ((frisketref07_put.f k x151003 (strOfNums y154) (mx (wrap64 (t157 - 20)) 0)).bind fun t161 => ((frisketref07_put.f k x152003 (strOfNums y154) (wrap64 (t157 + 50))).bind fun t164 => ((frisketref07_put.f k x153003 (strOfNums y154) 600).bind fun t167 => (frisketref07_Standard.l0 k (wrap64 (x6 + 1)) x150000 x150001 x150002 t158 x151000 x151001 x151002 t161 x152000 x152001 x152002 t164 x153000 x153001 x153002 t167 x154000 x154001 x154002))))))) else (frisketref07_Standard.l1 k (([(⟨#[102, 105]⟩ : BA), (⟨#[102, 108]⟩ : BA), (⟨#[102, 102]⟩ : BA)] : List BA)) 0 x150000 x150001 x150002 x150003 x151000 x151001 x151002 x151003 x152000 x152001 x152002 x152003 x153000 x153001 x153002 x153003 x154000 x154001 x154002)
def frisketref07_Standard.l1 : Nat → List BA → Int → BA → Bool → Int → List (S81) → BA → Bool → Int → List (S81) → BA → Bool → Int → List (S81) → BA → Bool → Int → List (S81) → BA → Bool → Int → Option ((List (S44)))
 | 0, _, _, _, _, _, _, _, _, _, _, _, _, _, _, _, _, _, _, _, _, _ => none
 | k + 1, x9, x10, x150000, x150001, x150002, x150003, x151000, x151001, x151002, x151003, x152000, x152001, x152002, x152003, x153000, x153001, x153002, x153003, x154000, x154001, x154002 => if x10 < (x9.length : Int) then (if 0 ≤ x10 then ((frisketref07_put.f k x150003 (rdOf ByteArray.empty x9 x10) 550).bind fun t174 => ((frisketref07_put.f k x152003 (rdOf ByteArray.empty x9 x10) 600).bind fun t178 => (frisketref07_Standard.l1 k x9 (wrap64 (x10 + 1)) x150000 x150001 x150002 t174 x151000 x151001 x151002 x151003 x152000 x152001 x152002 t178 x153000 x153001 x153002 x153003 x154000 x154001 x154002))) else (none)) else ((frisketref07_symbols.f).bind fun t190 => (frisketref07_Standard.l2 k t190 0 x150000 x150001 x150002 x150003 (([(⟨(⟨#[102]⟩ : BA), (⟨#[102]⟩ : BA), (⟨#[102, 102]⟩ : BA)⟩ : S83), (⟨(⟨#[102]⟩ : BA), (⟨#[105]⟩ : BA), (⟨#[102, 105]⟩ : BA)⟩ : S83), (⟨(⟨#[102]⟩ : BA), (⟨#[108]⟩ : BA), (⟨#[102, 108]⟩ : BA)⟩ : S83)] : List (S83))) (([(⟨(⟨#[65]⟩ : BA), (⟨#[86]⟩ : BA), (-80)⟩ : S84), (⟨(⟨#[65]⟩ : BA), (⟨#[87]⟩ : BA), (-60)⟩ : S84), (⟨(⟨#[84]⟩ : BA), (⟨#[111]⟩ : BA), (-70)⟩ : S84), (⟨(⟨#[86]⟩ : BA), (⟨#[65]⟩ : BA), (-80)⟩ : S84), (⟨(⟨#[89]⟩ : BA), (⟨#[111]⟩ : BA), (-90)⟩ : S84)] : List (S84))) x151000 x151001 x151002 x151003 x152000 x152001 x152002 x152003 (([(⟨(⟨#[102]⟩ : BA), (⟨#[102]⟩ : BA), (⟨#[102, 102]⟩ : BA)⟩ : S83), (⟨(⟨#[102]⟩ : BA), (⟨#[105]⟩ : BA), (⟨#[102, 105]⟩ : BA)⟩ : S83), (⟨(⟨#[102]⟩ : BA), (⟨#[108]⟩ : BA), (⟨#[102, 108]⟩ : BA)⟩ : S83)] : List (S83))) x153000 x153001 x153002 x153003 x154000 x154001 x154002 ([] : List (S81))))
def frisketref07_Standard.l2 : Nat → List (S81) → Int → BA → Bool → Int → List (S81) → List (S83) → List (S84) → BA → Bool → Int → List (S81) → BA → Bool → Int → List (S81) → List (S83) → BA → Bool → Int → List (S81) → BA → Bool → Int → List (S81) → Option ((List (S44)))
 | 0, _, _, _, _, _, _, _, _, _, _, _, _, _, _, _, _, _, _, _, _, _, _, _, _, _ => none
 | k + 1, x11, x12, x150000, x150001, x150002, x150003, x150004, x150005, x151000, x151001, x151002, x151003, x152000, x152001, x152002, x152003, x152004, x153000, x153001, x153002, x153003, x154000, x154001, x154002, x154003 => if x12 < (x11.length : Int) then (if 0 ≤ x12 then ((frisketref07_put.f k x154003 ((rd_T81 x11 x12).f0) ((rd_T81 x11 x12).f1)).bind fun t194 => (frisketref07_Standard.l2 k x11 (wrap64 (x12 + 1)) x150000 x150001 x150002 x150003 x150004 x150005 x151000 x151001 x151002 x151003 x152000 x152001 x152002 x152003 x152004 x153000 x153001 x153002 x153003 x154000 x154001 x154002 t194)) else (none)) else (some (([(⟨x150000, x150001, x150002, x150003, x150004, x150005⟩ : S44), (⟨x151000, x151001, x151002, x151003, ([] : List (S83)), ([] : List (S84))⟩ : S44), (⟨x152000, x152001, x152002, x152003, x152004, ([] : List (S84))⟩ : S44), (⟨x153000, x153001, x153002, x153003, ([] : List (S83)), ([] : List (S84))⟩ : S44), (⟨x154000, x154001, x154002, x154003, ([] : List (S83)), ([] : List (S84))⟩ : S44)] : List (S44))))
end
def frisketref07_Standard.f (k : Nat)  : Option ((List (S44))) := frisketref07_Standard.l0 k 33 (⟨#[82]⟩ : BA) false 250 ([] : List (S81)) (⟨#[73]⟩ : BA) false 250 ([] : List (S81)) (⟨#[66]⟩ : BA) false 250 ([] : List (S81)) (⟨#[77]⟩ : BA) false 600 ([] : List (S81)) (⟨#[83]⟩ : BA) true 250
def frisketref07_Standard.T5 : Bool × List (List Nat × List Nat) := (true, [([], []), ([0], [0]), ([1], [1]), ([2], [2]), ([], []), ([4], [4]), ([5], [5]), ([3, 6, 0, 1, 2, 3], [3]), ([6, 7, 0, 1, 2, 3, 4, 5, 6, 7], [6])])
def frisketref07_Standard.B5 : List Nat := [0, 1, 3, 7, 0, 16, 48, 127, 255]
theorem frisketref07_Standard.tab5 : rtab .any (opsOf Tryz.f14 5) = frisketref07_Standard.T5 := by kernel_rfl
theorem frisketref07_Standard.bits5 : waitsOk frisketref07_Standard.T5.2 frisketref07_Standard.B5 = true := by kernel_rfl
def frisketref07_Standard.T14 : Bool × List (List Nat × List Nat) := (true, [([], []), ([0], [0]), ([], []), ([], []), ([2, 3], [2, 3]), ([4], [4]), ([5], [5]), ([1, 6], [1, 6]), ([0, 1, 2, 3, 4, 5, 6, 7], []), ([8, 7, 7, 0, 1, 2, 3, 4, 5, 6, 7], [7, 8])])
def frisketref07_Standard.B14 : List Nat := [0, 1, 0, 0, 12, 28, 60, 127, 255, 511]
theorem frisketref07_Standard.tab14 : rtab .any (opsOf Tryz.f14 14) = frisketref07_Standard.T14 := by kernel_rfl
theorem frisketref07_Standard.bits14 : waitsOk frisketref07_Standard.T14.2 frisketref07_Standard.B14 = true := by kernel_rfl
def frisketref07_Standard.T15 : Bool × List (List Nat × List Nat) := (true, [([], []), ([0], [0]), ([], []), ([], []), ([2, 3], [2, 3]), ([4], [4]), ([5], [5]), ([1, 6], [1, 6]), ([0, 1, 2, 3, 4, 5, 6, 7], []), ([8, 7, 7, 0, 1, 2, 3, 4, 5, 6, 7], [7, 8])])
def frisketref07_Standard.B15 : List Nat := [0, 1, 0, 0, 12, 28, 60, 127, 255, 511]
theorem frisketref07_Standard.tab15 : rtab .any (opsOf Tryz.f14 15) = frisketref07_Standard.T15 := by kernel_rfl
theorem frisketref07_Standard.bits15 : waitsOk frisketref07_Standard.T15.2 frisketref07_Standard.B15 = true := by kernel_rfl
def frisketref07_Standard.T23 : Bool × List (List Nat × List Nat) := (true, [([], []), ([0], [0]), ([], []), ([], []), ([2, 3], [2, 3]), ([4], [4]), ([1, 5], [1, 5]), ([0, 1, 2, 3, 4, 5, 6], []), ([7, 6, 6, 0, 1, 2, 3, 4, 5, 6], [6, 7])])
def frisketref07_Standard.B23 : List Nat := [0, 1, 0, 0, 12, 28, 63, 127, 255]
theorem frisketref07_Standard.tab23 : rtab .any (opsOf Tryz.f14 23) = frisketref07_Standard.T23 := by kernel_rfl
theorem frisketref07_Standard.bits23 : waitsOk frisketref07_Standard.T23.2 frisketref07_Standard.B23 = true := by kernel_rfl
set_option maxHeartbeats 8000000 in
set_option maxRecDepth 100000 in
theorem frisketref07_Standard.calls (k : Nat)  (r : List (S44)) (w : World) (h : frisketref07_Standard.f k  = some r) :
  Calls Tryz.prog 14 #[] w fun e w' => ∃ v0_ : Value, e = .returned (v0_) ∧ Kd.N k44 44 w' w.heap.size (fun k_ => (w.heap.size ≤ k_)) v0_ r ∧ Below w.heap.size w w' := by
 have hu44 := Tryz.underlying44
 have hu81 := Tryz.underlying81
 have hu83 := Tryz.underlying83
 have hu84 := Tryz.underlying84
 have HB := Aside0.mk (Below.refl w.heap.size w)
 have H : (frisketref07_Standard.l0 k 33 (⟨#[82]⟩ : BA) false 250 ([] : List (S81)) (⟨#[73]⟩ : BA) false 250 ([] : List (S81)) (⟨#[66]⟩ : BA) false 250 ([] : List (S81)) (⟨#[77]⟩ : BA) false 600 ([] : List (S81)) (⟨#[83]⟩ : BA) true 250) = some r := h
 clear h
 have H' := Aside0.mk H
 clear H
 go_enter Tryz.func14, Tryz.ntmps14
 go_wp2_with (first | ((with_reducible refine gate_dst (N := 1) rfl ?_); refine box_event ?hg (N := 1) ?hd (cs := #[.string (⟨#[]⟩ : BA), .bool false, .int .i64 0, .slice none 0 0, .slice none 0 0, .slice none 0 0]) (t := 44) ?hr ?_; (case hd => rfl); (case hg => rfl); (case hr => first | (go_simp; done) | (go_simp; rfl)); intro gb149 hg w1 hbox hb; have n0_ := Aside0.mk (below_step (by repeat (first | (with_reducible first | exact HB.out | apply below_alloc | apply pw_below_drewN | apply below_drew1) | exact HB.out)) hb); have n1_ := Aside0.mk (hbox); have n2_ := Aside0.mk ((by rw [hg]; exact (below_size (by repeat (first | (with_reducible first | exact HB.out | apply below_alloc | apply pw_below_drewN | apply below_drew1) | exact HB.out))) : w.heap.size ≤ gb149)); have n3_ := Aside0.mk ((by rw [hg]; exact (below_size (by repeat (first | (with_reducible first | exact HB.out | apply below_alloc | apply pw_below_drewN | apply below_drew1) | exact HB.out))) : w.heap.size ≤ gb149)); clear HB; have HB := n0_; have BK149 := n1_; have GW149 := n2_; have GE149 := n3_; clear n0_ n1_ n2_ n3_; clear hb hbox hg) | ((with_reducible refine gate_dst (N := 2) rfl ?_); refine box_event ?hg (N := 2) ?hd (cs := #[.string (⟨#[]⟩ : BA), .bool false, .int .i64 0, .slice none 0 0, .slice none 0 0, .slice none 0 0]) (t := 44) ?hr ?_; (case hd => rfl); (case hg => rfl); (case hr => first | (go_simp; done) | (go_simp; rfl)); intro gb150 hg w2 hbox hb; have n0_ := Aside0.mk (blk_below (g := gb149) (o := .cells #[.string (⟨#[]⟩ : BA), .bool false, .int .i64 0, .slice none 0 0, .slice none 0 0, .slice none 0 0] 44 (0, 0)) (bkS BK149.out) hb); have n1_ := Aside0.mk (below_step (by repeat (first | (with_reducible first | exact HB.out | apply below_alloc | apply pw_below_drewN | apply below_drew1 | refine below_set ?_ GE149.out) | exact HB.out)) hb); have n2_ := Aside0.mk (hbox); have n3_ := Aside0.mk ((by rw [hg]; exact (below_size (by repeat (first | (with_reducible first | exact HB.out | apply below_alloc | apply pw_below_drewN | apply below_drew1 | refine below_set ?_ GE149.out) | exact HB.out))) : w.heap.size ≤ gb150)); have n4_ := Aside0.mk ((by rw [hg]; exact (below_size (by repeat (first | (with_reducible first | exact HB.out | apply below_alloc | apply pw_below_drewN | apply below_drew1 | refine below_set ?_ GE149.out) | exact HB.out))) : w.heap.size ≤ gb150)); have n5_ := Aside0.mk ((by rw [hg]; exact Nat.ne_of_lt (blk_lt (g := gb149) (o := .cells #[.string (⟨#[]⟩ : BA), .bool false, .int .i64 0, .slice none 0 0, .slice none 0 0, .slice none 0 0] 44 (0, 0)) (bkS BK149.out)) : gb149 ≠ gb150)); have n6_ := Aside0.mk ((by rw [hg]; exact Nat.ne_of_gt (blk_lt (g := gb149) (o := .cells #[.string (⟨#[]⟩ : BA), .bool false, .int .i64 0, .slice none 0 0, .slice none 0 0, .slice none 0 0] 44 (0, 0)) (bkS BK149.out)) : gb150 ≠ gb149)); clear BK149; clear HB; have BK149 := n0_; have HB := n1_; have BK150 := n2_; have GW150 := n3_; have GE150 := n4_; have NB149_150 := n5_; have NB150_149 := n6_; clear n0_ n1_ n2_ n3_ n4_ n5_ n6_; clear hb hbox hg) | ((with_reducible refine gate_dst (N := 3) rfl ?_); refine box_event ?hg (N := 3) ?hd (cs := #[.string (⟨#[]⟩ : BA), .bool false, .int .i64 0, .slice none 0 0, .slice none 0 0, .slice none 0 0]) (t := 44) ?hr ?_; (case hd => rfl); (case hg => rfl); (case hr => first | (go_simp; done) | (go_simp; rfl)); intro gb151 hg w3 hbox hb; have n0_ := Aside0.mk (blk_below (g := gb149) (o := .cells #[.string (⟨#[]⟩ : BA), .bool false, .int .i64 0, .slice none 0 0, .slice none 0 0, .slice none 0 0] 44 (0, 0)) (bkS BK149.out) hb); have n1_ := Aside0.mk (blk_below (g := gb150) (o := .cells #[.string (⟨#[]⟩ : BA), .bool false, .int .i64 0, .slice none 0 0, .slice none 0 0, .slice none 0 0] 44 (0, 0)) (bkS BK150.out) hb); have n2_ := Aside0.mk (below_step (by repeat (first | (with_reducible first | exact HB.out | apply below_alloc | apply pw_below_drewN | apply below_drew1 | refine below_set ?_ GE149.out | refine below_set ?_ GE150.out) | exact HB.out)) hb); have n3_ := Aside0.mk (hbox); have n4_ := Aside0.mk ((by rw [hg]; exact (below_size (by repeat (first | (with_reducible first | exact HB.out | apply below_alloc | apply pw_below_drewN | apply below_drew1 | refine below_set ?_ GE149.out | refine below_set ?_ GE150.out) | exact HB.out))) : w.heap.size ≤ gb151)); have n5_ := Aside0.mk ((by rw [hg]; exact (below_size (by repeat (first | (with_reducible first | exact HB.out | apply below_alloc | apply pw_below_drewN | apply below_drew1 | refine below_set ?_ GE149.out | refine below_set ?_ GE150.out) | exact HB.out))) : w.heap.size ≤ gb151)); have n6_ := Aside0.mk ((by rw [hg]; exact Nat.ne_of_lt (blk_lt (g := gb149) (o := .cells #[.string (⟨#[]⟩ : BA), .bool false, .int .i64 0, .slice none 0 0, .slice none 0 0, .slice none 0 0] 44 (0, 0)) (bkS BK149.out)) : gb149 ≠ gb151)); have n7_ := Aside0.mk ((by rw [hg]; exact Nat.ne_of_gt (blk_lt (g := gb149) (o := .cells #[.string (⟨#[]⟩ : BA), .bool false, .int .i64 0, .slice none 0 0, .slice none 0 0, .slice none 0 0] 44 (0, 0)) (bkS BK149.out)) : gb151 ≠ gb149)); have n8_ := Aside0.mk ((by rw [hg]; exact Nat.ne_of_lt (blk_lt (g := gb150) (o := .cells #[.string (⟨#[]⟩ : BA), .bool false, .int .i64 0, .slice none 0 0, .slice none 0 0, .slice none 0 0] 44 (0, 0)) (bkS BK150.out)) : gb150 ≠ gb151)); have n9_ := Aside0.mk ((by rw [hg]; exact Nat.ne_of_gt (blk_lt (g := gb150) (o := .cells #[.string (⟨#[]⟩ : BA), .bool false, .int .i64 0, .slice none 0 0, .slice none 0 0, .slice none 0 0] 44 (0, 0)) (bkS BK150.out)) : gb151 ≠ gb150)); clear BK149; clear BK150; clear HB; have BK149 := n0_; have BK150 := n1_; have HB := n2_; have BK151 := n3_; have GW151 := n4_; have GE151 := n5_; have NB149_151 := n6_; have NB151_149 := n7_; have NB150_151 := n8_; have NB151_150 := n9_; clear n0_ n1_ n2_ n3_ n4_ n5_ n6_ n7_ n8_ n9_; clear hb hbox hg) | ((with_reducible refine gate_dst (N := 4) rfl ?_); refine box_event ?hg (N := 4) ?hd (cs := #[.string (⟨#[]⟩ : BA), .bool false, .int .i64 0, .slice none 0 0, .slice none 0 0, .slice none 0 0]) (t := 44) ?hr ?_; (case hd => rfl); (case hg => rfl); (case hr => first | (go_simp; done) | (go_simp; rfl)); intro gb152 hg w4 hbox hb; have n0_ := Aside0.mk (blk_below (g := gb149) (o := .cells #[.string (⟨#[]⟩ : BA), .bool false, .int .i64 0, .slice none 0 0, .slice none 0 0, .slice none 0 0] 44 (0, 0)) (bkS BK149.out) hb); have n1_ := Aside0.mk (blk_below (g := gb150) (o := .cells #[.string (⟨#[]⟩ : BA), .bool false, .int .i64 0, .slice none 0 0, .slice none 0 0, .slice none 0 0] 44 (0, 0)) (bkS BK150.out) hb); have n2_ := Aside0.mk (blk_below (g := gb151) (o := .cells #[.string (⟨#[]⟩ : BA), .bool false, .int .i64 0, .slice none 0 0, .slice none 0 0, .slice none 0 0] 44 (0, 0)) (bkS BK151.out) hb); have n3_ := Aside0.mk (below_step (by repeat (first | (with_reducible first | exact HB.out | apply below_alloc | apply pw_below_drewN | apply below_drew1 | refine below_set ?_ GE149.out | refine below_set ?_ GE150.out | refine below_set ?_ GE151.out) | exact HB.out)) hb); have n4_ := Aside0.mk (hbox); have n5_ := Aside0.mk ((by rw [hg]; exact (below_size (by repeat (first | (with_reducible first | exact HB.out | apply below_alloc | apply pw_below_drewN | apply below_drew1 | refine below_set ?_ GE149.out | refine below_set ?_ GE150.out | refine below_set ?_ GE151.out) | exact HB.out))) : w.heap.size ≤ gb152)); have n6_ := Aside0.mk ((by rw [hg]; exact (below_size (by repeat (first | (with_reducible first | exact HB.out | apply below_alloc | apply pw_below_drewN | apply below_drew1 | refine below_set ?_ GE149.out | refine below_set ?_ GE150.out | refine below_set ?_ GE151.out) | exact HB.out))) : w.heap.size ≤ gb152)); have n7_ := Aside0.mk ((by rw [hg]; exact Nat.ne_of_lt (blk_lt (g := gb149) (o := .cells #[.string (⟨#[]⟩ : BA), .bool false, .int .i64 0, .slice none 0 0, .slice none 0 0, .slice none 0 0] 44 (0, 0)) (bkS BK149.out)) : gb149 ≠ gb152)); have n8_ := Aside0.mk ((by rw [hg]; exact Nat.ne_of_gt (blk_lt (g := gb149) (o := .cells #[.string (⟨#[]⟩ : BA), .bool false, .int .i64 0, .slice none 0 0, .slice none 0 0, .slice none 0 0] 44 (0, 0)) (bkS BK149.out)) : gb152 ≠ gb149)); have n9_ := Aside0.mk ((by rw [hg]; exact Nat.ne_of_lt (blk_lt (g := gb150) (o := .cells #[.string (⟨#[]⟩ : BA), .bool false, .int .i64 0, .slice none 0 0, .slice none 0 0, .slice none 0 0] 44 (0, 0)) (bkS BK150.out)) : gb150 ≠ gb152)); have n10_ := Aside0.mk ((by rw [hg]; exact Nat.ne_of_gt (blk_lt (g := gb150) (o := .cells #[.string (⟨#[]⟩ : BA), .bool false, .int .i64 0, .slice none 0 0, .slice none 0 0, .slice none 0 0] 44 (0, 0)) (bkS BK150.out)) : gb152 ≠ gb150)); have n11_ := Aside0.mk ((by rw [hg]; exact Nat.ne_of_lt (blk_lt (g := gb151) (o := .cells #[.string (⟨#[]⟩ : BA), .bool false, .int .i64 0, .slice none 0 0, .slice none 0 0, .slice none 0 0] 44 (0, 0)) (bkS BK151.out)) : gb151 ≠ gb152)); have n12_ := Aside0.mk ((by rw [hg]; exact Nat.ne_of_gt (blk_lt (g := gb151) (o := .cells #[.string (⟨#[]⟩ : BA), .bool false, .int .i64 0, .slice none 0 0, .slice none 0 0, .slice none 0 0] 44 (0, 0)) (bkS BK151.out)) : gb152 ≠ gb151)); clear BK149; clear BK150; clear BK151; clear HB; have BK149 := n0_; have BK150 := n1_; have BK151 := n2_; have HB := n3_; have BK152 := n4_; have GW152 := n5_; have GE152 := n6_; have NB149_152 := n7_; have NB152_149 := n8_; have NB150_152 := n9_; have NB152_150 := n10_; have NB151_152 := n11_; have NB152_151 := n12_; clear n0_ n1_ n2_ n3_ n4_ n5_ n6_ n7_ n8_ n9_ n10_ n11_ n12_; clear hb hbox hg) | ((with_reducible refine gate_dst (N := 5) rfl ?_); refine box_event ?hg (N := 5) ?hd (cs := #[.string (⟨#[]⟩ : BA), .bool false, .int .i64 0, .slice none 0 0, .slice none 0 0, .slice none 0 0]) (t := 44) ?hr ?_; (case hd => rfl); (case hg => rfl); (case hr => first | (go_simp; done) | (go_simp; rfl)); intro gb153 hg w5 hbox hb; have n0_ := Aside0.mk (blk_below (g := gb149) (o := .cells #[.string (⟨#[]⟩ : BA), .bool false, .int .i64 0, .slice none 0 0, .slice none 0 0, .slice none 0 0] 44 (0, 0)) (bkS BK149.out) hb); have n1_ := Aside0.mk (blk_below (g := gb150) (o := .cells #[.string (⟨#[]⟩ : BA), .bool false, .int .i64 0, .slice none 0 0, .slice none 0 0, .slice none 0 0] 44 (0, 0)) (bkS BK150.out) hb); have n2_ := Aside0.mk (blk_below (g := gb151) (o := .cells #[.string (⟨#[]⟩ : BA), .bool false, .int .i64 0, .slice none 0 0, .slice none 0 0, .slice none 0 0] 44 (0, 0)) (bkS BK151.out) hb); have n3_ := Aside0.mk (blk_below (g := gb152) (o := .cells #[.string (⟨#[]⟩ : BA), .bool false, .int .i64 0, .slice none 0 0, .slice none 0 0, .slice none 0 0] 44 (0, 0)) (bkS BK152.out) hb); have n4_ := Aside0.mk (below_step (by repeat (first | (with_reducible first | exact HB.out | apply below_alloc | apply pw_below_drewN | apply below_drew1 | refine below_set ?_ GE149.out | refine below_set ?_ GE150.out | refine below_set ?_ GE151.out | refine below_set ?_ GE152.out) | exact HB.out)) hb); have n5_ := Aside0.mk (hbox); have n6_ := Aside0.mk ((by rw [hg]; exact (below_size (by repeat (first | (with_reducible first | exact HB.out | apply below_alloc | apply pw_below_drewN | apply below_drew1 | refine below_set ?_ GE149.out | refine below_set ?_ GE150.out | refine below_set ?_ GE151.out | refine below_set ?_ GE152.out) | exact HB.out))) : w.heap.size ≤ gb153)); have n7_ := Aside0.mk ((by rw [hg]; exact (below_size (by repeat (first | (with_reducible first | exact HB.out | apply below_alloc | apply pw_below_drewN | apply below_drew1 | refine below_set ?_ GE149.out | refine below_set ?_ GE150.out | refine below_set ?_ GE151.out | refine below_set ?_ GE152.out) | exact HB.out))) : w.heap.size ≤ gb153)); have n8_ := Aside0.mk ((by rw [hg]; exact Nat.ne_of_lt (blk_lt (g := gb149) (o := .cells #[.string (⟨#[]⟩ : BA), .bool false, .int .i64 0, .slice none 0 0, .slice none 0 0, .slice none 0 0] 44 (0, 0)) (bkS BK149.out)) : gb149 ≠ gb153)); have n9_ := Aside0.mk ((by rw [hg]; exact Nat.ne_of_gt (blk_lt (g := gb149) (o := .cells #[.string (⟨#[]⟩ : BA), .bool false, .int .i64 0, .slice none 0 0, .slice none 0 0, .slice none 0 0] 44 (0, 0)) (bkS BK149.out)) : gb153 ≠ gb149)); have n10_ := Aside0.mk ((by rw [hg]; exact Nat.ne_of_lt (blk_lt (g := gb150) (o := .cells #[.string (⟨#[]⟩ : BA), .bool false, .int .i64 0, .slice none 0 0, .slice none 0 0, .slice none 0 0] 44 (0, 0)) (bkS BK150.out)) : gb150 ≠ gb153)); have n11_ := Aside0.mk ((by rw [hg]; exact Nat.ne_of_gt (blk_lt (g := gb150) (o := .cells #[.string (⟨#[]⟩ : BA), .bool false, .int .i64 0, .slice none 0 0, .slice none 0 0, .slice none 0 0] 44 (0, 0)) (bkS BK150.out)) : gb153 ≠ gb150)); have n12_ := Aside0.mk ((by rw [hg]; exact Nat.ne_of_lt (blk_lt (g := gb151) (o := .cells #[.string (⟨#[]⟩ : BA), .bool false, .int .i64 0, .slice none 0 0, .slice none 0 0, .slice none 0 0] 44 (0, 0)) (bkS BK151.out)) : gb151 ≠ gb153)); have n13_ := Aside0.mk ((by rw [hg]; exact Nat.ne_of_gt (blk_lt (g := gb151) (o := .cells #[.string (⟨#[]⟩ : BA), .bool false, .int .i64 0, .slice none 0 0, .slice none 0 0, .slice none 0 0] 44 (0, 0)) (bkS BK151.out)) : gb153 ≠ gb151)); have n14_ := Aside0.mk ((by rw [hg]; exact Nat.ne_of_lt (blk_lt (g := gb152) (o := .cells #[.string (⟨#[]⟩ : BA), .bool false, .int .i64 0, .slice none 0 0, .slice none 0 0, .slice none 0 0] 44 (0, 0)) (bkS BK152.out)) : gb152 ≠ gb153)); have n15_ := Aside0.mk ((by rw [hg]; exact Nat.ne_of_gt (blk_lt (g := gb152) (o := .cells #[.string (⟨#[]⟩ : BA), .bool false, .int .i64 0, .slice none 0 0, .slice none 0 0, .slice none 0 0] 44 (0, 0)) (bkS BK152.out)) : gb153 ≠ gb152)); clear BK149; clear BK150; clear BK151; clear BK152; clear HB; have BK149 := n0_; have BK150 := n1_; have BK151 := n2_; have BK152 := n3_; have HB := n4_; have BK153 := n5_; have GW153 := n6_; have GE153 := n7_; have NB149_153 := n8_; have NB153_149 := n9_; have NB150_153 := n10_; have NB153_150 := n11_; have NB151_153 := n12_; have NB153_151 := n13_; have NB152_153 := n14_; have NB153_152 := n15_; clear n0_ n1_ n2_ n3_ n4_ n5_ n6_ n7_ n8_ n9_ n10_ n11_ n12_ n13_ n14_ n15_; clear hb hbox hg; have hnb6 := NB149_150.out; have hnc6 := NB150_149.out; have hnb7 := NB149_151.out; have hnc7 := NB151_149.out; have hnb8 := NB149_152.out; have hnc8 := NB152_149.out; have hnb9 := NB149_153.out; have hnc9 := NB153_149.out; have hcz10_0 : w5.cell? ⟨gb149, 0, none⟩ = some (.string (⟨#[]⟩ : BA)) := (blk_cell BK149.out 0).trans rfl; have hcz10_1 : w5.cell? ⟨gb149, 1, none⟩ = some (.bool false) := (blk_cell BK149.out 1).trans rfl; have hcz10_2 : w5.cell? ⟨gb149, 2, none⟩ = some (.int .i64 0) := (blk_cell BK149.out 2).trans rfl; have hcz10_3 : w5.cell? ⟨gb149, 3, none⟩ = some (.slice none 0 0) := (blk_cell BK149.out 3).trans rfl; have hcz10_4 : w5.cell? ⟨gb149, 4, none⟩ = some (.slice none 0 0) := (blk_cell BK149.out 4).trans rfl; have hcz10_5 : w5.cell? ⟨gb149, 5, none⟩ = some (.slice none 0 0) := (blk_cell BK149.out 5).trans rfl; have hfz10_0 := blk_frozen BK149.out 0; have hfz10_1 := blk_frozen BK149.out 1; have hfz10_2 := blk_frozen BK149.out 2; have hfz10_3 := blk_frozen BK149.out 3; have hfz10_4 := blk_frozen BK149.out 4; have hfz10_5 := blk_frozen BK149.out 5; have hnb11 := NB150_151.out; have hnc11 := NB151_150.out; have hnb12 := NB150_152.out; have hnc12 := NB152_150.out; have hnb13 := NB150_153.out; have hnc13 := NB153_150.out; have hcz14_0 : w5.cell? ⟨gb150, 0, none⟩ = some (.string (⟨#[]⟩ : BA)) := (blk_cell BK150.out 0).trans rfl; have hcz14_1 : w5.cell? ⟨gb150, 1, none⟩ = some (.bool false) := (blk_cell BK150.out 1).trans rfl; have hcz14_2 : w5.cell? ⟨gb150, 2, none⟩ = some (.int .i64 0) := (blk_cell BK150.out 2).trans rfl; have hcz14_3 : w5.cell? ⟨gb150, 3, none⟩ = some (.slice none 0 0) := (blk_cell BK150.out 3).trans rfl; have hcz14_4 : w5.cell? ⟨gb150, 4, none⟩ = some (.slice none 0 0) := (blk_cell BK150.out 4).trans rfl; have hcz14_5 : w5.cell? ⟨gb150, 5, none⟩ = some (.slice none 0 0) := (blk_cell BK150.out 5).trans rfl; have hfz14_0 := blk_frozen BK150.out 0; have hfz14_1 := blk_frozen BK150.out 1; have hfz14_2 := blk_frozen BK150.out 2; have hfz14_3 := blk_frozen BK150.out 3; have hfz14_4 := blk_frozen BK150.out 4; have hfz14_5 := blk_frozen BK150.out 5; have hnb15 := NB151_152.out; have hnc15 := NB152_151.out; have hnb16 := NB151_153.out; have hnc16 := NB153_151.out; have hcz17_0 : w5.cell? ⟨gb151, 0, none⟩ = some (.string (⟨#[]⟩ : BA)) := (blk_cell BK151.out 0).trans rfl; have hcz17_1 : w5.cell? ⟨gb151, 1, none⟩ = some (.bool false) := (blk_cell BK151.out 1).trans rfl; have hcz17_2 : w5.cell? ⟨gb151, 2, none⟩ = some (.int .i64 0) := (blk_cell BK151.out 2).trans rfl; have hcz17_3 : w5.cell? ⟨gb151, 3, none⟩ = some (.slice none 0 0) := (blk_cell BK151.out 3).trans rfl; have hcz17_4 : w5.cell? ⟨gb151, 4, none⟩ = some (.slice none 0 0) := (blk_cell BK151.out 4).trans rfl; have hcz17_5 : w5.cell? ⟨gb151, 5, none⟩ = some (.slice none 0 0) := (blk_cell BK151.out 5).trans rfl; have hfz17_0 := blk_frozen BK151.out 0; have hfz17_1 := blk_frozen BK151.out 1; have hfz17_2 := blk_frozen BK151.out 2; have hfz17_3 := blk_frozen BK151.out 3; have hfz17_4 := blk_frozen BK151.out 4; have hfz17_5 := blk_frozen BK151.out 5; have hnb18 := NB152_153.out; have hnc18 := NB153_152.out; have hcz19_0 : w5.cell? ⟨gb152, 0, none⟩ = some (.string (⟨#[]⟩ : BA)) := (blk_cell BK152.out 0).trans rfl; have hcz19_1 : w5.cell? ⟨gb152, 1, none⟩ = some (.bool false) := (blk_cell BK152.out 1).trans rfl; have hcz19_2 : w5.cell? ⟨gb152, 2, none⟩ = some (.int .i64 0) := (blk_cell BK152.out 2).trans rfl; have hcz19_3 : w5.cell? ⟨gb152, 3, none⟩ = some (.slice none 0 0) := (blk_cell BK152.out 3).trans rfl; have hcz19_4 : w5.cell? ⟨gb152, 4, none⟩ = some (.slice none 0 0) := (blk_cell BK152.out 4).trans rfl; have hcz19_5 : w5.cell? ⟨gb152, 5, none⟩ = some (.slice none 0 0) := (blk_cell BK152.out 5).trans rfl; have hfz19_0 := blk_frozen BK152.out 0; have hfz19_1 := blk_frozen BK152.out 1; have hfz19_2 := blk_frozen BK152.out 2; have hfz19_3 := blk_frozen BK152.out 3; have hfz19_4 := blk_frozen BK152.out 4; have hfz19_5 := blk_frozen BK152.out 5; have hcz20_0 : w5.cell? ⟨gb153, 0, none⟩ = some (.string (⟨#[]⟩ : BA)) := (blk_cell BK153.out 0).trans rfl; have hcz20_1 : w5.cell? ⟨gb153, 1, none⟩ = some (.bool false) := (blk_cell BK153.out 1).trans rfl; have hcz20_2 : w5.cell? ⟨gb153, 2, none⟩ = some (.int .i64 0) := (blk_cell BK153.out 2).trans rfl; have hcz20_3 : w5.cell? ⟨gb153, 3, none⟩ = some (.slice none 0 0) := (blk_cell BK153.out 3).trans rfl; have hcz20_4 : w5.cell? ⟨gb153, 4, none⟩ = some (.slice none 0 0) := (blk_cell BK153.out 4).trans rfl; have hcz20_5 : w5.cell? ⟨gb153, 5, none⟩ = some (.slice none 0 0) := (blk_cell BK153.out 5).trans rfl; have hfz20_0 := blk_frozen BK153.out 0; have hfz20_1 := blk_frozen BK153.out 1; have hfz20_2 := blk_frozen BK153.out 2; have hfz20_3 := blk_frozen BK153.out 3; have hfz20_4 := blk_frozen BK153.out 4; have hfz20_5 := blk_frozen BK153.out 5))
 go_loopg [6] k (fun kq v6 w' => ∃ (x6_1 : Int) (x150003_1 : List (S81)) (x151003_1 : List (S81)) (x152003_1 : List (S81)) (x153003_1 : List (S81)) (u150003 : Value) (u151003 : Value) (u152003 : Value) (u153003 : Value), v6 = .int .i64 x6_1 ∧ Aside0 (frisketref07_Standard.l0 kq x6_1 (⟨#[82]⟩ : BA) false 250 x150003_1 (⟨#[73]⟩ : BA) false 250 x151003_1 (⟨#[66]⟩ : BA) false 250 x152003_1 (⟨#[77]⟩ : BA) false 600 x153003_1 (⟨#[83]⟩ : BA) true 250 = some r) ∧ Aside0 (kq ≤ k) ∧ Aside0 (Kd.R k81 81 w' w.heap.size (fun k_ => (w.heap.size ≤ k_) ∧ some k_ ≠ (u151003 : Value).ownBlock ∧ some k_ ≠ (u152003 : Value).ownBlock ∧ some k_ ≠ (u153003 : Value).ownBlock) u150003 x150003_1) ∧ Aside0 (Kd.R k81 81 w' w.heap.size (fun k_ => (w.heap.size ≤ k_) ∧ some k_ ≠ (u150003 : Value).ownBlock ∧ some k_ ≠ (u152003 : Value).ownBlock ∧ some k_ ≠ (u153003 : Value).ownBlock) u151003 x151003_1) ∧ Aside0 (Kd.R k81 81 w' w.heap.size (fun k_ => (w.heap.size ≤ k_) ∧ some k_ ≠ (u150003 : Value).ownBlock ∧ some k_ ≠ (u151003 : Value).ownBlock ∧ some k_ ≠ (u153003 : Value).ownBlock) u152003 x152003_1) ∧ Aside0 (Kd.R k81 81 w' w.heap.size (fun k_ => (w.heap.size ≤ k_) ∧ some k_ ≠ (u150003 : Value).ownBlock ∧ some k_ ≠ (u151003 : Value).ownBlock ∧ some k_ ≠ (u152003 : Value).ownBlock) u153003 x153003_1) ∧ Aside0 (w'.heap[gb149]? = some (.cells #[.string (⟨#[82]⟩ : BA), .bool false, .int .i64 250, u150003, (.slice none 0 0), (.slice none 0 0)] 44 (0, 0))) ∧ Aside0 (w'.heap[gb150]? = some (.cells #[.string (⟨#[73]⟩ : BA), .bool false, .int .i64 250, u151003, (.slice none 0 0), (.slice none 0 0)] 44 (0, 0))) ∧ Aside0 (w'.heap[gb151]? = some (.cells #[.string (⟨#[66]⟩ : BA), .bool false, .int .i64 250, u152003, (.slice none 0 0), (.slice none 0 0)] 44 (0, 0))) ∧ Aside0 (w'.heap[gb152]? = some (.cells #[.string (⟨#[77]⟩ : BA), .bool false, .int .i64 600, u153003, (.slice none 0 0), (.slice none 0 0)] 44 (0, 0))) ∧ Aside0 (w'.heap[gb153]? = some (.cells #[.string (⟨#[83]⟩ : BA), .bool true, .int .i64 250, (.slice none 0 0), (.slice none 0 0), (.slice none 0 0)] 44 (0, 0))) ∧ Aside0 (Below w.heap.size w w'))
 case atStart => exact ⟨(33), (([] : List (S81))), (([] : List (S81))), (([] : List (S81))), (([] : List (S81))), (.slice none 0 0), (.slice none 0 0), (.slice none 0 0), (.slice none 0 0), (by first | rfl | (simp; done) | (simp [*]; done)), H', ⟨Nat.le_refl _⟩, ⟨by first | exact Kd.R_nil _ _ _ _ _ | exact Kd.N_nil _ _ _ _ _ | exact Kd.V_nil _ _ _ _ _ | exact Kd.Q_nil _ _ _ _ _ | exact Kd.S_nil _ _ _ _ _⟩, ⟨by first | exact Kd.R_nil _ _ _ _ _ | exact Kd.N_nil _ _ _ _ _ | exact Kd.V_nil _ _ _ _ _ | exact Kd.Q_nil _ _ _ _ _ | exact Kd.S_nil _ _ _ _ _⟩, ⟨by first | exact Kd.R_nil _ _ _ _ _ | exact Kd.N_nil _ _ _ _ _ | exact Kd.V_nil _ _ _ _ _ | exact Kd.Q_nil _ _ _ _ _ | exact Kd.S_nil _ _ _ _ _⟩, ⟨by first | exact Kd.R_nil _ _ _ _ _ | exact Kd.N_nil _ _ _ _ _ | exact Kd.V_nil _ _ _ _ _ | exact Kd.Q_nil _ _ _ _ _ | exact Kd.S_nil _ _ _ _ _⟩, ⟨by (with_reducible repeat (first | refine blk_drewN ?_ _ | refine blk_drew ?_ | refine blk_alloc ?_ _)); refine blk_far ?_ NB149_153.out _; (with_reducible repeat (first | refine blk_drewN ?_ _ | refine blk_drew ?_ | refine blk_alloc ?_ _)); refine blk_far ?_ NB149_153.out _; (with_reducible repeat (first | refine blk_drewN ?_ _ | refine blk_drew ?_ | refine blk_alloc ?_ _)); refine blk_far ?_ NB149_153.out _; (with_reducible repeat (first | refine blk_drewN ?_ _ | refine blk_drew ?_ | refine blk_alloc ?_ _)); refine blk_far ?_ NB149_153.out _; (with_reducible repeat (first | refine blk_drewN ?_ _ | refine blk_drew ?_ | refine blk_alloc ?_ _)); refine blk_far ?_ NB149_153.out _; (with_reducible repeat (first | refine blk_drewN ?_ _ | refine blk_drew ?_ | refine blk_alloc ?_ _)); refine blk_far ?_ NB149_153.out _; (with_reducible repeat (first | refine blk_drewN ?_ _ | refine blk_drew ?_ | refine blk_alloc ?_ _)); refine blk_far ?_ NB149_152.out _; (with_reducible repeat (first | refine blk_drewN ?_ _ | refine blk_drew ?_ | refine blk_alloc ?_ _)); refine blk_far ?_ NB149_152.out _; (with_reducible repeat (first | refine blk_drewN ?_ _ | refine blk_drew ?_ | refine blk_alloc ?_ _)); refine blk_far ?_ NB149_152.out _; (with_reducible repeat (first | refine blk_drewN ?_ _ | refine blk_drew ?_ | refine blk_alloc ?_ _)); refine blk_far ?_ NB149_152.out _; (with_reducible repeat (first | refine blk_drewN ?_ _ | refine blk_drew ?_ | refine blk_alloc ?_ _)); refine blk_far ?_ NB149_152.out _; (with_reducible repeat (first | refine blk_drewN ?_ _ | refine blk_drew ?_ | refine blk_alloc ?_ _)); refine blk_far ?_ NB149_152.out _; (with_reducible repeat (first | refine blk_drewN ?_ _ | refine blk_drew ?_ | refine blk_alloc ?_ _)); refine blk_far ?_ NB149_151.out _; (with_reducible repeat (first | refine blk_drewN ?_ _ | refine blk_drew ?_ | refine blk_alloc ?_ _)); refine blk_far ?_ NB149_151.out _; (with_reducible repeat (first | refine blk_drewN ?_ _ | refine blk_drew ?_ | refine blk_alloc ?_ _)); refine blk_far ?_ NB149_151.out _; (with_reducible repeat (first | refine blk_drewN ?_ _ | refine blk_drew ?_ | refine blk_alloc ?_ _)); refine blk_far ?_ NB149_151.out _; (with_reducible repeat (first | refine blk_drewN ?_ _ | refine blk_drew ?_ | refine blk_alloc ?_ _)); refine blk_far ?_ NB149_151.out _; (with_reducible repeat (first | refine blk_drewN ?_ _ | refine blk_drew ?_ | refine blk_alloc ?_ _)); refine blk_far ?_ NB149_151.out _; (with_reducible repeat (first | refine blk_drewN ?_ _ | refine blk_drew ?_ | refine blk_alloc ?_ _)); refine blk_far ?_ NB149_150.out _; (with_reducible repeat (first | refine blk_drewN ?_ _ | refine blk_drew ?_ | refine blk_alloc ?_ _)); refine blk_far ?_ NB149_150.out _; (with_reducible repeat (first | refine blk_drewN ?_ _ | refine blk_drew ?_ | refine blk_alloc ?_ _)); refine blk_far ?_ NB149_150.out _; (with_reducible repeat (first | refine blk_drewN ?_ _ | refine blk_drew ?_ | refine blk_alloc ?_ _)); refine blk_far ?_ NB149_150.out _; (with_reducible repeat (first | refine blk_drewN ?_ _ | refine blk_drew ?_ | refine blk_alloc ?_ _)); refine blk_far ?_ NB149_150.out _; (with_reducible repeat (first | refine blk_drewN ?_ _ | refine blk_drew ?_ | refine blk_alloc ?_ _)); refine blk_far ?_ NB149_150.out _; (with_reducible repeat (first | refine blk_drewN ?_ _ | refine blk_drew ?_ | refine blk_alloc ?_ _)); refine blk_put (cs := #[.string (⟨#[82]⟩ : BA), .bool false, .int .i64 250, .slice none 0 0, .slice none 0 0, .slice none 0 0]) ?_ 5 _ rfl; (with_reducible repeat (first | refine blk_drewN ?_ _ | refine blk_drew ?_ | refine blk_alloc ?_ _)); refine blk_put (cs := #[.string (⟨#[82]⟩ : BA), .bool false, .int .i64 250, .slice none 0 0, .slice none 0 0, .slice none 0 0]) ?_ 4 _ rfl; (with_reducible repeat (first | refine blk_drewN ?_ _ | refine blk_drew ?_ | refine blk_alloc ?_ _)); refine blk_put (cs := #[.string (⟨#[82]⟩ : BA), .bool false, .int .i64 250, .slice none 0 0, .slice none 0 0, .slice none 0 0]) ?_ 3 _ rfl; (with_reducible repeat (first | refine blk_drewN ?_ _ | refine blk_drew ?_ | refine blk_alloc ?_ _)); refine blk_put (cs := #[.string (⟨#[82]⟩ : BA), .bool false, .int .i64 0, .slice none 0 0, .slice none 0 0, .slice none 0 0]) ?_ 2 _ rfl; (with_reducible repeat (first | refine blk_drewN ?_ _ | refine blk_drew ?_ | refine blk_alloc ?_ _)); refine blk_put (cs := #[.string (⟨#[82]⟩ : BA), .bool false, .int .i64 0, .slice none 0 0, .slice none 0 0, .slice none 0 0]) ?_ 1 _ rfl; (with_reducible repeat (first | refine blk_drewN ?_ _ | refine blk_drew ?_ | refine blk_alloc ?_ _)); refine blk_put (cs := #[.string (⟨#[]⟩ : BA), .bool false, .int .i64 0, .slice none 0 0, .slice none 0 0, .slice none 0 0]) ?_ 0 _ rfl; (with_reducible repeat (first | refine blk_drewN ?_ _ | refine blk_drew ?_ | refine blk_alloc ?_ _)); exact BK149.out⟩, ⟨by (with_reducible repeat (first | refine blk_drewN ?_ _ | refine blk_drew ?_ | refine blk_alloc ?_ _)); refine blk_far ?_ NB150_153.out _; (with_reducible repeat (first | refine blk_drewN ?_ _ | refine blk_drew ?_ | refine blk_alloc ?_ _)); refine blk_far ?_ NB150_153.out _; (with_reducible repeat (first | refine blk_drewN ?_ _ | refine blk_drew ?_ | refine blk_alloc ?_ _)); refine blk_far ?_ NB150_153.out _; (with_reducible repeat (first | refine blk_drewN ?_ _ | refine blk_drew ?_ | refine blk_alloc ?_ _)); refine blk_far ?_ NB150_153.out _; (with_reducible repeat (first | refine blk_drewN ?_ _ | refine blk_drew ?_ | refine blk_alloc ?_ _)); refine blk_far ?_ NB150_153.out _; (with_reducible repeat (first | refine blk_drewN ?_ _ | refine blk_drew ?_ | refine blk_alloc ?_ _)); refine blk_far ?_ NB150_153.out _; (with_reducible repeat (first | refine blk_drewN ?_ _ | refine blk_drew ?_ | refine blk_alloc ?_ _)); refine blk_far ?_ NB150_152.out _; (with_reducible repeat (first | refine blk_drewN ?_ _ | refine blk_drew ?_ | refine blk_alloc ?_ _)); refine blk_far ?_ NB150_152.out _; (with_reducible repeat (first | refine blk_drewN ?_ _ | refine blk_drew ?_ | refine blk_alloc ?_ _)); refine blk_far ?_ NB150_152.out _; (with_reducible repeat (first | refine blk_drewN ?_ _ | refine blk_drew ?_ | refine blk_alloc ?_ _)); refine blk_far ?_ NB150_152.out _; (with_reducible repeat (first | refine blk_drewN ?_ _ | refine blk_drew ?_ | refine blk_alloc ?_ _)); refine blk_far ?_ NB150_152.out _; (with_reducible repeat (first | refine blk_drewN ?_ _ | refine blk_drew ?_ | refine blk_alloc ?_ _)); refine blk_far ?_ NB150_152.out _; (with_reducible repeat (first | refine blk_drewN ?_ _ | refine blk_drew ?_ | refine blk_alloc ?_ _)); refine blk_far ?_ NB150_151.out _; (with_reducible repeat (first | refine blk_drewN ?_ _ | refine blk_drew ?_ | refine blk_alloc ?_ _)); refine blk_far ?_ NB150_151.out _; (with_reducible repeat (first | refine blk_drewN ?_ _ | refine blk_drew ?_ | refine blk_alloc ?_ _)); refine blk_far ?_ NB150_151.out _; (with_reducible repeat (first | refine blk_drewN ?_ _ | refine blk_drew ?_ | refine blk_alloc ?_ _)); refine blk_far ?_ NB150_151.out _; (with_reducible repeat (first | refine blk_drewN ?_ _ | refine blk_drew ?_ | refine blk_alloc ?_ _)); refine blk_far ?_ NB150_151.out _; (with_reducible repeat (first | refine blk_drewN ?_ _ | refine blk_drew ?_ | refine blk_alloc ?_ _)); refine blk_far ?_ NB150_151.out _; (with_reducible repeat (first | refine blk_drewN ?_ _ | refine blk_drew ?_ | refine blk_alloc ?_ _)); refine blk_put (cs := #[.string (⟨#[73]⟩ : BA), .bool false, .int .i64 250, .slice none 0 0, .slice none 0 0, .slice none 0 0]) ?_ 5 _ rfl; (with_reducible repeat (first | refine blk_drewN ?_ _ | refine blk_drew ?_ | refine blk_alloc ?_ _)); refine blk_put (cs := #[.string (⟨#[73]⟩ : BA), .bool false, .int .i64 250, .slice none 0 0, .slice none 0 0, .slice none 0 0]) ?_ 4 _ rfl; (with_reducible repeat (first | refine blk_drewN ?_ _ | refine blk_drew ?_ | refine blk_alloc ?_ _)); refine blk_put (cs := #[.string (⟨#[73]⟩ : BA), .bool false, .int .i64 250, .slice none 0 0, .slice none 0 0, .slice none 0 0]) ?_ 3 _ rfl; (with_reducible repeat (first | refine blk_drewN ?_ _ | refine blk_drew ?_ | refine blk_alloc ?_ _)); refine blk_put (cs := #[.string (⟨#[73]⟩ : BA), .bool false, .int .i64 0, .slice none 0 0, .slice none 0 0, .slice none 0 0]) ?_ 2 _ rfl; (with_reducible repeat (first | refine blk_drewN ?_ _ | refine blk_drew ?_ | refine blk_alloc ?_ _)); refine blk_put (cs := #[.string (⟨#[73]⟩ : BA), .bool false, .int .i64 0, .slice none 0 0, .slice none 0 0, .slice none 0 0]) ?_ 1 _ rfl; (with_reducible repeat (first | refine blk_drewN ?_ _ | refine blk_drew ?_ | refine blk_alloc ?_ _)); refine blk_put (cs := #[.string (⟨#[]⟩ : BA), .bool false, .int .i64 0, .slice none 0 0, .slice none 0 0, .slice none 0 0]) ?_ 0 _ rfl; (with_reducible repeat (first | refine blk_drewN ?_ _ | refine blk_drew ?_ | refine blk_alloc ?_ _)); refine blk_far ?_ NB150_149.out _; (with_reducible repeat (first | refine blk_drewN ?_ _ | refine blk_drew ?_ | refine blk_alloc ?_ _)); refine blk_far ?_ NB150_149.out _; (with_reducible repeat (first | refine blk_drewN ?_ _ | refine blk_drew ?_ | refine blk_alloc ?_ _)); refine blk_far ?_ NB150_149.out _; (with_reducible repeat (first | refine blk_drewN ?_ _ | refine blk_drew ?_ | refine blk_alloc ?_ _)); refine blk_far ?_ NB150_149.out _; (with_reducible repeat (first | refine blk_drewN ?_ _ | refine blk_drew ?_ | refine blk_alloc ?_ _)); refine blk_far ?_ NB150_149.out _; (with_reducible repeat (first | refine blk_drewN ?_ _ | refine blk_drew ?_ | refine blk_alloc ?_ _)); refine blk_far ?_ NB150_149.out _; (with_reducible repeat (first | refine blk_drewN ?_ _ | refine blk_drew ?_ | refine blk_alloc ?_ _)); exact BK150.out⟩, ⟨by (with_reducible repeat (first | refine blk_drewN ?_ _ | refine blk_drew ?_ | refine blk_alloc ?_ _)); refine blk_far ?_ NB151_153.out _; (with_reducible repeat (first | refine blk_drewN ?_ _ | refine blk_drew ?_ | refine blk_alloc ?_ _)); refine blk_far ?_ NB151_153.out _; (with_reducible repeat (first | refine blk_drewN ?_ _ | refine blk_drew ?_ | refine blk_alloc ?_ _)); refine blk_far ?_ NB151_153.out _; (with_reducible repeat (first | refine blk_drewN ?_ _ | refine blk_drew ?_ | refine blk_alloc ?_ _)); refine blk_far ?_ NB151_153.out _; (with_reducible repeat (first | refine blk_drewN ?_ _ | refine blk_drew ?_ | refine blk_alloc ?_ _)); refine blk_far ?_ NB151_153.out _; (with_reducible repeat (first | refine blk_drewN ?_ _ | refine blk_drew ?_ | refine blk_alloc ?_ _)); refine blk_far ?_ NB151_153.out _; (with_reducible repeat (first | refine blk_drewN ?_ _ | refine blk_drew ?_ | refine blk_alloc ?_ _)); refine blk_far ?_ NB151_152.out _; (with_reducible repeat (first | refine blk_drewN ?_ _ | refine blk_drew ?_ | refine blk_alloc ?_ _)); refine blk_far ?_ NB151_152.out _; (with_reducible repeat (first | refine blk_drewN ?_ _ | refine blk_drew ?_ | refine blk_alloc ?_ _)); refine blk_far ?_ NB151_152.out _; (with_reducible repeat (first | refine blk_drewN ?_ _ | refine blk_drew ?_ | refine blk_alloc ?_ _)); refine blk_far ?_ NB151_152.out _; (with_reducible repeat (first | refine blk_drewN ?_ _ | refine blk_drew ?_ | refine blk_alloc ?_ _)); refine blk_far ?_ NB151_152.out _; (with_reducible repeat (first | refine blk_drewN ?_ _ | refine blk_drew ?_ | refine blk_alloc ?_ _)); refine blk_far ?_ NB151_152.out _; (with_reducible repeat (first | refine blk_drewN ?_ _ | refine blk_drew ?_ | refine blk_alloc ?_ _)); refine blk_put (cs := #[.string (⟨#[66]⟩ : BA), .bool false, .int .i64 250, .slice none 0 0, .slice none 0 0, .slice none 0 0]) ?_ 5 _ rfl; (with_reducible repeat (first | refine blk_drewN ?_ _ | refine blk_drew ?_ | refine blk_alloc ?_ _)); refine blk_put (cs := #[.string (⟨#[66]⟩ : BA), .bool false, .int .i64 250, .slice none 0 0, .slice none 0 0, .slice none 0 0]) ?_ 4 _ rfl; (with_reducible repeat (first | refine blk_drewN ?_ _ | refine blk_drew ?_ | refine blk_alloc ?_ _)); refine blk_put (cs := #[.string (⟨#[66]⟩ : BA), .bool false, .int .i64 250, .slice none 0 0, .slice none 0 0, .slice none 0 0]) ?_ 3 _ rfl; (with_reducible repeat (first | refine blk_drewN ?_ _ | refine blk_drew ?_ | refine blk_alloc ?_ _)); refine blk_put (cs := #[.string (⟨#[66]⟩ : BA), .bool false, .int .i64 0, .slice none 0 0, .slice none 0 0, .slice none 0 0]) ?_ 2 _ rfl; (with_reducible repeat (first | refine blk_drewN ?_ _ | refine blk_drew ?_ | refine blk_alloc ?_ _)); refine blk_put (cs := #[.string (⟨#[66]⟩ : BA), .bool false, .int .i64 0, .slice none 0 0, .slice none 0 0, .slice none 0 0]) ?_ 1 _ rfl; (with_reducible repeat (first | refine blk_drewN ?_ _ | refine blk_drew ?_ | refine blk_alloc ?_ _)); refine blk_put (cs := #[.string (⟨#[]⟩ : BA), .bool false, .int .i64 0, .slice none 0 0, .slice none 0 0, .slice none 0 0]) ?_ 0 _ rfl; (with_reducible repeat (first | refine blk_drewN ?_ _ | refine blk_drew ?_ | refine blk_alloc ?_ _)); refine blk_far ?_ NB151_150.out _; (with_reducible repeat (first | refine blk_drewN ?_ _ | refine blk_drew ?_ | refine blk_alloc ?_ _)); refine blk_far ?_ NB151_150.out _; (with_reducible repeat (first | refine blk_drewN ?_ _ | refine blk_drew ?_ | refine blk_alloc ?_ _)); refine blk_far ?_ NB151_150.out _; (with_reducible repeat (first | refine blk_drewN ?_ _ | refine blk_drew ?_ | refine blk_alloc ?_ _)); refine blk_far ?_ NB151_150.out _; (with_reducible repeat (first | refine blk_drewN ?_ _ | refine blk_drew ?_ | refine blk_alloc ?_ _)); refine blk_far ?_ NB151_150.out _; (with_reducible repeat (first | refine blk_drewN ?_ _ | refine blk_drew ?_ | refine blk_alloc ?_ _)); refine blk_far ?_ NB151_150.out _; (with_reducible repeat (first | refine blk_drewN ?_ _ | refine blk_drew ?_ | refine blk_alloc ?_ _)); refine blk_far ?_ NB151_149.out _; (with_reducible repeat (first | refine blk_drewN ?_ _ | refine blk_drew ?_ | refine blk_alloc ?_ _)); refine blk_far ?_ NB151_149.out _; (with_reducible repeat (first | refine blk_drewN ?_ _ | refine blk_drew ?_ | refine blk_alloc ?_ _)); refine blk_far ?_ NB151_149.out _; (with_reducible repeat (first | refine blk_drewN ?_ _ | refine blk_drew ?_ | refine blk_alloc ?_ _)); refine blk_far ?_ NB151_149.out _; (with_reducible repeat (first | refine blk_drewN ?_ _ | refine blk_drew ?_ | refine blk_alloc ?_ _)); refine blk_far ?_ NB151_149.out _; (with_reducible repeat (first | refine blk_drewN ?_ _ | refine blk_drew ?_ | refine blk_alloc ?_ _)); refine blk_far ?_ NB151_149.out _; (with_reducible repeat (first | refine blk_drewN ?_ _ | refine blk_drew ?_ | refine blk_alloc ?_ _)); exact BK151.out⟩, ⟨by (with_reducible repeat (first | refine blk_drewN ?_ _ | refine blk_drew ?_ | refine blk_alloc ?_ _)); refine blk_far ?_ NB152_153.out _; (with_reducible repeat (first | refine blk_drewN ?_ _ | refine blk_drew ?_ | refine blk_alloc ?_ _)); refine blk_far ?_ NB152_153.out _; (with_reducible repeat (first | refine blk_drewN ?_ _ | refine blk_drew ?_ | refine blk_alloc ?_ _)); refine blk_far ?_ NB152_153.out _; (with_reducible repeat (first | refine blk_drewN ?_ _ | refine blk_drew ?_ | refine blk_alloc ?_ _)); refine blk_far ?_ NB152_153.out _; (with_reducible repeat (first | refine blk_drewN ?_ _ | refine blk_drew ?_ | refine blk_alloc ?_ _)); refine blk_far ?_ NB152_153.out _; (with_reducible repeat (first | refine blk_drewN ?_ _ | refine blk_drew ?_ | refine blk_alloc ?_ _)); refine blk_far ?_ NB152_153.out _; (with_reducible repeat (first | refine blk_drewN ?_ _ | refine blk_drew ?_ | refine blk_alloc ?_ _)); refine blk_put (cs := #[.string (⟨#[77]⟩ : BA), .bool false, .int .i64 600, .slice none 0 0, .slice none 0 0, .slice none 0 0]) ?_ 5 _ rfl; (with_reducible repeat (first | refine blk_drewN ?_ _ | refine blk_drew ?_ | refine blk_alloc ?_ _)); refine blk_put (cs := #[.string (⟨#[77]⟩ : BA), .bool false, .int .i64 600, .slice none 0 0, .slice none 0 0, .slice none 0 0]) ?_ 4 _ rfl; (with_reducible repeat (first | refine blk_drewN ?_ _ | refine blk_drew ?_ | refine blk_alloc ?_ _)); refine blk_put (cs := #[.string (⟨#[77]⟩ : BA), .bool false, .int .i64 600, .slice none 0 0, .slice none 0 0, .slice none 0 0]) ?_ 3 _ rfl; (with_reducible repeat (first | refine blk_drewN ?_ _ | refine blk_drew ?_ | refine blk_alloc ?_ _)); refine blk_put (cs := #[.string (⟨#[77]⟩ : BA), .bool false, .int .i64 0, .slice none 0 0, .slice none 0 0, .slice none 0 0]) ?_ 2 _ rfl; (with_reducible repeat (first | refine blk_drewN ?_ _ | refine blk_drew ?_ | refine blk_alloc ?_ _)); refine blk_put (cs := #[.string (⟨#[77]⟩ : BA), .bool false, .int .i64 0, .slice none 0 0, .slice none 0 0, .slice none 0 0]) ?_ 1 _ rfl; (with_reducible repeat (first | refine blk_drewN ?_ _ | refine blk_drew ?_ | refine blk_alloc ?_ _)); refine blk_put (cs := #[.string (⟨#[]⟩ : BA), .bool false, .int .i64 0, .slice none 0 0, .slice none 0 0, .slice none 0 0]) ?_ 0 _ rfl; (with_reducible repeat (first | refine blk_drewN ?_ _ | refine blk_drew ?_ | refine blk_alloc ?_ _)); refine blk_far ?_ NB152_151.out _; (with_reducible repeat (first | refine blk_drewN ?_ _ | refine blk_drew ?_ | refine blk_alloc ?_ _)); refine blk_far ?_ NB152_151.out _; (with_reducible repeat (first | refine blk_drewN ?_ _ | refine blk_drew ?_ | refine blk_alloc ?_ _)); refine blk_far ?_ NB152_151.out _; (with_reducible repeat (first | refine blk_drewN ?_ _ | refine blk_drew ?_ | refine blk_alloc ?_ _)); refine blk_far ?_ NB152_151.out _; (with_reducible repeat (first | refine blk_drewN ?_ _ | refine blk_drew ?_ | refine blk_alloc ?_ _)); refine blk_far ?_ NB152_151.out _; (with_reducible repeat (first | refine blk_drewN ?_ _ | refine blk_drew ?_ | refine blk_alloc ?_ _)); refine blk_far ?_ NB152_151.out _; (with_reducible repeat (first | refine blk_drewN ?_ _ | refine blk_drew ?_ | refine blk_alloc ?_ _)); refine blk_far ?_ NB152_150.out _; (with_reducible repeat (first | refine blk_drewN ?_ _ | refine blk_drew ?_ | refine blk_alloc ?_ _)); refine blk_far ?_ NB152_150.out _; (with_reducible repeat (first | refine blk_drewN ?_ _ | refine blk_drew ?_ | refine blk_alloc ?_ _)); refine blk_far ?_ NB152_150.out _; (with_reducible repeat (first | refine blk_drewN ?_ _ | refine blk_drew ?_ | refine blk_alloc ?_ _)); refine blk_far ?_ NB152_150.out _; (with_reducible repeat (first | refine blk_drewN ?_ _ | refine blk_drew ?_ | refine blk_alloc ?_ _)); refine blk_far ?_ NB152_150.out _; (with_reducible repeat (first | refine blk_drewN ?_ _ | refine blk_drew ?_ | refine blk_alloc ?_ _)); refine blk_far ?_ NB152_150.out _; (with_reducible repeat (first | refine blk_drewN ?_ _ | refine blk_drew ?_ | refine blk_alloc ?_ _)); refine blk_far ?_ NB152_149.out _; (with_reducible repeat (first | refine blk_drewN ?_ _ | refine blk_drew ?_ | refine blk_alloc ?_ _)); refine blk_far ?_ NB152_149.out _; (with_reducible repeat (first | refine blk_drewN ?_ _ | refine blk_drew ?_ | refine blk_alloc ?_ _)); refine blk_far ?_ NB152_149.out _; (with_reducible repeat (first | refine blk_drewN ?_ _ | refine blk_drew ?_ | refine blk_alloc ?_ _)); refine blk_far ?_ NB152_149.out _; (with_reducible repeat (first | refine blk_drewN ?_ _ | refine blk_drew ?_ | refine blk_alloc ?_ _)); refine blk_far ?_ NB152_149.out _; (with_reducible repeat (first | refine blk_drewN ?_ _ | refine blk_drew ?_ | refine blk_alloc ?_ _)); refine blk_far ?_ NB152_149.out _; (with_reducible repeat (first | refine blk_drewN ?_ _ | refine blk_drew ?_ | refine blk_alloc ?_ _)); exact BK152.out⟩, ⟨by (with_reducible repeat (first | refine blk_drewN ?_ _ | refine blk_drew ?_ | refine blk_alloc ?_ _)); refine blk_put (cs := #[.string (⟨#[83]⟩ : BA), .bool true, .int .i64 250, .slice none 0 0, .slice none 0 0, .slice none 0 0]) ?_ 5 _ rfl; (with_reducible repeat (first | refine blk_drewN ?_ _ | refine blk_drew ?_ | refine blk_alloc ?_ _)); refine blk_put (cs := #[.string (⟨#[83]⟩ : BA), .bool true, .int .i64 250, .slice none 0 0, .slice none 0 0, .slice none 0 0]) ?_ 4 _ rfl; (with_reducible repeat (first | refine blk_drewN ?_ _ | refine blk_drew ?_ | refine blk_alloc ?_ _)); refine blk_put (cs := #[.string (⟨#[83]⟩ : BA), .bool true, .int .i64 250, .slice none 0 0, .slice none 0 0, .slice none 0 0]) ?_ 3 _ rfl; (with_reducible repeat (first | refine blk_drewN ?_ _ | refine blk_drew ?_ | refine blk_alloc ?_ _)); refine blk_put (cs := #[.string (⟨#[83]⟩ : BA), .bool true, .int .i64 0, .slice none 0 0, .slice none 0 0, .slice none 0 0]) ?_ 2 _ rfl; (with_reducible repeat (first | refine blk_drewN ?_ _ | refine blk_drew ?_ | refine blk_alloc ?_ _)); refine blk_put (cs := #[.string (⟨#[83]⟩ : BA), .bool false, .int .i64 0, .slice none 0 0, .slice none 0 0, .slice none 0 0]) ?_ 1 _ rfl; (with_reducible repeat (first | refine blk_drewN ?_ _ | refine blk_drew ?_ | refine blk_alloc ?_ _)); refine blk_put (cs := #[.string (⟨#[]⟩ : BA), .bool false, .int .i64 0, .slice none 0 0, .slice none 0 0, .slice none 0 0]) ?_ 0 _ rfl; (with_reducible repeat (first | refine blk_drewN ?_ _ | refine blk_drew ?_ | refine blk_alloc ?_ _)); refine blk_far ?_ NB153_152.out _; (with_reducible repeat (first | refine blk_drewN ?_ _ | refine blk_drew ?_ | refine blk_alloc ?_ _)); refine blk_far ?_ NB153_152.out _; (with_reducible repeat (first | refine blk_drewN ?_ _ | refine blk_drew ?_ | refine blk_alloc ?_ _)); refine blk_far ?_ NB153_152.out _; (with_reducible repeat (first | refine blk_drewN ?_ _ | refine blk_drew ?_ | refine blk_alloc ?_ _)); refine blk_far ?_ NB153_152.out _; (with_reducible repeat (first | refine blk_drewN ?_ _ | refine blk_drew ?_ | refine blk_alloc ?_ _)); refine blk_far ?_ NB153_152.out _; (with_reducible repeat (first | refine blk_drewN ?_ _ | refine blk_drew ?_ | refine blk_alloc ?_ _)); refine blk_far ?_ NB153_152.out _; (with_reducible repeat (first | refine blk_drewN ?_ _ | refine blk_drew ?_ | refine blk_alloc ?_ _)); refine blk_far ?_ NB153_151.out _; (with_reducible repeat (first | refine blk_drewN ?_ _ | refine blk_drew ?_ | refine blk_alloc ?_ _)); refine blk_far ?_ NB153_151.out _; (with_reducible repeat (first | refine blk_drewN ?_ _ | refine blk_drew ?_ | refine blk_alloc ?_ _)); refine blk_far ?_ NB153_151.out _; (with_reducible repeat (first | refine blk_drewN ?_ _ | refine blk_drew ?_ | refine blk_alloc ?_ _)); refine blk_far ?_ NB153_151.out _; (with_reducible repeat (first | refine blk_drewN ?_ _ | refine blk_drew ?_ | refine blk_alloc ?_ _)); refine blk_far ?_ NB153_151.out _; (with_reducible repeat (first | refine blk_drewN ?_ _ | refine blk_drew ?_ | refine blk_alloc ?_ _)); refine blk_far ?_ NB153_151.out _; (with_reducible repeat (first | refine blk_drewN ?_ _ | refine blk_drew ?_ | refine blk_alloc ?_ _)); refine blk_far ?_ NB153_150.out _; (with_reducible repeat (first | refine blk_drewN ?_ _ | refine blk_drew ?_ | refine blk_alloc ?_ _)); refine blk_far ?_ NB153_150.out _; (with_reducible repeat (first | refine blk_drewN ?_ _ | refine blk_drew ?_ | refine blk_alloc ?_ _)); refine blk_far ?_ NB153_150.out _; (with_reducible repeat (first | refine blk_drewN ?_ _ | refine blk_drew ?_ | refine blk_alloc ?_ _)); refine blk_far ?_ NB153_150.out _; (with_reducible repeat (first | refine blk_drewN ?_ _ | refine blk_drew ?_ | refine blk_alloc ?_ _)); refine blk_far ?_ NB153_150.out _; (with_reducible repeat (first | refine blk_drewN ?_ _ | refine blk_drew ?_ | refine blk_alloc ?_ _)); refine blk_far ?_ NB153_150.out _; (with_reducible repeat (first | refine blk_drewN ?_ _ | refine blk_drew ?_ | refine blk_alloc ?_ _)); refine blk_far ?_ NB153_149.out _; (with_reducible repeat (first | refine blk_drewN ?_ _ | refine blk_drew ?_ | refine blk_alloc ?_ _)); refine blk_far ?_ NB153_149.out _; (with_reducible repeat (first | refine blk_drewN ?_ _ | refine blk_drew ?_ | refine blk_alloc ?_ _)); refine blk_far ?_ NB153_149.out _; (with_reducible repeat (first | refine blk_drewN ?_ _ | refine blk_drew ?_ | refine blk_alloc ?_ _)); refine blk_far ?_ NB153_149.out _; (with_reducible repeat (first | refine blk_drewN ?_ _ | refine blk_drew ?_ | refine blk_alloc ?_ _)); refine blk_far ?_ NB153_149.out _; (with_reducible repeat (first | refine blk_drewN ?_ _ | refine blk_drew ?_ | refine blk_alloc ?_ _)); refine blk_far ?_ NB153_149.out _; (with_reducible repeat (first | refine blk_drewN ?_ _ | refine blk_drew ?_ | refine blk_alloc ?_ _)); exact BK153.out⟩, ⟨by repeat (first | (with_reducible first | exact HB.out | apply below_alloc | apply pw_below_drewN | apply below_drew1 | refine below_set ?_ GE149.out | refine below_set ?_ GE150.out | refine below_set ?_ GE151.out | refine below_set ?_ GE152.out | refine below_set ?_ GE153.out) | exact HB.out)⟩⟩
 case round =>
  clear H'
  try clear c1
  try clear p2
  try clear c6
  try clear c7
  try clear c8
  try clear c9
  try clear c11
  try clear c12
  try clear c13
  try clear c14
  try clear c15
  try clear c16
  try clear c18
  try clear hcz10_0
  try clear hcz10_1
  try clear hcz10_2
  try clear hcz10_3
  try clear hcz10_4
  try clear hcz10_5
  try clear hcz14_0
  try clear hcz14_1
  try clear hcz14_2
  try clear hcz14_3
  try clear hcz14_4
  try clear hcz14_5
  try clear hcz17_0
  try clear hcz17_1
  try clear hcz17_2
  try clear hcz17_3
  try clear hcz17_4
  try clear hcz17_5
  try clear hcz19_0
  try clear hcz19_1
  try clear hcz19_2
  try clear hcz19_3
  try clear hcz19_4
  try clear hcz19_5
  try clear hcz20_0
  try clear hcz20_1
  try clear hcz20_2
  try clear hcz20_3
  try clear hcz20_4
  try clear hcz20_5
  try clear hfz10_0
  try clear hfz10_1
  try clear hfz10_2
  try clear hfz10_3
  try clear hfz10_4
  try clear hfz10_5
  try clear hfz14_0
  try clear hfz14_1
  try clear hfz14_2
  try clear hfz14_3
  try clear hfz14_4
  try clear hfz14_5
  try clear hfz17_0
  try clear hfz17_1
  try clear hfz17_2
  try clear hfz17_3
  try clear hfz17_4
  try clear hfz17_5
  try clear hfz19_0
  try clear hfz19_1
  try clear hfz19_2
  try clear hfz19_3
  try clear hfz19_4
  try clear hfz19_5
  try clear hfz20_0
  try clear hfz20_1
  try clear hfz20_2
  try clear hfz20_3
  try clear hfz20_4
  try clear hfz20_5
  obtain ⟨x6_1, x150003_1, x151003_1, x152003_1, x153003_1, u150003, u151003, u152003, u153003, rfl, HA, HK1, HO_150003, HO_151003, HO_152003, HO_153003, BK149, BK150, BK151, BK152, BK153, HB⟩ := hrel
  cases gk with
  | zero => exact absurd HA.out (by simp [frisketref07_Standard.l0])
  | succ k1 =>
   have H := HA.out
   clear HA
   simp only [frisketref07_Standard.l0] at H
   by_cases c21 : x6_1 ≤ 126
   ·rw [if_pos c21] at H
    have c21b0 : decide (x6_1 ≤ 126) = true := decide_eq_true c21
    clear c21
    obtain ⟨y154, hy154⟩ : ∃ y_ : List Int, y_ = (([(x6_1) % 256] : List Int)) := ⟨_, rfl⟩
    replace H : ((frisketref07_roman.f k1 ((x6_1) % 256)).bind fun t157 => ((frisketref07_put.f k1 x150003_1 (strOfNums y154) t157).bind fun t158 => ((frisketref07_put.f k1 x151003_1 (strOfNums y154) (mx (wrap64 (t157 - 20)) 0)).bind fun t161 => ((frisketref07_put.f k1 x152003_1 (strOfNums y154) (wrap64 (t157 + 50))).bind fun t164 => ((frisketref07_put.f k1 x153003_1 (strOfNums y154) 600).bind fun t167 => (frisketref07_Standard.l0 k1 (wrap64 (x6_1 + 1)) (⟨#[82]⟩ : BA) false 250 t158 (⟨#[73]⟩ : BA) false 250 t161 (⟨#[66]⟩ : BA) false 250 t164 (⟨#[77]⟩ : BA) false 600 t167 (⟨#[83]⟩ : BA) true 250)))))) = some r := by first | (rw [hy154]; with_reducible exact H) | (have H2_ := (Option.bind_some _ _).symm.trans H; rw [hy154]; with_reducible exact H2_) | (have H2_ := (Option.bind_some _ _).symm.trans H; with_reducible exact H2_) | with_reducible exact H | (rw [hy154]; exact H) | exact H
    have Ny154 := Aside0.mk hy154
    clear hy154
    replace H := Option.bind_eq_some_iff.mp H
    obtain ⟨t157, A220, H⟩ := H
    replace H : ((frisketref07_put.f k1 x150003_1 (strOfNums y154) t157).bind fun t158 => ((frisketref07_put.f k1 x151003_1 (strOfNums y154) (mx (wrap64 (t157 - 20)) 0)).bind fun t161 => ((frisketref07_put.f k1 x152003_1 (strOfNums y154) (wrap64 (t157 + 50))).bind fun t164 => ((frisketref07_put.f k1 x153003_1 (strOfNums y154) 600).bind fun t167 => (frisketref07_Standard.l0 k1 (wrap64 (x6_1 + 1)) (⟨#[82]⟩ : BA) false 250 t158 (⟨#[73]⟩ : BA) false 250 t161 (⟨#[66]⟩ : BA) false 250 t164 (⟨#[77]⟩ : BA) false 600 t167 (⟨#[83]⟩ : BA) true 250))))) = some r := H
    have A22 := Aside0.mk A220
    clear A220
    replace H := Option.bind_eq_some_iff.mp H
    obtain ⟨t158, A230, H⟩ := H
    replace H : ((frisketref07_put.f k1 x151003_1 (strOfNums y154) (mx (wrap64 (t157 - 20)) 0)).bind fun t161 => ((frisketref07_put.f k1 x152003_1 (strOfNums y154) (wrap64 (t157 + 50))).bind fun t164 => ((frisketref07_put.f k1 x153003_1 (strOfNums y154) 600).bind fun t167 => (frisketref07_Standard.l0 k1 (wrap64 (x6_1 + 1)) (⟨#[82]⟩ : BA) false 250 t158 (⟨#[73]⟩ : BA) false 250 t161 (⟨#[66]⟩ : BA) false 250 t164 (⟨#[77]⟩ : BA) false 600 t167 (⟨#[83]⟩ : BA) true 250)))) = some r := H
    have A23 := Aside0.mk A230
    clear A230
    obtain ⟨ji24, hji24⟩ : ∃ j_ : Int, (mx (wrap64 (t157 - 20)) 0) = j_ := ⟨_, rfl⟩
    replace H : ((frisketref07_put.f k1 x151003_1 (strOfNums y154) (ji24)).bind fun t161 => ((frisketref07_put.f k1 x152003_1 (strOfNums y154) (wrap64 (t157 + 50))).bind fun t164 => ((frisketref07_put.f k1 x153003_1 (strOfNums y154) 600).bind fun t167 => (frisketref07_Standard.l0 k1 (wrap64 (x6_1 + 1)) (⟨#[82]⟩ : BA) false 250 t158 (⟨#[73]⟩ : BA) false 250 t161 (⟨#[66]⟩ : BA) false 250 t164 (⟨#[77]⟩ : BA) false 600 t167 (⟨#[83]⟩ : BA) true 250)))) = some r := by first | (rw [hji24] at H; exact H) | (simp only [hji24] at H ⊢; exact H)
    (try rw [hji24] at A22)
    (try rw [hji24] at A23)
    (try (have hji24l : 0 ≤ ji24 := by (rw [← hji24]; unfold mx; (repeat' split) <;> omega)))
    (try (have hji24m : 0 ≤ ji24 := by omega))
    have hji24_ : (if (wrap64 (t157 - 20)) < 0 then 0 else (wrap64 (t157 - 20))) = ji24 := hji24
    replace H := Option.bind_eq_some_iff.mp H
    obtain ⟨t161, A250, H⟩ := H
    replace H : ((frisketref07_put.f k1 x152003_1 (strOfNums y154) (wrap64 (t157 + 50))).bind fun t164 => ((frisketref07_put.f k1 x153003_1 (strOfNums y154) 600).bind fun t167 => (frisketref07_Standard.l0 k1 (wrap64 (x6_1 + 1)) (⟨#[82]⟩ : BA) false 250 t158 (⟨#[73]⟩ : BA) false 250 t161 (⟨#[66]⟩ : BA) false 250 t164 (⟨#[77]⟩ : BA) false 600 t167 (⟨#[83]⟩ : BA) true 250))) = some r := H
    have A25 := Aside0.mk A250
    clear A250
    replace H := Option.bind_eq_some_iff.mp H
    obtain ⟨t164, A260, H⟩ := H
    replace H : ((frisketref07_put.f k1 x153003_1 (strOfNums y154) 600).bind fun t167 => (frisketref07_Standard.l0 k1 (wrap64 (x6_1 + 1)) (⟨#[82]⟩ : BA) false 250 t158 (⟨#[73]⟩ : BA) false 250 t161 (⟨#[66]⟩ : BA) false 250 t164 (⟨#[77]⟩ : BA) false 600 t167 (⟨#[83]⟩ : BA) true 250)) = some r := H
    have A26 := Aside0.mk A260
    clear A260
    replace H := Option.bind_eq_some_iff.mp H
    obtain ⟨t167, A270, H⟩ := H
    replace H : (frisketref07_Standard.l0 k1 (wrap64 (x6_1 + 1)) (⟨#[82]⟩ : BA) false 250 t158 (⟨#[73]⟩ : BA) false 250 t161 (⟨#[66]⟩ : BA) false 250 t164 (⟨#[77]⟩ : BA) false 600 t167 (⟨#[83]⟩ : BA) true 250) = some r := H
    have A27 := Aside0.mk A270
    clear A270
    have H' := Aside0.mk H
    clear H
    try go_wp2
    have n0_ := Aside0.mk (Kd.R_drew HO_150003.out)
    have n1_ := Aside0.mk (Kd.R_drew HO_151003.out)
    have n2_ := Aside0.mk (Kd.R_drew HO_152003.out)
    have n3_ := Aside0.mk (Kd.R_drew HO_153003.out)
    have n4_ := Aside0.mk (blk_drew BK149.out)
    have n5_ := Aside0.mk (blk_drew BK150.out)
    have n6_ := Aside0.mk (blk_drew BK151.out)
    have n7_ := Aside0.mk (blk_drew BK152.out)
    have n8_ := Aside0.mk (blk_drew BK153.out)
    have n9_ := Aside0.mk (below_drew1 HB.out)
    clear HO_150003 HO_151003 HO_152003 HO_153003 BK149 BK150 BK151 BK152 BK153 HB
    have HO_150003 := n0_
    have HO_151003 := n1_
    have HO_152003 := n2_
    have HO_153003 := n3_
    have BK149 := n4_
    have BK150 := n5_
    have BK151 := n6_
    have BK152 := n7_
    have BK153 := n8_
    have HB := n9_
    clear n0_ n1_ n2_ n3_ n4_ n5_ n6_ n7_ n8_ n9_
    refine start_ (n := 9) (S := fun w' => True) (ds := []) #[false, false, false, false, false, false, false, false, false] (by kernel_rfl) rfl rfl trivial (fun hHeld => ?_); refine with_tabW frisketref07_Standard.tab5 frisketref07_Standard.bits5 (fun HT_ HW_ => ?_)
    generalize wr.drew = w28 at HO_150003 HO_151003 HO_152003 HO_153003 BK149 BK150 BK151 BK152 BK153 HB hHeld ⊢
    refine puS 0 (some 22) HT_ ?_
    refine puS 1 (some 23) HT_ ?_
    refine puS 4 (some 26) HT_ ?_
    refine puS 5 (some 27) HT_ ?_
    refine join_ (σ := Value) 2 #[true, true, true, true, true, true, true, false, false] (fun s_ => [(24, s_), (25, .string (strOfNums y154)), (28, .int .i64 t157)]) (fun s_ w' => (Kd.R (Kd.int .u8) 5 w' w.heap.size (fun k_ => (w.heap.size ≤ k_)) s_ y154) ∧ (Kd.R k81 81 w' w.heap.size (fun k_ => (w.heap.size ≤ k_) ∧ some k_ ≠ (u151003 : Value).ownBlock ∧ some k_ ≠ (u152003 : Value).ownBlock ∧ some k_ ≠ (u153003 : Value).ownBlock) u150003 x150003_1) ∧ (Kd.R k81 81 w' w.heap.size (fun k_ => (w.heap.size ≤ k_) ∧ some k_ ≠ (u150003 : Value).ownBlock ∧ some k_ ≠ (u152003 : Value).ownBlock ∧ some k_ ≠ (u153003 : Value).ownBlock) u151003 x151003_1) ∧ (Kd.R k81 81 w' w.heap.size (fun k_ => (w.heap.size ≤ k_) ∧ some k_ ≠ (u150003 : Value).ownBlock ∧ some k_ ≠ (u151003 : Value).ownBlock ∧ some k_ ≠ (u153003 : Value).ownBlock) u152003 x152003_1) ∧ (Kd.R k81 81 w' w.heap.size (fun k_ => (w.heap.size ≤ k_) ∧ some k_ ≠ (u150003 : Value).ownBlock ∧ some k_ ≠ (u151003 : Value).ownBlock ∧ some k_ ≠ (u152003 : Value).ownBlock) u153003 x153003_1) ∧ (w'.heap[gb149]? = some (.cells #[.string (⟨#[82]⟩ : BA), .bool false, .int .i64 250, u150003, .slice none 0 0, .slice none 0 0] 44 (0, 0))) ∧ (w'.heap[gb150]? = some (.cells #[.string (⟨#[73]⟩ : BA), .bool false, .int .i64 250, u151003, .slice none 0 0, .slice none 0 0] 44 (0, 0))) ∧ (w'.heap[gb151]? = some (.cells #[.string (⟨#[66]⟩ : BA), .bool false, .int .i64 250, u152003, .slice none 0 0, .slice none 0 0] 44 (0, 0))) ∧ (w'.heap[gb152]? = some (.cells #[.string (⟨#[77]⟩ : BA), .bool false, .int .i64 600, u153003, .slice none 0 0, .slice none 0 0] 44 (0, 0))) ∧ (w'.heap[gb153]? = some (.cells #[.string (⟨#[83]⟩ : BA), .bool true, .int .i64 250, .slice none 0 0, .slice none 0 0, .slice none 0 0] 44 (0, 0))) ∧ (Below w.heap.size w w')) ?_ ?_
    rotate_left
    ·intro hCont
     refine two_ (i := 2) (j := 6) (Ni := some 24) (Nj := some 28) #[true, true, true, false, true, true, false, false, false] #[true, true, false, false, true, true, true, false, false] rfl rfl rfl rfl (two_of HT_.out (by kernel_rfl)) (by decide) (by decide) (fun K hK => ?_) (fun K hK => ?_)
     ·skip
      refine Kd.R_lit_step (Kd.int .u8) _ 5 ?hg (N := 24) ?hd (xs := ([(x6_1) % 256] : List Int)) (inner := [.int .u8 ((x6_1) % 256)]) (ok := fun _ => True) (okp := fun _ => True) ?hr ?hp (fun _ hk => hk) trivial (Below.refl _ _) (Nat.le_refl _) (by simp) ?_; (case hd => rfl); (case hg => rfl); (case hr => first | (go_simp; done) | (go_simp; rfl)); (case hp => exact (Reps.one (show Kd.M (Kd.int .u8) _ _ _ ((x6_1) % 256) [.int .u8 ((x6_1) % 256)] from rfl) (Reps.none _ _)))
      intro v155 w29 ho30 hb hg_ hnew_
      clear hg_ hnew_
      (first | rw [← Ny154.out] at ho30 | (simp only [Int.reduceToNat] at ho30; rw [← Ny154.out] at ho30))
      have n0_ := Aside0.mk (Kd.R_below (rkS HO_150003.out) hb)
      have n1_ := Aside0.mk (Kd.R_below (rkS HO_151003.out) hb)
      have n2_ := Aside0.mk (Kd.R_below (rkS HO_152003.out) hb)
      have n3_ := Aside0.mk (Kd.R_below (rkS HO_153003.out) hb)
      have n4_ := Aside0.mk (Kd.R_lower (Kd.R_newM (M := fun k_ => (w.heap.size ≤ k_)) ho30 (below_size (by repeat (first | (with_reducible first | exact HB.out | apply below_alloc | apply pw_below_drewN | apply below_drew1 | refine below_set ?_ GE149.out | refine below_set ?_ GE150.out | refine below_set ?_ GE151.out | refine below_set ?_ GE152.out | refine below_set ?_ GE153.out) | exact HB.out))) (fun k_ h_ => h_)) (below_size (by repeat (first | (with_reducible first | exact HB.out | apply below_alloc | apply pw_below_drewN | apply below_drew1 | refine below_set ?_ GE149.out | refine below_set ?_ GE150.out | refine below_set ?_ GE151.out | refine below_set ?_ GE152.out | refine below_set ?_ GE153.out) | exact HB.out))))
      have n5_ := Aside0.mk (blk_below (g := gb149) (o := .cells #[.string (⟨#[82]⟩ : BA), .bool false, .int .i64 250, u150003, .slice none 0 0, .slice none 0 0] 44 (0, 0)) (bkS BK149.out) hb)
      have n6_ := Aside0.mk (blk_below (g := gb150) (o := .cells #[.string (⟨#[73]⟩ : BA), .bool false, .int .i64 250, u151003, .slice none 0 0, .slice none 0 0] 44 (0, 0)) (bkS BK150.out) hb)
      have n7_ := Aside0.mk (blk_below (g := gb151) (o := .cells #[.string (⟨#[66]⟩ : BA), .bool false, .int .i64 250, u152003, .slice none 0 0, .slice none 0 0] 44 (0, 0)) (bkS BK151.out) hb)
      have n8_ := Aside0.mk (blk_below (g := gb152) (o := .cells #[.string (⟨#[77]⟩ : BA), .bool false, .int .i64 600, u153003, .slice none 0 0, .slice none 0 0] 44 (0, 0)) (bkS BK152.out) hb)
      have n9_ := Aside0.mk (blk_below (g := gb153) (o := .cells #[.string (⟨#[83]⟩ : BA), .bool true, .int .i64 250, .slice none 0 0, .slice none 0 0, .slice none 0 0] 44 (0, 0)) (bkS BK153.out) hb)
      have n10_ := Aside0.mk (below_step (by repeat (first | (with_reducible first | exact HB.out | apply below_alloc | apply pw_below_drewN | apply below_drew1 | refine below_set ?_ GE149.out | refine below_set ?_ GE150.out | refine below_set ?_ GE151.out | refine below_set ?_ GE152.out | refine below_set ?_ GE153.out) | exact HB.out)) hb)
      clear HO_150003 HO_151003 HO_152003 HO_153003 BK149 BK150 BK151 BK152 BK153 HB
      have HO_150003 := n0_
      have HO_151003 := n1_
      have HO_152003 := n2_
      have HO_153003 := n3_
      have HO156 := n4_
      have BK149 := n5_
      have BK150 := n6_
      have BK151 := n7_
      have BK152 := n8_
      have BK153 := n9_
      have HB := n10_
      clear n0_ n1_ n2_ n3_ n4_ n5_ n6_ n7_ n8_ n9_ n10_ hb ho30
      refine hK.out _ _ trivial (fun hHeld => ?_)
      clear hK K
      refine noS (some 24) ?_
      refine two_ (i := 3) (j := 6) (Ni := some 25) (Nj := some 28) #[true, true, true, true, true, true, false, false, false] #[true, true, true, false, true, true, true, false, false] rfl rfl rfl rfl (two_of HT_.out (by kernel_rfl)) (by decide) (by decide) (fun K hK => ?_) (fun K hK => ?_)
      ·skip
       have hcv31 := own_string (P := Tryz.prog) Tryz.underlying66 Tryz.underlying5 Tryz.underlying9 (Kd.own_of_R HO156.out)
       refine vaS ?_
       clear hcv31
       refine hK.out _ _ trivial (fun hHeld => ?_)
       clear hK K
       refine noS (some 25) ?_
       refine onS 6 (some 28) HT_ (fun K hK => ?_)
       refine goes_ Tryz.func37 (by kernel_rfl) rfl #[.int .u8 ((x6_1) % 256)] (by rfl) rfl rfl (by (try simp only [List.map_toArray, List.map_cons, List.map_nil]); first | done | rfl | (simp only [List.length_drop, List.length_take]; rfl)) ?_
       with_reducible refine (frisketref07_roman.calls k1 ((x6_1) % 256) t157 _ A22.out).mono ?_
       rintro e w' ⟨rfl, ⟨nd, rfl⟩⟩
       refine ⟨_, rfl, ?_⟩
       refine hK.out _ _ trivial (fun hHeld => ?_)
       clear hK K
       refine noS (some 28) ?_
       exact norm_ (by simp only [putAll, Act.put, List.setIfInBounds_toArray, List.set_cons_zero, List.set_cons_succ]) (hCont (v155) _ ⟨(rkS (Kd.R_mono HO156.out (fun _ hk => hk.1))), (rkS HO_150003.out), (rkS HO_151003.out), (rkS HO_152003.out), (rkS HO_153003.out), (bkS BK149.out), (bkS BK150.out), (bkS BK151.out), (bkS BK152.out), (bkS BK153.out), (by repeat (first | (with_reducible first | exact HB.out | apply below_alloc | apply pw_below_drewN | apply below_drew1 | refine below_set ?_ GE149.out | refine below_set ?_ GE150.out | refine below_set ?_ GE151.out | refine below_set ?_ GE152.out | refine below_set ?_ GE153.out) | exact HB.out))⟩)
      ·skip
       refine goes_ Tryz.func37 (by kernel_rfl) rfl #[.int .u8 ((x6_1) % 256)] (by rfl) rfl rfl (by (try simp only [List.map_toArray, List.map_cons, List.map_nil]); first | done | rfl | (simp only [List.length_drop, List.length_take]; rfl)) ?_
       with_reducible refine (frisketref07_roman.calls k1 ((x6_1) % 256) t157 _ A22.out).mono ?_
       rintro e w' ⟨rfl, ⟨nd, rfl⟩⟩
       refine ⟨_, rfl, ?_⟩
       refine hK.out _ _ trivial (fun hHeld => ?_)
       clear hK K
       refine noS (some 28) ?_
       refine onS 3 (some 25) HT_ (fun K hK => ?_)
       have hcv31 := own_string (P := Tryz.prog) Tryz.underlying66 Tryz.underlying5 Tryz.underlying9 (Kd.own_of_R (Kd.R_drewN HO156.out nd))
       refine vaS ?_
       clear hcv31
       refine hK.out _ _ trivial (fun hHeld => ?_)
       clear hK K
       refine noS (some 25) ?_
       exact norm_ (by simp only [putAll, Act.put, List.setIfInBounds_toArray, List.set_cons_zero, List.set_cons_succ]) (hCont (v155) _ ⟨(rkS (Kd.R_mono HO156.out (fun _ hk => hk.1))), (rkS HO_150003.out), (rkS HO_151003.out), (rkS HO_152003.out), (rkS HO_153003.out), (bkS BK149.out), (bkS BK150.out), (bkS BK151.out), (bkS BK152.out), (bkS BK153.out), (by repeat (first | (with_reducible first | exact HB.out | apply below_alloc | apply pw_below_drewN | apply below_drew1 | refine below_set ?_ GE149.out | refine below_set ?_ GE150.out | refine below_set ?_ GE151.out | refine below_set ?_ GE152.out | refine below_set ?_ GE153.out) | exact HB.out))⟩)
     ·skip
      refine goes_ Tryz.func37 (by kernel_rfl) rfl #[.int .u8 ((x6_1) % 256)] (by rfl) rfl rfl (by (try simp only [List.map_toArray, List.map_cons, List.map_nil]); first | done | rfl | (simp only [List.length_drop, List.length_take]; rfl)) ?_
      with_reducible refine (frisketref07_roman.calls k1 ((x6_1) % 256) t157 _ A22.out).mono ?_
      rintro e w' ⟨rfl, ⟨nd, rfl⟩⟩
      refine ⟨_, rfl, ?_⟩
      refine hK.out _ _ trivial (fun hHeld => ?_)
      clear hK K
      refine noS (some 28) ?_
      refine onS 2 (some 24) HT_ (fun K hK => ?_)
      refine Kd.R_lit_step (Kd.int .u8) _ 5 ?hg (N := 24) ?hd (xs := ([(x6_1) % 256] : List Int)) (inner := [.int .u8 ((x6_1) % 256)]) (ok := fun _ => True) (okp := fun _ => True) ?hr ?hp (fun _ hk => hk) trivial (Below.refl _ _) (Nat.le_refl _) (by simp) ?_; (case hd => rfl); (case hg => rfl); (case hr => first | (go_simp; done) | (go_simp; rfl)); (case hp => exact (Reps.one (show Kd.M (Kd.int .u8) _ _ _ ((x6_1) % 256) [.int .u8 ((x6_1) % 256)] from rfl) (Reps.none _ _)))
      intro v155 w29 ho30 hb hg_ hnew_
      clear hg_ hnew_
      (first | rw [← Ny154.out] at ho30 | (simp only [Int.reduceToNat] at ho30; rw [← Ny154.out] at ho30))
      have n0_ := Aside0.mk (Kd.R_below (rkS HO_150003.out) hb)
      have n1_ := Aside0.mk (Kd.R_below (rkS HO_151003.out) hb)
      have n2_ := Aside0.mk (Kd.R_below (rkS HO_152003.out) hb)
      have n3_ := Aside0.mk (Kd.R_below (rkS HO_153003.out) hb)
      have n4_ := Aside0.mk (Kd.R_lower (Kd.R_newM (M := fun k_ => (w.heap.size ≤ k_)) ho30 (below_size (by repeat (first | (with_reducible first | exact HB.out | apply below_alloc | apply pw_below_drewN | apply below_drew1 | refine below_set ?_ GE149.out | refine below_set ?_ GE150.out | refine below_set ?_ GE151.out | refine below_set ?_ GE152.out | refine below_set ?_ GE153.out) | exact HB.out))) (fun k_ h_ => h_)) (below_size (by repeat (first | (with_reducible first | exact HB.out | apply below_alloc | apply pw_below_drewN | apply below_drew1 | refine below_set ?_ GE149.out | refine below_set ?_ GE150.out | refine below_set ?_ GE151.out | refine below_set ?_ GE152.out | refine below_set ?_ GE153.out) | exact HB.out))))
      have n5_ := Aside0.mk (blk_below (g := gb149) (o := .cells #[.string (⟨#[82]⟩ : BA), .bool false, .int .i64 250, u150003, .slice none 0 0, .slice none 0 0] 44 (0, 0)) (bkS BK149.out) hb)
      have n6_ := Aside0.mk (blk_below (g := gb150) (o := .cells #[.string (⟨#[73]⟩ : BA), .bool false, .int .i64 250, u151003, .slice none 0 0, .slice none 0 0] 44 (0, 0)) (bkS BK150.out) hb)
      have n7_ := Aside0.mk (blk_below (g := gb151) (o := .cells #[.string (⟨#[66]⟩ : BA), .bool false, .int .i64 250, u152003, .slice none 0 0, .slice none 0 0] 44 (0, 0)) (bkS BK151.out) hb)
      have n8_ := Aside0.mk (blk_below (g := gb152) (o := .cells #[.string (⟨#[77]⟩ : BA), .bool false, .int .i64 600, u153003, .slice none 0 0, .slice none 0 0] 44 (0, 0)) (bkS BK152.out) hb)
      have n9_ := Aside0.mk (blk_below (g := gb153) (o := .cells #[.string (⟨#[83]⟩ : BA), .bool true, .int .i64 250, .slice none 0 0, .slice none 0 0, .slice none 0 0] 44 (0, 0)) (bkS BK153.out) hb)
      have n10_ := Aside0.mk (below_step (by repeat (first | (with_reducible first | exact HB.out | apply below_alloc | apply pw_below_drewN | apply below_drew1 | refine below_set ?_ GE149.out | refine below_set ?_ GE150.out | refine below_set ?_ GE151.out | refine below_set ?_ GE152.out | refine below_set ?_ GE153.out) | exact HB.out)) hb)
      clear HO_150003 HO_151003 HO_152003 HO_153003 BK149 BK150 BK151 BK152 BK153 HB
      have HO_150003 := n0_
      have HO_151003 := n1_
      have HO_152003 := n2_
      have HO_153003 := n3_
      have HO156 := n4_
      have BK149 := n5_
      have BK150 := n6_
      have BK151 := n7_
      have BK152 := n8_
      have BK153 := n9_
      have HB := n10_
      clear n0_ n1_ n2_ n3_ n4_ n5_ n6_ n7_ n8_ n9_ n10_ hb ho30
      refine hK.out _ _ trivial (fun hHeld => ?_)
      clear hK K
      refine noS (some 24) ?_
      refine onS 3 (some 25) HT_ (fun K hK => ?_)
      have hcv31 := own_string (P := Tryz.prog) Tryz.underlying66 Tryz.underlying5 Tryz.underlying9 (Kd.own_of_R HO156.out)
      refine vaS ?_
      clear hcv31
      refine hK.out _ _ trivial (fun hHeld => ?_)
      clear hK K
      refine noS (some 25) ?_
      exact norm_ (by simp only [putAll, Act.put, List.setIfInBounds_toArray, List.set_cons_zero, List.set_cons_succ]) (hCont (v155) _ ⟨(rkS (Kd.R_mono HO156.out (fun _ hk => hk.1))), (rkS HO_150003.out), (rkS HO_151003.out), (rkS HO_152003.out), (rkS HO_153003.out), (bkS BK149.out), (bkS BK150.out), (bkS BK151.out), (bkS BK152.out), (bkS BK153.out), (by repeat (first | (with_reducible first | exact HB.out | apply below_alloc | apply pw_below_drewN | apply below_drew1 | refine below_set ?_ GE149.out | refine below_set ?_ GE150.out | refine below_set ?_ GE151.out | refine below_set ?_ GE152.out | refine below_set ?_ GE153.out) | exact HB.out))⟩)
    rintro v155 w32 ⟨h0_, h1_, h2_, h3_, h4_, h5_, h6_, h7_, h8_, h9_, h10_⟩
    have n0_ : Aside0 (Kd.R (Kd.int .u8) 5 w32 w.heap.size (fun k_ => (w.heap.size ≤ k_)) v155 y154) := ⟨h0_⟩
    have n1_ : Aside0 (Kd.R k81 81 w32 w.heap.size (fun k_ => (w.heap.size ≤ k_) ∧ some k_ ≠ (u151003 : Value).ownBlock ∧ some k_ ≠ (u152003 : Value).ownBlock ∧ some k_ ≠ (u153003 : Value).ownBlock) u150003 x150003_1) := ⟨h1_⟩
    have n2_ : Aside0 (Kd.R k81 81 w32 w.heap.size (fun k_ => (w.heap.size ≤ k_) ∧ some k_ ≠ (u150003 : Value).ownBlock ∧ some k_ ≠ (u152003 : Value).ownBlock ∧ some k_ ≠ (u153003 : Value).ownBlock) u151003 x151003_1) := ⟨h2_⟩
    have n3_ : Aside0 (Kd.R k81 81 w32 w.heap.size (fun k_ => (w.heap.size ≤ k_) ∧ some k_ ≠ (u150003 : Value).ownBlock ∧ some k_ ≠ (u151003 : Value).ownBlock ∧ some k_ ≠ (u153003 : Value).ownBlock) u152003 x152003_1) := ⟨h3_⟩
    have n4_ : Aside0 (Kd.R k81 81 w32 w.heap.size (fun k_ => (w.heap.size ≤ k_) ∧ some k_ ≠ (u150003 : Value).ownBlock ∧ some k_ ≠ (u151003 : Value).ownBlock ∧ some k_ ≠ (u152003 : Value).ownBlock) u153003 x153003_1) := ⟨h4_⟩
    have n5_ : Aside0 (w32.heap[gb149]? = some (.cells #[.string (⟨#[82]⟩ : BA), .bool false, .int .i64 250, u150003, .slice none 0 0, .slice none 0 0] 44 (0, 0))) := ⟨h5_⟩
    have n6_ : Aside0 (w32.heap[gb150]? = some (.cells #[.string (⟨#[73]⟩ : BA), .bool false, .int .i64 250, u151003, .slice none 0 0, .slice none 0 0] 44 (0, 0))) := ⟨h6_⟩
    have n7_ : Aside0 (w32.heap[gb151]? = some (.cells #[.string (⟨#[66]⟩ : BA), .bool false, .int .i64 250, u152003, .slice none 0 0, .slice none 0 0] 44 (0, 0))) := ⟨h7_⟩
    have n8_ : Aside0 (w32.heap[gb152]? = some (.cells #[.string (⟨#[77]⟩ : BA), .bool false, .int .i64 600, u153003, .slice none 0 0, .slice none 0 0] 44 (0, 0))) := ⟨h8_⟩
    have n9_ : Aside0 (w32.heap[gb153]? = some (.cells #[.string (⟨#[83]⟩ : BA), .bool true, .int .i64 250, .slice none 0 0, .slice none 0 0, .slice none 0 0] 44 (0, 0))) := ⟨h9_⟩
    have n10_ : Aside0 (Below w.heap.size w w32) := ⟨h10_⟩
    clear HO_150003 HO_151003 HO_152003 HO_153003 BK149 BK150 BK151 BK152 BK153 HB h0_ h1_ h2_ h3_ h4_ h5_ h6_ h7_ h8_ h9_ h10_
    have HO156 := n0_
    have HO_150003 := n1_
    have HO_151003 := n2_
    have HO_152003 := n3_
    have HO_153003 := n4_
    have BK149 := n5_
    have BK150 := n6_
    have BK151 := n7_
    have BK152 := n8_
    have BK153 := n9_
    have HB := n10_
    clear n0_ n1_ n2_ n3_ n4_ n5_ n6_ n7_ n8_ n9_ n10_
    have hHeld := trivial
    refine norm_ (a' := ?_) ?_ ?_
    rotate_left
    ·simp only [putAll, Act.put, List.setIfInBounds_toArray, List.set_cons_zero, List.set_cons_succ]
     rfl
    refine puS 7 (some 7) HT_ ?_
    refine puS 8 (some 8) HT_ ?_
    refine done_ (done_of HT_.out (by kernel_rfl)) ?_
    have hnb33 := NB149_150.out
    have hnc33 := NB150_149.out
    have hnb34 := NB149_151.out
    have hnc34 := NB151_149.out
    have hnb35 := NB149_152.out
    have hnc35 := NB152_149.out
    have hnb36 := NB149_153.out
    have hnc36 := NB153_149.out
    have hcz37_0 : w32.cell? ⟨gb149, 0, none⟩ = some (.string (⟨#[82]⟩ : BA)) := (blk_cell BK149.out 0).trans rfl
    have hcz37_1 : w32.cell? ⟨gb149, 1, none⟩ = some (.bool false) := (blk_cell BK149.out 1).trans rfl
    have hcz37_2 : w32.cell? ⟨gb149, 2, none⟩ = some (.int .i64 250) := (blk_cell BK149.out 2).trans rfl
    have hcz37_3 : w32.cell? ⟨gb149, 3, none⟩ = some (u150003) := (blk_cell BK149.out 3).trans rfl
    have hcz37_4 : w32.cell? ⟨gb149, 4, none⟩ = some (.slice none 0 0) := (blk_cell BK149.out 4).trans rfl
    have hcz37_5 : w32.cell? ⟨gb149, 5, none⟩ = some (.slice none 0 0) := (blk_cell BK149.out 5).trans rfl
    have hfz37_0 := blk_frozen BK149.out 0
    have hfz37_1 := blk_frozen BK149.out 1
    have hfz37_2 := blk_frozen BK149.out 2
    have hfz37_3 := blk_frozen BK149.out 3
    have hfz37_4 := blk_frozen BK149.out 4
    have hfz37_5 := blk_frozen BK149.out 5
    obtain ⟨Ao38, co38, eo38⟩ := Kd.R_slice HO_150003.out
    subst eo38
    try go_wp2_with (first | ((with_reducible refine gate_callee (f := 38) rfl ?_); refine goesL_ (some 34) rfl rfl Tryz.func38 (by kernel_rfl) rfl #[.slice Ao38 x150003_1.length co38, .agg #[.string (strOfNums y154), .int .i64 t157]] rfl (by (try simp only [List.map_toArray, List.map_cons, List.map_nil]); first | done | rfl | (simp only [List.length_drop, List.length_take]; rfl)) ?_; (with_reducible refine (frisketref07_put.calls k1 _ _ x150003_1 (strOfNums y154) t157 t158 _ ?side1 ?side2 A23.out).mono ?_); (case side1 => repeat (first | exact (Kd.R_reads' HO_150003.out).2.2 | (with_reducible refine Kd.C_alloc ?_ _) | (with_reducible refine Kd.C_drewN ?_ _) | (with_reducible refine Kd.C_drew ?_))); (case side2 => exact (Kd.R_reads' HO_150003.out).2.1); rintro e w39 ⟨v159, rfl, ho0, hb⟩; refine ⟨_, rfl, ?_⟩; have n0_ := Aside0.mk (Kd.R_elder' (rkS HO_150003.out) (Kd.R_base ho0) hb); have n1_ := Aside0.mk (Kd.R_elder' (rkS HO_151003.out) (Kd.R_base ho0) hb); have n2_ := Aside0.mk (Kd.R_elder' (rkS HO_152003.out) (Kd.R_base ho0) hb); have n3_ := Aside0.mk (Kd.R_elder' (rkS HO_153003.out) (Kd.R_base ho0) hb); have n4_ := Aside0.mk (Kd.R_below (rkS HO156.out) hb); have n5_ := Aside0.mk (Kd.R_lower (Kd.R_new' (Kd.R_new' (Kd.R_new' (Kd.R_new' (Kd.R_newM (M := fun k_ => (w.heap.size ≤ k_)) ho0 (below_size (by repeat (first | (with_reducible first | exact HB.out | apply below_alloc | apply pw_below_drewN | apply below_drew1 | refine below_set ?_ GE149.out | refine below_set ?_ GE150.out | refine below_set ?_ GE151.out | refine below_set ?_ GE152.out | refine below_set ?_ GE153.out) | exact HB.out))) (fun k_ h_ => h_)) (Kd.R_lt (rkS HO_150003.out))) (Kd.R_lt (rkS HO_151003.out))) (Kd.R_lt (rkS HO_152003.out))) (Kd.R_lt (rkS HO_153003.out))) (below_size (by repeat (first | (with_reducible first | exact HB.out | apply below_alloc | apply pw_below_drewN | apply below_drew1 | refine below_set ?_ GE149.out | refine below_set ?_ GE150.out | refine below_set ?_ GE151.out | refine below_set ?_ GE152.out | refine below_set ?_ GE153.out) | exact HB.out)))); have n6_ := Aside0.mk (blk_below (g := gb149) (o := .cells #[.string (⟨#[82]⟩ : BA), .bool false, .int .i64 250, .slice Ao38 x150003_1.length co38, .slice none 0 0, .slice none 0 0] 44 (0, 0)) (bkS BK149.out) hb); have n7_ := Aside0.mk (blk_below (g := gb150) (o := .cells #[.string (⟨#[73]⟩ : BA), .bool false, .int .i64 250, u151003, .slice none 0 0, .slice none 0 0] 44 (0, 0)) (bkS BK150.out) hb); have n8_ := Aside0.mk (blk_below (g := gb151) (o := .cells #[.string (⟨#[66]⟩ : BA), .bool false, .int .i64 250, u152003, .slice none 0 0, .slice none 0 0] 44 (0, 0)) (bkS BK151.out) hb); have n9_ := Aside0.mk (blk_below (g := gb152) (o := .cells #[.string (⟨#[77]⟩ : BA), .bool false, .int .i64 600, u153003, .slice none 0 0, .slice none 0 0] 44 (0, 0)) (bkS BK152.out) hb); have n10_ := Aside0.mk (blk_below (g := gb153) (o := .cells #[.string (⟨#[83]⟩ : BA), .bool true, .int .i64 250, .slice none 0 0, .slice none 0 0, .slice none 0 0] 44 (0, 0)) (bkS BK153.out) hb); have n11_ := Aside0.mk (below_step (by repeat (first | (with_reducible first | exact HB.out | apply below_alloc | apply pw_below_drewN | apply below_drew1 | refine below_set ?_ GE149.out | refine below_set ?_ GE150.out | refine below_set ?_ GE151.out | refine below_set ?_ GE152.out | refine below_set ?_ GE153.out) | exact HB.out)) hb); clear HO_150003; clear HO_151003; clear HO_152003; clear HO_153003; clear HO156; clear BK149; clear BK150; clear BK151; clear BK152; clear BK153; clear HB; have HO_150003 := n0_; have HO_151003 := n1_; have HO_152003 := n2_; have HO_153003 := n3_; have HO156 := n4_; have HO160 := n5_; have BK149 := n6_; have BK150 := n7_; have BK151 := n8_; have BK152 := n9_; have BK153 := n10_; have HB := n11_; clear n0_ n1_ n2_ n3_ n4_ n5_ n6_ n7_ n8_ n9_ n10_ n11_; (try clear hb); (try clear hb2); (try clear hk); (try clear hi); (try clear ho0); obtain ⟨Ao40, co40, eo40⟩ := Kd.R_slice HO160.out; subst eo40; have hcz41_0 : w39.cell? ⟨gb149, 0, none⟩ = some (.string (⟨#[82]⟩ : BA)) := (blk_cell BK149.out 0).trans rfl; have hcz41_1 : w39.cell? ⟨gb149, 1, none⟩ = some (.bool false) := (blk_cell BK149.out 1).trans rfl; have hcz41_2 : w39.cell? ⟨gb149, 2, none⟩ = some (.int .i64 250) := (blk_cell BK149.out 2).trans rfl; have hcz41_3 : w39.cell? ⟨gb149, 3, none⟩ = some (.slice Ao38 x150003_1.length co38) := (blk_cell BK149.out 3).trans rfl; have hcz41_4 : w39.cell? ⟨gb149, 4, none⟩ = some (.slice none 0 0) := (blk_cell BK149.out 4).trans rfl; have hcz41_5 : w39.cell? ⟨gb149, 5, none⟩ = some (.slice none 0 0) := (blk_cell BK149.out 5).trans rfl; have hfz41_0 := blk_frozen BK149.out 0; have hfz41_1 := blk_frozen BK149.out 1; have hfz41_2 := blk_frozen BK149.out 2; have hfz41_3 := blk_frozen BK149.out 3; have hfz41_4 := blk_frozen BK149.out 4; have hfz41_5 := blk_frozen BK149.out 5; have hnb42 := NB150_151.out; have hnc42 := NB151_150.out; have hnb43 := NB150_152.out; have hnc43 := NB152_150.out; have hnb44 := NB150_153.out; have hnc44 := NB153_150.out; have hcz45_0 : w39.cell? ⟨gb150, 0, none⟩ = some (.string (⟨#[73]⟩ : BA)) := (blk_cell BK150.out 0).trans rfl; have hcz45_1 : w39.cell? ⟨gb150, 1, none⟩ = some (.bool false) := (blk_cell BK150.out 1).trans rfl; have hcz45_2 : w39.cell? ⟨gb150, 2, none⟩ = some (.int .i64 250) := (blk_cell BK150.out 2).trans rfl; have hcz45_3 : w39.cell? ⟨gb150, 3, none⟩ = some (u151003) := (blk_cell BK150.out 3).trans rfl; have hcz45_4 : w39.cell? ⟨gb150, 4, none⟩ = some (.slice none 0 0) := (blk_cell BK150.out 4).trans rfl; have hcz45_5 : w39.cell? ⟨gb150, 5, none⟩ = some (.slice none 0 0) := (blk_cell BK150.out 5).trans rfl; have hfz45_0 := blk_frozen BK150.out 0; have hfz45_1 := blk_frozen BK150.out 1; have hfz45_2 := blk_frozen BK150.out 2; have hfz45_3 := blk_frozen BK150.out 3; have hfz45_4 := blk_frozen BK150.out 4; have hfz45_5 := blk_frozen BK150.out 5; obtain ⟨Ao46, co46, eo46⟩ := Kd.R_slice HO_151003.out; subst eo46) | ((with_reducible refine gate_callee (f := 38) rfl ?_); refine goesL_ (some 43) rfl rfl Tryz.func38 (by kernel_rfl) rfl #[.slice Ao46 x151003_1.length co46, .agg #[.string (strOfNums y154), .int .i64 ji24]] rfl (by (try simp only [List.map_toArray, List.map_cons, List.map_nil]); first | done | (simp only [hji24]; rfl) | rfl | (simp only [List.length_drop, List.length_take]; rfl)) ?_; (with_reducible refine (frisketref07_put.calls k1 _ _ x151003_1 (strOfNums y154) ji24 t161 _ ?side1 ?side2 A25.out).mono ?_); (case side1 => refine (Kd.R_reads' (e := 81) (base := w.heap.size) (ok := fun k_ => (((w.heap.size ≤ k_) ∧ (some k_ ≠ (.slice Ao38 x150003_1.length co38 : Value).ownBlock ∧ (some k_ ≠ (u152003 : Value).ownBlock ∧ some k_ ≠ (u153003 : Value).ownBlock))) ∧ some k_ ≠ (.slice Ao40 t158.length co40 : Value).ownBlock)) (n := x151003_1.length) (c := co46) ?_).2.2; exact (rkS (Kd.R_mono (Kd.R_far (p := ⟨gb149, 3, none⟩) (Kd.R_types HO_151003.out BK149.out (by decide)) (fun _ hk => hk.2) (.slice Ao40 t158.length co40)) (fun _ h_ => h_.1)))); (case side2 => exact (Kd.R_reads' HO_151003.out).2.1); rintro e w47 ⟨v162, rfl, ho0, hb⟩; refine ⟨_, rfl, ?_⟩; have n0_ := Aside0.mk (Kd.R_elder' (rkS (Kd.R_mono (Kd.R_far (p := ⟨gb149, 3, none⟩) (Kd.R_types HO_150003.out BK149.out (by decide)) (fun _ hk => hk.2) (.slice Ao40 t158.length co40)) (fun _ h_ => h_.1))) (Kd.R_base ho0) hb); have n1_ := Aside0.mk (Kd.R_elder' (rkS (Kd.R_mono (Kd.R_far (p := ⟨gb149, 3, none⟩) (Kd.R_types HO_151003.out BK149.out (by decide)) (fun _ hk => hk.2) (.slice Ao40 t158.length co40)) (fun _ h_ => h_.1))) (Kd.R_base ho0) hb); have n2_ := Aside0.mk (Kd.R_elder' (rkS (Kd.R_mono (Kd.R_far (p := ⟨gb149, 3, none⟩) (Kd.R_types HO_152003.out BK149.out (by decide)) (fun _ hk => hk.2) (.slice Ao40 t158.length co40)) (fun _ h_ => h_.1))) (Kd.R_base ho0) hb); have n3_ := Aside0.mk (Kd.R_elder' (rkS (Kd.R_mono (Kd.R_far (p := ⟨gb149, 3, none⟩) (Kd.R_types HO_153003.out BK149.out (by decide)) (fun _ hk => hk.2) (.slice Ao40 t158.length co40)) (fun _ h_ => h_.1))) (Kd.R_base ho0) hb); have n4_ := Aside0.mk (Kd.R_below (rkS (Kd.R_mono (Kd.R_far (p := ⟨gb149, 3, none⟩) (Kd.R_types HO156.out BK149.out (by decide)) (fun _ hk => hk.2) (.slice Ao40 t158.length co40)) (fun _ h_ => h_.1))) hb); have n5_ := Aside0.mk (Kd.R_elder' (rkS (Kd.R_mono (Kd.R_far (p := ⟨gb149, 3, none⟩) (Kd.R_types HO160.out BK149.out (by decide)) (fun _ hk => hk.2) (.slice Ao40 t158.length co40)) (fun _ h_ => h_.1))) (Kd.R_base ho0) hb); have n6_ := Aside0.mk (Kd.R_lower (Kd.R_new' (Kd.R_new' (Kd.R_new' (Kd.R_new' (Kd.R_new' (Kd.R_newM (M := fun k_ => (w.heap.size ≤ k_)) ho0 (below_size (by repeat (first | (with_reducible first | exact HB.out | apply below_alloc | apply pw_below_drewN | apply below_drew1 | refine below_set ?_ GE149.out | refine below_set ?_ GE150.out | refine below_set ?_ GE151.out | refine below_set ?_ GE152.out | refine below_set ?_ GE153.out) | exact HB.out))) (fun k_ h_ => h_)) (Kd.R_lt (rkS (Kd.R_mono (Kd.R_far (p := ⟨gb149, 3, none⟩) (Kd.R_types HO_150003.out BK149.out (by decide)) (fun _ hk => hk.2) (.slice Ao40 t158.length co40)) (fun _ h_ => h_.1))))) (Kd.R_lt (rkS (Kd.R_mono (Kd.R_far (p := ⟨gb149, 3, none⟩) (Kd.R_types HO_151003.out BK149.out (by decide)) (fun _ hk => hk.2) (.slice Ao40 t158.length co40)) (fun _ h_ => h_.1))))) (Kd.R_lt (rkS (Kd.R_mono (Kd.R_far (p := ⟨gb149, 3, none⟩) (Kd.R_types HO_152003.out BK149.out (by decide)) (fun _ hk => hk.2) (.slice Ao40 t158.length co40)) (fun _ h_ => h_.1))))) (Kd.R_lt (rkS (Kd.R_mono (Kd.R_far (p := ⟨gb149, 3, none⟩) (Kd.R_types HO_153003.out BK149.out (by decide)) (fun _ hk => hk.2) (.slice Ao40 t158.length co40)) (fun _ h_ => h_.1))))) (Kd.R_lt (rkS (Kd.R_mono (Kd.R_far (p := ⟨gb149, 3, none⟩) (Kd.R_types HO160.out BK149.out (by decide)) (fun _ hk => hk.2) (.slice Ao40 t158.length co40)) (fun _ h_ => h_.1))))) (below_size (by repeat (first | (with_reducible first | exact HB.out | apply below_alloc | apply pw_below_drewN | apply below_drew1 | refine below_set ?_ GE149.out | refine below_set ?_ GE150.out | refine below_set ?_ GE151.out | refine below_set ?_ GE152.out | refine below_set ?_ GE153.out) | exact HB.out)))); have n7_ := Aside0.mk (blk_below (g := gb149) (o := .cells #[.string (⟨#[82]⟩ : BA), .bool false, .int .i64 250, .slice Ao40 t158.length co40, .slice none 0 0, .slice none 0 0] 44 (0, 0)) (by (with_reducible repeat (first | refine blk_drewN ?_ _ | refine blk_drew ?_ | refine blk_alloc ?_ _)); refine blk_put (cs := #[.string (⟨#[82]⟩ : BA), .bool false, .int .i64 250, .slice Ao38 x150003_1.length co38, .slice none 0 0, .slice none 0 0]) ?_ 3 _ rfl; (with_reducible repeat (first | refine blk_drewN ?_ _ | refine blk_drew ?_ | refine blk_alloc ?_ _)); exact BK149.out) hb); have n8_ := Aside0.mk (blk_below (g := gb150) (o := .cells #[.string (⟨#[73]⟩ : BA), .bool false, .int .i64 250, .slice Ao46 x151003_1.length co46, .slice none 0 0, .slice none 0 0] 44 (0, 0)) (by (with_reducible repeat (first | refine blk_drewN ?_ _ | refine blk_drew ?_ | refine blk_alloc ?_ _)); refine blk_far ?_ NB150_149.out _; (with_reducible repeat (first | refine blk_drewN ?_ _ | refine blk_drew ?_ | refine blk_alloc ?_ _)); exact BK150.out) hb); have n9_ := Aside0.mk (blk_below (g := gb151) (o := .cells #[.string (⟨#[66]⟩ : BA), .bool false, .int .i64 250, u152003, .slice none 0 0, .slice none 0 0] 44 (0, 0)) (by (with_reducible repeat (first | refine blk_drewN ?_ _ | refine blk_drew ?_ | refine blk_alloc ?_ _)); refine blk_far ?_ NB151_149.out _; (with_reducible repeat (first | refine blk_drewN ?_ _ | refine blk_drew ?_ | refine blk_alloc ?_ _)); exact BK151.out) hb); have n10_ := Aside0.mk (blk_below (g := gb152) (o := .cells #[.string (⟨#[77]⟩ : BA), .bool false, .int .i64 600, u153003, .slice none 0 0, .slice none 0 0] 44 (0, 0)) (by (with_reducible repeat (first | refine blk_drewN ?_ _ | refine blk_drew ?_ | refine blk_alloc ?_ _)); refine blk_far ?_ NB152_149.out _; (with_reducible repeat (first | refine blk_drewN ?_ _ | refine blk_drew ?_ | refine blk_alloc ?_ _)); exact BK152.out) hb); have n11_ := Aside0.mk (blk_below (g := gb153) (o := .cells #[.string (⟨#[83]⟩ : BA), .bool true, .int .i64 250, .slice none 0 0, .slice none 0 0, .slice none 0 0] 44 (0, 0)) (by (with_reducible repeat (first | refine blk_drewN ?_ _ | refine blk_drew ?_ | refine blk_alloc ?_ _)); refine blk_far ?_ NB153_149.out _; (with_reducible repeat (first | refine blk_drewN ?_ _ | refine blk_drew ?_ | refine blk_alloc ?_ _)); exact BK153.out) hb); have n12_ := Aside0.mk (below_step (by repeat (first | (with_reducible first | exact HB.out | apply below_alloc | apply pw_below_drewN | apply below_drew1 | refine below_set ?_ GE149.out | refine below_set ?_ GE150.out | refine below_set ?_ GE151.out | refine below_set ?_ GE152.out | refine below_set ?_ GE153.out) | exact HB.out)) hb); clear HO_150003; clear HO_151003; clear HO_152003; clear HO_153003; clear HO156; clear HO160; clear BK149; clear BK150; clear BK151; clear BK152; clear BK153; clear HB; have HO_150003 := n0_; have HO_151003 := n1_; have HO_152003 := n2_; have HO_153003 := n3_; have HO156 := n4_; have HO160 := n5_; have HO163 := n6_; have BK149 := n7_; have BK150 := n8_; have BK151 := n9_; have BK152 := n10_; have BK153 := n11_; have HB := n12_; clear n0_ n1_ n2_ n3_ n4_ n5_ n6_ n7_ n8_ n9_ n10_ n11_ n12_; (try clear hb); (try clear hb2); (try clear hk); (try clear hi); (try clear ho0); obtain ⟨Ao48, co48, eo48⟩ := Kd.R_slice HO163.out; subst eo48; have hcz49_0 : w47.cell? ⟨gb150, 0, none⟩ = some (.string (⟨#[73]⟩ : BA)) := (blk_cell BK150.out 0).trans rfl; have hcz49_1 : w47.cell? ⟨gb150, 1, none⟩ = some (.bool false) := (blk_cell BK150.out 1).trans rfl; have hcz49_2 : w47.cell? ⟨gb150, 2, none⟩ = some (.int .i64 250) := (blk_cell BK150.out 2).trans rfl; have hcz49_3 : w47.cell? ⟨gb150, 3, none⟩ = some (.slice Ao46 x151003_1.length co46) := (blk_cell BK150.out 3).trans rfl; have hcz49_4 : w47.cell? ⟨gb150, 4, none⟩ = some (.slice none 0 0) := (blk_cell BK150.out 4).trans rfl; have hcz49_5 : w47.cell? ⟨gb150, 5, none⟩ = some (.slice none 0 0) := (blk_cell BK150.out 5).trans rfl; have hfz49_0 := blk_frozen BK150.out 0; have hfz49_1 := blk_frozen BK150.out 1; have hfz49_2 := blk_frozen BK150.out 2; have hfz49_3 := blk_frozen BK150.out 3; have hfz49_4 := blk_frozen BK150.out 4; have hfz49_5 := blk_frozen BK150.out 5; have hnb50 := NB151_152.out; have hnc50 := NB152_151.out; have hnb51 := NB151_153.out; have hnc51 := NB153_151.out; have hcz52_0 : w47.cell? ⟨gb151, 0, none⟩ = some (.string (⟨#[66]⟩ : BA)) := (blk_cell BK151.out 0).trans rfl; have hcz52_1 : w47.cell? ⟨gb151, 1, none⟩ = some (.bool false) := (blk_cell BK151.out 1).trans rfl; have hcz52_2 : w47.cell? ⟨gb151, 2, none⟩ = some (.int .i64 250) := (blk_cell BK151.out 2).trans rfl; have hcz52_3 : w47.cell? ⟨gb151, 3, none⟩ = some (u152003) := (blk_cell BK151.out 3).trans rfl; have hcz52_4 : w47.cell? ⟨gb151, 4, none⟩ = some (.slice none 0 0) := (blk_cell BK151.out 4).trans rfl; have hcz52_5 : w47.cell? ⟨gb151, 5, none⟩ = some (.slice none 0 0) := (blk_cell BK151.out 5).trans rfl; have hfz52_0 := blk_frozen BK151.out 0; have hfz52_1 := blk_frozen BK151.out 1; have hfz52_2 := blk_frozen BK151.out 2; have hfz52_3 := blk_frozen BK151.out 3; have hfz52_4 := blk_frozen BK151.out 4; have hfz52_5 := blk_frozen BK151.out 5; obtain ⟨Ao53, co53, eo53⟩ := Kd.R_slice HO_152003.out; subst eo53) | ((with_reducible refine gate_callee (f := 38) rfl ?_); refine goesL_ (some 51) rfl rfl Tryz.func38 (by kernel_rfl) rfl #[.slice Ao53 x152003_1.length co53, .agg #[.string (strOfNums y154), .int .i64 (wrap64 (t157 + 50))]] rfl (by (try simp only [List.map_toArray, List.map_cons, List.map_nil]); first | done | rfl | (simp only [List.length_drop, List.length_take]; rfl)) ?_; (with_reducible refine (frisketref07_put.calls k1 _ _ x152003_1 (strOfNums y154) (wrap64 (t157 + 50)) t164 _ ?side1 ?side2 A26.out).mono ?_); (case side1 => refine (Kd.R_reads' (e := 81) (base := w.heap.size) (ok := fun k_ => ((((w.heap.size ≤ k_) ∧ (some k_ ≠ (.slice Ao38 x150003_1.length co38 : Value).ownBlock ∧ (some k_ ≠ (.slice Ao46 x151003_1.length co46 : Value).ownBlock ∧ some k_ ≠ (u153003 : Value).ownBlock))) ∧ some k_ ≠ (.slice Ao40 t158.length co40 : Value).ownBlock) ∧ some k_ ≠ (.slice Ao48 t161.length co48 : Value).ownBlock)) (n := x152003_1.length) (c := co53) ?_).2.2; exact (rkS (Kd.R_mono (Kd.R_far (p := ⟨gb150, 3, none⟩) (Kd.R_types HO_152003.out BK150.out (by decide)) (fun _ hk => hk.2) (.slice Ao48 t161.length co48)) (fun _ h_ => h_.1)))); (case side2 => exact (Kd.R_reads' HO_152003.out).2.1); rintro e w54 ⟨v165, rfl, ho0, hb⟩; refine ⟨_, rfl, ?_⟩; have n0_ := Aside0.mk (Kd.R_elder' (rkS (Kd.R_mono (Kd.R_far (p := ⟨gb150, 3, none⟩) (Kd.R_types HO_150003.out BK150.out (by decide)) (fun _ hk => hk.2) (.slice Ao48 t161.length co48)) (fun _ h_ => h_.1))) (Kd.R_base ho0) hb); have n1_ := Aside0.mk (Kd.R_elder' (rkS (Kd.R_mono (Kd.R_far (p := ⟨gb150, 3, none⟩) (Kd.R_types HO_151003.out BK150.out (by decide)) (fun _ hk => hk.2) (.slice Ao48 t161.length co48)) (fun _ h_ => h_.1))) (Kd.R_base ho0) hb); have n2_ := Aside0.mk (Kd.R_elder' (rkS (Kd.R_mono (Kd.R_far (p := ⟨gb150, 3, none⟩) (Kd.R_types HO_152003.out BK150.out (by decide)) (fun _ hk => hk.2) (.slice Ao48 t161.length co48)) (fun _ h_ => h_.1))) (Kd.R_base ho0) hb); have n3_ := Aside0.mk (Kd.R_elder' (rkS (Kd.R_mono (Kd.R_far (p := ⟨gb150, 3, none⟩) (Kd.R_types HO_153003.out BK150.out (by decide)) (fun _ hk => hk.2) (.slice Ao48 t161.length co48)) (fun _ h_ => h_.1))) (Kd.R_base ho0) hb); have n4_ := Aside0.mk (Kd.R_below (rkS (Kd.R_mono (Kd.R_far (p := ⟨gb150, 3, none⟩) (Kd.R_types HO156.out BK150.out (by decide)) (fun _ hk => hk.2) (.slice Ao48 t161.length co48)) (fun _ h_ => h_.1))) hb); have n5_ := Aside0.mk (Kd.R_elder' (rkS (Kd.R_mono (Kd.R_far (p := ⟨gb150, 3, none⟩) (Kd.R_types HO160.out BK150.out (by decide)) (fun _ hk => hk.2) (.slice Ao48 t161.length co48)) (fun _ h_ => h_.1))) (Kd.R_base ho0) hb); have n6_ := Aside0.mk (Kd.R_elder' (rkS (Kd.R_mono (Kd.R_far (p := ⟨gb150, 3, none⟩) (Kd.R_types HO163.out BK150.out (by decide)) (fun _ hk => hk.2) (.slice Ao48 t161.length co48)) (fun _ h_ => h_.1))) (Kd.R_base ho0) hb); have n7_ := Aside0.mk (Kd.R_lower (Kd.R_new' (Kd.R_new' (Kd.R_new' (Kd.R_new' (Kd.R_new' (Kd.R_new' (Kd.R_newM (M := fun k_ => (w.heap.size ≤ k_)) ho0 (below_size (by repeat (first | (with_reducible first | exact HB.out | apply below_alloc | apply pw_below_drewN | apply below_drew1 | refine below_set ?_ GE149.out | refine below_set ?_ GE150.out | refine below_set ?_ GE151.out | refine below_set ?_ GE152.out | refine below_set ?_ GE153.out) | exact HB.out))) (fun k_ h_ => h_)) (Kd.R_lt (rkS (Kd.R_mono (Kd.R_far (p := ⟨gb150, 3, none⟩) (Kd.R_types HO_150003.out BK150.out (by decide)) (fun _ hk => hk.2) (.slice Ao48 t161.length co48)) (fun _ h_ => h_.1))))) (Kd.R_lt (rkS (Kd.R_mono (Kd.R_far (p := ⟨gb150, 3, none⟩) (Kd.R_types HO_151003.out BK150.out (by decide)) (fun _ hk => hk.2) (.slice Ao48 t161.length co48)) (fun _ h_ => h_.1))))) (Kd.R_lt (rkS (Kd.R_mono (Kd.R_far (p := ⟨gb150, 3, none⟩) (Kd.R_types HO_152003.out BK150.out (by decide)) (fun _ hk => hk.2) (.slice Ao48 t161.length co48)) (fun _ h_ => h_.1))))) (Kd.R_lt (rkS (Kd.R_mono (Kd.R_far (p := ⟨gb150, 3, none⟩) (Kd.R_types HO_153003.out BK150.out (by decide)) (fun _ hk => hk.2) (.slice Ao48 t161.length co48)) (fun _ h_ => h_.1))))) (Kd.R_lt (rkS (Kd.R_mono (Kd.R_far (p := ⟨gb150, 3, none⟩) (Kd.R_types HO160.out BK150.out (by decide)) (fun _ hk => hk.2) (.slice Ao48 t161.length co48)) (fun _ h_ => h_.1))))) (Kd.R_lt (rkS (Kd.R_mono (Kd.R_far (p := ⟨gb150, 3, none⟩) (Kd.R_types HO163.out BK150.out (by decide)) (fun _ hk => hk.2) (.slice Ao48 t161.length co48)) (fun _ h_ => h_.1))))) (below_size (by repeat (first | (with_reducible first | exact HB.out | apply below_alloc | apply pw_below_drewN | apply below_drew1 | refine below_set ?_ GE149.out | refine below_set ?_ GE150.out | refine below_set ?_ GE151.out | refine below_set ?_ GE152.out | refine below_set ?_ GE153.out) | exact HB.out)))); have n8_ := Aside0.mk (blk_below (g := gb149) (o := .cells #[.string (⟨#[82]⟩ : BA), .bool false, .int .i64 250, .slice Ao40 t158.length co40, .slice none 0 0, .slice none 0 0] 44 (0, 0)) (by (with_reducible repeat (first | refine blk_drewN ?_ _ | refine blk_drew ?_ | refine blk_alloc ?_ _)); refine blk_far ?_ NB149_150.out _; (with_reducible repeat (first | refine blk_drewN ?_ _ | refine blk_drew ?_ | refine blk_alloc ?_ _)); exact BK149.out) hb); have n9_ := Aside0.mk (blk_below (g := gb150) (o := .cells #[.string (⟨#[73]⟩ : BA), .bool false, .int .i64 250, .slice Ao48 t161.length co48, .slice none 0 0, .slice none 0 0] 44 (0, 0)) (by (with_reducible repeat (first | refine blk_drewN ?_ _ | refine blk_drew ?_ | refine blk_alloc ?_ _)); refine blk_put (cs := #[.string (⟨#[73]⟩ : BA), .bool false, .int .i64 250, .slice Ao46 x151003_1.length co46, .slice none 0 0, .slice none 0 0]) ?_ 3 _ rfl; (with_reducible repeat (first | refine blk_drewN ?_ _ | refine blk_drew ?_ | refine blk_alloc ?_ _)); exact BK150.out) hb); have n10_ := Aside0.mk (blk_below (g := gb151) (o := .cells #[.string (⟨#[66]⟩ : BA), .bool false, .int .i64 250, .slice Ao53 x152003_1.length co53, .slice none 0 0, .slice none 0 0] 44 (0, 0)) (by (with_reducible repeat (first | refine blk_drewN ?_ _ | refine blk_drew ?_ | refine blk_alloc ?_ _)); refine blk_far ?_ NB151_150.out _; (with_reducible repeat (first | refine blk_drewN ?_ _ | refine blk_drew ?_ | refine blk_alloc ?_ _)); exact BK151.out) hb); have n11_ := Aside0.mk (blk_below (g := gb152) (o := .cells #[.string (⟨#[77]⟩ : BA), .bool false, .int .i64 600, u153003, .slice none 0 0, .slice none 0 0] 44 (0, 0)) (by (with_reducible repeat (first | refine blk_drewN ?_ _ | refine blk_drew ?_ | refine blk_alloc ?_ _)); refine blk_far ?_ NB152_150.out _; (with_reducible repeat (first | refine blk_drewN ?_ _ | refine blk_drew ?_ | refine blk_alloc ?_ _)); exact BK152.out) hb); have n12_ := Aside0.mk (blk_below (g := gb153) (o := .cells #[.string (⟨#[83]⟩ : BA), .bool true, .int .i64 250, .slice none 0 0, .slice none 0 0, .slice none 0 0] 44 (0, 0)) (by (with_reducible repeat (first | refine blk_drewN ?_ _ | refine blk_drew ?_ | refine blk_alloc ?_ _)); refine blk_far ?_ NB153_150.out _; (with_reducible repeat (first | refine blk_drewN ?_ _ | refine blk_drew ?_ | refine blk_alloc ?_ _)); exact BK153.out) hb); have n13_ := Aside0.mk (below_step (by repeat (first | (with_reducible first | exact HB.out | apply below_alloc | apply pw_below_drewN | apply below_drew1 | refine below_set ?_ GE149.out | refine below_set ?_ GE150.out | refine below_set ?_ GE151.out | refine below_set ?_ GE152.out | refine below_set ?_ GE153.out) | exact HB.out)) hb); clear HO_150003; clear HO_151003; clear HO_152003; clear HO_153003; clear HO156; clear HO160; clear HO163; clear BK149; clear BK150; clear BK151; clear BK152; clear BK153; clear HB; have HO_150003 := n0_; have HO_151003 := n1_; have HO_152003 := n2_; have HO_153003 := n3_; have HO156 := n4_; have HO160 := n5_; have HO163 := n6_; have HO166 := n7_; have BK149 := n8_; have BK150 := n9_; have BK151 := n10_; have BK152 := n11_; have BK153 := n12_; have HB := n13_; clear n0_ n1_ n2_ n3_ n4_ n5_ n6_ n7_ n8_ n9_ n10_ n11_ n12_ n13_; (try clear hb); (try clear hb2); (try clear hk); (try clear hi); (try clear ho0); obtain ⟨Ao55, co55, eo55⟩ := Kd.R_slice HO166.out; subst eo55; have hcz56_0 : w54.cell? ⟨gb151, 0, none⟩ = some (.string (⟨#[66]⟩ : BA)) := (blk_cell BK151.out 0).trans rfl; have hcz56_1 : w54.cell? ⟨gb151, 1, none⟩ = some (.bool false) := (blk_cell BK151.out 1).trans rfl; have hcz56_2 : w54.cell? ⟨gb151, 2, none⟩ = some (.int .i64 250) := (blk_cell BK151.out 2).trans rfl; have hcz56_3 : w54.cell? ⟨gb151, 3, none⟩ = some (.slice Ao53 x152003_1.length co53) := (blk_cell BK151.out 3).trans rfl; have hcz56_4 : w54.cell? ⟨gb151, 4, none⟩ = some (.slice none 0 0) := (blk_cell BK151.out 4).trans rfl; have hcz56_5 : w54.cell? ⟨gb151, 5, none⟩ = some (.slice none 0 0) := (blk_cell BK151.out 5).trans rfl; have hfz56_0 := blk_frozen BK151.out 0; have hfz56_1 := blk_frozen BK151.out 1; have hfz56_2 := blk_frozen BK151.out 2; have hfz56_3 := blk_frozen BK151.out 3; have hfz56_4 := blk_frozen BK151.out 4; have hfz56_5 := blk_frozen BK151.out 5; have hnb57 := NB152_153.out; have hnc57 := NB153_152.out; have hcz58_0 : w54.cell? ⟨gb152, 0, none⟩ = some (.string (⟨#[77]⟩ : BA)) := (blk_cell BK152.out 0).trans rfl; have hcz58_1 : w54.cell? ⟨gb152, 1, none⟩ = some (.bool false) := (blk_cell BK152.out 1).trans rfl; have hcz58_2 : w54.cell? ⟨gb152, 2, none⟩ = some (.int .i64 600) := (blk_cell BK152.out 2).trans rfl; have hcz58_3 : w54.cell? ⟨gb152, 3, none⟩ = some (u153003) := (blk_cell BK152.out 3).trans rfl; have hcz58_4 : w54.cell? ⟨gb152, 4, none⟩ = some (.slice none 0 0) := (blk_cell BK152.out 4).trans rfl; have hcz58_5 : w54.cell? ⟨gb152, 5, none⟩ = some (.slice none 0 0) := (blk_cell BK152.out 5).trans rfl; have hfz58_0 := blk_frozen BK152.out 0; have hfz58_1 := blk_frozen BK152.out 1; have hfz58_2 := blk_frozen BK152.out 2; have hfz58_3 := blk_frozen BK152.out 3; have hfz58_4 := blk_frozen BK152.out 4; have hfz58_5 := blk_frozen BK152.out 5; obtain ⟨Ao59, co59, eo59⟩ := Kd.R_slice HO_153003.out; subst eo59) | ((with_reducible refine gate_callee (f := 38) rfl ?_); refine goesL_ (some 57) rfl rfl Tryz.func38 (by kernel_rfl) rfl #[.slice Ao59 x153003_1.length co59, .agg #[.string (strOfNums y154), .int .i64 600]] rfl (by (try simp only [List.map_toArray, List.map_cons, List.map_nil]); first | done | rfl | (simp only [List.length_drop, List.length_take]; rfl)) ?_; (with_reducible refine (frisketref07_put.calls k1 _ _ x153003_1 (strOfNums y154) 600 t167 _ ?side1 ?side2 A27.out).mono ?_); (case side1 => refine (Kd.R_reads' (e := 81) (base := w.heap.size) (ok := fun k_ => (((((w.heap.size ≤ k_) ∧ (some k_ ≠ (.slice Ao38 x150003_1.length co38 : Value).ownBlock ∧ (some k_ ≠ (.slice Ao46 x151003_1.length co46 : Value).ownBlock ∧ some k_ ≠ (.slice Ao53 x152003_1.length co53 : Value).ownBlock))) ∧ some k_ ≠ (.slice Ao40 t158.length co40 : Value).ownBlock) ∧ some k_ ≠ (.slice Ao48 t161.length co48 : Value).ownBlock) ∧ some k_ ≠ (.slice Ao55 t164.length co55 : Value).ownBlock)) (n := x153003_1.length) (c := co59) ?_).2.2; exact (rkS (Kd.R_mono (Kd.R_far (p := ⟨gb151, 3, none⟩) (Kd.R_types HO_153003.out BK151.out (by decide)) (fun _ hk => hk.2) (.slice Ao55 t164.length co55)) (fun _ h_ => h_.1)))); (case side2 => exact (Kd.R_reads' HO_153003.out).2.1); rintro e w60 ⟨v168, rfl, ho0, hb⟩; refine ⟨_, rfl, ?_⟩; have n0_ := Aside0.mk (Kd.R_elder' (rkS (Kd.R_mono (Kd.R_far (p := ⟨gb151, 3, none⟩) (Kd.R_types HO_150003.out BK151.out (by decide)) (fun _ hk => hk.2) (.slice Ao55 t164.length co55)) (fun _ h_ => h_.1))) (Kd.R_base ho0) hb); have n1_ := Aside0.mk (Kd.R_elder' (rkS (Kd.R_mono (Kd.R_far (p := ⟨gb151, 3, none⟩) (Kd.R_types HO_151003.out BK151.out (by decide)) (fun _ hk => hk.2) (.slice Ao55 t164.length co55)) (fun _ h_ => h_.1))) (Kd.R_base ho0) hb); have n2_ := Aside0.mk (Kd.R_elder' (rkS (Kd.R_mono (Kd.R_far (p := ⟨gb151, 3, none⟩) (Kd.R_types HO_152003.out BK151.out (by decide)) (fun _ hk => hk.2) (.slice Ao55 t164.length co55)) (fun _ h_ => h_.1))) (Kd.R_base ho0) hb); have n3_ := Aside0.mk (Kd.R_elder' (rkS (Kd.R_mono (Kd.R_far (p := ⟨gb151, 3, none⟩) (Kd.R_types HO_153003.out BK151.out (by decide)) (fun _ hk => hk.2) (.slice Ao55 t164.length co55)) (fun _ h_ => h_.1))) (Kd.R_base ho0) hb); have n4_ := Aside0.mk (Kd.R_below (rkS (Kd.R_mono (Kd.R_far (p := ⟨gb151, 3, none⟩) (Kd.R_types HO156.out BK151.out (by decide)) (fun _ hk => hk.2) (.slice Ao55 t164.length co55)) (fun _ h_ => h_.1))) hb); have n5_ := Aside0.mk (Kd.R_elder' (rkS (Kd.R_mono (Kd.R_far (p := ⟨gb151, 3, none⟩) (Kd.R_types HO160.out BK151.out (by decide)) (fun _ hk => hk.2) (.slice Ao55 t164.length co55)) (fun _ h_ => h_.1))) (Kd.R_base ho0) hb); have n6_ := Aside0.mk (Kd.R_elder' (rkS (Kd.R_mono (Kd.R_far (p := ⟨gb151, 3, none⟩) (Kd.R_types HO163.out BK151.out (by decide)) (fun _ hk => hk.2) (.slice Ao55 t164.length co55)) (fun _ h_ => h_.1))) (Kd.R_base ho0) hb); have n7_ := Aside0.mk (Kd.R_elder' (rkS (Kd.R_mono (Kd.R_far (p := ⟨gb151, 3, none⟩) (Kd.R_types HO166.out BK151.out (by decide)) (fun _ hk => hk.2) (.slice Ao55 t164.length co55)) (fun _ h_ => h_.1))) (Kd.R_base ho0) hb); have n8_ := Aside0.mk (Kd.R_lower (Kd.R_new' (Kd.R_new' (Kd.R_new' (Kd.R_new' (Kd.R_new' (Kd.R_new' (Kd.R_new' (Kd.R_newM (M := fun k_ => (w.heap.size ≤ k_)) ho0 (below_size (by repeat (first | (with_reducible first | exact HB.out | apply below_alloc | apply pw_below_drewN | apply below_drew1 | refine below_set ?_ GE149.out | refine below_set ?_ GE150.out | refine below_set ?_ GE151.out | refine below_set ?_ GE152.out | refine below_set ?_ GE153.out) | exact HB.out))) (fun k_ h_ => h_)) (Kd.R_lt (rkS (Kd.R_mono (Kd.R_far (p := ⟨gb151, 3, none⟩) (Kd.R_types HO_150003.out BK151.out (by decide)) (fun _ hk => hk.2) (.slice Ao55 t164.length co55)) (fun _ h_ => h_.1))))) (Kd.R_lt (rkS (Kd.R_mono (Kd.R_far (p := ⟨gb151, 3, none⟩) (Kd.R_types HO_151003.out BK151.out (by decide)) (fun _ hk => hk.2) (.slice Ao55 t164.length co55)) (fun _ h_ => h_.1))))) (Kd.R_lt (rkS (Kd.R_mono (Kd.R_far (p := ⟨gb151, 3, none⟩) (Kd.R_types HO_152003.out BK151.out (by decide)) (fun _ hk => hk.2) (.slice Ao55 t164.length co55)) (fun _ h_ => h_.1))))) (Kd.R_lt (rkS (Kd.R_mono (Kd.R_far (p := ⟨gb151, 3, none⟩) (Kd.R_types HO_153003.out BK151.out (by decide)) (fun _ hk => hk.2) (.slice Ao55 t164.length co55)) (fun _ h_ => h_.1))))) (Kd.R_lt (rkS (Kd.R_mono (Kd.R_far (p := ⟨gb151, 3, none⟩) (Kd.R_types HO160.out BK151.out (by decide)) (fun _ hk => hk.2) (.slice Ao55 t164.length co55)) (fun _ h_ => h_.1))))) (Kd.R_lt (rkS (Kd.R_mono (Kd.R_far (p := ⟨gb151, 3, none⟩) (Kd.R_types HO163.out BK151.out (by decide)) (fun _ hk => hk.2) (.slice Ao55 t164.length co55)) (fun _ h_ => h_.1))))) (Kd.R_lt (rkS (Kd.R_mono (Kd.R_far (p := ⟨gb151, 3, none⟩) (Kd.R_types HO166.out BK151.out (by decide)) (fun _ hk => hk.2) (.slice Ao55 t164.length co55)) (fun _ h_ => h_.1))))) (below_size (by repeat (first | (with_reducible first | exact HB.out | apply below_alloc | apply pw_below_drewN | apply below_drew1 | refine below_set ?_ GE149.out | refine below_set ?_ GE150.out | refine below_set ?_ GE151.out | refine below_set ?_ GE152.out | refine below_set ?_ GE153.out) | exact HB.out)))); have n9_ := Aside0.mk (blk_below (g := gb149) (o := .cells #[.string (⟨#[82]⟩ : BA), .bool false, .int .i64 250, .slice Ao40 t158.length co40, .slice none 0 0, .slice none 0 0] 44 (0, 0)) (by (with_reducible repeat (first | refine blk_drewN ?_ _ | refine blk_drew ?_ | refine blk_alloc ?_ _)); refine blk_far ?_ NB149_151.out _; (with_reducible repeat (first | refine blk_drewN ?_ _ | refine blk_drew ?_ | refine blk_alloc ?_ _)); exact BK149.out) hb); have n10_ := Aside0.mk (blk_below (g := gb150) (o := .cells #[.string (⟨#[73]⟩ : BA), .bool false, .int .i64 250, .slice Ao48 t161.length co48, .slice none 0 0, .slice none 0 0] 44 (0, 0)) (by (with_reducible repeat (first | refine blk_drewN ?_ _ | refine blk_drew ?_ | refine blk_alloc ?_ _)); refine blk_far ?_ NB150_151.out _; (with_reducible repeat (first | refine blk_drewN ?_ _ | refine blk_drew ?_ | refine blk_alloc ?_ _)); exact BK150.out) hb); have n11_ := Aside0.mk (blk_below (g := gb151) (o := .cells #[.string (⟨#[66]⟩ : BA), .bool false, .int .i64 250, .slice Ao55 t164.length co55, .slice none 0 0, .slice none 0 0] 44 (0, 0)) (by (with_reducible repeat (first | refine blk_drewN ?_ _ | refine blk_drew ?_ | refine blk_alloc ?_ _)); refine blk_put (cs := #[.string (⟨#[66]⟩ : BA), .bool false, .int .i64 250, .slice Ao53 x152003_1.length co53, .slice none 0 0, .slice none 0 0]) ?_ 3 _ rfl; (with_reducible repeat (first | refine blk_drewN ?_ _ | refine blk_drew ?_ | refine blk_alloc ?_ _)); exact BK151.out) hb); have n12_ := Aside0.mk (blk_below (g := gb152) (o := .cells #[.string (⟨#[77]⟩ : BA), .bool false, .int .i64 600, .slice Ao59 x153003_1.length co59, .slice none 0 0, .slice none 0 0] 44 (0, 0)) (by (with_reducible repeat (first | refine blk_drewN ?_ _ | refine blk_drew ?_ | refine blk_alloc ?_ _)); refine blk_far ?_ NB152_151.out _; (with_reducible repeat (first | refine blk_drewN ?_ _ | refine blk_drew ?_ | refine blk_alloc ?_ _)); exact BK152.out) hb); have n13_ := Aside0.mk (blk_below (g := gb153) (o := .cells #[.string (⟨#[83]⟩ : BA), .bool true, .int .i64 250, .slice none 0 0, .slice none 0 0, .slice none 0 0] 44 (0, 0)) (by (with_reducible repeat (first | refine blk_drewN ?_ _ | refine blk_drew ?_ | refine blk_alloc ?_ _)); refine blk_far ?_ NB153_151.out _; (with_reducible repeat (first | refine blk_drewN ?_ _ | refine blk_drew ?_ | refine blk_alloc ?_ _)); exact BK153.out) hb); have n14_ := Aside0.mk (below_step (by repeat (first | (with_reducible first | exact HB.out | apply below_alloc | apply pw_below_drewN | apply below_drew1 | refine below_set ?_ GE149.out | refine below_set ?_ GE150.out | refine below_set ?_ GE151.out | refine below_set ?_ GE152.out | refine below_set ?_ GE153.out) | exact HB.out)) hb); clear HO_150003; clear HO_151003; clear HO_152003; clear HO_153003; clear HO156; clear HO160; clear HO163; clear HO166; clear BK149; clear BK150; clear BK151; clear BK152; clear BK153; clear HB; have HO_150003 := n0_; have HO_151003 := n1_; have HO_152003 := n2_; have HO_153003 := n3_; have HO156 := n4_; have HO160 := n5_; have HO163 := n6_; have HO166 := n7_; have HO169 := n8_; have BK149 := n9_; have BK150 := n10_; have BK151 := n11_; have BK152 := n12_; have BK153 := n13_; have HB := n14_; clear n0_ n1_ n2_ n3_ n4_ n5_ n6_ n7_ n8_ n9_ n10_ n11_ n12_ n13_ n14_; (try clear hb); (try clear hb2); (try clear hk); (try clear hi); (try clear ho0); obtain ⟨Ao61, co61, eo61⟩ := Kd.R_slice HO169.out; subst eo61; have hcz62_0 : w60.cell? ⟨gb152, 0, none⟩ = some (.string (⟨#[77]⟩ : BA)) := (blk_cell BK152.out 0).trans rfl; have hcz62_1 : w60.cell? ⟨gb152, 1, none⟩ = some (.bool false) := (blk_cell BK152.out 1).trans rfl; have hcz62_2 : w60.cell? ⟨gb152, 2, none⟩ = some (.int .i64 600) := (blk_cell BK152.out 2).trans rfl; have hcz62_3 : w60.cell? ⟨gb152, 3, none⟩ = some (.slice Ao59 x153003_1.length co59) := (blk_cell BK152.out 3).trans rfl; have hcz62_4 : w60.cell? ⟨gb152, 4, none⟩ = some (.slice none 0 0) := (blk_cell BK152.out 4).trans rfl; have hcz62_5 : w60.cell? ⟨gb152, 5, none⟩ = some (.slice none 0 0) := (blk_cell BK152.out 5).trans rfl; have hfz62_0 := blk_frozen BK152.out 0; have hfz62_1 := blk_frozen BK152.out 1; have hfz62_2 := blk_frozen BK152.out 2; have hfz62_3 := blk_frozen BK152.out 3; have hfz62_4 := blk_frozen BK152.out 4; have hfz62_5 := blk_frozen BK152.out 5))
    go_roundg k1
    case measure => have := HK1.out; omega
    case rel => exact ⟨(wrap64 (x6_1 + 1)), (t158), (t161), (t164), (t167), (.slice Ao40 t158.length co40), (.slice Ao48 t161.length co48), (.slice Ao55 t164.length co55), (.slice Ao61 t167.length co61), (by first | rfl | (simp; done) | (simp [*]; done)), H', ⟨by have := HK1.out; omega⟩, ⟨by (with_reducible repeat (first | apply Kd.R_alloc | apply Kd.R_drewN | apply Kd.R_drew)); exact Kd.R_mono (Kd.R_far (p := ⟨gb152, 3, none⟩) (Kd.R_types HO160.out BK152.out (by decide)) (fun _ hk => hk.2) (.slice Ao61 t167.length co61)) (fun _ hk => ⟨hk.1.1.1.1.1.1.1.1.1, ⟨hk.1.1.1.2, ⟨hk.1.1.2, hk.1.2⟩⟩⟩)⟩, ⟨by (with_reducible repeat (first | apply Kd.R_alloc | apply Kd.R_drewN | apply Kd.R_drew)); exact Kd.R_mono (Kd.R_far (p := ⟨gb152, 3, none⟩) (Kd.R_types HO163.out BK152.out (by decide)) (fun _ hk => hk.2) (.slice Ao61 t167.length co61)) (fun _ hk => ⟨hk.1.1.1.1.1.1.1.1.1, ⟨hk.1.1.1.2, ⟨hk.1.1.2, hk.1.2⟩⟩⟩)⟩, ⟨by (with_reducible repeat (first | apply Kd.R_alloc | apply Kd.R_drewN | apply Kd.R_drew)); exact Kd.R_mono (Kd.R_far (p := ⟨gb152, 3, none⟩) (Kd.R_types HO166.out BK152.out (by decide)) (fun _ hk => hk.2) (.slice Ao61 t167.length co61)) (fun _ hk => ⟨hk.1.1.1.1.1.1.1.1.1, ⟨hk.1.1.1.2, ⟨hk.1.1.2, hk.1.2⟩⟩⟩)⟩, ⟨by (with_reducible repeat (first | apply Kd.R_alloc | apply Kd.R_drewN | apply Kd.R_drew)); exact Kd.R_mono (Kd.R_far (p := ⟨gb152, 3, none⟩) (Kd.R_types HO169.out BK152.out (by decide)) (fun _ hk => hk.2) (.slice Ao61 t167.length co61)) (fun _ hk => ⟨hk.1.1.1.1.1.1.1.1.1, ⟨hk.1.1.1.2, ⟨hk.1.1.2, hk.1.2⟩⟩⟩)⟩, ⟨by (with_reducible repeat (first | refine blk_drewN ?_ _ | refine blk_drew ?_ | refine blk_alloc ?_ _)); refine blk_far ?_ NB149_152.out _; (with_reducible repeat (first | refine blk_drewN ?_ _ | refine blk_drew ?_ | refine blk_alloc ?_ _)); exact BK149.out⟩, ⟨by (with_reducible repeat (first | refine blk_drewN ?_ _ | refine blk_drew ?_ | refine blk_alloc ?_ _)); refine blk_far ?_ NB150_152.out _; (with_reducible repeat (first | refine blk_drewN ?_ _ | refine blk_drew ?_ | refine blk_alloc ?_ _)); exact BK150.out⟩, ⟨by (with_reducible repeat (first | refine blk_drewN ?_ _ | refine blk_drew ?_ | refine blk_alloc ?_ _)); refine blk_far ?_ NB151_152.out _; (with_reducible repeat (first | refine blk_drewN ?_ _ | refine blk_drew ?_ | refine blk_alloc ?_ _)); exact BK151.out⟩, ⟨by (with_reducible repeat (first | refine blk_drewN ?_ _ | refine blk_drew ?_ | refine blk_alloc ?_ _)); refine blk_put (cs := #[.string (⟨#[77]⟩ : BA), .bool false, .int .i64 600, .slice Ao59 x153003_1.length co59, .slice none 0 0, .slice none 0 0]) ?_ 3 _ rfl; (with_reducible repeat (first | refine blk_drewN ?_ _ | refine blk_drew ?_ | refine blk_alloc ?_ _)); exact BK152.out⟩, ⟨by (with_reducible repeat (first | refine blk_drewN ?_ _ | refine blk_drew ?_ | refine blk_alloc ?_ _)); refine blk_far ?_ NB153_152.out _; (with_reducible repeat (first | refine blk_drewN ?_ _ | refine blk_drew ?_ | refine blk_alloc ?_ _)); exact BK153.out⟩, ⟨by repeat (first | (with_reducible first | exact HB.out | apply below_alloc | apply pw_below_drewN | apply below_drew1 | refine below_set ?_ GE149.out | refine below_set ?_ GE150.out | refine below_set ?_ GE151.out | refine below_set ?_ GE152.out | refine below_set ?_ GE153.out) | exact HB.out)⟩⟩
   ·rw [if_neg c21] at H
    have c21b0 : decide (x6_1 ≤ 126) = false := decide_eq_false c21
    clear c21
    obtain ⟨y170, hy170⟩ : ∃ y_ : List BA, y_ = (([(⟨#[102, 105]⟩ : BA), (⟨#[102, 108]⟩ : BA), (⟨#[102, 102]⟩ : BA)] : List BA)) := ⟨_, rfl⟩
    replace H : (frisketref07_Standard.l1 k1 y170 0 (⟨#[82]⟩ : BA) false 250 x150003_1 (⟨#[73]⟩ : BA) false 250 x151003_1 (⟨#[66]⟩ : BA) false 250 x152003_1 (⟨#[77]⟩ : BA) false 600 x153003_1 (⟨#[83]⟩ : BA) true 250) = some r := by first | (rw [hy170]; with_reducible exact H) | (have H2_ := (Option.bind_some _ _).symm.trans H; rw [hy170]; with_reducible exact H2_) | (have H2_ := (Option.bind_some _ _).symm.trans H; with_reducible exact H2_) | with_reducible exact H | (rw [hy170]; exact H) | exact H
    have Ny170 := Aside0.mk hy170
    clear hy170
    have H' := Aside0.mk H
    clear H
    go_wp2_with (first | ((with_reducible refine gate_dst (N := 59) rfl ?_); refine Kd.R_lit Kd.string _ 9 ?hg (N := 59) ?hd (xs := ([(⟨#[102, 105]⟩ : BA), (⟨#[102, 108]⟩ : BA), (⟨#[102, 102]⟩ : BA)] : List BA)) (inner := [.string (⟨#[102, 105]⟩ : BA), .string (⟨#[102, 108]⟩ : BA), .string (⟨#[102, 102]⟩ : BA)]) (ok := fun _ => True) (okp := fun _ => True) ?hr ?hp (fun _ hk => hk) trivial (Below.refl _ _) (Nat.le_refl _) (by simp) ?_; (case hd => rfl); (case hg => rfl); (case hr => first | (go_simp; done) | (go_simp; rfl)); (case hp => exact (Reps.one (show Kd.M Kd.string _ _ _ (⟨#[102, 105]⟩ : BA) [.string (⟨#[102, 105]⟩ : BA)] from rfl) (Reps.one (show Kd.M Kd.string _ _ _ (⟨#[102, 108]⟩ : BA) [.string (⟨#[102, 108]⟩ : BA)] from rfl) (Reps.one (show Kd.M Kd.string _ _ _ (⟨#[102, 102]⟩ : BA) [.string (⟨#[102, 102]⟩ : BA)] from rfl) (Reps.none _ _))))); intro v171 w63 ho64 hb hg_ hnew_; clear hg_ hnew_; (first | rw [← Ny170.out] at ho64 | (simp only [Int.reduceToNat] at ho64; rw [← Ny170.out] at ho64)); have n0_ := Aside0.mk (Kd.R_below (rkS HO_150003.out) hb); have n1_ := Aside0.mk (Kd.R_below (rkS HO_151003.out) hb); have n2_ := Aside0.mk (Kd.R_below (rkS HO_152003.out) hb); have n3_ := Aside0.mk (Kd.R_below (rkS HO_153003.out) hb); have n4_ := Aside0.mk (Kd.R_lower (Kd.R_newM (M := fun k_ => (w.heap.size ≤ k_)) ho64 (below_size (by repeat (first | (with_reducible first | exact HB.out | apply below_alloc | apply pw_below_drewN | apply below_drew1 | refine below_set ?_ GE149.out | refine below_set ?_ GE150.out | refine below_set ?_ GE151.out | refine below_set ?_ GE152.out | refine below_set ?_ GE153.out) | exact HB.out))) (fun k_ h_ => h_)) (below_size (by repeat (first | (with_reducible first | exact HB.out | apply below_alloc | apply pw_below_drewN | apply below_drew1 | refine below_set ?_ GE149.out | refine below_set ?_ GE150.out | refine below_set ?_ GE151.out | refine below_set ?_ GE152.out | refine below_set ?_ GE153.out) | exact HB.out)))); have n5_ := Aside0.mk (blk_below (g := gb149) (o := .cells #[.string (⟨#[82]⟩ : BA), .bool false, .int .i64 250, u150003, .slice none 0 0, .slice none 0 0] 44 (0, 0)) (bkS BK149.out) hb); have n6_ := Aside0.mk (blk_below (g := gb150) (o := .cells #[.string (⟨#[73]⟩ : BA), .bool false, .int .i64 250, u151003, .slice none 0 0, .slice none 0 0] 44 (0, 0)) (bkS BK150.out) hb); have n7_ := Aside0.mk (blk_below (g := gb151) (o := .cells #[.string (⟨#[66]⟩ : BA), .bool false, .int .i64 250, u152003, .slice none 0 0, .slice none 0 0] 44 (0, 0)) (bkS BK151.out) hb); have n8_ := Aside0.mk (blk_below (g := gb152) (o := .cells #[.string (⟨#[77]⟩ : BA), .bool false, .int .i64 600, u153003, .slice none 0 0, .slice none 0 0] 44 (0, 0)) (bkS BK152.out) hb); have n9_ := Aside0.mk (blk_below (g := gb153) (o := .cells #[.string (⟨#[83]⟩ : BA), .bool true, .int .i64 250, .slice none 0 0, .slice none 0 0, .slice none 0 0] 44 (0, 0)) (bkS BK153.out) hb); have n10_ := Aside0.mk (below_step (by repeat (first | (with_reducible first | exact HB.out | apply below_alloc | apply pw_below_drewN | apply below_drew1 | refine below_set ?_ GE149.out | refine below_set ?_ GE150.out | refine below_set ?_ GE151.out | refine below_set ?_ GE152.out | refine below_set ?_ GE153.out) | exact HB.out)) hb); clear HO_150003; clear HO_151003; clear HO_152003; clear HO_153003; clear BK149; clear BK150; clear BK151; clear BK152; clear BK153; clear HB; have HO_150003 := n0_; have HO_151003 := n1_; have HO_152003 := n2_; have HO_153003 := n3_; have HO172 := n4_; have BK149 := n5_; have BK150 := n6_; have BK151 := n7_; have BK152 := n8_; have BK153 := n9_; have HB := n10_; clear n0_ n1_ n2_ n3_ n4_ n5_ n6_ n7_ n8_ n9_ n10_; clear hb ho64))
    go_loopg [10] k1 (fun kq v10 w' => ∃ (x10_2 : Int) (x150003_2 : List (S81)) (x152003_2 : List (S81)) (u150003 : Value) (u152003 : Value), v10 = .int .i64 x10_2 ∧ Aside0 (frisketref07_Standard.l1 kq y170 x10_2 (⟨#[82]⟩ : BA) false 250 x150003_2 (⟨#[73]⟩ : BA) false 250 x151003_1 (⟨#[66]⟩ : BA) false 250 x152003_2 (⟨#[77]⟩ : BA) false 600 x153003_1 (⟨#[83]⟩ : BA) true 250 = some r) ∧ Aside0 (kq ≤ k1) ∧ Aside0 (Kd.R Kd.string 9 w' w.heap.size (fun k_ => (w.heap.size ≤ k_)) v171 y170) ∧ Aside0 (Kd.R k81 81 w' w.heap.size (fun k_ => (w.heap.size ≤ k_) ∧ some k_ ≠ (u151003 : Value).ownBlock ∧ some k_ ≠ (u152003 : Value).ownBlock ∧ some k_ ≠ (u153003 : Value).ownBlock) u150003 x150003_2) ∧ Aside0 (Kd.R k81 81 w' w.heap.size (fun k_ => (w.heap.size ≤ k_) ∧ some k_ ≠ (u150003 : Value).ownBlock ∧ some k_ ≠ (u152003 : Value).ownBlock ∧ some k_ ≠ (u153003 : Value).ownBlock) u151003 x151003_1) ∧ Aside0 (Kd.R k81 81 w' w.heap.size (fun k_ => (w.heap.size ≤ k_) ∧ some k_ ≠ (u150003 : Value).ownBlock ∧ some k_ ≠ (u151003 : Value).ownBlock ∧ some k_ ≠ (u153003 : Value).ownBlock) u152003 x152003_2) ∧ Aside0 (Kd.R k81 81 w' w.heap.size (fun k_ => (w.heap.size ≤ k_) ∧ some k_ ≠ (u150003 : Value).ownBlock ∧ some k_ ≠ (u151003 : Value).ownBlock ∧ some k_ ≠ (u152003 : Value).ownBlock) u153003 x153003_1) ∧ Aside0 (w'.heap[gb149]? = some (.cells #[.string (⟨#[82]⟩ : BA), .bool false, .int .i64 250, u150003, (.slice none 0 0), (.slice none 0 0)] 44 (0, 0))) ∧ Aside0 (w'.heap[gb150]? = some (.cells #[.string (⟨#[73]⟩ : BA), .bool false, .int .i64 250, u151003, (.slice none 0 0), (.slice none 0 0)] 44 (0, 0))) ∧ Aside0 (w'.heap[gb151]? = some (.cells #[.string (⟨#[66]⟩ : BA), .bool false, .int .i64 250, u152003, (.slice none 0 0), (.slice none 0 0)] 44 (0, 0))) ∧ Aside0 (w'.heap[gb152]? = some (.cells #[.string (⟨#[77]⟩ : BA), .bool false, .int .i64 600, u153003, (.slice none 0 0), (.slice none 0 0)] 44 (0, 0))) ∧ Aside0 (w'.heap[gb153]? = some (.cells #[.string (⟨#[83]⟩ : BA), .bool true, .int .i64 250, (.slice none 0 0), (.slice none 0 0), (.slice none 0 0)] 44 (0, 0))) ∧ Aside0 (Below w.heap.size w w'))
    case atStart => exact ⟨(0), (x150003_1), (x152003_1), (u150003), (u152003), (by first | rfl | (simp; done) | (simp [*]; done)), H', ⟨Nat.le_refl _⟩, ⟨by (with_reducible repeat (first | apply Kd.R_alloc | apply Kd.R_drewN | apply Kd.R_drew)); exact Kd.R_mono HO172.out (fun _ hk => hk.1)⟩, ⟨by (with_reducible repeat (first | apply Kd.R_alloc | apply Kd.R_drewN | apply Kd.R_drew)); exact HO_150003.out⟩, ⟨by (with_reducible repeat (first | apply Kd.R_alloc | apply Kd.R_drewN | apply Kd.R_drew)); exact HO_151003.out⟩, ⟨by (with_reducible repeat (first | apply Kd.R_alloc | apply Kd.R_drewN | apply Kd.R_drew)); exact HO_152003.out⟩, ⟨by (with_reducible repeat (first | apply Kd.R_alloc | apply Kd.R_drewN | apply Kd.R_drew)); exact HO_153003.out⟩, ⟨by (with_reducible repeat (first | refine blk_drewN ?_ _ | refine blk_drew ?_ | refine blk_alloc ?_ _)); exact BK149.out⟩, ⟨by (with_reducible repeat (first | refine blk_drewN ?_ _ | refine blk_drew ?_ | refine blk_alloc ?_ _)); exact BK150.out⟩, ⟨by (with_reducible repeat (first | refine blk_drewN ?_ _ | refine blk_drew ?_ | refine blk_alloc ?_ _)); exact BK151.out⟩, ⟨by (with_reducible repeat (first | refine blk_drewN ?_ _ | refine blk_drew ?_ | refine blk_alloc ?_ _)); exact BK152.out⟩, ⟨by (with_reducible repeat (first | refine blk_drewN ?_ _ | refine blk_drew ?_ | refine blk_alloc ?_ _)); exact BK153.out⟩, ⟨by repeat (first | (with_reducible first | exact HB.out | apply below_alloc | apply pw_below_drewN | apply below_drew1 | refine below_set ?_ GE149.out | refine below_set ?_ GE150.out | refine below_set ?_ GE151.out | refine below_set ?_ GE152.out | refine below_set ?_ GE153.out) | exact HB.out)⟩⟩
    case round =>
     clear H'
     try clear c1
     try clear c2
     try clear p2
     try clear c3
     try clear hcv3
     try clear c4
     try clear c5
     try clear c6
     try clear p6
     try clear c7
     try clear c8
     try clear c9
     try clear c11
     try clear c12
     try clear c13
     try clear c14
     try clear c15
     try clear c16
     try clear c18
     try clear c21
     try clear c21b0
     try clear hcv31
     try clear c33
     try clear c34
     try clear c35
     try clear c36
     try clear c37
     try clear c38
     try clear c42
     try clear c43
     try clear c44
     try clear c50
     try clear c51
     try clear c57
     try clear p64
     try clear hcz10_0
     try clear hcz10_1
     try clear hcz10_2
     try clear hcz10_3
     try clear hcz10_4
     try clear hcz10_5
     try clear hcz14_0
     try clear hcz14_1
     try clear hcz14_2
     try clear hcz14_3
     try clear hcz14_4
     try clear hcz14_5
     try clear hcz17_0
     try clear hcz17_1
     try clear hcz17_2
     try clear hcz17_3
     try clear hcz17_4
     try clear hcz17_5
     try clear hcz19_0
     try clear hcz19_1
     try clear hcz19_2
     try clear hcz19_3
     try clear hcz19_4
     try clear hcz19_5
     try clear hcz20_0
     try clear hcz20_1
     try clear hcz20_2
     try clear hcz20_3
     try clear hcz20_4
     try clear hcz20_5
     try clear hcz37_0
     try clear hcz37_1
     try clear hcz37_2
     try clear hcz37_3
     try clear hcz37_4
     try clear hcz37_5
     try clear hcz41_0
     try clear hcz41_1
     try clear hcz41_2
     try clear hcz41_3
     try clear hcz41_4
     try clear hcz41_5
     try clear hcz45_0
     try clear hcz45_1
     try clear hcz45_2
     try clear hcz45_3
     try clear hcz45_4
     try clear hcz45_5
     try clear hcz49_0
     try clear hcz49_1
     try clear hcz49_2
     try clear hcz49_3
     try clear hcz49_4
     try clear hcz49_5
     try clear hcz52_0
     try clear hcz52_1
     try clear hcz52_2
     try clear hcz52_3
     try clear hcz52_4
     try clear hcz52_5
     try clear hcz56_0
     try clear hcz56_1
     try clear hcz56_2
     try clear hcz56_3
     try clear hcz56_4
     try clear hcz56_5
     try clear hcz58_0
     try clear hcz58_1
     try clear hcz58_2
     try clear hcz58_3
     try clear hcz58_4
     try clear hcz58_5
     try clear hcz62_0
     try clear hcz62_1
     try clear hcz62_2
     try clear hcz62_3
     try clear hcz62_4
     try clear hcz62_5
     try clear hfz10_0
     try clear hfz10_1
     try clear hfz10_2
     try clear hfz10_3
     try clear hfz10_4
     try clear hfz10_5
     try clear hfz14_0
     try clear hfz14_1
     try clear hfz14_2
     try clear hfz14_3
     try clear hfz14_4
     try clear hfz14_5
     try clear hfz17_0
     try clear hfz17_1
     try clear hfz17_2
     try clear hfz17_3
     try clear hfz17_4
     try clear hfz17_5
     try clear hfz19_0
     try clear hfz19_1
     try clear hfz19_2
     try clear hfz19_3
     try clear hfz19_4
     try clear hfz19_5
     try clear hfz20_0
     try clear hfz20_1
     try clear hfz20_2
     try clear hfz20_3
     try clear hfz20_4
     try clear hfz20_5
     try clear hfz37_0
     try clear hfz37_1
     try clear hfz37_2
     try clear hfz37_3
     try clear hfz37_4
     try clear hfz37_5
     try clear hfz41_0
     try clear hfz41_1
     try clear hfz41_2
     try clear hfz41_3
     try clear hfz41_4
     try clear hfz41_5
     try clear hfz45_0
     try clear hfz45_1
     try clear hfz45_2
     try clear hfz45_3
     try clear hfz45_4
     try clear hfz45_5
     try clear hfz49_0
     try clear hfz49_1
     try clear hfz49_2
     try clear hfz49_3
     try clear hfz49_4
     try clear hfz49_5
     try clear hfz52_0
     try clear hfz52_1
     try clear hfz52_2
     try clear hfz52_3
     try clear hfz52_4
     try clear hfz52_5
     try clear hfz56_0
     try clear hfz56_1
     try clear hfz56_2
     try clear hfz56_3
     try clear hfz56_4
     try clear hfz56_5
     try clear hfz58_0
     try clear hfz58_1
     try clear hfz58_2
     try clear hfz58_3
     try clear hfz58_4
     try clear hfz58_5
     try clear hfz62_0
     try clear hfz62_1
     try clear hfz62_2
     try clear hfz62_3
     try clear hfz62_4
     try clear hfz62_5
     try clear p2
     obtain ⟨x10_2, x150003_2, x152003_2, u150003, u152003, rfl, HA, HK2, HO_9, HO_150003, HO_151003, HO_152003, HO_153003, BK149, BK150, BK151, BK152, BK153, HB⟩ := hrel
     cases gk with
     | zero => exact absurd HA.out (by simp [frisketref07_Standard.l1])
     | succ k2 =>
      have H := HA.out
      clear HA
      simp only [frisketref07_Standard.l1] at H
      by_cases c65 : x10_2 < (y170.length : Int)
      ·rw [if_pos c65] at H
       have c65b0 : decide (x10_2 < (y170.length : Int)) = true := decide_eq_true c65
       clear c65
       by_cases c66 : 0 ≤ x10_2
       ·rw [if_pos c66] at H
        have c66b0 : decide (0 ≤ x10_2) = true := decide_eq_true c66
        clear c66
        replace H := Option.bind_eq_some_iff.mp H
        obtain ⟨t174, A670, H⟩ := H
        replace H : ((frisketref07_put.f k2 x152003_2 (rdOf ByteArray.empty y170 x10_2) 600).bind fun t178 => (frisketref07_Standard.l1 k2 y170 (wrap64 (x10_2 + 1)) (⟨#[82]⟩ : BA) false 250 t174 (⟨#[73]⟩ : BA) false 250 x151003_1 (⟨#[66]⟩ : BA) false 250 t178 (⟨#[77]⟩ : BA) false 600 x153003_1 (⟨#[83]⟩ : BA) true 250)) = some r := H
        have A67 := Aside0.mk A670
        clear A670
        replace H := Option.bind_eq_some_iff.mp H
        obtain ⟨t178, A680, H⟩ := H
        replace H : (frisketref07_Standard.l1 k2 y170 (wrap64 (x10_2 + 1)) (⟨#[82]⟩ : BA) false 250 t174 (⟨#[73]⟩ : BA) false 250 x151003_1 (⟨#[66]⟩ : BA) false 250 t178 (⟨#[77]⟩ : BA) false 600 x153003_1 (⟨#[83]⟩ : BA) true 250) = some r := H
        have A68 := Aside0.mk A680
        clear A680
        have H' := Aside0.mk H
        clear H
        obtain ⟨Ao69, co69, eo69⟩ := Kd.R_slice HO_9.out
        subst eo69
        try go_wp2
        have n0_ := Aside0.mk (Kd.R_drew HO_9.out)
        have n1_ := Aside0.mk (Kd.R_drew HO_150003.out)
        have n2_ := Aside0.mk (Kd.R_drew HO_151003.out)
        have n3_ := Aside0.mk (Kd.R_drew HO_152003.out)
        have n4_ := Aside0.mk (Kd.R_drew HO_153003.out)
        have n5_ := Aside0.mk (blk_drew BK149.out)
        have n6_ := Aside0.mk (blk_drew BK150.out)
        have n7_ := Aside0.mk (blk_drew BK151.out)
        have n8_ := Aside0.mk (blk_drew BK152.out)
        have n9_ := Aside0.mk (blk_drew BK153.out)
        have n10_ := Aside0.mk (below_drew1 HB.out)
        clear HO_9 HO_150003 HO_151003 HO_152003 HO_153003 BK149 BK150 BK151 BK152 BK153 HB
        have HO_9 := n0_
        have HO_150003 := n1_
        have HO_151003 := n2_
        have HO_152003 := n3_
        have HO_153003 := n4_
        have BK149 := n5_
        have BK150 := n6_
        have BK151 := n7_
        have BK152 := n8_
        have BK153 := n9_
        have HB := n10_
        clear n0_ n1_ n2_ n3_ n4_ n5_ n6_ n7_ n8_ n9_ n10_
        have p173 : 0 ≤ (x10_2 : Int) := of_decide_eq_true (by first | (with_reducible assumption) | assumption)
        have q173 : x10_2 < (y170.length : Int) := of_decide_eq_true (by first | (with_reducible assumption) | assumption)
        obtain ⟨ad173, e173, hx173_0⟩ := Kd.at_string (Kd.R_reads' HO_9.out).2.2 x10_2 p173 q173
        cases e173
        replace p173 := eq_true p173
        replace q173 := eq_true q173
        obtain ⟨Ao71, co71, eo71⟩ := Kd.R_slice HO_150003.out
        (first | subst eo71 | (injection eo71 with f1_ f2_ f3_; have f4_ := f1_.symm; have f5_ := f3_.symm; clear f1_ f2_ f3_; subst f4_; subst f5_))
        refine start_ (n := 10) (S := fun w' => w'.cell? ⟨gb149, 0, none⟩ = some (.string (⟨#[82]⟩ : BA)) ∧ w'.cell? ⟨gb149, 1, none⟩ = some (.bool false) ∧ w'.cell? ⟨gb149, 2, none⟩ = some (.int .i64 250) ∧ w'.cell? ⟨gb149, 3, none⟩ = some (.slice Ao71 x150003_2.length co71) ∧ w'.cell? ⟨gb149, 4, none⟩ = some (.slice none 0 0) ∧ w'.cell? ⟨gb149, 5, none⟩ = some (.slice none 0 0) ∧ w'.cell? (ad173.add (x10_2).toNat) = some (.string (rdOf ByteArray.empty y170 x10_2))) (ds := [9]) #[false, false, false, false, false, false, false, false, false, false] (by kernel_rfl) rfl rfl ⟨(blk_cell BK149.out 0).trans rfl, (blk_cell BK149.out 1).trans rfl, (blk_cell BK149.out 2).trans rfl, (blk_cell BK149.out 3).trans rfl, (blk_cell BK149.out 4).trans rfl, (blk_cell BK149.out 5).trans rfl, hx173_0⟩ (fun hHeld => ?_); refine with_tabW frisketref07_Standard.tab14 frisketref07_Standard.bits14 (fun HT_ HW_ => ?_)
        generalize wr.drew = w70 at HO_9 HO_150003 HO_151003 HO_152003 HO_153003 BK149 BK150 BK151 BK152 BK153 HB hx173_0 hHeld ⊢
        refine puS 0 (some 66) HT_ ?_
        refine puS 2 (some 68) HT_ ?_
        refine puS 3 (some 69) HT_ ?_
        refine puS 4 (some 70) HT_ ?_
        refine taS 1 (some 67) HT_ HW_ hHeld ?_
        refine taS 5 (some 71) HT_ HW_ hHeld ?_
        refine puS 6 (some 72) HT_ ?_
        refine onS 7 (some 73) HT_ (fun K hK => ?_)
        refine goes_ Tryz.func38 (by kernel_rfl) rfl #[.slice Ao71 x150003_2.length co71, .agg #[.string (rdOf ByteArray.empty y170 x10_2), .int .i64 550]] (by rfl) rfl rfl (by (try simp only [List.map_toArray, List.map_cons, List.map_nil]); first | done | rfl | (simp only [List.length_drop, List.length_take]; rfl)) ?_
        with_reducible refine (frisketref07_put.calls k2 _ _ x150003_2 (rdOf ByteArray.empty y170 x10_2) 550 t174 _ ?side1 ?side2 A67.out).mono ?_
        (case side1 => repeat (first | exact (Kd.R_reads' HO_150003.out).2.2 | (with_reducible refine Kd.C_alloc ?_ _) | (with_reducible refine Kd.C_drewN ?_ _) | (with_reducible refine Kd.C_drew ?_)))
        (case side2 => exact (Kd.R_reads' HO_150003.out).2.1)
        rintro e w72 ⟨v175, rfl, ho0, hb⟩
        have HS6_ := (hb.cell (World.block_lt_of_cell? _ _ (hHeld.2.2.2.2.2.2))).trans (hHeld.2.2.2.2.2.2)
        refine ⟨_, rfl, ?_⟩
        have n0_ := Aside0.mk (Kd.R_below (rkS HO_9.out) hb)
        have n1_ := Aside0.mk (Kd.R_elder' (rkS HO_150003.out) (Kd.R_base ho0) hb)
        have n2_ := Aside0.mk (Kd.R_elder' (rkS HO_151003.out) (Kd.R_base ho0) hb)
        have n3_ := Aside0.mk (Kd.R_elder' (rkS HO_152003.out) (Kd.R_base ho0) hb)
        have n4_ := Aside0.mk (Kd.R_elder' (rkS HO_153003.out) (Kd.R_base ho0) hb)
        have n5_ := Aside0.mk (Kd.R_lower (Kd.R_new' (Kd.R_new' (Kd.R_new' (Kd.R_new' (Kd.R_newM (M := fun k_ => (w.heap.size ≤ k_)) ho0 (below_size (by repeat (first | (with_reducible first | exact HB.out | apply below_alloc | apply pw_below_drewN | apply below_drew1 | refine below_set ?_ GE149.out | refine below_set ?_ GE150.out | refine below_set ?_ GE151.out | refine below_set ?_ GE152.out | refine below_set ?_ GE153.out) | exact HB.out))) (fun k_ h_ => h_)) (Kd.R_lt (rkS HO_150003.out))) (Kd.R_lt (rkS HO_151003.out))) (Kd.R_lt (rkS HO_152003.out))) (Kd.R_lt (rkS HO_153003.out))) (below_size (by repeat (first | (with_reducible first | exact HB.out | apply below_alloc | apply pw_below_drewN | apply below_drew1 | refine below_set ?_ GE149.out | refine below_set ?_ GE150.out | refine below_set ?_ GE151.out | refine below_set ?_ GE152.out | refine below_set ?_ GE153.out) | exact HB.out))))
        have n6_ := Aside0.mk (blk_below (g := gb149) (o := .cells #[.string (⟨#[82]⟩ : BA), .bool false, .int .i64 250, .slice Ao71 x150003_2.length co71, .slice none 0 0, .slice none 0 0] 44 (0, 0)) (bkS BK149.out) hb)
        have n7_ := Aside0.mk (blk_below (g := gb150) (o := .cells #[.string (⟨#[73]⟩ : BA), .bool false, .int .i64 250, u151003, .slice none 0 0, .slice none 0 0] 44 (0, 0)) (bkS BK150.out) hb)
        have n8_ := Aside0.mk (blk_below (g := gb151) (o := .cells #[.string (⟨#[66]⟩ : BA), .bool false, .int .i64 250, u152003, .slice none 0 0, .slice none 0 0] 44 (0, 0)) (bkS BK151.out) hb)
        have n9_ := Aside0.mk (blk_below (g := gb152) (o := .cells #[.string (⟨#[77]⟩ : BA), .bool false, .int .i64 600, u153003, .slice none 0 0, .slice none 0 0] 44 (0, 0)) (bkS BK152.out) hb)
        have n10_ := Aside0.mk (blk_below (g := gb153) (o := .cells #[.string (⟨#[83]⟩ : BA), .bool true, .int .i64 250, .slice none 0 0, .slice none 0 0, .slice none 0 0] 44 (0, 0)) (bkS BK153.out) hb)
        have n11_ := Aside0.mk (below_step (by repeat (first | (with_reducible first | exact HB.out | apply below_alloc | apply pw_below_drewN | apply below_drew1 | refine below_set ?_ GE149.out | refine below_set ?_ GE150.out | refine below_set ?_ GE151.out | refine below_set ?_ GE152.out | refine below_set ?_ GE153.out) | exact HB.out)) hb)
        clear HO_9 HO_150003 HO_151003 HO_152003 HO_153003 BK149 BK150 BK151 BK152 BK153 HB
        have HO_9 := n0_
        have HO_150003 := n1_
        have HO_151003 := n2_
        have HO_152003 := n3_
        have HO_153003 := n4_
        have HO176 := n5_
        have BK149 := n6_
        have BK150 := n7_
        have BK151 := n8_
        have BK152 := n9_
        have BK153 := n10_
        have HB := n11_
        clear n0_ n1_ n2_ n3_ n4_ n5_ n6_ n7_ n8_ n9_ n10_ n11_
        (try clear hb)
        (try clear hb2)
        (try clear hk)
        (try clear hi)
        (try clear ho0)
        obtain ⟨Ao73, co73, eo73⟩ := Kd.R_slice HO176.out
        (first | subst eo73 | (injection eo73 with f1_ f2_ f3_; have f4_ := f1_.symm; have f5_ := f3_.symm; clear f1_ f2_ f3_; subst f4_; subst f5_))
        refine hK.out _ _ ⟨(blk_cell BK149.out 0).trans rfl, (blk_cell BK149.out 1).trans rfl, (blk_cell BK149.out 2).trans rfl, (blk_cell BK149.out 3).trans rfl, (blk_cell BK149.out 4).trans rfl, (blk_cell BK149.out 5).trans rfl, HS6_⟩ (fun hHeld => ?_)
        clear hK K
        refine noS (some 73) ?_
        refine puS 8 (some 74) HT_ ?_
        refine last_ (i := 9) (N := none) #[true, true, true, true, true, true, true, true, true, true] rfl rfl (one_of HT_.out (by kernel_rfl)) (by decide) (fun K hK => ?_)
        have hs74 : w72.cell? ⟨gb149, 3, none⟩ = some (.slice Ao71 x150003_2.length co71) := (blk_cell BK149.out 3).trans rfl
        have hfs74 := blk_frozen BK149.out 3
        have hns74_1 := NB150_149.out
        have hns74_2 := NB151_149.out
        have hns74_3 := NB152_149.out
        have hns74_4 := NB153_149.out
        have hms74_1 := NB149_150.out
        have hms74_2 := NB149_151.out
        have hms74_3 := NB149_152.out
        have hms74_4 := NB149_153.out
        refine skip_ (w1 := ?_) (by rfl) rfl ?_ ?_
        rotate_left
        ·go_simp
         rfl
        refine hK.out _ _ ?_
        clear hK K
        refine done_ (done_of HT_.out (by kernel_rfl)) ?_
        try go_wp2
        have n0_ : Aside0 (Kd.R Kd.string 9 (w72.setCell ⟨gb149, 3, none⟩ (.slice Ao73 t174.length co73)) w.heap.size (fun k_ => (w.heap.size ≤ k_)) (.slice (some ad173) y170.length co69) y170) := ⟨by (with_reducible repeat (first | apply Kd.R_alloc | apply Kd.R_drewN | apply Kd.R_drew)); exact Kd.R_mono (Kd.R_far (p := ⟨gb149, 3, none⟩) (Kd.R_types HO_9.out BK149.out (by decide)) (fun _ hk => hk.2) (.slice Ao73 t174.length co73)) (fun _ hk => hk.1)⟩
        have n1_ : Aside0 (Kd.R k81 81 (w72.setCell ⟨gb149, 3, none⟩ (.slice Ao73 t174.length co73)) w.heap.size (fun k_ => (w.heap.size ≤ k_) ∧ some k_ ≠ (u151003 : Value).ownBlock ∧ some k_ ≠ (u152003 : Value).ownBlock ∧ some k_ ≠ (u153003 : Value).ownBlock ∧ some k_ ≠ (.slice Ao73 t174.length co73 : Value).ownBlock) (.slice Ao71 x150003_2.length co71) x150003_2) := ⟨by (with_reducible repeat (first | apply Kd.R_alloc | apply Kd.R_drewN | apply Kd.R_drew)); exact Kd.R_mono (Kd.R_far (p := ⟨gb149, 3, none⟩) (Kd.R_types HO_150003.out BK149.out (by decide)) (fun _ hk => hk.2) (.slice Ao73 t174.length co73)) (fun _ hk => ⟨hk.1.1.1, ⟨hk.1.1.2.1, ⟨hk.1.1.2.2.1, ⟨hk.1.1.2.2.2, hk.1.2⟩⟩⟩⟩)⟩
        have n2_ : Aside0 (Kd.R k81 81 (w72.setCell ⟨gb149, 3, none⟩ (.slice Ao73 t174.length co73)) w.heap.size (fun k_ => (w.heap.size ≤ k_) ∧ some k_ ≠ (.slice Ao71 x150003_2.length co71 : Value).ownBlock ∧ some k_ ≠ (u152003 : Value).ownBlock ∧ some k_ ≠ (u153003 : Value).ownBlock ∧ some k_ ≠ (.slice Ao73 t174.length co73 : Value).ownBlock) u151003 x151003_1) := ⟨by (with_reducible repeat (first | apply Kd.R_alloc | apply Kd.R_drewN | apply Kd.R_drew)); exact Kd.R_mono (Kd.R_far (p := ⟨gb149, 3, none⟩) (Kd.R_types HO_151003.out BK149.out (by decide)) (fun _ hk => hk.2) (.slice Ao73 t174.length co73)) (fun _ hk => ⟨hk.1.1.1, ⟨hk.1.1.2.1, ⟨hk.1.1.2.2.1, ⟨hk.1.1.2.2.2, hk.1.2⟩⟩⟩⟩)⟩
        have n3_ : Aside0 (Kd.R k81 81 (w72.setCell ⟨gb149, 3, none⟩ (.slice Ao73 t174.length co73)) w.heap.size (fun k_ => (w.heap.size ≤ k_) ∧ some k_ ≠ (.slice Ao71 x150003_2.length co71 : Value).ownBlock ∧ some k_ ≠ (u151003 : Value).ownBlock ∧ some k_ ≠ (u153003 : Value).ownBlock ∧ some k_ ≠ (.slice Ao73 t174.length co73 : Value).ownBlock) u152003 x152003_2) := ⟨by (with_reducible repeat (first | apply Kd.R_alloc | apply Kd.R_drewN | apply Kd.R_drew)); exact Kd.R_mono (Kd.R_far (p := ⟨gb149, 3, none⟩) (Kd.R_types HO_152003.out BK149.out (by decide)) (fun _ hk => hk.2) (.slice Ao73 t174.length co73)) (fun _ hk => ⟨hk.1.1.1, ⟨hk.1.1.2.1, ⟨hk.1.1.2.2.1, ⟨hk.1.1.2.2.2, hk.1.2⟩⟩⟩⟩)⟩
        have n4_ : Aside0 (Kd.R k81 81 (w72.setCell ⟨gb149, 3, none⟩ (.slice Ao73 t174.length co73)) w.heap.size (fun k_ => (w.heap.size ≤ k_) ∧ some k_ ≠ (.slice Ao71 x150003_2.length co71 : Value).ownBlock ∧ some k_ ≠ (u151003 : Value).ownBlock ∧ some k_ ≠ (u152003 : Value).ownBlock ∧ some k_ ≠ (.slice Ao73 t174.length co73 : Value).ownBlock) u153003 x153003_1) := ⟨by (with_reducible repeat (first | apply Kd.R_alloc | apply Kd.R_drewN | apply Kd.R_drew)); exact Kd.R_mono (Kd.R_far (p := ⟨gb149, 3, none⟩) (Kd.R_types HO_153003.out BK149.out (by decide)) (fun _ hk => hk.2) (.slice Ao73 t174.length co73)) (fun _ hk => ⟨hk.1.1.1, ⟨hk.1.1.2.1, ⟨hk.1.1.2.2.1, ⟨hk.1.1.2.2.2, hk.1.2⟩⟩⟩⟩)⟩
        have n5_ : Aside0 (Kd.R k81 81 (w72.setCell ⟨gb149, 3, none⟩ (.slice Ao73 t174.length co73)) w.heap.size (fun k_ => (w.heap.size ≤ k_) ∧ some k_ ≠ (.slice Ao71 x150003_2.length co71 : Value).ownBlock ∧ some k_ ≠ (u151003 : Value).ownBlock ∧ some k_ ≠ (u152003 : Value).ownBlock ∧ some k_ ≠ (u153003 : Value).ownBlock) (.slice Ao73 t174.length co73) t174) := ⟨by (with_reducible repeat (first | apply Kd.R_alloc | apply Kd.R_drewN | apply Kd.R_drew)); exact Kd.R_mono (Kd.R_far (p := ⟨gb149, 3, none⟩) (Kd.R_types HO176.out BK149.out (by decide)) (fun _ hk => hk.2) (.slice Ao73 t174.length co73)) (fun _ hk => ⟨hk.1.1.1.1.1.1, ⟨hk.1.1.1.1.2, ⟨hk.1.1.1.2, ⟨hk.1.1.2, hk.1.2⟩⟩⟩⟩)⟩
        have n6_ : Aside0 ((w72.setCell ⟨gb149, 3, none⟩ (.slice Ao73 t174.length co73)).heap[gb149]? = some (.cells #[.string (⟨#[82]⟩ : BA), .bool false, .int .i64 250, .slice Ao73 t174.length co73, .slice none 0 0, .slice none 0 0] 44 (0, 0))) := ⟨by (with_reducible repeat (first | refine blk_drewN ?_ _ | refine blk_drew ?_ | refine blk_alloc ?_ _)); refine blk_put (cs := #[.string (⟨#[82]⟩ : BA), .bool false, .int .i64 250, .slice Ao71 x150003_2.length co71, .slice none 0 0, .slice none 0 0]) ?_ 3 _ rfl; (with_reducible repeat (first | refine blk_drewN ?_ _ | refine blk_drew ?_ | refine blk_alloc ?_ _)); exact BK149.out⟩
        have n7_ : Aside0 ((w72.setCell ⟨gb149, 3, none⟩ (.slice Ao73 t174.length co73)).heap[gb150]? = some (.cells #[.string (⟨#[73]⟩ : BA), .bool false, .int .i64 250, u151003, .slice none 0 0, .slice none 0 0] 44 (0, 0))) := ⟨by (with_reducible repeat (first | refine blk_drewN ?_ _ | refine blk_drew ?_ | refine blk_alloc ?_ _)); refine blk_far ?_ NB150_149.out _; (with_reducible repeat (first | refine blk_drewN ?_ _ | refine blk_drew ?_ | refine blk_alloc ?_ _)); exact BK150.out⟩
        have n8_ : Aside0 ((w72.setCell ⟨gb149, 3, none⟩ (.slice Ao73 t174.length co73)).heap[gb151]? = some (.cells #[.string (⟨#[66]⟩ : BA), .bool false, .int .i64 250, u152003, .slice none 0 0, .slice none 0 0] 44 (0, 0))) := ⟨by (with_reducible repeat (first | refine blk_drewN ?_ _ | refine blk_drew ?_ | refine blk_alloc ?_ _)); refine blk_far ?_ NB151_149.out _; (with_reducible repeat (first | refine blk_drewN ?_ _ | refine blk_drew ?_ | refine blk_alloc ?_ _)); exact BK151.out⟩
        have n9_ : Aside0 ((w72.setCell ⟨gb149, 3, none⟩ (.slice Ao73 t174.length co73)).heap[gb152]? = some (.cells #[.string (⟨#[77]⟩ : BA), .bool false, .int .i64 600, u153003, .slice none 0 0, .slice none 0 0] 44 (0, 0))) := ⟨by (with_reducible repeat (first | refine blk_drewN ?_ _ | refine blk_drew ?_ | refine blk_alloc ?_ _)); refine blk_far ?_ NB152_149.out _; (with_reducible repeat (first | refine blk_drewN ?_ _ | refine blk_drew ?_ | refine blk_alloc ?_ _)); exact BK152.out⟩
        have n10_ : Aside0 ((w72.setCell ⟨gb149, 3, none⟩ (.slice Ao73 t174.length co73)).heap[gb153]? = some (.cells #[.string (⟨#[83]⟩ : BA), .bool true, .int .i64 250, .slice none 0 0, .slice none 0 0, .slice none 0 0] 44 (0, 0))) := ⟨by (with_reducible repeat (first | refine blk_drewN ?_ _ | refine blk_drew ?_ | refine blk_alloc ?_ _)); refine blk_far ?_ NB153_149.out _; (with_reducible repeat (first | refine blk_drewN ?_ _ | refine blk_drew ?_ | refine blk_alloc ?_ _)); exact BK153.out⟩
        have n11_ : Aside0 (Below w.heap.size w (w72.setCell ⟨gb149, 3, none⟩ (.slice Ao73 t174.length co73))) := ⟨by repeat (first | (with_reducible first | exact HB.out | apply below_alloc | apply pw_below_drewN | apply below_drew1 | refine below_set ?_ GE149.out | refine below_set ?_ GE150.out | refine below_set ?_ GE151.out | refine below_set ?_ GE152.out | refine below_set ?_ GE153.out) | exact HB.out)⟩
        (try clear HO_9)
        (try clear HO_150003)
        (try clear HO_151003)
        (try clear HO_152003)
        (try clear HO_153003)
        (try clear HO176)
        (try clear BK149)
        (try clear BK150)
        (try clear BK151)
        (try clear BK152)
        (try clear BK153)
        (try clear HB)
        generalize (w72.setCell ⟨gb149, 3, none⟩ (.slice Ao73 t174.length co73)) = w75 at n0_ n1_ n2_ n3_ n4_ n5_ n6_ n7_ n8_ n9_ n10_ n11_ ⊢
        have HO_9 := n0_
        have HO_150003 := n1_
        have HO_151003 := n2_
        have HO_152003 := n3_
        have HO_153003 := n4_
        have HO176 := n5_
        have BK149 := n6_
        have BK150 := n7_
        have BK151 := n8_
        have BK152 := n9_
        have BK153 := n10_
        have HB := n11_
        clear n0_ n1_ n2_ n3_ n4_ n5_ n6_ n7_ n8_ n9_ n10_ n11_
        have n0_ := Aside0.mk (Kd.R_drew HO_9.out)
        have n1_ := Aside0.mk (Kd.R_drew HO_150003.out)
        have n2_ := Aside0.mk (Kd.R_drew HO_151003.out)
        have n3_ := Aside0.mk (Kd.R_drew HO_152003.out)
        have n4_ := Aside0.mk (Kd.R_drew HO_153003.out)
        have n5_ := Aside0.mk (Kd.R_drew HO176.out)
        have n6_ := Aside0.mk (blk_drew BK149.out)
        have n7_ := Aside0.mk (blk_drew BK150.out)
        have n8_ := Aside0.mk (blk_drew BK151.out)
        have n9_ := Aside0.mk (blk_drew BK152.out)
        have n10_ := Aside0.mk (blk_drew BK153.out)
        have n11_ := Aside0.mk (below_drew1 HB.out)
        clear HO_9 HO_150003 HO_151003 HO_152003 HO_153003 HO176 BK149 BK150 BK151 BK152 BK153 HB
        have HO_9 := n0_
        have HO_150003 := n1_
        have HO_151003 := n2_
        have HO_152003 := n3_
        have HO_153003 := n4_
        have HO176 := n5_
        have BK149 := n6_
        have BK150 := n7_
        have BK151 := n8_
        have BK152 := n9_
        have BK153 := n10_
        have HB := n11_
        clear n0_ n1_ n2_ n3_ n4_ n5_ n6_ n7_ n8_ n9_ n10_ n11_
        have p177 : 0 ≤ (x10_2 : Int) := of_decide_eq_true (by first | (with_reducible assumption) | assumption)
        have q177 : x10_2 < (y170.length : Int) := of_decide_eq_true (by first | (with_reducible assumption) | assumption)
        obtain ⟨ad177, e177, hx177_0⟩ := Kd.at_string (Kd.R_reads' HO_9.out).2.2 x10_2 p177 q177
        obtain rfl : ad173 = ad177 := (by injection e177)
        replace p177 := eq_true p177
        replace q177 := eq_true q177
        obtain ⟨Ao77, co77, eo77⟩ := Kd.R_slice HO_152003.out
        (first | subst eo77 | (injection eo77 with f1_ f2_ f3_; have f4_ := f1_.symm; have f5_ := f3_.symm; clear f1_ f2_ f3_; subst f4_; subst f5_))
        refine start_ (n := 10) (S := fun w' => w'.cell? ⟨gb151, 0, none⟩ = some (.string (⟨#[66]⟩ : BA)) ∧ w'.cell? ⟨gb151, 1, none⟩ = some (.bool false) ∧ w'.cell? ⟨gb151, 2, none⟩ = some (.int .i64 250) ∧ w'.cell? ⟨gb151, 3, none⟩ = some (.slice Ao77 x152003_2.length co77) ∧ w'.cell? ⟨gb151, 4, none⟩ = some (.slice none 0 0) ∧ w'.cell? ⟨gb151, 5, none⟩ = some (.slice none 0 0) ∧ w'.cell? (ad173.add (x10_2).toNat) = some (.string (rdOf ByteArray.empty y170 x10_2))) (ds := [9]) #[false, false, false, false, false, false, false, false, false, false] (by kernel_rfl) rfl rfl ⟨(blk_cell BK151.out 0).trans rfl, (blk_cell BK151.out 1).trans rfl, (blk_cell BK151.out 2).trans rfl, (blk_cell BK151.out 3).trans rfl, (blk_cell BK151.out 4).trans rfl, (blk_cell BK151.out 5).trans rfl, hx177_0⟩ (fun hHeld => ?_); refine with_tabW frisketref07_Standard.tab15 frisketref07_Standard.bits15 (fun HT_ HW_ => ?_)
        generalize w75.drew = w76 at HO_9 HO_150003 HO_151003 HO_152003 HO_153003 HO176 BK149 BK150 BK151 BK152 BK153 HB hx177_0 hHeld ⊢
        refine puS 0 (some 75) HT_ ?_
        refine puS 2 (some 77) HT_ ?_
        refine puS 3 (some 78) HT_ ?_
        refine puS 4 (some 79) HT_ ?_
        refine taS 1 (some 76) HT_ HW_ hHeld ?_
        refine taS 5 (some 80) HT_ HW_ hHeld ?_
        refine puS 6 (some 81) HT_ ?_
        refine onS 7 (some 82) HT_ (fun K hK => ?_)
        refine goes_ Tryz.func38 (by kernel_rfl) rfl #[.slice Ao77 x152003_2.length co77, .agg #[.string (rdOf ByteArray.empty y170 x10_2), .int .i64 600]] (by rfl) rfl rfl (by (try simp only [List.map_toArray, List.map_cons, List.map_nil]); first | done | rfl | (simp only [List.length_drop, List.length_take]; rfl)) ?_
        with_reducible refine (frisketref07_put.calls k2 _ _ x152003_2 (rdOf ByteArray.empty y170 x10_2) 600 t178 _ ?side1 ?side2 A68.out).mono ?_
        (case side1 => repeat (first | exact (Kd.R_reads' HO_152003.out).2.2 | (with_reducible refine Kd.C_alloc ?_ _) | (with_reducible refine Kd.C_drewN ?_ _) | (with_reducible refine Kd.C_drew ?_)))
        (case side2 => exact (Kd.R_reads' HO_152003.out).2.1)
        rintro e w78 ⟨v179, rfl, ho0, hb⟩
        have HS6_ := (hb.cell (World.block_lt_of_cell? _ _ (hHeld.2.2.2.2.2.2))).trans (hHeld.2.2.2.2.2.2)
        refine ⟨_, rfl, ?_⟩
        have n0_ := Aside0.mk (Kd.R_below (rkS HO_9.out) hb)
        have n1_ := Aside0.mk (Kd.R_elder' (rkS HO_150003.out) (Kd.R_base ho0) hb)
        have n2_ := Aside0.mk (Kd.R_elder' (rkS HO_151003.out) (Kd.R_base ho0) hb)
        have n3_ := Aside0.mk (Kd.R_elder' (rkS HO_152003.out) (Kd.R_base ho0) hb)
        have n4_ := Aside0.mk (Kd.R_elder' (rkS HO_153003.out) (Kd.R_base ho0) hb)
        have n5_ := Aside0.mk (Kd.R_elder' (rkS HO176.out) (Kd.R_base ho0) hb)
        have n6_ := Aside0.mk (Kd.R_lower (Kd.R_new' (Kd.R_new' (Kd.R_new' (Kd.R_new' (Kd.R_new' (Kd.R_newM (M := fun k_ => (w.heap.size ≤ k_)) ho0 (below_size (by repeat (first | (with_reducible first | exact HB.out | apply below_alloc | apply pw_below_drewN | apply below_drew1 | refine below_set ?_ GE149.out | refine below_set ?_ GE150.out | refine below_set ?_ GE151.out | refine below_set ?_ GE152.out | refine below_set ?_ GE153.out) | exact HB.out))) (fun k_ h_ => h_)) (Kd.R_lt (rkS HO_150003.out))) (Kd.R_lt (rkS HO_151003.out))) (Kd.R_lt (rkS HO_152003.out))) (Kd.R_lt (rkS HO_153003.out))) (Kd.R_lt (rkS HO176.out))) (below_size (by repeat (first | (with_reducible first | exact HB.out | apply below_alloc | apply pw_below_drewN | apply below_drew1 | refine below_set ?_ GE149.out | refine below_set ?_ GE150.out | refine below_set ?_ GE151.out | refine below_set ?_ GE152.out | refine below_set ?_ GE153.out) | exact HB.out))))
        have n7_ := Aside0.mk (blk_below (g := gb149) (o := .cells #[.string (⟨#[82]⟩ : BA), .bool false, .int .i64 250, .slice Ao73 t174.length co73, .slice none 0 0, .slice none 0 0] 44 (0, 0)) (bkS BK149.out) hb)
        have n8_ := Aside0.mk (blk_below (g := gb150) (o := .cells #[.string (⟨#[73]⟩ : BA), .bool false, .int .i64 250, u151003, .slice none 0 0, .slice none 0 0] 44 (0, 0)) (bkS BK150.out) hb)
        have n9_ := Aside0.mk (blk_below (g := gb151) (o := .cells #[.string (⟨#[66]⟩ : BA), .bool false, .int .i64 250, .slice Ao77 x152003_2.length co77, .slice none 0 0, .slice none 0 0] 44 (0, 0)) (bkS BK151.out) hb)
        have n10_ := Aside0.mk (blk_below (g := gb152) (o := .cells #[.string (⟨#[77]⟩ : BA), .bool false, .int .i64 600, u153003, .slice none 0 0, .slice none 0 0] 44 (0, 0)) (bkS BK152.out) hb)
        have n11_ := Aside0.mk (blk_below (g := gb153) (o := .cells #[.string (⟨#[83]⟩ : BA), .bool true, .int .i64 250, .slice none 0 0, .slice none 0 0, .slice none 0 0] 44 (0, 0)) (bkS BK153.out) hb)
        have n12_ := Aside0.mk (below_step (by repeat (first | (with_reducible first | exact HB.out | apply below_alloc | apply pw_below_drewN | apply below_drew1 | refine below_set ?_ GE149.out | refine below_set ?_ GE150.out | refine below_set ?_ GE151.out | refine below_set ?_ GE152.out | refine below_set ?_ GE153.out) | exact HB.out)) hb)
        clear HO_9 HO_150003 HO_151003 HO_152003 HO_153003 HO176 BK149 BK150 BK151 BK152 BK153 HB
        have HO_9 := n0_
        have HO_150003 := n1_
        have HO_151003 := n2_
        have HO_152003 := n3_
        have HO_153003 := n4_
        have HO176 := n5_
        have HO180 := n6_
        have BK149 := n7_
        have BK150 := n8_
        have BK151 := n9_
        have BK152 := n10_
        have BK153 := n11_
        have HB := n12_
        clear n0_ n1_ n2_ n3_ n4_ n5_ n6_ n7_ n8_ n9_ n10_ n11_ n12_
        (try clear hb)
        (try clear hb2)
        (try clear hk)
        (try clear hi)
        (try clear ho0)
        obtain ⟨Ao79, co79, eo79⟩ := Kd.R_slice HO180.out
        (first | subst eo79 | (injection eo79 with f1_ f2_ f3_; have f4_ := f1_.symm; have f5_ := f3_.symm; clear f1_ f2_ f3_; subst f4_; subst f5_))
        refine hK.out _ _ ⟨(blk_cell BK151.out 0).trans rfl, (blk_cell BK151.out 1).trans rfl, (blk_cell BK151.out 2).trans rfl, (blk_cell BK151.out 3).trans rfl, (blk_cell BK151.out 4).trans rfl, (blk_cell BK151.out 5).trans rfl, HS6_⟩ (fun hHeld => ?_)
        clear hK K
        refine noS (some 82) ?_
        refine puS 8 (some 83) HT_ ?_
        refine last_ (i := 9) (N := none) #[true, true, true, true, true, true, true, true, true, true] rfl rfl (one_of HT_.out (by kernel_rfl)) (by decide) (fun K hK => ?_)
        have hs80 : w78.cell? ⟨gb151, 3, none⟩ = some (.slice Ao77 x152003_2.length co77) := (blk_cell BK151.out 3).trans rfl
        have hfs80 := blk_frozen BK151.out 3
        have hns80_0 := NB149_151.out
        have hns80_1 := NB150_151.out
        have hns80_3 := NB152_151.out
        have hns80_4 := NB153_151.out
        have hms80_0 := NB151_149.out
        have hms80_1 := NB151_150.out
        have hms80_3 := NB151_152.out
        have hms80_4 := NB151_153.out
        refine skip_ (w1 := ?_) (by rfl) rfl ?_ ?_
        rotate_left
        ·go_simp
         rfl
        refine hK.out _ _ ?_
        clear hK K
        refine done_ (done_of HT_.out (by kernel_rfl)) ?_
        try go_wp2
        go_roundg k2
        case measure => have := HK1.out; have := HK2.out; omega
        case rel => exact ⟨(wrap64 (x10_2 + 1)), (t174), (t178), (.slice Ao73 t174.length co73), (.slice Ao79 t178.length co79), (by first | rfl | (simp; done) | (simp [*]; done)), H', ⟨by have := HK1.out; have := HK2.out; omega⟩, ⟨by (with_reducible repeat (first | apply Kd.R_alloc | apply Kd.R_drewN | apply Kd.R_drew)); exact Kd.R_mono (Kd.R_far (p := ⟨gb151, 3, none⟩) (Kd.R_types HO_9.out BK151.out (by decide)) (fun _ hk => hk.2) (.slice Ao79 t178.length co79)) (fun _ hk => hk.1)⟩, ⟨by (with_reducible repeat (first | apply Kd.R_alloc | apply Kd.R_drewN | apply Kd.R_drew)); exact Kd.R_mono (Kd.R_far (p := ⟨gb151, 3, none⟩) (Kd.R_types HO176.out BK151.out (by decide)) (fun _ hk => hk.2) (.slice Ao79 t178.length co79)) (fun _ hk => ⟨hk.1.1.1, ⟨hk.1.1.2.2.1, ⟨hk.1.2, hk.1.1.2.2.2.2⟩⟩⟩)⟩, ⟨by (with_reducible repeat (first | apply Kd.R_alloc | apply Kd.R_drewN | apply Kd.R_drew)); exact Kd.R_mono (Kd.R_far (p := ⟨gb151, 3, none⟩) (Kd.R_types HO_151003.out BK151.out (by decide)) (fun _ hk => hk.2) (.slice Ao79 t178.length co79)) (fun _ hk => ⟨hk.1.1.1, ⟨hk.1.1.2.2.2.2, ⟨hk.1.2, hk.1.1.2.2.2.1⟩⟩⟩)⟩, ⟨by (with_reducible repeat (first | apply Kd.R_alloc | apply Kd.R_drewN | apply Kd.R_drew)); exact Kd.R_mono (Kd.R_far (p := ⟨gb151, 3, none⟩) (Kd.R_types HO180.out BK151.out (by decide)) (fun _ hk => hk.2) (.slice Ao79 t178.length co79)) (fun _ hk => ⟨hk.1.1.1.1.1.1.1, ⟨hk.1.2, ⟨hk.1.1.1.1.2, hk.1.1.2⟩⟩⟩)⟩, ⟨by (with_reducible repeat (first | apply Kd.R_alloc | apply Kd.R_drewN | apply Kd.R_drew)); exact Kd.R_mono (Kd.R_far (p := ⟨gb151, 3, none⟩) (Kd.R_types HO_153003.out BK151.out (by decide)) (fun _ hk => hk.2) (.slice Ao79 t178.length co79)) (fun _ hk => ⟨hk.1.1.1, ⟨hk.1.1.2.2.2.2, ⟨hk.1.1.2.2.1, hk.1.2⟩⟩⟩)⟩, ⟨by (with_reducible repeat (first | refine blk_drewN ?_ _ | refine blk_drew ?_ | refine blk_alloc ?_ _)); refine blk_far ?_ NB149_151.out _; (with_reducible repeat (first | refine blk_drewN ?_ _ | refine blk_drew ?_ | refine blk_alloc ?_ _)); exact BK149.out⟩, ⟨by (with_reducible repeat (first | refine blk_drewN ?_ _ | refine blk_drew ?_ | refine blk_alloc ?_ _)); refine blk_far ?_ NB150_151.out _; (with_reducible repeat (first | refine blk_drewN ?_ _ | refine blk_drew ?_ | refine blk_alloc ?_ _)); exact BK150.out⟩, ⟨by (with_reducible repeat (first | refine blk_drewN ?_ _ | refine blk_drew ?_ | refine blk_alloc ?_ _)); refine blk_put (cs := #[.string (⟨#[66]⟩ : BA), .bool false, .int .i64 250, .slice Ao77 x152003_2.length co77, .slice none 0 0, .slice none 0 0]) ?_ 3 _ rfl; (with_reducible repeat (first | refine blk_drewN ?_ _ | refine blk_drew ?_ | refine blk_alloc ?_ _)); exact BK151.out⟩, ⟨by (with_reducible repeat (first | refine blk_drewN ?_ _ | refine blk_drew ?_ | refine blk_alloc ?_ _)); refine blk_far ?_ NB152_151.out _; (with_reducible repeat (first | refine blk_drewN ?_ _ | refine blk_drew ?_ | refine blk_alloc ?_ _)); exact BK152.out⟩, ⟨by (with_reducible repeat (first | refine blk_drewN ?_ _ | refine blk_drew ?_ | refine blk_alloc ?_ _)); refine blk_far ?_ NB153_151.out _; (with_reducible repeat (first | refine blk_drewN ?_ _ | refine blk_drew ?_ | refine blk_alloc ?_ _)); exact BK153.out⟩, ⟨by repeat (first | (with_reducible first | exact HB.out | apply below_alloc | apply pw_below_drewN | apply below_drew1 | refine below_set ?_ GE149.out | refine below_set ?_ GE150.out | refine below_set ?_ GE151.out | refine below_set ?_ GE152.out | refine below_set ?_ GE153.out) | exact HB.out)⟩⟩
       ·rw [if_neg c66] at H
        exact absurd H (by simp)
      ·rw [if_neg c65] at H
       have c65b0 : decide (x10_2 < (y170.length : Int)) = false := decide_eq_false c65
       clear c65
       obtain ⟨y181, hy181⟩ : ∃ y_ : List (S83), y_ = (([(⟨(⟨#[102]⟩ : BA), (⟨#[102]⟩ : BA), (⟨#[102, 102]⟩ : BA)⟩ : S83), (⟨(⟨#[102]⟩ : BA), (⟨#[105]⟩ : BA), (⟨#[102, 105]⟩ : BA)⟩ : S83), (⟨(⟨#[102]⟩ : BA), (⟨#[108]⟩ : BA), (⟨#[102, 108]⟩ : BA)⟩ : S83)] : List (S83))) := ⟨_, rfl⟩
       replace H : ((frisketref07_symbols.f).bind fun t190 => (frisketref07_Standard.l2 k2 t190 0 (⟨#[82]⟩ : BA) false 250 x150003_2 y181 (([(⟨(⟨#[65]⟩ : BA), (⟨#[86]⟩ : BA), (-80)⟩ : S84), (⟨(⟨#[65]⟩ : BA), (⟨#[87]⟩ : BA), (-60)⟩ : S84), (⟨(⟨#[84]⟩ : BA), (⟨#[111]⟩ : BA), (-70)⟩ : S84), (⟨(⟨#[86]⟩ : BA), (⟨#[65]⟩ : BA), (-80)⟩ : S84), (⟨(⟨#[89]⟩ : BA), (⟨#[111]⟩ : BA), (-90)⟩ : S84)] : List (S84))) (⟨#[73]⟩ : BA) false 250 x151003_1 (⟨#[66]⟩ : BA) false 250 x152003_2 (([(⟨(⟨#[102]⟩ : BA), (⟨#[102]⟩ : BA), (⟨#[102, 102]⟩ : BA)⟩ : S83), (⟨(⟨#[102]⟩ : BA), (⟨#[105]⟩ : BA), (⟨#[102, 105]⟩ : BA)⟩ : S83), (⟨(⟨#[102]⟩ : BA), (⟨#[108]⟩ : BA), (⟨#[102, 108]⟩ : BA)⟩ : S83)] : List (S83))) (⟨#[77]⟩ : BA) false 600 x153003_1 (⟨#[83]⟩ : BA) true 250 ([] : List (S81)))) = some r := by first | (rw [hy181]; with_reducible exact H) | (have H2_ := (Option.bind_some _ _).symm.trans H; rw [hy181]; with_reducible exact H2_) | (have H2_ := (Option.bind_some _ _).symm.trans H; with_reducible exact H2_) | with_reducible exact H | (rw [hy181]; exact H) | exact H
       have Ny181 := Aside0.mk hy181
       clear hy181
       obtain ⟨y184, hy184⟩ : ∃ y_ : List (S83), y_ = (([(⟨(⟨#[102]⟩ : BA), (⟨#[102]⟩ : BA), (⟨#[102, 102]⟩ : BA)⟩ : S83), (⟨(⟨#[102]⟩ : BA), (⟨#[105]⟩ : BA), (⟨#[102, 105]⟩ : BA)⟩ : S83), (⟨(⟨#[102]⟩ : BA), (⟨#[108]⟩ : BA), (⟨#[102, 108]⟩ : BA)⟩ : S83)] : List (S83))) := ⟨_, rfl⟩
       replace H : ((frisketref07_symbols.f).bind fun t190 => (frisketref07_Standard.l2 k2 t190 0 (⟨#[82]⟩ : BA) false 250 x150003_2 y181 (([(⟨(⟨#[65]⟩ : BA), (⟨#[86]⟩ : BA), (-80)⟩ : S84), (⟨(⟨#[65]⟩ : BA), (⟨#[87]⟩ : BA), (-60)⟩ : S84), (⟨(⟨#[84]⟩ : BA), (⟨#[111]⟩ : BA), (-70)⟩ : S84), (⟨(⟨#[86]⟩ : BA), (⟨#[65]⟩ : BA), (-80)⟩ : S84), (⟨(⟨#[89]⟩ : BA), (⟨#[111]⟩ : BA), (-90)⟩ : S84)] : List (S84))) (⟨#[73]⟩ : BA) false 250 x151003_1 (⟨#[66]⟩ : BA) false 250 x152003_2 y184 (⟨#[77]⟩ : BA) false 600 x153003_1 (⟨#[83]⟩ : BA) true 250 ([] : List (S81)))) = some r := by first | (rw [hy184]; with_reducible exact H) | (have H2_ := (Option.bind_some _ _).symm.trans H; rw [hy184]; with_reducible exact H2_) | (have H2_ := (Option.bind_some _ _).symm.trans H; with_reducible exact H2_) | with_reducible exact H | (rw [hy184]; exact H) | exact H
       have Ny184 := Aside0.mk hy184
       clear hy184
       obtain ⟨y187, hy187⟩ : ∃ y_ : List (S84), y_ = (([(⟨(⟨#[65]⟩ : BA), (⟨#[86]⟩ : BA), (-80)⟩ : S84), (⟨(⟨#[65]⟩ : BA), (⟨#[87]⟩ : BA), (-60)⟩ : S84), (⟨(⟨#[84]⟩ : BA), (⟨#[111]⟩ : BA), (-70)⟩ : S84), (⟨(⟨#[86]⟩ : BA), (⟨#[65]⟩ : BA), (-80)⟩ : S84), (⟨(⟨#[89]⟩ : BA), (⟨#[111]⟩ : BA), (-90)⟩ : S84)] : List (S84))) := ⟨_, rfl⟩
       replace H : ((frisketref07_symbols.f).bind fun t190 => (frisketref07_Standard.l2 k2 t190 0 (⟨#[82]⟩ : BA) false 250 x150003_2 y181 y187 (⟨#[73]⟩ : BA) false 250 x151003_1 (⟨#[66]⟩ : BA) false 250 x152003_2 y184 (⟨#[77]⟩ : BA) false 600 x153003_1 (⟨#[83]⟩ : BA) true 250 ([] : List (S81)))) = some r := by first | (rw [hy187]; with_reducible exact H) | (have H2_ := (Option.bind_some _ _).symm.trans H; rw [hy187]; with_reducible exact H2_) | (have H2_ := (Option.bind_some _ _).symm.trans H; with_reducible exact H2_) | with_reducible exact H | (rw [hy187]; exact H) | exact H
       have Ny187 := Aside0.mk hy187
       clear hy187
       replace H := Option.bind_eq_some_iff.mp H
       obtain ⟨t190, A810, H⟩ := H
       replace H : (frisketref07_Standard.l2 k2 t190 0 (⟨#[82]⟩ : BA) false 250 x150003_2 y181 y187 (⟨#[73]⟩ : BA) false 250 x151003_1 (⟨#[66]⟩ : BA) false 250 x152003_2 y184 (⟨#[77]⟩ : BA) false 600 x153003_1 (⟨#[83]⟩ : BA) true 250 ([] : List (S81))) = some r := H
       have A81 := Aside0.mk A810
       clear A810
       have H' := Aside0.mk H
       clear H
       obtain ⟨Ao82, co82, eo82⟩ := Kd.R_slice HO_9.out
       subst eo82
       go_wp2_with (first | ((with_reducible refine gate_dst (N := 87) rfl ?_); refine Kd.R_lit k83 _ 83 ?hg (N := 87) ?hd (xs := ([(⟨(⟨#[102]⟩ : BA), (⟨#[102]⟩ : BA), (⟨#[102, 102]⟩ : BA)⟩ : S83), (⟨(⟨#[102]⟩ : BA), (⟨#[105]⟩ : BA), (⟨#[102, 105]⟩ : BA)⟩ : S83), (⟨(⟨#[102]⟩ : BA), (⟨#[108]⟩ : BA), (⟨#[102, 108]⟩ : BA)⟩ : S83)] : List (S83))) (inner := [.string (⟨#[102]⟩ : BA), .string (⟨#[102]⟩ : BA), .string (⟨#[102, 102]⟩ : BA), .string (⟨#[102]⟩ : BA), .string (⟨#[105]⟩ : BA), .string (⟨#[102, 105]⟩ : BA), .string (⟨#[102]⟩ : BA), .string (⟨#[108]⟩ : BA), .string (⟨#[102, 108]⟩ : BA)]) (ok := fun _ => True) (okp := fun _ => True) ?hr ?hp (fun _ hk => hk) trivial (Below.refl _ _) (Nat.le_refl _) (by simp) ?_; (case hd => rfl); (case hg => rfl); (case hr => first | (go_simp; done) | (go_simp; rfl)); (case hp => exact (Reps.c3 (show Kd.M k83 _ _ _ (⟨(⟨#[102]⟩ : BA), (⟨#[102]⟩ : BA), (⟨#[102, 102]⟩ : BA)⟩ : S83) [.string (⟨#[102]⟩ : BA), .string (⟨#[102]⟩ : BA), .string (⟨#[102, 102]⟩ : BA)] from (k83_mkM _ _ _ (⟨(⟨#[102]⟩ : BA), (⟨#[102]⟩ : BA), (⟨#[102, 102]⟩ : BA)⟩ : S83) )) (Reps.c3 (show Kd.M k83 _ _ _ (⟨(⟨#[102]⟩ : BA), (⟨#[105]⟩ : BA), (⟨#[102, 105]⟩ : BA)⟩ : S83) [.string (⟨#[102]⟩ : BA), .string (⟨#[105]⟩ : BA), .string (⟨#[102, 105]⟩ : BA)] from (k83_mkM _ _ _ (⟨(⟨#[102]⟩ : BA), (⟨#[105]⟩ : BA), (⟨#[102, 105]⟩ : BA)⟩ : S83) )) (Reps.c3 (show Kd.M k83 _ _ _ (⟨(⟨#[102]⟩ : BA), (⟨#[108]⟩ : BA), (⟨#[102, 108]⟩ : BA)⟩ : S83) [.string (⟨#[102]⟩ : BA), .string (⟨#[108]⟩ : BA), .string (⟨#[102, 108]⟩ : BA)] from (k83_mkM _ _ _ (⟨(⟨#[102]⟩ : BA), (⟨#[108]⟩ : BA), (⟨#[102, 108]⟩ : BA)⟩ : S83) )) (Reps.none _ _))))); intro v182 w83 ho84 hb hg_ hnew_; clear hg_ hnew_; (first | rw [← Ny181.out] at ho84 | (simp only [Int.reduceToNat] at ho84; rw [← Ny181.out] at ho84)); have n0_ := Aside0.mk (Kd.R_below (rkS HO_9.out) hb); have n1_ := Aside0.mk (Kd.R_below (rkS HO_150003.out) hb); have n2_ := Aside0.mk (Kd.R_below (rkS HO_151003.out) hb); have n3_ := Aside0.mk (Kd.R_below (rkS HO_152003.out) hb); have n4_ := Aside0.mk (Kd.R_below (rkS HO_153003.out) hb); have n5_ := Aside0.mk (Kd.R_lower (Kd.R_newM (M := fun k_ => (w.heap.size ≤ k_)) ho84 (below_size (by repeat (first | (with_reducible first | exact HB.out | apply below_alloc | apply pw_below_drewN | apply below_drew1 | refine below_set ?_ GE149.out | refine below_set ?_ GE150.out | refine below_set ?_ GE151.out | refine below_set ?_ GE152.out | refine below_set ?_ GE153.out) | exact HB.out))) (fun k_ h_ => h_)) (below_size (by repeat (first | (with_reducible first | exact HB.out | apply below_alloc | apply pw_below_drewN | apply below_drew1 | refine below_set ?_ GE149.out | refine below_set ?_ GE150.out | refine below_set ?_ GE151.out | refine below_set ?_ GE152.out | refine below_set ?_ GE153.out) | exact HB.out)))); have n6_ := Aside0.mk (blk_below (g := gb149) (o := .cells #[.string (⟨#[82]⟩ : BA), .bool false, .int .i64 250, u150003, .slice none 0 0, .slice none 0 0] 44 (0, 0)) (bkS BK149.out) hb); have n7_ := Aside0.mk (blk_below (g := gb150) (o := .cells #[.string (⟨#[73]⟩ : BA), .bool false, .int .i64 250, u151003, .slice none 0 0, .slice none 0 0] 44 (0, 0)) (bkS BK150.out) hb); have n8_ := Aside0.mk (blk_below (g := gb151) (o := .cells #[.string (⟨#[66]⟩ : BA), .bool false, .int .i64 250, u152003, .slice none 0 0, .slice none 0 0] 44 (0, 0)) (bkS BK151.out) hb); have n9_ := Aside0.mk (blk_below (g := gb152) (o := .cells #[.string (⟨#[77]⟩ : BA), .bool false, .int .i64 600, u153003, .slice none 0 0, .slice none 0 0] 44 (0, 0)) (bkS BK152.out) hb); have n10_ := Aside0.mk (blk_below (g := gb153) (o := .cells #[.string (⟨#[83]⟩ : BA), .bool true, .int .i64 250, .slice none 0 0, .slice none 0 0, .slice none 0 0] 44 (0, 0)) (bkS BK153.out) hb); have n11_ := Aside0.mk (below_step (by repeat (first | (with_reducible first | exact HB.out | apply below_alloc | apply pw_below_drewN | apply below_drew1 | refine below_set ?_ GE149.out | refine below_set ?_ GE150.out | refine below_set ?_ GE151.out | refine below_set ?_ GE152.out | refine below_set ?_ GE153.out) | exact HB.out)) hb); clear HO_9; clear HO_150003; clear HO_151003; clear HO_152003; clear HO_153003; clear BK149; clear BK150; clear BK151; clear BK152; clear BK153; clear HB; have HO_9 := n0_; have HO_150003 := n1_; have HO_151003 := n2_; have HO_152003 := n3_; have HO_153003 := n4_; have HO183 := n5_; have BK149 := n6_; have BK150 := n7_; have BK151 := n8_; have BK152 := n9_; have BK153 := n10_; have HB := n11_; clear n0_ n1_ n2_ n3_ n4_ n5_ n6_ n7_ n8_ n9_ n10_ n11_; clear hb ho84; obtain ⟨Ao85, co85, eo85⟩ := Kd.R_slice HO183.out; subst eo85; have hnb86 := NB149_150.out; have hnc86 := NB150_149.out; have hnb87 := NB149_151.out; have hnc87 := NB151_149.out; have hnb88 := NB149_152.out; have hnc88 := NB152_149.out; have hnb89 := NB149_153.out; have hnc89 := NB153_149.out; have hcz90_0 : w83.cell? ⟨gb149, 0, none⟩ = some (.string (⟨#[82]⟩ : BA)) := (blk_cell BK149.out 0).trans rfl; have hcz90_1 : w83.cell? ⟨gb149, 1, none⟩ = some (.bool false) := (blk_cell BK149.out 1).trans rfl; have hcz90_2 : w83.cell? ⟨gb149, 2, none⟩ = some (.int .i64 250) := (blk_cell BK149.out 2).trans rfl; have hcz90_3 : w83.cell? ⟨gb149, 3, none⟩ = some (u150003) := (blk_cell BK149.out 3).trans rfl; have hcz90_4 : w83.cell? ⟨gb149, 4, none⟩ = some (.slice none 0 0) := (blk_cell BK149.out 4).trans rfl; have hcz90_5 : w83.cell? ⟨gb149, 5, none⟩ = some (.slice none 0 0) := (blk_cell BK149.out 5).trans rfl; have hfz90_0 := blk_frozen BK149.out 0; have hfz90_1 := blk_frozen BK149.out 1; have hfz90_2 := blk_frozen BK149.out 2; have hfz90_3 := blk_frozen BK149.out 3; have hfz90_4 := blk_frozen BK149.out 4; have hfz90_5 := blk_frozen BK149.out 5) | ((with_reducible refine gate_dst (N := 92) rfl ?_); refine Kd.R_lit k83 _ 83 ?hg (N := 92) ?hd (xs := ([(⟨(⟨#[102]⟩ : BA), (⟨#[102]⟩ : BA), (⟨#[102, 102]⟩ : BA)⟩ : S83), (⟨(⟨#[102]⟩ : BA), (⟨#[105]⟩ : BA), (⟨#[102, 105]⟩ : BA)⟩ : S83), (⟨(⟨#[102]⟩ : BA), (⟨#[108]⟩ : BA), (⟨#[102, 108]⟩ : BA)⟩ : S83)] : List (S83))) (inner := [.string (⟨#[102]⟩ : BA), .string (⟨#[102]⟩ : BA), .string (⟨#[102, 102]⟩ : BA), .string (⟨#[102]⟩ : BA), .string (⟨#[105]⟩ : BA), .string (⟨#[102, 105]⟩ : BA), .string (⟨#[102]⟩ : BA), .string (⟨#[108]⟩ : BA), .string (⟨#[102, 108]⟩ : BA)]) (ok := fun _ => True) (okp := fun _ => True) ?hr ?hp (fun _ hk => hk) trivial (Below.refl _ _) (Nat.le_refl _) (by simp) ?_; (case hd => rfl); (case hg => rfl); (case hr => first | (go_simp; done) | (go_simp; rfl)); (case hp => exact (Reps.c3 (show Kd.M k83 _ _ _ (⟨(⟨#[102]⟩ : BA), (⟨#[102]⟩ : BA), (⟨#[102, 102]⟩ : BA)⟩ : S83) [.string (⟨#[102]⟩ : BA), .string (⟨#[102]⟩ : BA), .string (⟨#[102, 102]⟩ : BA)] from (k83_mkM _ _ _ (⟨(⟨#[102]⟩ : BA), (⟨#[102]⟩ : BA), (⟨#[102, 102]⟩ : BA)⟩ : S83) )) (Reps.c3 (show Kd.M k83 _ _ _ (⟨(⟨#[102]⟩ : BA), (⟨#[105]⟩ : BA), (⟨#[102, 105]⟩ : BA)⟩ : S83) [.string (⟨#[102]⟩ : BA), .string (⟨#[105]⟩ : BA), .string (⟨#[102, 105]⟩ : BA)] from (k83_mkM _ _ _ (⟨(⟨#[102]⟩ : BA), (⟨#[105]⟩ : BA), (⟨#[102, 105]⟩ : BA)⟩ : S83) )) (Reps.c3 (show Kd.M k83 _ _ _ (⟨(⟨#[102]⟩ : BA), (⟨#[108]⟩ : BA), (⟨#[102, 108]⟩ : BA)⟩ : S83) [.string (⟨#[102]⟩ : BA), .string (⟨#[108]⟩ : BA), .string (⟨#[102, 108]⟩ : BA)] from (k83_mkM _ _ _ (⟨(⟨#[102]⟩ : BA), (⟨#[108]⟩ : BA), (⟨#[102, 108]⟩ : BA)⟩ : S83) )) (Reps.none _ _))))); intro v185 w91 ho92 hb hg_ hnew_; clear hg_ hnew_; (first | rw [← Ny184.out] at ho92 | (simp only [Int.reduceToNat] at ho92; rw [← Ny184.out] at ho92)); have n0_ := Aside0.mk (Kd.R_below (rkS (Kd.R_mono (Kd.R_far (p := ⟨gb149, 4, none⟩) (Kd.R_types HO_9.out BK149.out (by decide)) (fun _ hk => hk.2) (.slice Ao85 y181.length co85)) (fun _ h_ => h_.1))) hb); have n1_ := Aside0.mk (Kd.R_below (rkS (Kd.R_mono (Kd.R_far (p := ⟨gb149, 4, none⟩) (Kd.R_types HO_150003.out BK149.out (by decide)) (fun _ hk => hk.2) (.slice Ao85 y181.length co85)) (fun _ h_ => h_.1))) hb); have n2_ := Aside0.mk (Kd.R_below (rkS (Kd.R_mono (Kd.R_far (p := ⟨gb149, 4, none⟩) (Kd.R_types HO_151003.out BK149.out (by decide)) (fun _ hk => hk.2) (.slice Ao85 y181.length co85)) (fun _ h_ => h_.1))) hb); have n3_ := Aside0.mk (Kd.R_below (rkS (Kd.R_mono (Kd.R_far (p := ⟨gb149, 4, none⟩) (Kd.R_types HO_152003.out BK149.out (by decide)) (fun _ hk => hk.2) (.slice Ao85 y181.length co85)) (fun _ h_ => h_.1))) hb); have n4_ := Aside0.mk (Kd.R_below (rkS (Kd.R_mono (Kd.R_far (p := ⟨gb149, 4, none⟩) (Kd.R_types HO_153003.out BK149.out (by decide)) (fun _ hk => hk.2) (.slice Ao85 y181.length co85)) (fun _ h_ => h_.1))) hb); have n5_ := Aside0.mk (Kd.R_elder' (rkS (Kd.R_mono (Kd.R_far (p := ⟨gb149, 4, none⟩) (Kd.R_types HO183.out BK149.out (by decide)) (fun _ hk => hk.2) (.slice Ao85 y181.length co85)) (fun _ h_ => h_.1))) (Kd.R_base ho92) hb); have n6_ := Aside0.mk (Kd.R_lower (Kd.R_new' (Kd.R_newM (M := fun k_ => (w.heap.size ≤ k_)) ho92 (below_size (by repeat (first | (with_reducible first | exact HB.out | apply below_alloc | apply pw_below_drewN | apply below_drew1 | refine below_set ?_ GE149.out | refine below_set ?_ GE150.out | refine below_set ?_ GE151.out | refine below_set ?_ GE152.out | refine below_set ?_ GE153.out) | exact HB.out))) (fun k_ h_ => h_)) (Kd.R_lt (rkS (Kd.R_mono (Kd.R_far (p := ⟨gb149, 4, none⟩) (Kd.R_types HO183.out BK149.out (by decide)) (fun _ hk => hk.2) (.slice Ao85 y181.length co85)) (fun _ h_ => h_.1))))) (below_size (by repeat (first | (with_reducible first | exact HB.out | apply below_alloc | apply pw_below_drewN | apply below_drew1 | refine below_set ?_ GE149.out | refine below_set ?_ GE150.out | refine below_set ?_ GE151.out | refine below_set ?_ GE152.out | refine below_set ?_ GE153.out) | exact HB.out)))); have n7_ := Aside0.mk (blk_below (g := gb149) (o := .cells #[.string (⟨#[82]⟩ : BA), .bool false, .int .i64 250, u150003, .slice Ao85 y181.length co85, .slice none 0 0] 44 (0, 0)) (by (with_reducible repeat (first | refine blk_drewN ?_ _ | refine blk_drew ?_ | refine blk_alloc ?_ _)); refine blk_put (cs := #[.string (⟨#[82]⟩ : BA), .bool false, .int .i64 250, u150003, .slice none 0 0, .slice none 0 0]) ?_ 4 _ rfl; (with_reducible repeat (first | refine blk_drewN ?_ _ | refine blk_drew ?_ | refine blk_alloc ?_ _)); exact BK149.out) hb); have n8_ := Aside0.mk (blk_below (g := gb150) (o := .cells #[.string (⟨#[73]⟩ : BA), .bool false, .int .i64 250, u151003, .slice none 0 0, .slice none 0 0] 44 (0, 0)) (by (with_reducible repeat (first | refine blk_drewN ?_ _ | refine blk_drew ?_ | refine blk_alloc ?_ _)); refine blk_far ?_ NB150_149.out _; (with_reducible repeat (first | refine blk_drewN ?_ _ | refine blk_drew ?_ | refine blk_alloc ?_ _)); exact BK150.out) hb); have n9_ := Aside0.mk (blk_below (g := gb151) (o := .cells #[.string (⟨#[66]⟩ : BA), .bool false, .int .i64 250, u152003, .slice none 0 0, .slice none 0 0] 44 (0, 0)) (by (with_reducible repeat (first | refine blk_drewN ?_ _ | refine blk_drew ?_ | refine blk_alloc ?_ _)); refine blk_far ?_ NB151_149.out _; (with_reducible repeat (first | refine blk_drewN ?_ _ | refine blk_drew ?_ | refine blk_alloc ?_ _)); exact BK151.out) hb); have n10_ := Aside0.mk (blk_below (g := gb152) (o := .cells #[.string (⟨#[77]⟩ : BA), .bool false, .int .i64 600, u153003, .slice none 0 0, .slice none 0 0] 44 (0, 0)) (by (with_reducible repeat (first | refine blk_drewN ?_ _ | refine blk_drew ?_ | refine blk_alloc ?_ _)); refine blk_far ?_ NB152_149.out _; (with_reducible repeat (first | refine blk_drewN ?_ _ | refine blk_drew ?_ | refine blk_alloc ?_ _)); exact BK152.out) hb); have n11_ := Aside0.mk (blk_below (g := gb153) (o := .cells #[.string (⟨#[83]⟩ : BA), .bool true, .int .i64 250, .slice none 0 0, .slice none 0 0, .slice none 0 0] 44 (0, 0)) (by (with_reducible repeat (first | refine blk_drewN ?_ _ | refine blk_drew ?_ | refine blk_alloc ?_ _)); refine blk_far ?_ NB153_149.out _; (with_reducible repeat (first | refine blk_drewN ?_ _ | refine blk_drew ?_ | refine blk_alloc ?_ _)); exact BK153.out) hb); have n12_ := Aside0.mk (below_step (by repeat (first | (with_reducible first | exact HB.out | apply below_alloc | apply pw_below_drewN | apply below_drew1 | refine below_set ?_ GE149.out | refine below_set ?_ GE150.out | refine below_set ?_ GE151.out | refine below_set ?_ GE152.out | refine below_set ?_ GE153.out) | exact HB.out)) hb); clear HO_9; clear HO_150003; clear HO_151003; clear HO_152003; clear HO_153003; clear HO183; clear BK149; clear BK150; clear BK151; clear BK152; clear BK153; clear HB; have HO_9 := n0_; have HO_150003 := n1_; have HO_151003 := n2_; have HO_152003 := n3_; have HO_153003 := n4_; have HO183 := n5_; have HO186 := n6_; have BK149 := n7_; have BK150 := n8_; have BK151 := n9_; have BK152 := n10_; have BK153 := n11_; have HB := n12_; clear n0_ n1_ n2_ n3_ n4_ n5_ n6_ n7_ n8_ n9_ n10_ n11_ n12_; clear hb ho92; obtain ⟨Ao93, co93, eo93⟩ := Kd.R_slice HO186.out; subst eo93; have hnb94 := NB151_150.out; have hnc94 := NB150_151.out; have hnb95 := NB151_152.out; have hnc95 := NB152_151.out; have hnb96 := NB151_153.out; have hnc96 := NB153_151.out; have hcz97_0 : w91.cell? ⟨gb151, 0, none⟩ = some (.string (⟨#[66]⟩ : BA)) := (blk_cell BK151.out 0).trans rfl; have hcz97_1 : w91.cell? ⟨gb151, 1, none⟩ = some (.bool false) := (blk_cell BK151.out 1).trans rfl; have hcz97_2 : w91.cell? ⟨gb151, 2, none⟩ = some (.int .i64 250) := (blk_cell BK151.out 2).trans rfl; have hcz97_3 : w91.cell? ⟨gb151, 3, none⟩ = some (u152003) := (blk_cell BK151.out 3).trans rfl; have hcz97_4 : w91.cell? ⟨gb151, 4, none⟩ = some (.slice none 0 0) := (blk_cell BK151.out 4).trans rfl; have hcz97_5 : w91.cell? ⟨gb151, 5, none⟩ = some (.slice none 0 0) := (blk_cell BK151.out 5).trans rfl; have hfz97_0 := blk_frozen BK151.out 0; have hfz97_1 := blk_frozen BK151.out 1; have hfz97_2 := blk_frozen BK151.out 2; have hfz97_3 := blk_frozen BK151.out 3; have hfz97_4 := blk_frozen BK151.out 4; have hfz97_5 := blk_frozen BK151.out 5) | ((with_reducible refine gate_dst (N := 99) rfl ?_); refine Kd.R_lit k84 _ 84 ?hg (N := 99) ?hd (xs := ([(⟨(⟨#[65]⟩ : BA), (⟨#[86]⟩ : BA), (-80)⟩ : S84), (⟨(⟨#[65]⟩ : BA), (⟨#[87]⟩ : BA), (-60)⟩ : S84), (⟨(⟨#[84]⟩ : BA), (⟨#[111]⟩ : BA), (-70)⟩ : S84), (⟨(⟨#[86]⟩ : BA), (⟨#[65]⟩ : BA), (-80)⟩ : S84), (⟨(⟨#[89]⟩ : BA), (⟨#[111]⟩ : BA), (-90)⟩ : S84)] : List (S84))) (inner := [.string (⟨#[65]⟩ : BA), .string (⟨#[86]⟩ : BA), .int .i64 (-80), .string (⟨#[65]⟩ : BA), .string (⟨#[87]⟩ : BA), .int .i64 (-60), .string (⟨#[84]⟩ : BA), .string (⟨#[111]⟩ : BA), .int .i64 (-70), .string (⟨#[86]⟩ : BA), .string (⟨#[65]⟩ : BA), .int .i64 (-80), .string (⟨#[89]⟩ : BA), .string (⟨#[111]⟩ : BA), .int .i64 (-90)]) (ok := fun _ => True) (okp := fun _ => True) ?hr ?hp (fun _ hk => hk) trivial (Below.refl _ _) (Nat.le_refl _) (by simp) ?_; (case hd => rfl); (case hg => rfl); (case hr => first | (go_simp; done) | (go_simp; rfl)); (case hp => exact (Reps.c3 (show Kd.M k84 _ _ _ (⟨(⟨#[65]⟩ : BA), (⟨#[86]⟩ : BA), (-80)⟩ : S84) [.string (⟨#[65]⟩ : BA), .string (⟨#[86]⟩ : BA), .int .i64 (-80)] from (k84_mkM _ _ _ (⟨(⟨#[65]⟩ : BA), (⟨#[86]⟩ : BA), (-80)⟩ : S84) )) (Reps.c3 (show Kd.M k84 _ _ _ (⟨(⟨#[65]⟩ : BA), (⟨#[87]⟩ : BA), (-60)⟩ : S84) [.string (⟨#[65]⟩ : BA), .string (⟨#[87]⟩ : BA), .int .i64 (-60)] from (k84_mkM _ _ _ (⟨(⟨#[65]⟩ : BA), (⟨#[87]⟩ : BA), (-60)⟩ : S84) )) (Reps.c3 (show Kd.M k84 _ _ _ (⟨(⟨#[84]⟩ : BA), (⟨#[111]⟩ : BA), (-70)⟩ : S84) [.string (⟨#[84]⟩ : BA), .string (⟨#[111]⟩ : BA), .int .i64 (-70)] from (k84_mkM _ _ _ (⟨(⟨#[84]⟩ : BA), (⟨#[111]⟩ : BA), (-70)⟩ : S84) )) (Reps.c3 (show Kd.M k84 _ _ _ (⟨(⟨#[86]⟩ : BA), (⟨#[65]⟩ : BA), (-80)⟩ : S84) [.string (⟨#[86]⟩ : BA), .string (⟨#[65]⟩ : BA), .int .i64 (-80)] from (k84_mkM _ _ _ (⟨(⟨#[86]⟩ : BA), (⟨#[65]⟩ : BA), (-80)⟩ : S84) )) (Reps.c3 (show Kd.M k84 _ _ _ (⟨(⟨#[89]⟩ : BA), (⟨#[111]⟩ : BA), (-90)⟩ : S84) [.string (⟨#[89]⟩ : BA), .string (⟨#[111]⟩ : BA), .int .i64 (-90)] from (k84_mkM _ _ _ (⟨(⟨#[89]⟩ : BA), (⟨#[111]⟩ : BA), (-90)⟩ : S84) )) (Reps.none _ _))))))); intro v188 w98 ho99 hb hg_ hnew_; clear hg_ hnew_; (first | rw [← Ny187.out] at ho99 | (simp only [Int.reduceToNat] at ho99; rw [← Ny187.out] at ho99)); have n0_ := Aside0.mk (Kd.R_below (rkS (Kd.R_mono (Kd.R_far (p := ⟨gb151, 4, none⟩) (Kd.R_types HO_9.out BK151.out (by decide)) (fun _ hk => hk.2) (.slice Ao93 y184.length co93)) (fun _ h_ => h_.1))) hb); have n1_ := Aside0.mk (Kd.R_below (rkS (Kd.R_mono (Kd.R_far (p := ⟨gb151, 4, none⟩) (Kd.R_types HO_150003.out BK151.out (by decide)) (fun _ hk => hk.2) (.slice Ao93 y184.length co93)) (fun _ h_ => h_.1))) hb); have n2_ := Aside0.mk (Kd.R_below (rkS (Kd.R_mono (Kd.R_far (p := ⟨gb151, 4, none⟩) (Kd.R_types HO_151003.out BK151.out (by decide)) (fun _ hk => hk.2) (.slice Ao93 y184.length co93)) (fun _ h_ => h_.1))) hb); have n3_ := Aside0.mk (Kd.R_below (rkS (Kd.R_mono (Kd.R_far (p := ⟨gb151, 4, none⟩) (Kd.R_types HO_152003.out BK151.out (by decide)) (fun _ hk => hk.2) (.slice Ao93 y184.length co93)) (fun _ h_ => h_.1))) hb); have n4_ := Aside0.mk (Kd.R_below (rkS (Kd.R_mono (Kd.R_far (p := ⟨gb151, 4, none⟩) (Kd.R_types HO_153003.out BK151.out (by decide)) (fun _ hk => hk.2) (.slice Ao93 y184.length co93)) (fun _ h_ => h_.1))) hb); have n5_ := Aside0.mk (Kd.R_below (rkS (Kd.R_mono (Kd.R_far (p := ⟨gb151, 4, none⟩) (Kd.R_types HO183.out BK151.out (by decide)) (fun _ hk => hk.2) (.slice Ao93 y184.length co93)) (fun _ h_ => h_.1))) hb); have n6_ := Aside0.mk (Kd.R_below (rkS (Kd.R_mono (Kd.R_far (p := ⟨gb151, 4, none⟩) (Kd.R_types HO186.out BK151.out (by decide)) (fun _ hk => hk.2) (.slice Ao93 y184.length co93)) (fun _ h_ => h_.1))) hb); have n7_ := Aside0.mk (Kd.R_lower (Kd.R_newM (M := fun k_ => (w.heap.size ≤ k_)) ho99 (below_size (by repeat (first | (with_reducible first | exact HB.out | apply below_alloc | apply pw_below_drewN | apply below_drew1 | refine below_set ?_ GE149.out | refine below_set ?_ GE150.out | refine below_set ?_ GE151.out | refine below_set ?_ GE152.out | refine below_set ?_ GE153.out) | exact HB.out))) (fun k_ h_ => h_)) (below_size (by repeat (first | (with_reducible first | exact HB.out | apply below_alloc | apply pw_below_drewN | apply below_drew1 | refine below_set ?_ GE149.out | refine below_set ?_ GE150.out | refine below_set ?_ GE151.out | refine below_set ?_ GE152.out | refine below_set ?_ GE153.out) | exact HB.out)))); have n8_ := Aside0.mk (blk_below (g := gb149) (o := .cells #[.string (⟨#[82]⟩ : BA), .bool false, .int .i64 250, u150003, .slice Ao85 y181.length co85, .slice none 0 0] 44 (0, 0)) (by (with_reducible repeat (first | refine blk_drewN ?_ _ | refine blk_drew ?_ | refine blk_alloc ?_ _)); refine blk_far ?_ NB149_151.out _; (with_reducible repeat (first | refine blk_drewN ?_ _ | refine blk_drew ?_ | refine blk_alloc ?_ _)); exact BK149.out) hb); have n9_ := Aside0.mk (blk_below (g := gb150) (o := .cells #[.string (⟨#[73]⟩ : BA), .bool false, .int .i64 250, u151003, .slice none 0 0, .slice none 0 0] 44 (0, 0)) (by (with_reducible repeat (first | refine blk_drewN ?_ _ | refine blk_drew ?_ | refine blk_alloc ?_ _)); refine blk_far ?_ NB150_151.out _; (with_reducible repeat (first | refine blk_drewN ?_ _ | refine blk_drew ?_ | refine blk_alloc ?_ _)); exact BK150.out) hb); have n10_ := Aside0.mk (blk_below (g := gb151) (o := .cells #[.string (⟨#[66]⟩ : BA), .bool false, .int .i64 250, u152003, .slice Ao93 y184.length co93, .slice none 0 0] 44 (0, 0)) (by (with_reducible repeat (first | refine blk_drewN ?_ _ | refine blk_drew ?_ | refine blk_alloc ?_ _)); refine blk_put (cs := #[.string (⟨#[66]⟩ : BA), .bool false, .int .i64 250, u152003, .slice none 0 0, .slice none 0 0]) ?_ 4 _ rfl; (with_reducible repeat (first | refine blk_drewN ?_ _ | refine blk_drew ?_ | refine blk_alloc ?_ _)); exact BK151.out) hb); have n11_ := Aside0.mk (blk_below (g := gb152) (o := .cells #[.string (⟨#[77]⟩ : BA), .bool false, .int .i64 600, u153003, .slice none 0 0, .slice none 0 0] 44 (0, 0)) (by (with_reducible repeat (first | refine blk_drewN ?_ _ | refine blk_drew ?_ | refine blk_alloc ?_ _)); refine blk_far ?_ NB152_151.out _; (with_reducible repeat (first | refine blk_drewN ?_ _ | refine blk_drew ?_ | refine blk_alloc ?_ _)); exact BK152.out) hb); have n12_ := Aside0.mk (blk_below (g := gb153) (o := .cells #[.string (⟨#[83]⟩ : BA), .bool true, .int .i64 250, .slice none 0 0, .slice none 0 0, .slice none 0 0] 44 (0, 0)) (by (with_reducible repeat (first | refine blk_drewN ?_ _ | refine blk_drew ?_ | refine blk_alloc ?_ _)); refine blk_far ?_ NB153_151.out _; (with_reducible repeat (first | refine blk_drewN ?_ _ | refine blk_drew ?_ | refine blk_alloc ?_ _)); exact BK153.out) hb); have n13_ := Aside0.mk (below_step (by repeat (first | (with_reducible first | exact HB.out | apply below_alloc | apply pw_below_drewN | apply below_drew1 | refine below_set ?_ GE149.out | refine below_set ?_ GE150.out | refine below_set ?_ GE151.out | refine below_set ?_ GE152.out | refine below_set ?_ GE153.out) | exact HB.out)) hb); clear HO_9; clear HO_150003; clear HO_151003; clear HO_152003; clear HO_153003; clear HO183; clear HO186; clear BK149; clear BK150; clear BK151; clear BK152; clear BK153; clear HB; have HO_9 := n0_; have HO_150003 := n1_; have HO_151003 := n2_; have HO_152003 := n3_; have HO_153003 := n4_; have HO183 := n5_; have HO186 := n6_; have HO189 := n7_; have BK149 := n8_; have BK150 := n9_; have BK151 := n10_; have BK152 := n11_; have BK153 := n12_; have HB := n13_; clear n0_ n1_ n2_ n3_ n4_ n5_ n6_ n7_ n8_ n9_ n10_ n11_ n12_ n13_; clear hb ho99; obtain ⟨Ao100, co100, eo100⟩ := Kd.R_slice HO189.out; subst eo100; have hcz101_0 : w98.cell? ⟨gb149, 0, none⟩ = some (.string (⟨#[82]⟩ : BA)) := (blk_cell BK149.out 0).trans rfl; have hcz101_1 : w98.cell? ⟨gb149, 1, none⟩ = some (.bool false) := (blk_cell BK149.out 1).trans rfl; have hcz101_2 : w98.cell? ⟨gb149, 2, none⟩ = some (.int .i64 250) := (blk_cell BK149.out 2).trans rfl; have hcz101_3 : w98.cell? ⟨gb149, 3, none⟩ = some (u150003) := (blk_cell BK149.out 3).trans rfl; have hcz101_4 : w98.cell? ⟨gb149, 4, none⟩ = some (.slice Ao85 y181.length co85) := (blk_cell BK149.out 4).trans rfl; have hcz101_5 : w98.cell? ⟨gb149, 5, none⟩ = some (.slice none 0 0) := (blk_cell BK149.out 5).trans rfl; have hfz101_0 := blk_frozen BK149.out 0; have hfz101_1 := blk_frozen BK149.out 1; have hfz101_2 := blk_frozen BK149.out 2; have hfz101_3 := blk_frozen BK149.out 3; have hfz101_4 := blk_frozen BK149.out 4; have hfz101_5 := blk_frozen BK149.out 5) | ((with_reducible refine gate_callee (f := 39) rfl ?_); refine goesL_ (some 101) rfl rfl Tryz.func39 (by kernel_rfl) rfl #[] rfl (by (try simp only [List.map_toArray, List.map_cons, List.map_nil]); first | done | rfl | (simp only [List.length_drop, List.length_take]; rfl)) ?_; (with_reducible refine (frisketref07_symbols.calls  t190 _ A81.out).mono ?_); rintro e w102 ⟨v191, rfl, ho0, hb⟩; refine ⟨_, rfl, ?_⟩; have n0_ := Aside0.mk (Kd.R_below (rkS (Kd.R_mono (Kd.R_far (p := ⟨gb149, 5, none⟩) (Kd.R_types HO_9.out BK149.out (by decide)) (fun _ hk => hk.2) (.slice Ao100 y187.length co100)) (fun _ h_ => h_.1))) hb); have n1_ := Aside0.mk (Kd.R_elder' (rkS (Kd.R_mono (Kd.R_far (p := ⟨gb149, 5, none⟩) (Kd.R_types HO_150003.out BK149.out (by decide)) (fun _ hk => hk.2) (.slice Ao100 y187.length co100)) (fun _ h_ => h_.1))) (Kd.R_base ho0) hb); have n2_ := Aside0.mk (Kd.R_elder' (rkS (Kd.R_mono (Kd.R_far (p := ⟨gb149, 5, none⟩) (Kd.R_types HO_151003.out BK149.out (by decide)) (fun _ hk => hk.2) (.slice Ao100 y187.length co100)) (fun _ h_ => h_.1))) (Kd.R_base ho0) hb); have n3_ := Aside0.mk (Kd.R_elder' (rkS (Kd.R_mono (Kd.R_far (p := ⟨gb149, 5, none⟩) (Kd.R_types HO_152003.out BK149.out (by decide)) (fun _ hk => hk.2) (.slice Ao100 y187.length co100)) (fun _ h_ => h_.1))) (Kd.R_base ho0) hb); have n4_ := Aside0.mk (Kd.R_elder' (rkS (Kd.R_mono (Kd.R_far (p := ⟨gb149, 5, none⟩) (Kd.R_types HO_153003.out BK149.out (by decide)) (fun _ hk => hk.2) (.slice Ao100 y187.length co100)) (fun _ h_ => h_.1))) (Kd.R_base ho0) hb); have n5_ := Aside0.mk (Kd.R_below (rkS (Kd.R_mono (Kd.R_far (p := ⟨gb149, 5, none⟩) (Kd.R_types HO183.out BK149.out (by decide)) (fun _ hk => hk.2) (.slice Ao100 y187.length co100)) (fun _ h_ => h_.1))) hb); have n6_ := Aside0.mk (Kd.R_below (rkS (Kd.R_mono (Kd.R_far (p := ⟨gb149, 5, none⟩) (Kd.R_types HO186.out BK149.out (by decide)) (fun _ hk => hk.2) (.slice Ao100 y187.length co100)) (fun _ h_ => h_.1))) hb); have n7_ := Aside0.mk (Kd.R_below (rkS (Kd.R_mono (Kd.R_far (p := ⟨gb149, 5, none⟩) (Kd.R_types HO189.out BK149.out (by decide)) (fun _ hk => hk.2) (.slice Ao100 y187.length co100)) (fun _ h_ => h_.1))) hb); have n8_ := Aside0.mk (Kd.R_lower (Kd.R_new' (Kd.R_new' (Kd.R_new' (Kd.R_new' (Kd.R_newM (M := fun k_ => (w.heap.size ≤ k_)) ho0 (below_size (by repeat (first | (with_reducible first | exact HB.out | apply below_alloc | apply pw_below_drewN | apply below_drew1 | refine below_set ?_ GE149.out | refine below_set ?_ GE150.out | refine below_set ?_ GE151.out | refine below_set ?_ GE152.out | refine below_set ?_ GE153.out) | exact HB.out))) (fun k_ h_ => h_)) (Kd.R_lt (rkS (Kd.R_mono (Kd.R_far (p := ⟨gb149, 5, none⟩) (Kd.R_types HO_150003.out BK149.out (by decide)) (fun _ hk => hk.2) (.slice Ao100 y187.length co100)) (fun _ h_ => h_.1))))) (Kd.R_lt (rkS (Kd.R_mono (Kd.R_far (p := ⟨gb149, 5, none⟩) (Kd.R_types HO_151003.out BK149.out (by decide)) (fun _ hk => hk.2) (.slice Ao100 y187.length co100)) (fun _ h_ => h_.1))))) (Kd.R_lt (rkS (Kd.R_mono (Kd.R_far (p := ⟨gb149, 5, none⟩) (Kd.R_types HO_152003.out BK149.out (by decide)) (fun _ hk => hk.2) (.slice Ao100 y187.length co100)) (fun _ h_ => h_.1))))) (Kd.R_lt (rkS (Kd.R_mono (Kd.R_far (p := ⟨gb149, 5, none⟩) (Kd.R_types HO_153003.out BK149.out (by decide)) (fun _ hk => hk.2) (.slice Ao100 y187.length co100)) (fun _ h_ => h_.1))))) (below_size (by repeat (first | (with_reducible first | exact HB.out | apply below_alloc | apply pw_below_drewN | apply below_drew1 | refine below_set ?_ GE149.out | refine below_set ?_ GE150.out | refine below_set ?_ GE151.out | refine below_set ?_ GE152.out | refine below_set ?_ GE153.out) | exact HB.out)))); have n9_ := Aside0.mk (blk_below (g := gb149) (o := .cells #[.string (⟨#[82]⟩ : BA), .bool false, .int .i64 250, u150003, .slice Ao85 y181.length co85, .slice Ao100 y187.length co100] 44 (0, 0)) (by (with_reducible repeat (first | refine blk_drewN ?_ _ | refine blk_drew ?_ | refine blk_alloc ?_ _)); refine blk_put (cs := #[.string (⟨#[82]⟩ : BA), .bool false, .int .i64 250, u150003, .slice Ao85 y181.length co85, .slice none 0 0]) ?_ 5 _ rfl; (with_reducible repeat (first | refine blk_drewN ?_ _ | refine blk_drew ?_ | refine blk_alloc ?_ _)); exact BK149.out) hb); have n10_ := Aside0.mk (blk_below (g := gb150) (o := .cells #[.string (⟨#[73]⟩ : BA), .bool false, .int .i64 250, u151003, .slice none 0 0, .slice none 0 0] 44 (0, 0)) (by (with_reducible repeat (first | refine blk_drewN ?_ _ | refine blk_drew ?_ | refine blk_alloc ?_ _)); refine blk_far ?_ NB150_149.out _; (with_reducible repeat (first | refine blk_drewN ?_ _ | refine blk_drew ?_ | refine blk_alloc ?_ _)); exact BK150.out) hb); have n11_ := Aside0.mk (blk_below (g := gb151) (o := .cells #[.string (⟨#[66]⟩ : BA), .bool false, .int .i64 250, u152003, .slice Ao93 y184.length co93, .slice none 0 0] 44 (0, 0)) (by (with_reducible repeat (first | refine blk_drewN ?_ _ | refine blk_drew ?_ | refine blk_alloc ?_ _)); refine blk_far ?_ NB151_149.out _; (with_reducible repeat (first | refine blk_drewN ?_ _ | refine blk_drew ?_ | refine blk_alloc ?_ _)); exact BK151.out) hb); have n12_ := Aside0.mk (blk_below (g := gb152) (o := .cells #[.string (⟨#[77]⟩ : BA), .bool false, .int .i64 600, u153003, .slice none 0 0, .slice none 0 0] 44 (0, 0)) (by (with_reducible repeat (first | refine blk_drewN ?_ _ | refine blk_drew ?_ | refine blk_alloc ?_ _)); refine blk_far ?_ NB152_149.out _; (with_reducible repeat (first | refine blk_drewN ?_ _ | refine blk_drew ?_ | refine blk_alloc ?_ _)); exact BK152.out) hb); have n13_ := Aside0.mk (blk_below (g := gb153) (o := .cells #[.string (⟨#[83]⟩ : BA), .bool true, .int .i64 250, .slice none 0 0, .slice none 0 0, .slice none 0 0] 44 (0, 0)) (by (with_reducible repeat (first | refine blk_drewN ?_ _ | refine blk_drew ?_ | refine blk_alloc ?_ _)); refine blk_far ?_ NB153_149.out _; (with_reducible repeat (first | refine blk_drewN ?_ _ | refine blk_drew ?_ | refine blk_alloc ?_ _)); exact BK153.out) hb); have n14_ := Aside0.mk (below_step (by repeat (first | (with_reducible first | exact HB.out | apply below_alloc | apply pw_below_drewN | apply below_drew1 | refine below_set ?_ GE149.out | refine below_set ?_ GE150.out | refine below_set ?_ GE151.out | refine below_set ?_ GE152.out | refine below_set ?_ GE153.out) | exact HB.out)) hb); clear HO_9; clear HO_150003; clear HO_151003; clear HO_152003; clear HO_153003; clear HO183; clear HO186; clear HO189; clear BK149; clear BK150; clear BK151; clear BK152; clear BK153; clear HB; have HO_9 := n0_; have HO_150003 := n1_; have HO_151003 := n2_; have HO_152003 := n3_; have HO_153003 := n4_; have HO183 := n5_; have HO186 := n6_; have HO189 := n7_; have HO192 := n8_; have BK149 := n9_; have BK150 := n10_; have BK151 := n11_; have BK152 := n12_; have BK153 := n13_; have HB := n14_; clear n0_ n1_ n2_ n3_ n4_ n5_ n6_ n7_ n8_ n9_ n10_ n11_ n12_ n13_ n14_; (try clear hb); (try clear hb2); (try clear hk); (try clear hi); (try clear ho0)))
       go_loopg [12] k2 (fun kq v12 w' => ∃ (x12_3 : Int) (x154003_3 : List (S81)) (u154003 : Value), v12 = .int .i64 x12_3 ∧ Aside0 (frisketref07_Standard.l2 kq t190 x12_3 (⟨#[82]⟩ : BA) false 250 x150003_2 y181 y187 (⟨#[73]⟩ : BA) false 250 x151003_1 (⟨#[66]⟩ : BA) false 250 x152003_2 y184 (⟨#[77]⟩ : BA) false 600 x153003_1 (⟨#[83]⟩ : BA) true 250 x154003_3 = some r) ∧ Aside0 (kq ≤ k2) ∧ Aside0 (Kd.R k81 81 w' w.heap.size (fun k_ => (w.heap.size ≤ k_) ∧ some k_ ≠ (u150003 : Value).ownBlock ∧ some k_ ≠ (u151003 : Value).ownBlock ∧ some k_ ≠ (u152003 : Value).ownBlock ∧ some k_ ≠ (u153003 : Value).ownBlock ∧ some k_ ≠ (u154003 : Value).ownBlock) v191 t190) ∧ Aside0 (Kd.R k81 81 w' w.heap.size (fun k_ => (w.heap.size ≤ k_) ∧ some k_ ≠ (v191 : Value).ownBlock ∧ some k_ ≠ (u151003 : Value).ownBlock ∧ some k_ ≠ (u152003 : Value).ownBlock ∧ some k_ ≠ (u153003 : Value).ownBlock ∧ some k_ ≠ (u154003 : Value).ownBlock) u150003 x150003_2) ∧ Aside0 (Kd.R k83 83 w' w.heap.size (fun k_ => (w.heap.size ≤ k_) ∧ some k_ ≠ ((.slice Ao93 y184.length co93) : Value).ownBlock) (.slice Ao85 y181.length co85) y181) ∧ Aside0 (Kd.R k84 84 w' w.heap.size (fun k_ => (w.heap.size ≤ k_)) (.slice Ao100 y187.length co100) y187) ∧ Aside0 (Kd.R k81 81 w' w.heap.size (fun k_ => (w.heap.size ≤ k_) ∧ some k_ ≠ (v191 : Value).ownBlock ∧ some k_ ≠ (u150003 : Value).ownBlock ∧ some k_ ≠ (u152003 : Value).ownBlock ∧ some k_ ≠ (u153003 : Value).ownBlock ∧ some k_ ≠ (u154003 : Value).ownBlock) u151003 x151003_1) ∧ Aside0 (Kd.R k81 81 w' w.heap.size (fun k_ => (w.heap.size ≤ k_) ∧ some k_ ≠ (v191 : Value).ownBlock ∧ some k_ ≠ (u150003 : Value).ownBlock ∧ some k_ ≠ (u151003 : Value).ownBlock ∧ some k_ ≠ (u153003 : Value).ownBlock ∧ some k_ ≠ (u154003 : Value).ownBlock) u152003 x152003_2) ∧ Aside0 (Kd.R k83 83 w' w.heap.size (fun k_ => (w.heap.size ≤ k_) ∧ some k_ ≠ ((.slice Ao85 y181.length co85) : Value).ownBlock) (.slice Ao93 y184.length co93) y184) ∧ Aside0 (Kd.R k81 81 w' w.heap.size (fun k_ => (w.heap.size ≤ k_) ∧ some k_ ≠ (v191 : Value).ownBlock ∧ some k_ ≠ (u150003 : Value).ownBlock ∧ some k_ ≠ (u151003 : Value).ownBlock ∧ some k_ ≠ (u152003 : Value).ownBlock ∧ some k_ ≠ (u154003 : Value).ownBlock) u153003 x153003_1) ∧ Aside0 (Kd.R k81 81 w' w.heap.size (fun k_ => (w.heap.size ≤ k_) ∧ some k_ ≠ (v191 : Value).ownBlock ∧ some k_ ≠ (u150003 : Value).ownBlock ∧ some k_ ≠ (u151003 : Value).ownBlock ∧ some k_ ≠ (u152003 : Value).ownBlock ∧ some k_ ≠ (u153003 : Value).ownBlock) u154003 x154003_3) ∧ Aside0 (w'.heap[gb149]? = some (.cells #[.string (⟨#[82]⟩ : BA), .bool false, .int .i64 250, u150003, (.slice Ao85 y181.length co85), (.slice Ao100 y187.length co100)] 44 (0, 0))) ∧ Aside0 (w'.heap[gb150]? = some (.cells #[.string (⟨#[73]⟩ : BA), .bool false, .int .i64 250, u151003, (.slice none 0 0), (.slice none 0 0)] 44 (0, 0))) ∧ Aside0 (w'.heap[gb151]? = some (.cells #[.string (⟨#[66]⟩ : BA), .bool false, .int .i64 250, u152003, (.slice Ao93 y184.length co93), (.slice none 0 0)] 44 (0, 0))) ∧ Aside0 (w'.heap[gb152]? = some (.cells #[.string (⟨#[77]⟩ : BA), .bool false, .int .i64 600, u153003, (.slice none 0 0), (.slice none 0 0)] 44 (0, 0))) ∧ Aside0 (w'.heap[gb153]? = some (.cells #[.string (⟨#[83]⟩ : BA), .bool true, .int .i64 250, u154003, (.slice none 0 0), (.slice none 0 0)] 44 (0, 0))) ∧ Aside0 (Below w.heap.size w w'))
       case atStart => exact ⟨(0), (([] : List (S81))), (.slice none 0 0), (by first | rfl | (simp; done) | (simp [*]; done)), H', ⟨Nat.le_refl _⟩, ⟨by (with_reducible repeat (first | apply Kd.R_alloc | apply Kd.R_drewN | apply Kd.R_drew)); exact Kd.R_mono HO192.out (fun _ hk => ⟨hk.1.1.1.1.1, ⟨hk.1.1.1.2, ⟨hk.1.1.2, ⟨hk.1.2, ⟨hk.2, (by simp [Value.ownBlock])⟩⟩⟩⟩⟩)⟩, ⟨by (with_reducible repeat (first | apply Kd.R_alloc | apply Kd.R_drewN | apply Kd.R_drew)); exact Kd.R_mono HO_150003.out (fun _ hk => ⟨hk.1.1, ⟨hk.2, ⟨hk.1.2.1, ⟨hk.1.2.2.1, ⟨hk.1.2.2.2, (by simp [Value.ownBlock])⟩⟩⟩⟩⟩)⟩, ⟨by (with_reducible repeat (first | apply Kd.R_alloc | apply Kd.R_drewN | apply Kd.R_drew)); exact Kd.R_mono HO183.out (fun _ hk => ⟨hk.1.1, hk.2⟩)⟩, ⟨by (with_reducible repeat (first | apply Kd.R_alloc | apply Kd.R_drewN | apply Kd.R_drew)); exact Kd.R_mono HO189.out (fun _ hk => hk.1)⟩, ⟨by (with_reducible repeat (first | apply Kd.R_alloc | apply Kd.R_drewN | apply Kd.R_drew)); exact Kd.R_mono HO_151003.out (fun _ hk => ⟨hk.1.1, ⟨hk.2, ⟨hk.1.2.1, ⟨hk.1.2.2.1, ⟨hk.1.2.2.2, (by simp [Value.ownBlock])⟩⟩⟩⟩⟩)⟩, ⟨by (with_reducible repeat (first | apply Kd.R_alloc | apply Kd.R_drewN | apply Kd.R_drew)); exact Kd.R_mono HO_152003.out (fun _ hk => ⟨hk.1.1, ⟨hk.2, ⟨hk.1.2.1, ⟨hk.1.2.2.1, ⟨hk.1.2.2.2, (by simp [Value.ownBlock])⟩⟩⟩⟩⟩)⟩, ⟨by (with_reducible repeat (first | apply Kd.R_alloc | apply Kd.R_drewN | apply Kd.R_drew)); exact Kd.R_mono HO186.out (fun _ hk => ⟨hk.1.1, hk.2⟩)⟩, ⟨by (with_reducible repeat (first | apply Kd.R_alloc | apply Kd.R_drewN | apply Kd.R_drew)); exact Kd.R_mono HO_153003.out (fun _ hk => ⟨hk.1.1, ⟨hk.2, ⟨hk.1.2.1, ⟨hk.1.2.2.1, ⟨hk.1.2.2.2, (by simp [Value.ownBlock])⟩⟩⟩⟩⟩)⟩, ⟨by first | exact Kd.R_nil _ _ _ _ _ | exact Kd.N_nil _ _ _ _ _ | exact Kd.V_nil _ _ _ _ _ | exact Kd.Q_nil _ _ _ _ _ | exact Kd.S_nil _ _ _ _ _⟩, ⟨by (with_reducible repeat (first | refine blk_drewN ?_ _ | refine blk_drew ?_ | refine blk_alloc ?_ _)); exact BK149.out⟩, ⟨by (with_reducible repeat (first | refine blk_drewN ?_ _ | refine blk_drew ?_ | refine blk_alloc ?_ _)); exact BK150.out⟩, ⟨by (with_reducible repeat (first | refine blk_drewN ?_ _ | refine blk_drew ?_ | refine blk_alloc ?_ _)); exact BK151.out⟩, ⟨by (with_reducible repeat (first | refine blk_drewN ?_ _ | refine blk_drew ?_ | refine blk_alloc ?_ _)); exact BK152.out⟩, ⟨by (with_reducible repeat (first | refine blk_drewN ?_ _ | refine blk_drew ?_ | refine blk_alloc ?_ _)); exact BK153.out⟩, ⟨by repeat (first | (with_reducible first | exact HB.out | apply below_alloc | apply pw_below_drewN | apply below_drew1 | refine below_set ?_ GE149.out | refine below_set ?_ GE150.out | refine below_set ?_ GE151.out | refine below_set ?_ GE152.out | refine below_set ?_ GE153.out) | exact HB.out)⟩⟩
       case round =>
        clear H'
        try clear p1
        try clear q1
        try clear hx1
        try clear p2
        try clear c3
        try clear c6
        try clear p6
        try clear c8
        try clear c9
        try clear p17
        try clear q17
        try clear hx17
        try clear c38
        try clear c39
        try clear p64
        try clear c65
        try clear c65b0
        try clear c66
        try clear c66b0
        try clear c86
        try clear c87
        try clear c88
        try clear c89
        try clear c94
        try clear c95
        try clear c96
        try clear hcz101_0
        try clear hcz101_1
        try clear hcz101_2
        try clear hcz101_3
        try clear hcz101_4
        try clear hcz101_5
        try clear hcz37_5
        try clear hcz41_0
        try clear hcz41_1
        try clear hcz41_2
        try clear hcz41_3
        try clear hcz41_4
        try clear hcz41_5
        try clear hcz45_0
        try clear hcz45_1
        try clear hcz45_2
        try clear hcz45_3
        try clear hcz45_4
        try clear hcz45_5
        try clear hcz49_0
        try clear hcz49_1
        try clear hcz49_2
        try clear hcz49_3
        try clear hcz49_4
        try clear hcz49_5
        try clear hcz52_0
        try clear hcz52_1
        try clear hcz52_2
        try clear hcz52_3
        try clear hcz52_4
        try clear hcz52_5
        try clear hcz56_0
        try clear hcz56_1
        try clear hcz56_2
        try clear hcz56_3
        try clear hcz56_4
        try clear hcz56_5
        try clear hcz58_0
        try clear hcz58_1
        try clear hcz58_2
        try clear hcz58_3
        try clear hcz58_4
        try clear hcz58_5
        try clear hcz62_0
        try clear hcz62_1
        try clear hcz62_2
        try clear hcz62_3
        try clear hcz62_4
        try clear hcz62_5
        try clear hcz90_0
        try clear hcz90_1
        try clear hcz90_2
        try clear hcz90_3
        try clear hcz90_4
        try clear hcz90_5
        try clear hcz97_0
        try clear hcz97_1
        try clear hcz97_2
        try clear hcz97_3
        try clear hcz97_4
        try clear hcz97_5
        try clear hfz101_0
        try clear hfz101_1
        try clear hfz101_2
        try clear hfz101_3
        try clear hfz101_4
        try clear hfz101_5
        try clear hfz10_0
        try clear hfz10_1
        try clear hfz10_2
        try clear hfz10_3
        try clear hfz10_4
        try clear hfz10_5
        try clear hfz14_0
        try clear hfz14_1
        try clear hfz14_2
        try clear hfz14_3
        try clear hfz14_4
        try clear hfz14_5
        try clear hfz17_0
        try clear hfz17_1
        try clear hfz17_2
        try clear hfz17_3
        try clear hfz17_4
        try clear hfz17_5
        try clear hfz19_0
        try clear hfz19_1
        try clear hfz19_2
        try clear hfz19_3
        try clear hfz19_4
        try clear hfz19_5
        try clear hfz20_0
        try clear hfz20_1
        try clear hfz20_2
        try clear hfz20_3
        try clear hfz20_4
        try clear hfz20_5
        try clear hfz37_0
        try clear hfz37_1
        try clear hfz37_2
        try clear hfz37_3
        try clear hfz37_4
        try clear hfz37_5
        try clear hfz41_0
        try clear hfz41_1
        try clear hfz41_2
        try clear hfz41_3
        try clear hfz41_4
        try clear hfz41_5
        try clear hfz45_0
        try clear hfz45_1
        try clear hfz45_2
        try clear hfz45_3
        try clear hfz45_4
        try clear hfz45_5
        try clear hfz49_0
        try clear hfz49_1
        try clear hfz49_2
        try clear hfz49_3
        try clear hfz49_4
        try clear hfz49_5
        try clear hfz52_0
        try clear hfz52_1
        try clear hfz52_2
        try clear hfz52_3
        try clear hfz52_4
        try clear hfz52_5
        try clear hfz56_0
        try clear hfz56_1
        try clear hfz56_2
        try clear hfz56_3
        try clear hfz56_4
        try clear hfz56_5
        try clear hfz58_0
        try clear hfz58_1
        try clear hfz58_2
        try clear hfz58_3
        try clear hfz58_4
        try clear hfz58_5
        try clear hfz62_0
        try clear hfz62_1
        try clear hfz62_2
        try clear hfz62_3
        try clear hfz62_4
        try clear hfz62_5
        try clear hfz90_0
        try clear hfz90_1
        try clear hfz90_2
        try clear hfz90_3
        try clear hfz90_4
        try clear hfz90_5
        try clear hfz97_0
        try clear hfz97_1
        try clear hfz97_2
        try clear hfz97_3
        try clear hfz97_4
        try clear hfz97_5
        try clear hx173_0
        try clear hx177_0
        try clear p173
        try clear p177
        try clear p2
        try clear q173
        try clear q177
        obtain ⟨x12_3, x154003_3, u154003, rfl, HA, HK3, HO_11, HO_150003, HO_150004, HO_150005, HO_151003, HO_152003, HO_152004, HO_153003, HO_154003, BK149, BK150, BK151, BK152, BK153, HB⟩ := hrel
        cases gk with
        | zero => exact absurd HA.out (by simp [frisketref07_Standard.l2])
        | succ k3 =>
         have H := HA.out
         clear HA
         simp only [frisketref07_Standard.l2] at H
         by_cases c103 : x12_3 < (t190.length : Int)
         ·rw [if_pos c103] at H
          have c103b0 : decide (x12_3 < (t190.length : Int)) = true := decide_eq_true c103
          clear c103
          by_cases c104 : 0 ≤ x12_3
          ·rw [if_pos c104] at H
           have c104b0 : decide (0 ≤ x12_3) = true := decide_eq_true c104
           clear c104
           replace H := Option.bind_eq_some_iff.mp H
           obtain ⟨t194, A1050, H⟩ := H
           replace H : (frisketref07_Standard.l2 k3 t190 (wrap64 (x12_3 + 1)) (⟨#[82]⟩ : BA) false 250 x150003_2 y181 y187 (⟨#[73]⟩ : BA) false 250 x151003_1 (⟨#[66]⟩ : BA) false 250 x152003_2 y184 (⟨#[77]⟩ : BA) false 600 x153003_1 (⟨#[83]⟩ : BA) true 250 t194) = some r := H
           have A105 := Aside0.mk A1050
           clear A1050
           have H' := Aside0.mk H
           clear H
           obtain ⟨Ao106, co106, eo106⟩ := Kd.R_slice HO_11.out
           subst eo106
           try go_wp2
           have n0_ := Aside0.mk (Kd.R_drew HO_11.out)
           have n1_ := Aside0.mk (Kd.R_drew HO_150003.out)
           have n2_ := Aside0.mk (Kd.R_drew HO_150004.out)
           have n3_ := Aside0.mk (Kd.R_drew HO_150005.out)
           have n4_ := Aside0.mk (Kd.R_drew HO_151003.out)
           have n5_ := Aside0.mk (Kd.R_drew HO_152003.out)
           have n6_ := Aside0.mk (Kd.R_drew HO_152004.out)
           have n7_ := Aside0.mk (Kd.R_drew HO_153003.out)
           have n8_ := Aside0.mk (Kd.R_drew HO_154003.out)
           have n9_ := Aside0.mk (blk_drew BK149.out)
           have n10_ := Aside0.mk (blk_drew BK150.out)
           have n11_ := Aside0.mk (blk_drew BK151.out)
           have n12_ := Aside0.mk (blk_drew BK152.out)
           have n13_ := Aside0.mk (blk_drew BK153.out)
           have n14_ := Aside0.mk (below_drew1 HB.out)
           clear HO_11 HO_150003 HO_150004 HO_150005 HO_151003 HO_152003 HO_152004 HO_153003 HO_154003 BK149 BK150 BK151 BK152 BK153 HB
           have HO_11 := n0_
           have HO_150003 := n1_
           have HO_150004 := n2_
           have HO_150005 := n3_
           have HO_151003 := n4_
           have HO_152003 := n5_
           have HO_152004 := n6_
           have HO_153003 := n7_
           have HO_154003 := n8_
           have BK149 := n9_
           have BK150 := n10_
           have BK151 := n11_
           have BK152 := n12_
           have BK153 := n13_
           have HB := n14_
           clear n0_ n1_ n2_ n3_ n4_ n5_ n6_ n7_ n8_ n9_ n10_ n11_ n12_ n13_ n14_
           have p193 : 0 ≤ (x12_3 : Int) := of_decide_eq_true (by first | (with_reducible assumption) | assumption)
           have q193 : x12_3 < (t190.length : Int) := of_decide_eq_true (by first | (with_reducible assumption) | assumption)
           obtain ⟨ad193, e193, hx193_0, hx193_1⟩ := at_T81 (Kd.R_reads' HO_11.out).2.2 x12_3 p193 q193
           cases e193
           replace p193 := eq_true p193
           replace q193 := eq_true q193
           obtain ⟨Ao108, co108, eo108⟩ := Kd.R_slice HO_154003.out
           (first | subst eo108 | (injection eo108 with f1_ f2_ f3_; have f4_ := f1_.symm; have f5_ := f3_.symm; clear f1_ f2_ f3_; subst f4_; subst f5_))
           refine start_ (n := 9) (S := fun w' => w'.cell? ⟨gb153, 0, none⟩ = some (.string (⟨#[83]⟩ : BA)) ∧ w'.cell? ⟨gb153, 1, none⟩ = some (.bool true) ∧ w'.cell? ⟨gb153, 2, none⟩ = some (.int .i64 250) ∧ w'.cell? ⟨gb153, 3, none⟩ = some (.slice Ao108 x154003_3.length co108) ∧ w'.cell? ⟨gb153, 4, none⟩ = some (.slice none 0 0) ∧ w'.cell? ⟨gb153, 5, none⟩ = some (.slice none 0 0) ∧ w'.cell? (ad193.add ((x12_3).toNat * 2)) = some (.string ((rd_T81 t190 x12_3).f0)) ∧ w'.cell? ⟨(ad193.add ((x12_3).toNat * 2)).block, (ad193.add ((x12_3).toNat * 2)).off + 1, none⟩ = some (.int .i64 ((rd_T81 t190 x12_3).f1))) (ds := [8]) #[false, false, false, false, false, false, false, false, false] (by kernel_rfl) rfl rfl ⟨(blk_cell BK153.out 0).trans rfl, (blk_cell BK153.out 1).trans rfl, (blk_cell BK153.out 2).trans rfl, (blk_cell BK153.out 3).trans rfl, (blk_cell BK153.out 4).trans rfl, (blk_cell BK153.out 5).trans rfl, hx193_0, hx193_1⟩ (fun hHeld => ?_); refine with_tabW frisketref07_Standard.tab23 frisketref07_Standard.bits23 (fun HT_ HW_ => ?_)
           generalize wr.drew = w107 at HO_11 HO_150003 HO_150004 HO_150005 HO_151003 HO_152003 HO_152004 HO_153003 HO_154003 BK149 BK150 BK151 BK152 BK153 HB hx193_0 hx193_1 hHeld ⊢
           refine puS 0 (some 108) HT_ ?_
           refine puS 2 (some 110) HT_ ?_
           refine puS 3 (some 111) HT_ ?_
           refine puS 4 (some 112) HT_ ?_
           refine taS 1 (some 109) HT_ HW_ hHeld ?_
           refine taS 5 (some 113) HT_ HW_ hHeld ?_
           refine onS 6 (some 114) HT_ (fun K hK => ?_)
           refine goes_ Tryz.func38 (by kernel_rfl) rfl #[.slice Ao108 x154003_3.length co108, .agg #[.string ((rd_T81 t190 x12_3).f0), .int .i64 ((rd_T81 t190 x12_3).f1)]] (by rfl) rfl rfl (by (try simp only [List.map_toArray, List.map_cons, List.map_nil]); first | done | rfl | (simp only [List.length_drop, List.length_take]; rfl)) ?_
           with_reducible refine (frisketref07_put.calls k3 _ _ x154003_3 ((rd_T81 t190 x12_3).f0) ((rd_T81 t190 x12_3).f1) t194 _ ?side1 ?side2 A105.out).mono ?_
           (case side1 => repeat (first | exact (Kd.R_reads' HO_154003.out).2.2 | (with_reducible refine Kd.C_alloc ?_ _) | (with_reducible refine Kd.C_drewN ?_ _) | (with_reducible refine Kd.C_drew ?_)))
           (case side2 => exact (Kd.R_reads' HO_154003.out).2.1)
           rintro e w109 ⟨v195, rfl, ho0, hb⟩
           have HS6_ := (hb.cell (World.block_lt_of_cell? _ _ (hHeld.2.2.2.2.2.2.1))).trans (hHeld.2.2.2.2.2.2.1)
           have HS7_ := (hb.cell (World.block_lt_of_cell? _ _ (hHeld.2.2.2.2.2.2.2))).trans (hHeld.2.2.2.2.2.2.2)
           refine ⟨_, rfl, ?_⟩
           have n0_ := Aside0.mk (Kd.R_elder' (rkS HO_11.out) (Kd.R_base ho0) hb)
           have n1_ := Aside0.mk (Kd.R_elder' (rkS HO_150003.out) (Kd.R_base ho0) hb)
           have n2_ := Aside0.mk (Kd.R_below (rkS HO_150004.out) hb)
           have n3_ := Aside0.mk (Kd.R_below (rkS HO_150005.out) hb)
           have n4_ := Aside0.mk (Kd.R_elder' (rkS HO_151003.out) (Kd.R_base ho0) hb)
           have n5_ := Aside0.mk (Kd.R_elder' (rkS HO_152003.out) (Kd.R_base ho0) hb)
           have n6_ := Aside0.mk (Kd.R_below (rkS HO_152004.out) hb)
           have n7_ := Aside0.mk (Kd.R_elder' (rkS HO_153003.out) (Kd.R_base ho0) hb)
           have n8_ := Aside0.mk (Kd.R_elder' (rkS HO_154003.out) (Kd.R_base ho0) hb)
           have n9_ := Aside0.mk (Kd.R_lower (Kd.R_new' (Kd.R_new' (Kd.R_new' (Kd.R_new' (Kd.R_new' (Kd.R_new' (Kd.R_newM (M := fun k_ => (w.heap.size ≤ k_)) ho0 (below_size (by repeat (first | (with_reducible first | exact HB.out | apply below_alloc | apply pw_below_drewN | apply below_drew1 | refine below_set ?_ GE149.out | refine below_set ?_ GE150.out | refine below_set ?_ GE151.out | refine below_set ?_ GE152.out | refine below_set ?_ GE153.out) | exact HB.out))) (fun k_ h_ => h_)) (Kd.R_lt (rkS HO_11.out))) (Kd.R_lt (rkS HO_150003.out))) (Kd.R_lt (rkS HO_151003.out))) (Kd.R_lt (rkS HO_152003.out))) (Kd.R_lt (rkS HO_153003.out))) (Kd.R_lt (rkS HO_154003.out))) (below_size (by repeat (first | (with_reducible first | exact HB.out | apply below_alloc | apply pw_below_drewN | apply below_drew1 | refine below_set ?_ GE149.out | refine below_set ?_ GE150.out | refine below_set ?_ GE151.out | refine below_set ?_ GE152.out | refine below_set ?_ GE153.out) | exact HB.out))))
           have n10_ := Aside0.mk (blk_below (g := gb149) (o := .cells #[.string (⟨#[82]⟩ : BA), .bool false, .int .i64 250, u150003, .slice Ao85 y181.length co85, .slice Ao100 y187.length co100] 44 (0, 0)) (bkS BK149.out) hb)
           have n11_ := Aside0.mk (blk_below (g := gb150) (o := .cells #[.string (⟨#[73]⟩ : BA), .bool false, .int .i64 250, u151003, .slice none 0 0, .slice none 0 0] 44 (0, 0)) (bkS BK150.out) hb)
           have n12_ := Aside0.mk (blk_below (g := gb151) (o := .cells #[.string (⟨#[66]⟩ : BA), .bool false, .int .i64 250, u152003, .slice Ao93 y184.length co93, .slice none 0 0] 44 (0, 0)) (bkS BK151.out) hb)
           have n13_ := Aside0.mk (blk_below (g := gb152) (o := .cells #[.string (⟨#[77]⟩ : BA), .bool false, .int .i64 600, u153003, .slice none 0 0, .slice none 0 0] 44 (0, 0)) (bkS BK152.out) hb)
           have n14_ := Aside0.mk (blk_below (g := gb153) (o := .cells #[.string (⟨#[83]⟩ : BA), .bool true, .int .i64 250, .slice Ao108 x154003_3.length co108, .slice none 0 0, .slice none 0 0] 44 (0, 0)) (bkS BK153.out) hb)
           have n15_ := Aside0.mk (below_step (by repeat (first | (with_reducible first | exact HB.out | apply below_alloc | apply pw_below_drewN | apply below_drew1 | refine below_set ?_ GE149.out | refine below_set ?_ GE150.out | refine below_set ?_ GE151.out | refine below_set ?_ GE152.out | refine below_set ?_ GE153.out) | exact HB.out)) hb)
           clear HO_11 HO_150003 HO_150004 HO_150005 HO_151003 HO_152003 HO_152004 HO_153003 HO_154003 BK149 BK150 BK151 BK152 BK153 HB
           have HO_11 := n0_
           have HO_150003 := n1_
           have HO_150004 := n2_
           have HO_150005 := n3_
           have HO_151003 := n4_
           have HO_152003 := n5_
           have HO_152004 := n6_
           have HO_153003 := n7_
           have HO_154003 := n8_
           have HO196 := n9_
           have BK149 := n10_
           have BK150 := n11_
           have BK151 := n12_
           have BK152 := n13_
           have BK153 := n14_
           have HB := n15_
           clear n0_ n1_ n2_ n3_ n4_ n5_ n6_ n7_ n8_ n9_ n10_ n11_ n12_ n13_ n14_ n15_
           (try clear hb)
           (try clear hb2)
           (try clear hk)
           (try clear hi)
           (try clear ho0)
           obtain ⟨Ao110, co110, eo110⟩ := Kd.R_slice HO196.out
           (first | subst eo110 | (injection eo110 with f1_ f2_ f3_; have f4_ := f1_.symm; have f5_ := f3_.symm; clear f1_ f2_ f3_; subst f4_; subst f5_))
           refine hK.out _ _ ⟨(blk_cell BK153.out 0).trans rfl, (blk_cell BK153.out 1).trans rfl, (blk_cell BK153.out 2).trans rfl, (blk_cell BK153.out 3).trans rfl, (blk_cell BK153.out 4).trans rfl, (blk_cell BK153.out 5).trans rfl, HS6_, HS7_⟩ (fun hHeld => ?_)
           clear hK K
           refine noS (some 114) ?_
           refine puS 7 (some 115) HT_ ?_
           refine last_ (i := 8) (N := none) #[true, true, true, true, true, true, true, true, true] rfl rfl (one_of HT_.out (by kernel_rfl)) (by decide) (fun K hK => ?_)
           have hs111 : w109.cell? ⟨gb153, 3, none⟩ = some (.slice Ao108 x154003_3.length co108) := (blk_cell BK153.out 3).trans rfl
           have hfs111 := blk_frozen BK153.out 3
           have hns111_0 := NB149_153.out
           have hns111_1 := NB150_153.out
           have hns111_2 := NB151_153.out
           have hns111_3 := NB152_153.out
           have hms111_0 := NB153_149.out
           have hms111_1 := NB153_150.out
           have hms111_2 := NB153_151.out
           have hms111_3 := NB153_152.out
           refine skip_ (w1 := ?_) (by rfl) rfl ?_ ?_
           rotate_left
           ·go_simp
            rfl
           refine hK.out _ _ ?_
           clear hK K
           refine done_ (done_of HT_.out (by kernel_rfl)) ?_
           try go_wp2
           go_roundg k3
           case measure => have := HK1.out; have := HK2.out; have := HK3.out; omega
           case rel => exact ⟨(wrap64 (x12_3 + 1)), (t194), (.slice Ao110 t194.length co110), (by first | rfl | (simp; done) | (simp [*]; done)), H', ⟨by have := HK1.out; have := HK2.out; have := HK3.out; omega⟩, ⟨by (with_reducible repeat (first | apply Kd.R_alloc | apply Kd.R_drewN | apply Kd.R_drew)); exact Kd.R_mono (Kd.R_far (p := ⟨gb153, 3, none⟩) (Kd.R_types HO_11.out BK153.out (by decide)) (fun _ hk => hk.2) (.slice Ao110 t194.length co110)) (fun _ hk => ⟨hk.1.1.1, ⟨hk.1.1.2.1, ⟨hk.1.1.2.2.1, ⟨hk.1.1.2.2.2.1, ⟨hk.1.1.2.2.2.2.1, hk.1.2⟩⟩⟩⟩⟩)⟩, ⟨by (with_reducible repeat (first | apply Kd.R_alloc | apply Kd.R_drewN | apply Kd.R_drew)); exact Kd.R_mono (Kd.R_far (p := ⟨gb153, 3, none⟩) (Kd.R_types HO_150003.out BK153.out (by decide)) (fun _ hk => hk.2) (.slice Ao110 t194.length co110)) (fun _ hk => ⟨hk.1.1.1, ⟨hk.1.1.2.1, ⟨hk.1.1.2.2.1, ⟨hk.1.1.2.2.2.1, ⟨hk.1.1.2.2.2.2.1, hk.1.2⟩⟩⟩⟩⟩)⟩, ⟨by (with_reducible repeat (first | apply Kd.R_alloc | apply Kd.R_drewN | apply Kd.R_drew)); exact Kd.R_mono (Kd.R_far (p := ⟨gb153, 3, none⟩) (Kd.R_types HO_150004.out BK153.out (by decide)) (fun _ hk => hk.2) (.slice Ao110 t194.length co110)) (fun _ hk => ⟨hk.1.1, hk.1.2⟩)⟩, ⟨by (with_reducible repeat (first | apply Kd.R_alloc | apply Kd.R_drewN | apply Kd.R_drew)); exact Kd.R_mono (Kd.R_far (p := ⟨gb153, 3, none⟩) (Kd.R_types HO_150005.out BK153.out (by decide)) (fun _ hk => hk.2) (.slice Ao110 t194.length co110)) (fun _ hk => hk.1)⟩, ⟨by (with_reducible repeat (first | apply Kd.R_alloc | apply Kd.R_drewN | apply Kd.R_drew)); exact Kd.R_mono (Kd.R_far (p := ⟨gb153, 3, none⟩) (Kd.R_types HO_151003.out BK153.out (by decide)) (fun _ hk => hk.2) (.slice Ao110 t194.length co110)) (fun _ hk => ⟨hk.1.1.1, ⟨hk.1.1.2.1, ⟨hk.1.1.2.2.1, ⟨hk.1.1.2.2.2.1, ⟨hk.1.1.2.2.2.2.1, hk.1.2⟩⟩⟩⟩⟩)⟩, ⟨by (with_reducible repeat (first | apply Kd.R_alloc | apply Kd.R_drewN | apply Kd.R_drew)); exact Kd.R_mono (Kd.R_far (p := ⟨gb153, 3, none⟩) (Kd.R_types HO_152003.out BK153.out (by decide)) (fun _ hk => hk.2) (.slice Ao110 t194.length co110)) (fun _ hk => ⟨hk.1.1.1, ⟨hk.1.1.2.1, ⟨hk.1.1.2.2.1, ⟨hk.1.1.2.2.2.1, ⟨hk.1.1.2.2.2.2.1, hk.1.2⟩⟩⟩⟩⟩)⟩, ⟨by (with_reducible repeat (first | apply Kd.R_alloc | apply Kd.R_drewN | apply Kd.R_drew)); exact Kd.R_mono (Kd.R_far (p := ⟨gb153, 3, none⟩) (Kd.R_types HO_152004.out BK153.out (by decide)) (fun _ hk => hk.2) (.slice Ao110 t194.length co110)) (fun _ hk => ⟨hk.1.1, hk.1.2⟩)⟩, ⟨by (with_reducible repeat (first | apply Kd.R_alloc | apply Kd.R_drewN | apply Kd.R_drew)); exact Kd.R_mono (Kd.R_far (p := ⟨gb153, 3, none⟩) (Kd.R_types HO_153003.out BK153.out (by decide)) (fun _ hk => hk.2) (.slice Ao110 t194.length co110)) (fun _ hk => ⟨hk.1.1.1, ⟨hk.1.1.2.1, ⟨hk.1.1.2.2.1, ⟨hk.1.1.2.2.2.1, ⟨hk.1.1.2.2.2.2.1, hk.1.2⟩⟩⟩⟩⟩)⟩, ⟨by (with_reducible repeat (first | apply Kd.R_alloc | apply Kd.R_drewN | apply Kd.R_drew)); exact Kd.R_mono (Kd.R_far (p := ⟨gb153, 3, none⟩) (Kd.R_types HO196.out BK153.out (by decide)) (fun _ hk => hk.2) (.slice Ao110 t194.length co110)) (fun _ hk => ⟨hk.1.1.1.1.1.1.1.1, ⟨hk.1.1.1.1.1.1.2, ⟨hk.1.1.1.1.1.2, ⟨hk.1.1.1.1.2, ⟨hk.1.1.1.2, hk.1.1.2⟩⟩⟩⟩⟩)⟩, ⟨by (with_reducible repeat (first | refine blk_drewN ?_ _ | refine blk_drew ?_ | refine blk_alloc ?_ _)); refine blk_far ?_ NB149_153.out _; (with_reducible repeat (first | refine blk_drewN ?_ _ | refine blk_drew ?_ | refine blk_alloc ?_ _)); exact BK149.out⟩, ⟨by (with_reducible repeat (first | refine blk_drewN ?_ _ | refine blk_drew ?_ | refine blk_alloc ?_ _)); refine blk_far ?_ NB150_153.out _; (with_reducible repeat (first | refine blk_drewN ?_ _ | refine blk_drew ?_ | refine blk_alloc ?_ _)); exact BK150.out⟩, ⟨by (with_reducible repeat (first | refine blk_drewN ?_ _ | refine blk_drew ?_ | refine blk_alloc ?_ _)); refine blk_far ?_ NB151_153.out _; (with_reducible repeat (first | refine blk_drewN ?_ _ | refine blk_drew ?_ | refine blk_alloc ?_ _)); exact BK151.out⟩, ⟨by (with_reducible repeat (first | refine blk_drewN ?_ _ | refine blk_drew ?_ | refine blk_alloc ?_ _)); refine blk_far ?_ NB152_153.out _; (with_reducible repeat (first | refine blk_drewN ?_ _ | refine blk_drew ?_ | refine blk_alloc ?_ _)); exact BK152.out⟩, ⟨by (with_reducible repeat (first | refine blk_drewN ?_ _ | refine blk_drew ?_ | refine blk_alloc ?_ _)); refine blk_put (cs := #[.string (⟨#[83]⟩ : BA), .bool true, .int .i64 250, .slice Ao108 x154003_3.length co108, .slice none 0 0, .slice none 0 0]) ?_ 3 _ rfl; (with_reducible repeat (first | refine blk_drewN ?_ _ | refine blk_drew ?_ | refine blk_alloc ?_ _)); exact BK153.out⟩, ⟨by repeat (first | (with_reducible first | exact HB.out | apply below_alloc | apply pw_below_drewN | apply below_drew1 | refine below_set ?_ GE149.out | refine below_set ?_ GE150.out | refine below_set ?_ GE151.out | refine below_set ?_ GE152.out | refine below_set ?_ GE153.out) | exact HB.out)⟩⟩
          ·rw [if_neg c104] at H
           exact absurd H (by simp)
         ·rw [if_neg c103] at H
          have c103b0 : decide (x12_3 < (t190.length : Int)) = false := decide_eq_false c103
          clear c103
          obtain ⟨y197, hy197⟩ : ∃ y_ : List (S44), y_ = (([(⟨(⟨#[82]⟩ : BA), false, 250, x150003_2, y181, y187⟩ : S44), (⟨(⟨#[73]⟩ : BA), false, 250, x151003_1, ([] : List (S83)), ([] : List (S84))⟩ : S44), (⟨(⟨#[66]⟩ : BA), false, 250, x152003_2, y184, ([] : List (S84))⟩ : S44), (⟨(⟨#[77]⟩ : BA), false, 600, x153003_1, ([] : List (S83)), ([] : List (S84))⟩ : S44), (⟨(⟨#[83]⟩ : BA), true, 250, x154003_3, ([] : List (S83)), ([] : List (S84))⟩ : S44)] : List (S44))) := ⟨_, rfl⟩
          replace H : (some y197) = some r := by first | (rw [hy197]; with_reducible exact H) | (have H2_ := (Option.bind_some _ _).symm.trans H; rw [hy197]; with_reducible exact H2_) | (have H2_ := (Option.bind_some _ _).symm.trans H; with_reducible exact H2_) | with_reducible exact H | (rw [hy197]; exact H) | exact H
          have Ny197 := Aside0.mk hy197
          clear hy197
          obtain rfl := Option.some.inj H
          obtain ⟨Ao112, co112, eo112⟩ := Kd.R_slice HO_11.out
          subst eo112
          have hnb113 := NB149_150.out
          have hnc113 := NB150_149.out
          have hnb114 := NB149_151.out
          have hnc114 := NB151_149.out
          have hnb115 := NB149_152.out
          have hnc115 := NB152_149.out
          have hnb116 := NB149_153.out
          have hnc116 := NB153_149.out
          have hcz117_0 : wr.cell? ⟨gb149, 0, none⟩ = some (.string (⟨#[82]⟩ : BA)) := (blk_cell BK149.out 0).trans rfl
          have hcz117_1 : wr.cell? ⟨gb149, 1, none⟩ = some (.bool false) := (blk_cell BK149.out 1).trans rfl
          have hcz117_2 : wr.cell? ⟨gb149, 2, none⟩ = some (.int .i64 250) := (blk_cell BK149.out 2).trans rfl
          have hcz117_3 : wr.cell? ⟨gb149, 3, none⟩ = some (u150003) := (blk_cell BK149.out 3).trans rfl
          have hcz117_4 : wr.cell? ⟨gb149, 4, none⟩ = some (.slice Ao85 y181.length co85) := (blk_cell BK149.out 4).trans rfl
          have hcz117_5 : wr.cell? ⟨gb149, 5, none⟩ = some (.slice Ao100 y187.length co100) := (blk_cell BK149.out 5).trans rfl
          have hfz117_0 := blk_frozen BK149.out 0
          have hfz117_1 := blk_frozen BK149.out 1
          have hfz117_2 := blk_frozen BK149.out 2
          have hfz117_3 := blk_frozen BK149.out 3
          have hfz117_4 := blk_frozen BK149.out 4
          have hfz117_5 := blk_frozen BK149.out 5
          have hnb118 := NB150_151.out
          have hnc118 := NB151_150.out
          have hnb119 := NB150_152.out
          have hnc119 := NB152_150.out
          have hnb120 := NB150_153.out
          have hnc120 := NB153_150.out
          have hcz121_0 : wr.cell? ⟨gb150, 0, none⟩ = some (.string (⟨#[73]⟩ : BA)) := (blk_cell BK150.out 0).trans rfl
          have hcz121_1 : wr.cell? ⟨gb150, 1, none⟩ = some (.bool false) := (blk_cell BK150.out 1).trans rfl
          have hcz121_2 : wr.cell? ⟨gb150, 2, none⟩ = some (.int .i64 250) := (blk_cell BK150.out 2).trans rfl
          have hcz121_3 : wr.cell? ⟨gb150, 3, none⟩ = some (u151003) := (blk_cell BK150.out 3).trans rfl
          have hcz121_4 : wr.cell? ⟨gb150, 4, none⟩ = some (.slice none 0 0) := (blk_cell BK150.out 4).trans rfl
          have hcz121_5 : wr.cell? ⟨gb150, 5, none⟩ = some (.slice none 0 0) := (blk_cell BK150.out 5).trans rfl
          have hfz121_0 := blk_frozen BK150.out 0
          have hfz121_1 := blk_frozen BK150.out 1
          have hfz121_2 := blk_frozen BK150.out 2
          have hfz121_3 := blk_frozen BK150.out 3
          have hfz121_4 := blk_frozen BK150.out 4
          have hfz121_5 := blk_frozen BK150.out 5
          have hnb122 := NB151_152.out
          have hnc122 := NB152_151.out
          have hnb123 := NB151_153.out
          have hnc123 := NB153_151.out
          have hcz124_0 : wr.cell? ⟨gb151, 0, none⟩ = some (.string (⟨#[66]⟩ : BA)) := (blk_cell BK151.out 0).trans rfl
          have hcz124_1 : wr.cell? ⟨gb151, 1, none⟩ = some (.bool false) := (blk_cell BK151.out 1).trans rfl
          have hcz124_2 : wr.cell? ⟨gb151, 2, none⟩ = some (.int .i64 250) := (blk_cell BK151.out 2).trans rfl
          have hcz124_3 : wr.cell? ⟨gb151, 3, none⟩ = some (u152003) := (blk_cell BK151.out 3).trans rfl
          have hcz124_4 : wr.cell? ⟨gb151, 4, none⟩ = some (.slice Ao93 y184.length co93) := (blk_cell BK151.out 4).trans rfl
          have hcz124_5 : wr.cell? ⟨gb151, 5, none⟩ = some (.slice none 0 0) := (blk_cell BK151.out 5).trans rfl
          have hfz124_0 := blk_frozen BK151.out 0
          have hfz124_1 := blk_frozen BK151.out 1
          have hfz124_2 := blk_frozen BK151.out 2
          have hfz124_3 := blk_frozen BK151.out 3
          have hfz124_4 := blk_frozen BK151.out 4
          have hfz124_5 := blk_frozen BK151.out 5
          have hnb125 := NB152_153.out
          have hnc125 := NB153_152.out
          have hcz126_0 : wr.cell? ⟨gb152, 0, none⟩ = some (.string (⟨#[77]⟩ : BA)) := (blk_cell BK152.out 0).trans rfl
          have hcz126_1 : wr.cell? ⟨gb152, 1, none⟩ = some (.bool false) := (blk_cell BK152.out 1).trans rfl
          have hcz126_2 : wr.cell? ⟨gb152, 2, none⟩ = some (.int .i64 600) := (blk_cell BK152.out 2).trans rfl
          have hcz126_3 : wr.cell? ⟨gb152, 3, none⟩ = some (u153003) := (blk_cell BK152.out 3).trans rfl
          have hcz126_4 : wr.cell? ⟨gb152, 4, none⟩ = some (.slice none 0 0) := (blk_cell BK152.out 4).trans rfl
          have hcz126_5 : wr.cell? ⟨gb152, 5, none⟩ = some (.slice none 0 0) := (blk_cell BK152.out 5).trans rfl
          have hfz126_0 := blk_frozen BK152.out 0
          have hfz126_1 := blk_frozen BK152.out 1
          have hfz126_2 := blk_frozen BK152.out 2
          have hfz126_3 := blk_frozen BK152.out 3
          have hfz126_4 := blk_frozen BK152.out 4
          have hfz126_5 := blk_frozen BK152.out 5
          have hcz127_0 : wr.cell? ⟨gb153, 0, none⟩ = some (.string (⟨#[83]⟩ : BA)) := (blk_cell BK153.out 0).trans rfl
          have hcz127_1 : wr.cell? ⟨gb153, 1, none⟩ = some (.bool true) := (blk_cell BK153.out 1).trans rfl
          have hcz127_2 : wr.cell? ⟨gb153, 2, none⟩ = some (.int .i64 250) := (blk_cell BK153.out 2).trans rfl
          have hcz127_3 : wr.cell? ⟨gb153, 3, none⟩ = some (u154003) := (blk_cell BK153.out 3).trans rfl
          have hcz127_4 : wr.cell? ⟨gb153, 4, none⟩ = some (.slice none 0 0) := (blk_cell BK153.out 4).trans rfl
          have hcz127_5 : wr.cell? ⟨gb153, 5, none⟩ = some (.slice none 0 0) := (blk_cell BK153.out 5).trans rfl
          have hfz127_0 := blk_frozen BK153.out 0
          have hfz127_1 := blk_frozen BK153.out 1
          have hfz127_2 := blk_frozen BK153.out 2
          have hfz127_3 := blk_frozen BK153.out 3
          have hfz127_4 := blk_frozen BK153.out 4
          have hfz127_5 := blk_frozen BK153.out 5
          obtain ⟨Ao128, co128, eo128⟩ := Kd.R_slice HO_150003.out
          subst eo128
          obtain ⟨Ao129, co129, eo129⟩ := Kd.R_slice HO_151003.out
          subst eo129
          obtain ⟨Ao130, co130, eo130⟩ := Kd.R_slice HO_152003.out
          subst eo130
          obtain ⟨Ao131, co131, eo131⟩ := Kd.R_slice HO_153003.out
          subst eo131
          obtain ⟨Ao132, co132, eo132⟩ := Kd.R_slice HO_154003.out
          subst eo132
          go_wp2_with (first | ((with_reducible refine gate_dst (N := 121) rfl ?_); refine Kd.N_lit k44 _ 44 ?hg (N' := 121) ?hd (xs := ([(⟨(⟨#[82]⟩ : BA), false, 250, x150003_2, y181, y187⟩ : S44), (⟨(⟨#[73]⟩ : BA), false, 250, x151003_1, ([] : List (S83)), ([] : List (S84))⟩ : S44), (⟨(⟨#[66]⟩ : BA), false, 250, x152003_2, y184, ([] : List (S84))⟩ : S44), (⟨(⟨#[77]⟩ : BA), false, 600, x153003_1, ([] : List (S83)), ([] : List (S84))⟩ : S44), (⟨(⟨#[83]⟩ : BA), true, 250, x154003_3, ([] : List (S83)), ([] : List (S84))⟩ : S44)] : List (S44))) (inner := [.string (⟨#[82]⟩ : BA), .bool false, .int .i64 250, .slice Ao128 x150003_2.length co128, .slice Ao85 y181.length co85, .slice Ao100 y187.length co100, .string (⟨#[73]⟩ : BA), .bool false, .int .i64 250, .slice Ao129 x151003_1.length co129, .slice none 0 0, .slice none 0 0, .string (⟨#[66]⟩ : BA), .bool false, .int .i64 250, .slice Ao130 x152003_2.length co130, .slice Ao93 y184.length co93, .slice none 0 0, .string (⟨#[77]⟩ : BA), .bool false, .int .i64 600, .slice Ao131 x153003_1.length co131, .slice none 0 0, .slice none 0 0, .string (⟨#[83]⟩ : BA), .bool true, .int .i64 250, .slice Ao132 x154003_3.length co132, .slice none 0 0, .slice none 0 0]) (ok := (fun k_ => (w.heap.size ≤ k_) ∧ some k_ ≠ (.slice Ao112 t190.length co112 : Value).ownBlock ∧ k_ ≠ gb149 ∧ k_ ≠ gb150 ∧ k_ ≠ gb151 ∧ k_ ≠ gb152 ∧ k_ ≠ gb153)) (okp := (fun k_ => (w.heap.size ≤ k_) ∧ some k_ ≠ (.slice Ao112 t190.length co112 : Value).ownBlock ∧ k_ ≠ gb149 ∧ k_ ≠ gb150 ∧ k_ ≠ gb151 ∧ k_ ≠ gb152 ∧ k_ ≠ gb153)) ?hr ?hp (fun _ hk => hk) ((show ∀ k_, wr.heap.size ≤ k_ → (fun k_ => (w.heap.size ≤ k_) ∧ some k_ ≠ (.slice Ao112 t190.length co112 : Value).ownBlock ∧ k_ ≠ gb149 ∧ k_ ≠ gb150 ∧ k_ ≠ gb151 ∧ k_ ≠ gb152 ∧ k_ ≠ gb153) k_ from fun k_ hk => ⟨(Nat.le_trans (below_size (by repeat (first | (with_reducible first | exact HB.out | apply below_alloc | apply pw_below_drewN | apply below_drew1 | refine below_set ?_ GE149.out | refine below_set ?_ GE150.out | refine below_set ?_ GE151.out | refine below_set ?_ GE152.out | refine below_set ?_ GE153.out) | exact HB.out))) hk), Kd.fresh' (Kd.R_lt (rkS HO_11.out)) k_ hk, Kd.freshB (g := gb149) (o := .cells #[.string (⟨#[82]⟩ : BA), .bool false, .int .i64 250, .slice Ao128 x150003_2.length co128, .slice Ao85 y181.length co85, .slice Ao100 y187.length co100] 44 (0, 0)) (bkS BK149.out) k_ hk, Kd.freshB (g := gb150) (o := .cells #[.string (⟨#[73]⟩ : BA), .bool false, .int .i64 250, .slice Ao129 x151003_1.length co129, .slice none 0 0, .slice none 0 0] 44 (0, 0)) (bkS BK150.out) k_ hk, Kd.freshB (g := gb151) (o := .cells #[.string (⟨#[66]⟩ : BA), .bool false, .int .i64 250, .slice Ao130 x152003_2.length co130, .slice Ao93 y184.length co93, .slice none 0 0] 44 (0, 0)) (bkS BK151.out) k_ hk, Kd.freshB (g := gb152) (o := .cells #[.string (⟨#[77]⟩ : BA), .bool false, .int .i64 600, .slice Ao131 x153003_1.length co131, .slice none 0 0, .slice none 0 0] 44 (0, 0)) (bkS BK152.out) k_ hk, Kd.freshB (g := gb153) (o := .cells #[.string (⟨#[83]⟩ : BA), .bool true, .int .i64 250, .slice Ao132 x154003_3.length co132, .slice none 0 0, .slice none 0 0] 44 (0, 0)) (bkS BK153.out) k_ hk⟩) _ (Nat.le_refl _)) (Below.refl _ _) (Nat.le_refl _) (by simp) ?_; (case hd => rfl); (case hg => rfl); (case hr => first | (go_simp; done) | (go_simp; rfl)); (case hp => exact (Reps.c6 (show Kd.FK k44 _ _ (⟨(⟨#[82]⟩ : BA), false, 250, x150003_2, y181, y187⟩ : S44) [.string (⟨#[82]⟩ : BA), .bool false, .int .i64 250, .slice Ao128 x150003_2.length co128, .slice Ao85 y181.length co85, .slice Ao100 y187.length co100] from (k44_mkF _ _ (⟨(⟨#[82]⟩ : BA), false, 250, x150003_2, y181, y187⟩ : S44) (Kd.R_reads' (Kd.R_mono (ok' := (fun k_ => (w.heap.size ≤ k_) ∧ some k_ ≠ (.slice Ao112 t190.length co112 : Value).ownBlock ∧ k_ ≠ gb149 ∧ k_ ≠ gb150 ∧ k_ ≠ gb151 ∧ k_ ≠ gb152 ∧ k_ ≠ gb153)) (Kd.R_types (Kd.R_types (Kd.R_types (Kd.R_types (Kd.R_types (HO_150003.out) BK149.out (by decide)) BK150.out (by decide)) BK151.out (by decide)) BK152.out (by decide)) BK153.out (by decide)) (fun k_ hk => ⟨hk.1.1.1.1.1.1, ⟨hk.1.1.1.1.1.2.1, ⟨hk.1.1.1.1.2, ⟨hk.1.1.1.2, ⟨hk.1.1.2, ⟨hk.1.2, hk.2⟩⟩⟩⟩⟩⟩))).2.1 (Kd.R_F (Kd.R_mono (ok' := (fun k_ => (w.heap.size ≤ k_) ∧ some k_ ≠ (.slice Ao112 t190.length co112 : Value).ownBlock ∧ k_ ≠ gb149 ∧ k_ ≠ gb150 ∧ k_ ≠ gb151 ∧ k_ ≠ gb152 ∧ k_ ≠ gb153)) (Kd.R_types (Kd.R_types (Kd.R_types (Kd.R_types (Kd.R_types (HO_150003.out) BK149.out (by decide)) BK150.out (by decide)) BK151.out (by decide)) BK152.out (by decide)) BK153.out (by decide)) (fun k_ hk => ⟨hk.1.1.1.1.1.1, ⟨hk.1.1.1.1.1.2.1, ⟨hk.1.1.1.1.2, ⟨hk.1.1.1.2, ⟨hk.1.1.2, ⟨hk.1.2, hk.2⟩⟩⟩⟩⟩⟩))) (Kd.R_reads' (Kd.R_mono (ok' := (fun k_ => (w.heap.size ≤ k_) ∧ some k_ ≠ (.slice Ao112 t190.length co112 : Value).ownBlock ∧ k_ ≠ gb149 ∧ k_ ≠ gb150 ∧ k_ ≠ gb151 ∧ k_ ≠ gb152 ∧ k_ ≠ gb153)) (Kd.R_types (Kd.R_types (Kd.R_types (Kd.R_types (Kd.R_types (Kd.R_apart' (HO_150004.out) (Kd.R_typed HO_11.out) (by decide)) BK149.out (by decide)) BK150.out (by decide)) BK151.out (by decide)) BK152.out (by decide)) BK153.out (by decide)) (fun k_ hk => ⟨hk.1.1.1.1.1.1.1, ⟨hk.1.1.1.1.1.2, ⟨hk.1.1.1.1.2, ⟨hk.1.1.1.2, ⟨hk.1.1.2, ⟨hk.1.2, hk.2⟩⟩⟩⟩⟩⟩))).2.1 (Kd.R_F (Kd.R_mono (ok' := (fun k_ => (w.heap.size ≤ k_) ∧ some k_ ≠ (.slice Ao112 t190.length co112 : Value).ownBlock ∧ k_ ≠ gb149 ∧ k_ ≠ gb150 ∧ k_ ≠ gb151 ∧ k_ ≠ gb152 ∧ k_ ≠ gb153)) (Kd.R_types (Kd.R_types (Kd.R_types (Kd.R_types (Kd.R_types (Kd.R_apart' (HO_150004.out) (Kd.R_typed HO_11.out) (by decide)) BK149.out (by decide)) BK150.out (by decide)) BK151.out (by decide)) BK152.out (by decide)) BK153.out (by decide)) (fun k_ hk => ⟨hk.1.1.1.1.1.1.1, ⟨hk.1.1.1.1.1.2, ⟨hk.1.1.1.1.2, ⟨hk.1.1.1.2, ⟨hk.1.1.2, ⟨hk.1.2, hk.2⟩⟩⟩⟩⟩⟩))) (Kd.R_reads' (Kd.R_mono (ok' := (fun k_ => (w.heap.size ≤ k_) ∧ some k_ ≠ (.slice Ao112 t190.length co112 : Value).ownBlock ∧ k_ ≠ gb149 ∧ k_ ≠ gb150 ∧ k_ ≠ gb151 ∧ k_ ≠ gb152 ∧ k_ ≠ gb153)) (Kd.R_types (Kd.R_types (Kd.R_types (Kd.R_types (Kd.R_types (Kd.R_apart' (HO_150005.out) (Kd.R_typed HO_11.out) (by decide)) BK149.out (by decide)) BK150.out (by decide)) BK151.out (by decide)) BK152.out (by decide)) BK153.out (by decide)) (fun k_ hk => ⟨hk.1.1.1.1.1.1, ⟨hk.1.1.1.1.1.2, ⟨hk.1.1.1.1.2, ⟨hk.1.1.1.2, ⟨hk.1.1.2, ⟨hk.1.2, hk.2⟩⟩⟩⟩⟩⟩))).2.1 (Kd.R_F (Kd.R_mono (ok' := (fun k_ => (w.heap.size ≤ k_) ∧ some k_ ≠ (.slice Ao112 t190.length co112 : Value).ownBlock ∧ k_ ≠ gb149 ∧ k_ ≠ gb150 ∧ k_ ≠ gb151 ∧ k_ ≠ gb152 ∧ k_ ≠ gb153)) (Kd.R_types (Kd.R_types (Kd.R_types (Kd.R_types (Kd.R_types (Kd.R_apart' (HO_150005.out) (Kd.R_typed HO_11.out) (by decide)) BK149.out (by decide)) BK150.out (by decide)) BK151.out (by decide)) BK152.out (by decide)) BK153.out (by decide)) (fun k_ hk => ⟨hk.1.1.1.1.1.1, ⟨hk.1.1.1.1.1.2, ⟨hk.1.1.1.1.2, ⟨hk.1.1.1.2, ⟨hk.1.1.2, ⟨hk.1.2, hk.2⟩⟩⟩⟩⟩⟩))))) (Reps.c6 (show Kd.FK k44 _ _ (⟨(⟨#[73]⟩ : BA), false, 250, x151003_1, ([] : List (S83)), ([] : List (S84))⟩ : S44) [.string (⟨#[73]⟩ : BA), .bool false, .int .i64 250, .slice Ao129 x151003_1.length co129, .slice none 0 0, .slice none 0 0] from (k44_mkF _ _ (⟨(⟨#[73]⟩ : BA), false, 250, x151003_1, ([] : List (S83)), ([] : List (S84))⟩ : S44) (Kd.R_reads' (Kd.R_mono (ok' := (fun k_ => (w.heap.size ≤ k_) ∧ some k_ ≠ (.slice Ao112 t190.length co112 : Value).ownBlock ∧ k_ ≠ gb149 ∧ k_ ≠ gb150 ∧ k_ ≠ gb151 ∧ k_ ≠ gb152 ∧ k_ ≠ gb153)) (Kd.R_types (Kd.R_types (Kd.R_types (Kd.R_types (Kd.R_types (HO_151003.out) BK149.out (by decide)) BK150.out (by decide)) BK151.out (by decide)) BK152.out (by decide)) BK153.out (by decide)) (fun k_ hk => ⟨hk.1.1.1.1.1.1, ⟨hk.1.1.1.1.1.2.1, ⟨hk.1.1.1.1.2, ⟨hk.1.1.1.2, ⟨hk.1.1.2, ⟨hk.1.2, hk.2⟩⟩⟩⟩⟩⟩))).2.1 (Kd.R_F (Kd.R_mono (ok' := (fun k_ => (w.heap.size ≤ k_) ∧ some k_ ≠ (.slice Ao112 t190.length co112 : Value).ownBlock ∧ k_ ≠ gb149 ∧ k_ ≠ gb150 ∧ k_ ≠ gb151 ∧ k_ ≠ gb152 ∧ k_ ≠ gb153)) (Kd.R_types (Kd.R_types (Kd.R_types (Kd.R_types (Kd.R_types (HO_151003.out) BK149.out (by decide)) BK150.out (by decide)) BK151.out (by decide)) BK152.out (by decide)) BK153.out (by decide)) (fun k_ hk => ⟨hk.1.1.1.1.1.1, ⟨hk.1.1.1.1.1.2.1, ⟨hk.1.1.1.1.2, ⟨hk.1.1.1.2, ⟨hk.1.1.2, ⟨hk.1.2, hk.2⟩⟩⟩⟩⟩⟩))) (Nat.le_refl _) (Kd.F_nil _ _ _) (Nat.le_refl _) (Kd.F_nil _ _ _))) (Reps.c6 (show Kd.FK k44 _ _ (⟨(⟨#[66]⟩ : BA), false, 250, x152003_2, y184, ([] : List (S84))⟩ : S44) [.string (⟨#[66]⟩ : BA), .bool false, .int .i64 250, .slice Ao130 x152003_2.length co130, .slice Ao93 y184.length co93, .slice none 0 0] from (k44_mkF _ _ (⟨(⟨#[66]⟩ : BA), false, 250, x152003_2, y184, ([] : List (S84))⟩ : S44) (Kd.R_reads' (Kd.R_mono (ok' := (fun k_ => (w.heap.size ≤ k_) ∧ some k_ ≠ (.slice Ao112 t190.length co112 : Value).ownBlock ∧ k_ ≠ gb149 ∧ k_ ≠ gb150 ∧ k_ ≠ gb151 ∧ k_ ≠ gb152 ∧ k_ ≠ gb153)) (Kd.R_types (Kd.R_types (Kd.R_types (Kd.R_types (Kd.R_types (HO_152003.out) BK149.out (by decide)) BK150.out (by decide)) BK151.out (by decide)) BK152.out (by decide)) BK153.out (by decide)) (fun k_ hk => ⟨hk.1.1.1.1.1.1, ⟨hk.1.1.1.1.1.2.1, ⟨hk.1.1.1.1.2, ⟨hk.1.1.1.2, ⟨hk.1.1.2, ⟨hk.1.2, hk.2⟩⟩⟩⟩⟩⟩))).2.1 (Kd.R_F (Kd.R_mono (ok' := (fun k_ => (w.heap.size ≤ k_) ∧ some k_ ≠ (.slice Ao112 t190.length co112 : Value).ownBlock ∧ k_ ≠ gb149 ∧ k_ ≠ gb150 ∧ k_ ≠ gb151 ∧ k_ ≠ gb152 ∧ k_ ≠ gb153)) (Kd.R_types (Kd.R_types (Kd.R_types (Kd.R_types (Kd.R_types (HO_152003.out) BK149.out (by decide)) BK150.out (by decide)) BK151.out (by decide)) BK152.out (by decide)) BK153.out (by decide)) (fun k_ hk => ⟨hk.1.1.1.1.1.1, ⟨hk.1.1.1.1.1.2.1, ⟨hk.1.1.1.1.2, ⟨hk.1.1.1.2, ⟨hk.1.1.2, ⟨hk.1.2, hk.2⟩⟩⟩⟩⟩⟩))) (Kd.R_reads' (Kd.R_mono (ok' := (fun k_ => (w.heap.size ≤ k_) ∧ some k_ ≠ (.slice Ao112 t190.length co112 : Value).ownBlock ∧ k_ ≠ gb149 ∧ k_ ≠ gb150 ∧ k_ ≠ gb151 ∧ k_ ≠ gb152 ∧ k_ ≠ gb153)) (Kd.R_types (Kd.R_types (Kd.R_types (Kd.R_types (Kd.R_types (Kd.R_apart' (HO_152004.out) (Kd.R_typed HO_11.out) (by decide)) BK149.out (by decide)) BK150.out (by decide)) BK151.out (by decide)) BK152.out (by decide)) BK153.out (by decide)) (fun k_ hk => ⟨hk.1.1.1.1.1.1.1, ⟨hk.1.1.1.1.1.2, ⟨hk.1.1.1.1.2, ⟨hk.1.1.1.2, ⟨hk.1.1.2, ⟨hk.1.2, hk.2⟩⟩⟩⟩⟩⟩))).2.1 (Kd.R_F (Kd.R_mono (ok' := (fun k_ => (w.heap.size ≤ k_) ∧ some k_ ≠ (.slice Ao112 t190.length co112 : Value).ownBlock ∧ k_ ≠ gb149 ∧ k_ ≠ gb150 ∧ k_ ≠ gb151 ∧ k_ ≠ gb152 ∧ k_ ≠ gb153)) (Kd.R_types (Kd.R_types (Kd.R_types (Kd.R_types (Kd.R_types (Kd.R_apart' (HO_152004.out) (Kd.R_typed HO_11.out) (by decide)) BK149.out (by decide)) BK150.out (by decide)) BK151.out (by decide)) BK152.out (by decide)) BK153.out (by decide)) (fun k_ hk => ⟨hk.1.1.1.1.1.1.1, ⟨hk.1.1.1.1.1.2, ⟨hk.1.1.1.1.2, ⟨hk.1.1.1.2, ⟨hk.1.1.2, ⟨hk.1.2, hk.2⟩⟩⟩⟩⟩⟩))) (Nat.le_refl _) (Kd.F_nil _ _ _))) (Reps.c6 (show Kd.FK k44 _ _ (⟨(⟨#[77]⟩ : BA), false, 600, x153003_1, ([] : List (S83)), ([] : List (S84))⟩ : S44) [.string (⟨#[77]⟩ : BA), .bool false, .int .i64 600, .slice Ao131 x153003_1.length co131, .slice none 0 0, .slice none 0 0] from (k44_mkF _ _ (⟨(⟨#[77]⟩ : BA), false, 600, x153003_1, ([] : List (S83)), ([] : List (S84))⟩ : S44) (Kd.R_reads' (Kd.R_mono (ok' := (fun k_ => (w.heap.size ≤ k_) ∧ some k_ ≠ (.slice Ao112 t190.length co112 : Value).ownBlock ∧ k_ ≠ gb149 ∧ k_ ≠ gb150 ∧ k_ ≠ gb151 ∧ k_ ≠ gb152 ∧ k_ ≠ gb153)) (Kd.R_types (Kd.R_types (Kd.R_types (Kd.R_types (Kd.R_types (HO_153003.out) BK149.out (by decide)) BK150.out (by decide)) BK151.out (by decide)) BK152.out (by decide)) BK153.out (by decide)) (fun k_ hk => ⟨hk.1.1.1.1.1.1, ⟨hk.1.1.1.1.1.2.1, ⟨hk.1.1.1.1.2, ⟨hk.1.1.1.2, ⟨hk.1.1.2, ⟨hk.1.2, hk.2⟩⟩⟩⟩⟩⟩))).2.1 (Kd.R_F (Kd.R_mono (ok' := (fun k_ => (w.heap.size ≤ k_) ∧ some k_ ≠ (.slice Ao112 t190.length co112 : Value).ownBlock ∧ k_ ≠ gb149 ∧ k_ ≠ gb150 ∧ k_ ≠ gb151 ∧ k_ ≠ gb152 ∧ k_ ≠ gb153)) (Kd.R_types (Kd.R_types (Kd.R_types (Kd.R_types (Kd.R_types (HO_153003.out) BK149.out (by decide)) BK150.out (by decide)) BK151.out (by decide)) BK152.out (by decide)) BK153.out (by decide)) (fun k_ hk => ⟨hk.1.1.1.1.1.1, ⟨hk.1.1.1.1.1.2.1, ⟨hk.1.1.1.1.2, ⟨hk.1.1.1.2, ⟨hk.1.1.2, ⟨hk.1.2, hk.2⟩⟩⟩⟩⟩⟩))) (Nat.le_refl _) (Kd.F_nil _ _ _) (Nat.le_refl _) (Kd.F_nil _ _ _))) (Reps.c6 (show Kd.FK k44 _ _ (⟨(⟨#[83]⟩ : BA), true, 250, x154003_3, ([] : List (S83)), ([] : List (S84))⟩ : S44) [.string (⟨#[83]⟩ : BA), .bool true, .int .i64 250, .slice Ao132 x154003_3.length co132, .slice none 0 0, .slice none 0 0] from (k44_mkF _ _ (⟨(⟨#[83]⟩ : BA), true, 250, x154003_3, ([] : List (S83)), ([] : List (S84))⟩ : S44) (Kd.R_reads' (Kd.R_mono (ok' := (fun k_ => (w.heap.size ≤ k_) ∧ some k_ ≠ (.slice Ao112 t190.length co112 : Value).ownBlock ∧ k_ ≠ gb149 ∧ k_ ≠ gb150 ∧ k_ ≠ gb151 ∧ k_ ≠ gb152 ∧ k_ ≠ gb153)) (Kd.R_types (Kd.R_types (Kd.R_types (Kd.R_types (Kd.R_types (HO_154003.out) BK149.out (by decide)) BK150.out (by decide)) BK151.out (by decide)) BK152.out (by decide)) BK153.out (by decide)) (fun k_ hk => ⟨hk.1.1.1.1.1.1, ⟨hk.1.1.1.1.1.2.1, ⟨hk.1.1.1.1.2, ⟨hk.1.1.1.2, ⟨hk.1.1.2, ⟨hk.1.2, hk.2⟩⟩⟩⟩⟩⟩))).2.1 (Kd.R_F (Kd.R_mono (ok' := (fun k_ => (w.heap.size ≤ k_) ∧ some k_ ≠ (.slice Ao112 t190.length co112 : Value).ownBlock ∧ k_ ≠ gb149 ∧ k_ ≠ gb150 ∧ k_ ≠ gb151 ∧ k_ ≠ gb152 ∧ k_ ≠ gb153)) (Kd.R_types (Kd.R_types (Kd.R_types (Kd.R_types (Kd.R_types (HO_154003.out) BK149.out (by decide)) BK150.out (by decide)) BK151.out (by decide)) BK152.out (by decide)) BK153.out (by decide)) (fun k_ hk => ⟨hk.1.1.1.1.1.1, ⟨hk.1.1.1.1.1.2.1, ⟨hk.1.1.1.1.2, ⟨hk.1.1.1.2, ⟨hk.1.1.2, ⟨hk.1.2, hk.2⟩⟩⟩⟩⟩⟩))) (Nat.le_refl _) (Kd.F_nil _ _ _) (Nat.le_refl _) (Kd.F_nil _ _ _))) (Reps.none _ _))))))); intro v198 w133 ho134 hb hg_ hnew_; clear hg_ hnew_; (first | rw [← Ny197.out] at ho134 | (simp only [Int.reduceToNat] at ho134; rw [← Ny197.out] at ho134)); have n0_ := Aside0.mk (Kd.R_below (rkS HO_11.out) hb); have n1_ := Aside0.mk (Kd.N_lower ho134 (below_size (by repeat (first | (with_reducible first | exact HB.out | apply below_alloc | apply pw_below_drewN | apply below_drew1 | refine below_set ?_ GE149.out | refine below_set ?_ GE150.out | refine below_set ?_ GE151.out | refine below_set ?_ GE152.out | refine below_set ?_ GE153.out) | exact HB.out)))); have n2_ := Aside0.mk (blk_below (g := gb149) (o := .cells #[.string (⟨#[82]⟩ : BA), .bool false, .int .i64 250, .slice Ao128 x150003_2.length co128, .slice Ao85 y181.length co85, .slice Ao100 y187.length co100] 44 (0, 0)) (bkS BK149.out) hb); have n3_ := Aside0.mk (blk_below (g := gb150) (o := .cells #[.string (⟨#[73]⟩ : BA), .bool false, .int .i64 250, .slice Ao129 x151003_1.length co129, .slice none 0 0, .slice none 0 0] 44 (0, 0)) (bkS BK150.out) hb); have n4_ := Aside0.mk (blk_below (g := gb151) (o := .cells #[.string (⟨#[66]⟩ : BA), .bool false, .int .i64 250, .slice Ao130 x152003_2.length co130, .slice Ao93 y184.length co93, .slice none 0 0] 44 (0, 0)) (bkS BK151.out) hb); have n5_ := Aside0.mk (blk_below (g := gb152) (o := .cells #[.string (⟨#[77]⟩ : BA), .bool false, .int .i64 600, .slice Ao131 x153003_1.length co131, .slice none 0 0, .slice none 0 0] 44 (0, 0)) (bkS BK152.out) hb); have n6_ := Aside0.mk (blk_below (g := gb153) (o := .cells #[.string (⟨#[83]⟩ : BA), .bool true, .int .i64 250, .slice Ao132 x154003_3.length co132, .slice none 0 0, .slice none 0 0] 44 (0, 0)) (bkS BK153.out) hb); have n7_ := Aside0.mk (below_step (by repeat (first | (with_reducible first | exact HB.out | apply below_alloc | apply pw_below_drewN | apply below_drew1 | refine below_set ?_ GE149.out | refine below_set ?_ GE150.out | refine below_set ?_ GE151.out | refine below_set ?_ GE152.out | refine below_set ?_ GE153.out) | exact HB.out)) hb); clear HO_11; clear BK149; clear BK150; clear BK151; clear BK152; clear BK153; clear HB; clear HO_150003; clear HO_150004; clear HO_150005; clear HO_151003; clear HO_152003; clear HO_152004; clear HO_153003; clear HO_154003; have HO_11 := n0_; have HO199 := n1_; have BK149 := n2_; have BK150 := n3_; have BK151 := n4_; have BK152 := n5_; have BK153 := n6_; have HB := n7_; clear n0_ n1_ n2_ n3_ n4_ n5_ n6_ n7_; clear hb ho134))
          go_ret
          exact ⟨_, by first | rfl | (simp [errW_none, errW_some] <;> rfl) | (simp [*, errW_none, errW_some] <;> rfl), by (with_reducible repeat (first | apply Kd.N_alloc | apply Kd.N_drewN | apply Kd.N_drew)); exact Kd.N_mono HO199.out (fun _ hk => hk.1), by repeat (first | (with_reducible first | exact HB.out | apply below_alloc | apply pw_below_drewN | apply below_drew1 | refine below_set ?_ GE149.out | refine below_set ?_ GE150.out | refine below_set ?_ GE151.out | refine below_set ?_ GE152.out | refine below_set ?_ GE153.out) | exact HB.out)⟩
end Go.Proofs.YtaifemkokfoadaaGreatDoor.PX
