/-
  Texts that lean on one another, laid in one file. No condition.
-/
import Derived.Test.YtaifemkokfoadaaGreatDoorGSR1
import Derived.Shelf.SlSortCmp.WholeK
import Derived.Ground.SlsfProg
import Derived.Sort.OwnSortedInts
import Derived.Laws.Runes
import Derived.ChangeAlike
namespace Go.Proofs.YtaifemkokfoadaaGreatDoor
open Go.RowKit Go.Proofs.YtaifemkokfoadaaGreatDoorW.PrintWords Go.Proofs.YtaifemkokfoadaaGreatDoorW.PrintLast Go.Proofs.YtaifemkokfoadaaGreatDoorW.PrintMore Go.Proofs.YtaifemkokfoadaaGreatDoor.PX
set_option linter.unusedSimpArgs false
set_option linter.unusedVariables false
def cpaG (x : S31) : S81 := ⟨x.f0, x.f1⟩
theorem cpa.tab5 : rtab .any (opsOf Tryz.f16 5) = ((true, [([], []), ([0], [0]), ([], []), ([2], [2]), ([], []), ([3, 4], [3, 4]), ([5], [5]), ([6], [6]), ([], []), ([8], [8]), ([], []), ([9, 10], [9, 10]), ([11], [11]), ([12], [12]), ([7, 13], [7, 13]), ([14], [14]), ([1, 15], [1, 15]), ([0, 1, 2, 3, 4, 5, 6, 7, 8, 9, 10, 11, 12, 13, 14, 15, 16], []), ([17, 16, 16, 0, 1, 2, 3, 4, 5, 6, 7, 8, 9, 10, 11, 12, 13, 14, 15, 16], [16, 17])])) := by kernel_rfl
theorem cpa.bits5 : waitsOk ((true, [([], []), ([0], [0]), ([], []), ([2], [2]), ([], []), ([3, 4], [3, 4]), ([5], [5]), ([6], [6]), ([], []), ([8], [8]), ([], []), ([9, 10], [9, 10]), ([11], [11]), ([12], [12]), ([7, 13], [7, 13]), ([14], [14]), ([1, 15], [1, 15]), ([0, 1, 2, 3, 4, 5, 6, 7, 8, 9, 10, 11, 12, 13, 14, 15, 16], []), ([17, 16, 16, 0, 1, 2, 3, 4, 5, 6, 7, 8, 9, 10, 11, 12, 13, 14, 15, 16], [16, 17])]) : Bool × List (List Nat × List Nat)).2 [0, 1, 0, 4, 0, 28, 60, 124, 0, 256, 0, 1792, 3840, 7936, 16380, 32764, 65535, 131071, 262143] = true := by kernel_rfl
def cpaL (x : S86) : S83 := ⟨x.f0, x.f1, x.f2⟩
theorem cpa.tab9 : rtab .any (opsOf Tryz.f16 9) = ((true, [([], []), ([0], [0]), ([], []), ([2], [2]), ([], []), ([3, 4], [3, 4]), ([5], [5]), ([6], [6]), ([], []), ([8], [8]), ([], []), ([9, 10], [9, 10]), ([11], [11]), ([12], [12]), ([], []), ([14], [14]), ([], []), ([15, 16], [15, 16]), ([17], [17]), ([18], [18]), ([7, 13, 19], [7, 13, 19]), ([20], [20]), ([1, 21], [1, 21]), ([0, 1, 2, 3, 4, 5, 6, 7, 8, 9, 10, 11, 12, 13, 14, 15, 16, 17, 18, 19, 20, 21, 22], []), ([23, 22, 22, 0, 1, 2, 3, 4, 5, 6, 7, 8, 9, 10, 11, 12, 13, 14, 15, 16, 17, 18, 19, 20, 21, 22], [22, 23])])) := by kernel_rfl
theorem cpa.bits9 : waitsOk ((true, [([], []), ([0], [0]), ([], []), ([2], [2]), ([], []), ([3, 4], [3, 4]), ([5], [5]), ([6], [6]), ([], []), ([8], [8]), ([], []), ([9, 10], [9, 10]), ([11], [11]), ([12], [12]), ([], []), ([14], [14]), ([], []), ([15, 16], [15, 16]), ([17], [17]), ([18], [18]), ([7, 13, 19], [7, 13, 19]), ([20], [20]), ([1, 21], [1, 21]), ([0, 1, 2, 3, 4, 5, 6, 7, 8, 9, 10, 11, 12, 13, 14, 15, 16, 17, 18, 19, 20, 21, 22], []), ([23, 22, 22, 0, 1, 2, 3, 4, 5, 6, 7, 8, 9, 10, 11, 12, 13, 14, 15, 16, 17, 18, 19, 20, 21, 22], [22, 23])]) : Bool × List (List Nat × List Nat)).2 [0, 1, 0, 4, 0, 28, 60, 124, 0, 256, 0, 1792, 3840, 7936, 0, 16384, 0, 114688, 245760, 507904, 1048572, 2097148, 4194303, 8388607, 16777215] = true := by kernel_rfl
def cpaK (x : S76) : S84 := ⟨x.f0, x.f1, x.f2⟩
theorem cpa.tab13 : rtab .any (opsOf Tryz.f16 13) = ((true, [([], []), ([0], [0]), ([], []), ([2], [2]), ([], []), ([3, 4], [3, 4]), ([5], [5]), ([6], [6]), ([], []), ([8], [8]), ([], []), ([9, 10], [9, 10]), ([11], [11]), ([12], [12]), ([], []), ([14], [14]), ([], []), ([15, 16], [15, 16]), ([17], [17]), ([18], [18]), ([7, 13, 19], [7, 13, 19]), ([20], [20]), ([1, 21], [1, 21]), ([0, 1, 2, 3, 4, 5, 6, 7, 8, 9, 10, 11, 12, 13, 14, 15, 16, 17, 18, 19, 20, 21, 22], []), ([23, 22, 22, 0, 1, 2, 3, 4, 5, 6, 7, 8, 9, 10, 11, 12, 13, 14, 15, 16, 17, 18, 19, 20, 21, 22], [22, 23])])) := by kernel_rfl
theorem cpa.bits13 : waitsOk ((true, [([], []), ([0], [0]), ([], []), ([2], [2]), ([], []), ([3, 4], [3, 4]), ([5], [5]), ([6], [6]), ([], []), ([8], [8]), ([], []), ([9, 10], [9, 10]), ([11], [11]), ([12], [12]), ([], []), ([14], [14]), ([], []), ([15, 16], [15, 16]), ([17], [17]), ([18], [18]), ([7, 13, 19], [7, 13, 19]), ([20], [20]), ([1, 21], [1, 21]), ([0, 1, 2, 3, 4, 5, 6, 7, 8, 9, 10, 11, 12, 13, 14, 15, 16, 17, 18, 19, 20, 21, 22], []), ([23, 22, 22, 0, 1, 2, 3, 4, 5, 6, 7, 8, 9, 10, 11, 12, 13, 14, 15, 16, 17, 18, 19, 20, 21, 22], [22, 23])]) : Bool × List (List Nat × List Nat)).2 [0, 1, 0, 4, 0, 28, 60, 124, 0, 256, 0, 1792, 3840, 7936, 0, 16384, 0, 114688, 245760, 507904, 1048572, 2097148, 4194303, 8388607, 16777215] = true := by kernel_rfl
set_option maxRecDepth 100000 in
set_option maxHeartbeats 8000000 in
theorem cpa_any (a : ByteArray) (b : Bool) (c : Int) (A3 : Option Addr) (c3 : Nat) (l3 : List S31) (A4 : Option Addr) (c4 : Nat) (l4 : List S86) (A5 : Option Addr) (c5 : Nat) (l5 : List S76) (w : World) (h3 : Kd.C k31 w A3 l3.length l3) (h4 : Kd.C k86 w A4 l4.length l4) (h5 : Kd.C k76 w A5 l5.length l5) (hl3 : l3.length ≤ 1000000) (hl4 : l4.length ≤ 1000000) (hl5 : l5.length ≤ 1000000) :
  Calls Tryz.prog 16 #[.agg #[.string a, .bool b, .int .i64 c, .slice A3 l3.length c3, .slice A4 l4.length c4, .slice A5 l5.length c5]] w fun e w' => ∃ v3_ v4_ v5_ : Value, e = .returned (.agg #[.string a, .bool b, .int .i64 c, v3_, v4_, v5_]) ∧ Kd.R k81 81 w' w.heap.size (fun _ => True) v3_ (l3.map cpaG) ∧ Kd.R k83 83 w' w.heap.size (fun _ => True) v4_ (l4.map cpaL) ∧ Kd.R k84 84 w' w.heap.size (fun _ => True) v5_ (l5.map cpaK) ∧ Below w.heap.size w w' := by
 have hu1 := Tryz.underlying26
 have hu2 := Tryz.underlying44
 have H3 := Aside0.mk h3
 have H4 := Aside0.mk h4
 have H5 := Aside0.mk h5
 clear h3 h4 h5
 have X0 : XS k81 81 k83 83 k84 84 26 44 w w.heap.size (w.heap.size + 1) (w.heap.size + 2) #[.string a, .bool b, .int .i64 c, .slice A3 l3.length c3, .slice A4 l4.length c4, .slice A5 l5.length c5] a b c (.slice none 0 0) (.slice none 0 0) (.slice none 0 0) [] [] [] (((w.alloc (.cells #[.string a, .bool b, .int .i64 c, .slice A3 l3.length c3, .slice A4 l4.length c4, .slice A5 l5.length c5] 26)).alloc (.cells boxZ 44)).alloc (.cells #[.string a, .bool b, .int .i64 c, .slice none 0 0, .slice none 0 0, .slice none 0 0] 44)) := by
  have e1 : (w.alloc (.cells #[.string a, .bool b, .int .i64 c, .slice A3 l3.length c3, .slice A4 l4.length c4, .slice A5 l5.length c5] 26)).heap.size = w.heap.size + 1 := by simp
  have e2 : ((w.alloc (.cells #[.string a, .bool b, .int .i64 c, .slice A3 l3.length c3, .slice A4 l4.length c4, .slice A5 l5.length c5] 26)).alloc (.cells boxZ 44)).heap.size = w.heap.size + 2 := by simp
  refine ⟨blk_alloc (blk_alloc (blk_new _ _) _) _, ?_, ?_, Kd.R_nil _ _ _ _ _, Kd.R_nil _ _ _ _ _, Kd.R_nil _ _ _ _ _, (((Below.refl _ w).alloc (Nat.le_refl _) _).alloc (by simp) _).alloc (by rw [e2]; omega) _, by omega, by omega, by omega⟩
  ·have := blk_alloc (blk_new (w.alloc (.cells #[.string a, .bool b, .int .i64 c, .slice A3 l3.length c3, .slice A4 l4.length c4, .slice A5 l5.length c5] 26)) (.cells boxZ 44)) (.cells #[.string a, .bool b, .int .i64 c, .slice none 0 0, .slice none 0 0, .slice none 0 0] 44)
   rwa [e1] at this
  ·have := blk_new ((w.alloc (.cells #[.string a, .bool b, .int .i64 c, .slice A3 l3.length c3, .slice A4 l4.length c4, .slice A5 l5.length c5] 26)).alloc (.cells boxZ 44)) (.cells #[.string a, .bool b, .int .i64 c, .slice none 0 0, .slice none 0 0, .slice none 0 0] 44)
   rwa [e2] at this
 go_enter Tryz.func16, Tryz.ntmps16
 go_wp2
 go_loopw [4] (fun y W => ∃ (i : Nat) (u : Value), y = .int .i64 (i : Int) ∧ i ≤ l3.length ∧ Aside0 (XS k81 81 k83 83 k84 84 26 44 w w.heap.size (w.heap.size + 1) (w.heap.size + 2) #[.string a, .bool b, .int .i64 c, .slice A3 l3.length c3, .slice A4 l4.length c4, .slice A5 l5.length c5] a b c u (.slice none 0 0) (.slice none 0 0) ((l3.take i).map cpaG) [] [] W)) (fun y _ => l3.length - (intOf y).toNat)
 case atStart => exact ⟨0, .slice none 0 0, rfl, Nat.zero_le _, ⟨X0⟩⟩
 case round =>
  obtain ⟨i, u, rfl, hi, HX⟩ := hrel
  have X := HX.out
  clear X0
  have hcf : wr.cell? ⟨w.heap.size, 3, none⟩ = some (.slice A3 l3.length c3) := (blk_cell X.bf 3).trans rfl
  by_cases hlt : i < l3.length
  ·have hx := List.getElem?_eq_getElem hlt
   obtain ⟨ad, e, x0, x1⟩ := at_T31 H3.out (i : Int) (by omega) (by omega)
   cases e
   have e : rd_T31 l3 (i : Int) = l3[i] := by simp [rd_T31, List.getD_eq_getElem?_getD, hlt]
   rw [Int.toNat_natCast, e] at x0 x1
   clear e
   generalize l3[i] = x at hx x0 x1
   have k0 := fun (W : World) (h : Below w.heap.size w W) => (h.cell (World.block_lt_of_cell? w _ x0)).trans x0; have k1 := fun (W : World) (h : Below w.heap.size w W) => (h.cell (World.block_lt_of_cell? w _ x1)).trans x1
   have q1 : (i : Int) < (l3.length : Int) := by omega
   have q0 : (0 : Int) ≤ (i : Int) := by omega
   have q3 : ((i : Int)).toNat = i := Int.toNat_natCast i
   have q2 : decide ((i : Int) < (l3.length : Int)) = true := decide_eq_true q1
   try go_wp2
   have X1 := X.mv (below_drew (Below.refl _ wr))
   refine start_ (n := 19) (S := fun W' => W'.cell? ⟨w.heap.size + 2, 3, none⟩ = some u ∧ W'.cell? ⟨w.heap.size, 3, none⟩ = some (.slice (some ad) l3.length c3) ∧ W'.cell? (ad.add (i * 2)) = some (.string x.f0) ∧ W'.cell? ⟨(ad.add (i * 2)).block, (ad.add (i * 2)).off + 1, none⟩ = some (.int .i64 x.f1)) (ds := [18]) #[false, false, false, false, false, false, false, false, false, false, false, false, false, false, false, false, false, false, false] (by kernel_rfl) rfl rfl ⟨(blk_cell X1.bx 3).trans rfl, (blk_cell X1.bf 3).trans rfl, k0 _ X1.hb, k1 _ X1.hb⟩ (fun hHeld => ?_); refine with_tabW cpa.tab5 cpa.bits5 (fun HT_ HW_ => ?_)
   clear X HX hcf
   generalize wr.drew = W at X1 hHeld ⊢
   refine puS 0 (some 21) HT_ ?_
   refine puS 2 (some 23) HT_ ?_
   refine puS 4 (some 25) HT_ ?_
   refine puS 8 (some 29) HT_ ?_
   refine puS 10 (some 31) HT_ ?_
   refine taS 1 (some 22) HT_ HW_ hHeld ?_
   refine taS 3 (some 24) HT_ HW_ hHeld ?_
   refine puS 5 (some 26) HT_ ?_
   refine puS 6 (some 27) HT_ ?_
   refine taS 7 (some 28) HT_ HW_ hHeld ?_
   refine taS 9 (some 30) HT_ HW_ hHeld ?_
   refine puS 11 (some 32) HT_ ?_
   refine puS 12 (some 33) HT_ ?_
   refine taS 13 (some 34) HT_ HW_ hHeld ?_
   refine puS 14 (some 35) HT_ ?_
   refine onS 15 (some 36) HT_ (fun K hK => ?_)
   refine vaS ?_
   have X2 := X1.mv (below_alloc (Below.refl _ W) (.cells #[.string x.f0, .int .i64 x.f1] 81))
   refine hK.out _ _ ⟨(blk_cell X2.bx 3).trans rfl, (blk_cell X2.bf 3).trans rfl, k0 _ X2.hb, k1 _ X2.hb⟩ (fun hHeld => ?_)
   clear hK K
   refine noS (some 36) ?_
   refine onS 16 (some 37) HT_ (fun K hK => ?_)
   refine Kd.R_append_step k81 (w0 := w) w.heap.size (by rfl) (.tmp 22) (.tmp 36) 40 81 (.agg #[(.string ⟨#[]⟩), (.int .i64 0)]) 24 rfl Tryz.underlying40 info81 rfl (by decide) (by omega) u ((l3.take i).map cpaG) (cpaG x) [.string x.f0, .int .i64 x.f1] (fun _ => True) (fun _ => False) rfl rfl ?aP (fun _ hk => hk.elim) ?aF ?aO ?aB ?aS ?aL ?_
   (case aP => exact k81_mkM _ _ _ (cpaG x))
   (case aB => exact X1.hb)
   (case aF => exact (fun _ _ => trivial))
   (case aO => exact X1.r3)
   (case aS => exact X1.hb.size)
   (case aL => rw [List.length_map, List.length_take]; omega)
   intro v w17 ho hb hg hat
   rw [← take_snoc cpaG l3 i x hx] at ho
   obtain ⟨Ao, co, eo⟩ := Kd.R_slice ho
   subst eo
   generalize ((l3.take (i + 1)).map cpaG).length = nn at ho ⊢
   have bx1 := blk_grown X1.bx hg (Kd.R_ne X1.r3 X1.bx (by decide))
   have bf1 := blk_grown X1.bf hg (Kd.R_ne X1.r3 X1.bf (by decide))
   have X3 := Aside0.mk (X1.put3 hg ho hb (by decide) (by decide) (by decide) (by decide) (by decide) (by decide))
   refine hK.out _ _ ⟨(blk_cell bx1 3).trans rfl, (blk_cell bf1 3).trans rfl, k0 _ hb, k1 _ hb⟩ (fun hHeld => ?_)
   clear hK K
   refine noS (some 37) ?_
   refine puS 17 (some 38) HT_ ?_
   refine last_ (i := 18) (N := none) #[true, true, true, true, true, true, true, true, true, true, true, true, true, true, true, true, true, true, true] rfl rfl (one_of HT_.out (by kernel_rfl)) (by decide) (fun K hK => ?_)
   have hs19 : w17.cell? ⟨w.heap.size + 2, 3, none⟩ = some u := (blk_cell bx1 3).trans rfl
   have hfs19 := blk_frozen bx1 3
   refine skip_ (w1 := ?_) (by rfl) rfl ?_ ?_
   rotate_left
   ·go_simp
    rfl
   refine hK.out _ _ ?_
   clear hK K
   refine done_ (done_of HT_.out (by kernel_rfl)) ?_
   clear X1 X2 hb hg ho hat hs19 hfs19 bx1 bf1 hHeld
   generalize w17.setCell ⟨w.heap.size + 2, 3, none⟩ (.slice Ao nn co : Value) = w18 at X3 ⊢
   try go_wp2
   go_roundw
   case rel => exact ⟨i + 1, (.slice Ao nn co : Value), by first | rfl | (simp; done) | go_num, by omega, X3⟩
   case measure => simp [intOf]; omega
  ·obtain rfl : i = l3.length := by omega
   have q2 : decide ((l3.length : Int) < (l3.length : Int)) = false := decide_eq_false (by omega)
   rw [List.take_length] at X
   clear HX
   obtain ⟨Ao3, co3, eo3⟩ := Kd.R_slice X.r3
   subst eo3
   generalize HM3 : l3.map cpaG = m3 at X
   try go_wp2
   go_loopw [5] (fun y W => ∃ (i : Nat) (u : Value), y = .int .i64 (i : Int) ∧ i ≤ l4.length ∧ Aside0 (XS k81 81 k83 83 k84 84 26 44 w w.heap.size (w.heap.size + 1) (w.heap.size + 2) #[.string a, .bool b, .int .i64 c, .slice A3 l3.length c3, .slice A4 l4.length c4, .slice A5 l5.length c5] a b c (.slice Ao3 m3.length co3) u (.slice none 0 0) m3 ((l4.take i).map cpaL) [] W)) (fun y _ => l4.length - (intOf y).toNat)
   case atStart => exact ⟨0, .slice none 0 0, rfl, Nat.zero_le _, ⟨X⟩⟩
   case round =>
    obtain ⟨i, u, rfl, hi, HX⟩ := hrel
    have X := HX.out
    skip
    have hcf : wr.cell? ⟨w.heap.size, 4, none⟩ = some (.slice A4 l4.length c4) := (blk_cell X.bf 4).trans rfl
    by_cases hlt : i < l4.length
    ·have hx := List.getElem?_eq_getElem hlt
     obtain ⟨ad, e, x0, x1, x2⟩ := at_T86 H4.out (i : Int) (by omega) (by omega)
     cases e
     have e : rd_T86 l4 (i : Int) = l4[i] := by simp [rd_T86, List.getD_eq_getElem?_getD, hlt]
     rw [Int.toNat_natCast, e] at x0 x1 x2
     clear e
     generalize l4[i] = x at hx x0 x1 x2
     have k0 := fun (W : World) (h : Below w.heap.size w W) => (h.cell (World.block_lt_of_cell? w _ x0)).trans x0; have k1 := fun (W : World) (h : Below w.heap.size w W) => (h.cell (World.block_lt_of_cell? w _ x1)).trans x1; have k2 := fun (W : World) (h : Below w.heap.size w W) => (h.cell (World.block_lt_of_cell? w _ x2)).trans x2
     have q1 : (i : Int) < (l4.length : Int) := by omega
     have q0 : (0 : Int) ≤ (i : Int) := by omega
     have q3 : ((i : Int)).toNat = i := Int.toNat_natCast i
     have q2 : decide ((i : Int) < (l4.length : Int)) = true := decide_eq_true q1
     try go_wp2
     have X1 := X.mv (below_drew (Below.refl _ wr))
     refine start_ (n := 25) (S := fun W' => W'.cell? ⟨w.heap.size + 2, 4, none⟩ = some u ∧ W'.cell? ⟨w.heap.size, 4, none⟩ = some (.slice (some ad) l4.length c4) ∧ W'.cell? (ad.add (i * 3)) = some (.string x.f0) ∧ W'.cell? ⟨(ad.add (i * 3)).block, (ad.add (i * 3)).off + 1, none⟩ = some (.string x.f1) ∧ W'.cell? ⟨(ad.add (i * 3)).block, (ad.add (i * 3)).off + 2, none⟩ = some (.string x.f2)) (ds := [24]) #[false, false, false, false, false, false, false, false, false, false, false, false, false, false, false, false, false, false, false, false, false, false, false, false, false] (by kernel_rfl) rfl rfl ⟨(blk_cell X1.bx 4).trans rfl, (blk_cell X1.bf 4).trans rfl, k0 _ X1.hb, k1 _ X1.hb, k2 _ X1.hb⟩ (fun hHeld => ?_); refine with_tabW cpa.tab9 cpa.bits9 (fun HT_ HW_ => ?_)
     clear X HX hcf
     generalize wr.drew = W at X1 hHeld ⊢
     refine puS 0 (some 46) HT_ ?_
     refine puS 2 (some 48) HT_ ?_
     refine puS 4 (some 50) HT_ ?_
     refine puS 8 (some 54) HT_ ?_
     refine puS 10 (some 56) HT_ ?_
     refine puS 14 (some 60) HT_ ?_
     refine puS 16 (some 62) HT_ ?_
     refine taS 1 (some 47) HT_ HW_ hHeld ?_
     refine taS 3 (some 49) HT_ HW_ hHeld ?_
     refine puS 5 (some 51) HT_ ?_
     refine puS 6 (some 52) HT_ ?_
     refine taS 7 (some 53) HT_ HW_ hHeld ?_
     refine taS 9 (some 55) HT_ HW_ hHeld ?_
     refine puS 11 (some 57) HT_ ?_
     refine puS 12 (some 58) HT_ ?_
     refine taS 13 (some 59) HT_ HW_ hHeld ?_
     refine taS 15 (some 61) HT_ HW_ hHeld ?_
     refine puS 17 (some 63) HT_ ?_
     refine puS 18 (some 64) HT_ ?_
     refine taS 19 (some 65) HT_ HW_ hHeld ?_
     refine puS 20 (some 66) HT_ ?_
     refine onS 21 (some 67) HT_ (fun K hK => ?_)
     refine vaS ?_
     have X2 := X1.mv (below_alloc (Below.refl _ W) (.cells #[.string x.f0, .string x.f1, .string x.f2] 83))
     refine hK.out _ _ ⟨(blk_cell X2.bx 4).trans rfl, (blk_cell X2.bf 4).trans rfl, k0 _ X2.hb, k1 _ X2.hb, k2 _ X2.hb⟩ (fun hHeld => ?_)
     clear hK K
     refine noS (some 67) ?_
     refine onS 22 (some 68) HT_ (fun K hK => ?_)
     refine Kd.R_append_step k83 (w0 := w) w.heap.size (by rfl) (.tmp 47) (.tmp 67) 41 83 (.agg #[(.string ⟨#[]⟩), (.string ⟨#[]⟩), (.string ⟨#[]⟩)]) 48 rfl Tryz.underlying41 info83 rfl (by decide) (by omega) u ((l4.take i).map cpaL) (cpaL x) [.string x.f0, .string x.f1, .string x.f2] (fun _ => True) (fun _ => False) rfl rfl ?aP (fun _ hk => hk.elim) ?aF ?aO ?aB ?aS ?aL ?_
     (case aP => exact k83_mkM _ _ _ (cpaL x))
     (case aB => exact X1.hb)
     (case aF => exact (fun _ _ => trivial))
     (case aO => exact X1.r4)
     (case aS => exact X1.hb.size)
     (case aL => rw [List.length_map, List.length_take]; omega)
     intro v w17 ho hb hg hat
     rw [← take_snoc cpaL l4 i x hx] at ho
     obtain ⟨Ao, co, eo⟩ := Kd.R_slice ho
     subst eo
     generalize ((l4.take (i + 1)).map cpaL).length = nn at ho ⊢
     have bx1 := blk_grown X1.bx hg (Kd.R_ne X1.r4 X1.bx (by decide))
     have bf1 := blk_grown X1.bf hg (Kd.R_ne X1.r4 X1.bf (by decide))
     have X3 := Aside0.mk (X1.put4 hg ho hb (by decide) (by decide) (by decide) (by decide) (by decide) (by decide))
     refine hK.out _ _ ⟨(blk_cell bx1 4).trans rfl, (blk_cell bf1 4).trans rfl, k0 _ hb, k1 _ hb, k2 _ hb⟩ (fun hHeld => ?_)
     clear hK K
     refine noS (some 68) ?_
     refine puS 23 (some 69) HT_ ?_
     refine last_ (i := 24) (N := none) #[true, true, true, true, true, true, true, true, true, true, true, true, true, true, true, true, true, true, true, true, true, true, true, true, true] rfl rfl (one_of HT_.out (by kernel_rfl)) (by decide) (fun K hK => ?_)
     have hs19 : w17.cell? ⟨w.heap.size + 2, 4, none⟩ = some u := (blk_cell bx1 4).trans rfl
     have hfs19 := blk_frozen bx1 4
     refine skip_ (w1 := ?_) (by rfl) rfl ?_ ?_
     rotate_left
     ·go_simp
      rfl
     refine hK.out _ _ ?_
     clear hK K
     refine done_ (done_of HT_.out (by kernel_rfl)) ?_
     clear X1 X2 hb hg ho hat hs19 hfs19 bx1 bf1 hHeld
     generalize w17.setCell ⟨w.heap.size + 2, 4, none⟩ (.slice Ao nn co : Value) = w18 at X3 ⊢
     try go_wp2
     go_roundw
     case rel => exact ⟨i + 1, (.slice Ao nn co : Value), by first | rfl | (simp; done) | go_num, by omega, X3⟩
     case measure => simp [intOf]; omega
    ·obtain rfl : i = l4.length := by omega
     have q2 : decide ((l4.length : Int) < (l4.length : Int)) = false := decide_eq_false (by omega)
     rw [List.take_length] at X
     clear HX
     obtain ⟨Ao4, co4, eo4⟩ := Kd.R_slice X.r4
     subst eo4
     generalize HM4 : l4.map cpaL = m4 at X
     try go_wp2
     go_loopw [6] (fun y W => ∃ (i : Nat) (u : Value), y = .int .i64 (i : Int) ∧ i ≤ l5.length ∧ Aside0 (XS k81 81 k83 83 k84 84 26 44 w w.heap.size (w.heap.size + 1) (w.heap.size + 2) #[.string a, .bool b, .int .i64 c, .slice A3 l3.length c3, .slice A4 l4.length c4, .slice A5 l5.length c5] a b c (.slice Ao3 m3.length co3) (.slice Ao4 m4.length co4) u m3 m4 ((l5.take i).map cpaK) W)) (fun y _ => l5.length - (intOf y).toNat)
     case atStart => exact ⟨0, .slice none 0 0, rfl, Nat.zero_le _, ⟨X⟩⟩
     case round =>
      obtain ⟨i, u, rfl, hi, HX⟩ := hrel
      have X := HX.out
      skip
      have hcf : wr.cell? ⟨w.heap.size, 5, none⟩ = some (.slice A5 l5.length c5) := (blk_cell X.bf 5).trans rfl
      by_cases hlt : i < l5.length
      ·have hx := List.getElem?_eq_getElem hlt
       obtain ⟨ad, e, x0, x1, x2⟩ := at_T76 H5.out (i : Int) (by omega) (by omega)
       cases e
       have e : rd_T76 l5 (i : Int) = l5[i] := by simp [rd_T76, List.getD_eq_getElem?_getD, hlt]
       rw [Int.toNat_natCast, e] at x0 x1 x2
       clear e
       generalize l5[i] = x at hx x0 x1 x2
       have k0 := fun (W : World) (h : Below w.heap.size w W) => (h.cell (World.block_lt_of_cell? w _ x0)).trans x0; have k1 := fun (W : World) (h : Below w.heap.size w W) => (h.cell (World.block_lt_of_cell? w _ x1)).trans x1; have k2 := fun (W : World) (h : Below w.heap.size w W) => (h.cell (World.block_lt_of_cell? w _ x2)).trans x2
       have q1 : (i : Int) < (l5.length : Int) := by omega
       have q0 : (0 : Int) ≤ (i : Int) := by omega
       have q3 : ((i : Int)).toNat = i := Int.toNat_natCast i
       have q2 : decide ((i : Int) < (l5.length : Int)) = true := decide_eq_true q1
       try go_wp2
       have X1 := X.mv (below_drew (Below.refl _ wr))
       refine start_ (n := 25) (S := fun W' => W'.cell? ⟨w.heap.size + 2, 5, none⟩ = some u ∧ W'.cell? ⟨w.heap.size, 5, none⟩ = some (.slice (some ad) l5.length c5) ∧ W'.cell? (ad.add (i * 3)) = some (.string x.f0) ∧ W'.cell? ⟨(ad.add (i * 3)).block, (ad.add (i * 3)).off + 1, none⟩ = some (.string x.f1) ∧ W'.cell? ⟨(ad.add (i * 3)).block, (ad.add (i * 3)).off + 2, none⟩ = some (.int .i64 x.f2)) (ds := [24]) #[false, false, false, false, false, false, false, false, false, false, false, false, false, false, false, false, false, false, false, false, false, false, false, false, false] (by kernel_rfl) rfl rfl ⟨(blk_cell X1.bx 5).trans rfl, (blk_cell X1.bf 5).trans rfl, k0 _ X1.hb, k1 _ X1.hb, k2 _ X1.hb⟩ (fun hHeld => ?_); refine with_tabW cpa.tab13 cpa.bits13 (fun HT_ HW_ => ?_)
       clear X HX hcf
       generalize wr.drew = W at X1 hHeld ⊢
       refine puS 0 (some 77) HT_ ?_
       refine puS 2 (some 79) HT_ ?_
       refine puS 4 (some 81) HT_ ?_
       refine puS 8 (some 85) HT_ ?_
       refine puS 10 (some 87) HT_ ?_
       refine puS 14 (some 91) HT_ ?_
       refine puS 16 (some 93) HT_ ?_
       refine taS 1 (some 78) HT_ HW_ hHeld ?_
       refine taS 3 (some 80) HT_ HW_ hHeld ?_
       refine puS 5 (some 82) HT_ ?_
       refine puS 6 (some 83) HT_ ?_
       refine taS 7 (some 84) HT_ HW_ hHeld ?_
       refine taS 9 (some 86) HT_ HW_ hHeld ?_
       refine puS 11 (some 88) HT_ ?_
       refine puS 12 (some 89) HT_ ?_
       refine taS 13 (some 90) HT_ HW_ hHeld ?_
       refine taS 15 (some 92) HT_ HW_ hHeld ?_
       refine puS 17 (some 94) HT_ ?_
       refine puS 18 (some 95) HT_ ?_
       refine taS 19 (some 96) HT_ HW_ hHeld ?_
       refine puS 20 (some 97) HT_ ?_
       refine onS 21 (some 98) HT_ (fun K hK => ?_)
       refine vaS ?_
       have X2 := X1.mv (below_alloc (Below.refl _ W) (.cells #[.string x.f0, .string x.f1, .int .i64 x.f2] 84))
       refine hK.out _ _ ⟨(blk_cell X2.bx 5).trans rfl, (blk_cell X2.bf 5).trans rfl, k0 _ X2.hb, k1 _ X2.hb, k2 _ X2.hb⟩ (fun hHeld => ?_)
       clear hK K
       refine noS (some 98) ?_
       refine onS 22 (some 99) HT_ (fun K hK => ?_)
       refine Kd.R_append_step k84 (w0 := w) w.heap.size (by rfl) (.tmp 78) (.tmp 98) 42 84 (.agg #[(.string ⟨#[]⟩), (.string ⟨#[]⟩), (.int .i64 0)]) 40 rfl Tryz.underlying42 info84 rfl (by decide) (by omega) u ((l5.take i).map cpaK) (cpaK x) [.string x.f0, .string x.f1, .int .i64 x.f2] (fun _ => True) (fun _ => False) rfl rfl ?aP (fun _ hk => hk.elim) ?aF ?aO ?aB ?aS ?aL ?_
       (case aP => exact k84_mkM _ _ _ (cpaK x))
       (case aB => exact X1.hb)
       (case aF => exact (fun _ _ => trivial))
       (case aO => exact X1.r5)
       (case aS => exact X1.hb.size)
       (case aL => rw [List.length_map, List.length_take]; omega)
       intro v w17 ho hb hg hat
       rw [← take_snoc cpaK l5 i x hx] at ho
       obtain ⟨Ao, co, eo⟩ := Kd.R_slice ho
       subst eo
       generalize ((l5.take (i + 1)).map cpaK).length = nn at ho ⊢
       have bx1 := blk_grown X1.bx hg (Kd.R_ne X1.r5 X1.bx (by decide))
       have bf1 := blk_grown X1.bf hg (Kd.R_ne X1.r5 X1.bf (by decide))
       have X3 := Aside0.mk (X1.put5 hg ho hb (by decide) (by decide) (by decide) (by decide) (by decide) (by decide))
       refine hK.out _ _ ⟨(blk_cell bx1 5).trans rfl, (blk_cell bf1 5).trans rfl, k0 _ hb, k1 _ hb, k2 _ hb⟩ (fun hHeld => ?_)
       clear hK K
       refine noS (some 99) ?_
       refine puS 23 (some 100) HT_ ?_
       refine last_ (i := 24) (N := none) #[true, true, true, true, true, true, true, true, true, true, true, true, true, true, true, true, true, true, true, true, true, true, true, true, true] rfl rfl (one_of HT_.out (by kernel_rfl)) (by decide) (fun K hK => ?_)
       have hs19 : w17.cell? ⟨w.heap.size + 2, 5, none⟩ = some u := (blk_cell bx1 5).trans rfl
       have hfs19 := blk_frozen bx1 5
       refine skip_ (w1 := ?_) (by rfl) rfl ?_ ?_
       rotate_left
       ·go_simp
        rfl
       refine hK.out _ _ ?_
       clear hK K
       refine done_ (done_of HT_.out (by kernel_rfl)) ?_
       clear X1 X2 hb hg ho hat hs19 hfs19 bx1 bf1 hHeld
       generalize w17.setCell ⟨w.heap.size + 2, 5, none⟩ (.slice Ao nn co : Value) = w18 at X3 ⊢
       try go_wp2
       go_roundw
       case rel => exact ⟨i + 1, (.slice Ao nn co : Value), by first | rfl | (simp; done) | go_num, by omega, X3⟩
       case measure => simp [intOf]; omega
      ·obtain rfl : i = l5.length := by omega
       have q2 : decide ((l5.length : Int) < (l5.length : Int)) = false := decide_eq_false (by omega)
       rw [List.take_length] at X
       clear HX
       obtain ⟨Ao5, co5, eo5⟩ := Kd.R_slice X.r5
       subst eo5
       generalize HM5 : l5.map cpaK = m5 at X
       have y0 : wr.cell? ⟨w.heap.size + 2, 0, none⟩ = some (.string a) := (blk_cell X.bx 0).trans rfl; have y1 : wr.cell? ⟨w.heap.size + 2, 1, none⟩ = some (.bool b) := (blk_cell X.bx 1).trans rfl; have y2 : wr.cell? ⟨w.heap.size + 2, 2, none⟩ = some (.int .i64 c) := (blk_cell X.bx 2).trans rfl; have y3 : wr.cell? ⟨w.heap.size + 2, 3, none⟩ = some (.slice Ao3 m3.length co3) := (blk_cell X.bx 3).trans rfl; have y4 : wr.cell? ⟨w.heap.size + 2, 4, none⟩ = some (.slice Ao4 m4.length co4) := (blk_cell X.bx 4).trans rfl; have y5 : wr.cell? ⟨w.heap.size + 2, 5, none⟩ = some (.slice Ao5 m5.length co5) := (blk_cell X.bx 5).trans rfl
       have z0 : wr.cell? ⟨w.heap.size + 1, 0, none⟩ = some (.string (⟨#[]⟩ : ByteArray)) := (blk_cell X.br 0).trans rfl; have zf0 := blk_frozen X.br 0; have z1 : wr.cell? ⟨w.heap.size + 1, 1, none⟩ = some (.bool false) := (blk_cell X.br 1).trans rfl; have zf1 := blk_frozen X.br 1; have z2 : wr.cell? ⟨w.heap.size + 1, 2, none⟩ = some (.int .i64 0) := (blk_cell X.br 2).trans rfl; have zf2 := blk_frozen X.br 2; have z3 : wr.cell? ⟨w.heap.size + 1, 3, none⟩ = some (.slice none 0 0) := (blk_cell X.br 3).trans rfl; have zf3 := blk_frozen X.br 3; have z4 : wr.cell? ⟨w.heap.size + 1, 4, none⟩ = some (.slice none 0 0) := (blk_cell X.br 4).trans rfl; have zf4 := blk_frozen X.br 4; have z5 : wr.cell? ⟨w.heap.size + 1, 5, none⟩ = some (.slice none 0 0) := (blk_cell X.br 5).trans rfl; have zf5 := blk_frozen X.br 5
       have HX := Aside0.mk X
       clear X
       go_wp2
       refine bodyPost_ret (results_cell_row rfl _ _ (w.heap.size + 1) 44 #[.string a, .bool b, .int .i64 c, .slice Ao3 m3.length co3, .slice Ao4 m4.length co4, .slice Ao5 m5.length co5] (0, 0) _ rfl (six_blk HX.out.br (.string a) (.bool b) (.int .i64 c) (.slice Ao3 m3.length co3) (.slice Ao4 m4.length co4) (.slice Ao5 m5.length co5)) Tryz.underlying44 rfl (by kernel_rfl)) rfl ?_
       rw [HM3, HM4, HM5]
       exact ⟨_, _, _, rfl, six_R HX.out.r3 HX.out.br (by decide) (.string a) (.bool b) (.int .i64 c) (.slice Ao3 m3.length co3) (.slice Ao4 m4.length co4) (.slice Ao5 m5.length co5), six_R HX.out.r4 HX.out.br (by decide) (.string a) (.bool b) (.int .i64 c) (.slice Ao3 m3.length co3) (.slice Ao4 m4.length co4) (.slice Ao5 m5.length co5), six_R HX.out.r5 HX.out.br (by decide) (.string a) (.bool b) (.int .i64 c) (.slice Ao3 m3.length co3) (.slice Ao4 m4.length co4) (.slice Ao5 m5.length co5), six_below HX.out.hb (by omega) (.string a) (.bool b) (.int .i64 c) (.slice Ao3 m3.length co3) (.slice Ao4 m4.length co4) (.slice Ao5 m5.length co5)⟩
end Go.Proofs.YtaifemkokfoadaaGreatDoor

namespace Go.Proofs.YtaifemkokfoadaaGreatDoor
open Go.RowKit Go.Shelf Go.Proofs.YtaifemkokfoadaaGreatDoorW.PrintWords Go.Proofs.YtaifemkokfoadaaGreatDoorW.PrintLast Go.Proofs.YtaifemkokfoadaaGreatDoorW.PrintMore Go.Proofs.YtaifemkokfoadaaGreatDoor.PX
set_option maxRecDepth 100000 in
theorem hasNm_any (B : Nat) (n : ByteArray) (w : World) (hB : w.cell? ⟨B, 0, none⟩ = some (.string n)) :
    PredBelow Tryz.prog 107 #[.pointer (some ⟨B, 0, none⟩)] (fun x => .agg (encG x).toArray) (fun x : S31 => x.f0.toList == n.toList) w := fun W x hb => by
  have hl := World.block_lt_of_cell? w _ hB
  have hlW : B < W.heap.size := Nat.lt_of_lt_of_le hl hb.size
  have hc : (W.alloc (.cells #[.string x.f0, .int .i64 x.f1] 31)).cell? ⟨B, 0, none⟩ = some (.string n) := (World.cell?_alloc_lt _ _ _ hlW).trans ((hb.cell hl).trans hB)
  have hb0 : Below w.heap.size w (W.alloc (.cells #[.string x.f0, .int .i64 x.f1] 31)) := hb.alloc hb.size _
  show Calls Tryz.prog 107 #[.agg #[.string x.f0, .int .i64 x.f1], .pointer (some ⟨B, 0, none⟩)] W _
  clear hb hB hl
  go_enter Tryz.func107, Tryz.ntmps107
  go_wp2
  go_ret
  exact ⟨by first | rfl | (simp; done), hb0⟩
set_option maxRecDepth 100000 in
theorem monoNm_any (B : Nat) (a : ByteArray) (b : Bool) (c : Int) (v3 v4 v5 : Value) (w : World) (hB : w.heap[B]? = some (.cells #[.string a, .bool b, .int .i64 c, v3, v4, v5] 26 (0, 0))) :
    PredBelow Tryz.prog 108 #[.pointer (some ⟨B, 0, none⟩)] (fun x => .agg (encG x).toArray) (fun x : S31 => x.f1 != c) w := fun W x hb => by
  have hl := blk_lt hB
  have hlW : B < W.heap.size := Nat.lt_of_lt_of_le hl hb.size
  have hBW : W.heap[B]? = some (.cells #[.string a, .bool b, .int .i64 c, v3, v4, v5] 26 (0, 0)) := blk_below hB (hb.mono (Nat.le_refl _))
  have hc : (W.alloc (.cells #[.string x.f0, .int .i64 x.f1] 31)).cell? ⟨B, 2, none⟩ = some (.int .i64 c) := (blk_cell (blk_alloc hBW _) 2).trans rfl
  have hb0 : Below w.heap.size w (W.alloc (.cells #[.string x.f0, .int .i64 x.f1] 31)) := hb.alloc hb.size _
  show Calls Tryz.prog 108 #[.agg #[.string x.f0, .int .i64 x.f1], .pointer (some ⟨B, 0, none⟩)] W _
  clear hb hB hl hBW
  go_enter Tryz.func108, Tryz.ntmps108
  go_wp2
  go_ret
  exact ⟨by first | rfl | (simp; done), hb0⟩
def hasV (l : List S31) (n : ByteArray) : Bool := l.any fun x => x.f0.toList == n.toList
def monoV (c : Int) (l : List S31) : Bool := !(l.any fun x => x.f1 != c)
def font_Has.f (_ : ByteArray) (_ : Bool) (_ : Int) (l0_3 : List S31) (_ : List S86) (_ : List S76) (a1 : ByteArray) : Option Bool := if l0_3.length ≤ 1000000000 then some (hasV l0_3 a1) else none
def font_Mono.f (_ : ByteArray) (_ : Bool) (a0_2 : Int) (l0_3 : List S31) (_ : List S86) (_ : List S76) : Option Bool := if l0_3.length ≤ 1000000000 then some (monoV a0_2 l0_3) else none
theorem font_Has.calls (a0_0 : ByteArray) (a0_1 : Bool) (a0_2 : Int) (A0_3 : Option Addr) (c0_3 : Nat) (l0_3 : List S31) (A0_4 : Option Addr) (c0_4 : Nat) (l0_4 : List S86) (A0_5 : Option Addr) (c0_5 : Nat) (l0_5 : List S76) (a1 : ByteArray) (r : Bool) (w : World) (hr0_3 : Kd.C k31 w A0_3 l0_3.length l0_3) (_ : l0_3.length ≤ c0_3) (_ : Kd.C k86 w A0_4 l0_4.length l0_4) (_ : l0_4.length ≤ c0_4) (_ : Kd.C k76 w A0_5 l0_5.length l0_5) (_ : l0_5.length ≤ c0_5) (_ : GW w) (h : font_Has.f a0_0 a0_1 a0_2 l0_3 l0_4 l0_5 a1 = some r) :
    Calls Tryz.prog 62 #[.agg #[.string a0_0, .bool a0_1, .int .i64 a0_2, .slice A0_3 l0_3.length c0_3, .slice A0_4 l0_4.length c0_4, .slice A0_5 l0_5.length c0_5], .string a1] w fun e w' => e = .returned (.bool r) ∧ Below w.heap.size w w' := by
  unfold font_Has.f at h
  split at h
  · rename_i hl
    obtain rfl := Option.some.inj h
    have hb0 : Below w.heap.size w ((w.alloc (.cells #[.string a0_0, .bool a0_1, .int .i64 a0_2, .slice A0_3 l0_3.length c0_3, .slice A0_4 l0_4.length c0_4, .slice A0_5 l0_5.length c0_5] 26)).alloc (.cells #[.string a1] 9)) := ((Below.refl _ w).alloc (Nat.le_refl _) _).alloc (by simp) _
    have hcell : ((w.alloc (.cells #[.string a0_0, .bool a0_1, .int .i64 a0_2, .slice A0_3 l0_3.length c0_3, .slice A0_4 l0_4.length c0_4, .slice A0_5 l0_5.length c0_5] 26)).alloc (.cells #[.string a1] 9)).cell? ⟨w.heap.size + 1, 0, none⟩ = some (.string a1) := by simp
    have hs := hasG_any A0_3 c0_3 l0_3 _ (Kd.C_below hr0_3 hb0) hl (fun x => x.f0.toList == a1.toList) 107 #[.pointer (some ⟨w.heap.size + 1, 0, none⟩)] (enters_ Tryz.func107 (by kernel_rfl) rfl) (hasNm_any (w.heap.size + 1) a1 _ hcell)
    unfold hasV
    generalize (l0_3.any fun x => x.f0.toList == a1.toList) = R at hs ⊢
    clear hcell hr0_3 hl h
    go_enter Tryz.func62, Tryz.ntmps62
    go_wp2_with fail
    refine hs.mono ?_; rintro e w2 ⟨rfl, hb2⟩
    go_wp2
    go_ret
    exact ⟨rfl, hb0.trans (hb2.mono hb0.size)⟩
  · cases h
theorem font_Mono.calls (a0_0 : ByteArray) (a0_1 : Bool) (a0_2 : Int) (A0_3 : Option Addr) (c0_3 : Nat) (l0_3 : List S31) (A0_4 : Option Addr) (c0_4 : Nat) (l0_4 : List S86) (A0_5 : Option Addr) (c0_5 : Nat) (l0_5 : List S76) (r : Bool) (w : World) (hr0_3 : Kd.C k31 w A0_3 l0_3.length l0_3) (_ : l0_3.length ≤ c0_3) (_ : Kd.C k86 w A0_4 l0_4.length l0_4) (_ : l0_4.length ≤ c0_4) (_ : Kd.C k76 w A0_5 l0_5.length l0_5) (_ : l0_5.length ≤ c0_5) (_ : GW w) (h : font_Mono.f a0_0 a0_1 a0_2 l0_3 l0_4 l0_5 = some r) :
    Calls Tryz.prog 64 #[.agg #[.string a0_0, .bool a0_1, .int .i64 a0_2, .slice A0_3 l0_3.length c0_3, .slice A0_4 l0_4.length c0_4, .slice A0_5 l0_5.length c0_5]] w fun e w' => e = .returned (.bool r) ∧ Below w.heap.size w w' := by
  unfold font_Mono.f at h
  split at h
  · rename_i hl
    obtain rfl := Option.some.inj h
    have hb0 : Below w.heap.size w (w.alloc (.cells #[.string a0_0, .bool a0_1, .int .i64 a0_2, .slice A0_3 l0_3.length c0_3, .slice A0_4 l0_4.length c0_4, .slice A0_5 l0_5.length c0_5] 26)) := (Below.refl _ w).alloc (Nat.le_refl _) _
    have hs := hasG_any A0_3 c0_3 l0_3 _ (Kd.C_below hr0_3 hb0) hl (fun x => x.f1 != a0_2) 108 #[.pointer (some ⟨w.heap.size, 0, none⟩)] (enters_ Tryz.func108 (by kernel_rfl) rfl) (monoNm_any w.heap.size a0_0 a0_1 a0_2 _ _ _ _ (blk_new w _))
    unfold monoV
    generalize (l0_3.any fun x => x.f1 != a0_2) = R at hs ⊢
    clear hr0_3 hl h
    go_enter Tryz.func64, Tryz.ntmps64
    go_wp2_with fail
    refine hs.mono ?_; rintro e w2 ⟨rfl, hb2⟩
    go_wp2
    go_ret
    exact ⟨rfl, hb0.trans (hb2.mono hb0.size)⟩
  · cases h
end Go.Proofs.YtaifemkokfoadaaGreatDoor

namespace Go.Proofs.YtaifemkokfoadaaGreatDoor
open Go.RowKit Go.Proofs.YtaifemkokfoadaaGreatDoorW.PrintWords Go.Proofs.YtaifemkokfoadaaGreatDoorW.PrintMore Go.Proofs.YtaifemkokfoadaaGreatDoor.PX
set_option linter.unusedSimpArgs false
set_option linter.unusedVariables false
theorem rdMG (l : List S31) (i : Nat) (h : i < l.length) : rd_T81 (l.map cpaG) (i : Int) = cpaG l[i] := by simp [rd_T81, List.getD_eq_getElem?_getD, h]
theorem rdML (l : List S86) (i : Nat) (h : i < l.length) : rd_T83 (l.map cpaL) (i : Int) = cpaL l[i] := by simp [rd_T83, List.getD_eq_getElem?_getD, h]
theorem rdMK (l : List S76) (i : Nat) (h : i < l.length) : rd_T84 (l.map cpaK) (i : Int) = cpaK l[i] := by simp [rd_T84, List.getD_eq_getElem?_getD, h]
theorem rdL0 (l : List S86) (i : Nat) (h : i < l.length) : rd_T86 l (i : Int) = l[i] := by simp [rd_T86, List.getD_eq_getElem?_getD, h]
theorem rdK0 (l : List S76) (i : Nat) (h : i < l.length) : rd_T76 l (i : Int) = l[i] := by simp [rd_T76, List.getD_eq_getElem?_getD, h]
theorem has_map (l : List S31) (n : ByteArray) : rhasV (l.map cpaG) n = hasV l n := by
  unfold rhasV hasV
  rw [List.any_map]; rfl
theorem has_find (l : List S31) (ha : Asc l) (n : ByteArray) : hasV l n = (findV l n).2 := by
  rw [find_has l ha n]
  unfold hasV
  refine List.any_congr rfl (fun x => ?_)
  by_cases h : x.f0 = n
  · rw [h]; simp
  · rw [decide_eq_false h]
    exact beq_eq_false_iff_ne.2 (fun e => h (toList_inj'.1 e))
theorem ahead_iff (a b c d : ByteArray) : aheadV a b c d = true ↔ orV (cmpB a c) (cmpB b d) < 0 := by
  unfold aheadV orV
  by_cases h0 : a = c
  · subst h0
    have h1 : ¬ Op.bytesLess a.toList a.toList = true := by rw [bsLess]; exact List.lt_irrefl _
    have h2 : Op.bytesLess a.toList a.toList = false := by simpa using h1
    rw [cmpB_self, if_pos rfl, h2, Bool.false_or, beq_self_eq_true, Bool.true_and, cmpB_neg, bsLess]
  · rw [if_neg (fun e => h0 (cmpB_zero.1 e)), cmpB_neg, ← bsLess]
    have h1 : (a.toList == c.toList) = false := beq_eq_false_iff_ne.2 (fun e => h0 (toList_inj'.1 e))
    rw [h1, Bool.false_and, Bool.or_false]
theorem all_index {α : Type} (l : List α) (P : α → Prop) : (∀ x ∈ l, P x) ↔ ∀ (i : Nat) (h : i < l.length), P l[i] := by
  constructor
  · intro h i hi; exact h _ (List.getElem_mem hi)
  · intro h x hx
    obtain ⟨i, hi, rfl⟩ := List.getElem_of_mem hx
    exact h i hi
theorem rangeAll_iff {f : Nat → Bool} {n : Nat} : (List.range n).all f = true ↔ ∀ i, i < n → f i = true := by
  rw [List.all_eq_true]
  exact ⟨fun h i hi => h i (List.mem_range.2 hi), fun h i hi => h i (List.mem_range.1 hi)⟩
theorem asc_iff {c : Nat → Nat → Int} {n : Nat} : ascV c n = true ↔ ∀ i, i + 1 < n → c i (i + 1) < 0 := by
  unfold ascV
  rw [rangeAll_iff]
  exact ⟨fun h i hi => of_decide_eq_true (h i (by omega)), fun h i hi => decide_eq_true (h i (by omega))⟩
theorem okG_iff (l : List S31) : (List.range l.length).all (rokG (l.map cpaG)) = true ↔ l.any badG = false ∧ ascV (fun i j => cmpG (rd_T31 l (i : Int)) (rd_T31 l (j : Int))) l.length = true := by
  rw [rangeAll_iff, asc_iff, List.any_eq_false, all_index]
  constructor
  · intro h
    refine ⟨fun i hi => ?_, fun i hi => ?_⟩
    · have h1 := h i hi
      unfold rokG at h1
      rw [rdMG l i hi] at h1
      simp only [Bool.and_eq_true, Bool.not_eq_true'] at h1
      unfold badG
      have e : wideB l[i].f1 = wideR (cpaG l[i]).f1 := rfl
      rw [e, h1.2.1, Bool.or_false]
      have e2 : nameB l[i].f0.data.toList = true := h1.1
      rw [e2]; simp
    · have h1 := h (i + 1) hi
      unfold rokG at h1
      rw [rdMG l (i + 1) hi, show (((i + 1 : Nat) : Int) - 1) = (i : Int) by omega, rdMG l i (by omega), decide_eq_false (by omega : ¬ i + 1 = 0), Bool.false_or] at h1
      simp only [Bool.and_eq_true] at h1
      show cmpB _ _ < 0
      rw [rdG0 l i (by omega), rdG0 l (i + 1) hi, cmpB_neg, ← bsLess]
      exact h1.2.2
  · rintro ⟨h1, h2⟩ i hi
    unfold rokG
    have h3 := h1 i hi
    unfold badG at h3
    simp only [Bool.or_eq_true, not_or, Bool.not_eq_true, Bool.not_eq_false'] at h3
    rw [rdMG l i hi]
    have e2 : nameB (cpaG l[i]).f0.data.toList = true := h3.1
    have e3 : wideR (cpaG l[i]).f1 = false := h3.2
    rw [e2, e3, Bool.true_and, Bool.not_false, Bool.true_and]
    cases i with
    | zero => rfl
    | succ m =>
      have h4 : cmpB _ _ < 0 := h2 m hi
      rw [rdG0 l m (by omega), rdG0 l (m + 1) hi, cmpB_neg, ← bsLess] at h4
      rw [decide_eq_false (by omega : ¬ m + 1 = 0), Bool.false_or, show (((m + 1 : Nat) : Int) - 1) = (m : Int) by omega, rdMG l m (by omega)]
      exact h4
theorem okL_iff (l3 : List S31) (ha : Asc l3) (l : List S86) : (List.range l.length).all (rokL (l3.map cpaG) (l.map cpaL)) = true ↔ l.any (badL l3) = false ∧ ascV (fun i j => cmpL (rd_T86 l (i : Int)) (rd_T86 l (j : Int))) l.length = true := by
  have hb : ∀ x : S86, badL l3 x = false ↔ hasV l3 x.f0 = true ∧ hasV l3 x.f1 = true ∧ hasV l3 x.f2 = true := by
    intro x
    unfold badL allV
    rw [has_find l3 ha, has_find l3 ha, has_find l3 ha]
    simp
  rw [rangeAll_iff, asc_iff, List.any_eq_false, all_index]
  constructor
  · intro h
    refine ⟨fun i hi => ?_, fun i hi => ?_⟩
    · have h1 := h i hi
      unfold rokL at h1
      rw [rdML l i hi] at h1
      simp only [Bool.and_eq_true, has_map] at h1
      rw [Bool.not_eq_true]
      exact (hb l[i]).2 ⟨h1.1, h1.2.1, h1.2.2.1⟩
    · have h1 := h (i + 1) hi
      unfold rokL at h1
      rw [rdML l (i + 1) hi, show (((i + 1 : Nat) : Int) - 1) = (i : Int) by omega, rdML l i (by omega), decide_eq_false (by omega : ¬ i + 1 = 0), Bool.false_or] at h1
      simp only [Bool.and_eq_true] at h1
      have h2 := (ahead_iff _ _ _ _).1 h1.2.2.2
      rw [rdL0 l i (by omega), rdL0 l (i + 1) hi]
      exact h2
  · rintro ⟨h1, h2⟩ i hi
    unfold rokL
    have h3 := (hb l[i]).1 (by simpa using h1 i hi)
    rw [rdML l i hi, has_map, has_map, has_map]
    have e0 : hasV l3 (cpaL l[i]).f0 = true := h3.1
    have e1 : hasV l3 (cpaL l[i]).f1 = true := h3.2.1
    have e2 : hasV l3 (cpaL l[i]).f2 = true := h3.2.2
    rw [e0, e1, e2, Bool.true_and, Bool.true_and, Bool.true_and]
    cases i with
    | zero => rfl
    | succ m =>
      have h4 := h2 m hi
      rw [rdL0 l m (by omega), rdL0 l (m + 1) hi] at h4
      rw [decide_eq_false (by omega : ¬ m + 1 = 0), Bool.false_or, show (((m + 1 : Nat) : Int) - 1) = (m : Int) by omega, rdML l m (by omega)]
      exact (ahead_iff _ _ _ _).2 h4
theorem okK_iff (l3 : List S31) (ha : Asc l3) (l : List S76) : (List.range l.length).all (rokK (l3.map cpaG) (l.map cpaK)) = true ↔ l.any (badK l3) = false ∧ ascV (fun i j => cmpK (rd_T76 l (i : Int)) (rd_T76 l (j : Int))) l.length = true := by
  have hb : ∀ x : S76, badK l3 x = false ↔ hasV l3 x.f0 = true ∧ hasV l3 x.f1 = true ∧ ¬ x.f2 = 0 ∧ ¬ x.f2 < -500 ∧ ¬ 500 < x.f2 := by
    intro x
    unfold badK allV
    rw [has_find l3 ha, has_find l3 ha]
    simp only [Bool.or_eq_false_iff, decide_eq_false_iff_not, Bool.not_eq_false', List.all_cons, List.all_nil, Bool.and_true, Bool.and_eq_true]
    constructor
    · rintro ⟨p1, p2, p3, p4, p5⟩; exact ⟨p4, p5, p1, p2, p3⟩
    · rintro ⟨p4, p5, p1, p2, p3⟩; exact ⟨p1, p2, p3, p4, p5⟩
  rw [rangeAll_iff, asc_iff, List.any_eq_false, all_index]
  constructor
  · intro h
    refine ⟨fun i hi => ?_, fun i hi => ?_⟩
    · have h1 := h i hi
      unfold rokK at h1
      rw [rdMK l i hi] at h1
      simp only [Bool.and_eq_true, has_map, Bool.not_eq_true', decide_eq_false_iff_not] at h1
      rw [Bool.not_eq_true]
      exact (hb l[i]).2 ⟨h1.1, h1.2.1, h1.2.2.1, h1.2.2.2.1, h1.2.2.2.2.1⟩
    · have h1 := h (i + 1) hi
      unfold rokK at h1
      rw [rdMK l (i + 1) hi, show (((i + 1 : Nat) : Int) - 1) = (i : Int) by omega, rdMK l i (by omega), decide_eq_false (by omega : ¬ i + 1 = 0), Bool.false_or] at h1
      simp only [Bool.and_eq_true] at h1
      have h2 := (ahead_iff _ _ _ _).1 h1.2.2.2.2.2
      rw [rdK0 l i (by omega), rdK0 l (i + 1) hi]
      exact h2
  · rintro ⟨h1, h2⟩ i hi
    unfold rokK
    have h3 := (hb l[i]).1 (by simpa using h1 i hi)
    rw [rdMK l i hi, has_map, has_map]
    have e0 : hasV l3 (cpaK l[i]).f0 = true := h3.1
    have e1 : hasV l3 (cpaK l[i]).f1 = true := h3.2.1
    have e2 : decide ((cpaK l[i]).f2 = 0) = false := decide_eq_false h3.2.2.1
    have e3 : decide ((cpaK l[i]).f2 < -500) = false := decide_eq_false h3.2.2.2.1
    have e4 : decide (500 < (cpaK l[i]).f2) = false := decide_eq_false h3.2.2.2.2
    rw [e0, e1, e2, e3, e4, Bool.true_and, Bool.true_and, Bool.not_false, Bool.true_and, Bool.true_and, Bool.true_and]
    cases i with
    | zero => rfl
    | succ m =>
      have h4 := h2 m hi
      rw [rdK0 l m (by omega), rdK0 l (m + 1) hi] at h4
      rw [decide_eq_false (by omega : ¬ m + 1 = 0), Bool.false_or, show (((m + 1 : Nat) : Int) - 1) = (m : Int) by omega, rdMK l m (by omega)]
      exact (ahead_iff _ _ _ _).2 h4
theorem valid_same (a : ByteArray) (c : Int) (l3 : List S31) (l4 : List S86) (l5 : List S76) : rvalidV a c (l3.map cpaG) (l4.map cpaL) (l5.map cpaK) = validV a c l3 l4 l5 := by
  unfold rvalidV validV
  rw [List.length_map, List.length_map, List.length_map]
  have e0 : wideR c = wideB c := rfl
  by_cases h0 : (!fnameB a.data.toList || (wideB c || (decide (400 < l3.length) || (decide (50 < l4.length) || decide (500 < l5.length))))) = true
  · rw [if_pos h0, e0]
    simp only [Bool.or_eq_true, Bool.not_eq_true', decide_eq_true_eq] at h0
    rcases h0 with h | h | h | h | h
    · rw [h]; rfl
    · rw [h]; simp
    · simp [show ¬ l3.length ≤ 400 by omega]
    · simp [show ¬ l4.length ≤ 50 by omega]
    · simp [show ¬ l5.length ≤ 500 by omega]
  · rw [if_neg h0, e0]
    simp only [Bool.or_eq_true, Bool.not_eq_true', decide_eq_true_eq, not_or, Bool.not_eq_false, Bool.not_eq_true] at h0
    rw [h0.1, h0.2.1, decide_eq_true (by omega : l3.length ≤ 400), decide_eq_true (by omega : l4.length ≤ 50), decide_eq_true (by omega : l5.length ≤ 500), Bool.not_false, Bool.true_and, Bool.true_and, Bool.true_and, Bool.true_and, Bool.true_and]
    by_cases h1 : (l3.any badG || !ascV (fun i j => cmpG (rd_T31 l3 (i : Int)) (rd_T31 l3 (j : Int))) l3.length) = true
    · rw [if_pos h1]
      have : ¬ (List.range l3.length).all (rokG (l3.map cpaG)) = true := by
        rw [okG_iff]
        rintro ⟨p, q⟩
        rw [p, q] at h1; cases h1
      rw [Bool.not_eq_true] at this
      rw [this, Bool.false_and]
    · rw [if_neg h1]
      simp only [Bool.or_eq_true, Bool.not_eq_true', not_or, Bool.not_eq_true, Bool.not_eq_false] at h1
      rw [(okG_iff l3).2 h1, Bool.true_and]
      have ha := asc_of h1.2
      by_cases h2 : (l4.any (badL l3) || !ascV (fun i j => cmpL (rd_T86 l4 (i : Int)) (rd_T86 l4 (j : Int))) l4.length) = true
      · rw [if_pos h2]
        have : ¬ (List.range l4.length).all (rokL (l3.map cpaG) (l4.map cpaL)) = true := by
          rw [okL_iff l3 ha]
          rintro ⟨p, q⟩
          rw [p, q] at h2; cases h2
        rw [Bool.not_eq_true] at this
        rw [this, Bool.false_and]
      · rw [if_neg h2]
        simp only [Bool.or_eq_true, Bool.not_eq_true', not_or, Bool.not_eq_true, Bool.not_eq_false] at h2
        rw [(okL_iff l3 ha l4).2 h2, Bool.true_and, Bool.eq_iff_iff, okK_iff l3 ha l5, Bool.and_eq_true, Bool.not_eq_true']
end Go.Proofs.YtaifemkokfoadaaGreatDoor

namespace Go.Proofs.YtaifemkokfoadaaGreatDoor.PX
open Go.RowKit Go.Proofs.YtaifemkokfoadaaGreatDoorW.PrintWords Go.Proofs.YtaifemkokfoadaaGreatDoorW.PrintLast Go.Proofs.YtaifemkokfoadaaGreatDoorW.PrintMore
attribute [local go_sem] max2_int min2_int max_two min_two max_three min_three max_four min_four   -- for this text's walks alone
set_option linter.unusedVariables false
set_option linter.unusedSimpArgs false
end Go.Proofs.YtaifemkokfoadaaGreatDoor.PX

namespace Go.Proofs.YtaifemkokfoadaaGreatDoor.PX
open Go.RowKit Go.Proofs.YtaifemkokfoadaaGreatDoorW.PrintWords Go.Proofs.YtaifemkokfoadaaGreatDoorW.PrintLast Go.Proofs.YtaifemkokfoadaaGreatDoorW.PrintMore
attribute [local go_sem] max2_int min2_int max_two min_two max_three min_three max_four min_four   -- for this text's walks alone
set_option linter.unusedVariables false
set_option linter.unusedSimpArgs false
end Go.Proofs.YtaifemkokfoadaaGreatDoor.PX

namespace Go.Proofs.YtaifemkokfoadaaGreatDoor.PX
open Go.RowKit Go.Proofs.YtaifemkokfoadaaGreatDoorW.PrintWords Go.Proofs.YtaifemkokfoadaaGreatDoorW.PrintLast Go.Proofs.YtaifemkokfoadaaGreatDoorW.PrintMore
attribute [local go_sem] max2_int min2_int max_two min_two max_three min_three max_four min_four   -- for this text's walks alone
set_option linter.unusedVariables false
set_option linter.unusedSimpArgs false
end Go.Proofs.YtaifemkokfoadaaGreatDoor.PX

namespace Go.Proofs.YtaifemkokfoadaaGreatDoor.PX
open Go.RowKit Go.Proofs.YtaifemkokfoadaaGreatDoorW.PrintWords Go.Proofs.YtaifemkokfoadaaGreatDoorW.PrintLast Go.Proofs.YtaifemkokfoadaaGreatDoorW.PrintMore
attribute [local go_sem] max2_int min2_int max_two min_two max_three min_three max_four min_four   -- for this text's walks alone
set_option linter.unusedVariables false
set_option linter.unusedSimpArgs false
end Go.Proofs.YtaifemkokfoadaaGreatDoor.PX

namespace Go.Proofs.YtaifemkokfoadaaGreatDoor.PX
open Go.RowKit Go.Proofs.YtaifemkokfoadaaGreatDoorW.PrintWords Go.Proofs.YtaifemkokfoadaaGreatDoorW.PrintLast Go.Proofs.YtaifemkokfoadaaGreatDoorW.PrintMore
attribute [local go_sem] max2_int min2_int max_two min_two max_three min_three max_four min_four   -- for this text's walks alone
set_option linter.unusedVariables false
set_option linter.unusedSimpArgs false
namespace SQ
end SQ
open SQ
end Go.Proofs.YtaifemkokfoadaaGreatDoor.PX

namespace Go.Proofs.YtaifemkokfoadaaGreatDoor
open Go.RowKit Go.Proofs.YtaifemkokfoadaaGreatDoorW.PrintWords Go.Proofs.YtaifemkokfoadaaGreatDoorW.PrintLast Go.Proofs.YtaifemkokfoadaaGreatDoorW.PrintMore Go.Proofs.YtaifemkokfoadaaGreatDoor.PX
set_option linter.unusedSimpArgs false
set_option linter.unusedVariables false
theorem cpb.tab5 : rtab .any (opsOf Tryz.f19 5) = ((true, [([], []), ([0], [0]), ([], []), ([2], [2]), ([], []), ([3, 4], [3, 4]), ([5], [5]), ([6], [6]), ([], []), ([8], [8]), ([], []), ([9, 10], [9, 10]), ([11], [11]), ([12], [12]), ([7, 13], [7, 13]), ([14], [14]), ([1, 15], [1, 15]), ([0, 1, 2, 3, 4, 5, 6, 7, 8, 9, 10, 11, 12, 13, 14, 15, 16], []), ([17, 16, 16, 0, 1, 2, 3, 4, 5, 6, 7, 8, 9, 10, 11, 12, 13, 14, 15, 16], [16, 17])])) := by kernel_rfl
theorem cpb.bits5 : waitsOk ((true, [([], []), ([0], [0]), ([], []), ([2], [2]), ([], []), ([3, 4], [3, 4]), ([5], [5]), ([6], [6]), ([], []), ([8], [8]), ([], []), ([9, 10], [9, 10]), ([11], [11]), ([12], [12]), ([7, 13], [7, 13]), ([14], [14]), ([1, 15], [1, 15]), ([0, 1, 2, 3, 4, 5, 6, 7, 8, 9, 10, 11, 12, 13, 14, 15, 16], []), ([17, 16, 16, 0, 1, 2, 3, 4, 5, 6, 7, 8, 9, 10, 11, 12, 13, 14, 15, 16], [16, 17])]) : Bool × List (List Nat × List Nat)).2 [0, 1, 0, 4, 0, 28, 60, 124, 0, 256, 0, 1792, 3840, 7936, 16380, 32764, 65535, 131071, 262143] = true := by kernel_rfl
theorem cpb.tab9 : rtab .any (opsOf Tryz.f19 9) = ((true, [([], []), ([0], [0]), ([], []), ([2], [2]), ([], []), ([3, 4], [3, 4]), ([5], [5]), ([6], [6]), ([], []), ([8], [8]), ([], []), ([9, 10], [9, 10]), ([11], [11]), ([12], [12]), ([], []), ([14], [14]), ([], []), ([15, 16], [15, 16]), ([17], [17]), ([18], [18]), ([7, 13, 19], [7, 13, 19]), ([20], [20]), ([1, 21], [1, 21]), ([0, 1, 2, 3, 4, 5, 6, 7, 8, 9, 10, 11, 12, 13, 14, 15, 16, 17, 18, 19, 20, 21, 22], []), ([23, 22, 22, 0, 1, 2, 3, 4, 5, 6, 7, 8, 9, 10, 11, 12, 13, 14, 15, 16, 17, 18, 19, 20, 21, 22], [22, 23])])) := by kernel_rfl
theorem cpb.bits9 : waitsOk ((true, [([], []), ([0], [0]), ([], []), ([2], [2]), ([], []), ([3, 4], [3, 4]), ([5], [5]), ([6], [6]), ([], []), ([8], [8]), ([], []), ([9, 10], [9, 10]), ([11], [11]), ([12], [12]), ([], []), ([14], [14]), ([], []), ([15, 16], [15, 16]), ([17], [17]), ([18], [18]), ([7, 13, 19], [7, 13, 19]), ([20], [20]), ([1, 21], [1, 21]), ([0, 1, 2, 3, 4, 5, 6, 7, 8, 9, 10, 11, 12, 13, 14, 15, 16, 17, 18, 19, 20, 21, 22], []), ([23, 22, 22, 0, 1, 2, 3, 4, 5, 6, 7, 8, 9, 10, 11, 12, 13, 14, 15, 16, 17, 18, 19, 20, 21, 22], [22, 23])]) : Bool × List (List Nat × List Nat)).2 [0, 1, 0, 4, 0, 28, 60, 124, 0, 256, 0, 1792, 3840, 7936, 0, 16384, 0, 114688, 245760, 507904, 1048572, 2097148, 4194303, 8388607, 16777215] = true := by kernel_rfl
theorem cpb.tab13 : rtab .any (opsOf Tryz.f19 13) = ((true, [([], []), ([0], [0]), ([], []), ([2], [2]), ([], []), ([3, 4], [3, 4]), ([5], [5]), ([6], [6]), ([], []), ([8], [8]), ([], []), ([9, 10], [9, 10]), ([11], [11]), ([12], [12]), ([], []), ([14], [14]), ([], []), ([15, 16], [15, 16]), ([17], [17]), ([18], [18]), ([7, 13, 19], [7, 13, 19]), ([20], [20]), ([1, 21], [1, 21]), ([0, 1, 2, 3, 4, 5, 6, 7, 8, 9, 10, 11, 12, 13, 14, 15, 16, 17, 18, 19, 20, 21, 22], []), ([23, 22, 22, 0, 1, 2, 3, 4, 5, 6, 7, 8, 9, 10, 11, 12, 13, 14, 15, 16, 17, 18, 19, 20, 21, 22], [22, 23])])) := by kernel_rfl
theorem cpb.bits13 : waitsOk ((true, [([], []), ([0], [0]), ([], []), ([2], [2]), ([], []), ([3, 4], [3, 4]), ([5], [5]), ([6], [6]), ([], []), ([8], [8]), ([], []), ([9, 10], [9, 10]), ([11], [11]), ([12], [12]), ([], []), ([14], [14]), ([], []), ([15, 16], [15, 16]), ([17], [17]), ([18], [18]), ([7, 13, 19], [7, 13, 19]), ([20], [20]), ([1, 21], [1, 21]), ([0, 1, 2, 3, 4, 5, 6, 7, 8, 9, 10, 11, 12, 13, 14, 15, 16, 17, 18, 19, 20, 21, 22], []), ([23, 22, 22, 0, 1, 2, 3, 4, 5, 6, 7, 8, 9, 10, 11, 12, 13, 14, 15, 16, 17, 18, 19, 20, 21, 22], [22, 23])]) : Bool × List (List Nat × List Nat)).2 [0, 1, 0, 4, 0, 28, 60, 124, 0, 256, 0, 1792, 3840, 7936, 0, 16384, 0, 114688, 245760, 507904, 1048572, 2097148, 4194303, 8388607, 16777215] = true := by kernel_rfl
end Go.Proofs.YtaifemkokfoadaaGreatDoor

namespace Go.Proofs.YtaifemkokfoadaaGreatDoor.PX
open Go.RowKit Go.Proofs.YtaifemkokfoadaaGreatDoorW.PrintWords Go.Proofs.YtaifemkokfoadaaGreatDoorW.PrintLast Go.Proofs.YtaifemkokfoadaaGreatDoorW.PrintMore
set_option linter.unusedVariables false
end Go.Proofs.YtaifemkokfoadaaGreatDoor.PX

namespace Go.Proofs.YtaifemkokfoadaaGreatDoor.PX
open Go.RowKit Go.Proofs.YtaifemkokfoadaaGreatDoorW.PrintWords Go.Proofs.YtaifemkokfoadaaGreatDoorW.PrintLast Go.Proofs.YtaifemkokfoadaaGreatDoorW.PrintMore
attribute [local go_sem] max2_int min2_int max_two min_two max_three min_three max_four min_four   -- for this text's walks alone
set_option linter.unusedVariables false
set_option linter.unusedSimpArgs false
end Go.Proofs.YtaifemkokfoadaaGreatDoor.PX

namespace Go.Proofs
def Tryz.sortG_ren : Go.Shelf.Ren := ⟨fun | 6 => 89 | 15 => 121 | 14 => 120 | 28 => 149 | 29 => 150 | 20 => 141 | 21 => 142 | 22 => 143 | 23 => 144 | 24 => 145 | 25 => 146 | 26 => 147 | 27 => 148 | 46 => 168 | 47 => 169 | 48 => 170 | 49 => 171 | 50 => 172 | 57 => 186 | n => n, fun | 22 => 22 | 24 => 31 | 25 => 92 | 3 => 3 | 39 => 29 | 0 => 0 | 53 => 161 | 55 => 186 | 4 => 4 | 46 => 179 | 45 => 178 | 50 => 69 | 5 => 5 | 9 => 9 | 66 => 211 | 70 => 215 | 76 => 231 | 77 => 232 | n => n, fun n => n⟩
theorem Tryz.sortG : Go.Proofs.SlLaysF0.n6 Tryz.prog Tryz.sortG_ren := {
  mixed := by kernel_rfl
  f6 := ⟨Tryz.f89.name, by decide, Tryz.func89.trans (congrArg some (by kernel_rfl))⟩
  f14 := ⟨Tryz.f120.name, by decide, Tryz.func120.trans (congrArg some (by kernel_rfl))⟩
  f15 := Tryz.func121.trans (congrArg some (by kernel_rfl))
  f20 := ⟨Tryz.f141.name, by decide, Tryz.func141.trans (congrArg some (by kernel_rfl))⟩
  f21 := ⟨Tryz.f142.name, by decide, Tryz.func142.trans (congrArg some (by kernel_rfl))⟩
  f22 := ⟨Tryz.f143.name, by decide, Tryz.func143.trans (congrArg some (by kernel_rfl))⟩
  f23 := ⟨Tryz.f144.name, by decide, Tryz.func144.trans (congrArg some (by kernel_rfl))⟩
  f24 := ⟨Tryz.f145.name, by decide, Tryz.func145.trans (congrArg some (by kernel_rfl))⟩
  f25 := ⟨Tryz.f146.name, by decide, Tryz.func146.trans (congrArg some (by kernel_rfl))⟩
  f26 := ⟨Tryz.f147.name, by decide, Tryz.func147.trans (congrArg some (by kernel_rfl))⟩
  f27 := ⟨Tryz.f148.name, by decide, Tryz.func148.trans (congrArg some (by kernel_rfl))⟩
  f28 := Tryz.func149.trans (congrArg some (by kernel_rfl))
  f29 := Tryz.func150.trans (congrArg some (by kernel_rfl))
  f46 := ⟨Tryz.f168.name, by decide, Tryz.func168.trans (congrArg some (by kernel_rfl))⟩
  f47 := Tryz.func169.trans (congrArg some (by kernel_rfl))
  f48 := Tryz.func170.trans (congrArg some (by kernel_rfl))
  f49 := ⟨Tryz.f171.name, by decide, Tryz.func171.trans (congrArg some (by kernel_rfl))⟩
  f50 := ⟨Tryz.f172.name, by decide, Tryz.func172.trans (congrArg some (by kernel_rfl))⟩
  f57 := ⟨Tryz.f186.name, by decide, Tryz.func186.trans (congrArg some (by kernel_rfl))⟩
  t0 := Tryz.underlying0
  a0 := Tryz.isAgg0
  z0 := Tryz.sizeOf0
  v0 := Tryz.zeroValue0
  t3 := Tryz.underlying3
  a3 := Tryz.isAgg3
  z3 := Tryz.sizeOf3
  v3 := Tryz.zeroValue3
  t4 := Tryz.underlying4
  a4 := Tryz.isAgg4
  z4 := Tryz.sizeOf4
  v4 := Tryz.zeroValue4
  t5 := Tryz.underlying5
  a5 := Tryz.isAgg5
  z5 := Tryz.sizeOf5
  v5 := Tryz.zeroValue5
  t9 := Tryz.underlying9
  a9 := Tryz.isAgg9
  z9 := Tryz.sizeOf9
  v9 := Tryz.zeroValue9
  t22 := Tryz.underlying22
  a22 := Tryz.isAgg22
  z22 := Tryz.sizeOf22
  v22 := Tryz.zeroValue22
  t25 := Tryz.underlying92
  a25 := Tryz.isAgg92
  z25 := Tryz.sizeOf92
  v25 := Tryz.zeroValue92
  t39 := Tryz.underlying29
  a39 := Tryz.isAgg29
  z39 := Tryz.sizeOf29
  v39 := Tryz.zeroValue29
  t45 := Tryz.underlying178
  a45 := Tryz.isAgg178
  z45 := Tryz.sizeOf178
  v45 := Tryz.zeroValue178
  t46 := Tryz.underlying179
  a46 := Tryz.isAgg179
  z46 := Tryz.sizeOf179
  v46 := Tryz.zeroValue179
  t50 := Tryz.underlying69
  a50 := Tryz.isAgg69
  z50 := Tryz.sizeOf69
  v50 := Tryz.zeroValue69
  t53 := Tryz.underlying161
  a53 := Tryz.isAgg161
  z53 := Tryz.sizeOf161
  v53 := Tryz.zeroValue161
  t55 := Tryz.underlying186
  a55 := Tryz.isAgg186
  z55 := Tryz.sizeOf186
  v55 := Tryz.zeroValue186
  t66 := Tryz.underlying211
  a66 := Tryz.isAgg211
  z66 := Tryz.sizeOf211
  v66 := Tryz.zeroValue211
  t70 := Tryz.underlying215
  a70 := Tryz.isAgg215
  z70 := Tryz.sizeOf215
  v70 := Tryz.zeroValue215
  t76 := Tryz.underlying231
  a76 := Tryz.isAgg231
  z76 := Tryz.sizeOf231
  v76 := Tryz.zeroValue231
  t77 := Tryz.underlying232
  a77 := Tryz.isAgg232
  z77 := Tryz.sizeOf232
  v77 := Tryz.zeroValue232 }
end Go.Proofs
namespace Go.Proofs.YtaifemkokfoadaaGreatDoor
open Go.RowKit Go.Shelf Go.Sort Go.Proofs.YtaifemkokfoadaaGreatDoorW.PrintWords Go.Proofs.YtaifemkokfoadaaGreatDoorW.PrintMore Go.Proofs.YtaifemkokfoadaaGreatDoor.PX
theorem encG_len (x : S31) : (encG x).length = 2 := rfl
theorem encG_one (x : S31) : ∀ v ∈ encG x, v.oneCell' = true := by
  intro v hv
  simp only [encG, List.mem_cons, List.mem_nil_iff, or_false] at hv
  rcases hv with rfl | rfl <;> rfl
theorem holdsF {w : World} {g : Nat} {cur : Array Value} {e : TypeId} {F : Array Value} (hb : w.heap[g]? = some (.cells cur e (0, 0))) (ht : cur.toList.take F.size = F.toList) : Holds id w g 0 F := by
  intro j hj
  refine ⟨?_, by simp [World.frozen?, hb]⟩
  have h1 : (cur.toList.take F.size)[j]? = F.toList[j]? := by rw [ht]
  rw [List.getElem?_take_of_lt hj] at h1
  simp only [World.cell?, hb, Nat.zero_add]
  simp only [Option.isSome_none, Bool.false_eq_true, if_false]
  rw [← Array.getElem?_toList, h1]
  simp [hj]
theorem heapF {w : World} {g n : Nat} {os : Array Obj} {cur : Array Value} {e : TypeId} {fr : Nat × Nat} (d : Array Value) (hb : w.heap[g]? = some (.cells cur e fr)) :
    (Sort.grow (Sort.putRow id (Sort.ahead w n) g 0 d) os).heap[g]? = some (.cells (Sort.putCells id 0 d cur) e fr) := by
  have hg : g < w.heap.size := (Array.getElem?_eq_some_iff.1 hb).1
  rw [heap_grow_old _ _ (by simpa using hg)]
  simp [Sort.putRow, Sort.mapBlock, Sort.ahead, Array.getElem?_modify, hb, Sort.onCells]
theorem grownF {w : World} {g n : Nat} {os : Array Obj} (d : Array Value) : w.grownBy (Sort.grow (Sort.putRow id (Sort.ahead w n) g 0 d) os) (some g) := by
  refine ⟨rfl, rfl, rfl, by simp, fun k hk hne => ?_⟩
  rw [heap_grow_old _ _ (by simpa using hk)]
  have : g ≠ k := fun e => hne (by rw [e])
  simp [Sort.putRow, Sort.mapBlock, Sort.ahead, Array.getElem?_modify, this]
theorem takeF (cur : Array Value) (F : Array Value) (h : F.size ≤ cur.size) : (Sort.putCells id 0 F cur).toList.take F.size = F.toList := by
  apply List.ext_getElem?
  intro j
  by_cases hj : j < F.size
  · rw [List.getElem?_take_of_lt hj, Array.getElem?_toList]
    simp [Sort.putCells, hj, show j < cur.size by omega]
  · rw [List.getElem?_take_eq_none (by omega), List.getElem?_eq_none (by simp; omega)]
theorem flat_get (xs : List S31) (j : Nat) (hj : j < xs.length) : ((flatK encG 2 xs.toArray).toList.drop (j * 2)).take 2 = encG xs[j] := by
  have hsz : (flatK encG 2 xs.toArray).toList.length = xs.length * 2 := by simp
  have key : ∀ t, t < xs.length * 2 → (flatK encG 2 xs.toArray).toList[t]? = some ((encG xs.toArray[t / 2]!)[t % 2]!) := by
    intro t ht
    have h := get_flatK encG 2 xs.toArray t (by simpa using ht)
    rw [Array.getElem?_toList]
    rw [← h]
    simp [show t < xs.length * 2 by omega]
  apply List.ext_getElem?
  intro i
  rcases Nat.lt_or_ge i 2 with hi | hi
  · rw [List.getElem?_take_of_lt hi, List.getElem?_drop, key _ (by omega)]
    have e1 : (j * 2 + i) / 2 = j := by omega
    have e2 : (j * 2 + i) % 2 = i := by omega
    rw [e1, e2]
    have e3 : xs.toArray[j]! = xs[j] := by simp [hj]
    rw [e3]
    rcases i with _ | _ | i
    · rfl
    · rfl
    · omega
  · rw [List.getElem?_take_eq_none hi, List.getElem?_eq_none (by simp [encG]; omega)]
/-- A row's cells are the flat ones. -/
theorem inner_flat {w : World} {b : Nat} {ok : Nat → Prop} {xs : List S31} {inner : List Value} (h : Reps (k31.M w b ok) 2 xs inner) : inner = (flatK encG 2 xs.toArray).toList := by
  have hsz : (flatK encG 2 xs.toArray).toList.length = xs.length * 2 := by simp
  apply List.ext_getElem?
  intro t
  rcases Nat.lt_or_ge t (xs.length * 2) with ht | ht
  · have hj : t / 2 < xs.length := by omega
    have h1 := h.2 (t / 2) _ (List.getElem?_eq_getElem hj)
    have h2 : (inner.drop (t / 2 * 2)).take 2 = encG xs[t / 2] := k31_openM h1
    have h3 := flat_get xs (t / 2) hj
    have h4 := h2.trans h3.symm
    have h5 := congrArg (fun l : List Value => l[t % 2]?) h4
    simp only [List.getElem?_take_of_lt (show t % 2 < 2 by omega), List.getElem?_drop] at h5
    rw [show t / 2 * 2 + t % 2 = t by omega] at h5
    exact h5
  · rw [List.getElem?_eq_none (by have := h.1; omega), List.getElem?_eq_none (by omega)]
theorem reps_flat (w : World) (b : Nat) (ok : Nat → Prop) (xs : List S31) : Reps (k31.M w b ok) 2 xs (flatK encG 2 xs.toArray).toList := by
  refine ⟨by simp, fun j p hj => ?_⟩
  obtain ⟨hl, rfl⟩ := List.getElem?_eq_some_iff.1 hj
  rw [flat_get xs j hl]
  exact k31_mkM _ _ _ _
set_option maxRecDepth 100000 in
theorem madeCmp_any (x y : S31) (w : World) :
    Calls Tryz.prog 90 #[.agg #[.string x.f0, .int .i64 x.f1], .agg #[.string y.f0, .int .i64 y.f1]] w fun e w' => e = .returned (.int .i64 (cmpB x.f0 y.f0)) ∧ ∃ q os, w' = Sort.grow (w.drewN q) os := by
  have hc := cmp_Compare_string.calls x.f0 y.f0 _ ((w.alloc (.cells #[.string x.f0, .int .i64 x.f1] 31)).alloc (.cells #[.string y.f0, .int .i64 y.f1] 31)) (compare_f x.f0 y.f0)
  generalize cmpB x.f0 y.f0 = r at hc ⊢
  go_enter Tryz.func90, Tryz.ntmps90
  go_wp2_with (go_at_call 47; refine hc.mono ?_; rintro e w2 ⟨rfl, nd, rfl⟩)
  go_ret
  refine ⟨rfl, nd, #[.cells #[.string x.f0, .int .i64 x.f1] 31] ++ #[.cells #[.string y.f0, .int .i64 y.f1] 31], ?_⟩
  rw [← Sort.grow_grow, Sort.alloc_eq_grow, Sort.alloc_eq_grow]
  rfl
theorem lt_cmpB (a b : ByteArray) : decide (cmpB a b < 0) = Op.bytesLess a.toList b.toList := by
  unfold cmpB
  cases h1 : Op.bytesLess a.toList b.toList
  · cases h2 : Op.bytesLess b.toList a.toList <;> simp
  · simp
theorem ltOf_G (x y : S31) : ltOf (fun x y : S31 => cmpB x.f0 y.f0) x y = decide (x.f0.toList < y.f0.toList) := by
  show decide (cmpB x.f0 y.f0 < 0) = _
  rw [lt_cmpB, bytesLess_eq]
theorem swoG : SWO (ltOf (fun x y : S31 => cmpB x.f0 y.f0)) where
  irrefl x := by rw [ltOf_G]; simp [List.lt_irrefl]
  trans x y z h1 h2 := by
    rw [ltOf_G] at *
    simp only [decide_eq_true_eq] at *
    exact List.lt_trans h1 h2
  ntrans x y z h1 h2 := by
    rw [ltOf_G] at *
    simp only [decide_eq_false_iff_not, List.not_lt] at *
    exact List.le_trans h2 h1
theorem sorted_one (xs ys : List S31) (d' : Array S31) (hp : ys.Perm xs) (hs : ys.Pairwise fun a b => cmpB a.f0 b.f0 < 0)
    (hP : PermIn 0 xs.toArray.size xs.toArray d') (hS : SortedIn (ltOf (fun x y : S31 => cmpB x.f0 y.f0)) 0 xs.toArray.size d') : d'.toList = ys := by
  obtain ⟨hsz, _, hperm⟩ := hP
  have e1 : d'.extract 0 xs.toArray.size = d' := by rw [← hsz]; exact Array.extract_size
  rw [e1, Array.extract_size] at hperm
  refine List.Perm.eq_of_pairwise (le := fun x y => (!ltOf (fun x y : S31 => cmpB x.f0 y.f0) y x) = true) ?_ ?_ ?_ (hperm.trans hp.symm)
  · intro a b ha hb h1 h2
    have ha' : a ∈ ys := (hperm.trans hp.symm).mem_iff.1 ha
    obtain ⟨i, hi, rfl⟩ := List.getElem_of_mem ha'
    obtain ⟨j, hj, rfl⟩ := List.getElem_of_mem hb
    simp only [Bool.not_eq_true', ltOf, decide_eq_false_iff_not] at h1 h2
    rcases Nat.lt_trichotomy i j with h | h | h
    · exact absurd (List.pairwise_iff_getElem.1 hs i j hi hj h) h2
    · subst h; rfl
    · exact absurd (List.pairwise_iff_getElem.1 hs j i hj hi h) h1
  · rw [List.pairwise_iff_getElem]
    intro i j hi hj hij
    have h := hS i j (Nat.zero_le _) hij (by rw [← hsz]; simpa using hj)
    have hi' : i < d'.size := by simpa using hi
    have hj' : j < d'.size := by simpa using hj
    rw [getElem!_pos d' i hi', getElem!_pos d' j hj'] at h
    simpa using h
  · refine hs.imp ?_
    intro a b h
    have h1 : ltOf (fun x y : S31 => cmpB x.f0 y.f0) a b = true := decide_eq_true h
    cases h2 : ltOf (fun x y : S31 => cmpB x.f0 y.f0) b a with
    | false => rfl
    | true => exact absurd (swoG.trans _ _ _ h1 h2) (by rw [swoG.irrefl]; simp)
/-- The sort at a row of the call's own. -/
theorem sortRow (w : World) (b0 : Nat) (u : Value) (xs ys : List S31) (hR : Kd.R k31 31 w b0 (fun _ => True) u xs) (h0 : 0 < xs.length) (hl : xs.length ≤ 1000) (hp : ys.Perm xs) (hs : ys.Pairwise fun a b => cmpB a.f0 b.f0 < 0) :
    Calls Tryz.prog 89 #[u, .func (.func 90) #[] #[]] w fun e w' => e = .returned (.tuple #[]) ∧ Kd.R k31 31 w' b0 (fun _ => True) u ys ∧ w.grownBy w' u.ownBlock := by
  obtain ⟨hok, inner, ho, hr⟩ := hR
  have hin := inner_flat hr
  subst hin
  rcases ho.2 with ⟨_, h⟩ | ⟨g, cap, cur, rfl, hbase, hb, h1, h2, h3, h4⟩
  · omega
  have hg : g < w.heap.size := (Array.getElem?_eq_some_iff.1 hb).1
  have hk2 : k31.sz = 2 := rfl
  rw [hk2] at h3 h4
  have hH : HoldsK encG 2 w g 0 xs.toArray := holdsF hb (by rw [size_flatK]; exact h4)
  have hlen := hp.length_eq
  refine (AnyQ.slices_SortFunc Tryz.sortG 2 (fun w => by kernel_rfl) (fun w => by kernel_rfl) encG encG_len encG_one (fun x y => cmpB x.f0 y.f0) swoG 90 #[] g 0 cap xs.toArray w (Go.Proofs.YtaifemkokfoadaaGreatDoorW.PrintLast.enters_ Tryz.func90 (by kernel_rfl) rfl)
    (fun m os dk hdk x y => madeCmp_any x y _) hH hg (by simp; omega)).mono fun e w' ⟨he, d', n, os, hP, hS, hw⟩ => ?_
  have hd := sorted_one xs ys d' hp hs hP hS
  have hd' : d' = ys.toArray := by rw [← hd]
  subst hd'
  subst hw
  refine ⟨he, ⟨fun _ _ => trivial, (flatK encG 2 ys.toArray).toList, ⟨by rw [hk2]; simp, .inr ⟨g, cap, _, by rw [hlen], hbase, heapF _ hb, by rw [hlen]; exact h1, h2, by rw [hk2]; simp [Sort.putCells, h3], ?_⟩⟩, reps_flat _ _ _ _⟩, ?_⟩
  · have := takeF cur (flatK encG 2 ys.toArray) (by rw [size_flatK, h3]; simp; omega)
    rw [size_flatK] at this
    rw [hk2]
    simpa using this
  · exact grownF (w := w) (g := g) (n := n) (os := os) (flatK encG 2 ys.toArray)
end Go.Proofs.YtaifemkokfoadaaGreatDoor

namespace Go.Proofs.YtaifemkokfoadaaGreatDoor
open Go.RowKit Go.Shelf Go.Proofs.YtaifemkokfoadaaGreatDoorW.PrintWords Go.Proofs.YtaifemkokfoadaaGreatDoorW.PrintLast Go.Proofs.YtaifemkokfoadaaGreatDoorW.PrintMore Go.Proofs.YtaifemkokfoadaaGreatDoor.PX
set_option linter.unusedSimpArgs false
theorem gb_step {w W w1 : World} {r r' : Option Nat} (h : w.grownBy W r) (g : W.grownBy w1 r') (hr : r' = r ∨ ∃ b, r' = some b ∧ w.heap.size ≤ b) : w.grownBy w1 r := by
  refine ⟨g.os.trans h.os, g.tape.trans h.tape, g.output.trans h.output, Nat.le_trans h.size g.size, fun k hk hne => ?_⟩
  refine (g.block k (Nat.lt_of_lt_of_le hk h.size) ?_).trans (h.block k hk hne)
  rcases hr with rfl | ⟨b, rfl, hb⟩
  · exact hne
  · intro e
    injection e with e
    omega
theorem gb_below {w W w1 : World} {r : Option Nat} (h : w.grownBy W r) (g : Below W.heap.size W w1) : w.grownBy w1 r :=
  ⟨g.os.trans h.os, g.tape.trans h.tape, g.output.trans h.output, Nat.le_trans h.size g.size, fun k hk hne => (g.block k (Nat.lt_of_lt_of_le hk h.size)).trans (h.block k hk hne)⟩
theorem gb_set {w W : World} {r : Option Nat} {g i : Nat} (h : w.grownBy W r) (hg : w.heap.size ≤ g) (v : Value) : w.grownBy (W.setCell ⟨g, i, none⟩ v) r :=
  ⟨h.os, h.tape, h.output, by simpa using h.size, fun k hk hne => (Below.heap_setCell W ⟨g, i, none⟩ v k (by show k ≠ g; omega)).trans (h.block k hk hne)⟩
theorem gb_drew {w W : World} {r : Option Nat} (h : w.grownBy W r) : w.grownBy W.drew r := gb_below h ⟨rfl, rfl, rfl, Nat.le_refl _, fun _ _ => rfl⟩
theorem below_grown_own {α : Type} {d : Kd α} {e b0 : Nat} {w wr w2 : World} {ok : Nat → Prop} {u : Value} {xs : List α} (hB : Below b0 w wr) (hs : b0 ≤ wr.heap.size) (hR : d.R e wr b0 ok u xs) (hg : wr.grownBy w2 u.ownBlock) : Below b0 w w2 := by
  refine hB.trans ⟨hg.os, hg.tape, hg.output, hg.size, fun k hk => hg.block k (Nat.lt_of_lt_of_le hk hs) ?_⟩
  intro e
  obtain ⟨inner, ho⟩ := Kd.R_own hR
  have := own_base ho k e.symm
  omega
/-- The glyphs of the bytes from 33 on. -/
def chr (c : Nat) : ByteArray := Utf8.encode (c : Int)
def glys (wd : Nat → Int) (c : Nat) : List S31 := (List.range (c - 33)).map fun i => ⟨chr (33 + i), wd (33 + i)⟩
theorem chr_eq (c : Nat) : Utf8.encode (c : Int) = chr c := rfl
attribute [irreducible] chr
theorem glys_succ (wd : Nat → Int) (c : Nat) (h : 33 ≤ c) : glys wd (c + 1) = glys wd c ++ [⟨chr c, wd c⟩] := by
  obtain ⟨m, rfl⟩ : ∃ m, c = 33 + m := ⟨c - 33, by omega⟩
  unfold glys
  rw [show 33 + m + 1 - 33 = m + 1 by omega, show 33 + m - 33 = m by omega, List.range_succ, List.map_append]
  rfl
theorem glys_len (wd : Nat → Int) (c : Nat) : (glys wd c).length = c - 33 := by simp [glys]
def made.T5 : Bool × List (List Nat × List Nat) := (true, [([], []), ([0], [0]), ([], []), ([2], [2]), ([3], [3]), ([], []), ([], []), ([5, 6], [5, 6]), ([4, 7], [4, 7]), ([8], [8]), ([1, 9, 7], [1, 9]), ([0, 1, 2, 3, 4, 5, 6, 7, 8, 9, 10], []), ([11, 10, 10, 0, 1, 2, 3, 4, 5, 6, 7, 8, 9, 10], [10, 11])])
theorem made.tab5 : rtab .any (opsOf Tryz.f29 5) = made.T5 := by kernel_rfl
/-- The loop's relation. -/
def madeJ (name : ByteArray) (space : Int) (more : List S31) (wd : Nat → Int) (u0 : Value) (b0 : Nat) (w : World) (gr gf : Nat) (x : Value) (wr : World) : Prop :=
  ∃ (c : Nat) (u : Value), x = .int .u8 (c : Int) ∧ 33 ≤ c ∧ c ≤ 127 ∧ Kd.R k31 31 wr b0 (fun _ => True) u (more ++ glys wd c) ∧
    wr.heap[gr]? = some (.cells #[.string (⟨#[]⟩ : ByteArray), .bool false, .int .i64 0, .slice none 0 0, .slice none 0 0, .slice none 0 0] 26 (0, 0)) ∧
    wr.heap[gf]? = some (.cells #[.string name, .bool false, .int .i64 space, u, .slice none 0 0, .slice none 0 0] 26 (0, 0)) ∧
    Below b0 w wr ∧ w.grownBy wr u0.ownBlock ∧ (u.ownBlock = u0.ownBlock ∨ ∃ b, u.ownBlock = some b ∧ w.heap.size ≤ b)
set_option maxHeartbeats 8000000 in
set_option maxRecDepth 100000 in
theorem made_any (F : FuncId) (fn : Func) (hfn : Tryz.prog.funcs[F]? = some fn) (hname : (fn.name == "runtime.NumGoroutine") = false) (hbody : fn.body.isSome = true) (wd : Nat → Int)
    (hwd : ∀ (c : Nat) (W : World), 33 ≤ c → c ≤ 126 → Calls Tryz.prog F #[.int .u8 (c : Int)] W fun e w' => e = .returned (.int .i64 (wd c)) ∧ Below W.heap.size W w')
    (name : ByteArray) (space : Int) (b0 : Nat) (u0 : Value) (more ys : List S31) (w : World) (hb0 : b0 ≤ w.heap.size) (hR : Kd.R k31 31 w b0 (fun _ => True) u0 more) (hm : more.length ≤ 10)
    (hp : ys.Perm (more ++ glys wd 127)) (hs : ys.Pairwise fun a b => cmpB a.f0 b.f0 < 0) :
    Calls Tryz.prog 29 #[.string name, .int .i64 space, .func (.func F) #[] #[], u0] w fun e w' => ∃ v, e = .returned (.agg #[.string name, .bool false, .int .i64 space, v, .slice none 0 0, .slice none 0 0]) ∧
      Kd.R k31 31 w' b0 (fun _ => True) v ys ∧ Below b0 w w' ∧ w.grownBy w' u0.ownBlock ∧ (v.ownBlock = u0.ownBlock ∨ ∃ b, v.ownBlock = some b ∧ w.heap.size ≤ b) := by
  have hu26 := Tryz.underlying26
  have HB := Aside0.mk (Below.refl b0 w)
  have HG := Aside0.mk (World.grownBy.refl w u0.ownBlock)
  have HR0 := Aside0.mk hR
  have HWD := Aside0.mk hwd
  have HP := Aside0.mk hp
  have HS := Aside0.mk hs
  have HEnt := Aside0.mk (enters_ hfn hname hbody)
  clear hR hwd hp hs hfn hname hbody
  obtain ⟨A0, c0, e0⟩ := Kd.R_slice HR0.out
  subst e0
  go_enter Tryz.func29, Tryz.ntmps29
  go_wp2_with (first
    | ((with_reducible refine gate_dst (N := 8) rfl ?_); refine box_event ?hg (N := 8) ?hd (cs := #[.string (⟨#[]⟩ : ByteArray), .bool false, .int .i64 0, .slice none 0 0, .slice none 0 0, .slice none 0 0]) (t := 26) ?hr ?_; (case hd => rfl); (case hg => rfl); (case hr => first | (go_simp; done) | (go_simp; rfl)); intro gr hgr w2 BR hb2; have Kr := Aside0.mk (Nat.le_of_eq hgr.symm); have n0_ := Aside0.mk (HB.out.trans (hb2.mono hb0)); have n1_ := Aside0.mk (gb_below HG.out hb2); clear HB HG; have HB := n0_; have HG := n1_; have HR1 := Aside0.mk (Kd.R_below HR0.out hb2); have BRA := Aside0.mk BR; clear n0_ n1_ BR hb2 hgr)
    | ((with_reducible refine gate_dst (N := 9) rfl ?_); refine box_event ?hg (N := 9) ?hd (cs := #[.string (⟨#[]⟩ : ByteArray), .bool false, .int .i64 0, .slice none 0 0, .slice none 0 0, .slice none 0 0]) (t := 26) ?hr ?_; (case hd => rfl); (case hg => rfl); (case hr => first | (go_simp; done) | (go_simp; rfl)); intro gf hgf w3 BF hb3; have Kf := Aside0.mk (Nat.le_trans HG.out.size (Nat.le_of_eq hgf.symm)); have n0_ := Aside0.mk (HB.out.trans (hb3.mono (Nat.le_trans hb0 HG.out.size))); have n1_ := Aside0.mk (gb_below HG.out hb3); have n2_ := Aside0.mk (blk_below BRA.out hb3); have n3_ := Aside0.mk (Kd.R_below HR1.out hb3); have HNE := Aside0.mk (show gr ≠ gf by rw [hgf]; exact Nat.ne_of_lt (blk_lt BRA.out)); clear HB HG BRA HR1 HR0; have HB := n0_; have HG := n1_; have BRA := n2_; have HR1 := n3_; clear n0_ n1_ n2_ n3_ hgf hb3; have hcf0 : w3.cell? ⟨gf, 0, none⟩ = some (.string (⟨#[]⟩ : ByteArray)) := (blk_cell BF 0).trans rfl; have hcf1 : w3.cell? ⟨gf, 1, none⟩ = some (.bool false) := (blk_cell BF 1).trans rfl; have hcf2 : w3.cell? ⟨gf, 2, none⟩ = some (.int .i64 0) := (blk_cell BF 2).trans rfl; have hcf3 : w3.cell? ⟨gf, 3, none⟩ = some (.slice none 0 0) := (blk_cell BF 3).trans rfl; have hcf4 : w3.cell? ⟨gf, 4, none⟩ = some (.slice none 0 0) := (blk_cell BF 4).trans rfl; have hcf5 : w3.cell? ⟨gf, 5, none⟩ = some (.slice none 0 0) := (blk_cell BF 5).trans rfl; have hzf0 := blk_frozen BF 0; have hzf1 := blk_frozen BF 1; have hzf2 := blk_frozen BF 2; have hzf3 := blk_frozen BF 3; have hzf4 := blk_frozen BF 4; have hzf5 := blk_frozen BF 5; have BFA := Aside0.mk BF; clear BF))
  have KfB := Aside0.mk (Nat.le_trans hb0 Kf.out)
  go_loopw [10] (fun x wr => madeJ name space more wd (.slice A0 more.length c0) b0 w gr gf x wr) (fun x _ => 127 - (intOf x).toNat)
  case atStart =>
    refine ⟨33, .slice A0 more.length c0, rfl, by omega, by omega, ?_, ?_, ?_, ?_, ?_, Or.inl rfl⟩
    · rw [show glys wd 33 = [] from rfl, List.append_nil]
      have h := Kd.R_types HR1.out BFA.out (by decide)
      exact Kd.R_mono (Kd.R_far (p := ⟨gf, 5, none⟩) (Kd.R_far (p := ⟨gf, 4, none⟩) (Kd.R_far (p := ⟨gf, 3, none⟩) (Kd.R_far (p := ⟨gf, 2, none⟩) (Kd.R_far (p := ⟨gf, 1, none⟩) (Kd.R_far (p := ⟨gf, 0, none⟩) h (fun _ hk => hk.2) _) (fun _ hk => hk.2) _) (fun _ hk => hk.2) _) (fun _ hk => hk.2) _) (fun _ hk => hk.2) _) (fun _ hk => hk.2) _) (fun _ _ => trivial)
    · refine blk_far ?_ HNE.out _
      refine blk_far ?_ HNE.out _
      refine blk_far ?_ HNE.out _
      refine blk_far ?_ HNE.out _
      refine blk_far ?_ HNE.out _
      refine blk_far ?_ HNE.out _
      exact BRA.out
    · refine blk_put (cs := #[.string name, .bool false, .int .i64 space, .slice A0 more.length c0, .slice none 0 0, .slice none 0 0]) ?_ 5 _ rfl
      refine blk_put (cs := #[.string name, .bool false, .int .i64 space, .slice A0 more.length c0, .slice none 0 0, .slice none 0 0]) ?_ 4 _ rfl
      refine blk_put (cs := #[.string name, .bool false, .int .i64 space, .slice none 0 0, .slice none 0 0, .slice none 0 0]) ?_ 3 _ rfl
      refine blk_put (cs := #[.string name, .bool false, .int .i64 0, .slice none 0 0, .slice none 0 0, .slice none 0 0]) ?_ 2 _ rfl
      refine blk_put (cs := #[.string name, .bool false, .int .i64 0, .slice none 0 0, .slice none 0 0, .slice none 0 0]) ?_ 1 _ rfl
      refine blk_put (cs := #[.string (⟨#[]⟩ : ByteArray), .bool false, .int .i64 0, .slice none 0 0, .slice none 0 0, .slice none 0 0]) ?_ 0 _ rfl
      exact BFA.out
    · exact (((((HB.out.setCell KfB.out _).setCell KfB.out _).setCell KfB.out _).setCell KfB.out _).setCell KfB.out _).setCell KfB.out _
    · exact gb_set (gb_set (gb_set (gb_set (gb_set (gb_set HG.out Kf.out _) Kf.out _) Kf.out _) Kf.out _) Kf.out _) Kf.out _
  case round =>
    obtain ⟨c, u, rfl, h33, h127, HRc0, BR0, BF0, HBc0, HGc0, HAc0⟩ := hrel
    have HRc := Aside0.mk HRc0
    have BR := Aside0.mk BR0
    have BF := Aside0.mk BF0
    have HBc := Aside0.mk HBc0
    have HGc := Aside0.mk HGc0
    have HAc := Aside0.mk HAc0
    clear HRc0 BR0 BF0 HBc0 HGc0 HAc0 BRA BFA HR1 HB HG
    by_cases hlt : c < 127
    · have hw32 : IntKind.i32.wrap (c : Int) = c := by unfold IntKind.wrap; simp [IntKind.bits, IntKind.signed]; omega
      have q1 : decide ((c : Int) < 127) = true := decide_eq_true (by omega)
      go_wp2
      have n0_ := Aside0.mk (Kd.R_drew HRc.out)
      have n1_ := Aside0.mk (blk_drew BR.out)
      have n2_ := Aside0.mk (blk_drew BF.out)
      have n3_ := Aside0.mk (HBc.out.drew)
      have n4_ := Aside0.mk (gb_drew HGc.out)
      clear HRc BR BF HBc HGc
      have HRc := n0_
      have BR := n1_
      have BF := n2_
      have HBc := n3_
      have HGc := n4_
      clear n0_ n1_ n2_ n3_ n4_
      refine start_ (n := 13) (S := fun w' => w'.cell? ⟨gf, 3, none⟩ = some u) (ds := [12]) #[false, false, false, false, false, false, false, false, false, false, false, false, false] (by kernel_rfl) rfl rfl ((blk_cell BF.out 3).trans rfl) (fun hHeld => ?_)
      refine with_tab made.tab5 (fun HT_ => ?_)
      generalize wr.drew = w16 at HRc BR BF HBc HGc hHeld ⊢
      refine pure_ (i := 0) (N := some 19) (v := ?_) (a' := ?_) #[true, false, false, false, false, false, false, false, false, false, false, false, false] rfl rfl (any_of HT_.out (by kernel_rfl)) (fun _ _ _ h => h) (Or.inl ⟨by rfl, ?_⟩) ?_ ?_
      rotate_left
      · intro w'
        go_simp
        with_reducible rfl
      rotate_left
      · simp only [Act.put, List.setIfInBounds_toArray, List.set_cons_zero, List.set_cons_succ]
        rfl
      refine pure_ (i := 2) (N := some 21) (v := ?_) (a' := ?_) #[true, false, true, false, false, false, false, false, false, false, false, false, false] rfl rfl (any_of HT_.out (by kernel_rfl)) (fun _ _ _ h => h) (Or.inl ⟨by rfl, ?_⟩) ?_ ?_
      rotate_left
      · intro w'
        go_simp
        with_reducible rfl
      rotate_left
      · simp only [Act.put, List.setIfInBounds_toArray, List.set_cons_zero, List.set_cons_succ]
        rfl
      refine pure_ (i := 3) (N := some 22) (v := ?_) (a' := ?_) #[true, false, true, true, false, false, false, false, false, false, false, false, false] rfl rfl (any_of HT_.out (by kernel_rfl)) (fun _ _ _ h => h) (Or.inl ⟨by rfl, ?_⟩) ?_ ?_
      rotate_left
      · intro w'
        go_simp
        with_reducible rfl
      rotate_left
      · simp only [Act.put, List.setIfInBounds_toArray, List.set_cons_zero, List.set_cons_succ, hw32]
        rfl
      refine pure_ (i := 4) (N := some 23) (v := ?_) (a' := ?_) #[true, false, true, true, true, false, false, false, false, false, false, false, false] rfl rfl (any_of HT_.out (by kernel_rfl)) (fun _ _ _ h => h) (Or.inl ⟨by rfl, ?_⟩) ?_ ?_
      rotate_left
      · intro w'
        go_simp
        with_reducible rfl
      rotate_left
      · simp only [Act.put, List.setIfInBounds_toArray, List.set_cons_zero, List.set_cons_succ, chr_eq]
        rfl
      refine pure_ (i := 5) (N := some 24) (v := ?_) (a' := ?_) #[true, false, true, true, true, true, false, false, false, false, false, false, false] rfl rfl (any_of HT_.out (by kernel_rfl)) (fun _ _ _ h => h) (Or.inl ⟨by rfl, ?_⟩) ?_ ?_
      rotate_left
      · intro w'
        go_simp
        with_reducible rfl
      rotate_left
      · simp only [Act.put, List.setIfInBounds_toArray, List.set_cons_zero, List.set_cons_succ]
        rfl
      refine pure_ (i := 6) (N := some 25) (v := ?_) (a' := ?_) #[true, false, true, true, true, true, true, false, false, false, false, false, false] rfl rfl (any_of HT_.out (by kernel_rfl)) (fun _ _ _ h => h) (Or.inl ⟨by rfl, ?_⟩) ?_ ?_
      rotate_left
      · intro w'
        go_simp
        with_reducible rfl
      rotate_left
      · simp only [Act.put, List.setIfInBounds_toArray, List.set_cons_zero, List.set_cons_succ]
        rfl
      refine take_ (i := 1) (N := some 20) (v := ?_) (a' := ?_) #[true, true, true, true, true, true, true, false, false, false, false, false, false] rfl rfl (take_of HT_.out (by kernel_rfl)) (fun _ _ _ h => h) (Or.inl ⟨by rfl, ?_⟩) hHeld ?_ ?_
      rotate_left
      · rintro w' s0
        go_simp
        with_reducible rfl
      rotate_left
      · simp only [Act.put, List.setIfInBounds_toArray, List.set_cons_zero, List.set_cons_succ]
        rfl
      refine one_ (i := 7) (N := some 26) #[true, true, true, true, true, true, true, true, false, false, false, false, false] rfl rfl (one_of HT_.out (by kernel_rfl)) (by decide) (fun K hK => ?_)
      refine call_ F #[.int .u8 (c : Int)] (by rfl) rfl (by have he := HEnt.out #[.int .u8 (c : Int)] w16; go_simp) ?_
      refine (HWD.out c _ h33 (by omega)).mono ?_
      rintro e w17 ⟨rfl, hb⟩
      refine ⟨_, rfl, ?_⟩
      have n0_ := Aside0.mk (Kd.R_below HRc.out hb)
      have n1_ := Aside0.mk (blk_below BR.out hb)
      have n2_ := Aside0.mk (blk_below BF.out hb)
      have n3_ := Aside0.mk (HBc.out.trans (hb.mono (Nat.le_trans hb0 HGc.out.size)))
      have n4_ := Aside0.mk (gb_below HGc.out hb)
      clear HRc BR BF HBc HGc hHeld hb
      have HRc := n0_
      have BR := n1_
      have BF := n2_
      have HBc := n3_
      have HGc := n4_
      clear n0_ n1_ n2_ n3_ n4_
      refine hK.out _ _ ((blk_cell BF.out 3).trans rfl) (fun hHeld => ?_)
      clear hK K
      refine norm_ (a' := ?_) ?_ ?_
      rotate_left
      · show Act.put _ (some 26) _ = _
        simp only [Act.put, List.setIfInBounds_toArray, List.set_cons_zero, List.set_cons_succ]
        rfl
      refine pure_ (i := 8) (N := some 27) (v := ?_) (a' := ?_) #[true, true, true, true, true, true, true, true, true, false, false, false, false] rfl rfl (any_of HT_.out (by kernel_rfl)) (fun _ _ _ h => h) (Or.inl ⟨by rfl, ?_⟩) ?_ ?_
      rotate_left
      · intro w'
        go_simp
        with_reducible rfl
      rotate_left
      · simp only [Act.put, List.setIfInBounds_toArray, List.set_cons_zero, List.set_cons_succ]
        rfl
      refine one_ (i := 9) (N := some 28) #[true, true, true, true, true, true, true, true, true, true, false, false, false] rfl rfl (one_of HT_.out (by kernel_rfl)) (by decide) (fun K hK => ?_)
      refine value_ (w1 := ?_) (v := ?_) (by rfl) rfl ?_ ?_
      rotate_left 2
      · go_simp
        constructor
        · rfl
        · rfl
      refine hK.out _ _ ((blk_cell (blk_alloc BF.out _) 3).trans rfl) (fun hHeld => ?_)
      clear hK K
      refine norm_ (a' := ?_) ?_ ?_
      rotate_left
      · show Act.put _ (some 28) _ = _
        simp only [Act.put, List.setIfInBounds_toArray, List.set_cons_zero, List.set_cons_succ]
        rfl
      refine one_ (i := 10) (N := some 29) #[true, true, true, true, true, true, true, true, true, true, true, false, false] rfl rfl (one_of HT_.out (by kernel_rfl)) (by decide) (fun K hK => ?_)
      refine Kd.R_append_step k31 (w0 := w) b0 (by rfl) (.tmp 20) (.tmp 28) 22 31 (.agg #[(.string ⟨#[]⟩), (.int .i64 0)]) 24 rfl Tryz.underlying22 info31 rfl (by decide) (by omega) u (more ++ glys wd c) (⟨chr c, wd c⟩ : S31) [.string (chr c), .int .i64 (wd c)] (fun _ => True) (fun _ => False) rfl rfl ?aP (fun _ hk => hk.elim) ?aF ?aO ?aB ?aS ?aL ?_
      (case aP => exact k31_mkM _ _ _ (⟨chr c, wd c⟩ : S31))
      (case aF => exact (fun _ _ => trivial))
      (case aO => exact HRc.out)
      (case aB => exact HBc.out)
      (case aS => exact Nat.le_trans hb0 HGc.out.size)
      (case aL => have := glys_len wd c; rw [List.length_append]; omega)
      intro v1 w18 ho hb hg hat
      rw [List.append_assoc, ← glys_succ wd c h33] at ho
      obtain ⟨Ao, co, eo⟩ := Kd.R_slice ho
      subst eo
      generalize (more ++ glys wd (c + 1)).length = nn at ho hat ⊢
      have n0_ := Aside0.mk (blk_grown BR.out hg (Kd.R_ne HRc.out BR.out (by decide)))
      have n1_ := Aside0.mk (blk_grown BF.out hg (Kd.R_ne HRc.out BF.out (by decide)))
      have n2_ := Aside0.mk hb
      have n3_ := Aside0.mk (gb_step HGc.out hg HAc.out)
      have n4_ := Aside0.mk ho
      have n5_ : Aside0 ((Value.slice Ao nn co).ownBlock = (Value.slice A0 more.length c0).ownBlock ∨ ∃ b, (Value.slice Ao nn co).ownBlock = some b ∧ w.heap.size ≤ b) := Aside0.mk (by
        rcases hat with hat | ⟨b, h1, h2⟩
        · rw [hat]; exact HAc.out
        · exact Or.inr ⟨b, h1, Nat.le_trans HGc.out.size h2⟩)
      clear BR BF HBc HGc HRc HAc ho hb hg hat hHeld
      have BR := n0_
      have BF := n1_
      have HBc := n2_
      have HGc := n3_
      have HRc := n4_
      have HAc := n5_
      clear n0_ n1_ n2_ n3_ n4_ n5_
      refine hK.out _ _ ((blk_cell BF.out 3).trans rfl) (fun hHeld => ?_)
      clear hK K
      refine norm_ (a' := ?_) ?_ ?_
      rotate_left
      · show Act.put _ (some 29) _ = _
        simp only [Act.put, List.setIfInBounds_toArray, List.set_cons_zero, List.set_cons_succ]
        rfl
      refine pure_ (i := 11) (N := some 30) (v := ?_) (a' := ?_) #[true, true, true, true, true, true, true, true, true, true, true, true, false] rfl rfl (any_of HT_.out (by kernel_rfl)) (fun _ _ _ h => h) (Or.inl ⟨by rfl, ?_⟩) ?_ ?_
      rotate_left
      · intro w'
        go_simp
        with_reducible rfl
      rotate_left
      · simp only [Act.put, List.setIfInBounds_toArray, List.set_cons_zero, List.set_cons_succ]
        rfl
      refine last_ (i := 12) (N := none) #[true, true, true, true, true, true, true, true, true, true, true, true, true] rfl rfl (one_of HT_.out (by kernel_rfl)) (by decide) (fun K hK => ?_)
      have hs19 : w18.cell? ⟨gf, 3, none⟩ = some u := (blk_cell BF.out 3).trans rfl
      have hfs19 := blk_frozen BF.out 3
      refine skip_ (w1 := ?_) (by rfl) rfl ?_ ?_
      rotate_left
      · go_simp
        rfl
      refine hK.out _ _ ?_
      clear hK K
      refine done_ (done_of HT_.out (by kernel_rfl)) ?_
      have n0_ := Aside0.mk (blk_far BR.out (p := ⟨gf, 3, none⟩) HNE.out (.slice Ao nn co : Value))
      have n1_ := Aside0.mk (blk_put (cs' := #[.string name, .bool false, .int .i64 space, (.slice Ao nn co : Value), .slice none 0 0, .slice none 0 0]) BF.out 3 (.slice Ao nn co : Value) rfl)
      have n2_ := Aside0.mk (HBc.out.setCell (p := ⟨gf, 3, none⟩) KfB.out (.slice Ao nn co : Value))
      have n3_ := Aside0.mk (gb_set (i := 3) HGc.out Kf.out (.slice Ao nn co : Value))
      have n4_ := Aside0.mk (Kd.R_set HRc.out BF.out (by decide) 3 (.slice Ao nn co : Value))
      clear BR BF HBc HGc HRc hHeld hs19 hfs19
      generalize w18.setCell ⟨gf, 3, none⟩ (.slice Ao nn co : Value) = w19 at n0_ n1_ n2_ n3_ n4_ ⊢
      go_wp2
      go_roundw
      case rel => exact ⟨c + 1, (.slice Ao nn co : Value), by first | rfl | (simp; done) | go_num, by omega, by omega, n4_.out, n0_.out, n1_.out, n2_.out, n3_.out, HAc.out⟩
      case measure => simp [intOf]; omega
    · have hc : c = 127 := by omega
      have q1 : decide ((c : Int) < 127) = false := decide_eq_false (by omega)
      obtain ⟨Au, cu, eu⟩ := Kd.R_slice HRc.out
      generalize (more ++ glys wd c).length = nu at eu
      subst eu
      have hRs := HRc.out
      rw [hc] at hRs
      have hsort := sortRow wr b0 (.slice Au nu cu) _ ys hRs (by rw [List.length_append, glys_len]; omega) (by rw [List.length_append, glys_len]; omega) HP.out HS.out
      have HSort := Aside0.mk hsort
      have hcu : wr.cell? ⟨gf, 3, none⟩ = some (.slice Au nu cu) := (blk_cell BF.out 3).trans rfl
      clear hsort hRs hlt h33 h127
      go_wp2_with (go_at_call 89; refine HSort.out.mono ?_; rintro e w2 ⟨rfl, hR2, hg2⟩; clear HSort hcu; have hne1 := Kd.R_ne HRc.out BF.out (by decide); have n1_ := Aside0.mk (blk_grown BR.out hg2 (Kd.R_ne HRc.out BR.out (by decide))); have n2_ := Aside0.mk (blk_grown BF.out hg2 hne1); have n3_ := Aside0.mk hR2; have n4_ := Aside0.mk (gb_step HGc.out hg2 HAc.out); have n5_ := Aside0.mk (below_grown_own HBc.out (Nat.le_trans hb0 HGc.out.size) HRc.out hg2); clear HRc BR BF HBc HGc hne1 hR2 hg2; have BR := n1_; have BF := n2_; have HR2 := n3_; have HG2 := n4_; have HB2 := n5_; clear n1_ n2_ n3_ n4_ n5_; have hcf0 : w2.cell? ⟨gf, 0, none⟩ = some (.string name) := (blk_cell BF.out 0).trans rfl; have hcf1 : w2.cell? ⟨gf, 1, none⟩ = some (.bool false) := (blk_cell BF.out 1).trans rfl; have hcf2 : w2.cell? ⟨gf, 2, none⟩ = some (.int .i64 space) := (blk_cell BF.out 2).trans rfl; have hcf3 : w2.cell? ⟨gf, 3, none⟩ = some (.slice Au nu cu) := (blk_cell BF.out 3).trans rfl; have hcf4 : w2.cell? ⟨gf, 4, none⟩ = some (.slice none 0 0) := (blk_cell BF.out 4).trans rfl; have hcf5 : w2.cell? ⟨gf, 5, none⟩ = some (.slice none 0 0) := (blk_cell BF.out 5).trans rfl; have hcr0 : w2.cell? ⟨gr, 0, none⟩ = some (.string (⟨#[]⟩ : ByteArray)) := (blk_cell BR.out 0).trans rfl; have hcr1 : w2.cell? ⟨gr, 1, none⟩ = some (.bool false) := (blk_cell BR.out 1).trans rfl; have hcr2 : w2.cell? ⟨gr, 2, none⟩ = some (.int .i64 0) := (blk_cell BR.out 2).trans rfl; have hcr3 : w2.cell? ⟨gr, 3, none⟩ = some (.slice none 0 0) := (blk_cell BR.out 3).trans rfl; have hcr4 : w2.cell? ⟨gr, 4, none⟩ = some (.slice none 0 0) := (blk_cell BR.out 4).trans rfl; have hcr5 : w2.cell? ⟨gr, 5, none⟩ = some (.slice none 0 0) := (blk_cell BR.out 5).trans rfl; have hzr0 := blk_frozen BR.out 0; have hzr1 := blk_frozen BR.out 1; have hzr2 := blk_frozen BR.out 2; have hzr3 := blk_frozen BR.out 3; have hzr4 := blk_frozen BR.out 4; have hzr5 := blk_frozen BR.out 5)
      have n0_ := (blk_put (cs' := #[.string name, .bool false, .int .i64 space, .slice Au nu cu, .slice none 0 0, .slice none 0 0]) (blk_put (cs' := #[.string name, .bool false, .int .i64 space, .slice Au nu cu, .slice none 0 0, .slice none 0 0]) (blk_put (cs' := #[.string name, .bool false, .int .i64 space, .slice Au nu cu, .slice none 0 0, .slice none 0 0]) (blk_put (cs' := #[.string name, .bool false, .int .i64 space, .slice none 0 0, .slice none 0 0, .slice none 0 0]) (blk_put (cs' := #[.string name, .bool false, .int .i64 0, .slice none 0 0, .slice none 0 0, .slice none 0 0]) (blk_put (cs' := #[.string name, .bool false, .int .i64 0, .slice none 0 0, .slice none 0 0, .slice none 0 0]) BR.out 0 (.string name) rfl) 1 (.bool false) rfl) 2 (.int .i64 space) rfl) 3 (.slice Au nu cu) rfl) 4 (.slice none 0 0) rfl) 5 (.slice none 0 0) rfl)
      have n1_ := Kd.R_mono (Kd.R_far (p := ⟨gr, 5, none⟩) (Kd.R_far (p := ⟨gr, 4, none⟩) (Kd.R_far (p := ⟨gr, 3, none⟩) (Kd.R_far (p := ⟨gr, 2, none⟩) (Kd.R_far (p := ⟨gr, 1, none⟩) (Kd.R_far (p := ⟨gr, 0, none⟩) (Kd.R_types HR2.out BR.out (by decide)) (fun _ hk => hk.2) (.string name)) (fun _ hk => hk.2) (.bool false)) (fun _ hk => hk.2) (.int .i64 space)) (fun _ hk => hk.2) (.slice Au nu cu)) (fun _ hk => hk.2) (.slice none 0 0)) (fun _ hk => hk.2) (.slice none 0 0)) (fun _ _ => trivial)
      have n2_ := (gb_set (i := 5) (gb_set (i := 4) (gb_set (i := 3) (gb_set (i := 2) (gb_set (i := 1) (gb_set (i := 0) HG2.out Kr.out (.string name)) Kr.out (.bool false)) Kr.out (.int .i64 space)) Kr.out (.slice Au nu cu)) Kr.out (.slice none 0 0)) Kr.out (.slice none 0 0))
      have n3_ := (Below.setCell (p := ⟨gr, 5, none⟩) (Below.setCell (p := ⟨gr, 4, none⟩) (Below.setCell (p := ⟨gr, 3, none⟩) (Below.setCell (p := ⟨gr, 2, none⟩) (Below.setCell (p := ⟨gr, 1, none⟩) (Below.setCell (p := ⟨gr, 0, none⟩) HB2.out (Nat.le_trans hb0 Kr.out) (.string name)) (Nat.le_trans hb0 Kr.out) (.bool false)) (Nat.le_trans hb0 Kr.out) (.int .i64 space)) (Nat.le_trans hb0 Kr.out) (.slice Au nu cu)) (Nat.le_trans hb0 Kr.out) (.slice none 0 0)) (Nat.le_trans hb0 Kr.out) (.slice none 0 0))
      clear hcf0 hcf1 hcf2 hcf3 hcf4 hcf5 hcr0 hcr1 hcr2 hcr3 hcr4 hcr5 hzr0 hzr1 hzr2 hzr3 hzr4 hzr5
      generalize ((((((w2.setCell ⟨gr, 0, none⟩ (.string name)).setCell ⟨gr, 1, none⟩ (.bool false)).setCell ⟨gr, 2, none⟩ (.int .i64 space)).setCell ⟨gr, 3, none⟩ (.slice Au nu cu)).setCell ⟨gr, 4, none⟩ (.slice none 0 0)).setCell ⟨gr, 5, none⟩ (.slice none 0 0)) = w5 at n0_ n1_ n2_ n3_ ⊢
      refine bodyPost_ret (results_cell_row rfl _ _ gr 26 #[.string name, .bool false, .int .i64 space, .slice Au nu cu, .slice none 0 0, .slice none 0 0] (0, 0) _ rfl n0_ Tryz.underlying26 rfl (by kernel_rfl)) rfl ?_
      exact ⟨_, rfl, n1_, n3_, n2_, HAc.out⟩
end Go.Proofs.YtaifemkokfoadaaGreatDoor

namespace Go.Proofs.YtaifemkokfoadaaGreatDoor
open Go.RowKit Go.Shelf
def inB (l : List UInt8) (c : UInt8) : Bool := decide (0 ≤ Lib.indexByte l c)
/-- The width of a byte in R. -/
def romanV (c : UInt8) : Int :=
  if (inB [105, 106, 108, 116, 102, 46, 44, 58, 59, 39, 124, 33] c || (c.toNat : Int) == 96) = true then 250
  else if inB [40, 41, 91, 93, 123, 125, 45, 114, 115, 47, 92, 34] c = true then 350
  else if inB [109, 119] c = true then 750
  else if inB [77, 87, 64, 37] c = true then 900
  else if (decide (65 ≤ (c.toNat : Int)) && decide ((c.toNat : Int) ≤ 90)) = true then 650 else 500
set_option maxRecDepth 100000 in
theorem romanIn_any (s : ByteArray) (c : UInt8) (B : Nat) (w : World) (hc : w.cell? ⟨B, 0, none⟩ = some (.int .u8 c.toNat)) :
    Calls Tryz.prog 91 #[.string s, .pointer (some ⟨B, 0, none⟩)] w fun e w' => e = .returned (.bool (inB s.data.toList c)) ∧ w' = w := by
  have hi := Tryz.strings_IndexByte s (c.toNat : Int) w
  have hc8 : ((c.toNat : Int).toNat.toUInt8) = c := by rw [Int.toNat_natCast]; exact UInt8.ofNat_toNat
  rw [hc8] at hi
  have hx : inB s.data.toList c = decide (0 ≤ Lib.indexByte s.data.toList c) := rfl
  generalize Lib.indexByte s.data.toList c = ix at hi hx
  generalize inB s.data.toList c = b at hx ⊢
  subst hx
  clear hc8
  go_enter Tryz.func91, Tryz.ntmps91
  go_wp2_with (go_at_call 92; refine hi.mono ?_; rintro e w2 ⟨rfl, rfl⟩)
  go_ret
  exact ⟨rfl, rfl⟩
set_option maxRecDepth 100000 in
set_option maxHeartbeats 1000000 in
theorem roman_any (c : UInt8) (w : World) :
    Calls Tryz.prog 30 #[.int .u8 c.toNat] w fun e w' => e = .returned (.int .i64 (romanV c)) ∧ Below w.heap.size w w' := by
  have hb0 : Below w.heap.size w (w.alloc (.cells #[.int .u8 c.toNat] 5)) := (Below.refl _ w).alloc (Nat.le_refl _) _
  have hcell : (w.alloc (.cells #[.int .u8 c.toNat] 5)).cell? ⟨w.heap.size, 0, none⟩ = some (.int .u8 c.toNat) := by simp
  have h1 := romanIn_any ⟨#[105, 106, 108, 116, 102, 46, 44, 58, 59, 39, 124, 33]⟩ c w.heap.size _ hcell
  have h2 := romanIn_any ⟨#[40, 41, 91, 93, 123, 125, 45, 114, 115, 47, 92, 34]⟩ c w.heap.size _ hcell
  have h3 := romanIn_any ⟨#[109, 119]⟩ c w.heap.size _ hcell
  have h4 := romanIn_any ⟨#[77, 87, 64, 37]⟩ c w.heap.size _ hcell
  have hv : romanV c = if (inB (⟨#[105, 106, 108, 116, 102, 46, 44, 58, 59, 39, 124, 33]⟩ : ByteArray).data.toList c || (c.toNat : Int) == 96) = true then 250
    else if inB (⟨#[40, 41, 91, 93, 123, 125, 45, 114, 115, 47, 92, 34]⟩ : ByteArray).data.toList c = true then 350
    else if inB (⟨#[109, 119]⟩ : ByteArray).data.toList c = true then 750
    else if inB (⟨#[77, 87, 64, 37]⟩ : ByteArray).data.toList c = true then 900
    else if (decide (65 ≤ (c.toNat : Int)) && decide ((c.toNat : Int) ≤ 90)) = true then 650 else 500 := rfl
  rw [hv]
  clear hv
  generalize inB (⟨#[105, 106, 108, 116, 102, 46, 44, 58, 59, 39, 124, 33]⟩ : ByteArray).data.toList c = b1 at h1 ⊢
  generalize inB (⟨#[40, 41, 91, 93, 123, 125, 45, 114, 115, 47, 92, 34]⟩ : ByteArray).data.toList c = b2 at h2 ⊢
  generalize inB (⟨#[109, 119]⟩ : ByteArray).data.toList c = b3 at h3 ⊢
  generalize inB (⟨#[77, 87, 64, 37]⟩ : ByteArray).data.toList c = b4 at h4 ⊢
  have hx0 := c.toNat_lt
  generalize (c.toNat : Int) = x at hb0 hcell h1 h2 h3 h4 ⊢
  generalize h96 : (x == 96) = b96
  generalize h65 : decide (65 ≤ x) = b65
  generalize h90 : decide (x ≤ 90) = b90
  cases b1 with
  | true =>
    go_enter Tryz.func30, Tryz.ntmps30
    go_wp2_with (first
      | (go_at_call 91; ((with_reducible refine h1.mono ?_); rintro e w2 ⟨rfl, rfl⟩))
      | (go_at_call 91; ((with_reducible refine h2.mono ?_); rintro e w2 ⟨rfl, rfl⟩))
      | (go_at_call 91; ((with_reducible refine h3.mono ?_); rintro e w2 ⟨rfl, rfl⟩))
      | (go_at_call 91; ((with_reducible refine h4.mono ?_); rintro e w2 ⟨rfl, rfl⟩)))
    go_ret
    exact ⟨rfl, hb0⟩
  | false =>
    cases b96 with
    | true =>
      go_enter Tryz.func30, Tryz.ntmps30
      go_wp2_with (first
        | (go_at_call 91; ((with_reducible refine h1.mono ?_); rintro e w2 ⟨rfl, rfl⟩))
        | (go_at_call 91; ((with_reducible refine h2.mono ?_); rintro e w2 ⟨rfl, rfl⟩))
        | (go_at_call 91; ((with_reducible refine h3.mono ?_); rintro e w2 ⟨rfl, rfl⟩))
        | (go_at_call 91; ((with_reducible refine h4.mono ?_); rintro e w2 ⟨rfl, rfl⟩)))
      go_ret
      exact ⟨rfl, hb0⟩
    | false =>
      cases b2 with
      | true =>
        go_enter Tryz.func30, Tryz.ntmps30
        go_wp2_with (first
          | (go_at_call 91; ((with_reducible refine h1.mono ?_); rintro e w2 ⟨rfl, rfl⟩))
          | (go_at_call 91; ((with_reducible refine h2.mono ?_); rintro e w2 ⟨rfl, rfl⟩))
          | (go_at_call 91; ((with_reducible refine h3.mono ?_); rintro e w2 ⟨rfl, rfl⟩))
          | (go_at_call 91; ((with_reducible refine h4.mono ?_); rintro e w2 ⟨rfl, rfl⟩)))
        go_ret
        exact ⟨rfl, hb0⟩
      | false =>
        cases b3 with
        | true =>
          go_enter Tryz.func30, Tryz.ntmps30
          go_wp2_with (first
            | (go_at_call 91; ((with_reducible refine h1.mono ?_); rintro e w2 ⟨rfl, rfl⟩))
            | (go_at_call 91; ((with_reducible refine h2.mono ?_); rintro e w2 ⟨rfl, rfl⟩))
            | (go_at_call 91; ((with_reducible refine h3.mono ?_); rintro e w2 ⟨rfl, rfl⟩))
            | (go_at_call 91; ((with_reducible refine h4.mono ?_); rintro e w2 ⟨rfl, rfl⟩)))
          go_ret
          exact ⟨rfl, hb0⟩
        | false =>
          cases b4 with
          | true =>
            go_enter Tryz.func30, Tryz.ntmps30
            go_wp2_with (first
              | (go_at_call 91; ((with_reducible refine h1.mono ?_); rintro e w2 ⟨rfl, rfl⟩))
              | (go_at_call 91; ((with_reducible refine h2.mono ?_); rintro e w2 ⟨rfl, rfl⟩))
              | (go_at_call 91; ((with_reducible refine h3.mono ?_); rintro e w2 ⟨rfl, rfl⟩))
              | (go_at_call 91; ((with_reducible refine h4.mono ?_); rintro e w2 ⟨rfl, rfl⟩)))
            go_ret
            exact ⟨rfl, hb0⟩
          | false =>
            cases b65 with
            | false =>
              go_enter Tryz.func30, Tryz.ntmps30
              go_wp2_with (first
                | (go_at_call 91; ((with_reducible refine h1.mono ?_); rintro e w2 ⟨rfl, rfl⟩))
                | (go_at_call 91; ((with_reducible refine h2.mono ?_); rintro e w2 ⟨rfl, rfl⟩))
                | (go_at_call 91; ((with_reducible refine h3.mono ?_); rintro e w2 ⟨rfl, rfl⟩))
                | (go_at_call 91; ((with_reducible refine h4.mono ?_); rintro e w2 ⟨rfl, rfl⟩)))
              go_ret
              exact ⟨rfl, hb0⟩
            | true =>
              cases b90 with
              | false =>
                go_enter Tryz.func30, Tryz.ntmps30
                go_wp2_with (first
                  | (go_at_call 91; ((with_reducible refine h1.mono ?_); rintro e w2 ⟨rfl, rfl⟩))
                  | (go_at_call 91; ((with_reducible refine h2.mono ?_); rintro e w2 ⟨rfl, rfl⟩))
                  | (go_at_call 91; ((with_reducible refine h3.mono ?_); rintro e w2 ⟨rfl, rfl⟩))
                  | (go_at_call 91; ((with_reducible refine h4.mono ?_); rintro e w2 ⟨rfl, rfl⟩)))
                go_ret
                exact ⟨rfl, hb0⟩
              | true =>
                go_enter Tryz.func30, Tryz.ntmps30
                go_wp2_with (first
                  | (go_at_call 91; ((with_reducible refine h1.mono ?_); rintro e w2 ⟨rfl, rfl⟩))
                  | (go_at_call 91; ((with_reducible refine h2.mono ?_); rintro e w2 ⟨rfl, rfl⟩))
                  | (go_at_call 91; ((with_reducible refine h3.mono ?_); rintro e w2 ⟨rfl, rfl⟩))
                  | (go_at_call 91; ((with_reducible refine h4.mono ?_); rintro e w2 ⟨rfl, rfl⟩)))
                go_ret
                exact ⟨rfl, hb0⟩
end Go.Proofs.YtaifemkokfoadaaGreatDoor

namespace Go.Proofs.YtaifemkokfoadaaGreatDoor
open Go.RowKit Go.Shelf Go.Proofs.YtaifemkokfoadaaGreatDoorW.PrintWords Go.Proofs.YtaifemkokfoadaaGreatDoorW.PrintLast Go.Proofs.YtaifemkokfoadaaGreatDoorW.PrintMore Go.Proofs.YtaifemkokfoadaaGreatDoor.PX
set_option linter.unusedSimpArgs false
/-- A number of at most six bytes, and whether it is one. -/
def numV (s : ByteArray) : Int × Bool := if 6 < s.size then (0, false) else (atoiN s.data.toList, atoiB s.data.toList)
def number.T4 : Bool × List (List Nat × List Nat) := (true, [([], []), ([], []), ([1], [1]), ([0, 0], [0]), ([2, 3, 0, 1, 2, 3], [2])])
theorem number.tab4 : rtab .any (opsOf Tryz.f36 4) = number.T4 := by kernel_rfl
set_option maxRecDepth 100000 in
theorem number_any (s : ByteArray) (w : World) (hs : s.size ≤ 140737488355328) (hG : GW w) :
    Calls Tryz.prog 36 #[.string s] w fun e w' => e = .returned (.tuple #[.int .i64 (numV s).1, .bool (numV s).2]) ∧ Below w.heap.size w w' := by
  unfold numV
  by_cases h6 : 6 < s.size
  · rw [if_pos h6]
    have q1 : decide ((6 : Int) < (s.size : Int)) = true := decide_eq_true (by omega)
    go_enter Tryz.func36, Tryz.ntmps36
    go_wp2
    go_ret2
    exact ⟨rfl, Below.refl _ _⟩
  · rw [if_neg h6]
    have q1 : decide ((6 : Int) < (s.size : Int)) = false := decide_eq_false (by omega)
    have ha := atoi_any s w hs hG
    generalize atoiN s.data.toList = N at ha ⊢
    generalize atoiB s.data.toList = B at ha ⊢
    cases B with
    | true =>
      go_enter Tryz.func36, Tryz.ntmps36
      go_wp2_with fail
      refine ha.mono ?_; rintro e w2 ⟨ev, rfl, h1, _, hb⟩
      obtain rfl := h1 (by simp)
      clear ha h1
      go_wp2
      refine start_ (n := 5) (S := fun _ => True) (ds := []) #[false, false, false, false, false] (by kernel_rfl) rfl rfl trivial (fun hHeld => ?_)
      refine with_tab number.tab4 (fun HT_ => ?_)
      refine pure_ (i := 0) (N := some 14) (v := ?_) (a' := ?_) #[true, false, false, false, false] rfl rfl (any_of HT_.out (by kernel_rfl)) (fun _ _ _ h => h) (Or.inl ⟨by rfl, ?_⟩) ?_ ?_
      rotate_left
      · intro w'
        go_simp
        with_reducible rfl
      rotate_left
      · simp only [Act.put, List.setIfInBounds_toArray, List.set_cons_zero, List.set_cons_succ]
        rfl
      refine pure_ (i := 1) (N := some 15) (v := ?_) (a' := ?_) #[true, true, false, false, false] rfl rfl (any_of HT_.out (by kernel_rfl)) (fun _ _ _ h => h) (Or.inl ⟨by rfl, ?_⟩) ?_ ?_
      rotate_left
      · intro w'
        go_simp
        with_reducible rfl
      rotate_left
      · simp only [Act.put, List.setIfInBounds_toArray, List.set_cons_zero, List.set_cons_succ]
        rfl
      refine pure_ (i := 2) (N := some 16) (v := ?_) (a' := ?_) #[true, true, true, false, false] rfl rfl (any_of HT_.out (by kernel_rfl)) (fun _ _ _ h => h) (Or.inl ⟨by rfl, ?_⟩) ?_ ?_
      rotate_left
      · intro w'
        go_simp
        with_reducible rfl
      rotate_left
      · simp only [Act.put, List.setIfInBounds_toArray, List.set_cons_zero, List.set_cons_succ]
        rfl
      refine pure_ (i := 3) (N := some 2) (v := ?_) (a' := ?_) #[true, true, true, true, false] rfl rfl (any_of HT_.out (by kernel_rfl)) (fun _ _ _ h => h) (Or.inl ⟨by rfl, ?_⟩) ?_ ?_
      rotate_left
      · intro w'
        go_simp
        with_reducible rfl
      rotate_left
      · simp only [Act.put, List.setIfInBounds_toArray, List.set_cons_zero, List.set_cons_succ]
        rfl
      refine pure_ (i := 4) (N := some 3) (v := ?_) (a' := ?_) #[true, true, true, true, true] rfl rfl (any_of HT_.out (by kernel_rfl)) (fun _ _ _ h => h) (Or.inl ⟨by rfl, ?_⟩) ?_ ?_
      rotate_left
      · intro w'
        go_simp
        with_reducible rfl
      rotate_left
      · simp only [Act.put, List.setIfInBounds_toArray, List.set_cons_zero, List.set_cons_succ]
        rfl
      clear hHeld
      refine done_ (done_of HT_.out (by kernel_rfl)) ?_
      go_wp2
      go_ret2
      exact ⟨rfl, hb.drew⟩
    | false =>
      go_enter Tryz.func36, Tryz.ntmps36
      go_wp2_with fail
      refine ha.mono ?_; rintro e w2 ⟨ev, rfl, _, h1, hb⟩
      obtain ⟨te, pe, rfl⟩ := h1 (by simp)
      clear ha h1
      go_wp2
      refine start_ (n := 5) (S := fun _ => True) (ds := []) #[false, false, false, false, false] (by kernel_rfl) rfl rfl trivial (fun hHeld => ?_)
      refine with_tab number.tab4 (fun HT_ => ?_)
      refine pure_ (i := 0) (N := some 14) (v := ?_) (a' := ?_) #[true, false, false, false, false] rfl rfl (any_of HT_.out (by kernel_rfl)) (fun _ _ _ h => h) (Or.inl ⟨by rfl, ?_⟩) ?_ ?_
      rotate_left
      · intro w'
        go_simp
        with_reducible rfl
      rotate_left
      · simp only [Act.put, List.setIfInBounds_toArray, List.set_cons_zero, List.set_cons_succ]
        rfl
      refine pure_ (i := 1) (N := some 15) (v := ?_) (a' := ?_) #[true, true, false, false, false] rfl rfl (any_of HT_.out (by kernel_rfl)) (fun _ _ _ h => h) (Or.inl ⟨by rfl, ?_⟩) ?_ ?_
      rotate_left
      · intro w'
        go_simp
        with_reducible rfl
      rotate_left
      · simp only [Act.put, List.setIfInBounds_toArray, List.set_cons_zero, List.set_cons_succ]
        rfl
      refine pure_ (i := 2) (N := some 16) (v := ?_) (a' := ?_) #[true, true, true, false, false] rfl rfl (any_of HT_.out (by kernel_rfl)) (fun _ _ _ h => h) (Or.inl ⟨by rfl, ?_⟩) ?_ ?_
      rotate_left
      · intro w'
        go_simp
        with_reducible rfl
      rotate_left
      · simp only [Act.put, List.setIfInBounds_toArray, List.set_cons_zero, List.set_cons_succ]
        rfl
      refine pure_ (i := 3) (N := some 2) (v := ?_) (a' := ?_) #[true, true, true, true, false] rfl rfl (any_of HT_.out (by kernel_rfl)) (fun _ _ _ h => h) (Or.inl ⟨by rfl, ?_⟩) ?_ ?_
      rotate_left
      · intro w'
        go_simp
        with_reducible rfl
      rotate_left
      · simp only [Act.put, List.setIfInBounds_toArray, List.set_cons_zero, List.set_cons_succ]
        rfl
      refine pure_ (i := 4) (N := some 3) (v := ?_) (a' := ?_) #[true, true, true, true, true] rfl rfl (any_of HT_.out (by kernel_rfl)) (fun _ _ _ h => h) (Or.inl ⟨by rfl, ?_⟩) ?_ ?_
      rotate_left
      · intro w'
        go_simp
        with_reducible rfl
      rotate_left
      · simp only [Act.put, List.setIfInBounds_toArray, List.set_cons_zero, List.set_cons_succ]
        rfl
      clear hHeld
      refine done_ (done_of HT_.out (by kernel_rfl)) ?_
      go_wp2
      go_ret2
      exact ⟨rfl, hb.drew⟩
theorem u8n (c : Nat) (h : c ≤ 126) : ((UInt8.ofNat c).toNat : Int) = c := by
  have : (UInt8.ofNat c).toNat = c := by simp; omega
  rw [this]
def wdR (c : Nat) : Int := romanV (UInt8.ofNat c)
def wdI (c : Nat) : Int := max 0 (romanV (UInt8.ofNat c) - 20)
def wdB (c : Nat) : Int := romanV (UInt8.ofNat c) + 50
def wdM (_ : Nat) : Int := 600
theorem romanV_range (c : UInt8) : 0 ≤ romanV c ∧ romanV c ≤ 900 := by unfold romanV; repeat' split <;> try omega
theorem wdR_any (c : Nat) (W : World) (_ : 33 ≤ c) (h : c ≤ 126) : Calls Tryz.prog 30 #[.int .u8 (c : Int)] W fun e w' => e = .returned (.int .i64 (wdR c)) ∧ Below W.heap.size W w' := by
  have h := roman_any (UInt8.ofNat c) W
  rw [u8n c (by assumption)] at h
  exact h
set_option maxRecDepth 100000 in
theorem wdI_any (c : Nat) (W : World) (h0 : 33 ≤ c) (h : c ≤ 126) : Calls Tryz.prog 32 #[.int .u8 (c : Int)] W fun e w' => e = .returned (.int .i64 (wdI c)) ∧ Below W.heap.size W w' := by
  have hr := wdR_any c W h0 h
  have hv := romanV_range (UInt8.ofNat c)
  unfold wdI
  unfold wdR at hr
  generalize romanV (UInt8.ofNat c) = v at hr hv ⊢
  go_enter Tryz.func32, Tryz.ntmps32
  have e1 : IntKind.i64.wrap (v - 20) = v - 20 := IntWalk.i64_in _ (by omega)
  go_wp2_with (go_at_call 30; refine hr.mono ?_; rintro e w2 ⟨rfl, hb2⟩)
  go_ret
  exact ⟨by first | rfl | (simp; done) | (simp [Int.max_def]; done), hb2⟩
set_option maxRecDepth 100000 in
theorem wdB_any (c : Nat) (W : World) (h0 : 33 ≤ c) (h : c ≤ 126) : Calls Tryz.prog 33 #[.int .u8 (c : Int)] W fun e w' => e = .returned (.int .i64 (wdB c)) ∧ Below W.heap.size W w' := by
  have hr := wdR_any c W h0 h
  have hv := romanV_range (UInt8.ofNat c)
  unfold wdB
  unfold wdR at hr
  generalize romanV (UInt8.ofNat c) = v at hr hv ⊢
  have e1 : IntKind.i64.wrap (v + 50) = v + 50 := IntWalk.i64_in _ (by omega)
  go_enter Tryz.func33, Tryz.ntmps33
  go_wp2_with (go_at_call 30; refine hr.mono ?_; rintro e w2 ⟨rfl, hb2⟩)
  go_ret
  exact ⟨by first | rfl | (rw [e1]; done), hb2⟩
theorem wdM_any (c : Nat) (W : World) (_ : 33 ≤ c) (_ : c ≤ 126) : Calls Tryz.prog 34 #[.int .u8 (c : Int)] W fun e w' => e = .returned (.int .i64 (wdM c)) ∧ Below W.heap.size W w' := by
  unfold wdM
  go_enter Tryz.func34, Tryz.ntmps34
  go_wp2
  go_ret
  exact ⟨rfl, Below.refl _ _⟩
end Go.Proofs.YtaifemkokfoadaaGreatDoor

namespace Go.Proofs.YtaifemkokfoadaaGreatDoor
open Go.RowKit Go.Shelf Go.Proofs.YtaifemkokfoadaaGreatDoorW.PrintWords Go.Proofs.YtaifemkokfoadaaGreatDoorW.PrintMore Go.Proofs.YtaifemkokfoadaaGreatDoor.PX
/-- Glyphs of the bytes from a on, n of them. -/
def glysAt (wd : Nat → Int) (a n : Nat) : List S31 := (List.range n).map fun i => ⟨chr (a + i), wd (a + i)⟩
def bFi : ByteArray := ⟨#[102, 105]⟩
def bFl : ByteArray := ⟨#[102, 108]⟩
def bFf : ByteArray := ⟨#[102, 102]⟩
/-- The three more glyphs, as they are handed in, and as they lie. -/
def moreOf (x : Int) : List S31 := [⟨bFi, x⟩, ⟨bFl, x⟩, ⟨bFf, x⟩]
def ysOf (wd : Nat → Int) (x : Int) : List S31 := glysAt wd 33 70 ++ ([⟨bFf, x⟩, ⟨bFi, x⟩, ⟨bFl, x⟩] ++ glysAt wd 103 24)
theorem glys_cut (wd : Nat → Int) : glys wd 127 = glysAt wd 33 70 ++ glysAt wd 103 24 := by
  have e0 : List.range (127 - 33) = List.range 70 ++ (List.range 24).map (70 + ·) := List.range_add (n := 70) (m := 24)
  have e1 : ((List.range 24).map (70 + ·)).map (fun i => (⟨chr (33 + i), wd (33 + i)⟩ : S31)) = glysAt wd 103 24 := by
    rw [List.map_map]
    apply List.map_congr_left
    intro i _
    show (⟨chr (33 + (70 + i)), wd (33 + (70 + i))⟩ : S31) = ⟨chr (103 + i), wd (103 + i)⟩
    rw [show 33 + (70 + i) = 103 + i by omega]
  unfold glys
  rw [e0, List.map_append, e1]
  unfold glysAt
  exact rfl
theorem ys_perm (wd : Nat → Int) (x : Int) : (ysOf wd x).Perm (moreOf x ++ glys wd 127) := by
  rw [glys_cut]
  unfold ysOf moreOf
  have h1 : ([⟨bFf, x⟩, ⟨bFi, x⟩, ⟨bFl, x⟩] : List S31).Perm [⟨bFi, x⟩, ⟨bFl, x⟩, ⟨bFf, x⟩] := by
    refine (List.Perm.swap _ _ _).trans ?_
    exact List.Perm.cons _ (List.Perm.swap _ _ _)
  generalize glysAt wd 33 70 = A
  generalize glysAt wd 103 24 = B
  refine (List.Perm.append_left A (List.Perm.append_right B h1)).trans ?_
  rw [← List.append_assoc, ← List.append_assoc]
  exact List.Perm.append_right B List.perm_append_comm
/-- The names alone. -/
def namesOf (n : Nat) : List ByteArray := if n = 0 then (List.range 94).map (fun i => chr (33 + i)) else (List.range 70).map (fun i => chr (33 + i)) ++ ([bFf, bFi, bFl] ++ (List.range 24).map (fun i => chr (103 + i)))
theorem names_asc0 : (namesOf 0).Pairwise fun a b => cmpB a b < 0 := by decide +kernel
theorem names_asc1 : (namesOf 1).Pairwise fun a b => cmpB a b < 0 := by decide +kernel
theorem ys_asc (wd : Nat → Int) (x : Int) : (ysOf wd x).Pairwise fun a b => cmpB a.f0 b.f0 < 0 := by
  have h : ((ysOf wd x).map (·.f0)) = namesOf 1 := by
    simp [ysOf, namesOf, glysAt, List.map_map, Function.comp_def]
  have h2 := names_asc1
  rw [← h, List.pairwise_map] at h2
  exact h2
theorem gl_asc (wd : Nat → Int) : (glys wd 127).Pairwise fun a b => cmpB a.f0 b.f0 < 0 := by
  have h : ((glys wd 127).map (·.f0)) = namesOf 0 := by
    simp [glys, namesOf, List.map_map, Function.comp_def]
  have h2 := names_asc0
  rw [← h, List.pairwise_map] at h2
  exact h2
end Go.Proofs.YtaifemkokfoadaaGreatDoor

namespace Go.Proofs.YtaifemkokfoadaaGreatDoor
open Go.RowKit Go.Shelf Go.Proofs.YtaifemkokfoadaaGreatDoorW.PrintWords Go.Proofs.YtaifemkokfoadaaGreatDoorW.PrintLast Go.Proofs.YtaifemkokfoadaaGreatDoorW.PrintMore Go.Proofs.YtaifemkokfoadaaGreatDoor.PX
set_option linter.unusedSimpArgs false
set_option linter.unusedVariables false
/-- The text of the special font's glyphs. -/
abbrev specS : ByteArray := ⟨(([33, 61, 32, 54, 48, 48, 32, 42, 97, 32, 53, 53, 48, 32, 42, 98, 32, 53, 53, 48, 32, 42, 100, 32, 53, 48, 48, 32, 42, 103, 32, 53, 48, 48, 32, 42, 108, 32, 53, 53, 48, 32, 42, 112, 32, 54, 48, 48, 32, 42, 115, 32, 54, 48, 48, 32, 42, 119, 32, 55, 48].append [48, 32, 45, 62, 32, 49, 48, 48, 48, 32, 60, 45, 32, 49, 48, 48, 48, 32, 60, 61, 32, 54, 48, 48, 32, 62, 61, 32, 54, 48, 48, 32, 98, 114, 32, 49, 48, 32, 98, 117, 32, 52, 54, 48, 32, 99, 111, 32, 56, 48, 48, 32, 100, 103, 32, 53, 48, 48, 32, 100, 105, 32]).append ([54, 48, 48, 32, 101, 109, 32, 49, 48, 48, 48, 32, 101, 110, 32, 53, 48, 48, 32, 101, 113, 32, 54, 48, 48, 32, 104, 121, 32, 51, 53, 48, 32, 105, 102, 32, 55, 48, 48, 32, 105, 115, 32, 52, 48, 48, 32, 109, 105, 32, 54, 48, 48, 32, 109, 117, 32, 54, 48, 48, 32, 112].append [100, 32, 55, 48, 48, 32, 112, 108, 32, 54, 48, 48, 32, 114, 104, 32, 49, 48, 48, 48, 32, 114, 117, 32, 53, 48, 48, 32, 115, 99, 32, 53, 48, 48, 32, 115, 113, 32, 54, 48, 48, 32, 115, 114, 32, 53, 48, 48, 32, 115, 117, 32, 55, 48, 48, 32, 117, 108, 32, 53, 48, 48])).toArray⟩
def symW : List (List UInt8) := Lib.fields specS.data.toList
theorem symW_len : symW.length = 70 := by decide +kernel
theorem symW_small : ∀ x ∈ symW, x.length ≤ 6 := by decide +kernel
theorem specS_ascii : ∀ (j : Nat) (b : UInt8), specS.data.toList[j]? = some b → b.toNat < 128 := by
  have h : ∀ b ∈ specS.data.toList, b.toNat < 128 := by decide +kernel
  intro j b hj
  exact h b (List.mem_of_getElem? hj)
theorem lit_more (x : Int) (W : World) (b : Nat) (ok : Nat → Prop) : Reps (k31.M W b ok) k31.sz (moreOf x) [.string (⟨#[102, 105]⟩ : ByteArray), .int .i64 x, .string (⟨#[102, 108]⟩ : ByteArray), .int .i64 x, .string (⟨#[102, 102]⟩ : ByteArray), .int .i64 x] := by
  have h : ∀ (j : Nat) (p : S31), (moreOf x)[j]? = some p → k31.M W b ok p (([.string (⟨#[102, 105]⟩ : ByteArray), .int .i64 x, .string (⟨#[102, 108]⟩ : ByteArray), .int .i64 x, .string (⟨#[102, 102]⟩ : ByteArray), .int .i64 x].drop (j * 2)).take 2) := by
    intro j p hj
    rcases j with _ | _ | _ | j
    · obtain rfl := Option.some.inj hj
      exact k31_mkM W b ok ⟨bFi, x⟩
    · obtain rfl := Option.some.inj hj
      exact k31_mkM W b ok ⟨bFl, x⟩
    · obtain rfl := Option.some.inj hj
      exact k31_mkM W b ok ⟨bFf, x⟩
    · simp [moreOf] at hj
  exact ⟨rfl, h⟩
/-- The ligatures; the kerns. -/
def ligsV : List S86 := [⟨⟨#[102]⟩, ⟨#[102]⟩, ⟨#[102, 102]⟩⟩, ⟨⟨#[102]⟩, ⟨#[105]⟩, ⟨#[102, 105]⟩⟩, ⟨⟨#[102]⟩, ⟨#[108]⟩, ⟨#[102, 108]⟩⟩]
def kernsV : List S76 := [(⟨(⟨#[65]⟩ : ByteArray), (⟨#[86]⟩ : ByteArray), (-80)⟩ : S76), (⟨(⟨#[65]⟩ : ByteArray), (⟨#[87]⟩ : ByteArray), (-60)⟩ : S76), (⟨(⟨#[84]⟩ : ByteArray), (⟨#[111]⟩ : ByteArray), (-70)⟩ : S76), (⟨(⟨#[86]⟩ : ByteArray), (⟨#[65]⟩ : ByteArray), (-80)⟩ : S76), (⟨(⟨#[89]⟩ : ByteArray), (⟨#[111]⟩ : ByteArray), (-90)⟩ : S76)]
/-- A font's box and its rows, all laid from lo on, ahead of hi. -/
def FB (W : World) (lo hi g : Nat) (x : S26) : Prop :=
  ∃ v3 v4 v5, W.heap[g]? = some (.cells #[.string x.f0, .bool x.f1, .int .i64 x.f2, v3, v4, v5] 26 (0, 0)) ∧ lo ≤ g ∧ g < hi ∧ Kd.R k31 31 W lo (fun k => lo ≤ k ∧ k < hi) v3 x.f3 ∧
    Kd.R k86 86 W lo (fun k => lo ≤ k ∧ k < hi) v4 x.f4 ∧ Kd.R k76 76 W lo (fun k => lo ≤ k ∧ k < hi) v5 x.f5
theorem R_kept {α : Type} {d : Kd α} {e lo hi : Nat} {W W' : World} {v : Value} {xs : List α} (h : d.R e W lo (fun k => lo ≤ k ∧ k < hi) v xs) (hb : Below hi W W') : d.R e W' lo (fun k => lo ≤ k ∧ k < hi) v xs :=
  Kd.R_step h (fun k hk _ => hb.block k hk.2)
theorem R_in {α : Type} {d : Kd α} {e lo : Nat} {W : World} {v : Value} {xs : List α} (h : d.R e W lo (fun _ => True) v xs) : d.R e W lo (fun k => lo ≤ k ∧ k < W.heap.size) v xs :=
  Kd.R_mono (Kd.R_bound h) (fun k hk => ⟨hk.2.1, hk.2.2.1⟩)
theorem FB.keep {W W' : World} {lo hi g : Nat} {x : S26} (h : FB W lo hi g x) (hb : Below hi W W') : FB W' lo hi g x := by
  obtain ⟨v3, v4, v5, h1, h2, h3, h4, h5, h6⟩ := h
  exact ⟨v3, v4, v5, (hb.block g h3).trans h1, h2, h3, R_kept h4 hb, R_kept h5 hb, R_kept h6 hb⟩
theorem FB.mk {W : World} {lo g : Nat} (x : S26) {v3 v4 v5 : Value} (h1 : W.heap[g]? = some (.cells #[.string x.f0, .bool x.f1, .int .i64 x.f2, v3, v4, v5] 26 (0, 0))) (h2 : lo ≤ g) (h3 : Kd.R k31 31 W lo (fun _ => True) v3 x.f3)
    (h4 : Kd.R k86 86 W lo (fun _ => True) v4 x.f4) (h5 : Kd.R k76 76 W lo (fun _ => True) v5 x.f5) : FB W lo W.heap.size g x :=
  ⟨v3, v4, v5, h1, h2, blk_lt h1, R_in h3, R_in h4, R_in h5⟩
def fontR : S26 := ⟨⟨#[82]⟩, false, 250, ysOf wdR 550, ligsV, kernsV⟩
def fontI : S26 := ⟨⟨#[73]⟩, false, 250, glys wdI 127, [], []⟩
def fontB : S26 := ⟨⟨#[66]⟩, false, 250, ysOf wdB 600, ligsV, []⟩
def fontM : S26 := ⟨⟨#[77]⟩, false, 600, glys wdM 127, [], []⟩
theorem lit_kerns (W : World) (b : Nat) (ok : Nat → Prop) : Reps (k76.M W b ok) k76.sz kernsV [.string (⟨#[65]⟩ : ByteArray), .string (⟨#[86]⟩ : ByteArray), .int .i64 (-80), .string (⟨#[65]⟩ : ByteArray), .string (⟨#[87]⟩ : ByteArray), .int .i64 (-60), .string (⟨#[84]⟩ : ByteArray), .string (⟨#[111]⟩ : ByteArray), .int .i64 (-70), .string (⟨#[86]⟩ : ByteArray), .string (⟨#[65]⟩ : ByteArray), .int .i64 (-80), .string (⟨#[89]⟩ : ByteArray), .string (⟨#[111]⟩ : ByteArray), .int .i64 (-90)] := by
  have h : ∀ (j : Nat) (p : S76), kernsV[j]? = some p → k76.M W b ok p ((([.string (⟨#[65]⟩ : ByteArray), .string (⟨#[86]⟩ : ByteArray), .int .i64 (-80), .string (⟨#[65]⟩ : ByteArray), .string (⟨#[87]⟩ : ByteArray), .int .i64 (-60), .string (⟨#[84]⟩ : ByteArray), .string (⟨#[111]⟩ : ByteArray), .int .i64 (-70), .string (⟨#[86]⟩ : ByteArray), .string (⟨#[65]⟩ : ByteArray), .int .i64 (-80), .string (⟨#[89]⟩ : ByteArray), .string (⟨#[111]⟩ : ByteArray), .int .i64 (-90)] : List Value).drop (j * 3)).take 3) := by
    intro j p hj
    rcases j with _ | _ | _ | _ | _ | j
    · obtain rfl := Option.some.inj hj
      exact k76_mkM W b ok (⟨(⟨#[65]⟩ : ByteArray), (⟨#[86]⟩ : ByteArray), (-80)⟩ : S76)
    · obtain rfl := Option.some.inj hj
      exact k76_mkM W b ok (⟨(⟨#[65]⟩ : ByteArray), (⟨#[87]⟩ : ByteArray), (-60)⟩ : S76)
    · obtain rfl := Option.some.inj hj
      exact k76_mkM W b ok (⟨(⟨#[84]⟩ : ByteArray), (⟨#[111]⟩ : ByteArray), (-70)⟩ : S76)
    · obtain rfl := Option.some.inj hj
      exact k76_mkM W b ok (⟨(⟨#[86]⟩ : ByteArray), (⟨#[65]⟩ : ByteArray), (-80)⟩ : S76)
    · obtain rfl := Option.some.inj hj
      exact k76_mkM W b ok (⟨(⟨#[89]⟩ : ByteArray), (⟨#[111]⟩ : ByteArray), (-90)⟩ : S76)
    · simp [kernsV] at hj
  exact ⟨rfl, h⟩
/-- A font's cells, and that they are a font's wherever nothing of it has turned. -/
theorem FB.cells {W : World} {lo hi g : Nat} {x : S26} (h : FB W lo hi g x) : ∃ A3 n3 c3 A4 n4 c4 A5 n5 c5, W.heap[g]? = some (.cells #[.string x.f0, .bool x.f1, .int .i64 x.f2, .slice A3 n3 c3, .slice A4 n4 c4, .slice A5 n5 c5] 26 (0, 0)) ∧
    ∀ (W' : World) (base : Nat) (ok : Nat → Prop), Below W.heap.size W W' → base ≤ lo → (∀ k, lo ≤ k → k < hi → ok k) → k26.M W' base ok x [.string x.f0, .bool x.f1, .int .i64 x.f2, .slice A3 n3 c3, .slice A4 n4 c4, .slice A5 n5 c5] := by
  obtain ⟨v3, v4, v5, h1, h2, h3, h4, h5, h6⟩ := h
  obtain ⟨A3, c3, rfl⟩ := Kd.R_slice h4
  obtain ⟨A4, c4, rfl⟩ := Kd.R_slice h5
  obtain ⟨A5, c5, rfl⟩ := Kd.R_slice h6
  refine ⟨A3, _, c3, A4, _, c4, A5, _, c5, h1, fun W' base ok hb hl hok => ?_⟩
  exact k26_mkM W' base ok x (Kd.R_mono (Kd.R_lower (Kd.R_below h4 hb) hl) (fun k hk => hok k hk.1 hk.2)) (Kd.R_mono (Kd.R_lower (Kd.R_below h5 hb) hl) (fun k hk => hok k hk.1 hk.2)) (Kd.R_mono (Kd.R_lower (Kd.R_below h6 hb) hl) (fun k hk => hok k hk.1 hk.2))
/-- A box laid and filled: its cells. -/
theorem box_filled {W : World} {g : Nat} (h : W.heap[g]? = some (.cells #[.string (⟨#[]⟩ : ByteArray), .bool false, .int .i64 0, .slice none 0 0, .slice none 0 0, .slice none 0 0] 26 (0, 0))) (a : ByteArray) (b : Bool) (c : Int) (v3 v4 v5 : Value) :
    ((((((W.setCell ⟨g, 0, none⟩ (.string a)).setCell ⟨g, 1, none⟩ (.bool b)).setCell ⟨g, 2, none⟩ (.int .i64 c)).setCell ⟨g, 3, none⟩ v3).setCell ⟨g, 4, none⟩ v4).setCell ⟨g, 5, none⟩ v5).heap[g]? = some (.cells #[.string a, .bool b, .int .i64 c, v3, v4, v5] 26 (0, 0)) :=
  blk_put (blk_put (blk_put (blk_put (blk_put (blk_put (cs' := #[.string a, .bool false, .int .i64 0, .slice none 0 0, .slice none 0 0, .slice none 0 0]) h 0 _ rfl) (cs' := #[.string a, .bool b, .int .i64 0, .slice none 0 0, .slice none 0 0, .slice none 0 0]) 1 _ rfl)
    (cs' := #[.string a, .bool b, .int .i64 c, .slice none 0 0, .slice none 0 0, .slice none 0 0]) 2 _ rfl) (cs' := #[.string a, .bool b, .int .i64 c, v3, .slice none 0 0, .slice none 0 0]) 3 _ rfl) (cs' := #[.string a, .bool b, .int .i64 c, v3, v4, .slice none 0 0]) 4 _ rfl) 5 _ rfl
theorem box_below {W0 W : World} {B g : Nat} (h : Below B W0 W) (hg : B ≤ g) (u0 u1 u2 u3 u4 u5 : Value) :
    Below B W0 ((((((W.setCell ⟨g, 0, none⟩ u0).setCell ⟨g, 1, none⟩ u1).setCell ⟨g, 2, none⟩ u2).setCell ⟨g, 3, none⟩ u3).setCell ⟨g, 4, none⟩ u4).setCell ⟨g, 5, none⟩ u5) :=
  (((((h.setCell hg _).setCell hg _).setCell hg _).setCell hg _).setCell hg _).setCell hg _
def wordAt (j : Nat) : ByteArray := ⟨(symW.getD j []).toArray⟩
theorem wordAt_size (j : Nat) : (wordAt j).size ≤ 6 := by
  show ((symW.getD j []).toArray).size ≤ 6
  rw [List.size_toArray, List.getD_eq_getElem?_getD]
  cases h : symW[j]? with
  | none => simp
  | some x => exact symW_small x (List.mem_of_getElem? h)
/-- The first m glyphs of the special font. -/
def symG (m : Nat) : List S31 := (List.range m).map fun i => ⟨wordAt (2 * i), (numV (wordAt (2 * i + 1))).1⟩
theorem symG_succ (m : Nat) : symG (m + 1) = symG m ++ [⟨wordAt (2 * m), (numV (wordAt (2 * m + 1))).1⟩] := by unfold symG; rw [List.range_succ, List.map_append]; rfl
theorem symG_len (m : Nat) : (symG m).length = m := by simp [symG]
def fontS : S26 := ⟨⟨#[83]⟩, true, 250, symG 35, [], []⟩
def wordCells : Array Value := (symW.map fun l => Value.string ⟨l.toArray⟩).toArray
theorem words_at (j : Nat) (h : j < 70) : wordCells[j]? = some (.string (wordAt j)) := by
  have hl : j < symW.length := by rw [symW_len]; exact h
  unfold wordCells wordAt
  simp [List.getD_eq_getElem?_getD, hl]
/-- The standard fonts. -/
def stdV : List S26 := [fontR, fontI, fontB, fontM, fontS]
def std.T14 : Bool × List (List Nat × List Nat) := (true, [([], []), ([0], [0]), ([], []), ([], []), ([2, 3], [2, 3]), ([4], [4]), ([], []), ([5, 6], [5, 6]), ([7], [7]), ([1, 8], [1, 8]), ([0, 1, 2, 3, 4, 5, 6, 7, 8, 9], []), ([10, 9, 9, 0, 1, 2, 3, 4, 5, 6, 7, 8, 9], [9, 10])])
theorem std.tab14 : rtab .any (opsOf Tryz.f13 14) = std.T14 := by kernel_rfl
/-- The loop's relation. -/
def stdJ (W4 : World) (g5 bw : Nat) (x : Value) (wr : World) : Prop :=
  ∃ (m k : Nat) (u : Value), x = .int .i64 (k : Int) ∧ k = 2 * m ∧ m ≤ 35 ∧ Kd.R k31 31 wr W4.heap.size (fun _ => True) u (symG m) ∧ wr.heap[g5]? = some (.cells #[.string (⟨#[83]⟩ : ByteArray), .bool true, .int .i64 250, u, .slice none 0 0, .slice none 0 0] 26 (0, 0)) ∧
    wr.heap[bw]? = some (.cells wordCells 9 (0, 0)) ∧ Below W4.heap.size W4 wr
set_option maxHeartbeats 8000000 in
set_option maxRecDepth 100000 in
theorem std_any (w : World) (hG : GW w) : Calls Tryz.prog 13 #[] w fun e w' => ∃ v : Value, e = .returned v ∧ Kd.S k26 26 w' w.heap.size (fun _ => True) v stdV ∧ Below w.heap.size w w' := by
  have hu26 := Tryz.underlying26
  have HGW := Aside0.mk hG
  clear hG
  have HB0_ := Aside0.mk (Below.refl w.heap.size w)
  generalize hW0 : w = W0_ at HB0_ HGW
  go_enter Tryz.func13, Tryz.ntmps13
  go_wp2_with (first | ((with_reducible refine gate_dst (N := 13) rfl ?_); refine Kd.R_lit k31 W0_.heap.size 31 ?hg (N := 13) ?hd (w0 := W0_) (xs := (moreOf 550)) (inner := [.string (⟨#[102, 105]⟩ : ByteArray), .int .i64 550, .string (⟨#[102, 108]⟩ : ByteArray), .int .i64 550, .string (⟨#[102, 102]⟩ : ByteArray), .int .i64 550]) (ok := fun _ => True) (okp := fun _ => True) ?hr ?hp (fun _ hk => hk) trivial HB0_.out HB0_.out.size (by simp [moreOf]) ?_; (case hd => rfl); (case hg => rfl); (case hr => first | (go_simp; done) | (go_simp; rfl)); (case hp => exact lit_more 550 _ _ _); intro u0 wl hol hbl hgl hatl; have HL_ := Aside0.mk hol; have HBL_ := Aside0.mk hbl; have HAL_ := Aside0.mk hatl; clear hol hbl hgl hatl HB0_))
  refine (made_any 30 _ Tryz.func30 (by kernel_rfl) rfl wdR wdR_any (⟨#[82]⟩ : ByteArray) 250 W0_.heap.size u0 (moreOf 550) (ysOf wdR 550) wl HBL_.out.size HL_.out (by simp [moreOf]) (ys_perm wdR 550) (ys_asc wdR 550)).mono ?_
  rintro e w1 ⟨v1, rfl, hr, hb, -, -⟩
  have HR1 := Aside0.mk hr
  have HB1 := Aside0.mk (HBL_.out.trans hb)
  clear hr hb HL_ HBL_ HAL_
  obtain ⟨A1, c1, e1⟩ := Kd.R_slice HR1.out
  generalize (ysOf wdR 550).length = n1 at e1
  subst e1
  go_wp2_with (first | ((with_reducible refine gate_dst (N := 1) rfl ?_); refine box_event ?hg (N := 1) ?hd (cs := #[.string (⟨#[]⟩ : ByteArray), .bool false, .int .i64 0, .slice none 0 0, .slice none 0 0, .slice none 0 0]) (t := 26) ?hr ?_; (case hd => rfl); (case hg => rfl); (case hr => first | (go_simp; done) | (go_simp; rfl)); intro g1 hgq w2 hbx hbq; have BX_g1 := Aside0.mk hbx; have HQ_g1 := Aside0.mk hbq; have GQ_g1 := Aside0.mk hgq; clear hbx hbq hgq; have hcg10 : w2.cell? ⟨g1, 0, none⟩ = some (.string (⟨#[]⟩ : ByteArray)) := (blk_cell BX_g1.out 0).trans rfl; have hcg11 : w2.cell? ⟨g1, 1, none⟩ = some (.bool false) := (blk_cell BX_g1.out 1).trans rfl; have hcg12 : w2.cell? ⟨g1, 2, none⟩ = some (.int .i64 0) := (blk_cell BX_g1.out 2).trans rfl; have hcg13 : w2.cell? ⟨g1, 3, none⟩ = some (.slice none 0 0) := (blk_cell BX_g1.out 3).trans rfl; have hcg14 : w2.cell? ⟨g1, 4, none⟩ = some (.slice none 0 0) := (blk_cell BX_g1.out 4).trans rfl; have hcg15 : w2.cell? ⟨g1, 5, none⟩ = some (.slice none 0 0) := (blk_cell BX_g1.out 5).trans rfl; have hzg10 := blk_frozen BX_g1.out 0; have hzg11 := blk_frozen BX_g1.out 1; have hzg12 := blk_frozen BX_g1.out 2; have hzg13 := blk_frozen BX_g1.out 3; have hzg14 := blk_frozen BX_g1.out 4; have hzg15 := blk_frozen BX_g1.out 5))
  have n0_ := Aside0.mk (box_filled BX_g1.out (⟨#[82]⟩ : ByteArray) false 250 (.slice A1 n1 c1) (.slice none 0 0) (.slice none 0 0))
  have n2_ := Aside0.mk (box_below (HQ_g1.out) (Nat.le_of_eq GQ_g1.out.symm) (.string (⟨#[82]⟩ : ByteArray)) (.bool false) (.int .i64 250) (.slice A1 n1 c1) (.slice none 0 0) (.slice none 0 0))
  have LG1 := Aside0.mk (Nat.le_trans HB1.out.size (Nat.le_of_eq GQ_g1.out.symm))
  clear hcg10 hcg11 hcg12 hcg13 hcg14 hcg15 hzg10 hzg11 hzg12 hzg13 hzg14 hzg15
  generalize ((((((w2.setCell ⟨g1, 0, none⟩ (.string (⟨#[82]⟩ : ByteArray))).setCell ⟨g1, 1, none⟩ (.bool false)).setCell ⟨g1, 2, none⟩ (.int .i64 250)).setCell ⟨g1, 3, none⟩ (.slice A1 n1 c1)).setCell ⟨g1, 4, none⟩ (.slice none 0 0)).setCell ⟨g1, 5, none⟩ (.slice none 0 0)) = w3 at n0_ n2_ ⊢
  have n1_ := Aside0.mk (Kd.R_below HR1.out n2_.out)
  have n3_ := Aside0.mk (HB1.out.trans (n2_.out.mono HB1.out.size))
  clear HR1 HB1 BX_g1 HQ_g1 GQ_g1 n2_
  have BX1 := n0_
  have HR1 := n1_
  have HB1 := n3_
  clear n0_ n1_ n3_
  refine (font_ligatures.calls ligsV w3 rfl).mono ?_
  rintro e w4 ⟨v4, rfl, hr, hb⟩
  have n0_ := Aside0.mk (blk_below BX1.out hb)
  have n1_ := Aside0.mk (Kd.R_below HR1.out hb)
  have n2_ := Aside0.mk (Kd.R_lower hr HB1.out.size)
  have n3_ := Aside0.mk (HB1.out.trans (hb.mono HB1.out.size))
  clear BX1 HR1 HB1 hr hb
  have BX1 := n0_
  have HR1 := n1_
  have HL1 := n2_
  have HB1 := n3_
  clear n0_ n1_ n2_ n3_
  obtain ⟨A4, c4, e4⟩ := Kd.R_slice HL1.out
  generalize ligsV.length = n4 at e4
  subst e4
  have hq4 : w4.cell? ⟨g1, 4, none⟩ = some (.slice none 0 0) := (blk_cell BX1.out 4).trans rfl
  have hqz4 := blk_frozen BX1.out 4
  go_wp2_with (first | ((with_reducible refine gate_dst (N := 22) rfl ?_); have n0_ := Aside0.mk (blk_put (cs' := #[.string (⟨#[82]⟩ : ByteArray), .bool false, .int .i64 250, .slice A1 n1 c1, .slice A4 n4 c4, .slice none 0 0]) BX1.out 4 (.slice A4 n4 c4) rfl); have n1_ := Aside0.mk (Kd.R_set HR1.out BX1.out (by decide) 4 (.slice A4 n4 c4)); have n2_ := Aside0.mk (Kd.R_set HL1.out BX1.out (by decide) 4 (.slice A4 n4 c4)); have n3_ := Aside0.mk (HB1.out.setCell (p := ⟨g1, 4, none⟩) LG1.out (.slice A4 n4 c4)); clear BX1 HR1 HL1 HB1 hq4 hqz4; have BX1 := n0_; have HR1 := n1_; have HL1 := n2_; have HB1 := n3_; clear n0_ n1_ n2_ n3_; generalize w4.setCell ⟨g1, 4, none⟩ (.slice A4 n4 c4) = w5 at BX1 HR1 HL1 HB1 ⊢; refine Kd.R_lit k76 W0_.heap.size 76 ?hg (N := 22) ?hd (w0 := W0_) (xs := kernsV) (inner := [.string (⟨#[65]⟩ : ByteArray), .string (⟨#[86]⟩ : ByteArray), .int .i64 (-80), .string (⟨#[65]⟩ : ByteArray), .string (⟨#[87]⟩ : ByteArray), .int .i64 (-60), .string (⟨#[84]⟩ : ByteArray), .string (⟨#[111]⟩ : ByteArray), .int .i64 (-70), .string (⟨#[86]⟩ : ByteArray), .string (⟨#[65]⟩ : ByteArray), .int .i64 (-80), .string (⟨#[89]⟩ : ByteArray), .string (⟨#[111]⟩ : ByteArray), .int .i64 (-90)]) (ok := fun _ => True) (okp := fun _ => True) ?hr ?hp (fun _ hk => hk) trivial HB1.out HB1.out.size (by simp [kernsV]) ?_; (case hd => rfl); (case hg => rfl); (case hr => first | (go_simp; done) | (go_simp; rfl)); (case hp => exact lit_kerns _ _ _); intro v5 wk hol hbl hgl hatl; obtain ⟨A5, c5, e5⟩ := Kd.R_slice hol; generalize kernsV.length = n5 at e5; subst e5; have n0_ := Aside0.mk (blk_grown BX1.out hgl (by simp)); have n1_ := Aside0.mk (Kd.R_grown HR1.out hgl (fun _ _ => by simp)); have n2_ := Aside0.mk (Kd.R_grown HL1.out hgl (fun _ _ => by simp)); have n3_ := Aside0.mk hol; have n4_ := Aside0.mk hbl; clear BX1 HR1 HL1 HB1 hol hbl hgl hatl; have BX1 := n0_; have HR1 := n1_; have HL1 := n2_; have HK1 := n3_; have HB1 := n4_; clear n0_ n1_ n2_ n3_ n4_; have hq5 : wk.cell? ⟨g1, 5, none⟩ = some (.slice none 0 0) := (blk_cell BX1.out 5).trans rfl; have hqz5 := blk_frozen BX1.out 5))
  have n0_ := Aside0.mk (blk_put (cs' := #[.string (⟨#[82]⟩ : ByteArray), .bool false, .int .i64 250, .slice A1 n1 c1, .slice A4 n4 c4, .slice A5 n5 c5]) BX1.out 5 (.slice A5 n5 c5) rfl)
  have n1_ := Aside0.mk (Kd.R_set HR1.out BX1.out (by decide) 5 (.slice A5 n5 c5))
  have n2_ := Aside0.mk (Kd.R_set HL1.out BX1.out (by decide) 5 (.slice A5 n5 c5))
  have n3_ := Aside0.mk (Kd.R_set HK1.out BX1.out (by decide) 5 (.slice A5 n5 c5))
  have n4_ := Aside0.mk (HB1.out.setCell (p := ⟨g1, 5, none⟩) LG1.out (.slice A5 n5 c5))
  clear BX1 HR1 HL1 HK1 HB1 hq5 hqz5
  generalize wk.setCell ⟨g1, 5, none⟩ (.slice A5 n5 c5) = W1_ at n0_ n1_ n2_ n3_ n4_ ⊢
  have FB1 := Aside0.mk (FB.mk fontR n0_.out LG1.out n1_.out n2_.out n3_.out)
  have BW0 := Aside0.mk n4_.out
  clear n0_ n1_ n2_ n3_ n4_ LG1
  refine (made_any 32 _ Tryz.func32 (by kernel_rfl) rfl wdI wdI_any (⟨#[73]⟩ : ByteArray) 250 W1_.heap.size (.slice none 0 0) [] (glys wdI 127) W1_ (Nat.le_refl _) (Kd.R_nil _ _ _ _ _) (by simp [moreOf]) (by rw [List.nil_append]) (gl_asc wdI)).mono ?_
  rintro e w6 ⟨v6, rfl, hr, hb, -, -⟩
  have HR2 := Aside0.mk hr
  have HB2 := Aside0.mk hb
  clear hr hb
  obtain ⟨A6, c6, e6⟩ := Kd.R_slice HR2.out
  generalize (glys wdI 127).length = n6 at e6
  subst e6
  go_wp2_with (first | ((with_reducible refine gate_dst (N := 2) rfl ?_); refine box_event ?hg (N := 2) ?hd (cs := #[.string (⟨#[]⟩ : ByteArray), .bool false, .int .i64 0, .slice none 0 0, .slice none 0 0, .slice none 0 0]) (t := 26) ?hr ?_; (case hd => rfl); (case hg => rfl); (case hr => first | (go_simp; done) | (go_simp; rfl)); intro g2 hgq w7 hbx hbq; have BX_g2 := Aside0.mk hbx; have HQ_g2 := Aside0.mk hbq; have GQ_g2 := Aside0.mk hgq; clear hbx hbq hgq; have hcg20 : w7.cell? ⟨g2, 0, none⟩ = some (.string (⟨#[]⟩ : ByteArray)) := (blk_cell BX_g2.out 0).trans rfl; have hcg21 : w7.cell? ⟨g2, 1, none⟩ = some (.bool false) := (blk_cell BX_g2.out 1).trans rfl; have hcg22 : w7.cell? ⟨g2, 2, none⟩ = some (.int .i64 0) := (blk_cell BX_g2.out 2).trans rfl; have hcg23 : w7.cell? ⟨g2, 3, none⟩ = some (.slice none 0 0) := (blk_cell BX_g2.out 3).trans rfl; have hcg24 : w7.cell? ⟨g2, 4, none⟩ = some (.slice none 0 0) := (blk_cell BX_g2.out 4).trans rfl; have hcg25 : w7.cell? ⟨g2, 5, none⟩ = some (.slice none 0 0) := (blk_cell BX_g2.out 5).trans rfl; have hzg20 := blk_frozen BX_g2.out 0; have hzg21 := blk_frozen BX_g2.out 1; have hzg22 := blk_frozen BX_g2.out 2; have hzg23 := blk_frozen BX_g2.out 3; have hzg24 := blk_frozen BX_g2.out 4; have hzg25 := blk_frozen BX_g2.out 5) | ((with_reducible refine gate_dst (N := 28) rfl ?_); have n0_ := Aside0.mk (box_filled BX_g2.out (⟨#[73]⟩ : ByteArray) false 250 (.slice A6 n6 c6) (.slice none 0 0) (.slice none 0 0)); have n2_ := Aside0.mk (box_below (HQ_g2.out) (Nat.le_of_eq GQ_g2.out.symm) (.string (⟨#[73]⟩ : ByteArray)) (.bool false) (.int .i64 250) (.slice A6 n6 c6) (.slice none 0 0) (.slice none 0 0)); have LG2 := Aside0.mk (Nat.le_trans HB2.out.size (Nat.le_of_eq GQ_g2.out.symm)); clear hcg20 hcg21 hcg22 hcg23 hcg24 hcg25 hzg20 hzg21 hzg22 hzg23 hzg24 hzg25; generalize ((((((w7.setCell ⟨g2, 0, none⟩ (.string (⟨#[73]⟩ : ByteArray))).setCell ⟨g2, 1, none⟩ (.bool false)).setCell ⟨g2, 2, none⟩ (.int .i64 250)).setCell ⟨g2, 3, none⟩ (.slice A6 n6 c6)).setCell ⟨g2, 4, none⟩ (.slice none 0 0)).setCell ⟨g2, 5, none⟩ (.slice none 0 0)) = W2_ at n0_ n2_ ⊢; have FB2 := Aside0.mk (FB.mk fontI n0_.out LG2.out (Kd.R_below HR2.out n2_.out) (Kd.R_nil _ _ _ _ _) (Kd.R_nil _ _ _ _ _)); have BW1 := Aside0.mk (HB2.out.trans (n2_.out.mono HB2.out.size)); clear HR2 HB2 BX_g2 HQ_g2 GQ_g2 LG2 n0_ n2_; refine Kd.R_lit k31 W2_.heap.size 31 ?hg (N := 28) ?hd (w0 := W2_) (xs := (moreOf 600)) (inner := [.string (⟨#[102, 105]⟩ : ByteArray), .int .i64 600, .string (⟨#[102, 108]⟩ : ByteArray), .int .i64 600, .string (⟨#[102, 102]⟩ : ByteArray), .int .i64 600]) (ok := fun _ => True) (okp := fun _ => True) ?hr ?hp (fun _ hk => hk) trivial (Below.refl _ _) (Nat.le_refl _) (by simp [moreOf]) ?_; (case hd => rfl); (case hg => rfl); (case hr => first | (go_simp; done) | (go_simp; rfl)); (case hp => exact lit_more 600 _ _ _); intro u0 wl hol hbl hgl hatl; have HL_ := Aside0.mk hol; have HBL_ := Aside0.mk hbl; have HAL_ := Aside0.mk hatl; clear hol hbl hgl hatl))
  refine (made_any 33 _ Tryz.func33 (by kernel_rfl) rfl wdB wdB_any (⟨#[66]⟩ : ByteArray) 250 W2_.heap.size u0 (moreOf 600) (ysOf wdB 600) wl HBL_.out.size HL_.out (by simp [moreOf]) (ys_perm wdB 600) (ys_asc wdB 600)).mono ?_
  rintro e w9 ⟨v9, rfl, hr, hb, -, -⟩
  have HR3 := Aside0.mk hr
  have HB3 := Aside0.mk (HBL_.out.trans hb)
  clear hr hb HL_ HBL_ HAL_
  obtain ⟨A9, c9, e9⟩ := Kd.R_slice HR3.out
  generalize (ysOf wdB 600).length = n9 at e9
  subst e9
  go_wp2_with (first | ((with_reducible refine gate_dst (N := 3) rfl ?_); refine box_event ?hg (N := 3) ?hd (cs := #[.string (⟨#[]⟩ : ByteArray), .bool false, .int .i64 0, .slice none 0 0, .slice none 0 0, .slice none 0 0]) (t := 26) ?hr ?_; (case hd => rfl); (case hg => rfl); (case hr => first | (go_simp; done) | (go_simp; rfl)); intro g3 hgq w10 hbx hbq; have BX_g3 := Aside0.mk hbx; have HQ_g3 := Aside0.mk hbq; have GQ_g3 := Aside0.mk hgq; clear hbx hbq hgq; have hcg30 : w10.cell? ⟨g3, 0, none⟩ = some (.string (⟨#[]⟩ : ByteArray)) := (blk_cell BX_g3.out 0).trans rfl; have hcg31 : w10.cell? ⟨g3, 1, none⟩ = some (.bool false) := (blk_cell BX_g3.out 1).trans rfl; have hcg32 : w10.cell? ⟨g3, 2, none⟩ = some (.int .i64 0) := (blk_cell BX_g3.out 2).trans rfl; have hcg33 : w10.cell? ⟨g3, 3, none⟩ = some (.slice none 0 0) := (blk_cell BX_g3.out 3).trans rfl; have hcg34 : w10.cell? ⟨g3, 4, none⟩ = some (.slice none 0 0) := (blk_cell BX_g3.out 4).trans rfl; have hcg35 : w10.cell? ⟨g3, 5, none⟩ = some (.slice none 0 0) := (blk_cell BX_g3.out 5).trans rfl; have hzg30 := blk_frozen BX_g3.out 0; have hzg31 := blk_frozen BX_g3.out 1; have hzg32 := blk_frozen BX_g3.out 2; have hzg33 := blk_frozen BX_g3.out 3; have hzg34 := blk_frozen BX_g3.out 4; have hzg35 := blk_frozen BX_g3.out 5))
  have n0_ := Aside0.mk (box_filled BX_g3.out (⟨#[66]⟩ : ByteArray) false 250 (.slice A9 n9 c9) (.slice none 0 0) (.slice none 0 0))
  have n2_ := Aside0.mk (box_below (HQ_g3.out) (Nat.le_of_eq GQ_g3.out.symm) (.string (⟨#[66]⟩ : ByteArray)) (.bool false) (.int .i64 250) (.slice A9 n9 c9) (.slice none 0 0) (.slice none 0 0))
  have LG3 := Aside0.mk (Nat.le_trans HB3.out.size (Nat.le_of_eq GQ_g3.out.symm))
  clear hcg30 hcg31 hcg32 hcg33 hcg34 hcg35 hzg30 hzg31 hzg32 hzg33 hzg34 hzg35
  generalize ((((((w10.setCell ⟨g3, 0, none⟩ (.string (⟨#[66]⟩ : ByteArray))).setCell ⟨g3, 1, none⟩ (.bool false)).setCell ⟨g3, 2, none⟩ (.int .i64 250)).setCell ⟨g3, 3, none⟩ (.slice A9 n9 c9)).setCell ⟨g3, 4, none⟩ (.slice none 0 0)).setCell ⟨g3, 5, none⟩ (.slice none 0 0)) = w11 at n0_ n2_ ⊢
  have n1_ := Aside0.mk (Kd.R_below HR3.out n2_.out)
  have n3_ := Aside0.mk (HB3.out.trans (n2_.out.mono HB3.out.size))
  clear HR3 HB3 BX_g3 HQ_g3 GQ_g3 n2_
  have BX3 := n0_
  have HR3 := n1_
  have HB3 := n3_
  clear n0_ n1_ n3_
  refine (font_ligatures.calls ligsV w11 rfl).mono ?_
  rintro e w12 ⟨v12, rfl, hr, hb⟩
  have n0_ := Aside0.mk (blk_below BX3.out hb)
  have n1_ := Aside0.mk (Kd.R_below HR3.out hb)
  have n2_ := Aside0.mk (Kd.R_lower hr HB3.out.size)
  have n3_ := Aside0.mk (HB3.out.trans (hb.mono HB3.out.size))
  clear BX3 HR3 HB3 hr hb
  have BX3 := n0_
  have HR3 := n1_
  have HL3 := n2_
  have HB3 := n3_
  clear n0_ n1_ n2_ n3_
  obtain ⟨A12, c12, e12⟩ := Kd.R_slice HL3.out
  generalize ligsV.length = n12 at e12
  subst e12
  have hq4 : w12.cell? ⟨g3, 4, none⟩ = some (.slice none 0 0) := (blk_cell BX3.out 4).trans rfl
  have hqz4 := blk_frozen BX3.out 4
  go_wp2_with fail
  have n0_ := Aside0.mk (blk_put (cs' := #[.string (⟨#[66]⟩ : ByteArray), .bool false, .int .i64 250, .slice A9 n9 c9, .slice A12 n12 c12, .slice none 0 0]) BX3.out 4 (.slice A12 n12 c12) rfl)
  have n1_ := Aside0.mk (Kd.R_set HR3.out BX3.out (by decide) 4 (.slice A12 n12 c12))
  have n2_ := Aside0.mk (Kd.R_set HL3.out BX3.out (by decide) 4 (.slice A12 n12 c12))
  have n3_ := Aside0.mk (HB3.out.setCell (p := ⟨g3, 4, none⟩) LG3.out (.slice A12 n12 c12))
  clear BX3 HR3 HL3 HB3 hq4 hqz4
  generalize w12.setCell ⟨g3, 4, none⟩ (.slice A12 n12 c12) = W3_ at n0_ n1_ n2_ n3_ ⊢
  have FB3 := Aside0.mk (FB.mk fontB n0_.out LG3.out n1_.out n2_.out (Kd.R_nil _ _ _ _ _))
  have BW2 := Aside0.mk n3_.out
  clear n0_ n1_ n2_ n3_ LG3
  refine (made_any 34 _ Tryz.func34 (by kernel_rfl) rfl wdM wdM_any (⟨#[77]⟩ : ByteArray) 600 W3_.heap.size (.slice none 0 0) [] (glys wdM 127) W3_ (Nat.le_refl _) (Kd.R_nil _ _ _ _ _) (by simp [moreOf]) (by rw [List.nil_append]) (gl_asc wdM)).mono ?_
  rintro e w13 ⟨v13, rfl, hr, hb, -, -⟩
  have HR4 := Aside0.mk hr
  have HB4 := Aside0.mk hb
  clear hr hb
  obtain ⟨A13, c13, e13⟩ := Kd.R_slice HR4.out
  generalize (glys wdM 127).length = n13 at e13
  subst e13
  go_wp2_with (first | ((with_reducible refine gate_dst (N := 4) rfl ?_); refine box_event ?hg (N := 4) ?hd (cs := #[.string (⟨#[]⟩ : ByteArray), .bool false, .int .i64 0, .slice none 0 0, .slice none 0 0, .slice none 0 0]) (t := 26) ?hr ?_; (case hd => rfl); (case hg => rfl); (case hr => first | (go_simp; done) | (go_simp; rfl)); intro g4 hgq w14 hbx hbq; have BX_g4 := Aside0.mk hbx; have HQ_g4 := Aside0.mk hbq; have GQ_g4 := Aside0.mk hgq; clear hbx hbq hgq; have hcg40 : w14.cell? ⟨g4, 0, none⟩ = some (.string (⟨#[]⟩ : ByteArray)) := (blk_cell BX_g4.out 0).trans rfl; have hcg41 : w14.cell? ⟨g4, 1, none⟩ = some (.bool false) := (blk_cell BX_g4.out 1).trans rfl; have hcg42 : w14.cell? ⟨g4, 2, none⟩ = some (.int .i64 0) := (blk_cell BX_g4.out 2).trans rfl; have hcg43 : w14.cell? ⟨g4, 3, none⟩ = some (.slice none 0 0) := (blk_cell BX_g4.out 3).trans rfl; have hcg44 : w14.cell? ⟨g4, 4, none⟩ = some (.slice none 0 0) := (blk_cell BX_g4.out 4).trans rfl; have hcg45 : w14.cell? ⟨g4, 5, none⟩ = some (.slice none 0 0) := (blk_cell BX_g4.out 5).trans rfl; have hzg40 := blk_frozen BX_g4.out 0; have hzg41 := blk_frozen BX_g4.out 1; have hzg42 := blk_frozen BX_g4.out 2; have hzg43 := blk_frozen BX_g4.out 3; have hzg44 := blk_frozen BX_g4.out 4; have hzg45 := blk_frozen BX_g4.out 5) | ((with_reducible refine gate_dst (N := 5) rfl ?_); have n0_ := Aside0.mk (box_filled BX_g4.out (⟨#[77]⟩ : ByteArray) false 600 (.slice A13 n13 c13) (.slice none 0 0) (.slice none 0 0)); have n2_ := Aside0.mk (box_below (HQ_g4.out) (Nat.le_of_eq GQ_g4.out.symm) (.string (⟨#[77]⟩ : ByteArray)) (.bool false) (.int .i64 600) (.slice A13 n13 c13) (.slice none 0 0) (.slice none 0 0)); have LG4 := Aside0.mk (Nat.le_trans HB4.out.size (Nat.le_of_eq GQ_g4.out.symm)); clear hcg40 hcg41 hcg42 hcg43 hcg44 hcg45 hzg40 hzg41 hzg42 hzg43 hzg44 hzg45; generalize ((((((w14.setCell ⟨g4, 0, none⟩ (.string (⟨#[77]⟩ : ByteArray))).setCell ⟨g4, 1, none⟩ (.bool false)).setCell ⟨g4, 2, none⟩ (.int .i64 600)).setCell ⟨g4, 3, none⟩ (.slice A13 n13 c13)).setCell ⟨g4, 4, none⟩ (.slice none 0 0)).setCell ⟨g4, 5, none⟩ (.slice none 0 0)) = W4_ at n0_ n2_ ⊢; have FB4 := Aside0.mk (FB.mk fontM n0_.out LG4.out (Kd.R_below HR4.out n2_.out) (Kd.R_nil _ _ _ _ _) (Kd.R_nil _ _ _ _ _)); have BW3 := Aside0.mk (HB4.out.trans (n2_.out.mono HB4.out.size)); clear HR4 HB4 BX_g4 HQ_g4 GQ_g4 LG4 n0_ n2_; refine box_event ?hg (N := 5) ?hd (cs := #[.string (⟨#[]⟩ : ByteArray), .bool false, .int .i64 0, .slice none 0 0, .slice none 0 0, .slice none 0 0]) (t := 26) ?hr ?_; (case hd => rfl); (case hg => rfl); (case hr => first | (go_simp; done) | (go_simp; rfl)); intro g5 hgq w15 hbx hbq; have BX_g5 := Aside0.mk hbx; have HQ_g5 := Aside0.mk hbq; have GQ_g5 := Aside0.mk hgq; clear hbx hbq hgq; have hcg50 : w15.cell? ⟨g5, 0, none⟩ = some (.string (⟨#[]⟩ : ByteArray)) := (blk_cell BX_g5.out 0).trans rfl; have hcg51 : w15.cell? ⟨g5, 1, none⟩ = some (.bool false) := (blk_cell BX_g5.out 1).trans rfl; have hcg52 : w15.cell? ⟨g5, 2, none⟩ = some (.int .i64 0) := (blk_cell BX_g5.out 2).trans rfl; have hcg53 : w15.cell? ⟨g5, 3, none⟩ = some (.slice none 0 0) := (blk_cell BX_g5.out 3).trans rfl; have hcg54 : w15.cell? ⟨g5, 4, none⟩ = some (.slice none 0 0) := (blk_cell BX_g5.out 4).trans rfl; have hcg55 : w15.cell? ⟨g5, 5, none⟩ = some (.slice none 0 0) := (blk_cell BX_g5.out 5).trans rfl; have hzg50 := blk_frozen BX_g5.out 0; have hzg51 := blk_frozen BX_g5.out 1; have hzg52 := blk_frozen BX_g5.out 2; have hzg53 := blk_frozen BX_g5.out 3; have hzg54 := blk_frozen BX_g5.out 4; have hzg55 := blk_frozen BX_g5.out 5))
  have n0_ := Aside0.mk (box_filled BX_g5.out (⟨#[83]⟩ : ByteArray) true 250 (.slice none 0 0) (.slice none 0 0) (.slice none 0 0))
  have n2_ := Aside0.mk (box_below (HQ_g5.out) (Nat.le_of_eq GQ_g5.out.symm) (.string (⟨#[83]⟩ : ByteArray)) (.bool true) (.int .i64 250) (.slice none 0 0) (.slice none 0 0) (.slice none 0 0))
  have LG5 := Aside0.mk (Nat.le_of_eq GQ_g5.out.symm)
  clear hcg50 hcg51 hcg52 hcg53 hcg54 hcg55 hzg50 hzg51 hzg52 hzg53 hzg54 hzg55
  generalize ((((((w15.setCell ⟨g5, 0, none⟩ (.string (⟨#[83]⟩ : ByteArray))).setCell ⟨g5, 1, none⟩ (.bool true)).setCell ⟨g5, 2, none⟩ (.int .i64 250)).setCell ⟨g5, 3, none⟩ (.slice none 0 0)).setCell ⟨g5, 4, none⟩ (.slice none 0 0)).setCell ⟨g5, 5, none⟩ (.slice none 0 0)) = w16 at n0_ n2_ ⊢
  clear BX_g5 HQ_g5 GQ_g5
  have BX5 := n0_
  have HB5 := n2_
  clear n0_ n2_
  have GWS := Aside0.mk (HGW.out.under (BW0.out.trans ((BW1.out.mono BW0.out.size).trans ((BW2.out.mono (Nat.le_trans BW0.out.size BW1.out.size)).trans (BW3.out.mono (Nat.le_trans BW0.out.size (Nat.le_trans BW1.out.size BW2.out.size)))))))
  refine (Tryz.strings_Fields specS w16 (by decide +kernel) specS_ascii (GWS.out.under HB5.out).spc).mono ?_
  rintro e w17 ⟨rfl, hw17⟩
  have hlen : (Lib.fields specS.data.toList).length = 70 := symW_len
  rw [hlen]
  clear hlen
  have hcw : ((Lib.fields specS.data.toList).map fun l => Value.string ⟨l.toArray⟩).toArray = wordCells := rfl
  rw [hcw] at hw17
  have BKW := Aside0.mk (show w17.heap[w16.heap.size]? = some (.cells wordCells 9 (0, 0)) by rw [hw17]; exact blk_new _ _)
  have n0_ := blk_alloc BX5.out (.cells wordCells 9)
  rw [← hw17] at n0_
  have n1_ := Aside0.mk (show Below W4_.heap.size W4_ w17 by rw [hw17]; exact HB5.out.alloc HB5.out.size _)
  clear BX5 HB5 hw17 hcw
  have BX5 := Aside0.mk n0_
  have HB5 := n1_
  clear n0_ n1_
  generalize w16.heap.size = bw at BKW ⊢
  go_wp2
  go_loopw [7, 8, 9] (fun x y z wr => stdJ W4_ g5 bw x wr) (fun x y z _ => 70 - (intOf x).toNat)
  case atStart => exact ⟨0, 0, _, rfl, rfl, by omega, Kd.R_nil _ _ _ _ _, BX5.out, BKW.out, HB5.out⟩
  case round =>
    obtain ⟨m, k, u, rfl, hk0, hm, HR0, BX0, BK0, HB0⟩ := hrel
    have HKK := Aside0.mk hk0
    have hkm : k ≤ 2 * m := by omega
    have hmk : 2 * m ≤ k := by omega
    clear hk0
    have HRc := Aside0.mk HR0
    have BX := Aside0.mk BX0
    have BK := Aside0.mk BK0
    have HBc := Aside0.mk HB0
    clear HR0 BX0 BK0 HB0 BX5 BKW HB5
    by_cases hlt : m < 35
    · have q1 : decide ((k : Int) < 70) = true := decide_eq_true (by omega)
      have q2 : IntKind.i64.wrap ((k : Int) + 1) = (k : Int) + 1 := IntWalk.i64_in _ (by omega)
      have hcell : wr.cell? ⟨bw, k + 1, none⟩ = some (.string (wordAt (k + 1))) := (blk_cell BK.out _).trans (words_at _ (by omega))
      go_wp2_with fail
      have hnum := number_any (wordAt (k + 1)) wr (by have := wordAt_size (k + 1); omega) (GWS.out.under HBc.out)
      refine hnum.mono ?_
      rintro e w18 ⟨rfl, hb⟩
      clear hnum hcell q2
      have n0_ := Aside0.mk (Kd.R_drew (Kd.R_below HRc.out hb))
      have n1_ := Aside0.mk (blk_drew (blk_below BX.out hb))
      have n2_ := Aside0.mk (blk_drew (blk_below BK.out hb))
      have n3_ := Aside0.mk ((HBc.out.trans (hb.mono HBc.out.size)).drew)
      clear HRc BX BK HBc hb
      have HRc := n0_
      have BX := n1_
      have BK := n2_
      have HBc := n3_
      clear n0_ n1_ n2_ n3_
      have hm70 : k < 70 := by omega
      have q5 : ((k : Int) < 70) = True := eq_true (by omega)
      go_wp2
      refine start_ (n := 12) (S := fun w' => w'.cell? ⟨g5, 3, none⟩ = some u ∧ w'.cell? ⟨bw, k, none⟩ = some (.string (wordAt k))) (ds := [11]) #[false, false, false, false, false, false, false, false, false, false, false, false] (by kernel_rfl) rfl rfl ⟨(blk_cell BX.out 3).trans rfl, (blk_cell BK.out _).trans (words_at _ hm70)⟩ (fun hHeld => ?_)
      refine with_tab std.tab14 (fun HT_ => ?_)
      generalize w18.drew = w16 at HRc BX BK HBc hHeld ⊢
      refine pure_ (i := 0) (N := some 50) (v := ?_) (a' := ?_) #[true, false, false, false, false, false, false, false, false, false, false, false] rfl rfl (any_of HT_.out (by kernel_rfl)) (fun _ _ _ h => h) (Or.inl ⟨by rfl, ?_⟩) ?_ ?_
      rotate_left
      · intro w'
        go_simp
        with_reducible rfl
      rotate_left
      · simp only [Act.put, List.setIfInBounds_toArray, List.set_cons_zero, List.set_cons_succ]
        rfl
      refine pure_ (i := 2) (N := some 52) (v := ?_) (a' := ?_) #[true, false, true, false, false, false, false, false, false, false, false, false] rfl rfl (any_of HT_.out (by kernel_rfl)) (fun _ _ _ h => h) (Or.inl ⟨by rfl, ?_⟩) ?_ ?_
      rotate_left
      · intro w'
        go_simp
        with_reducible rfl
      rotate_left
      · simp only [Act.put, List.setIfInBounds_toArray, List.set_cons_zero, List.set_cons_succ]
        rfl
      refine pure_ (i := 3) (N := some 53) (v := ?_) (a' := ?_) #[true, false, true, true, false, false, false, false, false, false, false, false] rfl rfl (any_of HT_.out (by kernel_rfl)) (fun _ _ _ h => h) (Or.inl ⟨by rfl, ?_⟩) ?_ ?_
      rotate_left
      · intro w'
        go_simp
        with_reducible rfl
      rotate_left
      · simp only [Act.put, List.setIfInBounds_toArray, List.set_cons_zero, List.set_cons_succ]
        rfl
      refine pure_ (i := 4) (N := some 54) (v := ?_) (a' := ?_) #[true, false, true, true, true, false, false, false, false, false, false, false] rfl rfl (any_of HT_.out (by kernel_rfl)) (fun _ _ _ h => h) (Or.inl ⟨by rfl, ?_⟩) ?_ ?_
      rotate_left
      · intro w'
        go_simp
        with_reducible rfl
      rotate_left
      · simp only [Act.put, List.setIfInBounds_toArray, List.set_cons_zero, List.set_cons_succ]
        rfl
      refine pure_ (i := 6) (N := some 56) (v := ?_) (a' := ?_) #[true, false, true, true, true, false, true, false, false, false, false, false] rfl rfl (any_of HT_.out (by kernel_rfl)) (fun _ _ _ h => h) (Or.inl ⟨by rfl, ?_⟩) ?_ ?_
      rotate_left
      · intro w'
        go_simp
        with_reducible rfl
      rotate_left
      · simp only [Act.put, List.setIfInBounds_toArray, List.set_cons_zero, List.set_cons_succ]
        rfl
      refine take_ (i := 1) (N := some 51) (v := ?_) (a' := ?_) #[true, true, true, true, true, false, true, false, false, false, false, false] rfl rfl (take_of HT_.out (by kernel_rfl)) (fun _ _ _ h => h) (Or.inl ⟨by rfl, ?_⟩) hHeld ?_ ?_
      rotate_left
      · rintro w' ⟨s0, s1⟩
        go_simp
        with_reducible rfl
      rotate_left
      · simp only [Act.put, List.setIfInBounds_toArray, List.set_cons_zero, List.set_cons_succ]
        rfl
      refine take_ (i := 5) (N := some 55) (v := ?_) (a' := ?_) #[true, true, true, true, true, true, true, false, false, false, false, false] rfl rfl (take_of HT_.out (by kernel_rfl)) (fun _ _ _ h => h) (Or.inl ⟨by rfl, ?_⟩) hHeld ?_ ?_
      rotate_left
      · rintro w' ⟨s0, s1⟩
        go_simp
        with_reducible rfl
      rotate_left
      · simp only [Act.put, List.setIfInBounds_toArray, List.set_cons_zero, List.set_cons_succ]
        rfl
      refine pure_ (i := 7) (N := some 57) (v := ?_) (a' := ?_) #[true, true, true, true, true, true, true, true, false, false, false, false] rfl rfl (any_of HT_.out (by kernel_rfl)) (fun _ _ _ h => h) (Or.inl ⟨by rfl, ?_⟩) ?_ ?_
      rotate_left
      · intro w'
        go_simp
        with_reducible rfl
      rotate_left
      · simp only [Act.put, List.setIfInBounds_toArray, List.set_cons_zero, List.set_cons_succ]
        rfl
      refine one_ (i := 8) (N := some 58) #[true, true, true, true, true, true, true, true, true, false, false, false] rfl rfl (one_of HT_.out (by kernel_rfl)) (by decide) (fun K hK => ?_)
      refine value_ (w1 := ?_) (v := ?_) (by rfl) rfl ?_ ?_
      rotate_left 2
      · go_simp
        constructor
        · rfl
        · rfl
      refine hK.out _ _ ⟨(blk_cell (blk_alloc BX.out _) 3).trans rfl, (blk_cell (blk_alloc BK.out _) _).trans (words_at _ hm70)⟩ (fun hHeld => ?_)
      clear hK K
      refine norm_ (a' := ?_) ?_ ?_
      rotate_left
      · show Act.put _ (some 58) _ = _
        simp only [Act.put, List.setIfInBounds_toArray, List.set_cons_zero, List.set_cons_succ]
        rfl
      refine one_ (i := 9) (N := some 59) #[true, true, true, true, true, true, true, true, true, true, false, false] rfl rfl (one_of HT_.out (by kernel_rfl)) (by decide) (fun K hK => ?_)
      refine Kd.R_append_step k31 (w0 := W4_) W4_.heap.size (by rfl) (.tmp 51) (.tmp 58) 22 31 (.agg #[(.string ⟨#[]⟩), (.int .i64 0)]) 24 rfl Tryz.underlying22 info31 rfl (by decide) (by omega) u (symG m) (⟨wordAt k, (numV (wordAt (k + 1))).1⟩ : S31) [.string (wordAt k), .int .i64 (numV (wordAt (k + 1))).1] (fun _ => True) (fun _ => False) rfl rfl ?aP (fun _ hk => hk.elim) ?aF ?aO ?aB ?aS ?aL ?_
      (case aP => exact k31_mkM _ _ _ (⟨wordAt k, (numV (wordAt (k + 1))).1⟩ : S31))
      (case aF => exact (fun _ _ => trivial))
      (case aO => exact HRc.out)
      (case aB => exact HBc.out)
      (case aS => exact HBc.out.size)
      (case aL => rw [symG_len]; omega)
      intro v1 w18 ho hb hg hat
      rw [HKK.out, ← symG_succ] at ho
      obtain ⟨Ao, co, eo⟩ := Kd.R_slice ho
      subst eo
      generalize (symG (m + 1)).length = nn at ho hat ⊢
      have n0_ := Aside0.mk (blk_grown BX.out hg (Kd.R_ne HRc.out BX.out (by decide)))
      have n1_ := Aside0.mk (blk_grown BK.out hg (Kd.R_ne HRc.out BK.out (by decide)))
      have n2_ := Aside0.mk hb
      have n3_ := Aside0.mk ho
      clear BX BK HBc HRc ho hb hg hat hHeld
      have BX := n0_
      have BK := n1_
      have HBc := n2_
      have HRc := n3_
      clear n0_ n1_ n2_ n3_
      refine hK.out _ _ ⟨(blk_cell BX.out 3).trans rfl, (blk_cell BK.out _).trans (words_at _ hm70)⟩ (fun hHeld => ?_)
      clear hK K
      refine norm_ (a' := ?_) ?_ ?_
      rotate_left
      · show Act.put _ (some 59) _ = _
        simp only [Act.put, List.setIfInBounds_toArray, List.set_cons_zero, List.set_cons_succ]
        rfl
      refine pure_ (i := 10) (N := some 60) (v := ?_) (a' := ?_) #[true, true, true, true, true, true, true, true, true, true, true, false] rfl rfl (any_of HT_.out (by kernel_rfl)) (fun _ _ _ h => h) (Or.inl ⟨by rfl, ?_⟩) ?_ ?_
      rotate_left
      · intro w'
        go_simp
        with_reducible rfl
      rotate_left
      · simp only [Act.put, List.setIfInBounds_toArray, List.set_cons_zero, List.set_cons_succ]
        rfl
      refine last_ (i := 11) (N := none) #[true, true, true, true, true, true, true, true, true, true, true, true] rfl rfl (one_of HT_.out (by kernel_rfl)) (by decide) (fun K hK => ?_)
      have hs19 : w18.cell? ⟨g5, 3, none⟩ = some u := (blk_cell BX.out 3).trans rfl
      have hfs19 := blk_frozen BX.out 3
      refine skip_ (w1 := ?_) (by rfl) rfl ?_ ?_
      rotate_left
      · go_simp
        rfl
      refine hK.out _ _ ?_
      clear hK K
      refine done_ (done_of HT_.out (by kernel_rfl)) ?_
      have n0_ := Aside0.mk (blk_put (cs' := #[.string (⟨#[83]⟩ : ByteArray), .bool true, .int .i64 250, .slice Ao nn co, .slice none 0 0, .slice none 0 0]) BX.out 3 (.slice Ao nn co) rfl)
      have n1_ := Aside0.mk (blk_far BK.out (p := ⟨g5, 3, none⟩) (blk_ne BK.out BX.out (by decide)) (.slice Ao nn co))
      have n2_ := Aside0.mk (HBc.out.setCell (p := ⟨g5, 3, none⟩) LG5.out (.slice Ao nn co))
      have n3_ := Aside0.mk (Kd.R_set HRc.out BX.out (by decide) 3 (.slice Ao nn co))
      clear BX BK HBc HRc hHeld hs19 hfs19
      generalize w18.setCell ⟨g5, 3, none⟩ (.slice Ao nn co) = w19 at n0_ n1_ n2_ n3_ ⊢
      have q4 : IntKind.i64.wrap ((k : Int) + 2) = ((k + 2 : Nat) : Int) := (IntWalk.i64_in _ (by omega)).trans (by omega)
      go_wp2
      go_roundw
      case rel => exact ⟨m + 1, k + 2, .slice Ao nn co, by first | rfl | (rw [q4]; done) | (simp; done), by have := HKK.out; omega, by omega, n3_.out, n0_.out, n1_.out, n2_.out⟩
      case measure => first | (simp [intOf]; omega) | (rw [q4]; simp [intOf]; omega)
    · have hm35 : m = 35 := by omega
      have q1 : decide ((k : Int) < 70) = false := decide_eq_false (by omega)
      have hR5 := HRc.out
      rw [hm35] at hR5
      have BC3 := BW3.out.trans (HBc.out.mono BW3.out.size)
      have BC2 := BW2.out.trans (BC3.mono BW2.out.size)
      have BC1 := BW1.out.trans (BC2.mono BW1.out.size)
      have BC0 := BW0.out.trans (BC1.mono BW0.out.size)
      obtain ⟨Aa1, na1, ca1, Ab1, nb1, cb1, Ac1, nc1, cc1, bk1, KM1⟩ := (FB1.out.keep BC1).cells
      obtain ⟨Aa2, na2, ca2, Ab2, nb2, cb2, Ac2, nc2, cc2, bk2, KM2⟩ := (FB2.out.keep BC2).cells
      obtain ⟨Aa3, na3, ca3, Ab3, nb3, cb3, Ac3, nc3, cc3, bk3, KM3⟩ := (FB3.out.keep BC3).cells
      obtain ⟨Aa4, na4, ca4, Ab4, nb4, cb4, Ac4, nc4, cc4, bk4, KM4⟩ := (FB4.out.keep HBc.out).cells
      obtain ⟨Aa5, na5, ca5, Ab5, nb5, cb5, Ac5, nc5, cc5, bk5, KM5⟩ := (FB.mk fontS BX.out LG5.out hR5 (Kd.R_nil _ _ _ _ _) (Kd.R_nil _ _ _ _ _)).cells
      have BCA := Aside0.mk BC0
      have KA1 := Aside0.mk KM1
      have KA2 := Aside0.mk KM2
      have KA3 := Aside0.mk KM3
      have KA4 := Aside0.mk KM4
      have KA5 := Aside0.mk KM5
      have S0 := Aside0.mk BW0.out.size
      have S1 := Aside0.mk BW1.out.size
      have S2 := Aside0.mk BW2.out.size
      have S3 := Aside0.mk BW3.out.size
      have S4 := Aside0.mk HBc.out.size
      have hx10 : wr.cell? ⟨g1, 0, none⟩ = some (.string (⟨#[82]⟩ : ByteArray)) := (blk_cell bk1 0).trans rfl
      have hx11 : wr.cell? ⟨g1, 1, none⟩ = some (.bool false) := (blk_cell bk1 1).trans rfl
      have hx12 : wr.cell? ⟨g1, 2, none⟩ = some (.int .i64 250) := (blk_cell bk1 2).trans rfl
      have hx13 : wr.cell? ⟨g1, 3, none⟩ = some (.slice Aa1 na1 ca1) := (blk_cell bk1 3).trans rfl
      have hx14 : wr.cell? ⟨g1, 4, none⟩ = some (.slice Ab1 nb1 cb1) := (blk_cell bk1 4).trans rfl
      have hx15 : wr.cell? ⟨g1, 5, none⟩ = some (.slice Ac1 nc1 cc1) := (blk_cell bk1 5).trans rfl
      have hx20 : wr.cell? ⟨g2, 0, none⟩ = some (.string (⟨#[73]⟩ : ByteArray)) := (blk_cell bk2 0).trans rfl
      have hx21 : wr.cell? ⟨g2, 1, none⟩ = some (.bool false) := (blk_cell bk2 1).trans rfl
      have hx22 : wr.cell? ⟨g2, 2, none⟩ = some (.int .i64 250) := (blk_cell bk2 2).trans rfl
      have hx23 : wr.cell? ⟨g2, 3, none⟩ = some (.slice Aa2 na2 ca2) := (blk_cell bk2 3).trans rfl
      have hx24 : wr.cell? ⟨g2, 4, none⟩ = some (.slice Ab2 nb2 cb2) := (blk_cell bk2 4).trans rfl
      have hx25 : wr.cell? ⟨g2, 5, none⟩ = some (.slice Ac2 nc2 cc2) := (blk_cell bk2 5).trans rfl
      have hx30 : wr.cell? ⟨g3, 0, none⟩ = some (.string (⟨#[66]⟩ : ByteArray)) := (blk_cell bk3 0).trans rfl
      have hx31 : wr.cell? ⟨g3, 1, none⟩ = some (.bool false) := (blk_cell bk3 1).trans rfl
      have hx32 : wr.cell? ⟨g3, 2, none⟩ = some (.int .i64 250) := (blk_cell bk3 2).trans rfl
      have hx33 : wr.cell? ⟨g3, 3, none⟩ = some (.slice Aa3 na3 ca3) := (blk_cell bk3 3).trans rfl
      have hx34 : wr.cell? ⟨g3, 4, none⟩ = some (.slice Ab3 nb3 cb3) := (blk_cell bk3 4).trans rfl
      have hx35 : wr.cell? ⟨g3, 5, none⟩ = some (.slice Ac3 nc3 cc3) := (blk_cell bk3 5).trans rfl
      have hx40 : wr.cell? ⟨g4, 0, none⟩ = some (.string (⟨#[77]⟩ : ByteArray)) := (blk_cell bk4 0).trans rfl
      have hx41 : wr.cell? ⟨g4, 1, none⟩ = some (.bool false) := (blk_cell bk4 1).trans rfl
      have hx42 : wr.cell? ⟨g4, 2, none⟩ = some (.int .i64 600) := (blk_cell bk4 2).trans rfl
      have hx43 : wr.cell? ⟨g4, 3, none⟩ = some (.slice Aa4 na4 ca4) := (blk_cell bk4 3).trans rfl
      have hx44 : wr.cell? ⟨g4, 4, none⟩ = some (.slice Ab4 nb4 cb4) := (blk_cell bk4 4).trans rfl
      have hx45 : wr.cell? ⟨g4, 5, none⟩ = some (.slice Ac4 nc4 cc4) := (blk_cell bk4 5).trans rfl
      have hx50 : wr.cell? ⟨g5, 0, none⟩ = some (.string (⟨#[83]⟩ : ByteArray)) := (blk_cell bk5 0).trans rfl
      have hx51 : wr.cell? ⟨g5, 1, none⟩ = some (.bool true) := (blk_cell bk5 1).trans rfl
      have hx52 : wr.cell? ⟨g5, 2, none⟩ = some (.int .i64 250) := (blk_cell bk5 2).trans rfl
      have hx53 : wr.cell? ⟨g5, 3, none⟩ = some (.slice Aa5 na5 ca5) := (blk_cell bk5 3).trans rfl
      have hx54 : wr.cell? ⟨g5, 4, none⟩ = some (.slice Ab5 nb5 cb5) := (blk_cell bk5 4).trans rfl
      have hx55 : wr.cell? ⟨g5, 5, none⟩ = some (.slice Ac5 nc5 cc5) := (blk_cell bk5 5).trans rfl
      clear hR5 BC0 BC1 BC2 BC3 KM1 KM2 KM3 KM4 KM5 bk1 bk2 bk3 bk4 bk5 HRc BX BK HBc hkm hmk hm35 hm hlt HKK FB1 FB2 FB3 FB4 BW0 BW1 BW2 BW3 GWS HGW LG5
      go_wp2
      clear hx10 hx11 hx12 hx13 hx14 hx15 hx20 hx21 hx22 hx23 hx24 hx25 hx30 hx31 hx32 hx33 hx34 hx35 hx40 hx41 hx42 hx43 hx44 hx45 hx50 hx51 hx52 hx53 hx54 hx55
      have hbn := below_alloc (Below.refl wr.heap.size wr) (.cells #[.string (⟨#[82]⟩ : ByteArray), .bool false, .int .i64 250, .slice Aa1 na1 ca1, .slice Ab1 nb1 cb1, .slice Ac1 nc1 cc1, .string (⟨#[73]⟩ : ByteArray), .bool false, .int .i64 250, .slice Aa2 na2 ca2, .slice Ab2 nb2 cb2, .slice Ac2 nc2 cc2, .string (⟨#[66]⟩ : ByteArray), .bool false, .int .i64 250, .slice Aa3 na3 ca3, .slice Ab3 nb3 cb3, .slice Ac3 nc3 cc3, .string (⟨#[77]⟩ : ByteArray), .bool false, .int .i64 600, .slice Aa4 na4 ca4, .slice Ab4 nb4 cb4, .slice Ac4 nc4 cc4, .string (⟨#[83]⟩ : ByteArray), .bool true, .int .i64 250, .slice Aa5 na5 ca5, .slice Ab5 nb5 cb5, .slice Ac5 nc5 cc5] 26)
      have hnew := blk_new wr (.cells #[.string (⟨#[82]⟩ : ByteArray), .bool false, .int .i64 250, .slice Aa1 na1 ca1, .slice Ab1 nb1 cb1, .slice Ac1 nc1 cc1, .string (⟨#[73]⟩ : ByteArray), .bool false, .int .i64 250, .slice Aa2 na2 ca2, .slice Ab2 nb2 cb2, .slice Ac2 nc2 cc2, .string (⟨#[66]⟩ : ByteArray), .bool false, .int .i64 250, .slice Aa3 na3 ca3, .slice Ab3 nb3 cb3, .slice Ac3 nc3 cc3, .string (⟨#[77]⟩ : ByteArray), .bool false, .int .i64 600, .slice Aa4 na4 ca4, .slice Ab4 nb4 cb4, .slice Ac4 nc4 cc4, .string (⟨#[83]⟩ : ByteArray), .bool true, .int .i64 250, .slice Aa5 na5 ca5, .slice Ab5 nb5 cb5, .slice Ac5 nc5 cc5] 26 (0, 0))
      have hbw := BCA.out.alloc BCA.out.size (.cells #[.string (⟨#[82]⟩ : ByteArray), .bool false, .int .i64 250, .slice Aa1 na1 ca1, .slice Ab1 nb1 cb1, .slice Ac1 nc1 cc1, .string (⟨#[73]⟩ : ByteArray), .bool false, .int .i64 250, .slice Aa2 na2 ca2, .slice Ab2 nb2 cb2, .slice Ac2 nc2 cc2, .string (⟨#[66]⟩ : ByteArray), .bool false, .int .i64 250, .slice Aa3 na3 ca3, .slice Ab3 nb3 cb3, .slice Ac3 nc3 cc3, .string (⟨#[77]⟩ : ByteArray), .bool false, .int .i64 600, .slice Aa4 na4 ca4, .slice Ab4 nb4 cb4, .slice Ac4 nc4 cc4, .string (⟨#[83]⟩ : ByteArray), .bool true, .int .i64 250, .slice Aa5 na5 ca5, .slice Ab5 nb5 cb5, .slice Ac5 nc5 cc5] 26)
      have hS : Kd.S k26 26 (wr.alloc (.cells #[.string (⟨#[82]⟩ : ByteArray), .bool false, .int .i64 250, .slice Aa1 na1 ca1, .slice Ab1 nb1 cb1, .slice Ac1 nc1 cc1, .string (⟨#[73]⟩ : ByteArray), .bool false, .int .i64 250, .slice Aa2 na2 ca2, .slice Ab2 nb2 cb2, .slice Ac2 nc2 cc2, .string (⟨#[66]⟩ : ByteArray), .bool false, .int .i64 250, .slice Aa3 na3 ca3, .slice Ab3 nb3 cb3, .slice Ac3 nc3 cc3, .string (⟨#[77]⟩ : ByteArray), .bool false, .int .i64 600, .slice Aa4 na4 ca4, .slice Ab4 nb4 cb4, .slice Ac4 nc4 cc4, .string (⟨#[83]⟩ : ByteArray), .bool true, .int .i64 250, .slice Aa5 na5 ca5, .slice Ab5 nb5 cb5, .slice Ac5 nc5 cc5] 26)) W0_.heap.size (fun _ => True) (.slice (some ⟨wr.heap.size, 0, none⟩) 5 5) stdV := by
        generalize wr.alloc (.cells #[.string (⟨#[82]⟩ : ByteArray), .bool false, .int .i64 250, .slice Aa1 na1 ca1, .slice Ab1 nb1 cb1, .slice Ac1 nc1 cc1, .string (⟨#[73]⟩ : ByteArray), .bool false, .int .i64 250, .slice Aa2 na2 ca2, .slice Ab2 nb2 cb2, .slice Ac2 nc2 cc2, .string (⟨#[66]⟩ : ByteArray), .bool false, .int .i64 250, .slice Aa3 na3 ca3, .slice Ab3 nb3 cb3, .slice Ac3 nc3 cc3, .string (⟨#[77]⟩ : ByteArray), .bool false, .int .i64 600, .slice Aa4 na4 ca4, .slice Ab4 nb4 cb4, .slice Ac4 nc4 cc4, .string (⟨#[83]⟩ : ByteArray), .bool true, .int .i64 250, .slice Aa5 na5 ca5, .slice Ab5 nb5 cb5, .slice Ac5 nc5 cc5] 26) = w' at hbn hnew ⊢
        have s0 := S0.out
        have s1 := S1.out
        have s2 := S2.out
        have s3 := S3.out
        have s4 := S4.out
        refine ⟨fun k => if k < W1_.heap.size then 0 else if k < W2_.heap.size then 1 else if k < W3_.heap.size then 2 else if k < W4_.heap.size then 3 else 4, fun _ _ => trivial, [.string (⟨#[82]⟩ : ByteArray), .bool false, .int .i64 250, .slice Aa1 na1 ca1, .slice Ab1 nb1 cb1, .slice Ac1 nc1 cc1, .string (⟨#[73]⟩ : ByteArray), .bool false, .int .i64 250, .slice Aa2 na2 ca2, .slice Ab2 nb2 cb2, .slice Ac2 nc2 cc2, .string (⟨#[66]⟩ : ByteArray), .bool false, .int .i64 250, .slice Aa3 na3 ca3, .slice Ab3 nb3 cb3, .slice Ac3 nc3 cc3, .string (⟨#[77]⟩ : ByteArray), .bool false, .int .i64 600, .slice Aa4 na4 ca4, .slice Ab4 nb4 cb4, .slice Ac4 nc4 cc4, .string (⟨#[83]⟩ : ByteArray), .bool true, .int .i64 250, .slice Aa5 na5 ca5, .slice Ab5 nb5 cb5, .slice Ac5 nc5 cc5], ⟨rfl, .inr ⟨wr.heap.size, 5, _, rfl, BCA.out.size, hnew, by decide, by decide, rfl, rfl⟩⟩, rfl, fun j p hj => ?_⟩
        have hne : ∀ q, q < wr.heap.size → some q ≠ (Value.slice (some ⟨wr.heap.size, 0, none⟩) 5 5).ownBlock := by
          intro q hq e
          have : wr.heap.size = q := by simpa [Value.ownBlock] using e.symm
          omega
        rcases j with _ | _ | _ | _ | _ | j
        · obtain rfl := Option.some.inj hj
          refine KA1.out w' W0_.heap.size _ hbn (by omega) (fun q h1 h2 => ⟨⟨trivial, hne q (by omega)⟩, ?_⟩)
          show (if q < W1_.heap.size then 0 else if q < W2_.heap.size then 1 else if q < W3_.heap.size then 2 else if q < W4_.heap.size then 3 else 4) = 0
          repeat' split
          all_goals omega
        · obtain rfl := Option.some.inj hj
          refine KA2.out w' W0_.heap.size _ hbn (by omega) (fun q h1 h2 => ⟨⟨trivial, hne q (by omega)⟩, ?_⟩)
          show (if q < W1_.heap.size then 0 else if q < W2_.heap.size then 1 else if q < W3_.heap.size then 2 else if q < W4_.heap.size then 3 else 4) = 1
          repeat' split
          all_goals omega
        · obtain rfl := Option.some.inj hj
          refine KA3.out w' W0_.heap.size _ hbn (by omega) (fun q h1 h2 => ⟨⟨trivial, hne q (by omega)⟩, ?_⟩)
          show (if q < W1_.heap.size then 0 else if q < W2_.heap.size then 1 else if q < W3_.heap.size then 2 else if q < W4_.heap.size then 3 else 4) = 2
          repeat' split
          all_goals omega
        · obtain rfl := Option.some.inj hj
          refine KA4.out w' W0_.heap.size _ hbn (by omega) (fun q h1 h2 => ⟨⟨trivial, hne q (by omega)⟩, ?_⟩)
          show (if q < W1_.heap.size then 0 else if q < W2_.heap.size then 1 else if q < W3_.heap.size then 2 else if q < W4_.heap.size then 3 else 4) = 3
          repeat' split
          all_goals omega
        · obtain rfl := Option.some.inj hj
          refine KA5.out w' W0_.heap.size _ hbn (by omega) (fun q h1 h2 => ⟨⟨trivial, hne q (by omega)⟩, ?_⟩)
          show (if q < W1_.heap.size then 0 else if q < W2_.heap.size then 1 else if q < W3_.heap.size then 2 else if q < W4_.heap.size then 3 else 4) = 4
          repeat' split
          all_goals omega
        · simp [stdV] at hj
      clear hbn hnew
      go_ret
      exact ⟨_, rfl, hS, hbw⟩
def font_Standard.f : Option (List S26) := some stdV
theorem font_Standard.calls (r : List S26) (w : World) (hG : GW w) (h : font_Standard.f = some r) :
    Calls Tryz.prog 13 #[] w fun e w' => ∃ v0_ : Value, e = .returned v0_ ∧ Kd.S k26 26 w' w.heap.size (fun _ => True) v0_ r ∧ Below w.heap.size w w' := by
  obtain rfl := Option.some.inj h
  exact std_any w hG
end Go.Proofs.YtaifemkokfoadaaGreatDoor

namespace Go.Proofs.YtaifemkokfoadaaGreatDoor
open Go.RowKit Go.Proofs.YtaifemkokfoadaaGreatDoorW.PrintWords Go.Proofs.YtaifemkokfoadaaGreatDoorW.PrintMore Go.Proofs.YtaifemkokfoadaaGreatDoor.PX
set_option maxRecDepth 100000
set_option linter.unusedVariables false
end Go.Proofs.YtaifemkokfoadaaGreatDoor

namespace Go.Proofs.YtaifemkokfoadaaGreatDoor.PX
open Go.RowKit Go.Proofs.YtaifemkokfoadaaGreatDoorW.PrintWords Go.Proofs.YtaifemkokfoadaaGreatDoorW.PrintLast Go.Proofs.YtaifemkokfoadaaGreatDoorW.PrintMore
attribute [local go_sem] max2_int min2_int max_two min_two max_three min_three max_four min_four   -- for this text's walks alone
set_option linter.unusedVariables false
set_option linter.unusedSimpArgs false
def font_fair.f (a0_0 : ByteArray) (a0_1 : Bool) (a0_2 : Int) (l0_3 : List (S31)) (l0_4 : List (S86)) (l0_5 : List (S76)) (a1 : Int) : Option (Bool) := if a1 ≥ 1 then (if a1 ≤ 1000 then ((font_Valid.f a0_0 a0_1 a0_2 l0_3 l0_4 l0_5).bind fun t240 => (some t240)) else (some false)) else (some false)
set_option maxHeartbeats 8000000 in
set_option maxRecDepth 100000 in
theorem font_fair.calls (a0_0 : ByteArray) (a0_1 : Bool) (a0_2 : Int) (A0_3 : Option Addr) (c0_3 : Nat) (l0_3 : List (S31)) (A0_4 : Option Addr) (c0_4 : Nat) (l0_4 : List (S86)) (A0_5 : Option Addr) (c0_5 : Nat) (l0_5 : List (S76)) (a1 : Int) (r : Bool) (w : World) (hr0_3 : Kd.C k31 w A0_3 l0_3.length l0_3) (hc0_3 : l0_3.length ≤ c0_3) (hr0_4 : Kd.C k86 w A0_4 l0_4.length l0_4) (hc0_4 : l0_4.length ≤ c0_4) (hr0_5 : Kd.C k76 w A0_5 l0_5.length l0_5) (hc0_5 : l0_5.length ≤ c0_5) (hG : GW w) (h : font_fair.f a0_0 a0_1 a0_2 l0_3 l0_4 l0_5 a1 = some r) :
  Calls Tryz.prog 26 #[.agg #[.string a0_0, .bool a0_1, .int .i64 a0_2, .slice A0_3 l0_3.length c0_3, .slice A0_4 l0_4.length c0_4, .slice A0_5 l0_5.length c0_5], .int .i64 a1] w fun e w' => e = .returned (.bool r) ∧ Below w.heap.size w w' := by
 have hu26 := Tryz.underlying26
 have HG := Aside0.mk hG
 clear hG
 have HR0_3 := Aside0.mk hr0_3
 have HC0_3 := Aside0.mk hc0_3
 clear hr0_3 hc0_3
 have HR0_4 := Aside0.mk hr0_4
 have HC0_4 := Aside0.mk hc0_4
 clear hr0_4 hc0_4
 have HR0_5 := Aside0.mk hr0_5
 have HC0_5 := Aside0.mk hc0_5
 clear hr0_5 hc0_5
 have HB := Aside0.mk (Below.refl w.heap.size w)
 have H : (if a1 ≥ 1 then (if a1 ≤ 1000 then ((font_Valid.f a0_0 a0_1 a0_2 l0_3 l0_4 l0_5).bind fun t240 => (some t240)) else (some false)) else (some false)) = some r := h
 clear h
 by_cases c3 : a1 ≥ 1
 ·rw [if_pos c3] at H
  have c3b0 : decide (1 ≤ a1) = true := decide_eq_true c3
  clear c3
  by_cases c4 : a1 ≤ 1000
  ·rw [if_pos c4] at H
   have c4b0 : decide (a1 ≤ 1000) = true := decide_eq_true c4
   clear c4
   replace H := Option.bind_eq_some_iff.mp H
   obtain ⟨t240, A50, H⟩ := H
   replace H : (some t240) = some r := H
   have A5 := Aside0.mk A50
   clear A50
   obtain rfl := Option.some.inj H
   go_enter Tryz.func26, Tryz.ntmps26
   go_wp2_with (first | ((with_reducible refine gate_dst (N := 2) rfl ?_); refine box_event ?hg (N := 2) ?hd (cs := #[.string a0_0, .bool a0_1, .int .i64 a0_2, .slice A0_3 l0_3.length c0_3, .slice A0_4 l0_4.length c0_4, .slice A0_5 l0_5.length c0_5]) (t := 26) ?hr ?_; (case hd => rfl); (case hg => rfl); (case hr => first | (go_simp; done) | (go_simp; rfl)); intro gb239 hg w6 hbox hb; have n0_ := Aside0.mk (below_step (by repeat (first | (with_reducible first | exact HB.out | apply below_alloc | apply pw_below_drewN | apply below_drew1) | exact HB.out)) hb); have n1_ := Aside0.mk (hbox); have n2_ := Aside0.mk ((by rw [hg]; exact (below_size (by repeat (first | (with_reducible first | exact HB.out | apply below_alloc | apply pw_below_drewN | apply below_drew1) | exact HB.out))) : w.heap.size ≤ gb239)); have n3_ := Aside0.mk ((by rw [hg]; exact (below_size (by repeat (first | (with_reducible first | exact HB.out | apply below_alloc | apply pw_below_drewN | apply below_drew1) | exact HB.out))) : w.heap.size ≤ gb239)); clear HB; have HB := n0_; have BK239 := n1_; have GW239 := n2_; have GE239 := n3_; clear n0_ n1_ n2_ n3_; clear hb hbox hg; have hcz7_0 : w6.cell? ⟨gb239, 0, none⟩ = some (.string a0_0) := (blk_cell BK239.out 0).trans rfl; have hcz7_1 : w6.cell? ⟨gb239, 1, none⟩ = some (.bool a0_1) := (blk_cell BK239.out 1).trans rfl; have hcz7_2 : w6.cell? ⟨gb239, 2, none⟩ = some (.int .i64 a0_2) := (blk_cell BK239.out 2).trans rfl; have hcz7_3 : w6.cell? ⟨gb239, 3, none⟩ = some (.slice A0_3 l0_3.length c0_3) := (blk_cell BK239.out 3).trans rfl; have hcz7_4 : w6.cell? ⟨gb239, 4, none⟩ = some (.slice A0_4 l0_4.length c0_4) := (blk_cell BK239.out 4).trans rfl; have hcz7_5 : w6.cell? ⟨gb239, 5, none⟩ = some (.slice A0_5 l0_5.length c0_5) := (blk_cell BK239.out 5).trans rfl; have hfz7_0 := blk_frozen BK239.out 0; have hfz7_1 := blk_frozen BK239.out 1; have hfz7_2 := blk_frozen BK239.out 2; have hfz7_3 := blk_frozen BK239.out 3; have hfz7_4 := blk_frozen BK239.out 4; have hfz7_5 := blk_frozen BK239.out 5) | (go_at_call 17; (with_reducible refine (font_Valid.calls a0_0 a0_1 a0_2 _ _ l0_3 _ _ l0_4 _ _ l0_5 t240 _ ?side1 ?side2 ?side3 ?side4 ?side5 ?side6 ?side7 A5.out).mono ?_); (case side1 => repeat (first | exact (Kd.C_below HR0_3.out HB.out) | (with_reducible refine Kd.C_alloc ?_ _) | (with_reducible refine Kd.C_drewN ?_ _) | (with_reducible refine Kd.C_drew ?_))); (case side2 => exact HC0_3.out); (case side3 => repeat (first | exact (Kd.C_below HR0_4.out HB.out) | (with_reducible refine Kd.C_alloc ?_ _) | (with_reducible refine Kd.C_drewN ?_ _) | (with_reducible refine Kd.C_drew ?_))); (case side4 => exact HC0_4.out); (case side5 => repeat (first | exact (Kd.C_below HR0_5.out HB.out) | (with_reducible refine Kd.C_alloc ?_ _) | (with_reducible refine Kd.C_drewN ?_ _) | (with_reducible refine Kd.C_drew ?_))); (case side6 => exact HC0_5.out); (case side7 => exact GW.under HG.out (by repeat (first | (with_reducible first | exact HB.out | apply below_alloc | apply pw_below_drewN | apply below_drew1 | refine below_set ?_ GE239.out) | exact HB.out))); rintro e w8 ⟨rfl, hb⟩; have n0_ := Aside0.mk (blk_below (g := gb239) (o := .cells #[.string a0_0, .bool a0_1, .int .i64 a0_2, .slice A0_3 l0_3.length c0_3, .slice A0_4 l0_4.length c0_4, .slice A0_5 l0_5.length c0_5] 26 (0, 0)) (by (with_reducible repeat (first | refine blk_drewN ?_ _ | refine blk_drew ?_ | refine blk_alloc ?_ _)); exact BK239.out) hb); have n1_ := Aside0.mk (below_step (by repeat (first | (with_reducible first | exact HB.out | apply below_alloc | apply pw_below_drewN | apply below_drew1 | refine below_set ?_ GE239.out) | exact HB.out)) hb); clear BK239; clear HB; have BK239 := n0_; have HB := n1_; clear n0_ n1_; (try clear hb); (try clear hb2); (try clear hk); (try clear hi)))
   go_ret
   exact ⟨by first | rfl | (simp [errW_none, errW_some] <;> rfl) | (simp [*, errW_none, errW_some] <;> rfl), by repeat (first | (with_reducible first | exact HB.out | apply below_alloc | apply pw_below_drewN | apply below_drew1 | refine below_set ?_ GE239.out) | exact HB.out)⟩
  ·rw [if_neg c4] at H
   have c4b0 : decide (a1 ≤ 1000) = false := decide_eq_false c4
   clear c4
   obtain rfl := Option.some.inj H
   go_enter Tryz.func26, Tryz.ntmps26
   go_wp2_with (first | ((with_reducible refine gate_dst (N := 2) rfl ?_); refine box_event ?hg (N := 2) ?hd (cs := #[.string a0_0, .bool a0_1, .int .i64 a0_2, .slice A0_3 l0_3.length c0_3, .slice A0_4 l0_4.length c0_4, .slice A0_5 l0_5.length c0_5]) (t := 26) ?hr ?_; (case hd => rfl); (case hg => rfl); (case hr => first | (go_simp; done) | (go_simp; rfl)); intro gb239 hg w9 hbox hb; have n0_ := Aside0.mk (below_step (by repeat (first | (with_reducible first | exact HB.out | apply below_alloc | apply pw_below_drewN | apply below_drew1) | exact HB.out)) hb); have n1_ := Aside0.mk (hbox); have n2_ := Aside0.mk ((by rw [hg]; exact (below_size (by repeat (first | (with_reducible first | exact HB.out | apply below_alloc | apply pw_below_drewN | apply below_drew1) | exact HB.out))) : w.heap.size ≤ gb239)); have n3_ := Aside0.mk ((by rw [hg]; exact (below_size (by repeat (first | (with_reducible first | exact HB.out | apply below_alloc | apply pw_below_drewN | apply below_drew1) | exact HB.out))) : w.heap.size ≤ gb239)); clear HB; have HB := n0_; have BK239 := n1_; have GW239 := n2_; have GE239 := n3_; clear n0_ n1_ n2_ n3_; clear hb hbox hg))
   go_ret
   exact ⟨by first | rfl | (simp [errW_none, errW_some] <;> rfl) | (simp [*, errW_none, errW_some] <;> rfl), by repeat (first | (with_reducible first | exact HB.out | apply below_alloc | apply pw_below_drewN | apply below_drew1 | refine below_set ?_ GE239.out) | exact HB.out)⟩
 ·rw [if_neg c3] at H
  have c3b0 : decide (1 ≤ a1) = false := decide_eq_false c3
  clear c3
  obtain rfl := Option.some.inj H
  go_enter Tryz.func26, Tryz.ntmps26
  go_wp2_with (first | ((with_reducible refine gate_dst (N := 2) rfl ?_); refine box_event ?hg (N := 2) ?hd (cs := #[.string a0_0, .bool a0_1, .int .i64 a0_2, .slice A0_3 l0_3.length c0_3, .slice A0_4 l0_4.length c0_4, .slice A0_5 l0_5.length c0_5]) (t := 26) ?hr ?_; (case hd => rfl); (case hg => rfl); (case hr => first | (go_simp; done) | (go_simp; rfl)); intro gb239 hg w10 hbox hb; have n0_ := Aside0.mk (below_step (by repeat (first | (with_reducible first | exact HB.out | apply below_alloc | apply pw_below_drewN | apply below_drew1) | exact HB.out)) hb); have n1_ := Aside0.mk (hbox); have n2_ := Aside0.mk ((by rw [hg]; exact (below_size (by repeat (first | (with_reducible first | exact HB.out | apply below_alloc | apply pw_below_drewN | apply below_drew1) | exact HB.out))) : w.heap.size ≤ gb239)); have n3_ := Aside0.mk ((by rw [hg]; exact (below_size (by repeat (first | (with_reducible first | exact HB.out | apply below_alloc | apply pw_below_drewN | apply below_drew1) | exact HB.out))) : w.heap.size ≤ gb239)); clear HB; have HB := n0_; have BK239 := n1_; have GW239 := n2_; have GE239 := n3_; clear n0_ n1_ n2_ n3_; clear hb hbox hg))
  go_ret
  exact ⟨by first | rfl | (simp [errW_none, errW_some] <;> rfl) | (simp [*, errW_none, errW_some] <;> rfl), by repeat (first | (with_reducible first | exact HB.out | apply below_alloc | apply pw_below_drewN | apply below_drew1 | refine below_set ?_ GE239.out) | exact HB.out)⟩
def font_floor.f (a0 : Int) (a1 : Int) : Option (Int) := if a0 < 0 then (if a1 = 0 then (none) else (some (wrap64 (-(wrap64 (Int.tdiv (wrap64 ((wrap64 ((wrap64 (-a0)) + a1)) - 1)) a1)))))) else (if a1 = 0 then (none) else (some (wrap64 (Int.tdiv a0 a1))))
set_option maxHeartbeats 8000000 in
set_option maxRecDepth 100000 in
theorem font_floor.calls (a0 : Int) (a1 : Int) (r : Int) (w : World) (h : font_floor.f a0 a1 = some r) :
  Calls Tryz.prog 88 #[.int .i64 a0, .int .i64 a1] w fun e w' => e = .returned (.int .i64 r) ∧ Drawn0 w w' := by
 have H : (if a0 < 0 then (if a1 = 0 then (none) else (some (wrap64 (-(wrap64 (Int.tdiv (wrap64 ((wrap64 ((wrap64 (-a0)) + a1)) - 1)) a1)))))) else (if a1 = 0 then (none) else (some (wrap64 (Int.tdiv a0 a1))))) = some r := h
 clear h
 by_cases c3 : a0 < 0
 ·rw [if_pos c3] at H
  have c3b0 : decide (a0 < 0) = true := decide_eq_true c3
  clear c3
  by_cases c4 : a1 = 0
  ·rw [if_pos c4] at H
   exact absurd H (by simp)
  ·rw [if_neg c4] at H
   have c4b0 : (a1 == 0) = false := beq_eq_false_iff_ne.mpr c4
   have c4b1 : (a1 != 0) = true := bne_iff_ne.mpr c4
   obtain rfl := Option.some.inj H
   go_enter Tryz.func88, Tryz.ntmps88
   go_wp2
   go_ret
   exact ⟨by first | rfl | (simp; done) | (simp [*]; done), by repeat (first | exact Drawn0.refl _ | apply Drawn0.step)⟩
 ·rw [if_neg c3] at H
  have c3b0 : decide (a0 < 0) = false := decide_eq_false c3
  clear c3
  by_cases c5 : a1 = 0
  ·rw [if_pos c5] at H
   exact absurd H (by simp)
  ·rw [if_neg c5] at H
   have c5b0 : (a1 == 0) = false := beq_eq_false_iff_ne.mpr c5
   have c5b1 : (a1 != 0) = true := bne_iff_ne.mpr c5
   obtain rfl := Option.some.inj H
   go_enter Tryz.func88, Tryz.ntmps88
   go_wp2
   go_ret
   exact ⟨by first | rfl | (simp; done) | (simp [*]; done), by repeat (first | exact Drawn0.refl _ | apply Drawn0.step)⟩
def font_scale.f (a0 : Int) (a1 : Int) : Option (Int) := (font_floor.f (wrap64 ((wrap64 (10 * a1)) * a0)) 1000).bind fun t241 => (some t241)
set_option maxHeartbeats 8000000 in
set_option maxRecDepth 100000 in
theorem font_scale.calls (a0 : Int) (a1 : Int) (r : Int) (w : World) (h : font_scale.f a0 a1 = some r) :
  Calls Tryz.prog 28 #[.int .i64 a0, .int .i64 a1] w fun e w' => e = .returned (.int .i64 r) ∧ Drawn0 w w' := by
 have H : ((font_floor.f (wrap64 ((wrap64 (10 * a1)) * a0)) 1000).bind fun t241 => (some t241)) = some r := h
 clear h
 replace H := Option.bind_eq_some_iff.mp H
 obtain ⟨t241, A30, H⟩ := H
 replace H : (some t241) = some r := H
 have A3 := Aside0.mk A30
 clear A30
 obtain rfl := Option.some.inj H
 go_enter Tryz.func28, Tryz.ntmps28
 go_wp2_with (first | ((with_reducible refine gate_callee (f := 88) rfl ?_); refine goesL_ (some 9) rfl rfl Tryz.func88 (by kernel_rfl) rfl #[.int .i64 (wrap64 ((wrap64 (10 * a1)) * a0)), .int .i64 1000] rfl (by (try simp only [List.map_toArray, List.map_cons, List.map_nil]); first | done | rfl | (simp only [List.length_drop, List.length_take]; rfl)) ?_; (with_reducible refine (font_floor.calls (wrap64 ((wrap64 (10 * a1)) * a0)) 1000 t241 _ A3.out).mono ?_); rintro e w' ⟨rfl, ⟨nd, rfl⟩⟩; refine ⟨_, rfl, ?_⟩))
 go_ret
 exact ⟨by first | rfl | (simp; done) | (simp [*]; done), by repeat (first | exact Drawn0.refl _ | apply Drawn0.step)⟩
end Go.Proofs.YtaifemkokfoadaaGreatDoor.PX

namespace Go.Proofs.YtaifemkokfoadaaGreatDoor.PX
open Go.RowKit Go.Proofs.YtaifemkokfoadaaGreatDoorW.PrintWords Go.Proofs.YtaifemkokfoadaaGreatDoorW.PrintLast Go.Proofs.YtaifemkokfoadaaGreatDoorW.PrintMore
attribute [local go_sem] max2_int min2_int max_two min_two max_three min_three max_four min_four   -- for this text's walks alone
set_option linter.unusedVariables false
set_option linter.unusedSimpArgs false
def font_Width.f (a0_0 : ByteArray) (a0_1 : Bool) (a0_2 : Int) (l0_3 : List (S31)) (l0_4 : List (S86)) (l0_5 : List (S76)) (a1 : ByteArray) (a2 : Int) : Option (Int × Int) := (font_fair.f a0_0 a0_1 a0_2 l0_3 l0_4 l0_5 a2).bind fun t243 => (if t243 = true then ((font_find.f a0_0 a0_1 a0_2 l0_3 l0_4 l0_5 a1).bind fun bt244 => (if bt244.2 = true then (if 0 ≤ bt244.1 then (if bt244.1 < (l0_3.length : Int) then ((font_scale.f ((rd_T31 l0_3 bt244.1).f1) a2).bind fun t247 => (some (t247, 0))) else (none)) else (none)) else (some (0, 3)))) else (some (0, 1)))
set_option maxHeartbeats 8000000 in
set_option maxRecDepth 100000 in
theorem font_Width.calls (a0_0 : ByteArray) (a0_1 : Bool) (a0_2 : Int) (A0_3 : Option Addr) (c0_3 : Nat) (l0_3 : List (S31)) (A0_4 : Option Addr) (c0_4 : Nat) (l0_4 : List (S86)) (A0_5 : Option Addr) (c0_5 : Nat) (l0_5 : List (S76)) (a1 : ByteArray) (a2 : Int) (r1 : Int) (r2 : Int) (w : World) (hr0_3 : Kd.C k31 w A0_3 l0_3.length l0_3) (hc0_3 : l0_3.length ≤ c0_3) (hr0_4 : Kd.C k86 w A0_4 l0_4.length l0_4) (hc0_4 : l0_4.length ≤ c0_4) (hr0_5 : Kd.C k76 w A0_5 l0_5.length l0_5) (hc0_5 : l0_5.length ≤ c0_5) (hG : GW w) (h : font_Width.f a0_0 a0_1 a0_2 l0_3 l0_4 l0_5 a1 a2 = some (r1, r2)) :
  Calls Tryz.prog 11 #[.agg #[.string a0_0, .bool a0_1, .int .i64 a0_2, .slice A0_3 l0_3.length c0_3, .slice A0_4 l0_4.length c0_4, .slice A0_5 l0_5.length c0_5], .string a1, .int .i64 a2] w fun e w' => e = .returned (.tuple #[.int .i64 r1, .int .i64 r2]) ∧ Below w.heap.size w w' := by
 have hu26 := Tryz.underlying26
 have HG := Aside0.mk hG
 clear hG
 have HR0_3 := Aside0.mk hr0_3
 have HC0_3 := Aside0.mk hc0_3
 clear hr0_3 hc0_3
 have HR0_4 := Aside0.mk hr0_4
 have HC0_4 := Aside0.mk hc0_4
 clear hr0_4 hc0_4
 have HR0_5 := Aside0.mk hr0_5
 have HC0_5 := Aside0.mk hc0_5
 clear hr0_5 hc0_5
 have HB := Aside0.mk (Below.refl w.heap.size w)
 have H : ((font_fair.f a0_0 a0_1 a0_2 l0_3 l0_4 l0_5 a2).bind fun t243 => (if t243 = true then ((font_find.f a0_0 a0_1 a0_2 l0_3 l0_4 l0_5 a1).bind fun bt244 => (if bt244.2 = true then (if 0 ≤ bt244.1 then (if bt244.1 < (l0_3.length : Int) then ((font_scale.f ((rd_T31 l0_3 bt244.1).f1) a2).bind fun t247 => (some (t247, 0))) else (none)) else (none)) else (some (0, 3)))) else (some (0, 1)))) = some (r1, r2) := h
 clear h
 replace H := Option.bind_eq_some_iff.mp H
 obtain ⟨t243, A40, H⟩ := H
 replace H : (if t243 = true then ((font_find.f a0_0 a0_1 a0_2 l0_3 l0_4 l0_5 a1).bind fun bt244 => (if bt244.2 = true then (if 0 ≤ bt244.1 then (if bt244.1 < (l0_3.length : Int) then ((font_scale.f ((rd_T31 l0_3 bt244.1).f1) a2).bind fun t247 => (some (t247, 0))) else (none)) else (none)) else (some (0, 3)))) else (some (0, 1))) = some (r1, r2) := H
 have A4 := Aside0.mk A40
 clear A40
 by_cases c5 : t243 = true
 ·subst c5
  have H1 : ((font_find.f a0_0 a0_1 a0_2 l0_3 l0_4 l0_5 a1).bind fun bt244 => (if bt244.2 = true then (if 0 ≤ bt244.1 then (if bt244.1 < (l0_3.length : Int) then ((font_scale.f ((rd_T31 l0_3 bt244.1).f1) a2).bind fun t247 => (some (t247, 0))) else (none)) else (none)) else (some (0, 3)))) = some (r1, r2) := by rw [if_pos rfl] at H; exact H
  clear H
  have H := H1
  clear H1
  replace H := Option.bind_eq_some_iff.mp H
  obtain ⟨⟨t244, t245⟩, A60, H⟩ := H
  replace H : (if t245 = true then (if 0 ≤ t244 then (if t244 < (l0_3.length : Int) then ((font_scale.f ((rd_T31 l0_3 t244).f1) a2).bind fun t247 => (some (t247, 0))) else (none)) else (none)) else (some (0, 3))) = some (r1, r2) := H
  have A6 := Aside0.mk A60
  clear A60
  by_cases c7 : t245 = true
  ·subst c7
   have H1 : (if 0 ≤ t244 then (if t244 < (l0_3.length : Int) then ((font_scale.f ((rd_T31 l0_3 t244).f1) a2).bind fun t247 => (some (t247, 0))) else (none)) else (none)) = some (r1, r2) := by rw [if_pos rfl] at H; exact H
   clear H
   have H := H1
   clear H1
   by_cases c8 : 0 ≤ t244
   ·rw [if_pos c8] at H
    have c8b0 : decide (0 ≤ t244) = true := decide_eq_true c8
    clear c8
    by_cases c9 : t244 < (l0_3.length : Int)
    ·rw [if_pos c9] at H
     have c9b0 : decide (t244 < (l0_3.length : Int)) = true := decide_eq_true c9
     clear c9
     replace H := Option.bind_eq_some_iff.mp H
     obtain ⟨t247, A100, H⟩ := H
     replace H : (some (t247, 0)) = some (r1, r2) := H
     have A10 := Aside0.mk A100
     clear A100
     simp only [Option.some.injEq, Prod.mk.injEq] at H
     obtain ⟨rfl, rfl⟩ := H
     go_enter Tryz.func11, Tryz.ntmps11
     go_wp2_with (first | ((with_reducible refine gate_dst (N := 3) rfl ?_); refine box_event ?hg (N := 3) ?hd (cs := #[.string a0_0, .bool a0_1, .int .i64 a0_2, .slice A0_3 l0_3.length c0_3, .slice A0_4 l0_4.length c0_4, .slice A0_5 l0_5.length c0_5]) (t := 26) ?hr ?_; (case hd => rfl); (case hg => rfl); (case hr => first | (go_simp; done) | (go_simp; rfl)); intro gb242 hg w11 hbox hb; have n0_ := Aside0.mk (below_step (by repeat (first | (with_reducible first | exact HB.out | apply below_alloc | apply pw_below_drewN | apply below_drew1) | exact HB.out)) hb); have n1_ := Aside0.mk (hbox); have n2_ := Aside0.mk ((by rw [hg]; exact (below_size (by repeat (first | (with_reducible first | exact HB.out | apply below_alloc | apply pw_below_drewN | apply below_drew1) | exact HB.out))) : w.heap.size ≤ gb242)); have n3_ := Aside0.mk ((by rw [hg]; exact (below_size (by repeat (first | (with_reducible first | exact HB.out | apply below_alloc | apply pw_below_drewN | apply below_drew1) | exact HB.out))) : w.heap.size ≤ gb242)); clear HB; have HB := n0_; have BK242 := n1_; have GW242 := n2_; have GE242 := n3_; clear n0_ n1_ n2_ n3_; clear hb hbox hg; have hcz12_0 : w11.cell? ⟨gb242, 0, none⟩ = some (.string a0_0) := (blk_cell BK242.out 0).trans rfl; have hcz12_1 : w11.cell? ⟨gb242, 1, none⟩ = some (.bool a0_1) := (blk_cell BK242.out 1).trans rfl; have hcz12_2 : w11.cell? ⟨gb242, 2, none⟩ = some (.int .i64 a0_2) := (blk_cell BK242.out 2).trans rfl; have hcz12_3 : w11.cell? ⟨gb242, 3, none⟩ = some (.slice A0_3 l0_3.length c0_3) := (blk_cell BK242.out 3).trans rfl; have hcz12_4 : w11.cell? ⟨gb242, 4, none⟩ = some (.slice A0_4 l0_4.length c0_4) := (blk_cell BK242.out 4).trans rfl; have hcz12_5 : w11.cell? ⟨gb242, 5, none⟩ = some (.slice A0_5 l0_5.length c0_5) := (blk_cell BK242.out 5).trans rfl; have hfz12_0 := blk_frozen BK242.out 0; have hfz12_1 := blk_frozen BK242.out 1; have hfz12_2 := blk_frozen BK242.out 2; have hfz12_3 := blk_frozen BK242.out 3; have hfz12_4 := blk_frozen BK242.out 4; have hfz12_5 := blk_frozen BK242.out 5) | ((with_reducible refine gate_callee (f := 26) rfl ?_); refine goesL_ (some 12) rfl rfl Tryz.func26 (by kernel_rfl) rfl #[.agg #[.string a0_0, .bool a0_1, .int .i64 a0_2, .slice A0_3 l0_3.length c0_3, .slice A0_4 l0_4.length c0_4, .slice A0_5 l0_5.length c0_5], .int .i64 a2] rfl (by (try simp only [List.map_toArray, List.map_cons, List.map_nil]); first | done | rfl | (simp only [List.length_drop, List.length_take]; rfl)) ?_; (with_reducible refine (font_fair.calls a0_0 a0_1 a0_2 _ _ l0_3 _ _ l0_4 _ _ l0_5 a2 true _ ?side1 ?side2 ?side3 ?side4 ?side5 ?side6 ?side7 A4.out).mono ?_); (case side1 => repeat (first | exact (Kd.C_below HR0_3.out HB.out) | (with_reducible refine Kd.C_alloc ?_ _) | (with_reducible refine Kd.C_drewN ?_ _) | (with_reducible refine Kd.C_drew ?_))); (case side2 => exact HC0_3.out); (case side3 => repeat (first | exact (Kd.C_below HR0_4.out HB.out) | (with_reducible refine Kd.C_alloc ?_ _) | (with_reducible refine Kd.C_drewN ?_ _) | (with_reducible refine Kd.C_drew ?_))); (case side4 => exact HC0_4.out); (case side5 => repeat (first | exact (Kd.C_below HR0_5.out HB.out) | (with_reducible refine Kd.C_alloc ?_ _) | (with_reducible refine Kd.C_drewN ?_ _) | (with_reducible refine Kd.C_drew ?_))); (case side6 => exact HC0_5.out); (case side7 => exact GW.under HG.out (by repeat (first | (with_reducible first | exact HB.out | apply below_alloc | apply pw_below_drewN | apply below_drew1 | refine below_set ?_ GE242.out) | exact HB.out))); rintro e w13 ⟨rfl, hb⟩; refine ⟨_, rfl, ?_⟩; have n0_ := Aside0.mk (blk_below (g := gb242) (o := .cells #[.string a0_0, .bool a0_1, .int .i64 a0_2, .slice A0_3 l0_3.length c0_3, .slice A0_4 l0_4.length c0_4, .slice A0_5 l0_5.length c0_5] 26 (0, 0)) (by (with_reducible repeat (first | refine blk_drewN ?_ _ | refine blk_drew ?_ | refine blk_alloc ?_ _)); exact BK242.out) hb); have n1_ := Aside0.mk (below_step (by repeat (first | (with_reducible first | exact HB.out | apply below_alloc | apply pw_below_drewN | apply below_drew1 | refine below_set ?_ GE242.out) | exact HB.out)) hb); clear BK242; clear HB; have BK242 := n0_; have HB := n1_; clear n0_ n1_; (try clear hb); (try clear hb2); (try clear hk); (try clear hi); have hcz14_0 : w13.cell? ⟨gb242, 0, none⟩ = some (.string a0_0) := (blk_cell BK242.out 0).trans rfl; have hcz14_1 : w13.cell? ⟨gb242, 1, none⟩ = some (.bool a0_1) := (blk_cell BK242.out 1).trans rfl; have hcz14_2 : w13.cell? ⟨gb242, 2, none⟩ = some (.int .i64 a0_2) := (blk_cell BK242.out 2).trans rfl; have hcz14_3 : w13.cell? ⟨gb242, 3, none⟩ = some (.slice A0_3 l0_3.length c0_3) := (blk_cell BK242.out 3).trans rfl; have hcz14_4 : w13.cell? ⟨gb242, 4, none⟩ = some (.slice A0_4 l0_4.length c0_4) := (blk_cell BK242.out 4).trans rfl; have hcz14_5 : w13.cell? ⟨gb242, 5, none⟩ = some (.slice A0_5 l0_5.length c0_5) := (blk_cell BK242.out 5).trans rfl; have hfz14_0 := blk_frozen BK242.out 0; have hfz14_1 := blk_frozen BK242.out 1; have hfz14_2 := blk_frozen BK242.out 2; have hfz14_3 := blk_frozen BK242.out 3; have hfz14_4 := blk_frozen BK242.out 4; have hfz14_5 := blk_frozen BK242.out 5) | ((with_reducible refine gate_callee (f := 27) rfl ?_); refine goesL_ (some 17) rfl rfl Tryz.func27 (by kernel_rfl) rfl #[.agg #[.string a0_0, .bool a0_1, .int .i64 a0_2, .slice A0_3 l0_3.length c0_3, .slice A0_4 l0_4.length c0_4, .slice A0_5 l0_5.length c0_5], .string a1] rfl (by (try simp only [List.map_toArray, List.map_cons, List.map_nil]); first | done | rfl | (simp only [List.length_drop, List.length_take]; rfl)) ?_; (with_reducible refine (font_find.calls a0_0 a0_1 a0_2 _ _ l0_3 _ _ l0_4 _ _ l0_5 a1 t244 true _ ?side1 ?side2 ?side3 ?side4 ?side5 ?side6 ?side7 A6.out).mono ?_); (case side1 => repeat (first | exact (Kd.C_below HR0_3.out HB.out) | (with_reducible refine Kd.C_alloc ?_ _) | (with_reducible refine Kd.C_drewN ?_ _) | (with_reducible refine Kd.C_drew ?_))); (case side2 => exact HC0_3.out); (case side3 => repeat (first | exact (Kd.C_below HR0_4.out HB.out) | (with_reducible refine Kd.C_alloc ?_ _) | (with_reducible refine Kd.C_drewN ?_ _) | (with_reducible refine Kd.C_drew ?_))); (case side4 => exact HC0_4.out); (case side5 => repeat (first | exact (Kd.C_below HR0_5.out HB.out) | (with_reducible refine Kd.C_alloc ?_ _) | (with_reducible refine Kd.C_drewN ?_ _) | (with_reducible refine Kd.C_drew ?_))); (case side6 => exact HC0_5.out); (case side7 => exact GW.under HG.out (by repeat (first | (with_reducible first | exact HB.out | apply below_alloc | apply pw_below_drewN | apply below_drew1 | refine below_set ?_ GE242.out) | exact HB.out))); rintro e w15 ⟨rfl, hb⟩; refine ⟨_, rfl, ?_⟩; have n0_ := Aside0.mk (blk_below (g := gb242) (o := .cells #[.string a0_0, .bool a0_1, .int .i64 a0_2, .slice A0_3 l0_3.length c0_3, .slice A0_4 l0_4.length c0_4, .slice A0_5 l0_5.length c0_5] 26 (0, 0)) (by (with_reducible repeat (first | refine blk_drewN ?_ _ | refine blk_drew ?_ | refine blk_alloc ?_ _)); exact BK242.out) hb); have n1_ := Aside0.mk (below_step (by repeat (first | (with_reducible first | exact HB.out | apply below_alloc | apply pw_below_drewN | apply below_drew1 | refine below_set ?_ GE242.out) | exact HB.out)) hb); clear BK242; clear HB; have BK242 := n0_; have HB := n1_; clear n0_ n1_; (try clear hb); (try clear hb2); (try clear hk); (try clear hi); have hcz16_0 : w15.cell? ⟨gb242, 0, none⟩ = some (.string a0_0) := (blk_cell BK242.out 0).trans rfl; have hcz16_1 : w15.cell? ⟨gb242, 1, none⟩ = some (.bool a0_1) := (blk_cell BK242.out 1).trans rfl; have hcz16_2 : w15.cell? ⟨gb242, 2, none⟩ = some (.int .i64 a0_2) := (blk_cell BK242.out 2).trans rfl; have hcz16_3 : w15.cell? ⟨gb242, 3, none⟩ = some (.slice A0_3 l0_3.length c0_3) := (blk_cell BK242.out 3).trans rfl; have hcz16_4 : w15.cell? ⟨gb242, 4, none⟩ = some (.slice A0_4 l0_4.length c0_4) := (blk_cell BK242.out 4).trans rfl; have hcz16_5 : w15.cell? ⟨gb242, 5, none⟩ = some (.slice A0_5 l0_5.length c0_5) := (blk_cell BK242.out 5).trans rfl; have hfz16_0 := blk_frozen BK242.out 0; have hfz16_1 := blk_frozen BK242.out 1; have hfz16_2 := blk_frozen BK242.out 2; have hfz16_3 := blk_frozen BK242.out 3; have hfz16_4 := blk_frozen BK242.out 4; have hfz16_5 := blk_frozen BK242.out 5; have p246 : 0 ≤ (t244 : Int) := of_decide_eq_true (by first | (with_reducible assumption) | assumption); have q246 : t244 < (l0_3.length : Int) := of_decide_eq_true (by first | (with_reducible assumption) | assumption); obtain ⟨ad246, e246, hx246_0, hx246_1⟩ := at_T31 HR0_3.out t244 p246 q246; cases e246; replace hx246_0 := (HB.out.cell (World.block_lt_of_cell? w _ hx246_0)).trans hx246_0; replace hx246_1 := (HB.out.cell (World.block_lt_of_cell? w _ hx246_1)).trans hx246_1; replace p246 := eq_true p246; replace q246 := eq_true q246) | ((with_reducible refine gate_callee (f := 28) rfl ?_); refine goesL_ (some 29) rfl rfl Tryz.func28 (by kernel_rfl) rfl #[.int .i64 ((rd_T31 l0_3 t244).f1), .int .i64 a2] rfl (by (try simp only [List.map_toArray, List.map_cons, List.map_nil]); first | done | rfl | (simp only [List.length_drop, List.length_take]; rfl)) ?_; (with_reducible refine (font_scale.calls ((rd_T31 l0_3 t244).f1) a2 t247 _ A10.out).mono ?_); rintro e w' ⟨rfl, ⟨nd, rfl⟩⟩; refine ⟨_, rfl, ?_⟩))
     go_ret2
     exact ⟨by first | rfl | (simp [errW_none, errW_some] <;> rfl) | (simp [*, errW_none, errW_some] <;> rfl), by repeat (first | (with_reducible first | exact HB.out | apply below_alloc | apply pw_below_drewN | apply below_drew1 | refine below_set ?_ GE242.out) | exact HB.out)⟩
    ·rw [if_neg c9] at H
     exact absurd H (by simp)
   ·rw [if_neg c8] at H
    exact absurd H (by simp)
  ·replace c7 := Bool.eq_false_iff.mpr c7
   subst c7
   have H1 : (some (0, 3)) = some (r1, r2) := by rw [if_neg (show ¬ (false = true) by decide)] at H; exact H
   clear H
   have H := H1
   clear H1
   simp only [Option.some.injEq, Prod.mk.injEq] at H
   obtain ⟨rfl, rfl⟩ := H
   go_enter Tryz.func11, Tryz.ntmps11
   go_wp2_with (first | ((with_reducible refine gate_dst (N := 3) rfl ?_); refine box_event ?hg (N := 3) ?hd (cs := #[.string a0_0, .bool a0_1, .int .i64 a0_2, .slice A0_3 l0_3.length c0_3, .slice A0_4 l0_4.length c0_4, .slice A0_5 l0_5.length c0_5]) (t := 26) ?hr ?_; (case hd => rfl); (case hg => rfl); (case hr => first | (go_simp; done) | (go_simp; rfl)); intro gb242 hg w17 hbox hb; have n0_ := Aside0.mk (below_step (by repeat (first | (with_reducible first | exact HB.out | apply below_alloc | apply pw_below_drewN | apply below_drew1) | exact HB.out)) hb); have n1_ := Aside0.mk (hbox); have n2_ := Aside0.mk ((by rw [hg]; exact (below_size (by repeat (first | (with_reducible first | exact HB.out | apply below_alloc | apply pw_below_drewN | apply below_drew1) | exact HB.out))) : w.heap.size ≤ gb242)); have n3_ := Aside0.mk ((by rw [hg]; exact (below_size (by repeat (first | (with_reducible first | exact HB.out | apply below_alloc | apply pw_below_drewN | apply below_drew1) | exact HB.out))) : w.heap.size ≤ gb242)); clear HB; have HB := n0_; have BK242 := n1_; have GW242 := n2_; have GE242 := n3_; clear n0_ n1_ n2_ n3_; clear hb hbox hg; have hcz18_0 : w17.cell? ⟨gb242, 0, none⟩ = some (.string a0_0) := (blk_cell BK242.out 0).trans rfl; have hcz18_1 : w17.cell? ⟨gb242, 1, none⟩ = some (.bool a0_1) := (blk_cell BK242.out 1).trans rfl; have hcz18_2 : w17.cell? ⟨gb242, 2, none⟩ = some (.int .i64 a0_2) := (blk_cell BK242.out 2).trans rfl; have hcz18_3 : w17.cell? ⟨gb242, 3, none⟩ = some (.slice A0_3 l0_3.length c0_3) := (blk_cell BK242.out 3).trans rfl; have hcz18_4 : w17.cell? ⟨gb242, 4, none⟩ = some (.slice A0_4 l0_4.length c0_4) := (blk_cell BK242.out 4).trans rfl; have hcz18_5 : w17.cell? ⟨gb242, 5, none⟩ = some (.slice A0_5 l0_5.length c0_5) := (blk_cell BK242.out 5).trans rfl; have hfz18_0 := blk_frozen BK242.out 0; have hfz18_1 := blk_frozen BK242.out 1; have hfz18_2 := blk_frozen BK242.out 2; have hfz18_3 := blk_frozen BK242.out 3; have hfz18_4 := blk_frozen BK242.out 4; have hfz18_5 := blk_frozen BK242.out 5) | ((with_reducible refine gate_callee (f := 26) rfl ?_); refine goesL_ (some 12) rfl rfl Tryz.func26 (by kernel_rfl) rfl #[.agg #[.string a0_0, .bool a0_1, .int .i64 a0_2, .slice A0_3 l0_3.length c0_3, .slice A0_4 l0_4.length c0_4, .slice A0_5 l0_5.length c0_5], .int .i64 a2] rfl (by (try simp only [List.map_toArray, List.map_cons, List.map_nil]); first | done | rfl | (simp only [List.length_drop, List.length_take]; rfl)) ?_; (with_reducible refine (font_fair.calls a0_0 a0_1 a0_2 _ _ l0_3 _ _ l0_4 _ _ l0_5 a2 true _ ?side1 ?side2 ?side3 ?side4 ?side5 ?side6 ?side7 A4.out).mono ?_); (case side1 => repeat (first | exact (Kd.C_below HR0_3.out HB.out) | (with_reducible refine Kd.C_alloc ?_ _) | (with_reducible refine Kd.C_drewN ?_ _) | (with_reducible refine Kd.C_drew ?_))); (case side2 => exact HC0_3.out); (case side3 => repeat (first | exact (Kd.C_below HR0_4.out HB.out) | (with_reducible refine Kd.C_alloc ?_ _) | (with_reducible refine Kd.C_drewN ?_ _) | (with_reducible refine Kd.C_drew ?_))); (case side4 => exact HC0_4.out); (case side5 => repeat (first | exact (Kd.C_below HR0_5.out HB.out) | (with_reducible refine Kd.C_alloc ?_ _) | (with_reducible refine Kd.C_drewN ?_ _) | (with_reducible refine Kd.C_drew ?_))); (case side6 => exact HC0_5.out); (case side7 => exact GW.under HG.out (by repeat (first | (with_reducible first | exact HB.out | apply below_alloc | apply pw_below_drewN | apply below_drew1 | refine below_set ?_ GE242.out) | exact HB.out))); rintro e w19 ⟨rfl, hb⟩; refine ⟨_, rfl, ?_⟩; have n0_ := Aside0.mk (blk_below (g := gb242) (o := .cells #[.string a0_0, .bool a0_1, .int .i64 a0_2, .slice A0_3 l0_3.length c0_3, .slice A0_4 l0_4.length c0_4, .slice A0_5 l0_5.length c0_5] 26 (0, 0)) (by (with_reducible repeat (first | refine blk_drewN ?_ _ | refine blk_drew ?_ | refine blk_alloc ?_ _)); exact BK242.out) hb); have n1_ := Aside0.mk (below_step (by repeat (first | (with_reducible first | exact HB.out | apply below_alloc | apply pw_below_drewN | apply below_drew1 | refine below_set ?_ GE242.out) | exact HB.out)) hb); clear BK242; clear HB; have BK242 := n0_; have HB := n1_; clear n0_ n1_; (try clear hb); (try clear hb2); (try clear hk); (try clear hi); have hcz20_0 : w19.cell? ⟨gb242, 0, none⟩ = some (.string a0_0) := (blk_cell BK242.out 0).trans rfl; have hcz20_1 : w19.cell? ⟨gb242, 1, none⟩ = some (.bool a0_1) := (blk_cell BK242.out 1).trans rfl; have hcz20_2 : w19.cell? ⟨gb242, 2, none⟩ = some (.int .i64 a0_2) := (blk_cell BK242.out 2).trans rfl; have hcz20_3 : w19.cell? ⟨gb242, 3, none⟩ = some (.slice A0_3 l0_3.length c0_3) := (blk_cell BK242.out 3).trans rfl; have hcz20_4 : w19.cell? ⟨gb242, 4, none⟩ = some (.slice A0_4 l0_4.length c0_4) := (blk_cell BK242.out 4).trans rfl; have hcz20_5 : w19.cell? ⟨gb242, 5, none⟩ = some (.slice A0_5 l0_5.length c0_5) := (blk_cell BK242.out 5).trans rfl; have hfz20_0 := blk_frozen BK242.out 0; have hfz20_1 := blk_frozen BK242.out 1; have hfz20_2 := blk_frozen BK242.out 2; have hfz20_3 := blk_frozen BK242.out 3; have hfz20_4 := blk_frozen BK242.out 4; have hfz20_5 := blk_frozen BK242.out 5) | ((with_reducible refine gate_callee (f := 27) rfl ?_); refine goesL_ (some 17) rfl rfl Tryz.func27 (by kernel_rfl) rfl #[.agg #[.string a0_0, .bool a0_1, .int .i64 a0_2, .slice A0_3 l0_3.length c0_3, .slice A0_4 l0_4.length c0_4, .slice A0_5 l0_5.length c0_5], .string a1] rfl (by (try simp only [List.map_toArray, List.map_cons, List.map_nil]); first | done | rfl | (simp only [List.length_drop, List.length_take]; rfl)) ?_; (with_reducible refine (font_find.calls a0_0 a0_1 a0_2 _ _ l0_3 _ _ l0_4 _ _ l0_5 a1 t244 false _ ?side1 ?side2 ?side3 ?side4 ?side5 ?side6 ?side7 A6.out).mono ?_); (case side1 => repeat (first | exact (Kd.C_below HR0_3.out HB.out) | (with_reducible refine Kd.C_alloc ?_ _) | (with_reducible refine Kd.C_drewN ?_ _) | (with_reducible refine Kd.C_drew ?_))); (case side2 => exact HC0_3.out); (case side3 => repeat (first | exact (Kd.C_below HR0_4.out HB.out) | (with_reducible refine Kd.C_alloc ?_ _) | (with_reducible refine Kd.C_drewN ?_ _) | (with_reducible refine Kd.C_drew ?_))); (case side4 => exact HC0_4.out); (case side5 => repeat (first | exact (Kd.C_below HR0_5.out HB.out) | (with_reducible refine Kd.C_alloc ?_ _) | (with_reducible refine Kd.C_drewN ?_ _) | (with_reducible refine Kd.C_drew ?_))); (case side6 => exact HC0_5.out); (case side7 => exact GW.under HG.out (by repeat (first | (with_reducible first | exact HB.out | apply below_alloc | apply pw_below_drewN | apply below_drew1 | refine below_set ?_ GE242.out) | exact HB.out))); rintro e w21 ⟨rfl, hb⟩; refine ⟨_, rfl, ?_⟩; have n0_ := Aside0.mk (blk_below (g := gb242) (o := .cells #[.string a0_0, .bool a0_1, .int .i64 a0_2, .slice A0_3 l0_3.length c0_3, .slice A0_4 l0_4.length c0_4, .slice A0_5 l0_5.length c0_5] 26 (0, 0)) (by (with_reducible repeat (first | refine blk_drewN ?_ _ | refine blk_drew ?_ | refine blk_alloc ?_ _)); exact BK242.out) hb); have n1_ := Aside0.mk (below_step (by repeat (first | (with_reducible first | exact HB.out | apply below_alloc | apply pw_below_drewN | apply below_drew1 | refine below_set ?_ GE242.out) | exact HB.out)) hb); clear BK242; clear HB; have BK242 := n0_; have HB := n1_; clear n0_ n1_; (try clear hb); (try clear hb2); (try clear hk); (try clear hi)))
   go_ret2
   exact ⟨by first | rfl | (simp [errW_none, errW_some] <;> rfl) | (simp [*, errW_none, errW_some] <;> rfl), by repeat (first | (with_reducible first | exact HB.out | apply below_alloc | apply pw_below_drewN | apply below_drew1 | refine below_set ?_ GE242.out) | exact HB.out)⟩
 ·replace c5 := Bool.eq_false_iff.mpr c5
  subst c5
  have H1 : (some (0, 1)) = some (r1, r2) := by rw [if_neg (show ¬ (false = true) by decide)] at H; exact H
  clear H
  have H := H1
  clear H1
  simp only [Option.some.injEq, Prod.mk.injEq] at H
  obtain ⟨rfl, rfl⟩ := H
  go_enter Tryz.func11, Tryz.ntmps11
  go_wp2_with (first | ((with_reducible refine gate_dst (N := 3) rfl ?_); refine box_event ?hg (N := 3) ?hd (cs := #[.string a0_0, .bool a0_1, .int .i64 a0_2, .slice A0_3 l0_3.length c0_3, .slice A0_4 l0_4.length c0_4, .slice A0_5 l0_5.length c0_5]) (t := 26) ?hr ?_; (case hd => rfl); (case hg => rfl); (case hr => first | (go_simp; done) | (go_simp; rfl)); intro gb242 hg w22 hbox hb; have n0_ := Aside0.mk (below_step (by repeat (first | (with_reducible first | exact HB.out | apply below_alloc | apply pw_below_drewN | apply below_drew1) | exact HB.out)) hb); have n1_ := Aside0.mk (hbox); have n2_ := Aside0.mk ((by rw [hg]; exact (below_size (by repeat (first | (with_reducible first | exact HB.out | apply below_alloc | apply pw_below_drewN | apply below_drew1) | exact HB.out))) : w.heap.size ≤ gb242)); have n3_ := Aside0.mk ((by rw [hg]; exact (below_size (by repeat (first | (with_reducible first | exact HB.out | apply below_alloc | apply pw_below_drewN | apply below_drew1) | exact HB.out))) : w.heap.size ≤ gb242)); clear HB; have HB := n0_; have BK242 := n1_; have GW242 := n2_; have GE242 := n3_; clear n0_ n1_ n2_ n3_; clear hb hbox hg; have hcz23_0 : w22.cell? ⟨gb242, 0, none⟩ = some (.string a0_0) := (blk_cell BK242.out 0).trans rfl; have hcz23_1 : w22.cell? ⟨gb242, 1, none⟩ = some (.bool a0_1) := (blk_cell BK242.out 1).trans rfl; have hcz23_2 : w22.cell? ⟨gb242, 2, none⟩ = some (.int .i64 a0_2) := (blk_cell BK242.out 2).trans rfl; have hcz23_3 : w22.cell? ⟨gb242, 3, none⟩ = some (.slice A0_3 l0_3.length c0_3) := (blk_cell BK242.out 3).trans rfl; have hcz23_4 : w22.cell? ⟨gb242, 4, none⟩ = some (.slice A0_4 l0_4.length c0_4) := (blk_cell BK242.out 4).trans rfl; have hcz23_5 : w22.cell? ⟨gb242, 5, none⟩ = some (.slice A0_5 l0_5.length c0_5) := (blk_cell BK242.out 5).trans rfl; have hfz23_0 := blk_frozen BK242.out 0; have hfz23_1 := blk_frozen BK242.out 1; have hfz23_2 := blk_frozen BK242.out 2; have hfz23_3 := blk_frozen BK242.out 3; have hfz23_4 := blk_frozen BK242.out 4; have hfz23_5 := blk_frozen BK242.out 5) | ((with_reducible refine gate_callee (f := 26) rfl ?_); refine goesL_ (some 12) rfl rfl Tryz.func26 (by kernel_rfl) rfl #[.agg #[.string a0_0, .bool a0_1, .int .i64 a0_2, .slice A0_3 l0_3.length c0_3, .slice A0_4 l0_4.length c0_4, .slice A0_5 l0_5.length c0_5], .int .i64 a2] rfl (by (try simp only [List.map_toArray, List.map_cons, List.map_nil]); first | done | rfl | (simp only [List.length_drop, List.length_take]; rfl)) ?_; (with_reducible refine (font_fair.calls a0_0 a0_1 a0_2 _ _ l0_3 _ _ l0_4 _ _ l0_5 a2 false _ ?side1 ?side2 ?side3 ?side4 ?side5 ?side6 ?side7 A4.out).mono ?_); (case side1 => repeat (first | exact (Kd.C_below HR0_3.out HB.out) | (with_reducible refine Kd.C_alloc ?_ _) | (with_reducible refine Kd.C_drewN ?_ _) | (with_reducible refine Kd.C_drew ?_))); (case side2 => exact HC0_3.out); (case side3 => repeat (first | exact (Kd.C_below HR0_4.out HB.out) | (with_reducible refine Kd.C_alloc ?_ _) | (with_reducible refine Kd.C_drewN ?_ _) | (with_reducible refine Kd.C_drew ?_))); (case side4 => exact HC0_4.out); (case side5 => repeat (first | exact (Kd.C_below HR0_5.out HB.out) | (with_reducible refine Kd.C_alloc ?_ _) | (with_reducible refine Kd.C_drewN ?_ _) | (with_reducible refine Kd.C_drew ?_))); (case side6 => exact HC0_5.out); (case side7 => exact GW.under HG.out (by repeat (first | (with_reducible first | exact HB.out | apply below_alloc | apply pw_below_drewN | apply below_drew1 | refine below_set ?_ GE242.out) | exact HB.out))); rintro e w24 ⟨rfl, hb⟩; refine ⟨_, rfl, ?_⟩; have n0_ := Aside0.mk (blk_below (g := gb242) (o := .cells #[.string a0_0, .bool a0_1, .int .i64 a0_2, .slice A0_3 l0_3.length c0_3, .slice A0_4 l0_4.length c0_4, .slice A0_5 l0_5.length c0_5] 26 (0, 0)) (by (with_reducible repeat (first | refine blk_drewN ?_ _ | refine blk_drew ?_ | refine blk_alloc ?_ _)); exact BK242.out) hb); have n1_ := Aside0.mk (below_step (by repeat (first | (with_reducible first | exact HB.out | apply below_alloc | apply pw_below_drewN | apply below_drew1 | refine below_set ?_ GE242.out) | exact HB.out)) hb); clear BK242; clear HB; have BK242 := n0_; have HB := n1_; clear n0_ n1_; (try clear hb); (try clear hb2); (try clear hk); (try clear hi)))
  go_ret2
  exact ⟨by first | rfl | (simp [errW_none, errW_some] <;> rfl) | (simp [*, errW_none, errW_some] <;> rfl), by repeat (first | (with_reducible first | exact HB.out | apply below_alloc | apply pw_below_drewN | apply below_drew1 | refine below_set ?_ GE242.out) | exact HB.out)⟩
def frisketlaw07_sane.f  : Option (Bool) := (font_Standard.f).bind fun t248 => (if (t248.length : Int) = 5 then (if 0 < (t248.length : Int) then ((font_Width.f ((rd_T26 t248 0).f0) ((rd_T26 t248 0).f1) ((rd_T26 t248 0).f2) ((rd_T26 t248 0).f3) ((rd_T26 t248 0).f4) ((rd_T26 t248 0).f5) (⟨#[109]⟩ : ByteArray) 10).bind fun bt252 => (if bt252.1 = 75 then (some (bt252.2 == 0)) else (some false))) else (none)) else (some false))
set_option maxHeartbeats 8000000 in
set_option maxRecDepth 100000 in
theorem frisketlaw07_sane.calls  (r : Bool) (w : World) (hG : GW w) (h : frisketlaw07_sane.f  = some r) :
  Calls Tryz.prog 12 #[] w fun e w' => e = .returned (.bool r) ∧ Below w.heap.size w w' := by
 have hu26 := Tryz.underlying26
 have HG := Aside0.mk hG
 clear hG
 have HB := Aside0.mk (Below.refl w.heap.size w)
 have H : ((font_Standard.f).bind fun t248 => (if (t248.length : Int) = 5 then (if 0 < (t248.length : Int) then ((font_Width.f ((rd_T26 t248 0).f0) ((rd_T26 t248 0).f1) ((rd_T26 t248 0).f2) ((rd_T26 t248 0).f3) ((rd_T26 t248 0).f4) ((rd_T26 t248 0).f5) (⟨#[109]⟩ : ByteArray) 10).bind fun bt252 => (if bt252.1 = 75 then (some (bt252.2 == 0)) else (some false))) else (none)) else (some false))) = some r := h
 clear h
 replace H := Option.bind_eq_some_iff.mp H
 obtain ⟨t248, A10, H⟩ := H
 replace H : (if (t248.length : Int) = 5 then (if 0 < (t248.length : Int) then ((font_Width.f ((rd_T26 t248 0).f0) ((rd_T26 t248 0).f1) ((rd_T26 t248 0).f2) ((rd_T26 t248 0).f3) ((rd_T26 t248 0).f4) ((rd_T26 t248 0).f5) (⟨#[109]⟩ : ByteArray) 10).bind fun bt252 => (if bt252.1 = 75 then (some (bt252.2 == 0)) else (some false))) else (none)) else (some false)) = some r := H
 have A1 := Aside0.mk A10
 clear A10
 by_cases c2 : (t248.length : Int) = 5
 ·rw [if_pos c2] at H
  have c2b0 : ((t248.length : Int) == 5) = true := beq_iff_eq.mpr c2
  have c2b1 : ((t248.length : Int) != 5) = false := bne_eq_false_iff_eq.mpr c2
  clear c2
  by_cases c3 : 0 < (t248.length : Int)
  ·rw [if_pos c3] at H
   have c3b0 : decide (0 < (t248.length : Int)) = true := decide_eq_true c3
   have c3b1 : decide (0 < t248.length) = true := decide_eq_true (by omega)
   clear c3
   replace H := Option.bind_eq_some_iff.mp H
   obtain ⟨⟨t252, t253⟩, A40, H⟩ := H
   replace H : (if t252 = 75 then (some (t253 == 0)) else (some false)) = some r := H
   have A4 := Aside0.mk A40
   clear A40
   by_cases c5 : t252 = 75
   ·rw [if_pos c5] at H
    have c5b0 : (t252 == 75) = true := beq_iff_eq.mpr c5
    have c5b1 : (t252 != 75) = false := bne_eq_false_iff_eq.mpr c5
    clear c5
    obtain rfl := Option.some.inj H
    go_enter Tryz.func12, Tryz.ntmps12
    go_wp2_with (first | ((with_reducible refine gate_callee (f := 13) rfl ?_); refine goesL_ (some 4) rfl rfl Tryz.func13 (by kernel_rfl) rfl #[] rfl (by (try simp only [List.map_toArray, List.map_cons, List.map_nil]); first | done | rfl | (simp only [List.length_drop, List.length_take]; rfl)) ?_; (with_reducible refine (font_Standard.calls  t248 _ ?side1 A1.out).mono ?_); (case side1 => exact GW.under HG.out (by repeat (first | (with_reducible first | exact HB.out | apply below_alloc | apply pw_below_drewN | apply below_drew1) | exact HB.out))); rintro e w6 ⟨v249, rfl, ho0, hb⟩; refine ⟨_, rfl, ?_⟩; have n0_ := Aside0.mk (Kd.S_lower ho0 (below_size (by repeat (first | (with_reducible first | exact HB.out | apply below_alloc | apply pw_below_drewN | apply below_drew1) | exact HB.out)))); have n1_ := Aside0.mk (below_step (by repeat (first | (with_reducible first | exact HB.out | apply below_alloc | apply pw_below_drewN | apply below_drew1) | exact HB.out)) hb); clear HB; have HO250 := n0_; have HB := n1_; clear n0_ n1_; (try clear hb); (try clear hb2); (try clear hk); (try clear hi); (try clear ho0); obtain ⟨Ao7, co7, eo7⟩ := Kd.S_slice HO250.out; subst eo7; have p251 : 0 ≤ (0 : Int) := (by omega); have q251 : 0 < (t248.length : Int) := of_decide_eq_true (by first | (with_reducible assumption) | assumption); obtain ⟨ad251, A251_3, c251_3, A251_4, c251_4, A251_5, c251_5, e251, hx251_0, hx251_1, hx251_2, hx251_3, hx251_4, hx251_5, hl251_3, hi251_3, hl251_4, hi251_4, hl251_5, hi251_5⟩ := at_T26 (Kd.S_reads' HO250.out).2.2 0 p251 q251; cases e251; obtain ⟨ce251, hce251, hMe251, hcc251⟩ := Kd.S_get HO250.out z26 0 p251 (by first | exact q251 | exact of_decide_eq_true (by first | (with_reducible assumption) | assumption) | (have e_ := (Kd.S_reads' HO250.out).1; omega)); obtain ⟨ve251_3, ve251_4, ve251_5, rfl, ge251_3, ge251_4, ge251_5⟩ := k26_openM hMe251; have hv251_3 := hcc251 3 _ rfl; rw [add_field _ _ 3 (by omega)] at hv251_3; replace hv251_3 := Option.some.inj (hv251_3.symm.trans hx251_3); rw [hv251_3] at ge251_3; have HL251_3 := Aside0.mk (show Kd.R k31 31 _ _ _ _ ((rd_T26 t248 0).f3) from ge251_3); clear hv251_3 ge251_3; have hv251_4 := hcc251 4 _ rfl; rw [add_field _ _ 4 (by omega)] at hv251_4; replace hv251_4 := Option.some.inj (hv251_4.symm.trans hx251_4); rw [hv251_4] at ge251_4; have HL251_4 := Aside0.mk (show Kd.R k86 86 _ _ _ _ ((rd_T26 t248 0).f4) from ge251_4); clear hv251_4 ge251_4; have hv251_5 := hcc251 5 _ rfl; rw [add_field _ _ 5 (by omega)] at hv251_5; replace hv251_5 := Option.some.inj (hv251_5.symm.trans hx251_5); rw [hv251_5] at ge251_5; have HL251_5 := Aside0.mk (show Kd.R k76 76 _ _ _ _ ((rd_T26 t248 0).f5) from ge251_5); clear hv251_5 ge251_5; clear hcc251 hce251; have qi251 : (0 < t248.length) = True := eq_true (by omega); (try rw [show ((0 : Int)).toNat = 0 from rfl] at hx251_0); (try rw [show 0 * 6 = 0 from rfl] at hx251_0); (try rw [Addr.add_zero'] at hx251_0); (try rw [show ((0 : Int)).toNat = 0 from rfl] at hx251_1); (try rw [show 0 * 6 = 0 from rfl] at hx251_1); (try rw [Addr.add_zero'] at hx251_1); (try rw [show ((0 : Int)).toNat = 0 from rfl] at hx251_2); (try rw [show 0 * 6 = 0 from rfl] at hx251_2); (try rw [Addr.add_zero'] at hx251_2); (try rw [show ((0 : Int)).toNat = 0 from rfl] at hx251_3); (try rw [show 0 * 6 = 0 from rfl] at hx251_3); (try rw [Addr.add_zero'] at hx251_3); (try rw [show ((0 : Int)).toNat = 0 from rfl] at hx251_4); (try rw [show 0 * 6 = 0 from rfl] at hx251_4); (try rw [Addr.add_zero'] at hx251_4); (try rw [show ((0 : Int)).toNat = 0 from rfl] at hx251_5); (try rw [show 0 * 6 = 0 from rfl] at hx251_5); (try rw [Addr.add_zero'] at hx251_5); have HR251_3 := Aside0.mk hi251_3; have HC251_3 := Aside0.mk hl251_3; clear hi251_3 hl251_3; have HR251_4 := Aside0.mk hi251_4; have HC251_4 := Aside0.mk hl251_4; clear hi251_4 hl251_4; have HR251_5 := Aside0.mk hi251_5; have HC251_5 := Aside0.mk hl251_5; clear hi251_5 hl251_5; replace p251 := eq_true p251; replace q251 := eq_true q251) | ((with_reducible refine gate_callee (f := 11) rfl ?_); refine goesL_ (some 12) rfl rfl Tryz.func11 (by kernel_rfl) rfl #[.agg #[.string ((rd_T26 t248 0).f0), .bool ((rd_T26 t248 0).f1), .int .i64 ((rd_T26 t248 0).f2), .slice A251_3 ((rd_T26 t248 0).f3).length c251_3, .slice A251_4 ((rd_T26 t248 0).f4).length c251_4, .slice A251_5 ((rd_T26 t248 0).f5).length c251_5], .string (⟨#[109]⟩ : ByteArray), .int .i64 10] rfl (by (try simp only [List.map_toArray, List.map_cons, List.map_nil]); first | done | rfl | (simp only [List.length_drop, List.length_take]; rfl)) ?_; (with_reducible refine (font_Width.calls ((rd_T26 t248 0).f0) ((rd_T26 t248 0).f1) ((rd_T26 t248 0).f2) _ _ ((rd_T26 t248 0).f3) _ _ ((rd_T26 t248 0).f4) _ _ ((rd_T26 t248 0).f5) (⟨#[109]⟩ : ByteArray) 10 t252 t253 _ ?side1 ?side2 ?side3 ?side4 ?side5 ?side6 ?side7 A4.out).mono ?_); (case side1 => repeat (first | exact (by repeat (first | (with_reducible exact HR251_3.out) | (with_reducible refine Kd.C_alloc ?_ _) | (with_reducible refine Kd.C_drewN ?_ _) | (with_reducible refine Kd.C_drew ?_) | exact HR251_3.out)) | (with_reducible refine Kd.C_alloc ?_ _) | (with_reducible refine Kd.C_drewN ?_ _) | (with_reducible refine Kd.C_drew ?_))); (case side2 => exact HC251_3.out); (case side3 => repeat (first | exact (by repeat (first | (with_reducible exact HR251_4.out) | (with_reducible refine Kd.C_alloc ?_ _) | (with_reducible refine Kd.C_drewN ?_ _) | (with_reducible refine Kd.C_drew ?_) | exact HR251_4.out)) | (with_reducible refine Kd.C_alloc ?_ _) | (with_reducible refine Kd.C_drewN ?_ _) | (with_reducible refine Kd.C_drew ?_))); (case side4 => exact HC251_4.out); (case side5 => repeat (first | exact (by repeat (first | (with_reducible exact HR251_5.out) | (with_reducible refine Kd.C_alloc ?_ _) | (with_reducible refine Kd.C_drewN ?_ _) | (with_reducible refine Kd.C_drew ?_) | exact HR251_5.out)) | (with_reducible refine Kd.C_alloc ?_ _) | (with_reducible refine Kd.C_drewN ?_ _) | (with_reducible refine Kd.C_drew ?_))); (case side6 => exact HC251_5.out); (case side7 => exact GW.under HG.out (by repeat (first | (with_reducible first | exact HB.out | apply below_alloc | apply pw_below_drewN | apply below_drew1) | exact HB.out))); rintro e w8 ⟨rfl, hb⟩; refine ⟨_, rfl, ?_⟩; have n0_ := Aside0.mk (Kd.S_below (by (with_reducible repeat (first | apply Kd.S_alloc | apply Kd.S_drewN | apply Kd.S_drew)); exact HO250.out) hb); have n1_ := Aside0.mk (Kd.R_below (by (with_reducible repeat (first | apply Kd.R_alloc | apply Kd.R_drewN | apply Kd.R_drew)); exact HL251_3.out) hb); have n2_ := Aside0.mk (Kd.R_below (by (with_reducible repeat (first | apply Kd.R_alloc | apply Kd.R_drewN | apply Kd.R_drew)); exact HL251_4.out) hb); have n3_ := Aside0.mk (Kd.R_below (by (with_reducible repeat (first | apply Kd.R_alloc | apply Kd.R_drewN | apply Kd.R_drew)); exact HL251_5.out) hb); have n4_ := Aside0.mk (Kd.C_below (by repeat (first | (with_reducible exact HR251_3.out) | (with_reducible refine Kd.C_alloc ?_ _) | (with_reducible refine Kd.C_drewN ?_ _) | (with_reducible refine Kd.C_drew ?_) | exact HR251_3.out)) hb); have n5_ := Aside0.mk (Kd.C_below (by repeat (first | (with_reducible exact HR251_4.out) | (with_reducible refine Kd.C_alloc ?_ _) | (with_reducible refine Kd.C_drewN ?_ _) | (with_reducible refine Kd.C_drew ?_) | exact HR251_4.out)) hb); have n6_ := Aside0.mk (Kd.C_below (by repeat (first | (with_reducible exact HR251_5.out) | (with_reducible refine Kd.C_alloc ?_ _) | (with_reducible refine Kd.C_drewN ?_ _) | (with_reducible refine Kd.C_drew ?_) | exact HR251_5.out)) hb); have n7_ := Aside0.mk (below_step (by repeat (first | (with_reducible first | exact HB.out | apply below_alloc | apply pw_below_drewN | apply below_drew1) | exact HB.out)) hb); clear HO250; clear HL251_3; clear HL251_4; clear HL251_5; clear HR251_3; clear HR251_4; clear HR251_5; clear HB; have HO250 := n0_; have HL251_3 := n1_; have HL251_4 := n2_; have HL251_5 := n3_; have HR251_3 := n4_; have HR251_4 := n5_; have HR251_5 := n6_; have HB := n7_; clear n0_ n1_ n2_ n3_ n4_ n5_ n6_ n7_; (try clear hb); (try clear hb2); (try clear hk); (try clear hi)))
    go_ret
    exact ⟨by first | rfl | (simp [errW_none, errW_some] <;> rfl) | (simp [*, errW_none, errW_some] <;> rfl), by repeat (first | (with_reducible first | exact HB.out | apply below_alloc | apply pw_below_drewN | apply below_drew1) | exact HB.out)⟩
   ·rw [if_neg c5] at H
    have c5b0 : (t252 == 75) = false := beq_eq_false_iff_ne.mpr c5
    have c5b1 : (t252 != 75) = true := bne_iff_ne.mpr c5
    obtain rfl := Option.some.inj H
    go_enter Tryz.func12, Tryz.ntmps12
    go_wp2_with (first | ((with_reducible refine gate_callee (f := 13) rfl ?_); refine goesL_ (some 4) rfl rfl Tryz.func13 (by kernel_rfl) rfl #[] rfl (by (try simp only [List.map_toArray, List.map_cons, List.map_nil]); first | done | rfl | (simp only [List.length_drop, List.length_take]; rfl)) ?_; (with_reducible refine (font_Standard.calls  t248 _ ?side1 A1.out).mono ?_); (case side1 => exact GW.under HG.out (by repeat (first | (with_reducible first | exact HB.out | apply below_alloc | apply pw_below_drewN | apply below_drew1) | exact HB.out))); rintro e w9 ⟨v249, rfl, ho0, hb⟩; refine ⟨_, rfl, ?_⟩; have n0_ := Aside0.mk (Kd.S_lower ho0 (below_size (by repeat (first | (with_reducible first | exact HB.out | apply below_alloc | apply pw_below_drewN | apply below_drew1) | exact HB.out)))); have n1_ := Aside0.mk (below_step (by repeat (first | (with_reducible first | exact HB.out | apply below_alloc | apply pw_below_drewN | apply below_drew1) | exact HB.out)) hb); clear HB; have HO250 := n0_; have HB := n1_; clear n0_ n1_; (try clear hb); (try clear hb2); (try clear hk); (try clear hi); (try clear ho0); obtain ⟨Ao10, co10, eo10⟩ := Kd.S_slice HO250.out; subst eo10; have p251 : 0 ≤ (0 : Int) := (by omega); have q251 : 0 < (t248.length : Int) := of_decide_eq_true (by first | (with_reducible assumption) | assumption); obtain ⟨ad251, A251_3, c251_3, A251_4, c251_4, A251_5, c251_5, e251, hx251_0, hx251_1, hx251_2, hx251_3, hx251_4, hx251_5, hl251_3, hi251_3, hl251_4, hi251_4, hl251_5, hi251_5⟩ := at_T26 (Kd.S_reads' HO250.out).2.2 0 p251 q251; cases e251; obtain ⟨ce251, hce251, hMe251, hcc251⟩ := Kd.S_get HO250.out z26 0 p251 (by first | exact q251 | exact of_decide_eq_true (by first | (with_reducible assumption) | assumption) | (have e_ := (Kd.S_reads' HO250.out).1; omega)); obtain ⟨ve251_3, ve251_4, ve251_5, rfl, ge251_3, ge251_4, ge251_5⟩ := k26_openM hMe251; have hv251_3 := hcc251 3 _ rfl; rw [add_field _ _ 3 (by omega)] at hv251_3; replace hv251_3 := Option.some.inj (hv251_3.symm.trans hx251_3); rw [hv251_3] at ge251_3; have HL251_3 := Aside0.mk (show Kd.R k31 31 _ _ _ _ ((rd_T26 t248 0).f3) from ge251_3); clear hv251_3 ge251_3; have hv251_4 := hcc251 4 _ rfl; rw [add_field _ _ 4 (by omega)] at hv251_4; replace hv251_4 := Option.some.inj (hv251_4.symm.trans hx251_4); rw [hv251_4] at ge251_4; have HL251_4 := Aside0.mk (show Kd.R k86 86 _ _ _ _ ((rd_T26 t248 0).f4) from ge251_4); clear hv251_4 ge251_4; have hv251_5 := hcc251 5 _ rfl; rw [add_field _ _ 5 (by omega)] at hv251_5; replace hv251_5 := Option.some.inj (hv251_5.symm.trans hx251_5); rw [hv251_5] at ge251_5; have HL251_5 := Aside0.mk (show Kd.R k76 76 _ _ _ _ ((rd_T26 t248 0).f5) from ge251_5); clear hv251_5 ge251_5; clear hcc251 hce251; have qi251 : (0 < t248.length) = True := eq_true (by omega); (try rw [show ((0 : Int)).toNat = 0 from rfl] at hx251_0); (try rw [show 0 * 6 = 0 from rfl] at hx251_0); (try rw [Addr.add_zero'] at hx251_0); (try rw [show ((0 : Int)).toNat = 0 from rfl] at hx251_1); (try rw [show 0 * 6 = 0 from rfl] at hx251_1); (try rw [Addr.add_zero'] at hx251_1); (try rw [show ((0 : Int)).toNat = 0 from rfl] at hx251_2); (try rw [show 0 * 6 = 0 from rfl] at hx251_2); (try rw [Addr.add_zero'] at hx251_2); (try rw [show ((0 : Int)).toNat = 0 from rfl] at hx251_3); (try rw [show 0 * 6 = 0 from rfl] at hx251_3); (try rw [Addr.add_zero'] at hx251_3); (try rw [show ((0 : Int)).toNat = 0 from rfl] at hx251_4); (try rw [show 0 * 6 = 0 from rfl] at hx251_4); (try rw [Addr.add_zero'] at hx251_4); (try rw [show ((0 : Int)).toNat = 0 from rfl] at hx251_5); (try rw [show 0 * 6 = 0 from rfl] at hx251_5); (try rw [Addr.add_zero'] at hx251_5); have HR251_3 := Aside0.mk hi251_3; have HC251_3 := Aside0.mk hl251_3; clear hi251_3 hl251_3; have HR251_4 := Aside0.mk hi251_4; have HC251_4 := Aside0.mk hl251_4; clear hi251_4 hl251_4; have HR251_5 := Aside0.mk hi251_5; have HC251_5 := Aside0.mk hl251_5; clear hi251_5 hl251_5; replace p251 := eq_true p251; replace q251 := eq_true q251) | ((with_reducible refine gate_callee (f := 11) rfl ?_); refine goesL_ (some 12) rfl rfl Tryz.func11 (by kernel_rfl) rfl #[.agg #[.string ((rd_T26 t248 0).f0), .bool ((rd_T26 t248 0).f1), .int .i64 ((rd_T26 t248 0).f2), .slice A251_3 ((rd_T26 t248 0).f3).length c251_3, .slice A251_4 ((rd_T26 t248 0).f4).length c251_4, .slice A251_5 ((rd_T26 t248 0).f5).length c251_5], .string (⟨#[109]⟩ : ByteArray), .int .i64 10] rfl (by (try simp only [List.map_toArray, List.map_cons, List.map_nil]); first | done | rfl | (simp only [List.length_drop, List.length_take]; rfl)) ?_; (with_reducible refine (font_Width.calls ((rd_T26 t248 0).f0) ((rd_T26 t248 0).f1) ((rd_T26 t248 0).f2) _ _ ((rd_T26 t248 0).f3) _ _ ((rd_T26 t248 0).f4) _ _ ((rd_T26 t248 0).f5) (⟨#[109]⟩ : ByteArray) 10 t252 t253 _ ?side1 ?side2 ?side3 ?side4 ?side5 ?side6 ?side7 A4.out).mono ?_); (case side1 => repeat (first | exact (by repeat (first | (with_reducible exact HR251_3.out) | (with_reducible refine Kd.C_alloc ?_ _) | (with_reducible refine Kd.C_drewN ?_ _) | (with_reducible refine Kd.C_drew ?_) | exact HR251_3.out)) | (with_reducible refine Kd.C_alloc ?_ _) | (with_reducible refine Kd.C_drewN ?_ _) | (with_reducible refine Kd.C_drew ?_))); (case side2 => exact HC251_3.out); (case side3 => repeat (first | exact (by repeat (first | (with_reducible exact HR251_4.out) | (with_reducible refine Kd.C_alloc ?_ _) | (with_reducible refine Kd.C_drewN ?_ _) | (with_reducible refine Kd.C_drew ?_) | exact HR251_4.out)) | (with_reducible refine Kd.C_alloc ?_ _) | (with_reducible refine Kd.C_drewN ?_ _) | (with_reducible refine Kd.C_drew ?_))); (case side4 => exact HC251_4.out); (case side5 => repeat (first | exact (by repeat (first | (with_reducible exact HR251_5.out) | (with_reducible refine Kd.C_alloc ?_ _) | (with_reducible refine Kd.C_drewN ?_ _) | (with_reducible refine Kd.C_drew ?_) | exact HR251_5.out)) | (with_reducible refine Kd.C_alloc ?_ _) | (with_reducible refine Kd.C_drewN ?_ _) | (with_reducible refine Kd.C_drew ?_))); (case side6 => exact HC251_5.out); (case side7 => exact GW.under HG.out (by repeat (first | (with_reducible first | exact HB.out | apply below_alloc | apply pw_below_drewN | apply below_drew1) | exact HB.out))); rintro e w11 ⟨rfl, hb⟩; refine ⟨_, rfl, ?_⟩; have n0_ := Aside0.mk (Kd.S_below (by (with_reducible repeat (first | apply Kd.S_alloc | apply Kd.S_drewN | apply Kd.S_drew)); exact HO250.out) hb); have n1_ := Aside0.mk (Kd.R_below (by (with_reducible repeat (first | apply Kd.R_alloc | apply Kd.R_drewN | apply Kd.R_drew)); exact HL251_3.out) hb); have n2_ := Aside0.mk (Kd.R_below (by (with_reducible repeat (first | apply Kd.R_alloc | apply Kd.R_drewN | apply Kd.R_drew)); exact HL251_4.out) hb); have n3_ := Aside0.mk (Kd.R_below (by (with_reducible repeat (first | apply Kd.R_alloc | apply Kd.R_drewN | apply Kd.R_drew)); exact HL251_5.out) hb); have n4_ := Aside0.mk (Kd.C_below (by repeat (first | (with_reducible exact HR251_3.out) | (with_reducible refine Kd.C_alloc ?_ _) | (with_reducible refine Kd.C_drewN ?_ _) | (with_reducible refine Kd.C_drew ?_) | exact HR251_3.out)) hb); have n5_ := Aside0.mk (Kd.C_below (by repeat (first | (with_reducible exact HR251_4.out) | (with_reducible refine Kd.C_alloc ?_ _) | (with_reducible refine Kd.C_drewN ?_ _) | (with_reducible refine Kd.C_drew ?_) | exact HR251_4.out)) hb); have n6_ := Aside0.mk (Kd.C_below (by repeat (first | (with_reducible exact HR251_5.out) | (with_reducible refine Kd.C_alloc ?_ _) | (with_reducible refine Kd.C_drewN ?_ _) | (with_reducible refine Kd.C_drew ?_) | exact HR251_5.out)) hb); have n7_ := Aside0.mk (below_step (by repeat (first | (with_reducible first | exact HB.out | apply below_alloc | apply pw_below_drewN | apply below_drew1) | exact HB.out)) hb); clear HO250; clear HL251_3; clear HL251_4; clear HL251_5; clear HR251_3; clear HR251_4; clear HR251_5; clear HB; have HO250 := n0_; have HL251_3 := n1_; have HL251_4 := n2_; have HL251_5 := n3_; have HR251_3 := n4_; have HR251_4 := n5_; have HR251_5 := n6_; have HB := n7_; clear n0_ n1_ n2_ n3_ n4_ n5_ n6_ n7_; (try clear hb); (try clear hb2); (try clear hk); (try clear hi)))
    go_ret
    exact ⟨by first | rfl | (simp [errW_none, errW_some] <;> rfl) | (simp [*, errW_none, errW_some] <;> rfl), by repeat (first | (with_reducible first | exact HB.out | apply below_alloc | apply pw_below_drewN | apply below_drew1) | exact HB.out)⟩
  ·rw [if_neg c3] at H
   exact absurd H (by simp)
 ·rw [if_neg c2] at H
  have c2b0 : ((t248.length : Int) == 5) = false := beq_eq_false_iff_ne.mpr c2
  have c2b1 : ((t248.length : Int) != 5) = true := bne_iff_ne.mpr c2
  obtain rfl := Option.some.inj H
  go_enter Tryz.func12, Tryz.ntmps12
  go_wp2_with (first | ((with_reducible refine gate_callee (f := 13) rfl ?_); refine goesL_ (some 4) rfl rfl Tryz.func13 (by kernel_rfl) rfl #[] rfl (by (try simp only [List.map_toArray, List.map_cons, List.map_nil]); first | done | rfl | (simp only [List.length_drop, List.length_take]; rfl)) ?_; (with_reducible refine (font_Standard.calls  t248 _ ?side1 A1.out).mono ?_); (case side1 => exact GW.under HG.out (by repeat (first | (with_reducible first | exact HB.out | apply below_alloc | apply pw_below_drewN | apply below_drew1) | exact HB.out))); rintro e w12 ⟨v249, rfl, ho0, hb⟩; refine ⟨_, rfl, ?_⟩; have n0_ := Aside0.mk (Kd.S_lower ho0 (below_size (by repeat (first | (with_reducible first | exact HB.out | apply below_alloc | apply pw_below_drewN | apply below_drew1) | exact HB.out)))); have n1_ := Aside0.mk (below_step (by repeat (first | (with_reducible first | exact HB.out | apply below_alloc | apply pw_below_drewN | apply below_drew1) | exact HB.out)) hb); clear HB; have HO250 := n0_; have HB := n1_; clear n0_ n1_; (try clear hb); (try clear hb2); (try clear hk); (try clear hi); (try clear ho0); obtain ⟨Ao13, co13, eo13⟩ := Kd.S_slice HO250.out; subst eo13))
  go_ret
  exact ⟨by first | rfl | (simp [errW_none, errW_some] <;> rfl) | (simp [*, errW_none, errW_some] <;> rfl), by repeat (first | (with_reducible first | exact HB.out | apply below_alloc | apply pw_below_drewN | apply below_drew1) | exact HB.out)⟩
end Go.Proofs.YtaifemkokfoadaaGreatDoor.PX

namespace Go.Proofs.YtaifemkokfoadaaGreatDoor.PX
open Go.RowKit Go.Proofs.YtaifemkokfoadaaGreatDoorW.PrintWords Go.Proofs.YtaifemkokfoadaaGreatDoorW.PrintLast Go.Proofs.YtaifemkokfoadaaGreatDoorW.PrintMore
attribute [local go_sem] max2_int min2_int max_two min_two max_three min_three max_four min_four   -- for this text's walks alone
set_option linter.unusedVariables false
set_option linter.unusedSimpArgs false
theorem eqA81 (d : Nat) (w : World) (x0 y0 : ByteArray) (x1 y1 : Int) :
    (Op.equalIn (d + 2) 81 (.agg #[.string x0, .int .i64 x1]) (.agg #[.string y0, .int .i64 y1])).run Tryz.prog w = .ok (x0.toList == y0.toList && (x1 == y1)) w := by
  refine eqA_of Tryz.underlying81 (by kernel_rfl) ?_
  refine eqf_cons (by rfl) (by go_simp; rfl) (by go_simp; rfl) (by go_simp) ?_
  exact eqf_last (by rfl) (by go_simp; rfl) (by go_simp; rfl) (by go_simp)
end Go.Proofs.YtaifemkokfoadaaGreatDoor.PX

namespace Go.Proofs.YtaifemkokfoadaaGreatDoor.PX
open Go.RowKit Go.Proofs.YtaifemkokfoadaaGreatDoorW.PrintWords Go.Proofs.YtaifemkokfoadaaGreatDoorW.PrintLast Go.Proofs.YtaifemkokfoadaaGreatDoorW.PrintMore
attribute [local go_sem] max2_int min2_int max_two min_two max_three min_three max_four min_four   -- for this text's walks alone
set_option linter.unusedVariables false
set_option linter.unusedSimpArgs false
theorem eqA83 (d : Nat) (w : World) (x0 y0 : ByteArray) (x1 y1 : ByteArray) (x2 y2 : ByteArray) :
    (Op.equalIn (d + 2) 83 (.agg #[.string x0, .string x1, .string x2]) (.agg #[.string y0, .string y1, .string y2])).run Tryz.prog w = .ok (x0.toList == y0.toList && (x1.toList == y1.toList && (x2.toList == y2.toList))) w := by
  refine eqA_of Tryz.underlying83 (by kernel_rfl) ?_
  refine eqf_cons (by rfl) (by go_simp; rfl) (by go_simp; rfl) (by go_simp) ?_
  refine eqf_cons (by rfl) (by go_simp; rfl) (by go_simp; rfl) (by go_simp) ?_
  exact eqf_last (by rfl) (by go_simp; rfl) (by go_simp; rfl) (by go_simp)
end Go.Proofs.YtaifemkokfoadaaGreatDoor.PX

namespace Go.Proofs.YtaifemkokfoadaaGreatDoor.PX
open Go.RowKit Go.Proofs.YtaifemkokfoadaaGreatDoorW.PrintWords Go.Proofs.YtaifemkokfoadaaGreatDoorW.PrintLast Go.Proofs.YtaifemkokfoadaaGreatDoorW.PrintMore
attribute [local go_sem] max2_int min2_int max_two min_two max_three min_three max_four min_four   -- for this text's walks alone
set_option linter.unusedVariables false
set_option linter.unusedSimpArgs false
theorem eqA84 (d : Nat) (w : World) (x0 y0 : ByteArray) (x1 y1 : ByteArray) (x2 y2 : Int) :
    (Op.equalIn (d + 2) 84 (.agg #[.string x0, .string x1, .int .i64 x2]) (.agg #[.string y0, .string y1, .int .i64 y2])).run Tryz.prog w = .ok (x0.toList == y0.toList && (x1.toList == y1.toList && (x2 == y2))) w := by
  refine eqA_of Tryz.underlying84 (by kernel_rfl) ?_
  refine eqf_cons (by rfl) (by go_simp; rfl) (by go_simp; rfl) (by go_simp) ?_
  refine eqf_cons (by rfl) (by go_simp; rfl) (by go_simp; rfl) (by go_simp) ?_
  exact eqf_last (by rfl) (by go_simp; rfl) (by go_simp; rfl) (by go_simp)
end Go.Proofs.YtaifemkokfoadaaGreatDoor.PX

namespace Go.Proofs.YtaifemkokfoadaaGreatDoor.PX
open Go.RowKit Go.Proofs.YtaifemkokfoadaaGreatDoorW.PrintWords Go.Proofs.YtaifemkokfoadaaGreatDoorW.PrintLast Go.Proofs.YtaifemkokfoadaaGreatDoorW.PrintMore
attribute [local go_sem] max2_int min2_int max_two min_two max_three min_three max_four min_four   -- for this text's walks alone
set_option linter.unusedVariables false
set_option linter.unusedSimpArgs false
attribute [local go_sem high] eqA81 eqA83 eqA84
end Go.Proofs.YtaifemkokfoadaaGreatDoor.PX

namespace Go.Proofs.YtaifemkokfoadaaGreatDoor.PX
open Go.RowKit Go.Proofs.YtaifemkokfoadaaGreatDoorW.PrintWords Go.Proofs.YtaifemkokfoadaaGreatDoorW.PrintLast Go.Proofs.YtaifemkokfoadaaGreatDoorW.PrintMore
attribute [local go_sem] max2_int min2_int max_two min_two max_three min_three max_four min_four   -- for this text's walks alone
set_option linter.unusedVariables false
set_option linter.unusedSimpArgs false
end Go.Proofs.YtaifemkokfoadaaGreatDoor.PX

namespace Go.Proofs.YtaifemkokfoadaaGreatDoor.PX
open Go.RowKit Go.Proofs.YtaifemkokfoadaaGreatDoorW.PrintWords Go.Proofs.YtaifemkokfoadaaGreatDoorW.PrintLast Go.Proofs.YtaifemkokfoadaaGreatDoorW.PrintMore
attribute [local go_sem] max2_int min2_int max_two min_two max_three min_three max_four min_four   -- for this text's walks alone
set_option linter.unusedVariables false
set_option linter.unusedSimpArgs false
theorem eqA31 (d : Nat) (w : World) (x0 y0 : ByteArray) (x1 y1 : Int) :
    (Op.equalIn (d + 2) 31 (.agg #[.string x0, .int .i64 x1]) (.agg #[.string y0, .int .i64 y1])).run Tryz.prog w = .ok (x0.toList == y0.toList && (x1 == y1)) w := by
  refine eqA_of Tryz.underlying31 (by kernel_rfl) ?_
  refine eqf_cons (by rfl) (by go_simp; rfl) (by go_simp; rfl) (by go_simp) ?_
  exact eqf_last (by rfl) (by go_simp; rfl) (by go_simp; rfl) (by go_simp)
end Go.Proofs.YtaifemkokfoadaaGreatDoor.PX

namespace Go.Proofs.YtaifemkokfoadaaGreatDoor.PX
open Go.RowKit Go.Proofs.YtaifemkokfoadaaGreatDoorW.PrintWords Go.Proofs.YtaifemkokfoadaaGreatDoorW.PrintLast Go.Proofs.YtaifemkokfoadaaGreatDoorW.PrintMore
attribute [local go_sem] max2_int min2_int max_two min_two max_three min_three max_four min_four   -- for this text's walks alone
set_option linter.unusedVariables false
set_option linter.unusedSimpArgs false
attribute [local go_sem high] eqA31
end Go.Proofs.YtaifemkokfoadaaGreatDoor.PX

namespace Go.Proofs.YtaifemkokfoadaaGreatDoor.PX
open Go.RowKit Go.Proofs.YtaifemkokfoadaaGreatDoorW.PrintWords Go.Proofs.YtaifemkokfoadaaGreatDoorW.PrintLast Go.Proofs.YtaifemkokfoadaaGreatDoorW.PrintMore
attribute [local go_sem] max2_int min2_int max_two min_two max_three min_three max_four min_four   -- for this text's walks alone
set_option linter.unusedVariables false
set_option linter.unusedSimpArgs false
theorem eqA86 (d : Nat) (w : World) (x0 y0 : ByteArray) (x1 y1 : ByteArray) (x2 y2 : ByteArray) :
    (Op.equalIn (d + 2) 86 (.agg #[.string x0, .string x1, .string x2]) (.agg #[.string y0, .string y1, .string y2])).run Tryz.prog w = .ok (x0.toList == y0.toList && (x1.toList == y1.toList && (x2.toList == y2.toList))) w := by
  refine eqA_of Tryz.underlying86 (by kernel_rfl) ?_
  refine eqf_cons (by rfl) (by go_simp; rfl) (by go_simp; rfl) (by go_simp) ?_
  refine eqf_cons (by rfl) (by go_simp; rfl) (by go_simp; rfl) (by go_simp) ?_
  exact eqf_last (by rfl) (by go_simp; rfl) (by go_simp; rfl) (by go_simp)
end Go.Proofs.YtaifemkokfoadaaGreatDoor.PX

namespace Go.Proofs.YtaifemkokfoadaaGreatDoor.PX
open Go.RowKit Go.Proofs.YtaifemkokfoadaaGreatDoorW.PrintWords Go.Proofs.YtaifemkokfoadaaGreatDoorW.PrintLast Go.Proofs.YtaifemkokfoadaaGreatDoorW.PrintMore
attribute [local go_sem] max2_int min2_int max_two min_two max_three min_three max_four min_four   -- for this text's walks alone
set_option linter.unusedVariables false
set_option linter.unusedSimpArgs false
attribute [local go_sem high] eqA86
end Go.Proofs.YtaifemkokfoadaaGreatDoor.PX

namespace Go.Proofs.YtaifemkokfoadaaGreatDoor.PX
open Go.RowKit Go.Proofs.YtaifemkokfoadaaGreatDoorW.PrintWords Go.Proofs.YtaifemkokfoadaaGreatDoorW.PrintLast Go.Proofs.YtaifemkokfoadaaGreatDoorW.PrintMore
attribute [local go_sem] max2_int min2_int max_two min_two max_three min_three max_four min_four   -- for this text's walks alone
set_option linter.unusedVariables false
set_option linter.unusedSimpArgs false
theorem eqA76 (d : Nat) (w : World) (x0 y0 : ByteArray) (x1 y1 : ByteArray) (x2 y2 : Int) :
    (Op.equalIn (d + 2) 76 (.agg #[.string x0, .string x1, .int .i64 x2]) (.agg #[.string y0, .string y1, .int .i64 y2])).run Tryz.prog w = .ok (x0.toList == y0.toList && (x1.toList == y1.toList && (x2 == y2))) w := by
  refine eqA_of Tryz.underlying76 (by kernel_rfl) ?_
  refine eqf_cons (by rfl) (by go_simp; rfl) (by go_simp; rfl) (by go_simp) ?_
  refine eqf_cons (by rfl) (by go_simp; rfl) (by go_simp; rfl) (by go_simp) ?_
  exact eqf_last (by rfl) (by go_simp; rfl) (by go_simp; rfl) (by go_simp)
end Go.Proofs.YtaifemkokfoadaaGreatDoor.PX

namespace Go.Proofs.YtaifemkokfoadaaGreatDoor.PX
open Go.RowKit Go.Proofs.YtaifemkokfoadaaGreatDoorW.PrintWords Go.Proofs.YtaifemkokfoadaaGreatDoorW.PrintLast Go.Proofs.YtaifemkokfoadaaGreatDoorW.PrintMore
attribute [local go_sem] max2_int min2_int max_two min_two max_three min_three max_four min_four   -- for this text's walks alone
set_option linter.unusedVariables false
set_option linter.unusedSimpArgs false
attribute [local go_sem high] eqA76
end Go.Proofs.YtaifemkokfoadaaGreatDoor.PX

namespace Go.Proofs.YtaifemkokfoadaaGreatDoor.PX
open Go.RowKit Go.Proofs.YtaifemkokfoadaaGreatDoorW.PrintWords Go.Proofs.YtaifemkokfoadaaGreatDoorW.PrintLast Go.Proofs.YtaifemkokfoadaaGreatDoorW.PrintMore
attribute [local go_sem] max2_int min2_int max_two min_two max_three min_three max_four min_four   -- for this text's walks alone
set_option linter.unusedVariables false
set_option linter.unusedSimpArgs false
end Go.Proofs.YtaifemkokfoadaaGreatDoor.PX

namespace Go.Proofs.YtaifemkokfoadaaGreatDoor.PX
open Go.RowKit Go.Proofs.YtaifemkokfoadaaGreatDoorW.PrintWords Go.Proofs.YtaifemkokfoadaaGreatDoorW.PrintLast Go.Proofs.YtaifemkokfoadaaGreatDoorW.PrintMore
attribute [local go_sem] max2_int min2_int max_two min_two max_three min_three max_four min_four   -- for this text's walks alone
set_option linter.unusedVariables false
set_option linter.unusedSimpArgs false
end Go.Proofs.YtaifemkokfoadaaGreatDoor.PX

namespace Go.Proofs.YtaifemkokfoadaaGreatDoor
open Go.RowKit Go.Proofs.YtaifemkokfoadaaGreatDoorW.PrintWords Go.Proofs.YtaifemkokfoadaaGreatDoorW.PrintMore Go.Proofs.YtaifemkokfoadaaGreatDoor.PX
set_option linter.unusedSimpArgs false
set_option linter.unusedVariables false
theorem toList_inj {a b : ByteArray} : a.toList = b.toList ↔ a = b := by
  constructor
  · intro h
    rw [Lib.toList_data, Lib.toList_data] at h
    exact ByteArray.ext (Array.toList_inj.1 h)
  · rintro rfl
    rfl
theorem validR : validV fontR.f0 fontR.f2 fontR.f3 fontR.f4 fontR.f5 = true := by decide +kernel
theorem sane_ev : frisketlaw07_sane.f = some true := by
  have h1 : font_Valid.f fontR.f0 fontR.f1 fontR.f2 fontR.f3 fontR.f4 fontR.f5 = some true := by
    unfold font_Valid.f
    rw [validR]
    decide +kernel
  have h2 : font_find.f fontR.f0 fontR.f1 fontR.f2 fontR.f3 fontR.f4 fontR.f5 (⟨#[109]⟩ : ByteArray) = some (79, true) := by decide +kernel
  have h3 : (rd_T31 fontR.f3 79).f1 = 750 := by decide +kernel
  have h4 : font_scale.f 750 10 = some 75 := by decide +kernel
  have h5 : font_Width.f fontR.f0 fontR.f1 fontR.f2 fontR.f3 fontR.f4 fontR.f5 (⟨#[109]⟩ : ByteArray) 10 = some (75, 0) := by
    have hlen : fontR.f3.length = 97 := by decide +kernel
    unfold font_Width.f font_fair.f
    rw [if_pos (by decide), if_pos (by decide), h1, h2]
    simp only [Option.bind_some, if_true]
    rw [if_pos (by decide), if_pos (by rw [hlen]; decide), h3, h4]
    rfl
  show (font_Standard.f).bind _ = _
  unfold font_Standard.f
  simp only [Option.bind_some]
  rw [if_pos (by decide), if_pos (by decide)]
  show (font_Width.f fontR.f0 fontR.f1 fontR.f2 fontR.f3 fontR.f4 fontR.f5 (⟨#[109]⟩ : ByteArray) 10).bind _ = _
  rw [h5]
  rfl
end Go.Proofs.YtaifemkokfoadaaGreatDoor

namespace Go.Proofs.YtaifemkokfoadaaGreatDoor
open Go.RowKit Go.Shelf Go.Proofs.YtaifemkokfoadaaGreatDoorW.PrintWords Go.Proofs.YtaifemkokfoadaaGreatDoorW.PrintLast Go.Proofs.YtaifemkokfoadaaGreatDoorW.PrintMore Go.Proofs.YtaifemkokfoadaaGreatDoor.PX
set_option linter.unusedSimpArgs false
set_option linter.unusedVariables false
theorem valid_len {a : ByteArray} {c : Int} {l3 : List S31} {l4 : List S86} {l5 : List S76} (h : validV a c l3 l4 l5 = true) : l3.length ≤ 400 ∧ l4.length ≤ 50 ∧ l5.length ≤ 500 := by
  unfold validV at h
  split at h
  · cases h
  · rename_i q1
    simp only [Bool.or_eq_true, not_or, decide_eq_true_eq] at q1
    omega
theorem valid_asc {a : ByteArray} {c : Int} {l3 : List S31} {l4 : List S86} {l5 : List S76} (h : validV a c l3 l4 l5 = true) : Asc l3 := by
  unfold validV at h
  split at h
  · cases h
  · split at h
    · cases h
    · rename_i q2
      simp only [Bool.or_eq_true, not_or, Bool.not_eq_true, Bool.not_eq_false'] at q2
      exact asc_of q2.2
theorem valid_wide {a : ByteArray} {c : Int} {l3 : List S31} {l4 : List S86} {l5 : List S76} (h : validV a c l3 l4 l5 = true) : ∀ x ∈ l3, 0 ≤ x.f1 ∧ x.f1 ≤ 3000 := by
  unfold validV at h
  split at h
  · cases h
  · split at h
    · cases h
    · rename_i q2
      intro x hx
      simp only [Bool.or_eq_true, not_or, Bool.not_eq_true, Bool.not_eq_false'] at q2
      have h1 := List.any_eq_false.1 q2.1 x hx
      unfold badG wideB at h1
      simp only [Bool.or_eq_true, not_or, decide_eq_true_eq] at h1
      omega
end Go.Proofs.YtaifemkokfoadaaGreatDoor
