/-
  Texts that lean on one another, laid in one file. No condition.
-/
import Derived.Test.YtggifbbiiickmaaGreatDoorGSU1
import Derived.Test.YtggifbbiiickmaaGreatDoorGSU3
import Derived.Test.YtggifbbiiickmaaGreatDoorGSU2
import Derived.Deep.Slices
import Derived.ChangeArms
import Derived.ChangeSlices
import Derived.SizedLaws
import Derived.WideShapes
import Derived.Lib.LaidU8
import Derived.Shelf.Vars
namespace Go.Proofs.YtggifbbiiickmaaGreatDoor.PX
open Go.RowKit Go.Proofs.zk.ze Go.Proofs.zk.yc Go.Proofs.zk.yt
attribute [local go_sem] wo wu Zk Zy jd je wB wC   -- for this text's walks alone
set_option linter.unusedVariables false
set_option linter.unusedSimpArgs false
namespace zvi
theorem wb (w : World) (a : Addr) {u : Value} (h : w.cell? a = some u) : a.block < w.heap.size := World.block_lt_of_cell? w a h
end zvi
open zvi
mutual
def zX.l0 : Nat → List (kD) → List (Xa) → Int → Int → Int → Int → Bool → Bool → Option (Bool)
 | 0, _, _, _, _, _, _, _, _ => none
 | k + 1, x5, x6, x9, x10, Zm, wW, Zn, ZX => if x10 < (x6.length : Int) then (if 0 ≤ x10 then (if ((zw x6 x10).f0) = 2 then (if x10 = 0 then (zX.j1 k x5 x6 x9 x10 true Zm wW Zn ZX) else (if (wrap64 (x10 + 1)) = (x6.length : Int) then (zX.j1 k x5 x6 x9 x10 true Zm wW Zn ZX) else (zX.j1 k x5 x6 x9 x10 (!ZX) Zm wW Zn ZX))) else (if 0 ≤ ((zw x6 x10).f2) then (if ((zw x6 x10).f2) < (x5.length : Int) then ((uI.f ((zK x5 ((zw x6 x10).f2)).f0) ((zK x5 ((zw x6 x10).f2)).f1) ((zK x5 ((zw x6 x10).f2)).f2) ((zK x5 ((zw x6 x10).f2)).f3) ((zK x5 ((zw x6 x10).f2)).f4) ((zK x5 ((zw x6 x10).f2)).f5) ((zw x6 x10).f4) wW).bind fun iO => (if ((zw x6 x10).f0) = 0 then (if iO.2 = 0 then (if iO.1 = ((zw x6 x10).f1) then (if ((zw x6 x10).f3) = wW then (zX.l0 k x5 x6 (wrap64 (x9 + iO.1)) (wrap64 (x10 + 1)) Zm wW Zn ZX) else (some false)) else (some false)) else (some false)) else (some false))) else (none)) else (none))) else (none)) else ((yB.f k x6).bind fun Vz => (if x9 = Vz then ((qK.f).bind fun PV => (some PV)) else (some false)))
def zX.j1 : Nat → List (kD) → List (Xa) → Int → Int → Bool → Int → Int → Bool → Bool → Option (Bool)
 | 0, _, _, _, _, _, _, _, _, _ => none
 | k + 1, x5, x6, x9, x10, x70, Zm, wW, Zn, ZX => if x70 = true then (some false) else (if 0 ≤ (wrap64 (x10 - 1)) then (if (wrap64 (x10 - 1)) < (x6.length : Int) then (if 0 ≤ ((zw x6 (wrap64 (x10 - 1))).f2) then (if ((zw x6 (wrap64 (x10 - 1))).f2) < (x5.length : Int) then (if 0 ≤ (wrap64 (x10 + 1)) then (if (wrap64 (x10 + 1)) < (x6.length : Int) then ((ug.f ((zK x5 ((zw x6 (wrap64 (x10 - 1))).f2)).f0) ((zK x5 ((zw x6 (wrap64 (x10 - 1))).f2)).f1) ((zK x5 ((zw x6 (wrap64 (x10 - 1))).f2)).f2) ((zK x5 ((zw x6 (wrap64 (x10 - 1))).f2)).f3) ((zK x5 ((zw x6 (wrap64 (x10 - 1))).f2)).f4) ((zK x5 ((zw x6 (wrap64 (x10 - 1))).f2)).f5) ((zw x6 (wrap64 (x10 - 1))).f4) ((zw x6 (wrap64 (x10 + 1))).f4) wW).bind fun vT => (if vT.2 = 0 then (if 0 ≤ x10 then (if x10 < (x6.length : Int) then (if vT.1 = ((zw x6 x10).f1) then (zX.j2 k x5 x6 x9 x10 vT.1 (vT.1 == 0) Zm wW Zn ZX) else (zX.j2 k x5 x6 x9 x10 vT.1 true Zm wW Zn ZX)) else (none)) else (none)) else (zX.j2 k x5 x6 x9 x10 vT.1 true Zm wW Zn ZX))) else (none)) else (none)) else (none)) else (none)) else (none)) else (none))
def zX.j2 : Nat → List (kD) → List (Xa) → Int → Int → Int → Bool → Int → Int → Bool → Bool → Option (Bool)
 | 0, _, _, _, _, _, _, _, _, _, _ => none
 | k + 1, x5, x6, x9, x10, dP, x112, Zm, wW, Zn, ZX => if x112 = true then (some false) else (zX.l0 k x5 x6 (wrap64 (x9 + dP)) (wrap64 (x10 + 1)) Zm wW Zn ZX)
end
def zX.f (k : Nat) (a0 : ByteArray) (yN : Int) (yX : Int) (yP : Bool) (yO : Bool) : Option (Bool) := if (a0.size : Int) > 300 then ((qK.f).bind fun PK => (some PK)) else ((xI.f).bind fun zi => ((yu.f k a0).bind fun Xp => ((qL.f zi (wrap64 (Int.tmod (IntKind.u64.wrap (yN)) 5)) (wrap64 (1 + (wrap64 (Int.tmod (IntKind.u64.wrap (yX)) 1000)))) yP yO Xp ([] : List (wD))).bind fun Y0 => (if Y0.2.2 = 0 then (zX.l0 k zi Y0.1 0 0 (wrap64 (Int.tmod (IntKind.u64.wrap (yN)) 5)) (wrap64 (1 + (wrap64 (Int.tmod (IntKind.u64.wrap (yX)) 1000)))) yP yO) else ((qK.f).bind fun Qj => (some Qj))))))
def zX.T6 : Bool × List (List Nat × List Nat) := (true, [([], []), ([], []), ([], []), ([2], [2]), ([0, 1, 3, 3], [0, 1, 3]), ([4], [4]), ([5], [5]), ([5], [5]), ([5], [5]), ([6, 4, 0, 1, 2, 3, 4, 5, 6], [6]), ([7, 9, 0, 1, 2, 3, 4, 5, 6, 7, 9], [7]), ([8, 10, 0, 1, 2, 3, 4, 5, 6, 7, 8, 9, 10], [8])])
def zX.B6 : List Nat := [0, 0, 0, 4, 15, 31, 63, 63, 63, 127, 767, 2047]
theorem zX.zvl : xE .any (opsOf Tryz.f6 6) = zX.T6 := by kernel_rfl
theorem zX.zxZ : vP zX.T6.2 zX.B6 = true := by kernel_rfl
def zX.T16 : Bool × List (List Nat × List Nat) := (true, [([], []), ([], []), ([], []), ([2], [2]), ([1, 3], [1, 3]), ([4], [4]), ([5], [5]), ([0, 6], [0, 6]), ([7], [7]), ([], []), ([], []), ([10], [10]), ([9, 11], [9, 11]), ([12], [12]), ([13], [13]), ([], []), ([], []), ([16], [16]), ([15, 17], [15, 17]), ([18], [18]), ([19], [19]), ([], []), ([21], [21]), ([8, 14, 20, 22], [8, 14, 20, 22]), ([23], [23]), ([24], [24]), ([24], [24]), ([25, 23, 0, 1, 2, 3, 4, 5, 6, 7, 8, 9, 10, 11, 12, 13, 14, 15, 16, 17, 18, 19, 20, 21, 22, 23, 24, 25], [25]), ([26, 27, 0, 1, 2, 3, 4, 5, 6, 7, 8, 9, 10, 11, 12, 13, 14, 15, 16, 17, 18, 19, 20, 21, 22, 23, 24, 25, 26, 27], [26])])
def zX.B16 : List Nat := [0, 0, 0, 4, 14, 30, 62, 127, 255, 0, 0, 1024, 3584, 7680, 15872, 0, 0, 65536, 229376, 491520, 1015808, 0, 2097152, 8388607, 16777215, 33554431, 33554431, 67108863, 268435455]
theorem zX.zym : xE .any (opsOf Tryz.f6 16) = zX.T16 := by kernel_rfl
theorem zX.zvm : vP zX.T16.2 zX.B16 = true := by kernel_rfl
def zX.T20 : Bool × List (List Nat × List Nat) := (true, [([], []), ([], []), ([], []), ([1, 2], [1, 2]), ([3], [3]), ([4], [4]), ([0, 5], [0, 5]), ([6], [6]), ([], []), ([], []), ([8, 9], [8, 9]), ([10], [10]), ([11], [11]), ([], []), ([13], [13]), ([7, 12, 14], [7, 12, 14]), ([15], [15]), ([16], [16]), ([16], [16]), ([17, 15, 0, 1, 2, 3, 4, 5, 6, 7, 8, 9, 10, 11, 12, 13, 14, 15, 16, 17], [17]), ([18, 19, 0, 1, 2, 3, 4, 5, 6, 7, 8, 9, 10, 11, 12, 13, 14, 15, 16, 17, 18, 19], [18])])
def zX.B20 : List Nat := [0, 0, 0, 6, 14, 30, 63, 127, 0, 0, 768, 1792, 3840, 0, 8192, 32767, 65535, 131071, 131071, 262143, 1048575]
theorem zX.KN : xE .any (opsOf Tryz.f6 20) = zX.T20 := by kernel_rfl
theorem zX.Ut : vP zX.T20.2 zX.B20 = true := by kernel_rfl
def zX.T21 : Bool × List (List Nat × List Nat) := (true, [([], []), ([], []), ([0, 1], [0, 1]), ([2], [2]), ([3], [3]), ([4], [4]), ([5], [5]), ([6], [6]), ([7, 6], [6, 7]), ([6, 8], [6, 8]), ([9, 6], [9]), ([10], [10]), ([10], [10]), ([10], [10]), ([12, 13, 10], [10, 12, 13]), ([14, 10], [10, 14]), ([15, 10], [10, 15]), ([11, 16, 10], [10, 11, 16]), ([10, 17], [10, 17]), ([18, 10], [18]), ([19], [19]), ([19], [19]), ([20, 21, 19], [19, 20, 21]), ([22, 19], [19, 22]), ([23, 19], [19, 23]), ([19], [19]), ([25, 19], [19, 25]), ([24, 26, 19], [19, 24, 26]), ([19, 27], [19, 27])])
def zX.B21 : List Nat := [0, 0, 3, 7, 15, 31, 63, 127, 255, 511, 1023, 2047, 2047, 2047, 14335, 30719, 63487, 131071, 262143, 524287, 1048575, 1048575, 4194303, 8388607, 16777215, 1048575, 34603007, 134217727, 268435455]
theorem zX.KO : xE .any (opsOf Tryz.f6 21) = zX.T21 := by kernel_rfl
theorem zX.Uu : vP zX.T21.2 zX.B21 = true := by kernel_rfl
set_option maxHeartbeats 8000000 in
set_option maxRecDepth 100000 in
theorem zX.calls (k : Nat) (a0 : ByteArray) (yN : Int) (yX : Int) (yP : Bool) (yO : Bool) (r : Bool) (w : World) (hG : GW w) (h : zX.f k a0 yN yX yP yO = some r) :
  Calls Tryz.prog 6 #[.string a0, .agg #[.int .i64 yN, .int .i64 yX, .bool yP, .bool yO]] w fun e w' => e = .returned (.bool r) ∧ Below w.heap.size w w' := by
 have zqi := Tryz.underlying26
 have zzP := Tryz.underlying60
 have HG := zx.mk hG
 clear hG
 have HB := zx.mk (Below.refl w.heap.size w)
 have H : (if (a0.size : Int) > 300 then ((qK.f).bind fun PK => (some PK)) else ((xI.f).bind fun zi => ((yu.f k a0).bind fun Xp => ((qL.f zi (wrap64 (Int.tmod (IntKind.u64.wrap (yN)) 5)) (wrap64 (1 + (wrap64 (Int.tmod (IntKind.u64.wrap (yX)) 1000)))) yP yO Xp ([] : List (wD))).bind fun Y0 => (if Y0.2.2 = 0 then (zX.l0 k zi Y0.1 0 0 (wrap64 (Int.tmod (IntKind.u64.wrap (yN)) 5)) (wrap64 (1 + (wrap64 (Int.tmod (IntKind.u64.wrap (yX)) 1000)))) yP yO) else ((qK.f).bind fun Qj => (some Qj))))))) = some r := h
 clear h
 by_cases c3 : (a0.size : Int) > 300
 ·rw [if_pos c3] at H
  have Qq : decide (300 < (a0.size : Int)) = true := decide_eq_true c3
  have Pz : decide (300 < a0.size) = true := decide_eq_true (by omega)
  clear c3
  replace H := Option.bind_eq_some_iff.mp H
  obtain ⟨PK, bB, H⟩ := H
  replace H : (some PK) = some r := H
  have A4 := zx.mk bB
  clear bB
  obtain rfl := Option.some.inj H
  go_enter Tryz.func6, Tryz.ntmps6
  go_wp2_with (first | ((with_reducible refine qb (N := 3) rfl ?_); (try (refine Zc (by rfl) ?_; dsimp only)); refine qM ?hg (N := 3) ?hd (cs := #[.int .i64 yN, .int .i64 yX, .bool yP, .bool yO]) (t := 26) ?hr ?_; (case hd => rfl); (case hg => rfl); (case hr => first | (go_simp; done) | (go_simp; rfl)); intro yV hg w5 xC hb; have zf := zx.mk (zL (zP HB.out) hb); have zl := zx.mk (xC); have zu := zx.mk ((by rw [hg]; exact (zC (zP HB.out)) : w.heap.size ≤ yV)); have zH := zx.mk ((by rw [hg]; exact (zC (zP HB.out)) : w.heap.size ≤ yV)); clear HB; have HB := zf; have zW := zl; have zxQ := zu; have Yf := zH; clear zf zl zu zH; clear hb xC hg) | ((with_reducible refine yg (f := 11) rfl ?_); refine jf (some 18) Tryz.func11 #[] ?_; (with_reducible refine (qK.calls  PK _ ?qw A4.out).mono ?_); (case qw => exact GW.under HG.out (zP HB.out)); rintro e w6 ⟨rfl, hb⟩; refine ⟨_, rfl, ?_⟩; have zf := zx.mk (zN (g := yV) (o := .cells #[.int .i64 yN, .int .i64 yX, .bool yP, .bool yO] 26 (0, 0)) (ji zW.out) hb); have zl := zx.mk (zL (zP HB.out) hb); clear zW; clear HB; have zW := zf; have HB := zl; clear zf zl; (try clear hb); (try clear hb2); (try clear hk); (try clear hi)))
  go_ret
  exact ⟨by first | rfl | (simp [zR, zS] <;> rfl) | (simp [*, zR, zS] <;> rfl), by repeat (first | (with_reducible first | exact HB.out | apply yA | apply yZ | apply yx | refine xL ?_ Yf.out) | exact HB.out)⟩
 ·rw [if_neg c3] at H
  have Qq : decide (300 < (a0.size : Int)) = false := decide_eq_false c3
  have Pz : decide (300 < a0.size) = false := decide_eq_false (by omega)
  clear c3
  replace H := Option.bind_eq_some_iff.mp H
  obtain ⟨zi, ow, H⟩ := H
  replace H : ((yu.f k a0).bind fun Xp => ((qL.f zi (wrap64 (Int.tmod (IntKind.u64.wrap (yN)) 5)) (wrap64 (1 + (wrap64 (Int.tmod (IntKind.u64.wrap (yX)) 1000)))) yP yO Xp ([] : List (wD))).bind fun Y0 => (if Y0.2.2 = 0 then (zX.l0 k zi Y0.1 0 0 (wrap64 (Int.tmod (IntKind.u64.wrap (yN)) 5)) (wrap64 (1 + (wrap64 (Int.tmod (IntKind.u64.wrap (yX)) 1000)))) yP yO) else ((qK.f).bind fun Qj => (some Qj))))) = some r := H
  have A7 := zx.mk ow
  clear ow
  replace H := Option.bind_eq_some_iff.mp H
  obtain ⟨Xp, A80, H⟩ := H
  replace H : ((qL.f zi (wrap64 (Int.tmod (IntKind.u64.wrap (yN)) 5)) (wrap64 (1 + (wrap64 (Int.tmod (IntKind.u64.wrap (yX)) 1000)))) yP yO Xp ([] : List (wD))).bind fun Y0 => (if Y0.2.2 = 0 then (zX.l0 k zi Y0.1 0 0 (wrap64 (Int.tmod (IntKind.u64.wrap (yN)) 5)) (wrap64 (1 + (wrap64 (Int.tmod (IntKind.u64.wrap (yX)) 1000)))) yP yO) else ((qK.f).bind fun Qj => (some Qj)))) = some r := H
  have A8 := zx.mk A80
  clear A80
  replace H := Option.bind_eq_some_iff.mp H
  obtain ⟨⟨zQ, zvn, UA⟩, A90, H⟩ := H
  replace H : (if UA = 0 then (zX.l0 k zi zQ 0 0 (wrap64 (Int.tmod (IntKind.u64.wrap (yN)) 5)) (wrap64 (1 + (wrap64 (Int.tmod (IntKind.u64.wrap (yX)) 1000)))) yP yO) else ((qK.f).bind fun Qj => (some Qj))) = some r := H
  have A9 := zx.mk A90
  clear A90
  by_cases c10 : UA = 0
  ·rw [if_pos c10] at H
   have iP : (UA == 0) = true := beq_iff_eq.mpr c10
   have iR : (UA != 0) = false := bne_eq_false_iff_eq.mpr c10
   clear c10
   have H' := zx.mk H
   clear H
   go_enter Tryz.func6, Tryz.ntmps6
   try go_wp2_with (first | ((with_reducible refine qb (N := 3) rfl ?_); (try (refine Zc (by rfl) ?_; dsimp only)); refine qM ?hg (N := 3) ?hd (cs := #[.int .i64 yN, .int .i64 yX, .bool yP, .bool yO]) (t := 26) ?hr ?_; (case hd => rfl); (case hg => rfl); (case hr => first | (go_simp; done) | (go_simp; rfl)); intro yV hg VX xC hb; have zf := zx.mk (zL (zP HB.out) hb); have zl := zx.mk (xC); have zu := zx.mk ((by rw [hg]; exact (zC (zP HB.out)) : w.heap.size ≤ yV)); have zH := zx.mk ((by rw [hg]; exact (zC (zP HB.out)) : w.heap.size ≤ yV)); clear HB; have HB := zf; have zW := zl; have zxQ := zu; have Yf := zH; clear zf zl zu zH; clear hb xC hg; have Ws : VX.cell? ⟨yV, 0, none⟩ = some (.int .i64 yN) := (zZ zW.out 0).trans rfl; have Wt : VX.cell? ⟨yV, 1, none⟩ = some (.int .i64 yX) := (zZ zW.out 1).trans rfl; have Wu : VX.cell? ⟨yV, 2, none⟩ = some (.bool yP) := (zZ zW.out 2).trans rfl; have WA : VX.cell? ⟨yV, 3, none⟩ = some (.bool yO) := (zZ zW.out 3).trans rfl; have WB := zV zW.out 0; have WC := zV zW.out 1; have WE := zV zW.out 2; have WG := zV zW.out 3) | ((with_reducible refine yg (f := 19) rfl ?_); refine jf (some 32) Tryz.func19 #[] ?_; (with_reducible refine (xI.calls  zi _ ?qw A7.out).mono ?_); (case qw => exact GW.under HG.out (zP HB.out)); rintro e Kh ⟨zZp, rfl, ho0, hb⟩; refine ⟨_, rfl, ?_⟩; have zf := zx.mk (Kd.wS ho0 (zC (zP HB.out))); have zl := zx.mk (zN (g := yV) (o := .cells #[.int .i64 (wrap64 (Int.tmod (IntKind.u64.wrap (yN)) 5)), .int .i64 (wrap64 (1 + (wrap64 (Int.tmod (IntKind.u64.wrap (yX)) 1000)))), .bool yP, .bool yO] 26 (0, 0)) (by (with_reducible repeat (first | refine ZG ?_ _ | refine xZ ?_ | refine vD ?_ _)); refine qO (cs := #[.int .i64 (wrap64 (Int.tmod (IntKind.u64.wrap (yN)) 5)), .int .i64 yX, .bool yP, .bool yO]) ?_ 1 _ rfl; (with_reducible repeat (first | refine ZG ?_ _ | refine xZ ?_ | refine vD ?_ _)); refine qO (cs := #[.int .i64 yN, .int .i64 yX, .bool yP, .bool yO]) ?_ 0 _ rfl; (with_reducible repeat (first | refine ZG ?_ _ | refine xZ ?_ | refine vD ?_ _)); exact zW.out) hb); have zu := zx.mk (zL (zP HB.out) hb); clear zW; clear HB; have vH := zf; have zW := zl; have HB := zu; clear zf zl zu; (try clear hb); (try clear hb2); (try clear hk); (try clear hi); (try clear ho0)))
   have zf := zx.mk (Kd.qj vH.out)
   have zl := zx.mk (xZ zW.out)
   have zu := zx.mk (yx HB.out)
   clear vH zW HB
   have vH := zf
   have zW := zl
   have HB := zu
   clear zf zl zu
   refine jw (n := 12) (S := fun w' => w'.cell? ⟨yV, 0, none⟩ = some (.int .i64 (wrap64 (Int.tmod (IntKind.u64.wrap (yN)) 5))) ∧ w'.cell? ⟨yV, 1, none⟩ = some (.int .i64 (wrap64 (1 + (wrap64 (Int.tmod (IntKind.u64.wrap (yX)) 1000))))) ∧ w'.cell? ⟨yV, 2, none⟩ = some (.bool yP) ∧ w'.cell? ⟨yV, 3, none⟩ = some (.bool yO)) (ds := []) #[false, false, false, false, false, false, false, false, false, false, false, false] (by kernel_rfl) rfl rfl ⟨(zZ zW.out 0).trans rfl, (zZ zW.out 1).trans rfl, (zZ zW.out 2).trans rfl, (zZ zW.out 3).trans rfl⟩ (fun hHeld => ?_); refine uP zX.zvl zX.zxZ (fun zY vL => ?_)
   generalize Kh.drew = bP at vH zW HB hHeld ⊢
   refine zA 0 (some 34) zY ?_
   refine zA 2 (some 36) zY ?_
   refine jZ 1 (some 35) zY vL hHeld ?_
   refine Jm 3 (some 37) zY (fun K hK => ?_)
   refine YP Tryz.func20 (by kernel_rfl) rfl #[.string a0] (by rfl) rfl rfl (by (try simp only [List.map_toArray, List.map_cons, List.map_nil]); first | done | rfl | (simp only [List.length_drop, List.length_take]; rfl)) ?_
   with_reducible refine (yu.calls k a0 Xp _ A8.out).mono ?_
   rintro e Zt ⟨zZr, rfl, ho0, hb⟩
   refine ⟨_, rfl, ?_⟩
   have zf := zx.mk (Kd.qg (Zr vH.out) hb)
   have zl := zx.mk (Kd.vE ho0 (zC (zP HB.out)))
   have zu := zx.mk (zN (g := yV) (o := .cells #[.int .i64 (wrap64 (Int.tmod (IntKind.u64.wrap (yN)) 5)), .int .i64 (wrap64 (1 + (wrap64 (Int.tmod (IntKind.u64.wrap (yX)) 1000)))), .bool yP, .bool yO] 26 (0, 0)) (ji zW.out) hb)
   have zH := zx.mk (zL (zP HB.out) hb)
   clear vH zW HB
   have vH := zf
   have wP := zl
   have zW := zu
   have HB := zH
   clear zf zl zu zH
   (try clear hb)
   (try clear hb2)
   (try clear hk)
   (try clear hi)
   (try clear ho0)
   obtain ⟨zqG, iT, zvo⟩ := Kd.jY vH.out
   (first | subst zvo | (injection zvo with UC rY UD; have rW := UC.symm; have ru := UD.symm; clear UC rY UD; subst rW; subst ru))
   obtain ⟨zZs, zZt, zvp⟩ := Kd.xw wP.out
   (first | subst zvp | (injection zvp with UC rY UD; have rW := UC.symm; have ru := UD.symm; clear UC rY UD; subst rW; subst ru))
   refine hK.out _ _ ⟨(zZ zW.out 0).trans rfl, (zZ zW.out 1).trans rfl, (zZ zW.out 2).trans rfl, (zZ zW.out 3).trans rfl⟩ (fun hHeld => ?_)
   clear hK K
   refine Jl (some 37) ?_
   refine Jm 4 (some 38) zY (fun K hK => ?_)
   refine YP Tryz.func13 (by kernel_rfl) rfl #[.slice zqG zi.length iT, .agg #[.int .i64 (wrap64 (Int.tmod (IntKind.u64.wrap (yN)) 5)), .int .i64 (wrap64 (1 + (wrap64 (Int.tmod (IntKind.u64.wrap (yX)) 1000)))), .bool yP, .bool yO], .slice zZs Xp.length zZt, .slice none 0 0] (by rfl) rfl rfl (by (try simp only [List.map_toArray, List.map_cons, List.map_nil]); first | done | rfl | (simp only [List.length_drop, List.length_take]; rfl)) ?_
   refine (qL.calls _ _ zi (wrap64 (Int.tmod (IntKind.u64.wrap (yN)) 5)) (wrap64 (1 + (wrap64 (Int.tmod (IntKind.u64.wrap (yX)) 1000)))) yP yO _ _ Xp _ _ ([] : List (wD)) zQ zvn UA _ ?qw ?qI ?xX ?xJ ?xV ?xK ?xY A9.out).mono ?_
   (case qw => repeat (first | exact (Kd.zn vH.out).2.2 | (with_reducible refine Kd.zD ?_ _) | (with_reducible refine Kd.zF ?_ _) | (with_reducible refine Kd.zo ?_)))
   (case qI => exact (Kd.zn vH.out).2.1)
   (case xX => repeat (first | exact (Kd.uV wP.out).2.2 | (with_reducible refine Kd.zD ?_ _) | (with_reducible refine Kd.zF ?_ _) | (with_reducible refine Kd.zo ?_)))
   (case xJ => exact (Kd.uV wP.out).2.1)
   (case xV => exact Kd.VI _ _)
   (case xK => exact Nat.le_refl _)
   (case xY => exact GW.under HG.out (zP HB.out))
   rintro e Qk ⟨zvr, zZu, rfl, ho0, ho1, hb⟩
   refine ⟨_, rfl, ?_⟩
   have zf := zx.mk (Kd.qg (Zr vH.out) hb)
   have zl := zx.mk (Kd.Xf (vI wP.out) (Kd.Vj ho1) hb)
   have zu := zx.mk (Kd.wS ho0 (zC (zP HB.out)))
   have zH := zx.mk (Kd.vE (Kd.Vv ho1 (Kd.WJ (vI wP.out))) (zC (zP HB.out)))
   have qV := zx.mk (zN (g := yV) (o := .cells #[.int .i64 (wrap64 (Int.tmod (IntKind.u64.wrap (yN)) 5)), .int .i64 (wrap64 (1 + (wrap64 (Int.tmod (IntKind.u64.wrap (yX)) 1000)))), .bool yP, .bool yO] 26 (0, 0)) (ji zW.out) hb)
   have xD := zx.mk (zL (zP HB.out) hb)
   clear vH wP zW HB
   have vH := zf
   have wP := zl
   have KP := zu
   have dJ := zH
   have zW := qV
   have HB := xD
   clear zf zl zu zH qV xD
   (try clear hb)
   (try clear hb2)
   (try clear hk)
   (try clear hi)
   (try clear ho0)
   (try clear ho1)
   refine hK.out _ _ ⟨(zZ zW.out 0).trans rfl, (zZ zW.out 1).trans rfl, (zZ zW.out 2).trans rfl, (zZ zW.out 3).trans rfl⟩ (fun hHeld => ?_)
   clear hK K
   refine Jl (some 38) ?_
   refine zA 5 (some 33) zY ?_
   refine zA 6 (some 39) zY ?_
   refine zA 7 (some 40) zY ?_
   refine zA 8 (some 41) zY ?_
   refine zA 9 (some 6) zY ?_
   refine zA 10 (some 7) zY ?_
   refine zA 11 (some 8) zY ?_
   refine jk (xM zY.out (by kernel_rfl)) ?_
   try go_wp2
   go_loopg [9, 10] k (fun kq v9 v10 w' => ∃ (jc : Int) (zy : Int), v9 = .int .i64 jc ∧ v10 = .int .i64 zy ∧ zx (zX.l0 kq zi zQ jc zy (wrap64 (Int.tmod (IntKind.u64.wrap (yN)) 5)) (wrap64 (1 + (wrap64 (Int.tmod (IntKind.u64.wrap (yX)) 1000)))) yP yO = some r) ∧ zx (kq ≤ k) ∧ zx (Kd.S Zq 60 w' w.heap.size (fun _ => True) (.slice zqG zi.length iT) zi) ∧ zx (Kd.S Xb 53 w' w.heap.size (fun _ => True) zvr zQ) ∧ zx (w'.heap[yV]? = some (.cells #[.int .i64 (wrap64 (Int.tmod (IntKind.u64.wrap (yN)) 5)), .int .i64 (wrap64 (1 + (wrap64 (Int.tmod (IntKind.u64.wrap (yX)) 1000)))), .bool yP, .bool yO] 26 (0, 0))) ∧ zx (Below w.heap.size w w'))
   case atStart => exact ⟨(0), (0), (by first | rfl | (simp; done) | (simp [*]; done)), (by first | rfl | (simp; done) | (simp [*]; done)), H', ⟨Nat.le_refl _⟩, ⟨by (with_reducible repeat (first | apply Kd.xu | apply Kd.xA | apply Kd.qj)); exact vH.out⟩, ⟨by (with_reducible repeat (first | apply Kd.xu | apply Kd.xA | apply Kd.qj)); exact KP.out⟩, ⟨ji zW.out⟩, ⟨zP HB.out⟩⟩
   case round =>
    clear H'
    try clear c1
    try clear c2
    try clear p2
    try clear c3
    try clear Qq
    try clear Pz
    try clear c6
    try clear p6
    try clear c10
    try clear iP
    try clear iR
    try clear c11
    try clear c13
    try clear Ws
    try clear Wt
    try clear Wu
    try clear WA
    try clear WB
    try clear WC
    try clear WE
    try clear WG
    obtain ⟨jc, zy, rfl, rfl, HA, jg, yK, zm, zW, HB⟩ := hrel
    cases gk with
    | zero => exact absurd HA.out (by simp [zX.l0])
    | succ k1 =>
     have H := HA.out
     clear HA
     simp only [zX.l0] at H
     by_cases c19 : zy < (zQ.length : Int)
     ·rw [if_pos c19] at H
      have zxX : decide (zy < (zQ.length : Int)) = true := decide_eq_true c19
      clear c19
      by_cases c20 : 0 ≤ zy
      ·rw [if_pos c20] at H
       have zyn : decide (0 ≤ zy) = true := decide_eq_true c20
       clear c20
       by_cases c21 : ((zw zQ zy).f0) = 2
       ·rw [if_pos c21] at H
        have zxJ : (((zw zQ zy).f0) == 2) = true := beq_iff_eq.mpr c21
        have zxV : (((zw zQ zy).f0) != 2) = false := bne_eq_false_iff_eq.mpr c21
        clear c21
        have zqH := zx.mk H
        clear H
        obtain ⟨zVJ, zvs, zZA⟩ := Kd.jY zm.out
        subst zZA
        have uM : 0 ≤ (zy : Int) := of_decide_eq_true (by first | (with_reducible assumption) | assumption)
        have uN : zy < (zQ.length : Int) := of_decide_eq_true (by first | (with_reducible assumption) | assumption)
        obtain ⟨zJ, Qo, UE, Qp, Xr, Xt, Xu, XA, XB, XC, wh, uT, uU⟩ := qo (Kd.zn zm.out).2.2 zy uM uN
        cases Qp
        obtain ⟨KR, ZM, ZN, jh⟩ := Kd.xB zm.out z53 zy uM (by first | exact uN | exact of_decide_eq_true (by first | (with_reducible assumption) | assumption) | (have e_ := (Kd.zn zm.out).1; omega))
        obtain ⟨Va, rfl, vB⟩ := qJ ZN
        have qh := jh 6 _ rfl
        rw [zB _ _ 6 (by omega)] at qh
        replace qh := Option.some.inj (qh.symm.trans wh)
        rw [qh] at vB
        have yQ := zx.mk (show Kd.R (Kd.int .i64) 3 _ _ _ _ ((zw zQ zy).f6) from vB)
        clear qh vB jh ZM
        have zG := zx.mk uU
        have Vb := zx.mk uT
        clear uU uT
        replace uM := eq_true uM
        replace uN := eq_true uN
        go_upto_region 14 with (fail)
        go_cut [70] (fun v70 wc => ∃ (kq : Nat) (KS : Bool), v70 = .bool KS ∧ zx (zX.j1 kq zi zQ jc zy KS (wrap64 (Int.tmod (IntKind.u64.wrap (yN)) 5)) (wrap64 (1 + (wrap64 (Int.tmod (IntKind.u64.wrap (yX)) 1000)))) yP yO = some r) ∧ zx (kq ≤ k1) ∧ zx (Kd.S Zq 60 wc w.heap.size (fun _ => True) (.slice zqG zi.length iT) zi) ∧ zx (Kd.S Xb 53 wc w.heap.size (fun _ => True) (.slice (some zJ) zQ.length zvs) zQ) ∧ zx (wc.heap[yV]? = some (.cells #[.int .i64 (wrap64 (Int.tmod (IntKind.u64.wrap (yN)) 5)), .int .i64 (wrap64 (1 + (wrap64 (Int.tmod (IntKind.u64.wrap (yX)) 1000)))), .bool yP, .bool yO] 26 (0, 0))) ∧ zx (Kd.C (Kd.int .i64) wc Qo ((zw zQ zy).f6).length ((zw zQ zy).f6)) ∧ zx (Below w.heap.size w wc))
        case first =>
         have H := zqH.out
         clear zqH
         by_cases c24 : zy = 0
         ·rw [if_pos c24] at H
          have U7 : (zy == 0) = true := beq_iff_eq.mpr c24
          have zxK : (zy != 0) = false := bne_eq_false_iff_eq.mpr c24
          clear c24
          (first | rw [U7] | (simp only [qW, qd]; rw [U7]) | skip)
          have H' := zx.mk H
          clear H
          go_wp2
          go_meet
          case rel => exact ⟨_, (true), (by first | rfl | (simp; done) | (simp [*]; done)), H', ⟨by have := jg.out; first | omega | exact Nat.le_refl _⟩, ⟨by (with_reducible repeat (first | apply Kd.xu | apply Kd.xA | apply Kd.qj)); exact yK.out⟩, ⟨by (with_reducible repeat (first | apply Kd.xu | apply Kd.xA | apply Kd.qj)); exact zm.out⟩, ⟨ji zW.out⟩, ⟨by repeat (first | (with_reducible exact zG.out) | (with_reducible refine Kd.zD ?_ _) | (with_reducible refine Kd.zF ?_ _) | (with_reducible refine Kd.zo ?_) | exact zG.out)⟩, ⟨zP HB.out⟩⟩
         ·rw [if_neg c24] at H
          have U7 : (zy == 0) = false := beq_eq_false_iff_ne.mpr c24
          have zxK : (zy != 0) = true := bne_iff_ne.mpr c24
          (first | rw [U7] | (simp only [qW, qd]; rw [U7]) | skip)
          by_cases bS : (wrap64 (zy + 1)) = (zQ.length : Int)
          ·rw [if_pos bS] at H
           have zxY : ((wrap64 (zy + 1)) == (zQ.length : Int)) = true := beq_iff_eq.mpr bS
           have zxW : ((wrap64 (zy + 1)) != (zQ.length : Int)) = false := bne_eq_false_iff_eq.mpr bS
           clear bS
           have H' := zx.mk H
           clear H
           go_wp2
           go_meet
           case rel => exact ⟨_, (true), (by first | rfl | (simp; done) | (simp [*]; done)), H', ⟨by have := jg.out; first | omega | exact Nat.le_refl _⟩, ⟨by (with_reducible repeat (first | apply Kd.xu | apply Kd.xA | apply Kd.qj)); exact yK.out⟩, ⟨by (with_reducible repeat (first | apply Kd.xu | apply Kd.xA | apply Kd.qj)); exact zm.out⟩, ⟨ji zW.out⟩, ⟨by repeat (first | (with_reducible exact zG.out) | (with_reducible refine Kd.zD ?_ _) | (with_reducible refine Kd.zF ?_ _) | (with_reducible refine Kd.zo ?_) | exact zG.out)⟩, ⟨zP HB.out⟩⟩
          ·rw [if_neg bS] at H
           have zxY : ((wrap64 (zy + 1)) == (zQ.length : Int)) = false := beq_eq_false_iff_ne.mpr bS
           have zxW : ((wrap64 (zy + 1)) != (zQ.length : Int)) = true := bne_iff_ne.mpr bS
           have H' := zx.mk H
           clear H
           have zx8 : wr.cell? ⟨yV, 0, none⟩ = some (.int .i64 (wrap64 (Int.tmod (IntKind.u64.wrap (yN)) 5))) := (zZ zW.out 0).trans rfl
           have zx9 : wr.cell? ⟨yV, 1, none⟩ = some (.int .i64 (wrap64 (1 + (wrap64 (Int.tmod (IntKind.u64.wrap (yX)) 1000))))) := (zZ zW.out 1).trans rfl
           have zjz : wr.cell? ⟨yV, 2, none⟩ = some (.bool yP) := (zZ zW.out 2).trans rfl
           have zjq : wr.cell? ⟨yV, 3, none⟩ = some (.bool yO) := (zZ zW.out 3).trans rfl
           have zjx := zV zW.out 0
           have zjj := zV zW.out 1
           have zjv := zV zW.out 2
           have zjk := zV zW.out 3
           go_wp2
           go_meet
           case rel => exact ⟨_, (!yO), (by first | rfl | (simp; done) | (simp [*]; done)), H', ⟨by have := jg.out; first | omega | exact Nat.le_refl _⟩, ⟨by (with_reducible repeat (first | apply Kd.xu | apply Kd.xA | apply Kd.qj)); exact yK.out⟩, ⟨by (with_reducible repeat (first | apply Kd.xu | apply Kd.xA | apply Kd.qj)); exact zm.out⟩, ⟨ji zW.out⟩, ⟨by repeat (first | (with_reducible exact zG.out) | (with_reducible refine Kd.zD ?_ _) | (with_reducible refine Kd.zF ?_ _) | (with_reducible refine Kd.zo ?_) | exact zG.out)⟩, ⟨zP HB.out⟩⟩
        case rest =>
         clear zqH
         try clear c1
         try clear c2
         try clear p2
         try clear c3
         try clear Qq
         try clear Pz
         try clear c4
         try clear p4
         try clear q4
         try clear hx4
         try clear c6
         try clear p6
         try clear c10
         try clear iP
         try clear iR
         try clear c11
         try clear c13
         try clear c19
         try clear zxX
         try clear c20
         try clear zyn
         try clear c21
         try clear zxJ
         try clear zxV
         try clear c24
         try clear U7
         try clear zxK
         try clear bS
         try clear zxY
         try clear zxW
         try clear Ws
         try clear Wt
         try clear Wu
         try clear WA
         try clear zx8
         try clear zx9
         try clear zjz
         try clear zjq
         try clear WB
         try clear WC
         try clear WE
         try clear WG
         try clear zjx
         try clear zjj
         try clear zjv
         try clear zjk
         try clear Xr
         try clear Xt
         try clear Xu
         try clear XA
         try clear XB
         try clear XC
         try clear wh
         try clear p2
         try clear uM
         try clear p6
         try clear uN
         obtain ⟨kq, KS, rfl, HA, rA, yK, zm, zW, zG, HB⟩ := hcut
         cases kq with
         | zero => exact absurd HA.out (by simp [zX.j1])
         | succ XD =>
          have H := HA.out
          clear HA
          simp only [zX.j1] at H
          by_cases c27 : KS = true
          ·subst c27
           have H1 : (some false) = some r := by rw [if_pos rfl] at H; exact H
           clear H
           have H := H1
           clear H1
           obtain rfl := Option.some.inj H
           go_wp2
           go_ret
           exact ⟨by first | rfl | (simp [zR, zS] <;> rfl) | (simp [*, zR, zS] <;> rfl), by repeat (first | (with_reducible first | exact HB.out | apply yA | apply yZ | apply yx | refine xL ?_ Yf.out) | exact HB.out)⟩
          ·replace c27 := Bool.eq_false_iff.mpr c27
           subst c27
           have H1 : (if 0 ≤ (wrap64 (zy - 1)) then (if (wrap64 (zy - 1)) < (zQ.length : Int) then (if 0 ≤ ((zw zQ (wrap64 (zy - 1))).f2) then (if ((zw zQ (wrap64 (zy - 1))).f2) < (zi.length : Int) then (if 0 ≤ (wrap64 (zy + 1)) then (if (wrap64 (zy + 1)) < (zQ.length : Int) then ((ug.f ((zK zi ((zw zQ (wrap64 (zy - 1))).f2)).f0) ((zK zi ((zw zQ (wrap64 (zy - 1))).f2)).f1) ((zK zi ((zw zQ (wrap64 (zy - 1))).f2)).f2) ((zK zi ((zw zQ (wrap64 (zy - 1))).f2)).f3) ((zK zi ((zw zQ (wrap64 (zy - 1))).f2)).f4) ((zK zi ((zw zQ (wrap64 (zy - 1))).f2)).f5) ((zw zQ (wrap64 (zy - 1))).f4) ((zw zQ (wrap64 (zy + 1))).f4) (wrap64 (1 + (wrap64 (Int.tmod (IntKind.u64.wrap (yX)) 1000))))).bind fun vT => (if vT.2 = 0 then (if 0 ≤ zy then (if zy < (zQ.length : Int) then (if vT.1 = ((zw zQ zy).f1) then (zX.j2 XD zi zQ jc zy vT.1 (vT.1 == 0) (wrap64 (Int.tmod (IntKind.u64.wrap (yN)) 5)) (wrap64 (1 + (wrap64 (Int.tmod (IntKind.u64.wrap (yX)) 1000)))) yP yO) else (zX.j2 XD zi zQ jc zy vT.1 true (wrap64 (Int.tmod (IntKind.u64.wrap (yN)) 5)) (wrap64 (1 + (wrap64 (Int.tmod (IntKind.u64.wrap (yX)) 1000)))) yP yO)) else (none)) else (none)) else (zX.j2 XD zi zQ jc zy vT.1 true (wrap64 (Int.tmod (IntKind.u64.wrap (yN)) 5)) (wrap64 (1 + (wrap64 (Int.tmod (IntKind.u64.wrap (yX)) 1000)))) yP yO))) else (none)) else (none)) else (none)) else (none)) else (none)) else (none)) = some r := by rw [if_neg (show ¬ (false = true) by decide)] at H; exact H
           clear H
           have H := H1
           clear H1
           obtain ⟨zO, KT⟩ : ∃ j_ : Int, (wrap64 (zy - 1)) = j_ := ⟨_, rfl⟩
           replace H : (if 0 ≤ (zO) then (if (zO) < (zQ.length : Int) then (if 0 ≤ ((zw zQ (zO)).f2) then (if ((zw zQ (zO)).f2) < (zi.length : Int) then (if 0 ≤ (wrap64 (zy + 1)) then (if (wrap64 (zy + 1)) < (zQ.length : Int) then ((ug.f ((zK zi ((zw zQ (zO)).f2)).f0) ((zK zi ((zw zQ (zO)).f2)).f1) ((zK zi ((zw zQ (zO)).f2)).f2) ((zK zi ((zw zQ (zO)).f2)).f3) ((zK zi ((zw zQ (zO)).f2)).f4) ((zK zi ((zw zQ (zO)).f2)).f5) ((zw zQ (zO)).f4) ((zw zQ (wrap64 (zy + 1))).f4) (wrap64 (1 + (wrap64 (Int.tmod (IntKind.u64.wrap (yX)) 1000))))).bind fun vT => (if vT.2 = 0 then (if 0 ≤ zy then (if zy < (zQ.length : Int) then (if vT.1 = ((zw zQ zy).f1) then (zX.j2 XD zi zQ jc zy vT.1 (vT.1 == 0) (wrap64 (Int.tmod (IntKind.u64.wrap (yN)) 5)) (wrap64 (1 + (wrap64 (Int.tmod (IntKind.u64.wrap (yX)) 1000)))) yP yO) else (zX.j2 XD zi zQ jc zy vT.1 true (wrap64 (Int.tmod (IntKind.u64.wrap (yN)) 5)) (wrap64 (1 + (wrap64 (Int.tmod (IntKind.u64.wrap (yX)) 1000)))) yP yO)) else (none)) else (none)) else (zX.j2 XD zi zQ jc zy vT.1 true (wrap64 (Int.tmod (IntKind.u64.wrap (yN)) 5)) (wrap64 (1 + (wrap64 (Int.tmod (IntKind.u64.wrap (yX)) 1000)))) yP yO))) else (none)) else (none)) else (none)) else (none)) else (none)) else (none)) = some r := by first | (rw [KT] at H; exact H) | (simp only [KT] at H ⊢; exact H)
           have zJr : (IntKind.i64.wrap (zy - 1)) = zO := (qW _).trans KT
           by_cases c29 : 0 ≤ (zO)
           ·rw [if_pos c29] at H
            have zyo : decide (0 ≤ (zO)) = true := decide_eq_true c29
            clear c29
            by_cases c30 : (zO) < (zQ.length : Int)
            ·rw [if_pos c30] at H
             have zyp : decide ((zO) < (zQ.length : Int)) = true := decide_eq_true c30
             clear c30
             by_cases c31 : 0 ≤ ((zw zQ (zO)).f2)
             ·rw [if_pos c31] at H
              have zyr : decide (0 ≤ ((zw zQ (zO)).f2)) = true := decide_eq_true c31
              clear c31
              by_cases c32 : ((zw zQ (zO)).f2) < (zi.length : Int)
              ·rw [if_pos c32] at H
               have zys : decide (((zw zQ (zO)).f2) < (zi.length : Int)) = true := decide_eq_true c32
               clear c32
               obtain ⟨vM, KU⟩ : ∃ j_ : Int, (wrap64 (zy + 1)) = j_ := ⟨_, rfl⟩
               replace H : (if 0 ≤ (vM) then (if (vM) < (zQ.length : Int) then ((ug.f ((zK zi ((zw zQ (zO)).f2)).f0) ((zK zi ((zw zQ (zO)).f2)).f1) ((zK zi ((zw zQ (zO)).f2)).f2) ((zK zi ((zw zQ (zO)).f2)).f3) ((zK zi ((zw zQ (zO)).f2)).f4) ((zK zi ((zw zQ (zO)).f2)).f5) ((zw zQ (zO)).f4) ((zw zQ (vM)).f4) (wrap64 (1 + (wrap64 (Int.tmod (IntKind.u64.wrap (yX)) 1000))))).bind fun vT => (if vT.2 = 0 then (if 0 ≤ zy then (if zy < (zQ.length : Int) then (if vT.1 = ((zw zQ zy).f1) then (zX.j2 XD zi zQ jc zy vT.1 (vT.1 == 0) (wrap64 (Int.tmod (IntKind.u64.wrap (yN)) 5)) (wrap64 (1 + (wrap64 (Int.tmod (IntKind.u64.wrap (yX)) 1000)))) yP yO) else (zX.j2 XD zi zQ jc zy vT.1 true (wrap64 (Int.tmod (IntKind.u64.wrap (yN)) 5)) (wrap64 (1 + (wrap64 (Int.tmod (IntKind.u64.wrap (yX)) 1000)))) yP yO)) else (none)) else (none)) else (zX.j2 XD zi zQ jc zy vT.1 true (wrap64 (Int.tmod (IntKind.u64.wrap (yN)) 5)) (wrap64 (1 + (wrap64 (Int.tmod (IntKind.u64.wrap (yX)) 1000)))) yP yO))) else (none)) else (none)) = some r := by first | (rw [KU] at H; exact H) | (simp only [KU] at H ⊢; exact H)
               have zJs : (IntKind.i64.wrap (zy + 1)) = vM := (qW _).trans KU
               by_cases c34 : 0 ≤ (vM)
               ·rw [if_pos c34] at H
                have zyt : decide (0 ≤ (vM)) = true := decide_eq_true c34
                clear c34
                by_cases c35 : (vM) < (zQ.length : Int)
                ·rw [if_pos c35] at H
                 have zyu : decide ((vM) < (zQ.length : Int)) = true := decide_eq_true c35
                 clear c35
                 replace H := Option.bind_eq_some_iff.mp H
                 obtain ⟨⟨Yp, J8⟩, zvt, H⟩ := H
                 replace H : (if J8 = 0 then (if 0 ≤ zy then (if zy < (zQ.length : Int) then (if Yp = ((zw zQ zy).f1) then (zX.j2 XD zi zQ jc zy Yp (Yp == 0) (wrap64 (Int.tmod (IntKind.u64.wrap (yN)) 5)) (wrap64 (1 + (wrap64 (Int.tmod (IntKind.u64.wrap (yX)) 1000)))) yP yO) else (zX.j2 XD zi zQ jc zy Yp true (wrap64 (Int.tmod (IntKind.u64.wrap (yN)) 5)) (wrap64 (1 + (wrap64 (Int.tmod (IntKind.u64.wrap (yX)) 1000)))) yP yO)) else (none)) else (none)) else (zX.j2 XD zi zQ jc zy Yp true (wrap64 (Int.tmod (IntKind.u64.wrap (yN)) 5)) (wrap64 (1 + (wrap64 (Int.tmod (IntKind.u64.wrap (yX)) 1000)))) yP yO)) = some r := H
                 have A36 := zx.mk zvt
                 clear zvt
                 have zqI := zx.mk H
                 clear H
                 try go_wp2
                 have zf := zx.mk (Kd.qj yK.out)
                 have zl := zx.mk (Kd.qj zm.out)
                 have zu := zx.mk (xZ zW.out)
                 have zH := zx.mk (Kd.zo zG.out)
                 have qV := zx.mk (yx HB.out)
                 clear yK zm zW zG HB
                 have yK := zf
                 have zm := zl
                 have zW := zu
                 have zG := zH
                 have HB := qV
                 clear zf zl zu zH qV
                 have rD : 0 ≤ ((zO) : Int) := of_decide_eq_true (by first | (with_reducible assumption) | assumption)
                 have rE : (zO) < (zQ.length : Int) := of_decide_eq_true (by first | (with_reducible assumption) | assumption)
                 obtain ⟨zyA, K8, zzK, zZB, PY, PW, Pb, Pf, Pg, Ph, Vd, aG, aH⟩ := qo (Kd.zn zm.out).2.2 (zO) rD rE
                 obtain rfl : zJ = zyA := (by injection zZB)
                 obtain ⟨zJG, zvu, zvA, zzY⟩ := Kd.xB zm.out z53 (zO) rD (by first | exact rE | exact of_decide_eq_true (by first | (with_reducible assumption) | assumption) | (have e_ := (Kd.zn zm.out).1; omega))
                 obtain ⟨zX7, rfl, Pm⟩ := qJ zvA
                 have Ve := zzY 6 _ rfl
                 rw [zB _ _ 6 (by omega)] at Ve
                 replace Ve := Option.some.inj (Ve.symm.trans Vd)
                 rw [Ve] at Pm
                 have U8 := zx.mk (show Kd.R (Kd.int .i64) 3 _ _ _ _ ((zw zQ (zO)).f6) from Pm)
                 clear Ve Pm zzY zvu
                 have ZJ := zx.mk aH
                 have zX8 := zx.mk aG
                 clear aH aG
                 replace rD := eq_true rD
                 replace rE := eq_true rE
                 have rF : 0 ≤ (((zw zQ (zO)).f2) : Int) := of_decide_eq_true (by first | (with_reducible assumption) | assumption)
                 have rG : ((zw zQ (zO)).f2) < (zi.length : Int) := of_decide_eq_true (by first | (with_reducible assumption) | assumption)
                 obtain ⟨Yg, rH, zzW, rM, zza, rO, zzb, zZC, Pn, Po, Pp, U9, Jz, Jq, aI, aM, aN, aR, aT, aU⟩ := Yv (Kd.zn yK.out).2.2 ((zw zQ (zO)).f2) rF rG
                 cases zZC
                 obtain ⟨zJH, zvB, zvC, Wz⟩ := Kd.xB yK.out z60 ((zw zQ (zO)).f2) rF (by first | exact rG | exact of_decide_eq_true (by first | (with_reducible assumption) | assumption) | (have e_ := (Kd.zn yK.out).1; omega))
                 obtain ⟨zX9, zJz, zJq, rfl, Pt, PD, PE⟩ := Yu zvC
                 have Vf := Wz 3 _ rfl
                 rw [zB _ _ 3 (by omega)] at Vf
                 replace Vf := Option.some.inj (Vf.symm.trans U9)
                 rw [Vf] at Pt
                 have Jj := zx.mk (show Kd.R qH 105 _ _ _ _ ((zK zi ((zw zQ (zO)).f2)).f3) from Pt)
                 clear Vf Pt
                 have Vg := Wz 4 _ rfl
                 rw [zB _ _ 4 (by omega)] at Vg
                 replace Vg := Option.some.inj (Vg.symm.trans Jz)
                 rw [Vg] at PD
                 have Jv := zx.mk (show Kd.R vw 108 _ _ _ _ ((zK zi ((zw zQ (zO)).f2)).f4) from PD)
                 clear Vg PD
                 have Vh := Wz 5 _ rfl
                 rw [zB _ _ 5 (by omega)] at Vh
                 replace Vh := Option.some.inj (Vh.symm.trans Jq)
                 rw [Vh] at PE
                 have Jk := zx.mk (show Kd.R vC 111 _ _ _ _ ((zK zi ((zw zQ (zO)).f2)).f5) from PE)
                 clear Vh PE Wz zvB
                 have wT := zx.mk aM
                 have zjy := zx.mk aI
                 clear aM aI
                 have wU := zx.mk aR
                 have zjw := zx.mk aN
                 clear aR aN
                 have pz := zx.mk aU
                 have zjZ := zx.mk aT
                 clear aU aT
                 replace rF := eq_true rF
                 replace rG := eq_true rG
                 have rR : 0 ≤ ((zO) : Int) := of_decide_eq_true (by first | (with_reducible assumption) | assumption)
                 have rU : (zO) < (zQ.length : Int) := of_decide_eq_true (by first | (with_reducible assumption) | assumption)
                 obtain ⟨zyB, zJt, zJu, zZD, PG, PI, PL, PN, PO, PU, Vi, fq, fZ⟩ := qo (Kd.zn zm.out).2.2 (zO) rR rU
                 obtain rfl : zJ = zyB := (by injection zZD)
                 obtain ⟨zJI, zvD, zvE, zzc⟩ := Kd.xB zm.out z53 (zO) rR (by first | exact rU | exact of_decide_eq_true (by first | (with_reducible assumption) | assumption) | (have e_ := (Kd.zn zm.out).1; omega))
                 obtain ⟨zJx, rfl, P5⟩ := qJ zvE
                 have Vl := zzc 6 _ rfl
                 rw [zB _ _ 6 (by omega)] at Vl
                 replace Vl := Option.some.inj (Vl.symm.trans Vi)
                 rw [Vl] at P5
                 have Jy := zx.mk (show Kd.R (Kd.int .i64) 3 _ _ _ _ ((zw zQ (zO)).f6) from P5)
                 clear Vl P5 zzc zvD
                 have ZV := zx.mk fZ
                 have zJj := zx.mk fq
                 clear fZ fq
                 replace rR := eq_true rR
                 replace rU := eq_true rU
                 have uh := Option.some.inj (Vd.symm.trans Vi)
                 injection uh with uh YZ YQ
                 subst uh
                 subst YQ
                 clear YZ
                 have r9 : 0 ≤ ((vM) : Int) := of_decide_eq_true (by first | (with_reducible assumption) | assumption)
                 have sj : (vM) < (zQ.length : Int) := of_decide_eq_true (by first | (with_reducible assumption) | assumption)
                 obtain ⟨zyC, zzd, zvF, zZE, P6, P7, P8, P9, bq, bZ, Jw, fQ, fJ⟩ := qo (Kd.zn zm.out).2.2 (vM) r9 sj
                 obtain rfl : zJ = zyC := (by injection zZE)
                 obtain ⟨zJL, zvG, zvH, zze⟩ := Kd.xB zm.out z53 (vM) r9 (by first | exact sj | exact of_decide_eq_true (by first | (with_reducible assumption) | assumption) | (have e_ := (Kd.zn zm.out).1; omega))
                 obtain ⟨zJv, rfl, bQ⟩ := qJ zvH
                 have Vm := zze 6 _ rfl
                 rw [zB _ _ 6 (by omega)] at Vm
                 replace Vm := Option.some.inj (Vm.symm.trans Jw)
                 rw [Vm] at bQ
                 have JZ := zx.mk (show Kd.R (Kd.int .i64) 3 _ _ _ _ ((zw zQ (vM)).f6) from bQ)
                 clear Vm bQ zze zvG
                 have ZK := zx.mk fJ
                 have zJk := zx.mk fQ
                 clear fJ fQ
                 replace r9 := eq_true r9
                 replace sj := eq_true sj
                 refine jw (n := 29) (S := fun w' => w'.cell? ⟨yV, 0, none⟩ = some (.int .i64 (wrap64 (Int.tmod (IntKind.u64.wrap (yN)) 5))) ∧ w'.cell? ⟨yV, 1, none⟩ = some (.int .i64 (wrap64 (1 + (wrap64 (Int.tmod (IntKind.u64.wrap (yX)) 1000))))) ∧ w'.cell? ⟨yV, 2, none⟩ = some (.bool yP) ∧ w'.cell? ⟨yV, 3, none⟩ = some (.bool yO) ∧ w'.cell? (zJ.add (((zO)).toNat * 7)) = some (.int .i64 ((zw zQ (zO)).f0)) ∧ w'.cell? ⟨(zJ.add (((zO)).toNat * 7)).block, (zJ.add (((zO)).toNat * 7)).off + 1, none⟩ = some (.int .i64 ((zw zQ (zO)).f1)) ∧ w'.cell? ⟨(zJ.add (((zO)).toNat * 7)).block, (zJ.add (((zO)).toNat * 7)).off + 2, none⟩ = some (.int .i64 ((zw zQ (zO)).f2)) ∧ w'.cell? ⟨(zJ.add (((zO)).toNat * 7)).block, (zJ.add (((zO)).toNat * 7)).off + 3, none⟩ = some (.int .i64 ((zw zQ (zO)).f3)) ∧ w'.cell? ⟨(zJ.add (((zO)).toNat * 7)).block, (zJ.add (((zO)).toNat * 7)).off + 4, none⟩ = some (.string ((zw zQ (zO)).f4)) ∧ w'.cell? ⟨(zJ.add (((zO)).toNat * 7)).block, (zJ.add (((zO)).toNat * 7)).off + 5, none⟩ = some (.string ((zw zQ (zO)).f5)) ∧ w'.cell? ⟨(zJ.add (((zO)).toNat * 7)).block, (zJ.add (((zO)).toNat * 7)).off + 6, none⟩ = some (.slice K8 ((zw zQ (zO)).f6).length zzK) ∧ w'.cell? (Yg.add ((((zw zQ (zO)).f2)).toNat * 6)) = some (.string ((zK zi ((zw zQ (zO)).f2)).f0)) ∧ w'.cell? ⟨(Yg.add ((((zw zQ (zO)).f2)).toNat * 6)).block, (Yg.add ((((zw zQ (zO)).f2)).toNat * 6)).off + 1, none⟩ = some (.bool ((zK zi ((zw zQ (zO)).f2)).f1)) ∧ w'.cell? ⟨(Yg.add ((((zw zQ (zO)).f2)).toNat * 6)).block, (Yg.add ((((zw zQ (zO)).f2)).toNat * 6)).off + 2, none⟩ = some (.int .i64 ((zK zi ((zw zQ (zO)).f2)).f2)) ∧ w'.cell? ⟨(Yg.add ((((zw zQ (zO)).f2)).toNat * 6)).block, (Yg.add ((((zw zQ (zO)).f2)).toNat * 6)).off + 3, none⟩ = some (.slice rH ((zK zi ((zw zQ (zO)).f2)).f3).length zzW) ∧ w'.cell? ⟨(Yg.add ((((zw zQ (zO)).f2)).toNat * 6)).block, (Yg.add ((((zw zQ (zO)).f2)).toNat * 6)).off + 4, none⟩ = some (.slice rM ((zK zi ((zw zQ (zO)).f2)).f4).length zza) ∧ w'.cell? ⟨(Yg.add ((((zw zQ (zO)).f2)).toNat * 6)).block, (Yg.add ((((zw zQ (zO)).f2)).toNat * 6)).off + 5, none⟩ = some (.slice rO ((zK zi ((zw zQ (zO)).f2)).f5).length zzb) ∧ w'.cell? (zJ.add (((zO)).toNat * 7)) = some (.int .i64 ((zw zQ (zO)).f0)) ∧ w'.cell? ⟨(zJ.add (((zO)).toNat * 7)).block, (zJ.add (((zO)).toNat * 7)).off + 1, none⟩ = some (.int .i64 ((zw zQ (zO)).f1)) ∧ w'.cell? ⟨(zJ.add (((zO)).toNat * 7)).block, (zJ.add (((zO)).toNat * 7)).off + 2, none⟩ = some (.int .i64 ((zw zQ (zO)).f2)) ∧ w'.cell? ⟨(zJ.add (((zO)).toNat * 7)).block, (zJ.add (((zO)).toNat * 7)).off + 3, none⟩ = some (.int .i64 ((zw zQ (zO)).f3)) ∧ w'.cell? ⟨(zJ.add (((zO)).toNat * 7)).block, (zJ.add (((zO)).toNat * 7)).off + 4, none⟩ = some (.string ((zw zQ (zO)).f4)) ∧ w'.cell? ⟨(zJ.add (((zO)).toNat * 7)).block, (zJ.add (((zO)).toNat * 7)).off + 5, none⟩ = some (.string ((zw zQ (zO)).f5)) ∧ w'.cell? ⟨(zJ.add (((zO)).toNat * 7)).block, (zJ.add (((zO)).toNat * 7)).off + 6, none⟩ = some (.slice K8 ((zw zQ (zO)).f6).length zzK) ∧ w'.cell? (zJ.add (((vM)).toNat * 7)) = some (.int .i64 ((zw zQ (vM)).f0)) ∧ w'.cell? ⟨(zJ.add (((vM)).toNat * 7)).block, (zJ.add (((vM)).toNat * 7)).off + 1, none⟩ = some (.int .i64 ((zw zQ (vM)).f1)) ∧ w'.cell? ⟨(zJ.add (((vM)).toNat * 7)).block, (zJ.add (((vM)).toNat * 7)).off + 2, none⟩ = some (.int .i64 ((zw zQ (vM)).f2)) ∧ w'.cell? ⟨(zJ.add (((vM)).toNat * 7)).block, (zJ.add (((vM)).toNat * 7)).off + 3, none⟩ = some (.int .i64 ((zw zQ (vM)).f3)) ∧ w'.cell? ⟨(zJ.add (((vM)).toNat * 7)).block, (zJ.add (((vM)).toNat * 7)).off + 4, none⟩ = some (.string ((zw zQ (vM)).f4)) ∧ w'.cell? ⟨(zJ.add (((vM)).toNat * 7)).block, (zJ.add (((vM)).toNat * 7)).off + 5, none⟩ = some (.string ((zw zQ (vM)).f5)) ∧ w'.cell? ⟨(zJ.add (((vM)).toNat * 7)).block, (zJ.add (((vM)).toNat * 7)).off + 6, none⟩ = some (.slice zzd ((zw zQ (vM)).f6).length zvF)) (ds := []) #[false, false, false, false, false, false, false, false, false, false, false, false, false, false, false, false, false, false, false, false, false, false, false, false, false, false, false, false, false] (by kernel_rfl) rfl rfl ⟨(zZ zW.out 0).trans rfl, (zZ zW.out 1).trans rfl, (zZ zW.out 2).trans rfl, (zZ zW.out 3).trans rfl, PY, PW, Pb, Pf, Pg, Ph, Vd, Pn, Po, Pp, U9, Jz, Jq, PG, PI, PL, PN, PO, PU, Vi, P6, P7, P8, P9, bq, bZ, Jw⟩ (fun hHeld => ?_); refine uP zX.zym zX.zvm (fun zY vL => ?_)
                 generalize wc.drew = w38 at yK zm zW zG HB U8 Jj Jv Jk Jy JZ ZJ wT wU pz ZV ZK PY PW Pb Pf Pg Ph Vd Pn Po Pp U9 Jz Jq PG PI PL PN PO PU Vi P6 P7 P8 P9 bq bZ Jw hHeld ⊢
                 refine zA 0 (some 72) zY ?_
                 refine zA 1 (some 73) zY ?_
                 refine zA 2 (some 74) zY ?_
                 refine zA 3 (some 75) zY ?_
                 refine zA 4 (some 76) zY ?_
                 refine zA 5 (some 77) zY ?_
                 refine zA 9 (some 81) zY ?_
                 refine zA 10 (some 82) zY ?_
                 refine zA 11 (some 83) zY ?_
                 refine zA 12 (some 84) zY ?_
                 refine zA 13 (some 85) zY ?_
                 refine zA 15 (some 87) zY ?_
                 refine zA 16 (some 88) zY ?_
                 refine zA 17 (some 89) zY ?_
                 refine zA 18 (some 90) zY ?_
                 refine zA 19 (some 91) zY ?_
                 refine zA 21 (some 93) zY ?_
                 refine jZ 6 (some 78) zY vL hHeld ?_
                 refine zA 7 (some 79) zY ?_
                 refine jZ 8 (some 80) zY vL hHeld ?_
                 refine jZ 14 (some 86) zY vL hHeld ?_
                 refine jZ 20 (some 92) zY vL hHeld ?_
                 refine jZ 22 (some 94) zY vL hHeld ?_
                 refine Jm 23 (some 95) zY (fun K hK => ?_)
                 refine YP Tryz.func21 (by kernel_rfl) rfl #[.agg #[.string ((zK zi ((zw zQ (zO)).f2)).f0), .bool ((zK zi ((zw zQ (zO)).f2)).f1), .int .i64 ((zK zi ((zw zQ (zO)).f2)).f2), .slice rH ((zK zi ((zw zQ (zO)).f2)).f3).length zzW, .slice rM ((zK zi ((zw zQ (zO)).f2)).f4).length zza, .slice rO ((zK zi ((zw zQ (zO)).f2)).f5).length zzb], .string ((zw zQ (zO)).f4), .string ((zw zQ (vM)).f4), .int .i64 (wrap64 (1 + (wrap64 (Int.tmod (IntKind.u64.wrap (yX)) 1000))))] (by rfl) rfl rfl (by (try simp only [List.map_toArray, List.map_cons, List.map_nil]); first | done | (simp only [KT, KU]; rfl) | rfl | (simp only [List.length_drop, List.length_take]; rfl)) ?_
                 with_reducible refine (ug.calls ((zK zi ((zw zQ (zO)).f2)).f0) ((zK zi ((zw zQ (zO)).f2)).f1) ((zK zi ((zw zQ (zO)).f2)).f2) _ _ ((zK zi ((zw zQ (zO)).f2)).f3) _ _ ((zK zi ((zw zQ (zO)).f2)).f4) _ _ ((zK zi ((zw zQ (zO)).f2)).f5) ((zw zQ (zO)).f4) ((zw zQ (vM)).f4) (wrap64 (1 + (wrap64 (Int.tmod (IntKind.u64.wrap (yX)) 1000)))) Yp J8 _ ?qw ?qI ?xX ?xJ ?xV ?xK ?xY A36.out).mono ?_
                 (case qw => repeat (first | exact (vZ wT.out) | (with_reducible refine Kd.zD ?_ _) | (with_reducible refine Kd.zF ?_ _) | (with_reducible refine Kd.zo ?_)))
                 (case qI => exact zjy.out)
                 (case xX => repeat (first | exact (vZ wU.out) | (with_reducible refine Kd.zD ?_ _) | (with_reducible refine Kd.zF ?_ _) | (with_reducible refine Kd.zo ?_)))
                 (case xJ => exact zjw.out)
                 (case xV => repeat (first | exact (vZ pz.out) | (with_reducible refine Kd.zD ?_ _) | (with_reducible refine Kd.zF ?_ _) | (with_reducible refine Kd.zo ?_)))
                 (case xK => exact zjZ.out)
                 (case xY => exact GW.under HG.out (zP HB.out))
                 rintro e w39 ⟨rfl, hb⟩
                 have Qr := (hb.cell (wb _ _ (hHeld.2.2.2.2.1))).trans (hHeld.2.2.2.2.1)
                 have Qs := (hb.cell (wb _ _ (hHeld.2.2.2.2.2.1))).trans (hHeld.2.2.2.2.2.1)
                 have Qt := (hb.cell (wb _ _ (hHeld.2.2.2.2.2.2.1))).trans (hHeld.2.2.2.2.2.2.1)
                 have Qu := (hb.cell (wb _ _ (hHeld.2.2.2.2.2.2.2.1))).trans (hHeld.2.2.2.2.2.2.2.1)
                 have QA := (hb.cell (wb _ _ (hHeld.2.2.2.2.2.2.2.2.1))).trans (hHeld.2.2.2.2.2.2.2.2.1)
                 have QB := (hb.cell (wb _ _ (hHeld.2.2.2.2.2.2.2.2.2.1))).trans (hHeld.2.2.2.2.2.2.2.2.2.1)
                 have Y1 := (hb.cell (wb _ _ (hHeld.2.2.2.2.2.2.2.2.2.2.1))).trans (hHeld.2.2.2.2.2.2.2.2.2.2.1)
                 have Y2 := (hb.cell (wb _ _ (hHeld.2.2.2.2.2.2.2.2.2.2.2.1))).trans (hHeld.2.2.2.2.2.2.2.2.2.2.2.1)
                 have Y3 := (hb.cell (wb _ _ (hHeld.2.2.2.2.2.2.2.2.2.2.2.2.1))).trans (hHeld.2.2.2.2.2.2.2.2.2.2.2.2.1)
                 have Y4 := (hb.cell (wb _ _ (hHeld.2.2.2.2.2.2.2.2.2.2.2.2.2.1))).trans (hHeld.2.2.2.2.2.2.2.2.2.2.2.2.2.1)
                 have Y5 := (hb.cell (wb _ _ (hHeld.2.2.2.2.2.2.2.2.2.2.2.2.2.2.1))).trans (hHeld.2.2.2.2.2.2.2.2.2.2.2.2.2.2.1)
                 have Y6 := (hb.cell (wb _ _ (hHeld.2.2.2.2.2.2.2.2.2.2.2.2.2.2.2.1))).trans (hHeld.2.2.2.2.2.2.2.2.2.2.2.2.2.2.2.1)
                 have Y7 := (hb.cell (wb _ _ (hHeld.2.2.2.2.2.2.2.2.2.2.2.2.2.2.2.2.1))).trans (hHeld.2.2.2.2.2.2.2.2.2.2.2.2.2.2.2.2.1)
                 have Y8 := (hb.cell (wb _ _ (hHeld.2.2.2.2.2.2.2.2.2.2.2.2.2.2.2.2.2.1))).trans (hHeld.2.2.2.2.2.2.2.2.2.2.2.2.2.2.2.2.2.1)
                 have Y9 := (hb.cell (wb _ _ (hHeld.2.2.2.2.2.2.2.2.2.2.2.2.2.2.2.2.2.2.1))).trans (hHeld.2.2.2.2.2.2.2.2.2.2.2.2.2.2.2.2.2.2.1)
                 have Xz := (hb.cell (wb _ _ (hHeld.2.2.2.2.2.2.2.2.2.2.2.2.2.2.2.2.2.2.2.1))).trans (hHeld.2.2.2.2.2.2.2.2.2.2.2.2.2.2.2.2.2.2.2.1)
                 have Xq := (hb.cell (wb _ _ (hHeld.2.2.2.2.2.2.2.2.2.2.2.2.2.2.2.2.2.2.2.2.1))).trans (hHeld.2.2.2.2.2.2.2.2.2.2.2.2.2.2.2.2.2.2.2.2.1)
                 have Xx := (hb.cell (wb _ _ (hHeld.2.2.2.2.2.2.2.2.2.2.2.2.2.2.2.2.2.2.2.2.2.1))).trans (hHeld.2.2.2.2.2.2.2.2.2.2.2.2.2.2.2.2.2.2.2.2.2.1)
                 have Xj := (hb.cell (wb _ _ (hHeld.2.2.2.2.2.2.2.2.2.2.2.2.2.2.2.2.2.2.2.2.2.2.1))).trans (hHeld.2.2.2.2.2.2.2.2.2.2.2.2.2.2.2.2.2.2.2.2.2.2.1)
                 have Xv := (hb.cell (wb _ _ (hHeld.2.2.2.2.2.2.2.2.2.2.2.2.2.2.2.2.2.2.2.2.2.2.2.1))).trans (hHeld.2.2.2.2.2.2.2.2.2.2.2.2.2.2.2.2.2.2.2.2.2.2.2.1)
                 have zyD := (hb.cell (wb _ _ (hHeld.2.2.2.2.2.2.2.2.2.2.2.2.2.2.2.2.2.2.2.2.2.2.2.2.1))).trans (hHeld.2.2.2.2.2.2.2.2.2.2.2.2.2.2.2.2.2.2.2.2.2.2.2.2.1)
                 have zyE := (hb.cell (wb _ _ (hHeld.2.2.2.2.2.2.2.2.2.2.2.2.2.2.2.2.2.2.2.2.2.2.2.2.2.1))).trans (hHeld.2.2.2.2.2.2.2.2.2.2.2.2.2.2.2.2.2.2.2.2.2.2.2.2.2.1)
                 have zyF := (hb.cell (wb _ _ (hHeld.2.2.2.2.2.2.2.2.2.2.2.2.2.2.2.2.2.2.2.2.2.2.2.2.2.2.1))).trans (hHeld.2.2.2.2.2.2.2.2.2.2.2.2.2.2.2.2.2.2.2.2.2.2.2.2.2.2.1)
                 have zyG := (hb.cell (wb _ _ (hHeld.2.2.2.2.2.2.2.2.2.2.2.2.2.2.2.2.2.2.2.2.2.2.2.2.2.2.2.1))).trans (hHeld.2.2.2.2.2.2.2.2.2.2.2.2.2.2.2.2.2.2.2.2.2.2.2.2.2.2.2.1)
                 have zyH := (hb.cell (wb _ _ (hHeld.2.2.2.2.2.2.2.2.2.2.2.2.2.2.2.2.2.2.2.2.2.2.2.2.2.2.2.2.1))).trans (hHeld.2.2.2.2.2.2.2.2.2.2.2.2.2.2.2.2.2.2.2.2.2.2.2.2.2.2.2.2.1)
                 have zyI := (hb.cell (wb _ _ (hHeld.2.2.2.2.2.2.2.2.2.2.2.2.2.2.2.2.2.2.2.2.2.2.2.2.2.2.2.2.2.1))).trans (hHeld.2.2.2.2.2.2.2.2.2.2.2.2.2.2.2.2.2.2.2.2.2.2.2.2.2.2.2.2.2.1)
                 have zyL := (hb.cell (wb _ _ (hHeld.2.2.2.2.2.2.2.2.2.2.2.2.2.2.2.2.2.2.2.2.2.2.2.2.2.2.2.2.2.2))).trans (hHeld.2.2.2.2.2.2.2.2.2.2.2.2.2.2.2.2.2.2.2.2.2.2.2.2.2.2.2.2.2.2)
                 refine ⟨_, rfl, ?_⟩
                 have zf := zx.mk (Kd.qg (Zr yK.out) hb)
                 have zl := zx.mk (Kd.qg (Zr zm.out) hb)
                 have zu := zx.mk (Kd.yY (vI U8.out) hb)
                 have zH := zx.mk (Kd.yY (vI Jj.out) hb)
                 have qV := zx.mk (Kd.yY (vI Jv.out) hb)
                 have xD := zx.mk (Kd.yY (vI Jk.out) hb)
                 have wX := zx.mk (Kd.yY (vI Jy.out) hb)
                 have wJ := zx.mk (Kd.yY (vI JZ.out) hb)
                 have wV := zx.mk (zN (g := yV) (o := .cells #[.int .i64 (wrap64 (Int.tmod (IntKind.u64.wrap (yN)) 5)), .int .i64 (wrap64 (1 + (wrap64 (Int.tmod (IntKind.u64.wrap (yX)) 1000)))), .bool yP, .bool yO] 26 (0, 0)) (ji zW.out) hb)
                 have wK := zx.mk (Kd.zh (vZ zG.out) hb)
                 have um := zx.mk (Kd.zh (vZ ZJ.out) hb)
                 have uo := zx.mk (Kd.zh (vZ wT.out) hb)
                 have uD := zx.mk (Kd.zh (vZ wU.out) hb)
                 have uE := zx.mk (Kd.zh (vZ pz.out) hb)
                 have uF := zx.mk (Kd.zh (vZ ZV.out) hb)
                 have uG := zx.mk (Kd.zh (vZ ZK.out) hb)
                 have zvI := zx.mk (zL (zP HB.out) hb)
                 clear yK zm U8 Jj Jv Jk Jy JZ zW zG ZJ wT wU pz ZV ZK HB
                 have yK := zf
                 have zm := zl
                 have U8 := zu
                 have Jj := zH
                 have Jv := qV
                 have Jk := xD
                 have Jy := wX
                 have JZ := wJ
                 have zW := wV
                 have zG := wK
                 have ZJ := um
                 have wT := uo
                 have wU := uD
                 have pz := uE
                 have ZV := uF
                 have ZK := uG
                 have HB := zvI
                 clear zf zl zu zH qV xD wX wJ wV wK um uo uD uE uF uG zvI
                 (try clear hb)
                 (try clear hb2)
                 (try clear hk)
                 (try clear hi)
                 refine hK.out _ _ ⟨(zZ zW.out 0).trans rfl, (zZ zW.out 1).trans rfl, (zZ zW.out 2).trans rfl, (zZ zW.out 3).trans rfl, Qr, Qs, Qt, Qu, QA, QB, Y1, Y2, Y3, Y4, Y5, Y6, Y7, Y8, Y9, Xz, Xq, Xx, Xj, Xv, zyD, zyE, zyF, zyG, zyH, zyI, zyL⟩ (fun hHeld => ?_)
                 clear hK K
                 refine Jl (some 95) ?_
                 refine zA 24 (some 71) zY ?_
                 refine zA 25 (some 96) zY ?_
                 refine zA 26 (some 97) zY ?_
                 refine zA 27 (some 11) zY ?_
                 refine zA 28 (some 12) zY ?_
                 refine jk (xM zY.out (by kernel_rfl)) ?_
                 go_upto_region 17 with (fail)
                 go_cut [112] (fun rZ wc => ∃ (kq : Nat) (JQ : Bool), rZ = .bool JQ ∧ zx (zX.j2 kq zi zQ jc zy Yp JQ (wrap64 (Int.tmod (IntKind.u64.wrap (yN)) 5)) (wrap64 (1 + (wrap64 (Int.tmod (IntKind.u64.wrap (yX)) 1000)))) yP yO = some r) ∧ zx (kq ≤ XD) ∧ zx (Kd.S Zq 60 wc w.heap.size (fun _ => True) (.slice (some Yg) zi.length iT) zi) ∧ zx (Kd.S Xb 53 wc w.heap.size (fun _ => True) (.slice (some zJ) zQ.length zvs) zQ) ∧ zx (wc.heap[yV]? = some (.cells #[.int .i64 (wrap64 (Int.tmod (IntKind.u64.wrap (yN)) 5)), .int .i64 (wrap64 (1 + (wrap64 (Int.tmod (IntKind.u64.wrap (yX)) 1000)))), .bool yP, .bool yO] 26 (0, 0))) ∧ zx (Kd.C (Kd.int .i64) wc Qo ((zw zQ zy).f6).length ((zw zQ zy).f6)) ∧ zx (Kd.C (Kd.int .i64) wc K8 ((zw zQ (zO)).f6).length ((zw zQ (zO)).f6)) ∧ zx (Kd.C qH wc rH ((zK zi ((zw zQ (zO)).f2)).f3).length ((zK zi ((zw zQ (zO)).f2)).f3)) ∧ zx (Kd.C vw wc rM ((zK zi ((zw zQ (zO)).f2)).f4).length ((zK zi ((zw zQ (zO)).f2)).f4)) ∧ zx (Kd.C vC wc rO ((zK zi ((zw zQ (zO)).f2)).f5).length ((zK zi ((zw zQ (zO)).f2)).f5)) ∧ zx (Kd.C (Kd.int .i64) wc K8 ((zw zQ (zO)).f6).length ((zw zQ (zO)).f6)) ∧ zx (Kd.C (Kd.int .i64) wc zzd ((zw zQ (vM)).f6).length ((zw zQ (vM)).f6)) ∧ zx (Below w.heap.size w wc))
                 case first =>
                  have H := zqI.out
                  clear zqI
                  by_cases c40 : J8 = 0
                  ·rw [if_pos c40] at H
                   have JX : (J8 == 0) = true := beq_iff_eq.mpr c40
                   have zxa : (J8 != 0) = false := bne_eq_false_iff_eq.mpr c40
                   clear c40
                   (first | rw [JX] | (simp only [qW, qd]; rw [JX]) | skip)
                   by_cases c41 : 0 ≤ zy
                   ·rw [if_pos c41] at H
                    have zyM : decide (0 ≤ zy) = true := decide_eq_true c41
                    clear c41
                    by_cases c42 : zy < (zQ.length : Int)
                    ·rw [if_pos c42] at H
                     have zyN : decide (zy < (zQ.length : Int)) = true := decide_eq_true c42
                     clear c42
                     by_cases bT : Yp = ((zw zQ zy).f1)
                     ·rw [if_pos bT] at H
                      have zxb : (Yp == ((zw zQ zy).f1)) = true := beq_iff_eq.mpr bT
                      have zxc : (Yp != ((zw zQ zy).f1)) = false := bne_eq_false_iff_eq.mpr bT
                      clear bT
                      have H' := zx.mk H
                      clear H
                      have Vq : 0 ≤ (zy : Int) := of_decide_eq_true (by first | (with_reducible assumption) | assumption)
                      have Vx : zy < (zQ.length : Int) := of_decide_eq_true (by first | (with_reducible assumption) | assumption)
                      obtain ⟨iU, zvL, zvM, zqL, fV, fK, fu, fA, fB, fC, JJ, Vn, Vo⟩ := qo (Kd.zn zm.out).2.2 zy Vq Vx
                      obtain rfl : zJ = iU := (by injection zqL)
                      obtain ⟨zyO, sw, sZ, UF⟩ := Kd.xB zm.out z53 zy Vq (by first | exact Vx | exact of_decide_eq_true (by first | (with_reducible assumption) | assumption) | (have e_ := (Kd.zn zm.out).1; omega))
                      obtain ⟨zjQ, rfl, XE⟩ := qJ sZ
                      have ZY := UF 6 _ rfl
                      rw [zB _ _ 6 (by omega)] at ZY
                      replace ZY := Option.some.inj (ZY.symm.trans JJ)
                      rw [ZY] at XE
                      have zjX := zx.mk (show Kd.R (Kd.int .i64) 3 _ _ _ _ ((zw zQ zy).f6) from XE)
                      clear ZY XE UF sw
                      have zjJ := zx.mk Vo
                      have zjV := zx.mk Vn
                      clear Vo Vn
                      replace Vq := eq_true Vq
                      replace Vx := eq_true Vx
                      go_wp2
                      go_meet
                      case rel => exact ⟨_, ((Yp == 0)), (by first | rfl | (simp; done) | (simp [*]; done)), H', ⟨by have := jg.out; have := rA.out; first | omega | exact Nat.le_refl _⟩, ⟨by (with_reducible repeat (first | apply Kd.xu | apply Kd.xA | apply Kd.qj)); exact yK.out⟩, ⟨by (with_reducible repeat (first | apply Kd.xu | apply Kd.xA | apply Kd.qj)); exact zm.out⟩, ⟨ji zW.out⟩, ⟨by repeat (first | (with_reducible exact zG.out) | (with_reducible refine Kd.zD ?_ _) | (with_reducible refine Kd.zF ?_ _) | (with_reducible refine Kd.zo ?_) | exact zG.out)⟩, ⟨by repeat (first | (with_reducible exact ZJ.out) | (with_reducible refine Kd.zD ?_ _) | (with_reducible refine Kd.zF ?_ _) | (with_reducible refine Kd.zo ?_) | exact ZJ.out)⟩, ⟨by repeat (first | (with_reducible exact wT.out) | (with_reducible refine Kd.zD ?_ _) | (with_reducible refine Kd.zF ?_ _) | (with_reducible refine Kd.zo ?_) | exact wT.out)⟩, ⟨by repeat (first | (with_reducible exact wU.out) | (with_reducible refine Kd.zD ?_ _) | (with_reducible refine Kd.zF ?_ _) | (with_reducible refine Kd.zo ?_) | exact wU.out)⟩, ⟨by repeat (first | (with_reducible exact pz.out) | (with_reducible refine Kd.zD ?_ _) | (with_reducible refine Kd.zF ?_ _) | (with_reducible refine Kd.zo ?_) | exact pz.out)⟩, ⟨by repeat (first | (with_reducible exact ZV.out) | (with_reducible refine Kd.zD ?_ _) | (with_reducible refine Kd.zF ?_ _) | (with_reducible refine Kd.zo ?_) | exact ZV.out)⟩, ⟨by repeat (first | (with_reducible exact ZK.out) | (with_reducible refine Kd.zD ?_ _) | (with_reducible refine Kd.zF ?_ _) | (with_reducible refine Kd.zo ?_) | exact ZK.out)⟩, ⟨zP HB.out⟩⟩
                     ·rw [if_neg bT] at H
                      have zxb : (Yp == ((zw zQ zy).f1)) = false := beq_eq_false_iff_ne.mpr bT
                      have zxc : (Yp != ((zw zQ zy).f1)) = true := bne_iff_ne.mpr bT
                      have H' := zx.mk H
                      clear H
                      have Vq : 0 ≤ (zy : Int) := of_decide_eq_true (by first | (with_reducible assumption) | assumption)
                      have Vx : zy < (zQ.length : Int) := of_decide_eq_true (by first | (with_reducible assumption) | assumption)
                      obtain ⟨iU, zvL, zvM, zqL, fV, fK, fu, fA, fB, fC, JJ, Vn, Vo⟩ := qo (Kd.zn zm.out).2.2 zy Vq Vx
                      obtain rfl : zJ = iU := (by injection zqL)
                      obtain ⟨zyO, sw, sZ, UF⟩ := Kd.xB zm.out z53 zy Vq (by first | exact Vx | exact of_decide_eq_true (by first | (with_reducible assumption) | assumption) | (have e_ := (Kd.zn zm.out).1; omega))
                      obtain ⟨zjQ, rfl, XE⟩ := qJ sZ
                      have ZY := UF 6 _ rfl
                      rw [zB _ _ 6 (by omega)] at ZY
                      replace ZY := Option.some.inj (ZY.symm.trans JJ)
                      rw [ZY] at XE
                      have zjX := zx.mk (show Kd.R (Kd.int .i64) 3 _ _ _ _ ((zw zQ zy).f6) from XE)
                      clear ZY XE UF sw
                      have zjJ := zx.mk Vo
                      have zjV := zx.mk Vn
                      clear Vo Vn
                      replace Vq := eq_true Vq
                      replace Vx := eq_true Vx
                      go_wp2
                      go_meet
                      case rel => exact ⟨_, (true), (by first | rfl | (simp; done) | (simp [*]; done)), H', ⟨by have := jg.out; have := rA.out; first | omega | exact Nat.le_refl _⟩, ⟨by (with_reducible repeat (first | apply Kd.xu | apply Kd.xA | apply Kd.qj)); exact yK.out⟩, ⟨by (with_reducible repeat (first | apply Kd.xu | apply Kd.xA | apply Kd.qj)); exact zm.out⟩, ⟨ji zW.out⟩, ⟨by repeat (first | (with_reducible exact zG.out) | (with_reducible refine Kd.zD ?_ _) | (with_reducible refine Kd.zF ?_ _) | (with_reducible refine Kd.zo ?_) | exact zG.out)⟩, ⟨by repeat (first | (with_reducible exact ZJ.out) | (with_reducible refine Kd.zD ?_ _) | (with_reducible refine Kd.zF ?_ _) | (with_reducible refine Kd.zo ?_) | exact ZJ.out)⟩, ⟨by repeat (first | (with_reducible exact wT.out) | (with_reducible refine Kd.zD ?_ _) | (with_reducible refine Kd.zF ?_ _) | (with_reducible refine Kd.zo ?_) | exact wT.out)⟩, ⟨by repeat (first | (with_reducible exact wU.out) | (with_reducible refine Kd.zD ?_ _) | (with_reducible refine Kd.zF ?_ _) | (with_reducible refine Kd.zo ?_) | exact wU.out)⟩, ⟨by repeat (first | (with_reducible exact pz.out) | (with_reducible refine Kd.zD ?_ _) | (with_reducible refine Kd.zF ?_ _) | (with_reducible refine Kd.zo ?_) | exact pz.out)⟩, ⟨by repeat (first | (with_reducible exact ZV.out) | (with_reducible refine Kd.zD ?_ _) | (with_reducible refine Kd.zF ?_ _) | (with_reducible refine Kd.zo ?_) | exact ZV.out)⟩, ⟨by repeat (first | (with_reducible exact ZK.out) | (with_reducible refine Kd.zD ?_ _) | (with_reducible refine Kd.zF ?_ _) | (with_reducible refine Kd.zo ?_) | exact ZK.out)⟩, ⟨zP HB.out⟩⟩
                    ·rw [if_neg c42] at H
                     exact absurd H (by simp)
                   ·rw [if_neg c41] at H
                    exact absurd H (by simp)
                  ·rw [if_neg c40] at H
                   have JX : (J8 == 0) = false := beq_eq_false_iff_ne.mpr c40
                   have zxa : (J8 != 0) = true := bne_iff_ne.mpr c40
                   (first | rw [JX] | (simp only [qW, qd]; rw [JX]) | skip)
                   have H' := zx.mk H
                   clear H
                   go_wp2
                   go_meet
                   case rel => exact ⟨_, (true), (by first | rfl | (simp; done) | (simp [*]; done)), H', ⟨by have := jg.out; have := rA.out; first | omega | exact Nat.le_refl _⟩, ⟨by (with_reducible repeat (first | apply Kd.xu | apply Kd.xA | apply Kd.qj)); exact yK.out⟩, ⟨by (with_reducible repeat (first | apply Kd.xu | apply Kd.xA | apply Kd.qj)); exact zm.out⟩, ⟨ji zW.out⟩, ⟨by repeat (first | (with_reducible exact zG.out) | (with_reducible refine Kd.zD ?_ _) | (with_reducible refine Kd.zF ?_ _) | (with_reducible refine Kd.zo ?_) | exact zG.out)⟩, ⟨by repeat (first | (with_reducible exact ZJ.out) | (with_reducible refine Kd.zD ?_ _) | (with_reducible refine Kd.zF ?_ _) | (with_reducible refine Kd.zo ?_) | exact ZJ.out)⟩, ⟨by repeat (first | (with_reducible exact wT.out) | (with_reducible refine Kd.zD ?_ _) | (with_reducible refine Kd.zF ?_ _) | (with_reducible refine Kd.zo ?_) | exact wT.out)⟩, ⟨by repeat (first | (with_reducible exact wU.out) | (with_reducible refine Kd.zD ?_ _) | (with_reducible refine Kd.zF ?_ _) | (with_reducible refine Kd.zo ?_) | exact wU.out)⟩, ⟨by repeat (first | (with_reducible exact pz.out) | (with_reducible refine Kd.zD ?_ _) | (with_reducible refine Kd.zF ?_ _) | (with_reducible refine Kd.zo ?_) | exact pz.out)⟩, ⟨by repeat (first | (with_reducible exact ZV.out) | (with_reducible refine Kd.zD ?_ _) | (with_reducible refine Kd.zF ?_ _) | (with_reducible refine Kd.zo ?_) | exact ZV.out)⟩, ⟨by repeat (first | (with_reducible exact ZK.out) | (with_reducible refine Kd.zD ?_ _) | (with_reducible refine Kd.zF ?_ _) | (with_reducible refine Kd.zo ?_) | exact ZK.out)⟩, ⟨zP HB.out⟩⟩
                 case rest =>
                  clear zqI
                  try clear c2
                  try clear p2
                  try clear c3
                  try clear c4
                  try clear p4
                  try clear q4
                  try clear hx4
                  try clear p6
                  try clear c21
                  try clear c27
                  try clear c29
                  try clear zyo
                  try clear c30
                  try clear zyp
                  try clear c31
                  try clear zyr
                  try clear c32
                  try clear zys
                  try clear c34
                  try clear zyt
                  try clear c35
                  try clear zyu
                  try clear c40
                  try clear JX
                  try clear zxa
                  try clear c41
                  try clear zyM
                  try clear c42
                  try clear zyN
                  try clear bT
                  try clear zxb
                  try clear zxc
                  try clear Xr
                  try clear Xt
                  try clear Xu
                  try clear XA
                  try clear XB
                  try clear XC
                  try clear wh
                  try clear PY
                  try clear PW
                  try clear Pb
                  try clear Pf
                  try clear Pg
                  try clear Ph
                  try clear Vd
                  try clear Pn
                  try clear Po
                  try clear Pp
                  try clear U9
                  try clear Jz
                  try clear Jq
                  try clear PG
                  try clear PI
                  try clear PL
                  try clear PN
                  try clear PO
                  try clear PU
                  try clear Vi
                  try clear P6
                  try clear P7
                  try clear P8
                  try clear P9
                  try clear bq
                  try clear bZ
                  try clear Jw
                  try clear fV
                  try clear fK
                  try clear fu
                  try clear fA
                  try clear fB
                  try clear fC
                  try clear JJ
                  try clear p2
                  try clear uM
                  try clear rD
                  try clear rF
                  try clear rR
                  try clear r9
                  try clear Vq
                  try clear p6
                  try clear uN
                  try clear rE
                  try clear rG
                  try clear rU
                  try clear sj
                  try clear Vx
                  obtain ⟨kq, JQ, rfl, HA, zvN, yK, zm, zW, zG, ZJ, wT, wU, pz, ZV, ZK, HB⟩ := hcut
                  cases kq with
                  | zero => exact absurd HA.out (by simp [zX.j2])
                  | succ zvO =>
                   have H := HA.out
                   clear HA
                   simp only [zX.j2] at H
                   by_cases c44 : JQ = true
                   ·subst c44
                    have H1 : (some false) = some r := by rw [if_pos rfl] at H; exact H
                    clear H
                    have H := H1
                    clear H1
                    obtain rfl := Option.some.inj H
                    go_wp2
                    go_ret
                    exact ⟨by first | rfl | (simp [zR, zS] <;> rfl) | (simp only [← KT, ← KU]; first | rfl | (simp [zR, zS] <;> rfl)) | (simp [*, zR, zS] <;> rfl), by repeat (first | (with_reducible first | exact HB.out | apply yA | apply yZ | apply yx | refine xL ?_ Yf.out) | exact HB.out)⟩
                   ·replace c44 := Bool.eq_false_iff.mpr c44
                    subst c44
                    have H1 : (zX.l0 zvO zi zQ (wrap64 (jc + Yp)) (wrap64 (zy + 1)) (wrap64 (Int.tmod (IntKind.u64.wrap (yN)) 5)) (wrap64 (1 + (wrap64 (Int.tmod (IntKind.u64.wrap (yX)) 1000)))) yP yO) = some r := by rw [if_neg (show ¬ (false = true) by decide)] at H; exact H
                    clear H
                    have H := H1
                    clear H1
                    have H' := zx.mk H
                    clear H
                    go_wp2
                    go_roundg zvO
                    case measure => have := jg.out; have := rA.out; have := zvN.out; omega
                    case rel => exact ⟨(wrap64 (jc + Yp)), (wrap64 (zy + 1)), (by first | rfl | (simp; done) | (simp [*]; done)), (by first | rfl | (simp; done) | (simp [*]; done)), H', ⟨by have := jg.out; have := rA.out; have := zvN.out; omega⟩, ⟨by (with_reducible repeat (first | apply Kd.xu | apply Kd.xA | apply Kd.qj)); exact yK.out⟩, ⟨by (with_reducible repeat (first | apply Kd.xu | apply Kd.xA | apply Kd.qj)); exact zm.out⟩, ⟨ji zW.out⟩, ⟨zP HB.out⟩⟩
                ·rw [if_neg c35] at H
                 exact absurd H (by simp)
               ·rw [if_neg c34] at H
                exact absurd H (by simp)
              ·rw [if_neg c32] at H
               exact absurd H (by simp)
             ·rw [if_neg c31] at H
              exact absurd H (by simp)
            ·rw [if_neg c30] at H
             exact absurd H (by simp)
           ·rw [if_neg c29] at H
            exact absurd H (by simp)
       ·rw [if_neg c21] at H
        have zxJ : (((zw zQ zy).f0) == 2) = false := beq_eq_false_iff_ne.mpr c21
        have zxV : (((zw zQ zy).f0) != 2) = true := bne_iff_ne.mpr c21
        by_cases c45 : 0 ≤ ((zw zQ zy).f2)
        ·rw [if_pos c45] at H
         have zJM : decide (0 ≤ ((zw zQ zy).f2)) = true := decide_eq_true c45
         clear c45
         by_cases c46 : ((zw zQ zy).f2) < (zi.length : Int)
         ·rw [if_pos c46] at H
          have zJN : decide (((zw zQ zy).f2) < (zi.length : Int)) = true := decide_eq_true c46
          clear c46
          replace H := Option.bind_eq_some_iff.mp H
          obtain ⟨⟨XF, QC⟩, zvP, H⟩ := H
          replace H : (if ((zw zQ zy).f0) = 0 then (if QC = 0 then (if XF = ((zw zQ zy).f1) then (if ((zw zQ zy).f3) = (wrap64 (1 + (wrap64 (Int.tmod (IntKind.u64.wrap (yX)) 1000)))) then (zX.l0 k1 zi zQ (wrap64 (jc + XF)) (wrap64 (zy + 1)) (wrap64 (Int.tmod (IntKind.u64.wrap (yN)) 5)) (wrap64 (1 + (wrap64 (Int.tmod (IntKind.u64.wrap (yX)) 1000)))) yP yO) else (some false)) else (some false)) else (some false)) else (some false)) = some r := H
          have A47 := zx.mk zvP
          clear zvP
          by_cases sQ : ((zw zQ zy).f0) = 0
          ·rw [if_pos sQ] at H
           have zyP : (((zw zQ zy).f0) == 0) = true := beq_iff_eq.mpr sQ
           have zyR : (((zw zQ zy).f0) != 0) = false := bne_eq_false_iff_eq.mpr sQ
           clear sQ
           by_cases c49 : QC = 0
           ·rw [if_pos c49] at H
            have zyS : (QC == 0) = true := beq_iff_eq.mpr c49
            have zyT : (QC != 0) = false := bne_eq_false_iff_eq.mpr c49
            clear c49
            by_cases Wq : XF = ((zw zQ zy).f1)
            ·rw [if_pos Wq] at H
             have zyU : (XF == ((zw zQ zy).f1)) = true := beq_iff_eq.mpr Wq
             have zy0 : (XF != ((zw zQ zy).f1)) = false := bne_eq_false_iff_eq.mpr Wq
             clear Wq
             by_cases c51 : ((zw zQ zy).f3) = (wrap64 (1 + (wrap64 (Int.tmod (IntKind.u64.wrap (yX)) 1000))))
             ·rw [if_pos c51] at H
              have zy1 : (((zw zQ zy).f3) == (wrap64 (1 + (wrap64 (Int.tmod (IntKind.u64.wrap (yX)) 1000))))) = true := beq_iff_eq.mpr c51
              have zy2 : (((zw zQ zy).f3) != (wrap64 (1 + (wrap64 (Int.tmod (IntKind.u64.wrap (yX)) 1000))))) = false := bne_eq_false_iff_eq.mpr c51
              clear c51
              have H' := zx.mk H
              clear H
              obtain ⟨zVV, zVK, zZF⟩ := Kd.jY zm.out
              subst zZF
              have uM : 0 ≤ (zy : Int) := of_decide_eq_true (by first | (with_reducible assumption) | assumption)
              have uN : zy < (zQ.length : Int) := of_decide_eq_true (by first | (with_reducible assumption) | assumption)
              obtain ⟨zJ, Qo, UE, Qp, Xr, Xt, Xu, XA, XB, XC, wh, uT, uU⟩ := qo (Kd.zn zm.out).2.2 zy uM uN
              cases Qp
              obtain ⟨KR, ZM, ZN, jh⟩ := Kd.xB zm.out z53 zy uM (by first | exact uN | exact of_decide_eq_true (by first | (with_reducible assumption) | assumption) | (have e_ := (Kd.zn zm.out).1; omega))
              obtain ⟨Va, rfl, vB⟩ := qJ ZN
              have qh := jh 6 _ rfl
              rw [zB _ _ 6 (by omega)] at qh
              replace qh := Option.some.inj (qh.symm.trans wh)
              rw [qh] at vB
              have yQ := zx.mk (show Kd.R (Kd.int .i64) 3 _ _ _ _ ((zw zQ zy).f6) from vB)
              clear qh vB jh ZM
              have zG := zx.mk uU
              have Vb := zx.mk uT
              clear uU uT
              replace uM := eq_true uM
              replace uN := eq_true uN
              try go_wp2
              have zf := zx.mk (Kd.qj yK.out)
              have zl := zx.mk (Kd.qj zm.out)
              have zu := zx.mk (Kd.qm yQ.out)
              have zH := zx.mk (xZ zW.out)
              have qV := zx.mk (Kd.zo zG.out)
              have xD := zx.mk (yx HB.out)
              clear yK zm yQ zW zG HB
              have yK := zf
              have zm := zl
              have yQ := zu
              have zW := zH
              have zG := qV
              have HB := xD
              clear zf zl zu zH qV xD
              have kM : 0 ≤ (zy : Int) := of_decide_eq_true (by first | (with_reducible assumption) | assumption)
              have kN : zy < (zQ.length : Int) := of_decide_eq_true (by first | (with_reducible assumption) | assumption)
              obtain ⟨QX, pV, pK, V9, jm, jo, jr, jA, jB, jC, xP, jD, jE⟩ := qo (Kd.zn zm.out).2.2 zy kM kN
              obtain rfl : zJ = QX := (by injection V9)
              obtain ⟨dV, Xk, Xy, pY⟩ := Kd.xB zm.out z53 zy kM (by first | exact kN | exact of_decide_eq_true (by first | (with_reducible assumption) | assumption) | (have e_ := (Kd.zn zm.out).1; omega))
              obtain ⟨JV, rfl, vU⟩ := qJ Xy
              have qP := pY 6 _ rfl
              rw [zB _ _ 6 (by omega)] at qP
              replace qP := Option.some.inj (qP.symm.trans xP)
              rw [qP] at vU
              have yT := zx.mk (show Kd.R (Kd.int .i64) 3 _ _ _ _ ((zw zQ zy).f6) from vU)
              clear qP vU pY Xk
              have yU := zx.mk jE
              have JK := zx.mk jD
              clear jE jD
              replace kM := eq_true kM
              replace kN := eq_true kN
              have kP : 0 ≤ (((zw zQ zy).f2) : Int) := of_decide_eq_true (by first | (with_reducible assumption) | assumption)
              have kR : ((zw zQ zy).f2) < (zi.length : Int) := of_decide_eq_true (by first | (with_reducible assumption) | assumption)
              obtain ⟨qX, pW, pE, pF, pG, pI, pO, Uz, jF, jG, jH, uz, uq, uj, jI, jL, jM, jN, jO, jP⟩ := Yv (Kd.zn yK.out).2.2 ((zw zQ zy).f2) kP kR
              cases Uz
              obtain ⟨dK, Xw, XZ, vO⟩ := Kd.xB yK.out z60 ((zw zQ zy).f2) kP (by first | exact kR | exact of_decide_eq_true (by first | (with_reducible assumption) | assumption) | (have e_ := (Kd.zn yK.out).1; omega))
              obtain ⟨JY, JW, Ja, rfl, uy, uw, uZ⟩ := Yu XZ
              have qR := vO 3 _ rfl
              rw [zB _ _ 3 (by omega)] at qR
              replace qR := Option.some.inj (qR.symm.trans uz)
              rw [qR] at uy
              have y7 := zx.mk (show Kd.R qH 105 _ _ _ _ ((zK zi ((zw zQ zy).f2)).f3) from uy)
              clear qR uy
              have qU := vO 4 _ rfl
              rw [zB _ _ 4 (by omega)] at qU
              replace qU := Option.some.inj (qU.symm.trans uq)
              rw [qU] at uw
              have y8 := zx.mk (show Kd.R vw 108 _ _ _ _ ((zK zi ((zw zQ zy).f2)).f4) from uw)
              clear qU uw
              have q8 := vO 5 _ rfl
              rw [zB _ _ 5 (by omega)] at q8
              replace q8 := Option.some.inj (q8.symm.trans uj)
              rw [q8] at uZ
              have y9 := zx.mk (show Kd.R vC 111 _ _ _ _ ((zK zi ((zw zQ zy).f2)).f5) from uZ)
              clear q8 uZ vO Xw
              have yE := zx.mk jL
              have Z6 := zx.mk jI
              clear jL jI
              have yF := zx.mk jN
              have Z7 := zx.mk jM
              clear jN jM
              have yG := zx.mk jP
              have Z8 := zx.mk jO
              clear jP jO
              replace kP := eq_true kP
              replace kR := eq_true kR
              have kS : 0 ≤ (zy : Int) := of_decide_eq_true (by first | (with_reducible assumption) | assumption)
              have kT : zy < (zQ.length : Int) := of_decide_eq_true (by first | (with_reducible assumption) | assumption)
              obtain ⟨QJ, Wx, Wj, Uq, jR, jS, jT, jU, j3, j4, xR, j5, j6⟩ := qo (Kd.zn zm.out).2.2 zy kS kT
              obtain rfl : zJ = QJ := (by injection Uq)
              obtain ⟨dY, XQ, XJ, pR⟩ := Kd.xB zm.out z53 zy kS (by first | exact kT | exact of_decide_eq_true (by first | (with_reducible assumption) | assumption) | (have e_ := (Kd.zn zm.out).1; omega))
              obtain ⟨Jb, rfl, uQ⟩ := qJ XJ
              have q9 := pR 6 _ rfl
              rw [zB _ _ 6 (by omega)] at q9
              replace q9 := Option.some.inj (q9.symm.trans xR)
              rw [q9] at uQ
              have qz := zx.mk (show Kd.R (Kd.int .i64) 3 _ _ _ _ ((zw zQ zy).f6) from uQ)
              clear q9 uQ pR XQ
              have qx := zx.mk j6
              have Jc := zx.mk j5
              clear j6 j5
              replace kS := eq_true kS
              replace kT := eq_true kT
              have uh := Option.some.inj (xP.symm.trans xR)
              injection uh with uh YZ YQ
              subst uh
              subst YQ
              clear YZ
              refine jw (n := 21) (S := fun w' => w'.cell? ⟨yV, 0, none⟩ = some (.int .i64 (wrap64 (Int.tmod (IntKind.u64.wrap (yN)) 5))) ∧ w'.cell? ⟨yV, 1, none⟩ = some (.int .i64 (wrap64 (1 + (wrap64 (Int.tmod (IntKind.u64.wrap (yX)) 1000))))) ∧ w'.cell? ⟨yV, 2, none⟩ = some (.bool yP) ∧ w'.cell? ⟨yV, 3, none⟩ = some (.bool yO) ∧ w'.cell? (zJ.add ((zy).toNat * 7)) = some (.int .i64 ((zw zQ zy).f0)) ∧ w'.cell? ⟨(zJ.add ((zy).toNat * 7)).block, (zJ.add ((zy).toNat * 7)).off + 1, none⟩ = some (.int .i64 ((zw zQ zy).f1)) ∧ w'.cell? ⟨(zJ.add ((zy).toNat * 7)).block, (zJ.add ((zy).toNat * 7)).off + 2, none⟩ = some (.int .i64 ((zw zQ zy).f2)) ∧ w'.cell? ⟨(zJ.add ((zy).toNat * 7)).block, (zJ.add ((zy).toNat * 7)).off + 3, none⟩ = some (.int .i64 ((zw zQ zy).f3)) ∧ w'.cell? ⟨(zJ.add ((zy).toNat * 7)).block, (zJ.add ((zy).toNat * 7)).off + 4, none⟩ = some (.string ((zw zQ zy).f4)) ∧ w'.cell? ⟨(zJ.add ((zy).toNat * 7)).block, (zJ.add ((zy).toNat * 7)).off + 5, none⟩ = some (.string ((zw zQ zy).f5)) ∧ w'.cell? ⟨(zJ.add ((zy).toNat * 7)).block, (zJ.add ((zy).toNat * 7)).off + 6, none⟩ = some (.slice pV ((zw zQ zy).f6).length pK) ∧ w'.cell? (qX.add ((((zw zQ zy).f2)).toNat * 6)) = some (.string ((zK zi ((zw zQ zy).f2)).f0)) ∧ w'.cell? ⟨(qX.add ((((zw zQ zy).f2)).toNat * 6)).block, (qX.add ((((zw zQ zy).f2)).toNat * 6)).off + 1, none⟩ = some (.bool ((zK zi ((zw zQ zy).f2)).f1)) ∧ w'.cell? ⟨(qX.add ((((zw zQ zy).f2)).toNat * 6)).block, (qX.add ((((zw zQ zy).f2)).toNat * 6)).off + 2, none⟩ = some (.int .i64 ((zK zi ((zw zQ zy).f2)).f2)) ∧ w'.cell? ⟨(qX.add ((((zw zQ zy).f2)).toNat * 6)).block, (qX.add ((((zw zQ zy).f2)).toNat * 6)).off + 3, none⟩ = some (.slice pW ((zK zi ((zw zQ zy).f2)).f3).length pE) ∧ w'.cell? ⟨(qX.add ((((zw zQ zy).f2)).toNat * 6)).block, (qX.add ((((zw zQ zy).f2)).toNat * 6)).off + 4, none⟩ = some (.slice pF ((zK zi ((zw zQ zy).f2)).f4).length pG) ∧ w'.cell? ⟨(qX.add ((((zw zQ zy).f2)).toNat * 6)).block, (qX.add ((((zw zQ zy).f2)).toNat * 6)).off + 5, none⟩ = some (.slice pI ((zK zi ((zw zQ zy).f2)).f5).length pO) ∧ w'.cell? (zJ.add ((zy).toNat * 7)) = some (.int .i64 ((zw zQ zy).f0)) ∧ w'.cell? ⟨(zJ.add ((zy).toNat * 7)).block, (zJ.add ((zy).toNat * 7)).off + 1, none⟩ = some (.int .i64 ((zw zQ zy).f1)) ∧ w'.cell? ⟨(zJ.add ((zy).toNat * 7)).block, (zJ.add ((zy).toNat * 7)).off + 2, none⟩ = some (.int .i64 ((zw zQ zy).f2)) ∧ w'.cell? ⟨(zJ.add ((zy).toNat * 7)).block, (zJ.add ((zy).toNat * 7)).off + 3, none⟩ = some (.int .i64 ((zw zQ zy).f3)) ∧ w'.cell? ⟨(zJ.add ((zy).toNat * 7)).block, (zJ.add ((zy).toNat * 7)).off + 4, none⟩ = some (.string ((zw zQ zy).f4)) ∧ w'.cell? ⟨(zJ.add ((zy).toNat * 7)).block, (zJ.add ((zy).toNat * 7)).off + 5, none⟩ = some (.string ((zw zQ zy).f5)) ∧ w'.cell? ⟨(zJ.add ((zy).toNat * 7)).block, (zJ.add ((zy).toNat * 7)).off + 6, none⟩ = some (.slice pV ((zw zQ zy).f6).length pK)) (ds := []) #[false, false, false, false, false, false, false, false, false, false, false, false, false, false, false, false, false, false, false, false, false] (by kernel_rfl) rfl rfl ⟨(zZ zW.out 0).trans rfl, (zZ zW.out 1).trans rfl, (zZ zW.out 2).trans rfl, (zZ zW.out 3).trans rfl, jm, jo, jr, jA, jB, jC, xP, jF, jG, jH, uz, uq, uj, jR, jS, jT, jU, j3, j4, xR⟩ (fun hHeld => ?_); refine uP zX.KN zX.Ut (fun zY vL => ?_)
              generalize wr.drew = w53 at yK zm yQ zW zG HB yT y7 y8 y9 qz yU yE yF yG qx jm jo jr jA jB jC xP jF jG jH uz uq uj jR jS jT jU j3 j4 xR hHeld ⊢
              refine zA 0 (some 117) zY ?_
              refine zA 1 (some 118) zY ?_
              refine zA 2 (some 119) zY ?_
              refine zA 3 (some 120) zY ?_
              refine zA 4 (some 121) zY ?_
              refine zA 8 (some 125) zY ?_
              refine zA 9 (some 126) zY ?_
              refine zA 10 (some 127) zY ?_
              refine zA 11 (some 128) zY ?_
              refine zA 13 (some 130) zY ?_
              refine jZ 5 (some 122) zY vL hHeld ?_
              refine zA 6 (some 123) zY ?_
              refine jZ 7 (some 124) zY vL hHeld ?_
              refine jZ 12 (some 129) zY vL hHeld ?_
              refine jZ 14 (some 131) zY vL hHeld ?_
              refine Jm 15 (some 132) zY (fun K hK => ?_)
              refine YP Tryz.func22 (by kernel_rfl) rfl #[.agg #[.string ((zK zi ((zw zQ zy).f2)).f0), .bool ((zK zi ((zw zQ zy).f2)).f1), .int .i64 ((zK zi ((zw zQ zy).f2)).f2), .slice pW ((zK zi ((zw zQ zy).f2)).f3).length pE, .slice pF ((zK zi ((zw zQ zy).f2)).f4).length pG, .slice pI ((zK zi ((zw zQ zy).f2)).f5).length pO], .string ((zw zQ zy).f4), .int .i64 (wrap64 (1 + (wrap64 (Int.tmod (IntKind.u64.wrap (yX)) 1000))))] (by rfl) rfl rfl (by (try simp only [List.map_toArray, List.map_cons, List.map_nil]); first | done | rfl | (simp only [List.length_drop, List.length_take]; rfl)) ?_
              with_reducible refine (uI.calls ((zK zi ((zw zQ zy).f2)).f0) ((zK zi ((zw zQ zy).f2)).f1) ((zK zi ((zw zQ zy).f2)).f2) _ _ ((zK zi ((zw zQ zy).f2)).f3) _ _ ((zK zi ((zw zQ zy).f2)).f4) _ _ ((zK zi ((zw zQ zy).f2)).f5) ((zw zQ zy).f4) (wrap64 (1 + (wrap64 (Int.tmod (IntKind.u64.wrap (yX)) 1000)))) XF QC _ ?qw ?qI ?xX ?xJ ?xV ?xK ?xY A47.out).mono ?_
              (case qw => repeat (first | exact (vZ yE.out) | (with_reducible refine Kd.zD ?_ _) | (with_reducible refine Kd.zF ?_ _) | (with_reducible refine Kd.zo ?_)))
              (case qI => exact Z6.out)
              (case xX => repeat (first | exact (vZ yF.out) | (with_reducible refine Kd.zD ?_ _) | (with_reducible refine Kd.zF ?_ _) | (with_reducible refine Kd.zo ?_)))
              (case xJ => exact Z7.out)
              (case xV => repeat (first | exact (vZ yG.out) | (with_reducible refine Kd.zD ?_ _) | (with_reducible refine Kd.zF ?_ _) | (with_reducible refine Kd.zo ?_)))
              (case xK => exact Z8.out)
              (case xY => exact GW.under HG.out (zP HB.out))
              rintro e w54 ⟨rfl, hb⟩
              have Qr := (hb.cell (wb _ _ (hHeld.2.2.2.2.1))).trans (hHeld.2.2.2.2.1)
              have Qs := (hb.cell (wb _ _ (hHeld.2.2.2.2.2.1))).trans (hHeld.2.2.2.2.2.1)
              have Qt := (hb.cell (wb _ _ (hHeld.2.2.2.2.2.2.1))).trans (hHeld.2.2.2.2.2.2.1)
              have Qu := (hb.cell (wb _ _ (hHeld.2.2.2.2.2.2.2.1))).trans (hHeld.2.2.2.2.2.2.2.1)
              have QA := (hb.cell (wb _ _ (hHeld.2.2.2.2.2.2.2.2.1))).trans (hHeld.2.2.2.2.2.2.2.2.1)
              have QB := (hb.cell (wb _ _ (hHeld.2.2.2.2.2.2.2.2.2.1))).trans (hHeld.2.2.2.2.2.2.2.2.2.1)
              have Y1 := (hb.cell (wb _ _ (hHeld.2.2.2.2.2.2.2.2.2.2.1))).trans (hHeld.2.2.2.2.2.2.2.2.2.2.1)
              have Y2 := (hb.cell (wb _ _ (hHeld.2.2.2.2.2.2.2.2.2.2.2.1))).trans (hHeld.2.2.2.2.2.2.2.2.2.2.2.1)
              have Y3 := (hb.cell (wb _ _ (hHeld.2.2.2.2.2.2.2.2.2.2.2.2.1))).trans (hHeld.2.2.2.2.2.2.2.2.2.2.2.2.1)
              have Y4 := (hb.cell (wb _ _ (hHeld.2.2.2.2.2.2.2.2.2.2.2.2.2.1))).trans (hHeld.2.2.2.2.2.2.2.2.2.2.2.2.2.1)
              have Y5 := (hb.cell (wb _ _ (hHeld.2.2.2.2.2.2.2.2.2.2.2.2.2.2.1))).trans (hHeld.2.2.2.2.2.2.2.2.2.2.2.2.2.2.1)
              have Y6 := (hb.cell (wb _ _ (hHeld.2.2.2.2.2.2.2.2.2.2.2.2.2.2.2.1))).trans (hHeld.2.2.2.2.2.2.2.2.2.2.2.2.2.2.2.1)
              have Y7 := (hb.cell (wb _ _ (hHeld.2.2.2.2.2.2.2.2.2.2.2.2.2.2.2.2.1))).trans (hHeld.2.2.2.2.2.2.2.2.2.2.2.2.2.2.2.2.1)
              have Y8 := (hb.cell (wb _ _ (hHeld.2.2.2.2.2.2.2.2.2.2.2.2.2.2.2.2.2.1))).trans (hHeld.2.2.2.2.2.2.2.2.2.2.2.2.2.2.2.2.2.1)
              have Y9 := (hb.cell (wb _ _ (hHeld.2.2.2.2.2.2.2.2.2.2.2.2.2.2.2.2.2.2.1))).trans (hHeld.2.2.2.2.2.2.2.2.2.2.2.2.2.2.2.2.2.2.1)
              have Xz := (hb.cell (wb _ _ (hHeld.2.2.2.2.2.2.2.2.2.2.2.2.2.2.2.2.2.2.2.1))).trans (hHeld.2.2.2.2.2.2.2.2.2.2.2.2.2.2.2.2.2.2.2.1)
              have Xq := (hb.cell (wb _ _ (hHeld.2.2.2.2.2.2.2.2.2.2.2.2.2.2.2.2.2.2.2.2.1))).trans (hHeld.2.2.2.2.2.2.2.2.2.2.2.2.2.2.2.2.2.2.2.2.1)
              have Xx := (hb.cell (wb _ _ (hHeld.2.2.2.2.2.2.2.2.2.2.2.2.2.2.2.2.2.2.2.2.2.1))).trans (hHeld.2.2.2.2.2.2.2.2.2.2.2.2.2.2.2.2.2.2.2.2.2.1)
              have Xj := (hb.cell (wb _ _ (hHeld.2.2.2.2.2.2.2.2.2.2.2.2.2.2.2.2.2.2.2.2.2.2.1))).trans (hHeld.2.2.2.2.2.2.2.2.2.2.2.2.2.2.2.2.2.2.2.2.2.2.1)
              have Xv := (hb.cell (wb _ _ (hHeld.2.2.2.2.2.2.2.2.2.2.2.2.2.2.2.2.2.2.2.2.2.2.2))).trans (hHeld.2.2.2.2.2.2.2.2.2.2.2.2.2.2.2.2.2.2.2.2.2.2.2)
              refine ⟨_, rfl, ?_⟩
              have zf := zx.mk (Kd.qg (Zr yK.out) hb)
              have zl := zx.mk (Kd.qg (Zr zm.out) hb)
              have zu := zx.mk (Kd.yY (vI yQ.out) hb)
              have zH := zx.mk (Kd.yY (vI yT.out) hb)
              have qV := zx.mk (Kd.yY (vI y7.out) hb)
              have xD := zx.mk (Kd.yY (vI y8.out) hb)
              have wX := zx.mk (Kd.yY (vI y9.out) hb)
              have wJ := zx.mk (Kd.yY (vI qz.out) hb)
              have wV := zx.mk (zN (g := yV) (o := .cells #[.int .i64 (wrap64 (Int.tmod (IntKind.u64.wrap (yN)) 5)), .int .i64 (wrap64 (1 + (wrap64 (Int.tmod (IntKind.u64.wrap (yX)) 1000)))), .bool yP, .bool yO] 26 (0, 0)) (ji zW.out) hb)
              have wK := zx.mk (Kd.zh (vZ zG.out) hb)
              have um := zx.mk (Kd.zh (vZ yU.out) hb)
              have uo := zx.mk (Kd.zh (vZ yE.out) hb)
              have uD := zx.mk (Kd.zh (vZ yF.out) hb)
              have uE := zx.mk (Kd.zh (vZ yG.out) hb)
              have uF := zx.mk (Kd.zh (vZ qx.out) hb)
              have uG := zx.mk (zL (zP HB.out) hb)
              clear yK zm yQ yT y7 y8 y9 qz zW zG yU yE yF yG qx HB
              have yK := zf
              have zm := zl
              have yQ := zu
              have yT := zH
              have y7 := qV
              have y8 := xD
              have y9 := wX
              have qz := wJ
              have zW := wV
              have zG := wK
              have yU := um
              have yE := uo
              have yF := uD
              have yG := uE
              have qx := uF
              have HB := uG
              clear zf zl zu zH qV xD wX wJ wV wK um uo uD uE uF uG
              (try clear hb)
              (try clear hb2)
              (try clear hk)
              (try clear hi)
              refine hK.out _ _ ⟨(zZ zW.out 0).trans rfl, (zZ zW.out 1).trans rfl, (zZ zW.out 2).trans rfl, (zZ zW.out 3).trans rfl, Qr, Qs, Qt, Qu, QA, QB, Y1, Y2, Y3, Y4, Y5, Y6, Y7, Y8, Y9, Xz, Xq, Xx, Xj, Xv⟩ (fun hHeld => ?_)
              clear hK K
              refine Jl (some 132) ?_
              refine zA 16 (some 116) zY ?_
              refine zA 17 (some 133) zY ?_
              refine zA 18 (some 134) zY ?_
              refine zA 19 (some 13) zY ?_
              refine zA 20 (some 14) zY ?_
              refine jk (xM zY.out (by kernel_rfl)) ?_
              try go_wp2
              have zf := zx.mk (Kd.qj yK.out)
              have zl := zx.mk (Kd.qj zm.out)
              have zu := zx.mk (Kd.qm yQ.out)
              have zH := zx.mk (Kd.qm yT.out)
              have qV := zx.mk (Kd.qm y7.out)
              have xD := zx.mk (Kd.qm y8.out)
              have wX := zx.mk (Kd.qm y9.out)
              have wJ := zx.mk (Kd.qm qz.out)
              have wV := zx.mk (xZ zW.out)
              have wK := zx.mk (Kd.zo zG.out)
              have um := zx.mk (Kd.zo yU.out)
              have uo := zx.mk (Kd.zo yE.out)
              have uD := zx.mk (Kd.zo yF.out)
              have uE := zx.mk (Kd.zo yG.out)
              have uF := zx.mk (Kd.zo qx.out)
              have uG := zx.mk (yx HB.out)
              clear yK zm yQ yT y7 y8 y9 qz zW zG yU yE yF yG qx HB
              have yK := zf
              have zm := zl
              have yQ := zu
              have yT := zH
              have y7 := qV
              have y8 := xD
              have y9 := wX
              have qz := wJ
              have zW := wV
              have zG := wK
              have yU := um
              have yE := uo
              have yF := uD
              have yG := uE
              have qx := uF
              have HB := uG
              clear zf zl zu zH qV xD wX wJ wV wK um uo uD uE uF uG
              have kU : 0 ≤ (zy : Int) := of_decide_eq_true (by first | (with_reducible assumption) | assumption)
              have wz : zy < (zQ.length : Int) := of_decide_eq_true (by first | (with_reducible assumption) | assumption)
              obtain ⟨QV, pU, p8, Ux, kZ, kQ, kX, kJ, kV, kK, xS, kY, kW⟩ := qo (Kd.zn zm.out).2.2 zy kU wz
              obtain rfl : zJ = QV := (by injection Ux)
              obtain ⟨dW, XV, XK, p9⟩ := Kd.xB zm.out z53 zy kU (by first | exact wz | exact of_decide_eq_true (by first | (with_reducible assumption) | assumption) | (have e_ := (Kd.zn zm.out).1; omega))
              obtain ⟨Jd, rfl, uX⟩ := qJ XK
              have xq := p9 6 _ rfl
              rw [zB _ _ 6 (by omega)] at xq
              replace xq := Option.some.inj (xq.symm.trans xS)
              rw [xq] at uX
              have Z9 := zx.mk (show Kd.R (Kd.int .i64) 3 _ _ _ _ ((zw zQ zy).f6) from uX)
              clear xq uX p9 XV
              have Yz := zx.mk kW
              have Je := zx.mk kY
              clear kW kY
              replace kU := eq_true kU
              replace wz := eq_true wz
              have XY : 0 ≤ (zy : Int) := of_decide_eq_true (by first | (with_reducible assumption) | assumption)
              have XW : zy < (zQ.length : Int) := of_decide_eq_true (by first | (with_reducible assumption) | assumption)
              obtain ⟨Wv, zzf, zzg, sJ, YF, YG, YH, YI, YL, YM, kg, YN, YO⟩ := qo (Kd.zn zm.out).2.2 zy XY XW
              obtain rfl : zJ = Wv := (by injection sJ)
              obtain ⟨zxd, UG, UH, X8⟩ := Kd.xB zm.out z53 zy XY (by first | exact XW | exact of_decide_eq_true (by first | (with_reducible assumption) | assumption) | (have e_ := (Kd.zn zm.out).1; omega))
              obtain ⟨fD, rfl, ZW⟩ := qJ UH
              have jq := X8 6 _ rfl
              rw [zB _ _ 6 (by omega)] at jq
              replace jq := Option.some.inj (jq.symm.trans kg)
              rw [jq] at ZW
              have Vp := zx.mk (show Kd.R (Kd.int .i64) 3 _ _ _ _ ((zw zQ zy).f6) from ZW)
              clear jq ZW X8 UG
              have Vr := zx.mk YO
              have fE := zx.mk YN
              clear YO YN
              replace XY := eq_true XY
              replace XW := eq_true XW
              have uh := Option.some.inj (xS.symm.trans kg)
              injection uh with uh YZ YQ
              subst uh
              subst YQ
              clear YZ
              have Uj : 0 ≤ (zy : Int) := of_decide_eq_true (by first | (with_reducible assumption) | assumption)
              have Uv : zy < (zQ.length : Int) := of_decide_eq_true (by first | (with_reducible assumption) | assumption)
              obtain ⟨lq, zvR, zvS, zqM, Vs, Vt, Vu, VA, VB, VD, Yq, VE, VF⟩ := qo (Kd.zn zm.out).2.2 zy Uj Uv
              obtain rfl : zJ = lq := (by injection zqM)
              obtain ⟨zy3, sV, sK, UL⟩ := Kd.xB zm.out z53 zy Uj (by first | exact Uv | exact of_decide_eq_true (by first | (with_reducible assumption) | assumption) | (have e_ := (Kd.zn zm.out).1; omega))
              obtain ⟨zjK, rfl, XG⟩ := qJ sK
              have Za := UL 6 _ rfl
              rw [zB _ _ 6 (by omega)] at Za
              replace Za := Option.some.inj (Za.symm.trans Yq)
              rw [Za] at XG
              have bX := zx.mk (show Kd.R (Kd.int .i64) 3 _ _ _ _ ((zw zQ zy).f6) from XG)
              clear Za XG UL sV
              have bJ := zx.mk VF
              have zjY := zx.mk VE
              clear VF VE
              replace Uj := eq_true Uj
              replace Uv := eq_true Uv
              have uh := Option.some.inj (xS.symm.trans Yq)
              injection uh with uh YZ YQ
              subst uh
              subst YQ
              clear YZ
              refine jw (n := 29) (S := fun w' => w'.cell? ⟨yV, 0, none⟩ = some (.int .i64 (wrap64 (Int.tmod (IntKind.u64.wrap (yN)) 5))) ∧ w'.cell? ⟨yV, 1, none⟩ = some (.int .i64 (wrap64 (1 + (wrap64 (Int.tmod (IntKind.u64.wrap (yX)) 1000))))) ∧ w'.cell? ⟨yV, 2, none⟩ = some (.bool yP) ∧ w'.cell? ⟨yV, 3, none⟩ = some (.bool yO) ∧ w'.cell? (zJ.add ((zy).toNat * 7)) = some (.int .i64 ((zw zQ zy).f0)) ∧ w'.cell? ⟨(zJ.add ((zy).toNat * 7)).block, (zJ.add ((zy).toNat * 7)).off + 1, none⟩ = some (.int .i64 ((zw zQ zy).f1)) ∧ w'.cell? ⟨(zJ.add ((zy).toNat * 7)).block, (zJ.add ((zy).toNat * 7)).off + 2, none⟩ = some (.int .i64 ((zw zQ zy).f2)) ∧ w'.cell? ⟨(zJ.add ((zy).toNat * 7)).block, (zJ.add ((zy).toNat * 7)).off + 3, none⟩ = some (.int .i64 ((zw zQ zy).f3)) ∧ w'.cell? ⟨(zJ.add ((zy).toNat * 7)).block, (zJ.add ((zy).toNat * 7)).off + 4, none⟩ = some (.string ((zw zQ zy).f4)) ∧ w'.cell? ⟨(zJ.add ((zy).toNat * 7)).block, (zJ.add ((zy).toNat * 7)).off + 5, none⟩ = some (.string ((zw zQ zy).f5)) ∧ w'.cell? ⟨(zJ.add ((zy).toNat * 7)).block, (zJ.add ((zy).toNat * 7)).off + 6, none⟩ = some (.slice pU ((zw zQ zy).f6).length p8) ∧ w'.cell? (zJ.add ((zy).toNat * 7)) = some (.int .i64 ((zw zQ zy).f0)) ∧ w'.cell? ⟨(zJ.add ((zy).toNat * 7)).block, (zJ.add ((zy).toNat * 7)).off + 1, none⟩ = some (.int .i64 ((zw zQ zy).f1)) ∧ w'.cell? ⟨(zJ.add ((zy).toNat * 7)).block, (zJ.add ((zy).toNat * 7)).off + 2, none⟩ = some (.int .i64 ((zw zQ zy).f2)) ∧ w'.cell? ⟨(zJ.add ((zy).toNat * 7)).block, (zJ.add ((zy).toNat * 7)).off + 3, none⟩ = some (.int .i64 ((zw zQ zy).f3)) ∧ w'.cell? ⟨(zJ.add ((zy).toNat * 7)).block, (zJ.add ((zy).toNat * 7)).off + 4, none⟩ = some (.string ((zw zQ zy).f4)) ∧ w'.cell? ⟨(zJ.add ((zy).toNat * 7)).block, (zJ.add ((zy).toNat * 7)).off + 5, none⟩ = some (.string ((zw zQ zy).f5)) ∧ w'.cell? ⟨(zJ.add ((zy).toNat * 7)).block, (zJ.add ((zy).toNat * 7)).off + 6, none⟩ = some (.slice pU ((zw zQ zy).f6).length p8) ∧ w'.cell? (zJ.add ((zy).toNat * 7)) = some (.int .i64 ((zw zQ zy).f0)) ∧ w'.cell? ⟨(zJ.add ((zy).toNat * 7)).block, (zJ.add ((zy).toNat * 7)).off + 1, none⟩ = some (.int .i64 ((zw zQ zy).f1)) ∧ w'.cell? ⟨(zJ.add ((zy).toNat * 7)).block, (zJ.add ((zy).toNat * 7)).off + 2, none⟩ = some (.int .i64 ((zw zQ zy).f2)) ∧ w'.cell? ⟨(zJ.add ((zy).toNat * 7)).block, (zJ.add ((zy).toNat * 7)).off + 3, none⟩ = some (.int .i64 ((zw zQ zy).f3)) ∧ w'.cell? ⟨(zJ.add ((zy).toNat * 7)).block, (zJ.add ((zy).toNat * 7)).off + 4, none⟩ = some (.string ((zw zQ zy).f4)) ∧ w'.cell? ⟨(zJ.add ((zy).toNat * 7)).block, (zJ.add ((zy).toNat * 7)).off + 5, none⟩ = some (.string ((zw zQ zy).f5)) ∧ w'.cell? ⟨(zJ.add ((zy).toNat * 7)).block, (zJ.add ((zy).toNat * 7)).off + 6, none⟩ = some (.slice pU ((zw zQ zy).f6).length p8)) (ds := []) #[false, false, false, false, false, false, false, false, false, false, false, false, false, false, false, false, false, false, false, false, false, false, false, false, false, false, false, false, false] (by kernel_rfl) rfl rfl ⟨(zZ zW.out 0).trans rfl, (zZ zW.out 1).trans rfl, (zZ zW.out 2).trans rfl, (zZ zW.out 3).trans rfl, kZ, kQ, kX, kJ, kV, kK, xS, YF, YG, YH, YI, YL, YM, kg, Vs, Vt, Vu, VA, VB, VD, Yq⟩ (fun hHeld => ?_); refine uP zX.KO zX.Uu (fun zY vL => ?_)
              generalize w54.drew = w55 at yK zm yQ yT y7 y8 y9 qz zW zG yU yE yF yG qx HB Z9 Vp bX Yz Vr bJ kZ kQ kX kJ kV kK xS YF YG YH YI YL YM kg Vs Vt Vu VA VB VD Yq hHeld ⊢
              refine zA 0 (some 135) zY ?_
              refine zA 1 (some 136) zY ?_
              refine zA 2 (some 137) zY ?_
              refine zA 3 (some 138) zY ?_
              refine jZ 4 (some 139) zY vL hHeld ?_
              refine zA 5 (some 140) zY ?_
              refine zA 6 (some 141) zY ?_
              refine zA 7 (some 142) zY ?_
              refine zA 8 (some 143) zY ?_
              refine zA 9 (some 144) zY ?_
              refine zA 10 (some 145) zY ?_
              refine zA 11 (some 146) zY ?_
              refine zA 12 (some 147) zY ?_
              refine zA 13 (some 148) zY ?_
              refine zA 14 (some 149) zY ?_
              refine zA 15 (some 150) zY ?_
              refine jZ 16 (some 151) zY vL hHeld ?_
              refine zA 17 (some 152) zY ?_
              refine zA 18 (some 153) zY ?_
              refine zA 19 (some 154) zY ?_
              refine zA 20 (some 155) zY ?_
              refine zA 21 (some 156) zY ?_
              refine zA 22 (some 157) zY ?_
              refine zA 23 (some 158) zY ?_
              refine zA 25 (some 160) zY ?_
              refine jZ 24 (some 159) zY vL hHeld ?_
              refine jZ 26 (some 161) zY vL hHeld ?_
              refine zA 27 (some 162) zY ?_
              refine zA 28 (some 163) zY ?_
              refine jk (xM zY.out (by kernel_rfl)) ?_
              try go_wp2
              go_roundg k1
              case measure => have := jg.out; omega
              case rel => exact ⟨(wrap64 (jc + XF)), (wrap64 (zy + 1)), (by first | rfl | (simp; done) | (simp [*]; done)), (by first | rfl | (simp; done) | (simp [*]; done)), H', ⟨by have := jg.out; omega⟩, ⟨by (with_reducible repeat (first | apply Kd.xu | apply Kd.xA | apply Kd.qj)); exact yK.out⟩, ⟨by (with_reducible repeat (first | apply Kd.xu | apply Kd.xA | apply Kd.qj)); exact zm.out⟩, ⟨ji zW.out⟩, ⟨zP HB.out⟩⟩
             ·rw [if_neg c51] at H
              have zy1 : (((zw zQ zy).f3) == (wrap64 (1 + (wrap64 (Int.tmod (IntKind.u64.wrap (yX)) 1000))))) = false := beq_eq_false_iff_ne.mpr c51
              have zy2 : (((zw zQ zy).f3) != (wrap64 (1 + (wrap64 (Int.tmod (IntKind.u64.wrap (yX)) 1000))))) = true := bne_iff_ne.mpr c51
              obtain rfl := Option.some.inj H
              obtain ⟨zVY, zVW, zZG⟩ := Kd.jY zm.out
              subst zZG
              have uM : 0 ≤ (zy : Int) := of_decide_eq_true (by first | (with_reducible assumption) | assumption)
              have uN : zy < (zQ.length : Int) := of_decide_eq_true (by first | (with_reducible assumption) | assumption)
              obtain ⟨zJ, Qo, UE, Qp, Xr, Xt, Xu, XA, XB, XC, wh, uT, uU⟩ := qo (Kd.zn zm.out).2.2 zy uM uN
              cases Qp
              obtain ⟨KR, ZM, ZN, jh⟩ := Kd.xB zm.out z53 zy uM (by first | exact uN | exact of_decide_eq_true (by first | (with_reducible assumption) | assumption) | (have e_ := (Kd.zn zm.out).1; omega))
              obtain ⟨Va, rfl, vB⟩ := qJ ZN
              have qh := jh 6 _ rfl
              rw [zB _ _ 6 (by omega)] at qh
              replace qh := Option.some.inj (qh.symm.trans wh)
              rw [qh] at vB
              have yQ := zx.mk (show Kd.R (Kd.int .i64) 3 _ _ _ _ ((zw zQ zy).f6) from vB)
              clear qh vB jh ZM
              have zG := zx.mk uU
              have Vb := zx.mk uT
              clear uU uT
              replace uM := eq_true uM
              replace uN := eq_true uN
              try go_wp2
              have zf := zx.mk (Kd.qj yK.out)
              have zl := zx.mk (Kd.qj zm.out)
              have zu := zx.mk (Kd.qm yQ.out)
              have zH := zx.mk (xZ zW.out)
              have qV := zx.mk (Kd.zo zG.out)
              have xD := zx.mk (yx HB.out)
              clear yK zm yQ zW zG HB
              have yK := zf
              have zm := zl
              have yQ := zu
              have zW := zH
              have zG := qV
              have HB := xD
              clear zf zl zu zH qV xD
              have kM : 0 ≤ (zy : Int) := of_decide_eq_true (by first | (with_reducible assumption) | assumption)
              have kN : zy < (zQ.length : Int) := of_decide_eq_true (by first | (with_reducible assumption) | assumption)
              obtain ⟨QX, pV, pK, V9, jm, jo, jr, jA, jB, jC, xP, jD, jE⟩ := qo (Kd.zn zm.out).2.2 zy kM kN
              obtain rfl : zJ = QX := (by injection V9)
              obtain ⟨dV, Xk, Xy, pY⟩ := Kd.xB zm.out z53 zy kM (by first | exact kN | exact of_decide_eq_true (by first | (with_reducible assumption) | assumption) | (have e_ := (Kd.zn zm.out).1; omega))
              obtain ⟨JV, rfl, vU⟩ := qJ Xy
              have qP := pY 6 _ rfl
              rw [zB _ _ 6 (by omega)] at qP
              replace qP := Option.some.inj (qP.symm.trans xP)
              rw [qP] at vU
              have yT := zx.mk (show Kd.R (Kd.int .i64) 3 _ _ _ _ ((zw zQ zy).f6) from vU)
              clear qP vU pY Xk
              have yU := zx.mk jE
              have JK := zx.mk jD
              clear jE jD
              replace kM := eq_true kM
              replace kN := eq_true kN
              have kP : 0 ≤ (((zw zQ zy).f2) : Int) := of_decide_eq_true (by first | (with_reducible assumption) | assumption)
              have kR : ((zw zQ zy).f2) < (zi.length : Int) := of_decide_eq_true (by first | (with_reducible assumption) | assumption)
              obtain ⟨qX, pW, pE, pF, pG, pI, pO, Uz, jF, jG, jH, uz, uq, uj, jI, jL, jM, jN, jO, jP⟩ := Yv (Kd.zn yK.out).2.2 ((zw zQ zy).f2) kP kR
              cases Uz
              obtain ⟨dK, Xw, XZ, vO⟩ := Kd.xB yK.out z60 ((zw zQ zy).f2) kP (by first | exact kR | exact of_decide_eq_true (by first | (with_reducible assumption) | assumption) | (have e_ := (Kd.zn yK.out).1; omega))
              obtain ⟨JY, JW, Ja, rfl, uy, uw, uZ⟩ := Yu XZ
              have qR := vO 3 _ rfl
              rw [zB _ _ 3 (by omega)] at qR
              replace qR := Option.some.inj (qR.symm.trans uz)
              rw [qR] at uy
              have y7 := zx.mk (show Kd.R qH 105 _ _ _ _ ((zK zi ((zw zQ zy).f2)).f3) from uy)
              clear qR uy
              have qU := vO 4 _ rfl
              rw [zB _ _ 4 (by omega)] at qU
              replace qU := Option.some.inj (qU.symm.trans uq)
              rw [qU] at uw
              have y8 := zx.mk (show Kd.R vw 108 _ _ _ _ ((zK zi ((zw zQ zy).f2)).f4) from uw)
              clear qU uw
              have q8 := vO 5 _ rfl
              rw [zB _ _ 5 (by omega)] at q8
              replace q8 := Option.some.inj (q8.symm.trans uj)
              rw [q8] at uZ
              have y9 := zx.mk (show Kd.R vC 111 _ _ _ _ ((zK zi ((zw zQ zy).f2)).f5) from uZ)
              clear q8 uZ vO Xw
              have yE := zx.mk jL
              have Z6 := zx.mk jI
              clear jL jI
              have yF := zx.mk jN
              have Z7 := zx.mk jM
              clear jN jM
              have yG := zx.mk jP
              have Z8 := zx.mk jO
              clear jP jO
              replace kP := eq_true kP
              replace kR := eq_true kR
              have kS : 0 ≤ (zy : Int) := of_decide_eq_true (by first | (with_reducible assumption) | assumption)
              have kT : zy < (zQ.length : Int) := of_decide_eq_true (by first | (with_reducible assumption) | assumption)
              obtain ⟨QJ, Wx, Wj, Uq, jR, jS, jT, jU, j3, j4, xR, j5, j6⟩ := qo (Kd.zn zm.out).2.2 zy kS kT
              obtain rfl : zJ = QJ := (by injection Uq)
              obtain ⟨dY, XQ, XJ, pR⟩ := Kd.xB zm.out z53 zy kS (by first | exact kT | exact of_decide_eq_true (by first | (with_reducible assumption) | assumption) | (have e_ := (Kd.zn zm.out).1; omega))
              obtain ⟨Jb, rfl, uQ⟩ := qJ XJ
              have q9 := pR 6 _ rfl
              rw [zB _ _ 6 (by omega)] at q9
              replace q9 := Option.some.inj (q9.symm.trans xR)
              rw [q9] at uQ
              have qz := zx.mk (show Kd.R (Kd.int .i64) 3 _ _ _ _ ((zw zQ zy).f6) from uQ)
              clear q9 uQ pR XQ
              have qx := zx.mk j6
              have Jc := zx.mk j5
              clear j6 j5
              replace kS := eq_true kS
              replace kT := eq_true kT
              have uh := Option.some.inj (xP.symm.trans xR)
              injection uh with uh YZ YQ
              subst uh
              subst YQ
              clear YZ
              refine jw (n := 21) (S := fun w' => w'.cell? ⟨yV, 0, none⟩ = some (.int .i64 (wrap64 (Int.tmod (IntKind.u64.wrap (yN)) 5))) ∧ w'.cell? ⟨yV, 1, none⟩ = some (.int .i64 (wrap64 (1 + (wrap64 (Int.tmod (IntKind.u64.wrap (yX)) 1000))))) ∧ w'.cell? ⟨yV, 2, none⟩ = some (.bool yP) ∧ w'.cell? ⟨yV, 3, none⟩ = some (.bool yO) ∧ w'.cell? (zJ.add ((zy).toNat * 7)) = some (.int .i64 ((zw zQ zy).f0)) ∧ w'.cell? ⟨(zJ.add ((zy).toNat * 7)).block, (zJ.add ((zy).toNat * 7)).off + 1, none⟩ = some (.int .i64 ((zw zQ zy).f1)) ∧ w'.cell? ⟨(zJ.add ((zy).toNat * 7)).block, (zJ.add ((zy).toNat * 7)).off + 2, none⟩ = some (.int .i64 ((zw zQ zy).f2)) ∧ w'.cell? ⟨(zJ.add ((zy).toNat * 7)).block, (zJ.add ((zy).toNat * 7)).off + 3, none⟩ = some (.int .i64 ((zw zQ zy).f3)) ∧ w'.cell? ⟨(zJ.add ((zy).toNat * 7)).block, (zJ.add ((zy).toNat * 7)).off + 4, none⟩ = some (.string ((zw zQ zy).f4)) ∧ w'.cell? ⟨(zJ.add ((zy).toNat * 7)).block, (zJ.add ((zy).toNat * 7)).off + 5, none⟩ = some (.string ((zw zQ zy).f5)) ∧ w'.cell? ⟨(zJ.add ((zy).toNat * 7)).block, (zJ.add ((zy).toNat * 7)).off + 6, none⟩ = some (.slice pV ((zw zQ zy).f6).length pK) ∧ w'.cell? (qX.add ((((zw zQ zy).f2)).toNat * 6)) = some (.string ((zK zi ((zw zQ zy).f2)).f0)) ∧ w'.cell? ⟨(qX.add ((((zw zQ zy).f2)).toNat * 6)).block, (qX.add ((((zw zQ zy).f2)).toNat * 6)).off + 1, none⟩ = some (.bool ((zK zi ((zw zQ zy).f2)).f1)) ∧ w'.cell? ⟨(qX.add ((((zw zQ zy).f2)).toNat * 6)).block, (qX.add ((((zw zQ zy).f2)).toNat * 6)).off + 2, none⟩ = some (.int .i64 ((zK zi ((zw zQ zy).f2)).f2)) ∧ w'.cell? ⟨(qX.add ((((zw zQ zy).f2)).toNat * 6)).block, (qX.add ((((zw zQ zy).f2)).toNat * 6)).off + 3, none⟩ = some (.slice pW ((zK zi ((zw zQ zy).f2)).f3).length pE) ∧ w'.cell? ⟨(qX.add ((((zw zQ zy).f2)).toNat * 6)).block, (qX.add ((((zw zQ zy).f2)).toNat * 6)).off + 4, none⟩ = some (.slice pF ((zK zi ((zw zQ zy).f2)).f4).length pG) ∧ w'.cell? ⟨(qX.add ((((zw zQ zy).f2)).toNat * 6)).block, (qX.add ((((zw zQ zy).f2)).toNat * 6)).off + 5, none⟩ = some (.slice pI ((zK zi ((zw zQ zy).f2)).f5).length pO) ∧ w'.cell? (zJ.add ((zy).toNat * 7)) = some (.int .i64 ((zw zQ zy).f0)) ∧ w'.cell? ⟨(zJ.add ((zy).toNat * 7)).block, (zJ.add ((zy).toNat * 7)).off + 1, none⟩ = some (.int .i64 ((zw zQ zy).f1)) ∧ w'.cell? ⟨(zJ.add ((zy).toNat * 7)).block, (zJ.add ((zy).toNat * 7)).off + 2, none⟩ = some (.int .i64 ((zw zQ zy).f2)) ∧ w'.cell? ⟨(zJ.add ((zy).toNat * 7)).block, (zJ.add ((zy).toNat * 7)).off + 3, none⟩ = some (.int .i64 ((zw zQ zy).f3)) ∧ w'.cell? ⟨(zJ.add ((zy).toNat * 7)).block, (zJ.add ((zy).toNat * 7)).off + 4, none⟩ = some (.string ((zw zQ zy).f4)) ∧ w'.cell? ⟨(zJ.add ((zy).toNat * 7)).block, (zJ.add ((zy).toNat * 7)).off + 5, none⟩ = some (.string ((zw zQ zy).f5)) ∧ w'.cell? ⟨(zJ.add ((zy).toNat * 7)).block, (zJ.add ((zy).toNat * 7)).off + 6, none⟩ = some (.slice pV ((zw zQ zy).f6).length pK)) (ds := []) #[false, false, false, false, false, false, false, false, false, false, false, false, false, false, false, false, false, false, false, false, false] (by kernel_rfl) rfl rfl ⟨(zZ zW.out 0).trans rfl, (zZ zW.out 1).trans rfl, (zZ zW.out 2).trans rfl, (zZ zW.out 3).trans rfl, jm, jo, jr, jA, jB, jC, xP, jF, jG, jH, uz, uq, uj, jR, jS, jT, jU, j3, j4, xR⟩ (fun hHeld => ?_); refine uP zX.KN zX.Ut (fun zY vL => ?_)
              generalize wr.drew = w57 at yK zm yQ zW zG HB yT y7 y8 y9 qz yU yE yF yG qx jm jo jr jA jB jC xP jF jG jH uz uq uj jR jS jT jU j3 j4 xR hHeld ⊢
              refine zA 0 (some 117) zY ?_
              refine zA 1 (some 118) zY ?_
              refine zA 2 (some 119) zY ?_
              refine zA 3 (some 120) zY ?_
              refine zA 4 (some 121) zY ?_
              refine zA 8 (some 125) zY ?_
              refine zA 9 (some 126) zY ?_
              refine zA 10 (some 127) zY ?_
              refine zA 11 (some 128) zY ?_
              refine zA 13 (some 130) zY ?_
              refine jZ 5 (some 122) zY vL hHeld ?_
              refine zA 6 (some 123) zY ?_
              refine jZ 7 (some 124) zY vL hHeld ?_
              refine jZ 12 (some 129) zY vL hHeld ?_
              refine jZ 14 (some 131) zY vL hHeld ?_
              refine Jm 15 (some 132) zY (fun K hK => ?_)
              refine YP Tryz.func22 (by kernel_rfl) rfl #[.agg #[.string ((zK zi ((zw zQ zy).f2)).f0), .bool ((zK zi ((zw zQ zy).f2)).f1), .int .i64 ((zK zi ((zw zQ zy).f2)).f2), .slice pW ((zK zi ((zw zQ zy).f2)).f3).length pE, .slice pF ((zK zi ((zw zQ zy).f2)).f4).length pG, .slice pI ((zK zi ((zw zQ zy).f2)).f5).length pO], .string ((zw zQ zy).f4), .int .i64 (wrap64 (1 + (wrap64 (Int.tmod (IntKind.u64.wrap (yX)) 1000))))] (by rfl) rfl rfl (by (try simp only [List.map_toArray, List.map_cons, List.map_nil]); first | done | rfl | (simp only [List.length_drop, List.length_take]; rfl)) ?_
              with_reducible refine (uI.calls ((zK zi ((zw zQ zy).f2)).f0) ((zK zi ((zw zQ zy).f2)).f1) ((zK zi ((zw zQ zy).f2)).f2) _ _ ((zK zi ((zw zQ zy).f2)).f3) _ _ ((zK zi ((zw zQ zy).f2)).f4) _ _ ((zK zi ((zw zQ zy).f2)).f5) ((zw zQ zy).f4) (wrap64 (1 + (wrap64 (Int.tmod (IntKind.u64.wrap (yX)) 1000)))) XF QC _ ?qw ?qI ?xX ?xJ ?xV ?xK ?xY A47.out).mono ?_
              (case qw => repeat (first | exact (vZ yE.out) | (with_reducible refine Kd.zD ?_ _) | (with_reducible refine Kd.zF ?_ _) | (with_reducible refine Kd.zo ?_)))
              (case qI => exact Z6.out)
              (case xX => repeat (first | exact (vZ yF.out) | (with_reducible refine Kd.zD ?_ _) | (with_reducible refine Kd.zF ?_ _) | (with_reducible refine Kd.zo ?_)))
              (case xJ => exact Z7.out)
              (case xV => repeat (first | exact (vZ yG.out) | (with_reducible refine Kd.zD ?_ _) | (with_reducible refine Kd.zF ?_ _) | (with_reducible refine Kd.zo ?_)))
              (case xK => exact Z8.out)
              (case xY => exact GW.under HG.out (zP HB.out))
              rintro e w58 ⟨rfl, hb⟩
              have Qr := (hb.cell (wb _ _ (hHeld.2.2.2.2.1))).trans (hHeld.2.2.2.2.1)
              have Qs := (hb.cell (wb _ _ (hHeld.2.2.2.2.2.1))).trans (hHeld.2.2.2.2.2.1)
              have Qt := (hb.cell (wb _ _ (hHeld.2.2.2.2.2.2.1))).trans (hHeld.2.2.2.2.2.2.1)
              have Qu := (hb.cell (wb _ _ (hHeld.2.2.2.2.2.2.2.1))).trans (hHeld.2.2.2.2.2.2.2.1)
              have QA := (hb.cell (wb _ _ (hHeld.2.2.2.2.2.2.2.2.1))).trans (hHeld.2.2.2.2.2.2.2.2.1)
              have QB := (hb.cell (wb _ _ (hHeld.2.2.2.2.2.2.2.2.2.1))).trans (hHeld.2.2.2.2.2.2.2.2.2.1)
              have Y1 := (hb.cell (wb _ _ (hHeld.2.2.2.2.2.2.2.2.2.2.1))).trans (hHeld.2.2.2.2.2.2.2.2.2.2.1)
              have Y2 := (hb.cell (wb _ _ (hHeld.2.2.2.2.2.2.2.2.2.2.2.1))).trans (hHeld.2.2.2.2.2.2.2.2.2.2.2.1)
              have Y3 := (hb.cell (wb _ _ (hHeld.2.2.2.2.2.2.2.2.2.2.2.2.1))).trans (hHeld.2.2.2.2.2.2.2.2.2.2.2.2.1)
              have Y4 := (hb.cell (wb _ _ (hHeld.2.2.2.2.2.2.2.2.2.2.2.2.2.1))).trans (hHeld.2.2.2.2.2.2.2.2.2.2.2.2.2.1)
              have Y5 := (hb.cell (wb _ _ (hHeld.2.2.2.2.2.2.2.2.2.2.2.2.2.2.1))).trans (hHeld.2.2.2.2.2.2.2.2.2.2.2.2.2.2.1)
              have Y6 := (hb.cell (wb _ _ (hHeld.2.2.2.2.2.2.2.2.2.2.2.2.2.2.2.1))).trans (hHeld.2.2.2.2.2.2.2.2.2.2.2.2.2.2.2.1)
              have Y7 := (hb.cell (wb _ _ (hHeld.2.2.2.2.2.2.2.2.2.2.2.2.2.2.2.2.1))).trans (hHeld.2.2.2.2.2.2.2.2.2.2.2.2.2.2.2.2.1)
              have Y8 := (hb.cell (wb _ _ (hHeld.2.2.2.2.2.2.2.2.2.2.2.2.2.2.2.2.2.1))).trans (hHeld.2.2.2.2.2.2.2.2.2.2.2.2.2.2.2.2.2.1)
              have Y9 := (hb.cell (wb _ _ (hHeld.2.2.2.2.2.2.2.2.2.2.2.2.2.2.2.2.2.2.1))).trans (hHeld.2.2.2.2.2.2.2.2.2.2.2.2.2.2.2.2.2.2.1)
              have Xz := (hb.cell (wb _ _ (hHeld.2.2.2.2.2.2.2.2.2.2.2.2.2.2.2.2.2.2.2.1))).trans (hHeld.2.2.2.2.2.2.2.2.2.2.2.2.2.2.2.2.2.2.2.1)
              have Xq := (hb.cell (wb _ _ (hHeld.2.2.2.2.2.2.2.2.2.2.2.2.2.2.2.2.2.2.2.2.1))).trans (hHeld.2.2.2.2.2.2.2.2.2.2.2.2.2.2.2.2.2.2.2.2.1)
              have Xx := (hb.cell (wb _ _ (hHeld.2.2.2.2.2.2.2.2.2.2.2.2.2.2.2.2.2.2.2.2.2.1))).trans (hHeld.2.2.2.2.2.2.2.2.2.2.2.2.2.2.2.2.2.2.2.2.2.1)
              have Xj := (hb.cell (wb _ _ (hHeld.2.2.2.2.2.2.2.2.2.2.2.2.2.2.2.2.2.2.2.2.2.2.1))).trans (hHeld.2.2.2.2.2.2.2.2.2.2.2.2.2.2.2.2.2.2.2.2.2.2.1)
              have Xv := (hb.cell (wb _ _ (hHeld.2.2.2.2.2.2.2.2.2.2.2.2.2.2.2.2.2.2.2.2.2.2.2))).trans (hHeld.2.2.2.2.2.2.2.2.2.2.2.2.2.2.2.2.2.2.2.2.2.2.2)
              refine ⟨_, rfl, ?_⟩
              have zf := zx.mk (Kd.qg (Zr yK.out) hb)
              have zl := zx.mk (Kd.qg (Zr zm.out) hb)
              have zu := zx.mk (Kd.yY (vI yQ.out) hb)
              have zH := zx.mk (Kd.yY (vI yT.out) hb)
              have qV := zx.mk (Kd.yY (vI y7.out) hb)
              have xD := zx.mk (Kd.yY (vI y8.out) hb)
              have wX := zx.mk (Kd.yY (vI y9.out) hb)
              have wJ := zx.mk (Kd.yY (vI qz.out) hb)
              have wV := zx.mk (zN (g := yV) (o := .cells #[.int .i64 (wrap64 (Int.tmod (IntKind.u64.wrap (yN)) 5)), .int .i64 (wrap64 (1 + (wrap64 (Int.tmod (IntKind.u64.wrap (yX)) 1000)))), .bool yP, .bool yO] 26 (0, 0)) (ji zW.out) hb)
              have wK := zx.mk (Kd.zh (vZ zG.out) hb)
              have um := zx.mk (Kd.zh (vZ yU.out) hb)
              have uo := zx.mk (Kd.zh (vZ yE.out) hb)
              have uD := zx.mk (Kd.zh (vZ yF.out) hb)
              have uE := zx.mk (Kd.zh (vZ yG.out) hb)
              have uF := zx.mk (Kd.zh (vZ qx.out) hb)
              have uG := zx.mk (zL (zP HB.out) hb)
              clear yK zm yQ yT y7 y8 y9 qz zW zG yU yE yF yG qx HB
              have yK := zf
              have zm := zl
              have yQ := zu
              have yT := zH
              have y7 := qV
              have y8 := xD
              have y9 := wX
              have qz := wJ
              have zW := wV
              have zG := wK
              have yU := um
              have yE := uo
              have yF := uD
              have yG := uE
              have qx := uF
              have HB := uG
              clear zf zl zu zH qV xD wX wJ wV wK um uo uD uE uF uG
              (try clear hb)
              (try clear hb2)
              (try clear hk)
              (try clear hi)
              refine hK.out _ _ ⟨(zZ zW.out 0).trans rfl, (zZ zW.out 1).trans rfl, (zZ zW.out 2).trans rfl, (zZ zW.out 3).trans rfl, Qr, Qs, Qt, Qu, QA, QB, Y1, Y2, Y3, Y4, Y5, Y6, Y7, Y8, Y9, Xz, Xq, Xx, Xj, Xv⟩ (fun hHeld => ?_)
              clear hK K
              refine Jl (some 132) ?_
              refine zA 16 (some 116) zY ?_
              refine zA 17 (some 133) zY ?_
              refine zA 18 (some 134) zY ?_
              refine zA 19 (some 13) zY ?_
              refine zA 20 (some 14) zY ?_
              refine jk (xM zY.out (by kernel_rfl)) ?_
              try go_wp2
              have zf := zx.mk (Kd.qj yK.out)
              have zl := zx.mk (Kd.qj zm.out)
              have zu := zx.mk (Kd.qm yQ.out)
              have zH := zx.mk (Kd.qm yT.out)
              have qV := zx.mk (Kd.qm y7.out)
              have xD := zx.mk (Kd.qm y8.out)
              have wX := zx.mk (Kd.qm y9.out)
              have wJ := zx.mk (Kd.qm qz.out)
              have wV := zx.mk (xZ zW.out)
              have wK := zx.mk (Kd.zo zG.out)
              have um := zx.mk (Kd.zo yU.out)
              have uo := zx.mk (Kd.zo yE.out)
              have uD := zx.mk (Kd.zo yF.out)
              have uE := zx.mk (Kd.zo yG.out)
              have uF := zx.mk (Kd.zo qx.out)
              have uG := zx.mk (yx HB.out)
              clear yK zm yQ yT y7 y8 y9 qz zW zG yU yE yF yG qx HB
              have yK := zf
              have zm := zl
              have yQ := zu
              have yT := zH
              have y7 := qV
              have y8 := xD
              have y9 := wX
              have qz := wJ
              have zW := wV
              have zG := wK
              have yU := um
              have yE := uo
              have yF := uD
              have yG := uE
              have qx := uF
              have HB := uG
              clear zf zl zu zH qV xD wX wJ wV wK um uo uD uE uF uG
              have kU : 0 ≤ (zy : Int) := of_decide_eq_true (by first | (with_reducible assumption) | assumption)
              have wz : zy < (zQ.length : Int) := of_decide_eq_true (by first | (with_reducible assumption) | assumption)
              obtain ⟨QV, pU, p8, Ux, kZ, kQ, kX, kJ, kV, kK, xS, kY, kW⟩ := qo (Kd.zn zm.out).2.2 zy kU wz
              obtain rfl : zJ = QV := (by injection Ux)
              obtain ⟨dW, XV, XK, p9⟩ := Kd.xB zm.out z53 zy kU (by first | exact wz | exact of_decide_eq_true (by first | (with_reducible assumption) | assumption) | (have e_ := (Kd.zn zm.out).1; omega))
              obtain ⟨Jd, rfl, uX⟩ := qJ XK
              have xq := p9 6 _ rfl
              rw [zB _ _ 6 (by omega)] at xq
              replace xq := Option.some.inj (xq.symm.trans xS)
              rw [xq] at uX
              have Z9 := zx.mk (show Kd.R (Kd.int .i64) 3 _ _ _ _ ((zw zQ zy).f6) from uX)
              clear xq uX p9 XV
              have Yz := zx.mk kW
              have Je := zx.mk kY
              clear kW kY
              replace kU := eq_true kU
              replace wz := eq_true wz
              have XY : 0 ≤ (zy : Int) := of_decide_eq_true (by first | (with_reducible assumption) | assumption)
              have XW : zy < (zQ.length : Int) := of_decide_eq_true (by first | (with_reducible assumption) | assumption)
              obtain ⟨Wv, zzf, zzg, sJ, YF, YG, YH, YI, YL, YM, kg, YN, YO⟩ := qo (Kd.zn zm.out).2.2 zy XY XW
              obtain rfl : zJ = Wv := (by injection sJ)
              obtain ⟨zxd, UG, UH, X8⟩ := Kd.xB zm.out z53 zy XY (by first | exact XW | exact of_decide_eq_true (by first | (with_reducible assumption) | assumption) | (have e_ := (Kd.zn zm.out).1; omega))
              obtain ⟨fD, rfl, ZW⟩ := qJ UH
              have jq := X8 6 _ rfl
              rw [zB _ _ 6 (by omega)] at jq
              replace jq := Option.some.inj (jq.symm.trans kg)
              rw [jq] at ZW
              have Vp := zx.mk (show Kd.R (Kd.int .i64) 3 _ _ _ _ ((zw zQ zy).f6) from ZW)
              clear jq ZW X8 UG
              have Vr := zx.mk YO
              have fE := zx.mk YN
              clear YO YN
              replace XY := eq_true XY
              replace XW := eq_true XW
              have uh := Option.some.inj (xS.symm.trans kg)
              injection uh with uh YZ YQ
              subst uh
              subst YQ
              clear YZ
              have Uj : 0 ≤ (zy : Int) := of_decide_eq_true (by first | (with_reducible assumption) | assumption)
              have Uv : zy < (zQ.length : Int) := of_decide_eq_true (by first | (with_reducible assumption) | assumption)
              obtain ⟨lq, zvR, zvS, zqM, Vs, Vt, Vu, VA, VB, VD, Yq, VE, VF⟩ := qo (Kd.zn zm.out).2.2 zy Uj Uv
              obtain rfl : zJ = lq := (by injection zqM)
              obtain ⟨zy3, sV, sK, UL⟩ := Kd.xB zm.out z53 zy Uj (by first | exact Uv | exact of_decide_eq_true (by first | (with_reducible assumption) | assumption) | (have e_ := (Kd.zn zm.out).1; omega))
              obtain ⟨zjK, rfl, XG⟩ := qJ sK
              have Za := UL 6 _ rfl
              rw [zB _ _ 6 (by omega)] at Za
              replace Za := Option.some.inj (Za.symm.trans Yq)
              rw [Za] at XG
              have bX := zx.mk (show Kd.R (Kd.int .i64) 3 _ _ _ _ ((zw zQ zy).f6) from XG)
              clear Za XG UL sV
              have bJ := zx.mk VF
              have zjY := zx.mk VE
              clear VF VE
              replace Uj := eq_true Uj
              replace Uv := eq_true Uv
              have uh := Option.some.inj (xS.symm.trans Yq)
              injection uh with uh YZ YQ
              subst uh
              subst YQ
              clear YZ
              refine jw (n := 29) (S := fun w' => w'.cell? ⟨yV, 0, none⟩ = some (.int .i64 (wrap64 (Int.tmod (IntKind.u64.wrap (yN)) 5))) ∧ w'.cell? ⟨yV, 1, none⟩ = some (.int .i64 (wrap64 (1 + (wrap64 (Int.tmod (IntKind.u64.wrap (yX)) 1000))))) ∧ w'.cell? ⟨yV, 2, none⟩ = some (.bool yP) ∧ w'.cell? ⟨yV, 3, none⟩ = some (.bool yO) ∧ w'.cell? (zJ.add ((zy).toNat * 7)) = some (.int .i64 ((zw zQ zy).f0)) ∧ w'.cell? ⟨(zJ.add ((zy).toNat * 7)).block, (zJ.add ((zy).toNat * 7)).off + 1, none⟩ = some (.int .i64 ((zw zQ zy).f1)) ∧ w'.cell? ⟨(zJ.add ((zy).toNat * 7)).block, (zJ.add ((zy).toNat * 7)).off + 2, none⟩ = some (.int .i64 ((zw zQ zy).f2)) ∧ w'.cell? ⟨(zJ.add ((zy).toNat * 7)).block, (zJ.add ((zy).toNat * 7)).off + 3, none⟩ = some (.int .i64 ((zw zQ zy).f3)) ∧ w'.cell? ⟨(zJ.add ((zy).toNat * 7)).block, (zJ.add ((zy).toNat * 7)).off + 4, none⟩ = some (.string ((zw zQ zy).f4)) ∧ w'.cell? ⟨(zJ.add ((zy).toNat * 7)).block, (zJ.add ((zy).toNat * 7)).off + 5, none⟩ = some (.string ((zw zQ zy).f5)) ∧ w'.cell? ⟨(zJ.add ((zy).toNat * 7)).block, (zJ.add ((zy).toNat * 7)).off + 6, none⟩ = some (.slice pU ((zw zQ zy).f6).length p8) ∧ w'.cell? (zJ.add ((zy).toNat * 7)) = some (.int .i64 ((zw zQ zy).f0)) ∧ w'.cell? ⟨(zJ.add ((zy).toNat * 7)).block, (zJ.add ((zy).toNat * 7)).off + 1, none⟩ = some (.int .i64 ((zw zQ zy).f1)) ∧ w'.cell? ⟨(zJ.add ((zy).toNat * 7)).block, (zJ.add ((zy).toNat * 7)).off + 2, none⟩ = some (.int .i64 ((zw zQ zy).f2)) ∧ w'.cell? ⟨(zJ.add ((zy).toNat * 7)).block, (zJ.add ((zy).toNat * 7)).off + 3, none⟩ = some (.int .i64 ((zw zQ zy).f3)) ∧ w'.cell? ⟨(zJ.add ((zy).toNat * 7)).block, (zJ.add ((zy).toNat * 7)).off + 4, none⟩ = some (.string ((zw zQ zy).f4)) ∧ w'.cell? ⟨(zJ.add ((zy).toNat * 7)).block, (zJ.add ((zy).toNat * 7)).off + 5, none⟩ = some (.string ((zw zQ zy).f5)) ∧ w'.cell? ⟨(zJ.add ((zy).toNat * 7)).block, (zJ.add ((zy).toNat * 7)).off + 6, none⟩ = some (.slice pU ((zw zQ zy).f6).length p8) ∧ w'.cell? (zJ.add ((zy).toNat * 7)) = some (.int .i64 ((zw zQ zy).f0)) ∧ w'.cell? ⟨(zJ.add ((zy).toNat * 7)).block, (zJ.add ((zy).toNat * 7)).off + 1, none⟩ = some (.int .i64 ((zw zQ zy).f1)) ∧ w'.cell? ⟨(zJ.add ((zy).toNat * 7)).block, (zJ.add ((zy).toNat * 7)).off + 2, none⟩ = some (.int .i64 ((zw zQ zy).f2)) ∧ w'.cell? ⟨(zJ.add ((zy).toNat * 7)).block, (zJ.add ((zy).toNat * 7)).off + 3, none⟩ = some (.int .i64 ((zw zQ zy).f3)) ∧ w'.cell? ⟨(zJ.add ((zy).toNat * 7)).block, (zJ.add ((zy).toNat * 7)).off + 4, none⟩ = some (.string ((zw zQ zy).f4)) ∧ w'.cell? ⟨(zJ.add ((zy).toNat * 7)).block, (zJ.add ((zy).toNat * 7)).off + 5, none⟩ = some (.string ((zw zQ zy).f5)) ∧ w'.cell? ⟨(zJ.add ((zy).toNat * 7)).block, (zJ.add ((zy).toNat * 7)).off + 6, none⟩ = some (.slice pU ((zw zQ zy).f6).length p8)) (ds := []) #[false, false, false, false, false, false, false, false, false, false, false, false, false, false, false, false, false, false, false, false, false, false, false, false, false, false, false, false, false] (by kernel_rfl) rfl rfl ⟨(zZ zW.out 0).trans rfl, (zZ zW.out 1).trans rfl, (zZ zW.out 2).trans rfl, (zZ zW.out 3).trans rfl, kZ, kQ, kX, kJ, kV, kK, xS, YF, YG, YH, YI, YL, YM, kg, Vs, Vt, Vu, VA, VB, VD, Yq⟩ (fun hHeld => ?_); refine uP zX.KO zX.Uu (fun zY vL => ?_)
              generalize w58.drew = w59 at yK zm yQ yT y7 y8 y9 qz zW zG yU yE yF yG qx HB Z9 Vp bX Yz Vr bJ kZ kQ kX kJ kV kK xS YF YG YH YI YL YM kg Vs Vt Vu VA VB VD Yq hHeld ⊢
              refine zA 0 (some 135) zY ?_
              refine zA 1 (some 136) zY ?_
              refine zA 2 (some 137) zY ?_
              refine zA 3 (some 138) zY ?_
              refine jZ 4 (some 139) zY vL hHeld ?_
              refine zA 5 (some 140) zY ?_
              refine zA 6 (some 141) zY ?_
              refine zA 7 (some 142) zY ?_
              refine zA 8 (some 143) zY ?_
              refine zA 9 (some 144) zY ?_
              refine zA 10 (some 145) zY ?_
              refine zA 11 (some 146) zY ?_
              refine zA 12 (some 147) zY ?_
              refine zA 13 (some 148) zY ?_
              refine zA 14 (some 149) zY ?_
              refine zA 15 (some 150) zY ?_
              refine jZ 16 (some 151) zY vL hHeld ?_
              refine zA 17 (some 152) zY ?_
              refine zA 18 (some 153) zY ?_
              refine zA 19 (some 154) zY ?_
              refine zA 20 (some 155) zY ?_
              refine zA 21 (some 156) zY ?_
              refine zA 22 (some 157) zY ?_
              refine zA 23 (some 158) zY ?_
              refine zA 25 (some 160) zY ?_
              refine jZ 24 (some 159) zY vL hHeld ?_
              refine jZ 26 (some 161) zY vL hHeld ?_
              refine zA 27 (some 162) zY ?_
              refine zA 28 (some 163) zY ?_
              refine jk (xM zY.out (by kernel_rfl)) ?_
              try go_wp2
              go_ret
              exact ⟨by first | rfl | (simp [zR, zS] <;> rfl) | (simp [*, zR, zS] <;> rfl), by repeat (first | (with_reducible first | exact HB.out | apply yA | apply yZ | apply yx | refine xL ?_ Yf.out) | exact HB.out)⟩
            ·rw [if_neg Wq] at H
             have zyU : (XF == ((zw zQ zy).f1)) = false := beq_eq_false_iff_ne.mpr Wq
             have zy0 : (XF != ((zw zQ zy).f1)) = true := bne_iff_ne.mpr Wq
             obtain rfl := Option.some.inj H
             obtain ⟨zVa, zVb, zZH⟩ := Kd.jY zm.out
             subst zZH
             have uM : 0 ≤ (zy : Int) := of_decide_eq_true (by first | (with_reducible assumption) | assumption)
             have uN : zy < (zQ.length : Int) := of_decide_eq_true (by first | (with_reducible assumption) | assumption)
             obtain ⟨zJ, Qo, UE, Qp, Xr, Xt, Xu, XA, XB, XC, wh, uT, uU⟩ := qo (Kd.zn zm.out).2.2 zy uM uN
             cases Qp
             obtain ⟨KR, ZM, ZN, jh⟩ := Kd.xB zm.out z53 zy uM (by first | exact uN | exact of_decide_eq_true (by first | (with_reducible assumption) | assumption) | (have e_ := (Kd.zn zm.out).1; omega))
             obtain ⟨Va, rfl, vB⟩ := qJ ZN
             have qh := jh 6 _ rfl
             rw [zB _ _ 6 (by omega)] at qh
             replace qh := Option.some.inj (qh.symm.trans wh)
             rw [qh] at vB
             have yQ := zx.mk (show Kd.R (Kd.int .i64) 3 _ _ _ _ ((zw zQ zy).f6) from vB)
             clear qh vB jh ZM
             have zG := zx.mk uU
             have Vb := zx.mk uT
             clear uU uT
             replace uM := eq_true uM
             replace uN := eq_true uN
             try go_wp2
             have zf := zx.mk (Kd.qj yK.out)
             have zl := zx.mk (Kd.qj zm.out)
             have zu := zx.mk (Kd.qm yQ.out)
             have zH := zx.mk (xZ zW.out)
             have qV := zx.mk (Kd.zo zG.out)
             have xD := zx.mk (yx HB.out)
             clear yK zm yQ zW zG HB
             have yK := zf
             have zm := zl
             have yQ := zu
             have zW := zH
             have zG := qV
             have HB := xD
             clear zf zl zu zH qV xD
             have kM : 0 ≤ (zy : Int) := of_decide_eq_true (by first | (with_reducible assumption) | assumption)
             have kN : zy < (zQ.length : Int) := of_decide_eq_true (by first | (with_reducible assumption) | assumption)
             obtain ⟨QX, pV, pK, V9, jm, jo, jr, jA, jB, jC, xP, jD, jE⟩ := qo (Kd.zn zm.out).2.2 zy kM kN
             obtain rfl : zJ = QX := (by injection V9)
             obtain ⟨dV, Xk, Xy, pY⟩ := Kd.xB zm.out z53 zy kM (by first | exact kN | exact of_decide_eq_true (by first | (with_reducible assumption) | assumption) | (have e_ := (Kd.zn zm.out).1; omega))
             obtain ⟨JV, rfl, vU⟩ := qJ Xy
             have qP := pY 6 _ rfl
             rw [zB _ _ 6 (by omega)] at qP
             replace qP := Option.some.inj (qP.symm.trans xP)
             rw [qP] at vU
             have yT := zx.mk (show Kd.R (Kd.int .i64) 3 _ _ _ _ ((zw zQ zy).f6) from vU)
             clear qP vU pY Xk
             have yU := zx.mk jE
             have JK := zx.mk jD
             clear jE jD
             replace kM := eq_true kM
             replace kN := eq_true kN
             have kP : 0 ≤ (((zw zQ zy).f2) : Int) := of_decide_eq_true (by first | (with_reducible assumption) | assumption)
             have kR : ((zw zQ zy).f2) < (zi.length : Int) := of_decide_eq_true (by first | (with_reducible assumption) | assumption)
             obtain ⟨qX, pW, pE, pF, pG, pI, pO, Uz, jF, jG, jH, uz, uq, uj, jI, jL, jM, jN, jO, jP⟩ := Yv (Kd.zn yK.out).2.2 ((zw zQ zy).f2) kP kR
             cases Uz
             obtain ⟨dK, Xw, XZ, vO⟩ := Kd.xB yK.out z60 ((zw zQ zy).f2) kP (by first | exact kR | exact of_decide_eq_true (by first | (with_reducible assumption) | assumption) | (have e_ := (Kd.zn yK.out).1; omega))
             obtain ⟨JY, JW, Ja, rfl, uy, uw, uZ⟩ := Yu XZ
             have qR := vO 3 _ rfl
             rw [zB _ _ 3 (by omega)] at qR
             replace qR := Option.some.inj (qR.symm.trans uz)
             rw [qR] at uy
             have y7 := zx.mk (show Kd.R qH 105 _ _ _ _ ((zK zi ((zw zQ zy).f2)).f3) from uy)
             clear qR uy
             have qU := vO 4 _ rfl
             rw [zB _ _ 4 (by omega)] at qU
             replace qU := Option.some.inj (qU.symm.trans uq)
             rw [qU] at uw
             have y8 := zx.mk (show Kd.R vw 108 _ _ _ _ ((zK zi ((zw zQ zy).f2)).f4) from uw)
             clear qU uw
             have q8 := vO 5 _ rfl
             rw [zB _ _ 5 (by omega)] at q8
             replace q8 := Option.some.inj (q8.symm.trans uj)
             rw [q8] at uZ
             have y9 := zx.mk (show Kd.R vC 111 _ _ _ _ ((zK zi ((zw zQ zy).f2)).f5) from uZ)
             clear q8 uZ vO Xw
             have yE := zx.mk jL
             have Z6 := zx.mk jI
             clear jL jI
             have yF := zx.mk jN
             have Z7 := zx.mk jM
             clear jN jM
             have yG := zx.mk jP
             have Z8 := zx.mk jO
             clear jP jO
             replace kP := eq_true kP
             replace kR := eq_true kR
             have kS : 0 ≤ (zy : Int) := of_decide_eq_true (by first | (with_reducible assumption) | assumption)
             have kT : zy < (zQ.length : Int) := of_decide_eq_true (by first | (with_reducible assumption) | assumption)
             obtain ⟨QJ, Wx, Wj, Uq, jR, jS, jT, jU, j3, j4, xR, j5, j6⟩ := qo (Kd.zn zm.out).2.2 zy kS kT
             obtain rfl : zJ = QJ := (by injection Uq)
             obtain ⟨dY, XQ, XJ, pR⟩ := Kd.xB zm.out z53 zy kS (by first | exact kT | exact of_decide_eq_true (by first | (with_reducible assumption) | assumption) | (have e_ := (Kd.zn zm.out).1; omega))
             obtain ⟨Jb, rfl, uQ⟩ := qJ XJ
             have q9 := pR 6 _ rfl
             rw [zB _ _ 6 (by omega)] at q9
             replace q9 := Option.some.inj (q9.symm.trans xR)
             rw [q9] at uQ
             have qz := zx.mk (show Kd.R (Kd.int .i64) 3 _ _ _ _ ((zw zQ zy).f6) from uQ)
             clear q9 uQ pR XQ
             have qx := zx.mk j6
             have Jc := zx.mk j5
             clear j6 j5
             replace kS := eq_true kS
             replace kT := eq_true kT
             have uh := Option.some.inj (xP.symm.trans xR)
             injection uh with uh YZ YQ
             subst uh
             subst YQ
             clear YZ
             refine jw (n := 21) (S := fun w' => w'.cell? ⟨yV, 0, none⟩ = some (.int .i64 (wrap64 (Int.tmod (IntKind.u64.wrap (yN)) 5))) ∧ w'.cell? ⟨yV, 1, none⟩ = some (.int .i64 (wrap64 (1 + (wrap64 (Int.tmod (IntKind.u64.wrap (yX)) 1000))))) ∧ w'.cell? ⟨yV, 2, none⟩ = some (.bool yP) ∧ w'.cell? ⟨yV, 3, none⟩ = some (.bool yO) ∧ w'.cell? (zJ.add ((zy).toNat * 7)) = some (.int .i64 ((zw zQ zy).f0)) ∧ w'.cell? ⟨(zJ.add ((zy).toNat * 7)).block, (zJ.add ((zy).toNat * 7)).off + 1, none⟩ = some (.int .i64 ((zw zQ zy).f1)) ∧ w'.cell? ⟨(zJ.add ((zy).toNat * 7)).block, (zJ.add ((zy).toNat * 7)).off + 2, none⟩ = some (.int .i64 ((zw zQ zy).f2)) ∧ w'.cell? ⟨(zJ.add ((zy).toNat * 7)).block, (zJ.add ((zy).toNat * 7)).off + 3, none⟩ = some (.int .i64 ((zw zQ zy).f3)) ∧ w'.cell? ⟨(zJ.add ((zy).toNat * 7)).block, (zJ.add ((zy).toNat * 7)).off + 4, none⟩ = some (.string ((zw zQ zy).f4)) ∧ w'.cell? ⟨(zJ.add ((zy).toNat * 7)).block, (zJ.add ((zy).toNat * 7)).off + 5, none⟩ = some (.string ((zw zQ zy).f5)) ∧ w'.cell? ⟨(zJ.add ((zy).toNat * 7)).block, (zJ.add ((zy).toNat * 7)).off + 6, none⟩ = some (.slice pV ((zw zQ zy).f6).length pK) ∧ w'.cell? (qX.add ((((zw zQ zy).f2)).toNat * 6)) = some (.string ((zK zi ((zw zQ zy).f2)).f0)) ∧ w'.cell? ⟨(qX.add ((((zw zQ zy).f2)).toNat * 6)).block, (qX.add ((((zw zQ zy).f2)).toNat * 6)).off + 1, none⟩ = some (.bool ((zK zi ((zw zQ zy).f2)).f1)) ∧ w'.cell? ⟨(qX.add ((((zw zQ zy).f2)).toNat * 6)).block, (qX.add ((((zw zQ zy).f2)).toNat * 6)).off + 2, none⟩ = some (.int .i64 ((zK zi ((zw zQ zy).f2)).f2)) ∧ w'.cell? ⟨(qX.add ((((zw zQ zy).f2)).toNat * 6)).block, (qX.add ((((zw zQ zy).f2)).toNat * 6)).off + 3, none⟩ = some (.slice pW ((zK zi ((zw zQ zy).f2)).f3).length pE) ∧ w'.cell? ⟨(qX.add ((((zw zQ zy).f2)).toNat * 6)).block, (qX.add ((((zw zQ zy).f2)).toNat * 6)).off + 4, none⟩ = some (.slice pF ((zK zi ((zw zQ zy).f2)).f4).length pG) ∧ w'.cell? ⟨(qX.add ((((zw zQ zy).f2)).toNat * 6)).block, (qX.add ((((zw zQ zy).f2)).toNat * 6)).off + 5, none⟩ = some (.slice pI ((zK zi ((zw zQ zy).f2)).f5).length pO) ∧ w'.cell? (zJ.add ((zy).toNat * 7)) = some (.int .i64 ((zw zQ zy).f0)) ∧ w'.cell? ⟨(zJ.add ((zy).toNat * 7)).block, (zJ.add ((zy).toNat * 7)).off + 1, none⟩ = some (.int .i64 ((zw zQ zy).f1)) ∧ w'.cell? ⟨(zJ.add ((zy).toNat * 7)).block, (zJ.add ((zy).toNat * 7)).off + 2, none⟩ = some (.int .i64 ((zw zQ zy).f2)) ∧ w'.cell? ⟨(zJ.add ((zy).toNat * 7)).block, (zJ.add ((zy).toNat * 7)).off + 3, none⟩ = some (.int .i64 ((zw zQ zy).f3)) ∧ w'.cell? ⟨(zJ.add ((zy).toNat * 7)).block, (zJ.add ((zy).toNat * 7)).off + 4, none⟩ = some (.string ((zw zQ zy).f4)) ∧ w'.cell? ⟨(zJ.add ((zy).toNat * 7)).block, (zJ.add ((zy).toNat * 7)).off + 5, none⟩ = some (.string ((zw zQ zy).f5)) ∧ w'.cell? ⟨(zJ.add ((zy).toNat * 7)).block, (zJ.add ((zy).toNat * 7)).off + 6, none⟩ = some (.slice pV ((zw zQ zy).f6).length pK)) (ds := []) #[false, false, false, false, false, false, false, false, false, false, false, false, false, false, false, false, false, false, false, false, false] (by kernel_rfl) rfl rfl ⟨(zZ zW.out 0).trans rfl, (zZ zW.out 1).trans rfl, (zZ zW.out 2).trans rfl, (zZ zW.out 3).trans rfl, jm, jo, jr, jA, jB, jC, xP, jF, jG, jH, uz, uq, uj, jR, jS, jT, jU, j3, j4, xR⟩ (fun hHeld => ?_); refine uP zX.KN zX.Ut (fun zY vL => ?_)
             generalize wr.drew = w61 at yK zm yQ zW zG HB yT y7 y8 y9 qz yU yE yF yG qx jm jo jr jA jB jC xP jF jG jH uz uq uj jR jS jT jU j3 j4 xR hHeld ⊢
             refine zA 0 (some 117) zY ?_
             refine zA 1 (some 118) zY ?_
             refine zA 2 (some 119) zY ?_
             refine zA 3 (some 120) zY ?_
             refine zA 4 (some 121) zY ?_
             refine zA 8 (some 125) zY ?_
             refine zA 9 (some 126) zY ?_
             refine zA 10 (some 127) zY ?_
             refine zA 11 (some 128) zY ?_
             refine zA 13 (some 130) zY ?_
             refine jZ 5 (some 122) zY vL hHeld ?_
             refine zA 6 (some 123) zY ?_
             refine jZ 7 (some 124) zY vL hHeld ?_
             refine jZ 12 (some 129) zY vL hHeld ?_
             refine jZ 14 (some 131) zY vL hHeld ?_
             refine Jm 15 (some 132) zY (fun K hK => ?_)
             refine YP Tryz.func22 (by kernel_rfl) rfl #[.agg #[.string ((zK zi ((zw zQ zy).f2)).f0), .bool ((zK zi ((zw zQ zy).f2)).f1), .int .i64 ((zK zi ((zw zQ zy).f2)).f2), .slice pW ((zK zi ((zw zQ zy).f2)).f3).length pE, .slice pF ((zK zi ((zw zQ zy).f2)).f4).length pG, .slice pI ((zK zi ((zw zQ zy).f2)).f5).length pO], .string ((zw zQ zy).f4), .int .i64 (wrap64 (1 + (wrap64 (Int.tmod (IntKind.u64.wrap (yX)) 1000))))] (by rfl) rfl rfl (by (try simp only [List.map_toArray, List.map_cons, List.map_nil]); first | done | rfl | (simp only [List.length_drop, List.length_take]; rfl)) ?_
             with_reducible refine (uI.calls ((zK zi ((zw zQ zy).f2)).f0) ((zK zi ((zw zQ zy).f2)).f1) ((zK zi ((zw zQ zy).f2)).f2) _ _ ((zK zi ((zw zQ zy).f2)).f3) _ _ ((zK zi ((zw zQ zy).f2)).f4) _ _ ((zK zi ((zw zQ zy).f2)).f5) ((zw zQ zy).f4) (wrap64 (1 + (wrap64 (Int.tmod (IntKind.u64.wrap (yX)) 1000)))) XF QC _ ?qw ?qI ?xX ?xJ ?xV ?xK ?xY A47.out).mono ?_
             (case qw => repeat (first | exact (vZ yE.out) | (with_reducible refine Kd.zD ?_ _) | (with_reducible refine Kd.zF ?_ _) | (with_reducible refine Kd.zo ?_)))
             (case qI => exact Z6.out)
             (case xX => repeat (first | exact (vZ yF.out) | (with_reducible refine Kd.zD ?_ _) | (with_reducible refine Kd.zF ?_ _) | (with_reducible refine Kd.zo ?_)))
             (case xJ => exact Z7.out)
             (case xV => repeat (first | exact (vZ yG.out) | (with_reducible refine Kd.zD ?_ _) | (with_reducible refine Kd.zF ?_ _) | (with_reducible refine Kd.zo ?_)))
             (case xK => exact Z8.out)
             (case xY => exact GW.under HG.out (zP HB.out))
             rintro e w62 ⟨rfl, hb⟩
             have Qr := (hb.cell (wb _ _ (hHeld.2.2.2.2.1))).trans (hHeld.2.2.2.2.1)
             have Qs := (hb.cell (wb _ _ (hHeld.2.2.2.2.2.1))).trans (hHeld.2.2.2.2.2.1)
             have Qt := (hb.cell (wb _ _ (hHeld.2.2.2.2.2.2.1))).trans (hHeld.2.2.2.2.2.2.1)
             have Qu := (hb.cell (wb _ _ (hHeld.2.2.2.2.2.2.2.1))).trans (hHeld.2.2.2.2.2.2.2.1)
             have QA := (hb.cell (wb _ _ (hHeld.2.2.2.2.2.2.2.2.1))).trans (hHeld.2.2.2.2.2.2.2.2.1)
             have QB := (hb.cell (wb _ _ (hHeld.2.2.2.2.2.2.2.2.2.1))).trans (hHeld.2.2.2.2.2.2.2.2.2.1)
             have Y1 := (hb.cell (wb _ _ (hHeld.2.2.2.2.2.2.2.2.2.2.1))).trans (hHeld.2.2.2.2.2.2.2.2.2.2.1)
             have Y2 := (hb.cell (wb _ _ (hHeld.2.2.2.2.2.2.2.2.2.2.2.1))).trans (hHeld.2.2.2.2.2.2.2.2.2.2.2.1)
             have Y3 := (hb.cell (wb _ _ (hHeld.2.2.2.2.2.2.2.2.2.2.2.2.1))).trans (hHeld.2.2.2.2.2.2.2.2.2.2.2.2.1)
             have Y4 := (hb.cell (wb _ _ (hHeld.2.2.2.2.2.2.2.2.2.2.2.2.2.1))).trans (hHeld.2.2.2.2.2.2.2.2.2.2.2.2.2.1)
             have Y5 := (hb.cell (wb _ _ (hHeld.2.2.2.2.2.2.2.2.2.2.2.2.2.2.1))).trans (hHeld.2.2.2.2.2.2.2.2.2.2.2.2.2.2.1)
             have Y6 := (hb.cell (wb _ _ (hHeld.2.2.2.2.2.2.2.2.2.2.2.2.2.2.2.1))).trans (hHeld.2.2.2.2.2.2.2.2.2.2.2.2.2.2.2.1)
             have Y7 := (hb.cell (wb _ _ (hHeld.2.2.2.2.2.2.2.2.2.2.2.2.2.2.2.2.1))).trans (hHeld.2.2.2.2.2.2.2.2.2.2.2.2.2.2.2.2.1)
             have Y8 := (hb.cell (wb _ _ (hHeld.2.2.2.2.2.2.2.2.2.2.2.2.2.2.2.2.2.1))).trans (hHeld.2.2.2.2.2.2.2.2.2.2.2.2.2.2.2.2.2.1)
             have Y9 := (hb.cell (wb _ _ (hHeld.2.2.2.2.2.2.2.2.2.2.2.2.2.2.2.2.2.2.1))).trans (hHeld.2.2.2.2.2.2.2.2.2.2.2.2.2.2.2.2.2.2.1)
             have Xz := (hb.cell (wb _ _ (hHeld.2.2.2.2.2.2.2.2.2.2.2.2.2.2.2.2.2.2.2.1))).trans (hHeld.2.2.2.2.2.2.2.2.2.2.2.2.2.2.2.2.2.2.2.1)
             have Xq := (hb.cell (wb _ _ (hHeld.2.2.2.2.2.2.2.2.2.2.2.2.2.2.2.2.2.2.2.2.1))).trans (hHeld.2.2.2.2.2.2.2.2.2.2.2.2.2.2.2.2.2.2.2.2.1)
             have Xx := (hb.cell (wb _ _ (hHeld.2.2.2.2.2.2.2.2.2.2.2.2.2.2.2.2.2.2.2.2.2.1))).trans (hHeld.2.2.2.2.2.2.2.2.2.2.2.2.2.2.2.2.2.2.2.2.2.1)
             have Xj := (hb.cell (wb _ _ (hHeld.2.2.2.2.2.2.2.2.2.2.2.2.2.2.2.2.2.2.2.2.2.2.1))).trans (hHeld.2.2.2.2.2.2.2.2.2.2.2.2.2.2.2.2.2.2.2.2.2.2.1)
             have Xv := (hb.cell (wb _ _ (hHeld.2.2.2.2.2.2.2.2.2.2.2.2.2.2.2.2.2.2.2.2.2.2.2))).trans (hHeld.2.2.2.2.2.2.2.2.2.2.2.2.2.2.2.2.2.2.2.2.2.2.2)
             refine ⟨_, rfl, ?_⟩
             have zf := zx.mk (Kd.qg (Zr yK.out) hb)
             have zl := zx.mk (Kd.qg (Zr zm.out) hb)
             have zu := zx.mk (Kd.yY (vI yQ.out) hb)
             have zH := zx.mk (Kd.yY (vI yT.out) hb)
             have qV := zx.mk (Kd.yY (vI y7.out) hb)
             have xD := zx.mk (Kd.yY (vI y8.out) hb)
             have wX := zx.mk (Kd.yY (vI y9.out) hb)
             have wJ := zx.mk (Kd.yY (vI qz.out) hb)
             have wV := zx.mk (zN (g := yV) (o := .cells #[.int .i64 (wrap64 (Int.tmod (IntKind.u64.wrap (yN)) 5)), .int .i64 (wrap64 (1 + (wrap64 (Int.tmod (IntKind.u64.wrap (yX)) 1000)))), .bool yP, .bool yO] 26 (0, 0)) (ji zW.out) hb)
             have wK := zx.mk (Kd.zh (vZ zG.out) hb)
             have um := zx.mk (Kd.zh (vZ yU.out) hb)
             have uo := zx.mk (Kd.zh (vZ yE.out) hb)
             have uD := zx.mk (Kd.zh (vZ yF.out) hb)
             have uE := zx.mk (Kd.zh (vZ yG.out) hb)
             have uF := zx.mk (Kd.zh (vZ qx.out) hb)
             have uG := zx.mk (zL (zP HB.out) hb)
             clear yK zm yQ yT y7 y8 y9 qz zW zG yU yE yF yG qx HB
             have yK := zf
             have zm := zl
             have yQ := zu
             have yT := zH
             have y7 := qV
             have y8 := xD
             have y9 := wX
             have qz := wJ
             have zW := wV
             have zG := wK
             have yU := um
             have yE := uo
             have yF := uD
             have yG := uE
             have qx := uF
             have HB := uG
             clear zf zl zu zH qV xD wX wJ wV wK um uo uD uE uF uG
             (try clear hb)
             (try clear hb2)
             (try clear hk)
             (try clear hi)
             refine hK.out _ _ ⟨(zZ zW.out 0).trans rfl, (zZ zW.out 1).trans rfl, (zZ zW.out 2).trans rfl, (zZ zW.out 3).trans rfl, Qr, Qs, Qt, Qu, QA, QB, Y1, Y2, Y3, Y4, Y5, Y6, Y7, Y8, Y9, Xz, Xq, Xx, Xj, Xv⟩ (fun hHeld => ?_)
             clear hK K
             refine Jl (some 132) ?_
             refine zA 16 (some 116) zY ?_
             refine zA 17 (some 133) zY ?_
             refine zA 18 (some 134) zY ?_
             refine zA 19 (some 13) zY ?_
             refine zA 20 (some 14) zY ?_
             refine jk (xM zY.out (by kernel_rfl)) ?_
             try go_wp2
             have zf := zx.mk (Kd.qj yK.out)
             have zl := zx.mk (Kd.qj zm.out)
             have zu := zx.mk (Kd.qm yQ.out)
             have zH := zx.mk (Kd.qm yT.out)
             have qV := zx.mk (Kd.qm y7.out)
             have xD := zx.mk (Kd.qm y8.out)
             have wX := zx.mk (Kd.qm y9.out)
             have wJ := zx.mk (Kd.qm qz.out)
             have wV := zx.mk (xZ zW.out)
             have wK := zx.mk (Kd.zo zG.out)
             have um := zx.mk (Kd.zo yU.out)
             have uo := zx.mk (Kd.zo yE.out)
             have uD := zx.mk (Kd.zo yF.out)
             have uE := zx.mk (Kd.zo yG.out)
             have uF := zx.mk (Kd.zo qx.out)
             have uG := zx.mk (yx HB.out)
             clear yK zm yQ yT y7 y8 y9 qz zW zG yU yE yF yG qx HB
             have yK := zf
             have zm := zl
             have yQ := zu
             have yT := zH
             have y7 := qV
             have y8 := xD
             have y9 := wX
             have qz := wJ
             have zW := wV
             have zG := wK
             have yU := um
             have yE := uo
             have yF := uD
             have yG := uE
             have qx := uF
             have HB := uG
             clear zf zl zu zH qV xD wX wJ wV wK um uo uD uE uF uG
             have kU : 0 ≤ (zy : Int) := of_decide_eq_true (by first | (with_reducible assumption) | assumption)
             have wz : zy < (zQ.length : Int) := of_decide_eq_true (by first | (with_reducible assumption) | assumption)
             obtain ⟨QV, pU, p8, Ux, kZ, kQ, kX, kJ, kV, kK, xS, kY, kW⟩ := qo (Kd.zn zm.out).2.2 zy kU wz
             obtain rfl : zJ = QV := (by injection Ux)
             obtain ⟨dW, XV, XK, p9⟩ := Kd.xB zm.out z53 zy kU (by first | exact wz | exact of_decide_eq_true (by first | (with_reducible assumption) | assumption) | (have e_ := (Kd.zn zm.out).1; omega))
             obtain ⟨Jd, rfl, uX⟩ := qJ XK
             have xq := p9 6 _ rfl
             rw [zB _ _ 6 (by omega)] at xq
             replace xq := Option.some.inj (xq.symm.trans xS)
             rw [xq] at uX
             have Z9 := zx.mk (show Kd.R (Kd.int .i64) 3 _ _ _ _ ((zw zQ zy).f6) from uX)
             clear xq uX p9 XV
             have Yz := zx.mk kW
             have Je := zx.mk kY
             clear kW kY
             replace kU := eq_true kU
             replace wz := eq_true wz
             have XY : 0 ≤ (zy : Int) := of_decide_eq_true (by first | (with_reducible assumption) | assumption)
             have XW : zy < (zQ.length : Int) := of_decide_eq_true (by first | (with_reducible assumption) | assumption)
             obtain ⟨Wv, zzf, zzg, sJ, YF, YG, YH, YI, YL, YM, kg, YN, YO⟩ := qo (Kd.zn zm.out).2.2 zy XY XW
             obtain rfl : zJ = Wv := (by injection sJ)
             obtain ⟨zxd, UG, UH, X8⟩ := Kd.xB zm.out z53 zy XY (by first | exact XW | exact of_decide_eq_true (by first | (with_reducible assumption) | assumption) | (have e_ := (Kd.zn zm.out).1; omega))
             obtain ⟨fD, rfl, ZW⟩ := qJ UH
             have jq := X8 6 _ rfl
             rw [zB _ _ 6 (by omega)] at jq
             replace jq := Option.some.inj (jq.symm.trans kg)
             rw [jq] at ZW
             have Vp := zx.mk (show Kd.R (Kd.int .i64) 3 _ _ _ _ ((zw zQ zy).f6) from ZW)
             clear jq ZW X8 UG
             have Vr := zx.mk YO
             have fE := zx.mk YN
             clear YO YN
             replace XY := eq_true XY
             replace XW := eq_true XW
             have uh := Option.some.inj (xS.symm.trans kg)
             injection uh with uh YZ YQ
             subst uh
             subst YQ
             clear YZ
             refine jw (n := 29) (S := fun w' => w'.cell? (zJ.add ((zy).toNat * 7)) = some (.int .i64 ((zw zQ zy).f0)) ∧ w'.cell? ⟨(zJ.add ((zy).toNat * 7)).block, (zJ.add ((zy).toNat * 7)).off + 1, none⟩ = some (.int .i64 ((zw zQ zy).f1)) ∧ w'.cell? ⟨(zJ.add ((zy).toNat * 7)).block, (zJ.add ((zy).toNat * 7)).off + 2, none⟩ = some (.int .i64 ((zw zQ zy).f2)) ∧ w'.cell? ⟨(zJ.add ((zy).toNat * 7)).block, (zJ.add ((zy).toNat * 7)).off + 3, none⟩ = some (.int .i64 ((zw zQ zy).f3)) ∧ w'.cell? ⟨(zJ.add ((zy).toNat * 7)).block, (zJ.add ((zy).toNat * 7)).off + 4, none⟩ = some (.string ((zw zQ zy).f4)) ∧ w'.cell? ⟨(zJ.add ((zy).toNat * 7)).block, (zJ.add ((zy).toNat * 7)).off + 5, none⟩ = some (.string ((zw zQ zy).f5)) ∧ w'.cell? ⟨(zJ.add ((zy).toNat * 7)).block, (zJ.add ((zy).toNat * 7)).off + 6, none⟩ = some (.slice pU ((zw zQ zy).f6).length p8) ∧ w'.cell? (zJ.add ((zy).toNat * 7)) = some (.int .i64 ((zw zQ zy).f0)) ∧ w'.cell? ⟨(zJ.add ((zy).toNat * 7)).block, (zJ.add ((zy).toNat * 7)).off + 1, none⟩ = some (.int .i64 ((zw zQ zy).f1)) ∧ w'.cell? ⟨(zJ.add ((zy).toNat * 7)).block, (zJ.add ((zy).toNat * 7)).off + 2, none⟩ = some (.int .i64 ((zw zQ zy).f2)) ∧ w'.cell? ⟨(zJ.add ((zy).toNat * 7)).block, (zJ.add ((zy).toNat * 7)).off + 3, none⟩ = some (.int .i64 ((zw zQ zy).f3)) ∧ w'.cell? ⟨(zJ.add ((zy).toNat * 7)).block, (zJ.add ((zy).toNat * 7)).off + 4, none⟩ = some (.string ((zw zQ zy).f4)) ∧ w'.cell? ⟨(zJ.add ((zy).toNat * 7)).block, (zJ.add ((zy).toNat * 7)).off + 5, none⟩ = some (.string ((zw zQ zy).f5)) ∧ w'.cell? ⟨(zJ.add ((zy).toNat * 7)).block, (zJ.add ((zy).toNat * 7)).off + 6, none⟩ = some (.slice pU ((zw zQ zy).f6).length p8)) (ds := []) #[false, false, false, false, false, false, false, false, false, false, false, false, false, false, false, false, false, false, false, false, false, false, false, false, false, false, false, false, false] (by kernel_rfl) rfl rfl ⟨kZ, kQ, kX, kJ, kV, kK, xS, YF, YG, YH, YI, YL, YM, kg⟩ (fun hHeld => ?_); refine uP zX.KO zX.Uu (fun zY vL => ?_)
             generalize w62.drew = w63 at yK zm yQ yT y7 y8 y9 qz zW zG yU yE yF yG qx HB Z9 Vp Yz Vr kZ kQ kX kJ kV kK xS YF YG YH YI YL YM kg hHeld ⊢
             refine zA 0 (some 135) zY ?_
             refine zA 1 (some 136) zY ?_
             refine zA 2 (some 137) zY ?_
             refine zA 3 (some 138) zY ?_
             refine jZ 4 (some 139) zY vL hHeld ?_
             refine zA 5 (some 140) zY ?_
             refine zA 6 (some 141) zY ?_
             refine zA 7 (some 142) zY ?_
             refine zA 8 (some 143) zY ?_
             refine zA 9 (some 144) zY ?_
             refine zA 10 (some 145) zY ?_
             refine zA 11 (some 146) zY ?_
             refine zA 12 (some 147) zY ?_
             refine zA 13 (some 148) zY ?_
             refine zA 14 (some 149) zY ?_
             refine zA 15 (some 150) zY ?_
             refine jZ 16 (some 151) zY vL hHeld ?_
             refine zA 17 (some 152) zY ?_
             refine zA 18 (some 153) zY ?_
             refine zA 19 (some 154) zY ?_
             refine yL (i := 20) (N := some 155) (v := undef) (a' := ?_) #[true, true, true, true, true, true, true, true, true, true, true, true, true, true, true, true, true, true, true, true, true, false, false, false, false, false, false, false, false] rfl rfl (yJ zY.out (by kernel_rfl)) (fun _ _ _ h => h) (Or.inr ⟨by rfl, rfl⟩) ?_ ?_
             rotate_left
             ·simp only [Act.put, List.setIfInBounds_toArray, List.set_cons_zero, List.set_cons_succ, qW, qd]
              rfl
             refine yL (i := 21) (N := some 156) (v := undef) (a' := ?_) #[true, true, true, true, true, true, true, true, true, true, true, true, true, true, true, true, true, true, true, true, true, true, false, false, false, false, false, false, false] rfl rfl (yJ zY.out (by kernel_rfl)) (fun _ _ _ h => h) (Or.inr ⟨by rfl, rfl⟩) ?_ ?_
             rotate_left
             ·simp only [Act.put, List.setIfInBounds_toArray, List.set_cons_zero, List.set_cons_succ, qW, qd]
              rfl
             refine yL (i := 22) (N := some 157) (v := undef) (a' := ?_) #[true, true, true, true, true, true, true, true, true, true, true, true, true, true, true, true, true, true, true, true, true, true, true, false, false, false, false, false, false] rfl rfl (yJ zY.out (by kernel_rfl)) (fun _ _ _ h => h) (Or.inr ⟨by rfl, rfl⟩) ?_ ?_
             rotate_left
             ·simp only [Act.put, List.setIfInBounds_toArray, List.set_cons_zero, List.set_cons_succ, qW, qd]
              rfl
             refine yL (i := 23) (N := some 158) (v := undef) (a' := ?_) #[true, true, true, true, true, true, true, true, true, true, true, true, true, true, true, true, true, true, true, true, true, true, true, true, false, false, false, false, false] rfl rfl (yJ zY.out (by kernel_rfl)) (fun _ _ _ h => h) (Or.inr ⟨by rfl, rfl⟩) ?_ ?_
             rotate_left
             ·simp only [Act.put, List.setIfInBounds_toArray, List.set_cons_zero, List.set_cons_succ, qW, qd]
              rfl
             refine yL (i := 24) (N := some 159) (v := undef) (a' := ?_) #[true, true, true, true, true, true, true, true, true, true, true, true, true, true, true, true, true, true, true, true, true, true, true, true, true, false, false, false, false] rfl rfl (yJ zY.out (by kernel_rfl)) (fun _ _ _ h => h) (Or.inr ⟨by rfl, rfl⟩) ?_ ?_
             rotate_left
             ·simp only [Act.put, List.setIfInBounds_toArray, List.set_cons_zero, List.set_cons_succ, qW, qd]
              rfl
             refine yL (i := 25) (N := some 160) (v := undef) (a' := ?_) #[true, true, true, true, true, true, true, true, true, true, true, true, true, true, true, true, true, true, true, true, true, true, true, true, true, true, false, false, false] rfl rfl (yJ zY.out (by kernel_rfl)) (fun _ _ _ h => h) (Or.inr ⟨by rfl, rfl⟩) ?_ ?_
             rotate_left
             ·simp only [Act.put, List.setIfInBounds_toArray, List.set_cons_zero, List.set_cons_succ, qW, qd]
              rfl
             refine yL (i := 26) (N := some 161) (v := undef) (a' := ?_) #[true, true, true, true, true, true, true, true, true, true, true, true, true, true, true, true, true, true, true, true, true, true, true, true, true, true, true, false, false] rfl rfl (yJ zY.out (by kernel_rfl)) (fun _ _ _ h => h) (Or.inr ⟨by rfl, rfl⟩) ?_ ?_
             rotate_left
             ·simp only [Act.put, List.setIfInBounds_toArray, List.set_cons_zero, List.set_cons_succ, qW, qd]
              rfl
             refine yL (i := 27) (N := some 162) (v := undef) (a' := ?_) #[true, true, true, true, true, true, true, true, true, true, true, true, true, true, true, true, true, true, true, true, true, true, true, true, true, true, true, true, false] rfl rfl (yJ zY.out (by kernel_rfl)) (fun _ _ _ h => h) (Or.inr ⟨by rfl, rfl⟩) ?_ ?_
             rotate_left
             ·simp only [Act.put, List.setIfInBounds_toArray, List.set_cons_zero, List.set_cons_succ, qW, qd]
              rfl
             refine zA 28 (some 163) zY ?_
             refine jk (xM zY.out (by kernel_rfl)) ?_
             try go_wp2
             go_ret
             exact ⟨by first | rfl | (simp [zR, zS] <;> rfl) | (simp [*, zR, zS] <;> rfl), by repeat (first | (with_reducible first | exact HB.out | apply yA | apply yZ | apply yx | refine xL ?_ Yf.out) | exact HB.out)⟩
           ·rw [if_neg c49] at H
            have zyS : (QC == 0) = false := beq_eq_false_iff_ne.mpr c49
            have zyT : (QC != 0) = true := bne_iff_ne.mpr c49
            obtain rfl := Option.some.inj H
            obtain ⟨zVc, zVd, zZI⟩ := Kd.jY zm.out
            subst zZI
            have uM : 0 ≤ (zy : Int) := of_decide_eq_true (by first | (with_reducible assumption) | assumption)
            have uN : zy < (zQ.length : Int) := of_decide_eq_true (by first | (with_reducible assumption) | assumption)
            obtain ⟨zJ, Qo, UE, Qp, Xr, Xt, Xu, XA, XB, XC, wh, uT, uU⟩ := qo (Kd.zn zm.out).2.2 zy uM uN
            cases Qp
            obtain ⟨KR, ZM, ZN, jh⟩ := Kd.xB zm.out z53 zy uM (by first | exact uN | exact of_decide_eq_true (by first | (with_reducible assumption) | assumption) | (have e_ := (Kd.zn zm.out).1; omega))
            obtain ⟨Va, rfl, vB⟩ := qJ ZN
            have qh := jh 6 _ rfl
            rw [zB _ _ 6 (by omega)] at qh
            replace qh := Option.some.inj (qh.symm.trans wh)
            rw [qh] at vB
            have yQ := zx.mk (show Kd.R (Kd.int .i64) 3 _ _ _ _ ((zw zQ zy).f6) from vB)
            clear qh vB jh ZM
            have zG := zx.mk uU
            have Vb := zx.mk uT
            clear uU uT
            replace uM := eq_true uM
            replace uN := eq_true uN
            try go_wp2
            have zf := zx.mk (Kd.qj yK.out)
            have zl := zx.mk (Kd.qj zm.out)
            have zu := zx.mk (Kd.qm yQ.out)
            have zH := zx.mk (xZ zW.out)
            have qV := zx.mk (Kd.zo zG.out)
            have xD := zx.mk (yx HB.out)
            clear yK zm yQ zW zG HB
            have yK := zf
            have zm := zl
            have yQ := zu
            have zW := zH
            have zG := qV
            have HB := xD
            clear zf zl zu zH qV xD
            have kM : 0 ≤ (zy : Int) := of_decide_eq_true (by first | (with_reducible assumption) | assumption)
            have kN : zy < (zQ.length : Int) := of_decide_eq_true (by first | (with_reducible assumption) | assumption)
            obtain ⟨QX, pV, pK, V9, jm, jo, jr, jA, jB, jC, xP, jD, jE⟩ := qo (Kd.zn zm.out).2.2 zy kM kN
            obtain rfl : zJ = QX := (by injection V9)
            obtain ⟨dV, Xk, Xy, pY⟩ := Kd.xB zm.out z53 zy kM (by first | exact kN | exact of_decide_eq_true (by first | (with_reducible assumption) | assumption) | (have e_ := (Kd.zn zm.out).1; omega))
            obtain ⟨JV, rfl, vU⟩ := qJ Xy
            have qP := pY 6 _ rfl
            rw [zB _ _ 6 (by omega)] at qP
            replace qP := Option.some.inj (qP.symm.trans xP)
            rw [qP] at vU
            have yT := zx.mk (show Kd.R (Kd.int .i64) 3 _ _ _ _ ((zw zQ zy).f6) from vU)
            clear qP vU pY Xk
            have yU := zx.mk jE
            have JK := zx.mk jD
            clear jE jD
            replace kM := eq_true kM
            replace kN := eq_true kN
            have kP : 0 ≤ (((zw zQ zy).f2) : Int) := of_decide_eq_true (by first | (with_reducible assumption) | assumption)
            have kR : ((zw zQ zy).f2) < (zi.length : Int) := of_decide_eq_true (by first | (with_reducible assumption) | assumption)
            obtain ⟨qX, pW, pE, pF, pG, pI, pO, Uz, jF, jG, jH, uz, uq, uj, jI, jL, jM, jN, jO, jP⟩ := Yv (Kd.zn yK.out).2.2 ((zw zQ zy).f2) kP kR
            cases Uz
            obtain ⟨dK, Xw, XZ, vO⟩ := Kd.xB yK.out z60 ((zw zQ zy).f2) kP (by first | exact kR | exact of_decide_eq_true (by first | (with_reducible assumption) | assumption) | (have e_ := (Kd.zn yK.out).1; omega))
            obtain ⟨JY, JW, Ja, rfl, uy, uw, uZ⟩ := Yu XZ
            have qR := vO 3 _ rfl
            rw [zB _ _ 3 (by omega)] at qR
            replace qR := Option.some.inj (qR.symm.trans uz)
            rw [qR] at uy
            have y7 := zx.mk (show Kd.R qH 105 _ _ _ _ ((zK zi ((zw zQ zy).f2)).f3) from uy)
            clear qR uy
            have qU := vO 4 _ rfl
            rw [zB _ _ 4 (by omega)] at qU
            replace qU := Option.some.inj (qU.symm.trans uq)
            rw [qU] at uw
            have y8 := zx.mk (show Kd.R vw 108 _ _ _ _ ((zK zi ((zw zQ zy).f2)).f4) from uw)
            clear qU uw
            have q8 := vO 5 _ rfl
            rw [zB _ _ 5 (by omega)] at q8
            replace q8 := Option.some.inj (q8.symm.trans uj)
            rw [q8] at uZ
            have y9 := zx.mk (show Kd.R vC 111 _ _ _ _ ((zK zi ((zw zQ zy).f2)).f5) from uZ)
            clear q8 uZ vO Xw
            have yE := zx.mk jL
            have Z6 := zx.mk jI
            clear jL jI
            have yF := zx.mk jN
            have Z7 := zx.mk jM
            clear jN jM
            have yG := zx.mk jP
            have Z8 := zx.mk jO
            clear jP jO
            replace kP := eq_true kP
            replace kR := eq_true kR
            have kS : 0 ≤ (zy : Int) := of_decide_eq_true (by first | (with_reducible assumption) | assumption)
            have kT : zy < (zQ.length : Int) := of_decide_eq_true (by first | (with_reducible assumption) | assumption)
            obtain ⟨QJ, Wx, Wj, Uq, jR, jS, jT, jU, j3, j4, xR, j5, j6⟩ := qo (Kd.zn zm.out).2.2 zy kS kT
            obtain rfl : zJ = QJ := (by injection Uq)
            obtain ⟨dY, XQ, XJ, pR⟩ := Kd.xB zm.out z53 zy kS (by first | exact kT | exact of_decide_eq_true (by first | (with_reducible assumption) | assumption) | (have e_ := (Kd.zn zm.out).1; omega))
            obtain ⟨Jb, rfl, uQ⟩ := qJ XJ
            have q9 := pR 6 _ rfl
            rw [zB _ _ 6 (by omega)] at q9
            replace q9 := Option.some.inj (q9.symm.trans xR)
            rw [q9] at uQ
            have qz := zx.mk (show Kd.R (Kd.int .i64) 3 _ _ _ _ ((zw zQ zy).f6) from uQ)
            clear q9 uQ pR XQ
            have qx := zx.mk j6
            have Jc := zx.mk j5
            clear j6 j5
            replace kS := eq_true kS
            replace kT := eq_true kT
            have uh := Option.some.inj (xP.symm.trans xR)
            injection uh with uh YZ YQ
            subst uh
            subst YQ
            clear YZ
            refine jw (n := 21) (S := fun w' => w'.cell? ⟨yV, 0, none⟩ = some (.int .i64 (wrap64 (Int.tmod (IntKind.u64.wrap (yN)) 5))) ∧ w'.cell? ⟨yV, 1, none⟩ = some (.int .i64 (wrap64 (1 + (wrap64 (Int.tmod (IntKind.u64.wrap (yX)) 1000))))) ∧ w'.cell? ⟨yV, 2, none⟩ = some (.bool yP) ∧ w'.cell? ⟨yV, 3, none⟩ = some (.bool yO) ∧ w'.cell? (zJ.add ((zy).toNat * 7)) = some (.int .i64 ((zw zQ zy).f0)) ∧ w'.cell? ⟨(zJ.add ((zy).toNat * 7)).block, (zJ.add ((zy).toNat * 7)).off + 1, none⟩ = some (.int .i64 ((zw zQ zy).f1)) ∧ w'.cell? ⟨(zJ.add ((zy).toNat * 7)).block, (zJ.add ((zy).toNat * 7)).off + 2, none⟩ = some (.int .i64 ((zw zQ zy).f2)) ∧ w'.cell? ⟨(zJ.add ((zy).toNat * 7)).block, (zJ.add ((zy).toNat * 7)).off + 3, none⟩ = some (.int .i64 ((zw zQ zy).f3)) ∧ w'.cell? ⟨(zJ.add ((zy).toNat * 7)).block, (zJ.add ((zy).toNat * 7)).off + 4, none⟩ = some (.string ((zw zQ zy).f4)) ∧ w'.cell? ⟨(zJ.add ((zy).toNat * 7)).block, (zJ.add ((zy).toNat * 7)).off + 5, none⟩ = some (.string ((zw zQ zy).f5)) ∧ w'.cell? ⟨(zJ.add ((zy).toNat * 7)).block, (zJ.add ((zy).toNat * 7)).off + 6, none⟩ = some (.slice pV ((zw zQ zy).f6).length pK) ∧ w'.cell? (qX.add ((((zw zQ zy).f2)).toNat * 6)) = some (.string ((zK zi ((zw zQ zy).f2)).f0)) ∧ w'.cell? ⟨(qX.add ((((zw zQ zy).f2)).toNat * 6)).block, (qX.add ((((zw zQ zy).f2)).toNat * 6)).off + 1, none⟩ = some (.bool ((zK zi ((zw zQ zy).f2)).f1)) ∧ w'.cell? ⟨(qX.add ((((zw zQ zy).f2)).toNat * 6)).block, (qX.add ((((zw zQ zy).f2)).toNat * 6)).off + 2, none⟩ = some (.int .i64 ((zK zi ((zw zQ zy).f2)).f2)) ∧ w'.cell? ⟨(qX.add ((((zw zQ zy).f2)).toNat * 6)).block, (qX.add ((((zw zQ zy).f2)).toNat * 6)).off + 3, none⟩ = some (.slice pW ((zK zi ((zw zQ zy).f2)).f3).length pE) ∧ w'.cell? ⟨(qX.add ((((zw zQ zy).f2)).toNat * 6)).block, (qX.add ((((zw zQ zy).f2)).toNat * 6)).off + 4, none⟩ = some (.slice pF ((zK zi ((zw zQ zy).f2)).f4).length pG) ∧ w'.cell? ⟨(qX.add ((((zw zQ zy).f2)).toNat * 6)).block, (qX.add ((((zw zQ zy).f2)).toNat * 6)).off + 5, none⟩ = some (.slice pI ((zK zi ((zw zQ zy).f2)).f5).length pO) ∧ w'.cell? (zJ.add ((zy).toNat * 7)) = some (.int .i64 ((zw zQ zy).f0)) ∧ w'.cell? ⟨(zJ.add ((zy).toNat * 7)).block, (zJ.add ((zy).toNat * 7)).off + 1, none⟩ = some (.int .i64 ((zw zQ zy).f1)) ∧ w'.cell? ⟨(zJ.add ((zy).toNat * 7)).block, (zJ.add ((zy).toNat * 7)).off + 2, none⟩ = some (.int .i64 ((zw zQ zy).f2)) ∧ w'.cell? ⟨(zJ.add ((zy).toNat * 7)).block, (zJ.add ((zy).toNat * 7)).off + 3, none⟩ = some (.int .i64 ((zw zQ zy).f3)) ∧ w'.cell? ⟨(zJ.add ((zy).toNat * 7)).block, (zJ.add ((zy).toNat * 7)).off + 4, none⟩ = some (.string ((zw zQ zy).f4)) ∧ w'.cell? ⟨(zJ.add ((zy).toNat * 7)).block, (zJ.add ((zy).toNat * 7)).off + 5, none⟩ = some (.string ((zw zQ zy).f5)) ∧ w'.cell? ⟨(zJ.add ((zy).toNat * 7)).block, (zJ.add ((zy).toNat * 7)).off + 6, none⟩ = some (.slice pV ((zw zQ zy).f6).length pK)) (ds := []) #[false, false, false, false, false, false, false, false, false, false, false, false, false, false, false, false, false, false, false, false, false] (by kernel_rfl) rfl rfl ⟨(zZ zW.out 0).trans rfl, (zZ zW.out 1).trans rfl, (zZ zW.out 2).trans rfl, (zZ zW.out 3).trans rfl, jm, jo, jr, jA, jB, jC, xP, jF, jG, jH, uz, uq, uj, jR, jS, jT, jU, j3, j4, xR⟩ (fun hHeld => ?_); refine uP zX.KN zX.Ut (fun zY vL => ?_)
            generalize wr.drew = w65 at yK zm yQ zW zG HB yT y7 y8 y9 qz yU yE yF yG qx jm jo jr jA jB jC xP jF jG jH uz uq uj jR jS jT jU j3 j4 xR hHeld ⊢
            refine zA 0 (some 117) zY ?_
            refine zA 1 (some 118) zY ?_
            refine zA 2 (some 119) zY ?_
            refine zA 3 (some 120) zY ?_
            refine zA 4 (some 121) zY ?_
            refine zA 8 (some 125) zY ?_
            refine zA 9 (some 126) zY ?_
            refine zA 10 (some 127) zY ?_
            refine zA 11 (some 128) zY ?_
            refine zA 13 (some 130) zY ?_
            refine jZ 5 (some 122) zY vL hHeld ?_
            refine zA 6 (some 123) zY ?_
            refine jZ 7 (some 124) zY vL hHeld ?_
            refine jZ 12 (some 129) zY vL hHeld ?_
            refine jZ 14 (some 131) zY vL hHeld ?_
            refine Jm 15 (some 132) zY (fun K hK => ?_)
            refine YP Tryz.func22 (by kernel_rfl) rfl #[.agg #[.string ((zK zi ((zw zQ zy).f2)).f0), .bool ((zK zi ((zw zQ zy).f2)).f1), .int .i64 ((zK zi ((zw zQ zy).f2)).f2), .slice pW ((zK zi ((zw zQ zy).f2)).f3).length pE, .slice pF ((zK zi ((zw zQ zy).f2)).f4).length pG, .slice pI ((zK zi ((zw zQ zy).f2)).f5).length pO], .string ((zw zQ zy).f4), .int .i64 (wrap64 (1 + (wrap64 (Int.tmod (IntKind.u64.wrap (yX)) 1000))))] (by rfl) rfl rfl (by (try simp only [List.map_toArray, List.map_cons, List.map_nil]); first | done | rfl | (simp only [List.length_drop, List.length_take]; rfl)) ?_
            with_reducible refine (uI.calls ((zK zi ((zw zQ zy).f2)).f0) ((zK zi ((zw zQ zy).f2)).f1) ((zK zi ((zw zQ zy).f2)).f2) _ _ ((zK zi ((zw zQ zy).f2)).f3) _ _ ((zK zi ((zw zQ zy).f2)).f4) _ _ ((zK zi ((zw zQ zy).f2)).f5) ((zw zQ zy).f4) (wrap64 (1 + (wrap64 (Int.tmod (IntKind.u64.wrap (yX)) 1000)))) XF QC _ ?qw ?qI ?xX ?xJ ?xV ?xK ?xY A47.out).mono ?_
            (case qw => repeat (first | exact (vZ yE.out) | (with_reducible refine Kd.zD ?_ _) | (with_reducible refine Kd.zF ?_ _) | (with_reducible refine Kd.zo ?_)))
            (case qI => exact Z6.out)
            (case xX => repeat (first | exact (vZ yF.out) | (with_reducible refine Kd.zD ?_ _) | (with_reducible refine Kd.zF ?_ _) | (with_reducible refine Kd.zo ?_)))
            (case xJ => exact Z7.out)
            (case xV => repeat (first | exact (vZ yG.out) | (with_reducible refine Kd.zD ?_ _) | (with_reducible refine Kd.zF ?_ _) | (with_reducible refine Kd.zo ?_)))
            (case xK => exact Z8.out)
            (case xY => exact GW.under HG.out (zP HB.out))
            rintro e w66 ⟨rfl, hb⟩
            have Qr := (hb.cell (wb _ _ (hHeld.2.2.2.2.1))).trans (hHeld.2.2.2.2.1)
            have Qs := (hb.cell (wb _ _ (hHeld.2.2.2.2.2.1))).trans (hHeld.2.2.2.2.2.1)
            have Qt := (hb.cell (wb _ _ (hHeld.2.2.2.2.2.2.1))).trans (hHeld.2.2.2.2.2.2.1)
            have Qu := (hb.cell (wb _ _ (hHeld.2.2.2.2.2.2.2.1))).trans (hHeld.2.2.2.2.2.2.2.1)
            have QA := (hb.cell (wb _ _ (hHeld.2.2.2.2.2.2.2.2.1))).trans (hHeld.2.2.2.2.2.2.2.2.1)
            have QB := (hb.cell (wb _ _ (hHeld.2.2.2.2.2.2.2.2.2.1))).trans (hHeld.2.2.2.2.2.2.2.2.2.1)
            have Y1 := (hb.cell (wb _ _ (hHeld.2.2.2.2.2.2.2.2.2.2.1))).trans (hHeld.2.2.2.2.2.2.2.2.2.2.1)
            have Y2 := (hb.cell (wb _ _ (hHeld.2.2.2.2.2.2.2.2.2.2.2.1))).trans (hHeld.2.2.2.2.2.2.2.2.2.2.2.1)
            have Y3 := (hb.cell (wb _ _ (hHeld.2.2.2.2.2.2.2.2.2.2.2.2.1))).trans (hHeld.2.2.2.2.2.2.2.2.2.2.2.2.1)
            have Y4 := (hb.cell (wb _ _ (hHeld.2.2.2.2.2.2.2.2.2.2.2.2.2.1))).trans (hHeld.2.2.2.2.2.2.2.2.2.2.2.2.2.1)
            have Y5 := (hb.cell (wb _ _ (hHeld.2.2.2.2.2.2.2.2.2.2.2.2.2.2.1))).trans (hHeld.2.2.2.2.2.2.2.2.2.2.2.2.2.2.1)
            have Y6 := (hb.cell (wb _ _ (hHeld.2.2.2.2.2.2.2.2.2.2.2.2.2.2.2.1))).trans (hHeld.2.2.2.2.2.2.2.2.2.2.2.2.2.2.2.1)
            have Y7 := (hb.cell (wb _ _ (hHeld.2.2.2.2.2.2.2.2.2.2.2.2.2.2.2.2.1))).trans (hHeld.2.2.2.2.2.2.2.2.2.2.2.2.2.2.2.2.1)
            have Y8 := (hb.cell (wb _ _ (hHeld.2.2.2.2.2.2.2.2.2.2.2.2.2.2.2.2.2.1))).trans (hHeld.2.2.2.2.2.2.2.2.2.2.2.2.2.2.2.2.2.1)
            have Y9 := (hb.cell (wb _ _ (hHeld.2.2.2.2.2.2.2.2.2.2.2.2.2.2.2.2.2.2.1))).trans (hHeld.2.2.2.2.2.2.2.2.2.2.2.2.2.2.2.2.2.2.1)
            have Xz := (hb.cell (wb _ _ (hHeld.2.2.2.2.2.2.2.2.2.2.2.2.2.2.2.2.2.2.2.1))).trans (hHeld.2.2.2.2.2.2.2.2.2.2.2.2.2.2.2.2.2.2.2.1)
            have Xq := (hb.cell (wb _ _ (hHeld.2.2.2.2.2.2.2.2.2.2.2.2.2.2.2.2.2.2.2.2.1))).trans (hHeld.2.2.2.2.2.2.2.2.2.2.2.2.2.2.2.2.2.2.2.2.1)
            have Xx := (hb.cell (wb _ _ (hHeld.2.2.2.2.2.2.2.2.2.2.2.2.2.2.2.2.2.2.2.2.2.1))).trans (hHeld.2.2.2.2.2.2.2.2.2.2.2.2.2.2.2.2.2.2.2.2.2.1)
            have Xj := (hb.cell (wb _ _ (hHeld.2.2.2.2.2.2.2.2.2.2.2.2.2.2.2.2.2.2.2.2.2.2.1))).trans (hHeld.2.2.2.2.2.2.2.2.2.2.2.2.2.2.2.2.2.2.2.2.2.2.1)
            have Xv := (hb.cell (wb _ _ (hHeld.2.2.2.2.2.2.2.2.2.2.2.2.2.2.2.2.2.2.2.2.2.2.2))).trans (hHeld.2.2.2.2.2.2.2.2.2.2.2.2.2.2.2.2.2.2.2.2.2.2.2)
            refine ⟨_, rfl, ?_⟩
            have zf := zx.mk (Kd.qg (Zr yK.out) hb)
            have zl := zx.mk (Kd.qg (Zr zm.out) hb)
            have zu := zx.mk (Kd.yY (vI yQ.out) hb)
            have zH := zx.mk (Kd.yY (vI yT.out) hb)
            have qV := zx.mk (Kd.yY (vI y7.out) hb)
            have xD := zx.mk (Kd.yY (vI y8.out) hb)
            have wX := zx.mk (Kd.yY (vI y9.out) hb)
            have wJ := zx.mk (Kd.yY (vI qz.out) hb)
            have wV := zx.mk (zN (g := yV) (o := .cells #[.int .i64 (wrap64 (Int.tmod (IntKind.u64.wrap (yN)) 5)), .int .i64 (wrap64 (1 + (wrap64 (Int.tmod (IntKind.u64.wrap (yX)) 1000)))), .bool yP, .bool yO] 26 (0, 0)) (ji zW.out) hb)
            have wK := zx.mk (Kd.zh (vZ zG.out) hb)
            have um := zx.mk (Kd.zh (vZ yU.out) hb)
            have uo := zx.mk (Kd.zh (vZ yE.out) hb)
            have uD := zx.mk (Kd.zh (vZ yF.out) hb)
            have uE := zx.mk (Kd.zh (vZ yG.out) hb)
            have uF := zx.mk (Kd.zh (vZ qx.out) hb)
            have uG := zx.mk (zL (zP HB.out) hb)
            clear yK zm yQ yT y7 y8 y9 qz zW zG yU yE yF yG qx HB
            have yK := zf
            have zm := zl
            have yQ := zu
            have yT := zH
            have y7 := qV
            have y8 := xD
            have y9 := wX
            have qz := wJ
            have zW := wV
            have zG := wK
            have yU := um
            have yE := uo
            have yF := uD
            have yG := uE
            have qx := uF
            have HB := uG
            clear zf zl zu zH qV xD wX wJ wV wK um uo uD uE uF uG
            (try clear hb)
            (try clear hb2)
            (try clear hk)
            (try clear hi)
            refine hK.out _ _ ⟨(zZ zW.out 0).trans rfl, (zZ zW.out 1).trans rfl, (zZ zW.out 2).trans rfl, (zZ zW.out 3).trans rfl, Qr, Qs, Qt, Qu, QA, QB, Y1, Y2, Y3, Y4, Y5, Y6, Y7, Y8, Y9, Xz, Xq, Xx, Xj, Xv⟩ (fun hHeld => ?_)
            clear hK K
            refine Jl (some 132) ?_
            refine zA 16 (some 116) zY ?_
            refine zA 17 (some 133) zY ?_
            refine zA 18 (some 134) zY ?_
            refine zA 19 (some 13) zY ?_
            refine zA 20 (some 14) zY ?_
            refine jk (xM zY.out (by kernel_rfl)) ?_
            try go_wp2
            have zf := zx.mk (Kd.qj yK.out)
            have zl := zx.mk (Kd.qj zm.out)
            have zu := zx.mk (Kd.qm yQ.out)
            have zH := zx.mk (Kd.qm yT.out)
            have qV := zx.mk (Kd.qm y7.out)
            have xD := zx.mk (Kd.qm y8.out)
            have wX := zx.mk (Kd.qm y9.out)
            have wJ := zx.mk (Kd.qm qz.out)
            have wV := zx.mk (xZ zW.out)
            have wK := zx.mk (Kd.zo zG.out)
            have um := zx.mk (Kd.zo yU.out)
            have uo := zx.mk (Kd.zo yE.out)
            have uD := zx.mk (Kd.zo yF.out)
            have uE := zx.mk (Kd.zo yG.out)
            have uF := zx.mk (Kd.zo qx.out)
            have uG := zx.mk (yx HB.out)
            clear yK zm yQ yT y7 y8 y9 qz zW zG yU yE yF yG qx HB
            have yK := zf
            have zm := zl
            have yQ := zu
            have yT := zH
            have y7 := qV
            have y8 := xD
            have y9 := wX
            have qz := wJ
            have zW := wV
            have zG := wK
            have yU := um
            have yE := uo
            have yF := uD
            have yG := uE
            have qx := uF
            have HB := uG
            clear zf zl zu zH qV xD wX wJ wV wK um uo uD uE uF uG
            have kU : 0 ≤ (zy : Int) := of_decide_eq_true (by first | (with_reducible assumption) | assumption)
            have wz : zy < (zQ.length : Int) := of_decide_eq_true (by first | (with_reducible assumption) | assumption)
            obtain ⟨QV, pU, p8, Ux, kZ, kQ, kX, kJ, kV, kK, xS, kY, kW⟩ := qo (Kd.zn zm.out).2.2 zy kU wz
            obtain rfl : zJ = QV := (by injection Ux)
            obtain ⟨dW, XV, XK, p9⟩ := Kd.xB zm.out z53 zy kU (by first | exact wz | exact of_decide_eq_true (by first | (with_reducible assumption) | assumption) | (have e_ := (Kd.zn zm.out).1; omega))
            obtain ⟨Jd, rfl, uX⟩ := qJ XK
            have xq := p9 6 _ rfl
            rw [zB _ _ 6 (by omega)] at xq
            replace xq := Option.some.inj (xq.symm.trans xS)
            rw [xq] at uX
            have Z9 := zx.mk (show Kd.R (Kd.int .i64) 3 _ _ _ _ ((zw zQ zy).f6) from uX)
            clear xq uX p9 XV
            have Yz := zx.mk kW
            have Je := zx.mk kY
            clear kW kY
            replace kU := eq_true kU
            replace wz := eq_true wz
            refine jw (n := 29) (S := fun w' => w'.cell? (zJ.add ((zy).toNat * 7)) = some (.int .i64 ((zw zQ zy).f0)) ∧ w'.cell? ⟨(zJ.add ((zy).toNat * 7)).block, (zJ.add ((zy).toNat * 7)).off + 1, none⟩ = some (.int .i64 ((zw zQ zy).f1)) ∧ w'.cell? ⟨(zJ.add ((zy).toNat * 7)).block, (zJ.add ((zy).toNat * 7)).off + 2, none⟩ = some (.int .i64 ((zw zQ zy).f2)) ∧ w'.cell? ⟨(zJ.add ((zy).toNat * 7)).block, (zJ.add ((zy).toNat * 7)).off + 3, none⟩ = some (.int .i64 ((zw zQ zy).f3)) ∧ w'.cell? ⟨(zJ.add ((zy).toNat * 7)).block, (zJ.add ((zy).toNat * 7)).off + 4, none⟩ = some (.string ((zw zQ zy).f4)) ∧ w'.cell? ⟨(zJ.add ((zy).toNat * 7)).block, (zJ.add ((zy).toNat * 7)).off + 5, none⟩ = some (.string ((zw zQ zy).f5)) ∧ w'.cell? ⟨(zJ.add ((zy).toNat * 7)).block, (zJ.add ((zy).toNat * 7)).off + 6, none⟩ = some (.slice pU ((zw zQ zy).f6).length p8)) (ds := []) #[false, false, false, false, false, false, false, false, false, false, false, false, false, false, false, false, false, false, false, false, false, false, false, false, false, false, false, false, false] (by kernel_rfl) rfl rfl ⟨kZ, kQ, kX, kJ, kV, kK, xS⟩ (fun hHeld => ?_); refine uP zX.KO zX.Uu (fun zY vL => ?_)
            generalize w66.drew = w67 at yK zm yQ yT y7 y8 y9 qz zW zG yU yE yF yG qx HB Z9 Yz kZ kQ kX kJ kV kK xS hHeld ⊢
            refine zA 0 (some 135) zY ?_
            refine zA 1 (some 136) zY ?_
            refine zA 2 (some 137) zY ?_
            refine zA 3 (some 138) zY ?_
            refine jZ 4 (some 139) zY vL hHeld ?_
            refine zA 5 (some 140) zY ?_
            refine zA 6 (some 141) zY ?_
            refine zA 7 (some 142) zY ?_
            refine zA 8 (some 143) zY ?_
            refine zA 9 (some 144) zY ?_
            refine zA 10 (some 145) zY ?_
            refine yL (i := 11) (N := some 146) (v := undef) (a' := ?_) #[true, true, true, true, true, true, true, true, true, true, true, true, false, false, false, false, false, false, false, false, false, false, false, false, false, false, false, false, false] rfl rfl (yJ zY.out (by kernel_rfl)) (fun _ _ _ h => h) (Or.inr ⟨by rfl, rfl⟩) ?_ ?_
            rotate_left
            ·simp only [Act.put, List.setIfInBounds_toArray, List.set_cons_zero, List.set_cons_succ, qW, qd]
             rfl
            refine yL (i := 12) (N := some 147) (v := undef) (a' := ?_) #[true, true, true, true, true, true, true, true, true, true, true, true, true, false, false, false, false, false, false, false, false, false, false, false, false, false, false, false, false] rfl rfl (yJ zY.out (by kernel_rfl)) (fun _ _ _ h => h) (Or.inr ⟨by rfl, rfl⟩) ?_ ?_
            rotate_left
            ·simp only [Act.put, List.setIfInBounds_toArray, List.set_cons_zero, List.set_cons_succ, qW, qd]
             rfl
            refine yL (i := 13) (N := some 148) (v := undef) (a' := ?_) #[true, true, true, true, true, true, true, true, true, true, true, true, true, true, false, false, false, false, false, false, false, false, false, false, false, false, false, false, false] rfl rfl (yJ zY.out (by kernel_rfl)) (fun _ _ _ h => h) (Or.inr ⟨by rfl, rfl⟩) ?_ ?_
            rotate_left
            ·simp only [Act.put, List.setIfInBounds_toArray, List.set_cons_zero, List.set_cons_succ, qW, qd]
             rfl
            refine yL (i := 14) (N := some 149) (v := undef) (a' := ?_) #[true, true, true, true, true, true, true, true, true, true, true, true, true, true, true, false, false, false, false, false, false, false, false, false, false, false, false, false, false] rfl rfl (yJ zY.out (by kernel_rfl)) (fun _ _ _ h => h) (Or.inr ⟨by rfl, rfl⟩) ?_ ?_
            rotate_left
            ·simp only [Act.put, List.setIfInBounds_toArray, List.set_cons_zero, List.set_cons_succ, qW, qd]
             rfl
            refine yL (i := 15) (N := some 150) (v := undef) (a' := ?_) #[true, true, true, true, true, true, true, true, true, true, true, true, true, true, true, true, false, false, false, false, false, false, false, false, false, false, false, false, false] rfl rfl (yJ zY.out (by kernel_rfl)) (fun _ _ _ h => h) (Or.inr ⟨by rfl, rfl⟩) ?_ ?_
            rotate_left
            ·simp only [Act.put, List.setIfInBounds_toArray, List.set_cons_zero, List.set_cons_succ, qW, qd]
             rfl
            refine yL (i := 16) (N := some 151) (v := undef) (a' := ?_) #[true, true, true, true, true, true, true, true, true, true, true, true, true, true, true, true, true, false, false, false, false, false, false, false, false, false, false, false, false] rfl rfl (yJ zY.out (by kernel_rfl)) (fun _ _ _ h => h) (Or.inr ⟨by rfl, rfl⟩) ?_ ?_
            rotate_left
            ·simp only [Act.put, List.setIfInBounds_toArray, List.set_cons_zero, List.set_cons_succ, qW, qd]
             rfl
            refine yL (i := 17) (N := some 152) (v := undef) (a' := ?_) #[true, true, true, true, true, true, true, true, true, true, true, true, true, true, true, true, true, true, false, false, false, false, false, false, false, false, false, false, false] rfl rfl (yJ zY.out (by kernel_rfl)) (fun _ _ _ h => h) (Or.inr ⟨by rfl, rfl⟩) ?_ ?_
            rotate_left
            ·simp only [Act.put, List.setIfInBounds_toArray, List.set_cons_zero, List.set_cons_succ, qW, qd]
             rfl
            refine zA 18 (some 153) zY ?_
            refine zA 19 (some 154) zY ?_
            refine yL (i := 20) (N := some 155) (v := undef) (a' := ?_) #[true, true, true, true, true, true, true, true, true, true, true, true, true, true, true, true, true, true, true, true, true, false, false, false, false, false, false, false, false] rfl rfl (yJ zY.out (by kernel_rfl)) (fun _ _ _ h => h) (Or.inr ⟨by rfl, rfl⟩) ?_ ?_
            rotate_left
            ·simp only [Act.put, List.setIfInBounds_toArray, List.set_cons_zero, List.set_cons_succ, qW, qd]
             rfl
            refine yL (i := 21) (N := some 156) (v := undef) (a' := ?_) #[true, true, true, true, true, true, true, true, true, true, true, true, true, true, true, true, true, true, true, true, true, true, false, false, false, false, false, false, false] rfl rfl (yJ zY.out (by kernel_rfl)) (fun _ _ _ h => h) (Or.inr ⟨by rfl, rfl⟩) ?_ ?_
            rotate_left
            ·simp only [Act.put, List.setIfInBounds_toArray, List.set_cons_zero, List.set_cons_succ, qW, qd]
             rfl
            refine yL (i := 22) (N := some 157) (v := undef) (a' := ?_) #[true, true, true, true, true, true, true, true, true, true, true, true, true, true, true, true, true, true, true, true, true, true, true, false, false, false, false, false, false] rfl rfl (yJ zY.out (by kernel_rfl)) (fun _ _ _ h => h) (Or.inr ⟨by rfl, rfl⟩) ?_ ?_
            rotate_left
            ·simp only [Act.put, List.setIfInBounds_toArray, List.set_cons_zero, List.set_cons_succ, qW, qd]
             rfl
            refine yL (i := 23) (N := some 158) (v := undef) (a' := ?_) #[true, true, true, true, true, true, true, true, true, true, true, true, true, true, true, true, true, true, true, true, true, true, true, true, false, false, false, false, false] rfl rfl (yJ zY.out (by kernel_rfl)) (fun _ _ _ h => h) (Or.inr ⟨by rfl, rfl⟩) ?_ ?_
            rotate_left
            ·simp only [Act.put, List.setIfInBounds_toArray, List.set_cons_zero, List.set_cons_succ, qW, qd]
             rfl
            refine yL (i := 24) (N := some 159) (v := undef) (a' := ?_) #[true, true, true, true, true, true, true, true, true, true, true, true, true, true, true, true, true, true, true, true, true, true, true, true, true, false, false, false, false] rfl rfl (yJ zY.out (by kernel_rfl)) (fun _ _ _ h => h) (Or.inr ⟨by rfl, rfl⟩) ?_ ?_
            rotate_left
            ·simp only [Act.put, List.setIfInBounds_toArray, List.set_cons_zero, List.set_cons_succ, qW, qd]
             rfl
            refine yL (i := 25) (N := some 160) (v := undef) (a' := ?_) #[true, true, true, true, true, true, true, true, true, true, true, true, true, true, true, true, true, true, true, true, true, true, true, true, true, true, false, false, false] rfl rfl (yJ zY.out (by kernel_rfl)) (fun _ _ _ h => h) (Or.inr ⟨by rfl, rfl⟩) ?_ ?_
            rotate_left
            ·simp only [Act.put, List.setIfInBounds_toArray, List.set_cons_zero, List.set_cons_succ, qW, qd]
             rfl
            refine yL (i := 26) (N := some 161) (v := undef) (a' := ?_) #[true, true, true, true, true, true, true, true, true, true, true, true, true, true, true, true, true, true, true, true, true, true, true, true, true, true, true, false, false] rfl rfl (yJ zY.out (by kernel_rfl)) (fun _ _ _ h => h) (Or.inr ⟨by rfl, rfl⟩) ?_ ?_
            rotate_left
            ·simp only [Act.put, List.setIfInBounds_toArray, List.set_cons_zero, List.set_cons_succ, qW, qd]
             rfl
            refine yL (i := 27) (N := some 162) (v := undef) (a' := ?_) #[true, true, true, true, true, true, true, true, true, true, true, true, true, true, true, true, true, true, true, true, true, true, true, true, true, true, true, true, false] rfl rfl (yJ zY.out (by kernel_rfl)) (fun _ _ _ h => h) (Or.inr ⟨by rfl, rfl⟩) ?_ ?_
            rotate_left
            ·simp only [Act.put, List.setIfInBounds_toArray, List.set_cons_zero, List.set_cons_succ, qW, qd]
             rfl
            refine zA 28 (some 163) zY ?_
            refine jk (xM zY.out (by kernel_rfl)) ?_
            try go_wp2
            go_ret
            exact ⟨by first | rfl | (simp [zR, zS] <;> rfl) | (simp [*, zR, zS] <;> rfl), by repeat (first | (with_reducible first | exact HB.out | apply yA | apply yZ | apply yx | refine xL ?_ Yf.out) | exact HB.out)⟩
          ·rw [if_neg sQ] at H
           have zyP : (((zw zQ zy).f0) == 0) = false := beq_eq_false_iff_ne.mpr sQ
           have zyR : (((zw zQ zy).f0) != 0) = true := bne_iff_ne.mpr sQ
           obtain rfl := Option.some.inj H
           obtain ⟨zVe, zVf, zZL⟩ := Kd.jY zm.out
           subst zZL
           have uM : 0 ≤ (zy : Int) := of_decide_eq_true (by first | (with_reducible assumption) | assumption)
           have uN : zy < (zQ.length : Int) := of_decide_eq_true (by first | (with_reducible assumption) | assumption)
           obtain ⟨zJ, Qo, UE, Qp, Xr, Xt, Xu, XA, XB, XC, wh, uT, uU⟩ := qo (Kd.zn zm.out).2.2 zy uM uN
           cases Qp
           obtain ⟨KR, ZM, ZN, jh⟩ := Kd.xB zm.out z53 zy uM (by first | exact uN | exact of_decide_eq_true (by first | (with_reducible assumption) | assumption) | (have e_ := (Kd.zn zm.out).1; omega))
           obtain ⟨Va, rfl, vB⟩ := qJ ZN
           have qh := jh 6 _ rfl
           rw [zB _ _ 6 (by omega)] at qh
           replace qh := Option.some.inj (qh.symm.trans wh)
           rw [qh] at vB
           have yQ := zx.mk (show Kd.R (Kd.int .i64) 3 _ _ _ _ ((zw zQ zy).f6) from vB)
           clear qh vB jh ZM
           have zG := zx.mk uU
           have Vb := zx.mk uT
           clear uU uT
           replace uM := eq_true uM
           replace uN := eq_true uN
           try go_wp2
           have zf := zx.mk (Kd.qj yK.out)
           have zl := zx.mk (Kd.qj zm.out)
           have zu := zx.mk (Kd.qm yQ.out)
           have zH := zx.mk (xZ zW.out)
           have qV := zx.mk (Kd.zo zG.out)
           have xD := zx.mk (yx HB.out)
           clear yK zm yQ zW zG HB
           have yK := zf
           have zm := zl
           have yQ := zu
           have zW := zH
           have zG := qV
           have HB := xD
           clear zf zl zu zH qV xD
           have kM : 0 ≤ (zy : Int) := of_decide_eq_true (by first | (with_reducible assumption) | assumption)
           have kN : zy < (zQ.length : Int) := of_decide_eq_true (by first | (with_reducible assumption) | assumption)
           obtain ⟨QX, pV, pK, V9, jm, jo, jr, jA, jB, jC, xP, jD, jE⟩ := qo (Kd.zn zm.out).2.2 zy kM kN
           obtain rfl : zJ = QX := (by injection V9)
           obtain ⟨dV, Xk, Xy, pY⟩ := Kd.xB zm.out z53 zy kM (by first | exact kN | exact of_decide_eq_true (by first | (with_reducible assumption) | assumption) | (have e_ := (Kd.zn zm.out).1; omega))
           obtain ⟨JV, rfl, vU⟩ := qJ Xy
           have qP := pY 6 _ rfl
           rw [zB _ _ 6 (by omega)] at qP
           replace qP := Option.some.inj (qP.symm.trans xP)
           rw [qP] at vU
           have yT := zx.mk (show Kd.R (Kd.int .i64) 3 _ _ _ _ ((zw zQ zy).f6) from vU)
           clear qP vU pY Xk
           have yU := zx.mk jE
           have JK := zx.mk jD
           clear jE jD
           replace kM := eq_true kM
           replace kN := eq_true kN
           have kP : 0 ≤ (((zw zQ zy).f2) : Int) := of_decide_eq_true (by first | (with_reducible assumption) | assumption)
           have kR : ((zw zQ zy).f2) < (zi.length : Int) := of_decide_eq_true (by first | (with_reducible assumption) | assumption)
           obtain ⟨qX, pW, pE, pF, pG, pI, pO, Uz, jF, jG, jH, uz, uq, uj, jI, jL, jM, jN, jO, jP⟩ := Yv (Kd.zn yK.out).2.2 ((zw zQ zy).f2) kP kR
           cases Uz
           obtain ⟨dK, Xw, XZ, vO⟩ := Kd.xB yK.out z60 ((zw zQ zy).f2) kP (by first | exact kR | exact of_decide_eq_true (by first | (with_reducible assumption) | assumption) | (have e_ := (Kd.zn yK.out).1; omega))
           obtain ⟨JY, JW, Ja, rfl, uy, uw, uZ⟩ := Yu XZ
           have qR := vO 3 _ rfl
           rw [zB _ _ 3 (by omega)] at qR
           replace qR := Option.some.inj (qR.symm.trans uz)
           rw [qR] at uy
           have y7 := zx.mk (show Kd.R qH 105 _ _ _ _ ((zK zi ((zw zQ zy).f2)).f3) from uy)
           clear qR uy
           have qU := vO 4 _ rfl
           rw [zB _ _ 4 (by omega)] at qU
           replace qU := Option.some.inj (qU.symm.trans uq)
           rw [qU] at uw
           have y8 := zx.mk (show Kd.R vw 108 _ _ _ _ ((zK zi ((zw zQ zy).f2)).f4) from uw)
           clear qU uw
           have q8 := vO 5 _ rfl
           rw [zB _ _ 5 (by omega)] at q8
           replace q8 := Option.some.inj (q8.symm.trans uj)
           rw [q8] at uZ
           have y9 := zx.mk (show Kd.R vC 111 _ _ _ _ ((zK zi ((zw zQ zy).f2)).f5) from uZ)
           clear q8 uZ vO Xw
           have yE := zx.mk jL
           have Z6 := zx.mk jI
           clear jL jI
           have yF := zx.mk jN
           have Z7 := zx.mk jM
           clear jN jM
           have yG := zx.mk jP
           have Z8 := zx.mk jO
           clear jP jO
           replace kP := eq_true kP
           replace kR := eq_true kR
           have kS : 0 ≤ (zy : Int) := of_decide_eq_true (by first | (with_reducible assumption) | assumption)
           have kT : zy < (zQ.length : Int) := of_decide_eq_true (by first | (with_reducible assumption) | assumption)
           obtain ⟨QJ, Wx, Wj, Uq, jR, jS, jT, jU, j3, j4, xR, j5, j6⟩ := qo (Kd.zn zm.out).2.2 zy kS kT
           obtain rfl : zJ = QJ := (by injection Uq)
           obtain ⟨dY, XQ, XJ, pR⟩ := Kd.xB zm.out z53 zy kS (by first | exact kT | exact of_decide_eq_true (by first | (with_reducible assumption) | assumption) | (have e_ := (Kd.zn zm.out).1; omega))
           obtain ⟨Jb, rfl, uQ⟩ := qJ XJ
           have q9 := pR 6 _ rfl
           rw [zB _ _ 6 (by omega)] at q9
           replace q9 := Option.some.inj (q9.symm.trans xR)
           rw [q9] at uQ
           have qz := zx.mk (show Kd.R (Kd.int .i64) 3 _ _ _ _ ((zw zQ zy).f6) from uQ)
           clear q9 uQ pR XQ
           have qx := zx.mk j6
           have Jc := zx.mk j5
           clear j6 j5
           replace kS := eq_true kS
           replace kT := eq_true kT
           have uh := Option.some.inj (xP.symm.trans xR)
           injection uh with uh YZ YQ
           subst uh
           subst YQ
           clear YZ
           refine jw (n := 21) (S := fun w' => w'.cell? ⟨yV, 0, none⟩ = some (.int .i64 (wrap64 (Int.tmod (IntKind.u64.wrap (yN)) 5))) ∧ w'.cell? ⟨yV, 1, none⟩ = some (.int .i64 (wrap64 (1 + (wrap64 (Int.tmod (IntKind.u64.wrap (yX)) 1000))))) ∧ w'.cell? ⟨yV, 2, none⟩ = some (.bool yP) ∧ w'.cell? ⟨yV, 3, none⟩ = some (.bool yO) ∧ w'.cell? (zJ.add ((zy).toNat * 7)) = some (.int .i64 ((zw zQ zy).f0)) ∧ w'.cell? ⟨(zJ.add ((zy).toNat * 7)).block, (zJ.add ((zy).toNat * 7)).off + 1, none⟩ = some (.int .i64 ((zw zQ zy).f1)) ∧ w'.cell? ⟨(zJ.add ((zy).toNat * 7)).block, (zJ.add ((zy).toNat * 7)).off + 2, none⟩ = some (.int .i64 ((zw zQ zy).f2)) ∧ w'.cell? ⟨(zJ.add ((zy).toNat * 7)).block, (zJ.add ((zy).toNat * 7)).off + 3, none⟩ = some (.int .i64 ((zw zQ zy).f3)) ∧ w'.cell? ⟨(zJ.add ((zy).toNat * 7)).block, (zJ.add ((zy).toNat * 7)).off + 4, none⟩ = some (.string ((zw zQ zy).f4)) ∧ w'.cell? ⟨(zJ.add ((zy).toNat * 7)).block, (zJ.add ((zy).toNat * 7)).off + 5, none⟩ = some (.string ((zw zQ zy).f5)) ∧ w'.cell? ⟨(zJ.add ((zy).toNat * 7)).block, (zJ.add ((zy).toNat * 7)).off + 6, none⟩ = some (.slice pV ((zw zQ zy).f6).length pK) ∧ w'.cell? (qX.add ((((zw zQ zy).f2)).toNat * 6)) = some (.string ((zK zi ((zw zQ zy).f2)).f0)) ∧ w'.cell? ⟨(qX.add ((((zw zQ zy).f2)).toNat * 6)).block, (qX.add ((((zw zQ zy).f2)).toNat * 6)).off + 1, none⟩ = some (.bool ((zK zi ((zw zQ zy).f2)).f1)) ∧ w'.cell? ⟨(qX.add ((((zw zQ zy).f2)).toNat * 6)).block, (qX.add ((((zw zQ zy).f2)).toNat * 6)).off + 2, none⟩ = some (.int .i64 ((zK zi ((zw zQ zy).f2)).f2)) ∧ w'.cell? ⟨(qX.add ((((zw zQ zy).f2)).toNat * 6)).block, (qX.add ((((zw zQ zy).f2)).toNat * 6)).off + 3, none⟩ = some (.slice pW ((zK zi ((zw zQ zy).f2)).f3).length pE) ∧ w'.cell? ⟨(qX.add ((((zw zQ zy).f2)).toNat * 6)).block, (qX.add ((((zw zQ zy).f2)).toNat * 6)).off + 4, none⟩ = some (.slice pF ((zK zi ((zw zQ zy).f2)).f4).length pG) ∧ w'.cell? ⟨(qX.add ((((zw zQ zy).f2)).toNat * 6)).block, (qX.add ((((zw zQ zy).f2)).toNat * 6)).off + 5, none⟩ = some (.slice pI ((zK zi ((zw zQ zy).f2)).f5).length pO) ∧ w'.cell? (zJ.add ((zy).toNat * 7)) = some (.int .i64 ((zw zQ zy).f0)) ∧ w'.cell? ⟨(zJ.add ((zy).toNat * 7)).block, (zJ.add ((zy).toNat * 7)).off + 1, none⟩ = some (.int .i64 ((zw zQ zy).f1)) ∧ w'.cell? ⟨(zJ.add ((zy).toNat * 7)).block, (zJ.add ((zy).toNat * 7)).off + 2, none⟩ = some (.int .i64 ((zw zQ zy).f2)) ∧ w'.cell? ⟨(zJ.add ((zy).toNat * 7)).block, (zJ.add ((zy).toNat * 7)).off + 3, none⟩ = some (.int .i64 ((zw zQ zy).f3)) ∧ w'.cell? ⟨(zJ.add ((zy).toNat * 7)).block, (zJ.add ((zy).toNat * 7)).off + 4, none⟩ = some (.string ((zw zQ zy).f4)) ∧ w'.cell? ⟨(zJ.add ((zy).toNat * 7)).block, (zJ.add ((zy).toNat * 7)).off + 5, none⟩ = some (.string ((zw zQ zy).f5)) ∧ w'.cell? ⟨(zJ.add ((zy).toNat * 7)).block, (zJ.add ((zy).toNat * 7)).off + 6, none⟩ = some (.slice pV ((zw zQ zy).f6).length pK)) (ds := []) #[false, false, false, false, false, false, false, false, false, false, false, false, false, false, false, false, false, false, false, false, false] (by kernel_rfl) rfl rfl ⟨(zZ zW.out 0).trans rfl, (zZ zW.out 1).trans rfl, (zZ zW.out 2).trans rfl, (zZ zW.out 3).trans rfl, jm, jo, jr, jA, jB, jC, xP, jF, jG, jH, uz, uq, uj, jR, jS, jT, jU, j3, j4, xR⟩ (fun hHeld => ?_); refine uP zX.KN zX.Ut (fun zY vL => ?_)
           generalize wr.drew = w69 at yK zm yQ zW zG HB yT y7 y8 y9 qz yU yE yF yG qx jm jo jr jA jB jC xP jF jG jH uz uq uj jR jS jT jU j3 j4 xR hHeld ⊢
           refine zA 0 (some 117) zY ?_
           refine zA 1 (some 118) zY ?_
           refine zA 2 (some 119) zY ?_
           refine zA 3 (some 120) zY ?_
           refine zA 4 (some 121) zY ?_
           refine zA 8 (some 125) zY ?_
           refine zA 9 (some 126) zY ?_
           refine zA 10 (some 127) zY ?_
           refine zA 11 (some 128) zY ?_
           refine zA 13 (some 130) zY ?_
           refine jZ 5 (some 122) zY vL hHeld ?_
           refine zA 6 (some 123) zY ?_
           refine jZ 7 (some 124) zY vL hHeld ?_
           refine jZ 12 (some 129) zY vL hHeld ?_
           refine jZ 14 (some 131) zY vL hHeld ?_
           refine Jm 15 (some 132) zY (fun K hK => ?_)
           refine YP Tryz.func22 (by kernel_rfl) rfl #[.agg #[.string ((zK zi ((zw zQ zy).f2)).f0), .bool ((zK zi ((zw zQ zy).f2)).f1), .int .i64 ((zK zi ((zw zQ zy).f2)).f2), .slice pW ((zK zi ((zw zQ zy).f2)).f3).length pE, .slice pF ((zK zi ((zw zQ zy).f2)).f4).length pG, .slice pI ((zK zi ((zw zQ zy).f2)).f5).length pO], .string ((zw zQ zy).f4), .int .i64 (wrap64 (1 + (wrap64 (Int.tmod (IntKind.u64.wrap (yX)) 1000))))] (by rfl) rfl rfl (by (try simp only [List.map_toArray, List.map_cons, List.map_nil]); first | done | rfl | (simp only [List.length_drop, List.length_take]; rfl)) ?_
           with_reducible refine (uI.calls ((zK zi ((zw zQ zy).f2)).f0) ((zK zi ((zw zQ zy).f2)).f1) ((zK zi ((zw zQ zy).f2)).f2) _ _ ((zK zi ((zw zQ zy).f2)).f3) _ _ ((zK zi ((zw zQ zy).f2)).f4) _ _ ((zK zi ((zw zQ zy).f2)).f5) ((zw zQ zy).f4) (wrap64 (1 + (wrap64 (Int.tmod (IntKind.u64.wrap (yX)) 1000)))) XF QC _ ?qw ?qI ?xX ?xJ ?xV ?xK ?xY A47.out).mono ?_
           (case qw => repeat (first | exact (vZ yE.out) | (with_reducible refine Kd.zD ?_ _) | (with_reducible refine Kd.zF ?_ _) | (with_reducible refine Kd.zo ?_)))
           (case qI => exact Z6.out)
           (case xX => repeat (first | exact (vZ yF.out) | (with_reducible refine Kd.zD ?_ _) | (with_reducible refine Kd.zF ?_ _) | (with_reducible refine Kd.zo ?_)))
           (case xJ => exact Z7.out)
           (case xV => repeat (first | exact (vZ yG.out) | (with_reducible refine Kd.zD ?_ _) | (with_reducible refine Kd.zF ?_ _) | (with_reducible refine Kd.zo ?_)))
           (case xK => exact Z8.out)
           (case xY => exact GW.under HG.out (zP HB.out))
           rintro e w70 ⟨rfl, hb⟩
           have Qr := (hb.cell (wb _ _ (hHeld.2.2.2.2.1))).trans (hHeld.2.2.2.2.1)
           have Qs := (hb.cell (wb _ _ (hHeld.2.2.2.2.2.1))).trans (hHeld.2.2.2.2.2.1)
           have Qt := (hb.cell (wb _ _ (hHeld.2.2.2.2.2.2.1))).trans (hHeld.2.2.2.2.2.2.1)
           have Qu := (hb.cell (wb _ _ (hHeld.2.2.2.2.2.2.2.1))).trans (hHeld.2.2.2.2.2.2.2.1)
           have QA := (hb.cell (wb _ _ (hHeld.2.2.2.2.2.2.2.2.1))).trans (hHeld.2.2.2.2.2.2.2.2.1)
           have QB := (hb.cell (wb _ _ (hHeld.2.2.2.2.2.2.2.2.2.1))).trans (hHeld.2.2.2.2.2.2.2.2.2.1)
           have Y1 := (hb.cell (wb _ _ (hHeld.2.2.2.2.2.2.2.2.2.2.1))).trans (hHeld.2.2.2.2.2.2.2.2.2.2.1)
           have Y2 := (hb.cell (wb _ _ (hHeld.2.2.2.2.2.2.2.2.2.2.2.1))).trans (hHeld.2.2.2.2.2.2.2.2.2.2.2.1)
           have Y3 := (hb.cell (wb _ _ (hHeld.2.2.2.2.2.2.2.2.2.2.2.2.1))).trans (hHeld.2.2.2.2.2.2.2.2.2.2.2.2.1)
           have Y4 := (hb.cell (wb _ _ (hHeld.2.2.2.2.2.2.2.2.2.2.2.2.2.1))).trans (hHeld.2.2.2.2.2.2.2.2.2.2.2.2.2.1)
           have Y5 := (hb.cell (wb _ _ (hHeld.2.2.2.2.2.2.2.2.2.2.2.2.2.2.1))).trans (hHeld.2.2.2.2.2.2.2.2.2.2.2.2.2.2.1)
           have Y6 := (hb.cell (wb _ _ (hHeld.2.2.2.2.2.2.2.2.2.2.2.2.2.2.2.1))).trans (hHeld.2.2.2.2.2.2.2.2.2.2.2.2.2.2.2.1)
           have Y7 := (hb.cell (wb _ _ (hHeld.2.2.2.2.2.2.2.2.2.2.2.2.2.2.2.2.1))).trans (hHeld.2.2.2.2.2.2.2.2.2.2.2.2.2.2.2.2.1)
           have Y8 := (hb.cell (wb _ _ (hHeld.2.2.2.2.2.2.2.2.2.2.2.2.2.2.2.2.2.1))).trans (hHeld.2.2.2.2.2.2.2.2.2.2.2.2.2.2.2.2.2.1)
           have Y9 := (hb.cell (wb _ _ (hHeld.2.2.2.2.2.2.2.2.2.2.2.2.2.2.2.2.2.2.1))).trans (hHeld.2.2.2.2.2.2.2.2.2.2.2.2.2.2.2.2.2.2.1)
           have Xz := (hb.cell (wb _ _ (hHeld.2.2.2.2.2.2.2.2.2.2.2.2.2.2.2.2.2.2.2.1))).trans (hHeld.2.2.2.2.2.2.2.2.2.2.2.2.2.2.2.2.2.2.2.1)
           have Xq := (hb.cell (wb _ _ (hHeld.2.2.2.2.2.2.2.2.2.2.2.2.2.2.2.2.2.2.2.2.1))).trans (hHeld.2.2.2.2.2.2.2.2.2.2.2.2.2.2.2.2.2.2.2.2.1)
           have Xx := (hb.cell (wb _ _ (hHeld.2.2.2.2.2.2.2.2.2.2.2.2.2.2.2.2.2.2.2.2.2.1))).trans (hHeld.2.2.2.2.2.2.2.2.2.2.2.2.2.2.2.2.2.2.2.2.2.1)
           have Xj := (hb.cell (wb _ _ (hHeld.2.2.2.2.2.2.2.2.2.2.2.2.2.2.2.2.2.2.2.2.2.2.1))).trans (hHeld.2.2.2.2.2.2.2.2.2.2.2.2.2.2.2.2.2.2.2.2.2.2.1)
           have Xv := (hb.cell (wb _ _ (hHeld.2.2.2.2.2.2.2.2.2.2.2.2.2.2.2.2.2.2.2.2.2.2.2))).trans (hHeld.2.2.2.2.2.2.2.2.2.2.2.2.2.2.2.2.2.2.2.2.2.2.2)
           refine ⟨_, rfl, ?_⟩
           have zf := zx.mk (Kd.qg (Zr yK.out) hb)
           have zl := zx.mk (Kd.qg (Zr zm.out) hb)
           have zu := zx.mk (Kd.yY (vI yQ.out) hb)
           have zH := zx.mk (Kd.yY (vI yT.out) hb)
           have qV := zx.mk (Kd.yY (vI y7.out) hb)
           have xD := zx.mk (Kd.yY (vI y8.out) hb)
           have wX := zx.mk (Kd.yY (vI y9.out) hb)
           have wJ := zx.mk (Kd.yY (vI qz.out) hb)
           have wV := zx.mk (zN (g := yV) (o := .cells #[.int .i64 (wrap64 (Int.tmod (IntKind.u64.wrap (yN)) 5)), .int .i64 (wrap64 (1 + (wrap64 (Int.tmod (IntKind.u64.wrap (yX)) 1000)))), .bool yP, .bool yO] 26 (0, 0)) (ji zW.out) hb)
           have wK := zx.mk (Kd.zh (vZ zG.out) hb)
           have um := zx.mk (Kd.zh (vZ yU.out) hb)
           have uo := zx.mk (Kd.zh (vZ yE.out) hb)
           have uD := zx.mk (Kd.zh (vZ yF.out) hb)
           have uE := zx.mk (Kd.zh (vZ yG.out) hb)
           have uF := zx.mk (Kd.zh (vZ qx.out) hb)
           have uG := zx.mk (zL (zP HB.out) hb)
           clear yK zm yQ yT y7 y8 y9 qz zW zG yU yE yF yG qx HB
           have yK := zf
           have zm := zl
           have yQ := zu
           have yT := zH
           have y7 := qV
           have y8 := xD
           have y9 := wX
           have qz := wJ
           have zW := wV
           have zG := wK
           have yU := um
           have yE := uo
           have yF := uD
           have yG := uE
           have qx := uF
           have HB := uG
           clear zf zl zu zH qV xD wX wJ wV wK um uo uD uE uF uG
           (try clear hb)
           (try clear hb2)
           (try clear hk)
           (try clear hi)
           refine hK.out _ _ ⟨(zZ zW.out 0).trans rfl, (zZ zW.out 1).trans rfl, (zZ zW.out 2).trans rfl, (zZ zW.out 3).trans rfl, Qr, Qs, Qt, Qu, QA, QB, Y1, Y2, Y3, Y4, Y5, Y6, Y7, Y8, Y9, Xz, Xq, Xx, Xj, Xv⟩ (fun hHeld => ?_)
           clear hK K
           refine Jl (some 132) ?_
           refine zA 16 (some 116) zY ?_
           refine zA 17 (some 133) zY ?_
           refine zA 18 (some 134) zY ?_
           refine zA 19 (some 13) zY ?_
           refine zA 20 (some 14) zY ?_
           refine jk (xM zY.out (by kernel_rfl)) ?_
           try go_wp2
           have zf := zx.mk (Kd.qj yK.out)
           have zl := zx.mk (Kd.qj zm.out)
           have zu := zx.mk (Kd.qm yQ.out)
           have zH := zx.mk (Kd.qm yT.out)
           have qV := zx.mk (Kd.qm y7.out)
           have xD := zx.mk (Kd.qm y8.out)
           have wX := zx.mk (Kd.qm y9.out)
           have wJ := zx.mk (Kd.qm qz.out)
           have wV := zx.mk (xZ zW.out)
           have wK := zx.mk (Kd.zo zG.out)
           have um := zx.mk (Kd.zo yU.out)
           have uo := zx.mk (Kd.zo yE.out)
           have uD := zx.mk (Kd.zo yF.out)
           have uE := zx.mk (Kd.zo yG.out)
           have uF := zx.mk (Kd.zo qx.out)
           have uG := zx.mk (yx HB.out)
           clear yK zm yQ yT y7 y8 y9 qz zW zG yU yE yF yG qx HB
           have yK := zf
           have zm := zl
           have yQ := zu
           have yT := zH
           have y7 := qV
           have y8 := xD
           have y9 := wX
           have qz := wJ
           have zW := wV
           have zG := wK
           have yU := um
           have yE := uo
           have yF := uD
           have yG := uE
           have qx := uF
           have HB := uG
           clear zf zl zu zH qV xD wX wJ wV wK um uo uD uE uF uG
           have kU : 0 ≤ (zy : Int) := of_decide_eq_true (by first | (with_reducible assumption) | assumption)
           have wz : zy < (zQ.length : Int) := of_decide_eq_true (by first | (with_reducible assumption) | assumption)
           obtain ⟨QV, pU, p8, Ux, kZ, kQ, kX, kJ, kV, kK, xS, kY, kW⟩ := qo (Kd.zn zm.out).2.2 zy kU wz
           obtain rfl : zJ = QV := (by injection Ux)
           obtain ⟨dW, XV, XK, p9⟩ := Kd.xB zm.out z53 zy kU (by first | exact wz | exact of_decide_eq_true (by first | (with_reducible assumption) | assumption) | (have e_ := (Kd.zn zm.out).1; omega))
           obtain ⟨Jd, rfl, uX⟩ := qJ XK
           have xq := p9 6 _ rfl
           rw [zB _ _ 6 (by omega)] at xq
           replace xq := Option.some.inj (xq.symm.trans xS)
           rw [xq] at uX
           have Z9 := zx.mk (show Kd.R (Kd.int .i64) 3 _ _ _ _ ((zw zQ zy).f6) from uX)
           clear xq uX p9 XV
           have Yz := zx.mk kW
           have Je := zx.mk kY
           clear kW kY
           replace kU := eq_true kU
           replace wz := eq_true wz
           refine jw (n := 29) (S := fun w' => w'.cell? (zJ.add ((zy).toNat * 7)) = some (.int .i64 ((zw zQ zy).f0)) ∧ w'.cell? ⟨(zJ.add ((zy).toNat * 7)).block, (zJ.add ((zy).toNat * 7)).off + 1, none⟩ = some (.int .i64 ((zw zQ zy).f1)) ∧ w'.cell? ⟨(zJ.add ((zy).toNat * 7)).block, (zJ.add ((zy).toNat * 7)).off + 2, none⟩ = some (.int .i64 ((zw zQ zy).f2)) ∧ w'.cell? ⟨(zJ.add ((zy).toNat * 7)).block, (zJ.add ((zy).toNat * 7)).off + 3, none⟩ = some (.int .i64 ((zw zQ zy).f3)) ∧ w'.cell? ⟨(zJ.add ((zy).toNat * 7)).block, (zJ.add ((zy).toNat * 7)).off + 4, none⟩ = some (.string ((zw zQ zy).f4)) ∧ w'.cell? ⟨(zJ.add ((zy).toNat * 7)).block, (zJ.add ((zy).toNat * 7)).off + 5, none⟩ = some (.string ((zw zQ zy).f5)) ∧ w'.cell? ⟨(zJ.add ((zy).toNat * 7)).block, (zJ.add ((zy).toNat * 7)).off + 6, none⟩ = some (.slice pU ((zw zQ zy).f6).length p8)) (ds := []) #[false, false, false, false, false, false, false, false, false, false, false, false, false, false, false, false, false, false, false, false, false, false, false, false, false, false, false, false, false] (by kernel_rfl) rfl rfl ⟨kZ, kQ, kX, kJ, kV, kK, xS⟩ (fun hHeld => ?_); refine uP zX.KO zX.Uu (fun zY vL => ?_)
           generalize w70.drew = w71 at yK zm yQ yT y7 y8 y9 qz zW zG yU yE yF yG qx HB Z9 Yz kZ kQ kX kJ kV kK xS hHeld ⊢
           refine zA 0 (some 135) zY ?_
           refine zA 1 (some 136) zY ?_
           refine zA 2 (some 137) zY ?_
           refine zA 3 (some 138) zY ?_
           refine jZ 4 (some 139) zY vL hHeld ?_
           refine zA 5 (some 140) zY ?_
           refine zA 6 (some 141) zY ?_
           refine yL (i := 7) (N := some 142) (v := undef) (a' := ?_) #[true, true, true, true, true, true, true, true, false, false, false, false, false, false, false, false, false, false, false, false, false, false, false, false, false, false, false, false, false] rfl rfl (yJ zY.out (by kernel_rfl)) (fun _ _ _ h => h) (Or.inr ⟨by rfl, rfl⟩) ?_ ?_
           rotate_left
           ·simp only [Act.put, List.setIfInBounds_toArray, List.set_cons_zero, List.set_cons_succ, qW, qd]
            rfl
           refine yL (i := 8) (N := some 143) (v := undef) (a' := ?_) #[true, true, true, true, true, true, true, true, true, false, false, false, false, false, false, false, false, false, false, false, false, false, false, false, false, false, false, false, false] rfl rfl (yJ zY.out (by kernel_rfl)) (fun _ _ _ h => h) (Or.inr ⟨by rfl, rfl⟩) ?_ ?_
           rotate_left
           ·simp only [Act.put, List.setIfInBounds_toArray, List.set_cons_zero, List.set_cons_succ, qW, qd]
            rfl
           refine zA 9 (some 144) zY ?_
           refine zA 10 (some 145) zY ?_
           refine yL (i := 11) (N := some 146) (v := undef) (a' := ?_) #[true, true, true, true, true, true, true, true, true, true, true, true, false, false, false, false, false, false, false, false, false, false, false, false, false, false, false, false, false] rfl rfl (yJ zY.out (by kernel_rfl)) (fun _ _ _ h => h) (Or.inr ⟨by rfl, rfl⟩) ?_ ?_
           rotate_left
           ·simp only [Act.put, List.setIfInBounds_toArray, List.set_cons_zero, List.set_cons_succ, qW, qd]
            rfl
           refine yL (i := 12) (N := some 147) (v := undef) (a' := ?_) #[true, true, true, true, true, true, true, true, true, true, true, true, true, false, false, false, false, false, false, false, false, false, false, false, false, false, false, false, false] rfl rfl (yJ zY.out (by kernel_rfl)) (fun _ _ _ h => h) (Or.inr ⟨by rfl, rfl⟩) ?_ ?_
           rotate_left
           ·simp only [Act.put, List.setIfInBounds_toArray, List.set_cons_zero, List.set_cons_succ, qW, qd]
            rfl
           refine yL (i := 13) (N := some 148) (v := undef) (a' := ?_) #[true, true, true, true, true, true, true, true, true, true, true, true, true, true, false, false, false, false, false, false, false, false, false, false, false, false, false, false, false] rfl rfl (yJ zY.out (by kernel_rfl)) (fun _ _ _ h => h) (Or.inr ⟨by rfl, rfl⟩) ?_ ?_
           rotate_left
           ·simp only [Act.put, List.setIfInBounds_toArray, List.set_cons_zero, List.set_cons_succ, qW, qd]
            rfl
           refine yL (i := 14) (N := some 149) (v := undef) (a' := ?_) #[true, true, true, true, true, true, true, true, true, true, true, true, true, true, true, false, false, false, false, false, false, false, false, false, false, false, false, false, false] rfl rfl (yJ zY.out (by kernel_rfl)) (fun _ _ _ h => h) (Or.inr ⟨by rfl, rfl⟩) ?_ ?_
           rotate_left
           ·simp only [Act.put, List.setIfInBounds_toArray, List.set_cons_zero, List.set_cons_succ, qW, qd]
            rfl
           refine yL (i := 15) (N := some 150) (v := undef) (a' := ?_) #[true, true, true, true, true, true, true, true, true, true, true, true, true, true, true, true, false, false, false, false, false, false, false, false, false, false, false, false, false] rfl rfl (yJ zY.out (by kernel_rfl)) (fun _ _ _ h => h) (Or.inr ⟨by rfl, rfl⟩) ?_ ?_
           rotate_left
           ·simp only [Act.put, List.setIfInBounds_toArray, List.set_cons_zero, List.set_cons_succ, qW, qd]
            rfl
           refine yL (i := 16) (N := some 151) (v := undef) (a' := ?_) #[true, true, true, true, true, true, true, true, true, true, true, true, true, true, true, true, true, false, false, false, false, false, false, false, false, false, false, false, false] rfl rfl (yJ zY.out (by kernel_rfl)) (fun _ _ _ h => h) (Or.inr ⟨by rfl, rfl⟩) ?_ ?_
           rotate_left
           ·simp only [Act.put, List.setIfInBounds_toArray, List.set_cons_zero, List.set_cons_succ, qW, qd]
            rfl
           refine yL (i := 17) (N := some 152) (v := undef) (a' := ?_) #[true, true, true, true, true, true, true, true, true, true, true, true, true, true, true, true, true, true, false, false, false, false, false, false, false, false, false, false, false] rfl rfl (yJ zY.out (by kernel_rfl)) (fun _ _ _ h => h) (Or.inr ⟨by rfl, rfl⟩) ?_ ?_
           rotate_left
           ·simp only [Act.put, List.setIfInBounds_toArray, List.set_cons_zero, List.set_cons_succ, qW, qd]
            rfl
           refine zA 18 (some 153) zY ?_
           refine zA 19 (some 154) zY ?_
           refine yL (i := 20) (N := some 155) (v := undef) (a' := ?_) #[true, true, true, true, true, true, true, true, true, true, true, true, true, true, true, true, true, true, true, true, true, false, false, false, false, false, false, false, false] rfl rfl (yJ zY.out (by kernel_rfl)) (fun _ _ _ h => h) (Or.inr ⟨by rfl, rfl⟩) ?_ ?_
           rotate_left
           ·simp only [Act.put, List.setIfInBounds_toArray, List.set_cons_zero, List.set_cons_succ, qW, qd]
            rfl
           refine yL (i := 21) (N := some 156) (v := undef) (a' := ?_) #[true, true, true, true, true, true, true, true, true, true, true, true, true, true, true, true, true, true, true, true, true, true, false, false, false, false, false, false, false] rfl rfl (yJ zY.out (by kernel_rfl)) (fun _ _ _ h => h) (Or.inr ⟨by rfl, rfl⟩) ?_ ?_
           rotate_left
           ·simp only [Act.put, List.setIfInBounds_toArray, List.set_cons_zero, List.set_cons_succ, qW, qd]
            rfl
           refine yL (i := 22) (N := some 157) (v := undef) (a' := ?_) #[true, true, true, true, true, true, true, true, true, true, true, true, true, true, true, true, true, true, true, true, true, true, true, false, false, false, false, false, false] rfl rfl (yJ zY.out (by kernel_rfl)) (fun _ _ _ h => h) (Or.inr ⟨by rfl, rfl⟩) ?_ ?_
           rotate_left
           ·simp only [Act.put, List.setIfInBounds_toArray, List.set_cons_zero, List.set_cons_succ, qW, qd]
            rfl
           refine yL (i := 23) (N := some 158) (v := undef) (a' := ?_) #[true, true, true, true, true, true, true, true, true, true, true, true, true, true, true, true, true, true, true, true, true, true, true, true, false, false, false, false, false] rfl rfl (yJ zY.out (by kernel_rfl)) (fun _ _ _ h => h) (Or.inr ⟨by rfl, rfl⟩) ?_ ?_
           rotate_left
           ·simp only [Act.put, List.setIfInBounds_toArray, List.set_cons_zero, List.set_cons_succ, qW, qd]
            rfl
           refine yL (i := 24) (N := some 159) (v := undef) (a' := ?_) #[true, true, true, true, true, true, true, true, true, true, true, true, true, true, true, true, true, true, true, true, true, true, true, true, true, false, false, false, false] rfl rfl (yJ zY.out (by kernel_rfl)) (fun _ _ _ h => h) (Or.inr ⟨by rfl, rfl⟩) ?_ ?_
           rotate_left
           ·simp only [Act.put, List.setIfInBounds_toArray, List.set_cons_zero, List.set_cons_succ, qW, qd]
            rfl
           refine yL (i := 25) (N := some 160) (v := undef) (a' := ?_) #[true, true, true, true, true, true, true, true, true, true, true, true, true, true, true, true, true, true, true, true, true, true, true, true, true, true, false, false, false] rfl rfl (yJ zY.out (by kernel_rfl)) (fun _ _ _ h => h) (Or.inr ⟨by rfl, rfl⟩) ?_ ?_
           rotate_left
           ·simp only [Act.put, List.setIfInBounds_toArray, List.set_cons_zero, List.set_cons_succ, qW, qd]
            rfl
           refine yL (i := 26) (N := some 161) (v := undef) (a' := ?_) #[true, true, true, true, true, true, true, true, true, true, true, true, true, true, true, true, true, true, true, true, true, true, true, true, true, true, true, false, false] rfl rfl (yJ zY.out (by kernel_rfl)) (fun _ _ _ h => h) (Or.inr ⟨by rfl, rfl⟩) ?_ ?_
           rotate_left
           ·simp only [Act.put, List.setIfInBounds_toArray, List.set_cons_zero, List.set_cons_succ, qW, qd]
            rfl
           refine yL (i := 27) (N := some 162) (v := undef) (a' := ?_) #[true, true, true, true, true, true, true, true, true, true, true, true, true, true, true, true, true, true, true, true, true, true, true, true, true, true, true, true, false] rfl rfl (yJ zY.out (by kernel_rfl)) (fun _ _ _ h => h) (Or.inr ⟨by rfl, rfl⟩) ?_ ?_
           rotate_left
           ·simp only [Act.put, List.setIfInBounds_toArray, List.set_cons_zero, List.set_cons_succ, qW, qd]
            rfl
           refine zA 28 (some 163) zY ?_
           refine jk (xM zY.out (by kernel_rfl)) ?_
           try go_wp2
           go_ret
           exact ⟨by first | rfl | (simp [zR, zS] <;> rfl) | (simp [*, zR, zS] <;> rfl), by repeat (first | (with_reducible first | exact HB.out | apply yA | apply yZ | apply yx | refine xL ?_ Yf.out) | exact HB.out)⟩
         ·rw [if_neg c46] at H
          exact absurd H (by simp)
        ·rw [if_neg c45] at H
         exact absurd H (by simp)
      ·rw [if_neg c20] at H
       exact absurd H (by simp)
     ·rw [if_neg c19] at H
      have zxX : decide (zy < (zQ.length : Int)) = false := decide_eq_false c19
      clear c19
      replace H := Option.bind_eq_some_iff.mp H
      obtain ⟨Vz, zvT, H⟩ := H
      replace H : (if jc = Vz then ((qK.f).bind fun PV => (some PV)) else (some false)) = some r := H
      have A72 := zx.mk zvT
      clear zvT
      by_cases sW : jc = Vz
      ·rw [if_pos sW] at H
       have zy4 : (jc == Vz) = true := beq_iff_eq.mpr sW
       have zy5 : (jc != Vz) = false := bne_eq_false_iff_eq.mpr sW
       clear sW
       replace H := Option.bind_eq_some_iff.mp H
       obtain ⟨PV, zvU, H⟩ := H
       replace H : (some PV) = some r := H
       have A74 := zx.mk zvU
       clear zvU
       obtain rfl := Option.some.inj H
       obtain ⟨zZM, zZN, zZO⟩ := Kd.jY zm.out
       subst zZO
       go_wp2_with (first | ((with_reducible refine yg (f := 23) rfl ?_); refine jf (some 169) Tryz.func23 #[.slice zZM zQ.length zZN] ?_; (with_reducible refine (yB.calls k1 _ _ zQ Vz _ ?qw ?qI A72.out).mono ?_); (case qw => repeat (first | exact (Kd.zn zm.out).2.2 | (with_reducible refine Kd.zD ?_ _) | (with_reducible refine Kd.zF ?_ _) | (with_reducible refine Kd.zo ?_))); (case qI => exact (Kd.zn zm.out).2.1); rintro e w76 ⟨rfl, hb⟩; refine ⟨_, rfl, ?_⟩; have zf := zx.mk (Kd.qg (Zr yK.out) hb); have zl := zx.mk (Kd.qg (Zr zm.out) hb); have zu := zx.mk (zN (g := yV) (o := .cells #[.int .i64 (wrap64 (Int.tmod (IntKind.u64.wrap (yN)) 5)), .int .i64 (wrap64 (1 + (wrap64 (Int.tmod (IntKind.u64.wrap (yX)) 1000)))), .bool yP, .bool yO] 26 (0, 0)) (ji zW.out) hb); have zH := zx.mk (zL (zP HB.out) hb); clear yK; clear zm; clear zW; clear HB; have yK := zf; have zm := zl; have zW := zu; have HB := zH; clear zf zl zu zH; (try clear hb); (try clear hb2); (try clear hk); (try clear hi)) | (go_at_call 11; (with_reducible refine (qK.calls  PV _ ?qw A74.out).mono ?_); (case qw => exact GW.under HG.out (zP HB.out)); rintro e w77 ⟨rfl, hb⟩; have zf := zx.mk (Kd.qg (Zr yK.out) hb); have zl := zx.mk (Kd.qg (Zr zm.out) hb); have zu := zx.mk (zN (g := yV) (o := .cells #[.int .i64 (wrap64 (Int.tmod (IntKind.u64.wrap (yN)) 5)), .int .i64 (wrap64 (1 + (wrap64 (Int.tmod (IntKind.u64.wrap (yX)) 1000)))), .bool yP, .bool yO] 26 (0, 0)) (ji zW.out) hb); have zH := zx.mk (zL (zP HB.out) hb); clear yK; clear zm; clear zW; clear HB; have yK := zf; have zm := zl; have zW := zu; have HB := zH; clear zf zl zu zH; (try clear hb); (try clear hb2); (try clear hk); (try clear hi)))
       go_ret
       exact ⟨by first | rfl | (simp [zR, zS] <;> rfl) | (simp [*, zR, zS] <;> rfl), by repeat (first | (with_reducible first | exact HB.out | apply yA | apply yZ | apply yx | refine xL ?_ Yf.out) | exact HB.out)⟩
      ·rw [if_neg sW] at H
       have zy4 : (jc == Vz) = false := beq_eq_false_iff_ne.mpr sW
       have zy5 : (jc != Vz) = true := bne_iff_ne.mpr sW
       obtain rfl := Option.some.inj H
       obtain ⟨zZP, zZR, zZS⟩ := Kd.jY zm.out
       subst zZS
       go_wp2_with (first | ((with_reducible refine yg (f := 23) rfl ?_); refine jf (some 169) Tryz.func23 #[.slice zZP zQ.length zZR] ?_; (with_reducible refine (yB.calls k1 _ _ zQ Vz _ ?qw ?qI A72.out).mono ?_); (case qw => repeat (first | exact (Kd.zn zm.out).2.2 | (with_reducible refine Kd.zD ?_ _) | (with_reducible refine Kd.zF ?_ _) | (with_reducible refine Kd.zo ?_))); (case qI => exact (Kd.zn zm.out).2.1); rintro e w79 ⟨rfl, hb⟩; refine ⟨_, rfl, ?_⟩; have zf := zx.mk (Kd.qg (Zr yK.out) hb); have zl := zx.mk (Kd.qg (Zr zm.out) hb); have zu := zx.mk (zN (g := yV) (o := .cells #[.int .i64 (wrap64 (Int.tmod (IntKind.u64.wrap (yN)) 5)), .int .i64 (wrap64 (1 + (wrap64 (Int.tmod (IntKind.u64.wrap (yX)) 1000)))), .bool yP, .bool yO] 26 (0, 0)) (ji zW.out) hb); have zH := zx.mk (zL (zP HB.out) hb); clear yK; clear zm; clear zW; clear HB; have yK := zf; have zm := zl; have zW := zu; have HB := zH; clear zf zl zu zH; (try clear hb); (try clear hb2); (try clear hk); (try clear hi)))
       go_ret
       exact ⟨by first | rfl | (simp [zR, zS] <;> rfl) | (simp [*, zR, zS] <;> rfl), by repeat (first | (with_reducible first | exact HB.out | apply yA | apply yZ | apply yx | refine xL ?_ Yf.out) | exact HB.out)⟩
  ·rw [if_neg c10] at H
   have iP : (UA == 0) = false := beq_eq_false_iff_ne.mpr c10
   have iR : (UA != 0) = true := bne_iff_ne.mpr c10
   replace H := Option.bind_eq_some_iff.mp H
   obtain ⟨Qj, zv0, H⟩ := H
   replace H : (some Qj) = some r := H
   have A80 := zx.mk zv0
   clear zv0
   obtain rfl := Option.some.inj H
   go_enter Tryz.func6, Tryz.ntmps6
   try go_wp2_with (first | ((with_reducible refine qb (N := 3) rfl ?_); (try (refine Zc (by rfl) ?_; dsimp only)); refine qM ?hg (N := 3) ?hd (cs := #[.int .i64 yN, .int .i64 yX, .bool yP, .bool yO]) (t := 26) ?hr ?_; (case hd => rfl); (case hg => rfl); (case hr => first | (go_simp; done) | (go_simp; rfl)); intro yV hg w81 xC hb; have zf := zx.mk (zL (zP HB.out) hb); have zl := zx.mk (xC); have zu := zx.mk ((by rw [hg]; exact (zC (zP HB.out)) : w.heap.size ≤ yV)); have zH := zx.mk ((by rw [hg]; exact (zC (zP HB.out)) : w.heap.size ≤ yV)); clear HB; have HB := zf; have zW := zl; have zxQ := zu; have Yf := zH; clear zf zl zu zH; clear hb xC hg; have zJy : w81.cell? ⟨yV, 0, none⟩ = some (.int .i64 yN) := (zZ zW.out 0).trans rfl; have zJw : w81.cell? ⟨yV, 1, none⟩ = some (.int .i64 yX) := (zZ zW.out 1).trans rfl; have zJZ : w81.cell? ⟨yV, 2, none⟩ = some (.bool yP) := (zZ zW.out 2).trans rfl; have zJQ : w81.cell? ⟨yV, 3, none⟩ = some (.bool yO) := (zZ zW.out 3).trans rfl; have zJX := zV zW.out 0; have zJJ := zV zW.out 1; have zJV := zV zW.out 2; have zJK := zV zW.out 3) | ((with_reducible refine yg (f := 19) rfl ?_); refine jf (some 32) Tryz.func19 #[] ?_; (with_reducible refine (xI.calls  zi _ ?qw A7.out).mono ?_); (case qw => exact GW.under HG.out (zP HB.out)); rintro e w83 ⟨zZp, rfl, ho0, hb⟩; refine ⟨_, rfl, ?_⟩; have zf := zx.mk (Kd.wS ho0 (zC (zP HB.out))); have zl := zx.mk (zN (g := yV) (o := .cells #[.int .i64 (wrap64 (Int.tmod (IntKind.u64.wrap (yN)) 5)), .int .i64 (wrap64 (1 + (wrap64 (Int.tmod (IntKind.u64.wrap (yX)) 1000)))), .bool yP, .bool yO] 26 (0, 0)) (by (with_reducible repeat (first | refine ZG ?_ _ | refine xZ ?_ | refine vD ?_ _)); refine qO (cs := #[.int .i64 (wrap64 (Int.tmod (IntKind.u64.wrap (yN)) 5)), .int .i64 yX, .bool yP, .bool yO]) ?_ 1 _ rfl; (with_reducible repeat (first | refine ZG ?_ _ | refine xZ ?_ | refine vD ?_ _)); refine qO (cs := #[.int .i64 yN, .int .i64 yX, .bool yP, .bool yO]) ?_ 0 _ rfl; (with_reducible repeat (first | refine ZG ?_ _ | refine xZ ?_ | refine vD ?_ _)); exact zW.out) hb); have zu := zx.mk (zL (zP HB.out) hb); clear zW; clear HB; have vH := zf; have zW := zl; have HB := zu; clear zf zl zu; (try clear hb); (try clear hb2); (try clear hk); (try clear hi); (try clear ho0)))
   have zf := zx.mk (Kd.qj vH.out)
   have zl := zx.mk (xZ zW.out)
   have zu := zx.mk (yx HB.out)
   clear vH zW HB
   have vH := zf
   have zW := zl
   have HB := zu
   clear zf zl zu
   refine jw (n := 12) (S := fun w' => w'.cell? ⟨yV, 0, none⟩ = some (.int .i64 (wrap64 (Int.tmod (IntKind.u64.wrap (yN)) 5))) ∧ w'.cell? ⟨yV, 1, none⟩ = some (.int .i64 (wrap64 (1 + (wrap64 (Int.tmod (IntKind.u64.wrap (yX)) 1000))))) ∧ w'.cell? ⟨yV, 2, none⟩ = some (.bool yP) ∧ w'.cell? ⟨yV, 3, none⟩ = some (.bool yO)) (ds := []) #[false, false, false, false, false, false, false, false, false, false, false, false] (by kernel_rfl) rfl rfl ⟨(zZ zW.out 0).trans rfl, (zZ zW.out 1).trans rfl, (zZ zW.out 2).trans rfl, (zZ zW.out 3).trans rfl⟩ (fun hHeld => ?_); refine uP zX.zvl zX.zxZ (fun zY vL => ?_)
   generalize w83.drew = w84 at vH zW HB hHeld ⊢
   refine zA 0 (some 34) zY ?_
   refine zA 2 (some 36) zY ?_
   refine jZ 1 (some 35) zY vL hHeld ?_
   refine Jm 3 (some 37) zY (fun K hK => ?_)
   refine YP Tryz.func20 (by kernel_rfl) rfl #[.string a0] (by rfl) rfl rfl (by (try simp only [List.map_toArray, List.map_cons, List.map_nil]); first | done | rfl | (simp only [List.length_drop, List.length_take]; rfl)) ?_
   with_reducible refine (yu.calls k a0 Xp _ A8.out).mono ?_
   rintro e w85 ⟨zZr, rfl, ho0, hb⟩
   refine ⟨_, rfl, ?_⟩
   have zf := zx.mk (Kd.qg (Zr vH.out) hb)
   have zl := zx.mk (Kd.vE ho0 (zC (zP HB.out)))
   have zu := zx.mk (zN (g := yV) (o := .cells #[.int .i64 (wrap64 (Int.tmod (IntKind.u64.wrap (yN)) 5)), .int .i64 (wrap64 (1 + (wrap64 (Int.tmod (IntKind.u64.wrap (yX)) 1000)))), .bool yP, .bool yO] 26 (0, 0)) (ji zW.out) hb)
   have zH := zx.mk (zL (zP HB.out) hb)
   clear vH zW HB
   have vH := zf
   have wP := zl
   have zW := zu
   have HB := zH
   clear zf zl zu zH
   (try clear hb)
   (try clear hb2)
   (try clear hk)
   (try clear hi)
   (try clear ho0)
   obtain ⟨zZT, zZU, zv1⟩ := Kd.jY vH.out
   (first | subst zv1 | (injection zv1 with UC rY UD; have rW := UC.symm; have ru := UD.symm; clear UC rY UD; subst rW; subst ru))
   obtain ⟨zZ0, zZ1, zv2⟩ := Kd.xw wP.out
   (first | subst zv2 | (injection zv2 with UC rY UD; have rW := UC.symm; have ru := UD.symm; clear UC rY UD; subst rW; subst ru))
   refine hK.out _ _ ⟨(zZ zW.out 0).trans rfl, (zZ zW.out 1).trans rfl, (zZ zW.out 2).trans rfl, (zZ zW.out 3).trans rfl⟩ (fun hHeld => ?_)
   clear hK K
   refine Jl (some 37) ?_
   refine Jm 4 (some 38) zY (fun K hK => ?_)
   refine YP Tryz.func13 (by kernel_rfl) rfl #[.slice zZT zi.length zZU, .agg #[.int .i64 (wrap64 (Int.tmod (IntKind.u64.wrap (yN)) 5)), .int .i64 (wrap64 (1 + (wrap64 (Int.tmod (IntKind.u64.wrap (yX)) 1000)))), .bool yP, .bool yO], .slice zZ0 Xp.length zZ1, .slice none 0 0] (by rfl) rfl rfl (by (try simp only [List.map_toArray, List.map_cons, List.map_nil]); first | done | rfl | (simp only [List.length_drop, List.length_take]; rfl)) ?_
   refine (qL.calls _ _ zi (wrap64 (Int.tmod (IntKind.u64.wrap (yN)) 5)) (wrap64 (1 + (wrap64 (Int.tmod (IntKind.u64.wrap (yX)) 1000)))) yP yO _ _ Xp _ _ ([] : List (wD)) zQ zvn UA _ ?qw ?qI ?xX ?xJ ?xV ?xK ?xY A9.out).mono ?_
   (case qw => repeat (first | exact (Kd.zn vH.out).2.2 | (with_reducible refine Kd.zD ?_ _) | (with_reducible refine Kd.zF ?_ _) | (with_reducible refine Kd.zo ?_)))
   (case qI => exact (Kd.zn vH.out).2.1)
   (case xX => repeat (first | exact (Kd.uV wP.out).2.2 | (with_reducible refine Kd.zD ?_ _) | (with_reducible refine Kd.zF ?_ _) | (with_reducible refine Kd.zo ?_)))
   (case xJ => exact (Kd.uV wP.out).2.1)
   (case xV => exact Kd.VI _ _)
   (case xK => exact Nat.le_refl _)
   (case xY => exact GW.under HG.out (zP HB.out))
   rintro e w88 ⟨zvr, zZu, rfl, ho0, ho1, hb⟩
   refine ⟨_, rfl, ?_⟩
   have zf := zx.mk (Kd.qg (Zr vH.out) hb)
   have zl := zx.mk (Kd.Xf (vI wP.out) (Kd.Vj ho1) hb)
   have zu := zx.mk (Kd.wS ho0 (zC (zP HB.out)))
   have zH := zx.mk (Kd.vE (Kd.Vv ho1 (Kd.WJ (vI wP.out))) (zC (zP HB.out)))
   have qV := zx.mk (zN (g := yV) (o := .cells #[.int .i64 (wrap64 (Int.tmod (IntKind.u64.wrap (yN)) 5)), .int .i64 (wrap64 (1 + (wrap64 (Int.tmod (IntKind.u64.wrap (yX)) 1000)))), .bool yP, .bool yO] 26 (0, 0)) (ji zW.out) hb)
   have xD := zx.mk (zL (zP HB.out) hb)
   clear vH wP zW HB
   have vH := zf
   have wP := zl
   have KP := zu
   have dJ := zH
   have zW := qV
   have HB := xD
   clear zf zl zu zH qV xD
   (try clear hb)
   (try clear hb2)
   (try clear hk)
   (try clear hi)
   (try clear ho0)
   (try clear ho1)
   refine hK.out _ _ ⟨(zZ zW.out 0).trans rfl, (zZ zW.out 1).trans rfl, (zZ zW.out 2).trans rfl, (zZ zW.out 3).trans rfl⟩ (fun hHeld => ?_)
   clear hK K
   refine Jl (some 38) ?_
   refine zA 5 (some 33) zY ?_
   refine zA 6 (some 39) zY ?_
   refine zA 7 (some 40) zY ?_
   refine zA 8 (some 41) zY ?_
   refine zA 9 (some 6) zY ?_
   refine zA 10 (some 7) zY ?_
   refine zA 11 (some 8) zY ?_
   refine jk (xM zY.out (by kernel_rfl)) ?_
   try go_wp2_with (first | ((with_reducible refine yg (f := 11) rfl ?_); refine jf (some 44) Tryz.func11 #[] ?_; (with_reducible refine (qK.calls  Qj _ ?qw A80.out).mono ?_); (case qw => exact GW.under HG.out (zP HB.out)); rintro e w89 ⟨rfl, hb⟩; refine ⟨_, rfl, ?_⟩; have zf := zx.mk (Kd.qg (Zr vH.out) hb); have zl := zx.mk (Kd.yY (vI wP.out) hb); have zu := zx.mk (Kd.qg (Zr KP.out) hb); have zH := zx.mk (Kd.yY (vI dJ.out) hb); have qV := zx.mk (zN (g := yV) (o := .cells #[.int .i64 (wrap64 (Int.tmod (IntKind.u64.wrap (yN)) 5)), .int .i64 (wrap64 (1 + (wrap64 (Int.tmod (IntKind.u64.wrap (yX)) 1000)))), .bool yP, .bool yO] 26 (0, 0)) (ji zW.out) hb); have xD := zx.mk (zL (zP HB.out) hb); clear vH; clear wP; clear KP; clear dJ; clear zW; clear HB; have vH := zf; have wP := zl; have KP := zu; have dJ := zH; have zW := qV; have HB := xD; clear zf zl zu zH qV xD; (try clear hb); (try clear hb2); (try clear hk); (try clear hi)))
   go_ret
   exact ⟨by first | rfl | (simp [zR, zS] <;> rfl) | (simp [*, zR, zS] <;> rfl), by repeat (first | (with_reducible first | exact HB.out | apply yA | apply yZ | apply yx | refine xL ?_ Yf.out) | exact HB.out)⟩
end Go.Proofs.YtggifbbiiickmaaGreatDoor.PX
namespace Go.Proofs.YtggifbbiiickmaaGreatDoor
open Go.RowKit Go.Proofs.zk.ze Go.Proofs.zk.yc Go.Proofs.zk.yt Go.Proofs.YtggifbbiiickmaaGreatDoor.PX
set_option linter.unusedSimpArgs false
set_option linter.unusedVariables false
def UM (n : Int) (b : vS) : Int := wrap64 (n + b.f1)
theorem zjW (l : List vS) (hl : l.length ≤ 1000000) (hk : ∀ b ∈ l, b.f0 = 0 ∨ b.f0 = 2) : ∀ d i n, i + d = l.length → Ev (fun k => yB.l0 k n l (l.length : Int) (i : Int)) ((l.drop i).foldl UM n) := by
 intro d
 induction d with
 | zero =>
  intro i n h
  refine Ev.step (fun k => by rw [yB.l0]) (pq (by omega) (zzC ?_ (Ev.now _)))
  rw [List.drop_eq_nil_of_le (by omega)]; rfl
 | succ d ih =>
  intro i n h
  have hi : i < l.length := by omega
  have hw : wrap64 ((i : Int) + 1) = ((i + 1 : Nat) : Int) := (YA (by omega) (by omega)).trans (by omega)
  have q1 : (i : Int) < (l.length : Int) := by omega
  have q2 : (0 : Int) ≤ (i : Int) := by omega
  have hb := hk _ (List.getElem_mem hi)
  have hr := ih (i + 1) (UM n l[i]) (by omega)
  have hd : zw l (i : Int) = l[i] := rdB l i _ (List.getElem?_eq_getElem hi)
  rw [List.drop_eq_getElem_cons hi, List.foldl_cons]
  refine Ev.step (fun k => by rw [yB.l0, hw, hd]) (qB q1 (qB q2 (qB q1 ?_)))
  rcases hb with hb | hb
  ·exact qB hb hr
  ·have n0 : ¬ l[i].f0 = 0 := by rw [hb]; decide
   have n1 : ¬ l[i].f0 = 1 := by rw [hb]; decide
   exact pq n0 (pq n1 (qB hb hr))
theorem zZ2 (x : yS) (n : ByteArray) (s : Int) (hv : qN x = true) : uI.f x.f0 x.f1 x.f2 x.f3 x.f4 x.f5 n s = some (Ya x n s) := by
 have h := Z5 hv
 exact oF x.f0 x.f1 x.f2 x.f3 x.f4 x.f5 n s (by omega) (by omega) (by omega)
theorem zZ3 (x : yS) (n m : ByteArray) (s : Int) (hv : qN x = true) : ug.f x.f0 x.f1 x.f2 x.f3 x.f4 x.f5 n m s = some (Zx x n m s) := by
 have h := Z5 hv
 unfold ug.f
 rw [if_pos ⟨by omega, by omega, by omega⟩]; rfl
theorem zzh {l : List yS} {s : Int} {za : Bool} {out : List vS} (h : Xo l s za out) : ∀ b ∈ out, b.f0 = 0 ∨ b.f0 = 2 := fun b hb => by
 obtain ⟨i, hi, rfl⟩ := List.getElem_of_mem hb
 rcases h.1 i hi with ⟨b, a, n, h1, h2⟩ | ⟨y, b, b', a, n, n', h0, h1, _⟩
 ·rw [List.getElem?_eq_getElem hi] at h1
  rw [Option.some.inj h1, h2.2.2.2]; exact Or.inl rfl
 ·rw [List.getElem?_eq_getElem hi] at h1
  rw [Option.some.inj h1]; exact Or.inr rfl
theorem zv3 (l : List yS) (hv : ∀ x ∈ l, qN x = true) (hl : l.length ≤ 1000000) (out : List vS) (ho : out.length ≤ 1000000) (f s : Int) (zI za : Bool) (hs0 : 1 ≤ s) (hs1 : s ≤ 1000) (hg : Xo l s za out) :
  ∀ d i n, i + d = out.length → (out.drop i).foldl UM n = out.foldl UM 0 → Ev (fun k => zX.l0 k l out n (i : Int) f s zI za) true := by
 have hW := zjW out ho (zzh hg) out.length 0 0 (by omega)
 rw [List.drop_zero] at hW
 intro d
 induction d with
 | zero =>
  intro i n h he
  rw [List.drop_eq_nil_of_le (by omega)] at he
  have hW2 : Ev (fun k => yB.f k out) n := Ev.congr (fun k => by rw [yB.f]; rfl) (zzC he.symm hW)
  refine Ev.step (fun k => by rw [zX.l0]) (pq (by omega) (Ev.bind hW2 (qB rfl ?_)))
  exact QI rV (Ev.now _)
 | succ d ih =>
  intro i n h he
  have hi : i < out.length := by omega
  have hw : wrap64 ((i : Int) + 1) = ((i + 1 : Nat) : Int) := (YA (by omega) (by omega)).trans (by omega)
  have q1 : (i : Int) < (out.length : Int) := by omega
  have q2 : (0 : Int) ≤ (i : Int) := by omega
  rcases hg.1 i hi with ⟨b, a, nm, h1, h2⟩ | ⟨y, b, b', a, nm, nm', h0, h1, hb, hgb, hb', hgb', hkt, hky, hy0⟩
  ·have hd := rdB out i b h1
   obtain ⟨a0, a1, hh, hbe⟩ := h2
   have hval := ZL hv a0 a1
   have hwo := zqE (n := nm) hval hs0 hs1 hh
   have hr := ih (i + 1) (UM n b) (by omega) (by
    rw [← he, List.drop_eq_getElem_cons hi, List.foldl_cons]
    rw [List.getElem?_eq_getElem hi] at h1
    rw [Option.some.inj h1])
   have e0 : b.f0 = 0 := by rw [hbe]; rfl
   have e1 : b.f1 = (Ya (qG l a) nm s).1 := by rw [hbe]; rfl
   have e2 : b.f2 = a := by rw [hbe]; rfl
   have e3 : b.f3 = s := by rw [hbe]; rfl
   have e4 : b.f4 = nm := by rw [hbe]; rfl
   have hf := zZ2 (qG l a) nm s hval
   have hra : zK l a = qG l a := rfl
   unfold UM at hr
   rw [e1] at hr
   refine Ev.step (fun k => by rw [zX.l0, hw, hd, e0, e1, e2, e3, e4, hra]) (qB q1 (qB q2 (pq (by decide) (qB a0 (qB a1 ?_)))))
   exact QI hf (qB rfl (qB hwo (qB rfl (qB rfl hr))))
  ·have hd := rdB out i _ h1
   have hi1 : i + 1 < out.length := (List.getElem?_eq_some_iff.1 hb').1
   have hdm : zw out ((i - 1 : Nat) : Int) = b := rdB out (i - 1) b hb
   have hdp : zw out ((i + 1 : Nat) : Int) = b' := rdB out (i + 1) b' hb'
   have hwm : wrap64 ((i : Int) - 1) = ((i - 1 : Nat) : Int) := (YA (by omega) (by omega)).trans (by omega)
   obtain ⟨a0, a1, hh, hbe⟩ := hgb
   have hval := ZL hv a0 a1
   have hko := zqF (n := nm) (m := nm') hval hs0 hs1
   have hf := zZ3 (qG l a) nm nm' s hval
   have e2 : b.f2 = a := by rw [hbe]; rfl
   have e4 : b.f4 = nm := by rw [hbe]; rfl
   have e4' : b'.f4 = nm' := by rw [hgb'.2.2.2]; rfl
   have hr := ih (i + 1) (UM n (Xl y)) (by omega) (by
    rw [← he, List.drop_eq_getElem_cons hi, List.foldl_cons]
    rw [List.getElem?_eq_getElem hi] at h1
    rw [Option.some.inj h1])
   have hra : zK l a = qG l a := rfl
   have p1 : (0 : Int) ≤ ((i - 1 : Nat) : Int) := by omega
   have p2 : ((i - 1 : Nat) : Int) < (out.length : Int) := by omega
   have p3 : (0 : Int) ≤ ((i + 1 : Nat) : Int) := by omega
   have p4 : ((i + 1 : Nat) : Int) < (out.length : Int) := by omega
   have p5 : ¬ (i : Int) = 0 := by omega
   have p6 : ¬ ((i + 1 : Nat) : Int) = (out.length : Int) := by omega
   have eY : (Xl y).f1 = y := rfl
   have eK : (Xl y).f0 = 2 := rfl
   have hz : ¬ ((Zx (qG l a) nm nm' s).1 == 0) = true := by rw [hky]; simpa using hy0
   subst hkt
   unfold UM at hr
   rw [eY] at hr
   refine Ev.step (fun k => by rw [zX.l0, hw, hd, eK]) (qB q1 (qB q2 (qB rfl (pq p5 (pq p6 ?_)))))
   refine Ev.step (fun k => by rw [zX.j1, hwm, hw, hdm, hdp, hd, e2, e4, e4', hra, eY]) (pq (by decide) (qB p1 (qB p2 (qB a0 (qB a1 (qB p3 (qB p4 ?_)))))))
   refine QI hf (qB hko (qB q2 (qB q1 (qB hky ?_))))
   refine Ev.step (fun k => by rw [zX.j2, hw, hky]) (pq (by rw [← hky]; exact hz) hr)
theorem zja (t : ByteArray) (f0 s0 : Int) (zI za : Bool) : Ev (fun k => zX.f k t f0 s0 zI za) true := by
 by_cases hs : (t.size : Int) > 300
 ·exact Ev.congr (fun k => by rw [zX.f]) (qB hs (QI rV (Ev.now _)))
 ·obtain ⟨i, hi, ei⟩ := aD f0 5 (by decide) (by decide)
  obtain ⟨j, hj, ej⟩ := aD s0 1000 (by decide) (by decide)
  have ej2 : wrap64 (1 + (j : Int)) = 1 + (j : Int) := YA (by omega) (by omega)
  have hc := zqC t (by omega)
  have hcl := V8 t
  have hbx := zx7 Zo (i : Int) (1 + (j : Int)) zI za (wI t) [] zx5 (by rw [PZ]; decide) (by omega) (Nat.zero_le _)
  refine Ev.congr (fun k => by rw [zX.f, ei, ej, ej2]) (pq hs (QI (x := xI.f) rfl (Ev.bind hc (QI hbx ?_))))
  unfold Kl
  by_cases hr : Xm Zo (i : Int) (1 + (j : Int)) (wI t) [] = true
  ·rw [if_pos hr]
   exact pq (by decide) (QI rV (Ev.now _))
  ·rw [if_neg hr]
   refine qB rfl ?_
   have hln := zqD Zo (i : Int) (1 + (j : Int)) za (Zi Zo (i : Int) zI (wI t) [])
   have hnl := iN Zo (i : Int) zI (wI t) []
   have hg := zzJ Zo (i : Int) (1 + (j : Int)) za (Zi Zo (i : Int) zI (wI t) []) (by omega) (by rw [PZ]; exact hi)
   generalize Qx Zo (i : Int) (1 + (j : Int)) za (Zi Zo (i : Int) zI (wI t) []) = R at hln hg ⊢
   exact zv3 Zo zzZ (by rw [PZ]; decide) R.1 (by omega) (i : Int) (1 + (j : Int)) zI za (by omega) (by omega) hg R.1.length 0 0 (by omega) (by rw [List.drop_zero])
theorem lZ (t : ByteArray) (f0 s0 : Int) (zI za : Bool) (w : World) (hG : GW w) : Calls Tryz.prog 6 #[.string t, .agg #[.int .i64 f0, .int .i64 s0, .bool zI, .bool za]] w fun e w' => e = .returned (.bool true) ∧ Below w.heap.size w w' := by
 obtain ⟨k, hk⟩ := (zja t f0 s0 zI za).rounds
 exact zX.calls k t f0 s0 zI za true w hG hk
end Go.Proofs.YtggifbbiiickmaaGreatDoor
namespace Go.Proofs.YtggifbbiiickmaaGreatDoor
open Go.ChangeShapes Go.WideShapes Go.RowKit Go.Deep Go.Proofs.zk.ze
section
variable {H : Type} {enc : TypeId × Value → H} {P : Program} {w : World} {sp : Nat → Bool} {held : Bool} {α : Type}
end
end Go.Proofs.YtggifbbiiickmaaGreatDoor
namespace Go.Proofs.YtggifbbiiickmaaGreatDoor
open Go.ChangeShapes Go.WideShapes Go.RowKit Go.Deep Go.Proofs.zk.ze Go.Proofs.YtggifbbiiickmaaGreatDoor.PX
set_option linter.unusedSimpArgs false
set_option linter.unusedVariables false
section
variable {H : Type} {enc : TypeId × Value → H} {w : World} {sp : Nat → Bool} {held : Bool}
set_option maxRecDepth 100000 in
theorem lQ {r : Reach} {b0 : Nat} {v : Value} {d0 : DataW H} {ps : List MemPlace}
  (hval : Value.okWide Tryz.prog w r b0 26 v) (h : DataW.Trod enc Tryz.prog w 0 sp held 26 v d0 ps) :
  ∃ (f s : Int) (lg kn : Bool), v = .agg #[.int .i64 f, .int .i64 s, .bool lg, .bool kn] := by
 obtain ⟨cs, rfl, hsz⟩ := okWide_struct Tryz.underlying26 hval
 obtain ⟨fuel, hf0⟩ := h
 obtain ⟨xs, k, hk, hxy, hcl, hxl, hf⟩ := DataW.trod_struct Tryz.underlying26 hf0
 have Wq : Tryz.prog.cellsOf 26 = 4 := by kernel_rfl
 have c3 : Tryz.prog.cellsOf 3 = 1 := by kernel_rfl
 have c4 : Tryz.prog.cellsOf 4 = 1 := by kernel_rfl
 have hcs : (Value.agg cs).cells.toList = cs.toList := by simp [Value.cells]
 rw [hcs] at hf hcl
 rw [Wq] at hcl
 have hcc : cs = ⟨cs.toList⟩ := rfl
 generalize cs.toList = L at hf hcl hcc
 subst hcc
 match xs, hxl, L, hcl with
 | [z0, z1, z2, z3], _, [v0, v1, v2, v3], _ =>
  have f0 := hf 0 _ rfl
  have f1 := hf 1 _ rfl
  have f2 := hf 2 _ rfl
  have f3 := hf 3 _ rfl
  simp [c3, c4] at f0 f1 f2 f3
  obtain ⟨n0, e0, _⟩ := DataW.trod_int Tryz.underlying3 f0
  obtain ⟨n1, e1, _⟩ := DataW.trod_int Tryz.underlying3 f1
  obtain ⟨n2, e2, _⟩ := DataW.trod_bool Tryz.underlying4 f2
  obtain ⟨n3, e3, _⟩ := DataW.trod_bool Tryz.underlying4 f3
  cases e0; cases e1; cases e2; cases e3
  exact ⟨n0, n1, n2, n3, rfl⟩
end
end Go.Proofs.YtggifbbiiickmaaGreatDoor
namespace Go.Proofs.YtggifbbiiickmaaGreatDoor
open Go.RowKit Go.ChangeShapes Go.WideShapes Go.Proofs.zk.ze
theorem UQ {P : Program} {w : World} {l : List (String × DataW Unit)} {n nm : String} {d : DataW Unit} {g : Nat} {t : TypeId} {ms : Array (String × TypeId)} (h : laidMet P l w) (hm : (n, .iface nm d) ∈ l)
  (hg : P.globalNamed n = some g) (ht : (P.globals[g]?).map (·.type) = some t) (hu : P.underlying t = some (.interface ms)) : ∃ tp p, w.var? P n = some #[.iface tp p] := by
 obtain ⟨g', t', cs, fuel, p, e1, e2, e3, e4⟩ := Lib.laidMet.reads h hm
 obtain rfl : g' = g := Option.some.inj (e1.symm.trans hg)
 obtain rfl : t' = t := Option.some.inj (e2.symm.trans ht)
 cases fuel with
 | zero => simp [DataW.trod] at e4
 | succ k =>
  unfold DataW.trod at e4
  rw [hu] at e4
  obtain ⟨cl⟩ := cs
  rw [e3]
  match cl, e4 with
  | [], e4 => simp at e4
  | [v], e4 =>
   cases v <;> simp at e4
   exact ⟨_, _, rfl⟩
  | _ :: _ :: _, e4 => simp at e4
theorem zy6 {W : World} {l : List (String × DataW Unit)} {ds : DataW Unit} {dr : DataW Unit} {n1 n2 : String} (h : laidMet Tryz.prog l W) (hsh : W.ShapedOpen Tryz.prog) (h1 : ("internal/strconv.uint64pow10", Lib.tabData .u64 Lib.pow10Tab) ∈ l) (h2 : ("strconv.ErrSyntax", .iface n1 ds) ∈ l) (h3 : ("strconv.ErrRange", .iface n2 dr) ∈ l) (h4 : ("strings.asciiSpace", Lib.tabData .u8 Lib.asciiSpaceTab) ∈ l) : GW W := by
 have htab : Lib.TabIs Tryz.prog W "internal/strconv.uint64pow10" .u64 Lib.pow10Tab := Uy (g := 7) (t := 270) (e := 214) (n := 20) (by kernel_rfl) (by kernel_rfl) Tryz.underlying270 Tryz.underlying214 (by kernel_rfl) (by kernel_rfl) h h1
 have zZ4 : Lib.TabIs Tryz.prog W "strings.asciiSpace" .u8 Lib.asciiSpaceTab := Uy (g := 0) (t := 169) (e := 5) (n := 256) (by kernel_rfl) (by kernel_rfl) Tryz.underlying169 Tryz.underlying5 (by kernel_rfl) (by kernel_rfl) h h4
 refine ⟨htab, UQ (g := 3) h h2 (by kernel_rfl) (t := 133) (by kernel_rfl) Tryz.underlying133, UQ (g := 4) h h3 (by kernel_rfl) (t := 133) (by kernel_rfl) Tryz.underlying133, zZ4,
  cell_of_shapedOpen_int (t := 3) (zero := #[.int .i64 0]) hsh (of_decide_eq_true (by kernel_rfl)) (by kernel_rfl) rfl (by kernel_rfl) (by kernel_rfl) Tryz.underlying3, ?_⟩
 obtain ⟨o, _, h4, _⟩ := hsh.2 11 (of_decide_eq_true (by kernel_rfl)) (of_decide_eq_true (by kernel_rfl))
 rcases Nat.lt_or_ge 11 W.heap.size with h5 | h5
 ·omega
 ·rw [Array.getElem?_eq_none h5] at h4; cases h4
end Go.Proofs.YtggifbbiiickmaaGreatDoor
