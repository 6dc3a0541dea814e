/-
  Texts that lean on one another, laid in one file. No condition.
-/
import Derived.Test.YtaifemkokfoadaaGreatDoorGSP1
import Derived.Test.YtaifemkokfoadaaGreatDoorGSP3
import Derived.Test.YtaifemkokfoadaaGreatDoorGSP4
import Derived.RangeFuncNested
import Derived.RangeFuncBound
import Derived.RangeFuncCalls
import Derived.RangeFuncLeaves
import Derived.Test.YtaifemkokfoadaaGreatDoorGSP5
import Derived.Deep.QuietTactic
import Derived.BigQuiet
import Derived.RangeFuncBox
import Derived.RangeFuncWrites
import Derived.RangeFuncOne
import Derived.RangeFuncFrom
import Derived.BigRegionIn
import Derived.Shelf.Abstract
import Derived.WalkKit
import Derived.OwnWalkIn
import Derived.TacticsInMore
import Derived.LoopNIn
import Derived.LoopIn
import Derived.Lib.Hide
import Derived.Lib.IndexLaws
import Derived.IntWalk
import Derived.WideLaws
import Derived.Test.YtaifemkokfoadaaGreatDoorGSP2
import Derived.Deep.Slices
import Derived.ChangeArms
import Derived.ChangeSlices
import Derived.SizedLaws
import Derived.WideShapes
import Derived.Lib.LaidU8
import Derived.Shelf.Vars
import Derived.Test.YtaifemkokfoadaaGreatDoorGSP6

set_option linter.unusedVariables false
set_option linter.unusedSimpArgs false

namespace Go.Proofs.YtaifemkokfoadaaGreatDoor.PX
open Go.RowKit Go.Proofs.zy.zK Go.Proofs.zy.yt Go.Proofs.zy.yV
attribute [local go_sem] xX xJ xP xR qD qE xV xK   -- for this text's walks alone
set_option linter.unusedVariables false
set_option linter.unusedSimpArgs false
def qW.f (k : Nat) (a0 : ByteArray) : Option (Bool) := if (a0.size : Int) > 2000 then ((vM.f).bind fun zqC => (some zqC)) else ((wH.f a0).bind fun YU => ((zZ.f k a0).bind fun wJ => (if YU.2.2.2.2.2.2 = wJ.2.2.2.2.2.2 then ((zu.f k YU.1 YU.2.1 YU.2.2.1 YU.2.2.2.1 YU.2.2.2.2.1 YU.2.2.2.2.2.1).bind fun kJ => ((ze.f k kJ.1 kJ.2.1 kJ.2.2.1 kJ.2.2.2.1 kJ.2.2.2.2.1 kJ.2.2.2.2.2 wJ.1 wJ.2.1 wJ.2.2.1 wJ.2.2.2.1 wJ.2.2.2.2.1 wJ.2.2.2.2.2.1).bind fun JM => (if JM = true then ((vM.f).bind fun X9 => (some X9)) else (some false)))) else (some false))))
def qW.T5 : Bool × List (List Nat × List Nat) := (true, [([], []), ([], []), ([0, 1], [0, 1]), ([2], [2]), ([3], [3]), ([4, 3, 3], [3, 4]), ([3], [3]), ([5, 6, 5, 3], [3, 5, 6]), ([3, 7], [3, 7]), ([8, 7], [8]), ([9, 9], [9]), ([9, 10], [9, 10]), ([11, 10, 0, 1, 2, 3, 4, 5, 6, 7, 8, 9, 10, 11], [11])])
def qW.B5 : List Nat := [0, 0, 3, 7, 15, 31, 15, 127, 255, 511, 1023, 2047, 4095]
theorem qW.mJ : uz .any (opsOf Tryz.f8 5) = qW.T5 := by kernel_rfl
theorem qW.mI : uZ qW.T5.2 qW.B5 = true := by kernel_rfl
set_option maxHeartbeats 8000000 in
set_option maxRecDepth 100000 in
theorem qW.calls (k : Nat) (a0 : ByteArray) (r : Bool) (w : World) (hG : GW w) (h : qW.f k a0 = some r) :
  Calls Tryz.prog 8 #[.string a0] w fun e w' => e = .returned (.bool r) ∧ Below w.heap.size w w' := by
 have lX := Tryz.underlying26
 have zyw := Tryz.underlying44
 have HG := zk.mk hG
 clear hG
 have HB := zk.mk (Below.refl w.heap.size w)
 have H : (if (a0.size : Int) > 2000 then ((vM.f).bind fun zqC => (some zqC)) else ((wH.f a0).bind fun YU => ((zZ.f k a0).bind fun wJ => (if YU.2.2.2.2.2.2 = wJ.2.2.2.2.2.2 then ((zu.f k YU.1 YU.2.1 YU.2.2.1 YU.2.2.2.1 YU.2.2.2.2.1 YU.2.2.2.2.2.1).bind fun kJ => ((ze.f k kJ.1 kJ.2.1 kJ.2.2.1 kJ.2.2.2.1 kJ.2.2.2.2.1 kJ.2.2.2.2.2 wJ.1 wJ.2.1 wJ.2.2.1 wJ.2.2.2.1 wJ.2.2.2.2.1 wJ.2.2.2.2.2.1).bind fun JM => (if JM = true then ((vM.f).bind fun X9 => (some X9)) else (some false)))) else (some false))))) = some r := h
 clear h
 by_cases c2 : (a0.size : Int) > 2000
 ·rw [if_pos c2] at H
  have WT : decide (2000 < (a0.size : Int)) = true := decide_eq_true c2
  have zZ6 : decide (2000 < a0.size) = true := decide_eq_true (by omega)
  clear c2
  replace H := Option.bind_eq_some_iff.mp H
  obtain ⟨zqC, rA, H⟩ := H
  replace H : (some zqC) = some r := H
  have A3 := zk.mk rA
  clear rA
  obtain rfl := Option.some.inj H
  go_enter Tryz.func8, Tryz.ntmps8
  go_wp2_with (first | ((with_reducible refine y7 (f := 12) rfl ?_); refine jP (some 10) Tryz.func12 #[] ?_; (with_reducible refine (vM.calls  zqC _ ?vR A3.out).mono ?_); (case vR => exact GW.under HG.out (yQ HB.out)); rintro e w4 ⟨rfl, hb⟩; refine ⟨_, rfl, ?_⟩; have zl := zk.mk (yg (yQ HB.out) hb); clear HB; have HB := zl; clear zl; (try clear hb); (try clear hb2); (try clear hk); (try clear hi)))
  go_ret
  exact ⟨by first | rfl | (simp [yw, yZ] <;> rfl) | (simp [*, yw, yZ] <;> rfl), by repeat (first | (with_reducible first | exact HB.out | apply yS | apply yx | apply yD) | exact HB.out)⟩
 ·rw [if_neg c2] at H
  have WT : decide (2000 < (a0.size : Int)) = false := decide_eq_false c2
  have zZ6 : decide (2000 < a0.size) = false := decide_eq_false (by omega)
  clear c2
  replace H := Option.bind_eq_some_iff.mp H
  obtain ⟨⟨uQ, uY, uH, uW, uI, u6, PK⟩, A50, H⟩ := H
  replace H : ((zZ.f k a0).bind fun wJ => (if PK = wJ.2.2.2.2.2.2 then ((zu.f k uQ uY uH uW uI u6).bind fun kJ => ((ze.f k kJ.1 kJ.2.1 kJ.2.2.1 kJ.2.2.2.1 kJ.2.2.2.2.1 kJ.2.2.2.2.2 wJ.1 wJ.2.1 wJ.2.2.1 wJ.2.2.2.1 wJ.2.2.2.2.1 wJ.2.2.2.2.2.1).bind fun JM => (if JM = true then ((vM.f).bind fun X9 => (some X9)) else (some false)))) else (some false))) = some r := H
  have A5 := zk.mk A50
  clear A50
  replace H := Option.bind_eq_some_iff.mp H
  obtain ⟨⟨xG, xL, xU, xM, vv, vK, nM⟩, A60, H⟩ := H
  replace H : (if PK = nM then ((zu.f k uQ uY uH uW uI u6).bind fun kJ => ((ze.f k kJ.1 kJ.2.1 kJ.2.2.1 kJ.2.2.2.1 kJ.2.2.2.2.1 kJ.2.2.2.2.2 xG xL xU xM vv vK).bind fun JM => (if JM = true then ((vM.f).bind fun X9 => (some X9)) else (some false)))) else (some false)) = some r := H
  have A6 := zk.mk A60
  clear A60
  by_cases c7 : PK = nM
  ·rw [if_pos c7] at H
   have VI : (PK == nM) = true := beq_iff_eq.mpr c7
   have rO : (PK != nM) = false := bne_eq_false_iff_eq.mpr c7
   clear c7
   replace H := Option.bind_eq_some_iff.mp H
   obtain ⟨⟨oW, oh, om, oo, ou, oC⟩, A80, H⟩ := H
   replace H : ((ze.f k oW oh om oo ou oC xG xL xU xM vv vK).bind fun JM => (if JM = true then ((vM.f).bind fun X9 => (some X9)) else (some false))) = some r := H
   have A8 := zk.mk A80
   clear A80
   replace H := Option.bind_eq_some_iff.mp H
   obtain ⟨JM, A90, H⟩ := H
   replace H : (if JM = true then ((vM.f).bind fun X9 => (some X9)) else (some false)) = some r := H
   have A9 := zk.mk A90
   clear A90
   by_cases c10 : JM = true
   ·subst c10
    have H1 : ((vM.f).bind fun X9 => (some X9)) = some r := by rw [if_pos rfl] at H; exact H
    clear H
    have H := H1
    clear H1
    replace H := Option.bind_eq_some_iff.mp H
    obtain ⟨X9, zje, H⟩ := H
    replace H : (some X9) = some r := H
    have A11 := zk.mk zje
    clear zje
    obtain rfl := Option.some.inj H
    go_enter Tryz.func8, Tryz.ntmps8
    try go_wp2_with (first | ((with_reducible refine y7 (f := 22) rfl ?_); refine jP (some 13) Tryz.func22 #[.string a0] ?_; (with_reducible refine (wH.calls a0 uQ uY uH uW uI u6 PK _ ?vR A5.out).mono ?_); (case vR => exact GW.under HG.out (yQ HB.out)); rintro e w12 ⟨zYS, zYT, zYU, rfl, ho0, ho1, ho2, hb⟩; refine ⟨_, rfl, ?_⟩; have zl := zk.mk (Kd.vB ho0 (zH (yQ HB.out))); have zC := zk.mk (Kd.vB ho1 (zH (yQ HB.out))); have zM := zk.mk (Kd.vB ho2 (zH (yQ HB.out))); have zT := zk.mk (yg (yQ HB.out) hb); clear HB; have xw := zl; have xZ := zC; have xQ := zM; have HB := zT; clear zl zC zM zT; (try clear hb); (try clear hb2); (try clear hk); (try clear hi); (try clear ho0); (try clear ho1); (try clear ho2)) | ((with_reducible refine xI (N := 3) rfl ?_); refine vJ ?hg (N := 3) ?hd (cs := #[.string (⟨#[]⟩ : ByteArray), .bool false, .int .i64 0, .slice none 0 0, .slice none 0 0, .slice none 0 0]) (t := 26) ?hr ?_; (case hd => rfl); (case hg => rfl); (case hr => first | (go_simp; done) | (go_simp; rfl)); intro yF hg KT vX hb; have zl := zk.mk (Kd.zf (yK xw.out) hb); have zC := zk.mk (Kd.zf (yK xZ.out) hb); have zM := zk.mk (Kd.zf (yK xQ.out) hb); have zT := zk.mk (yg (yQ HB.out) hb); have yL := zk.mk (vX); have y9 := zk.mk ((by rw [hg]; exact (zH (yQ HB.out)) : w.heap.size ≤ yF)); have qw := zk.mk ((by rw [hg]; exact (zH (yQ HB.out)) : w.heap.size ≤ yF)); clear xw; clear xZ; clear xQ; clear HB; have xw := zl; have xZ := zC; have xQ := zM; have HB := zT; have yX := yL; have zJb := y9; have zzC := qw; clear zl zC zM zT yL y9 qw; clear hb vX hg; have zJB : KT.cell? ⟨yF, 0, none⟩ = some (.string (⟨#[]⟩ : ByteArray)) := (zx yX.out 0).trans rfl; have zJC : KT.cell? ⟨yF, 1, none⟩ = some (.bool false) := (zx yX.out 1).trans rfl; have zJD : KT.cell? ⟨yF, 2, none⟩ = some (.int .i64 0) := (zx yX.out 2).trans rfl; have zJE : KT.cell? ⟨yF, 3, none⟩ = some (.slice none 0 0) := (zx yX.out 3).trans rfl; have zJF : KT.cell? ⟨yF, 4, none⟩ = some (.slice none 0 0) := (zx yX.out 4).trans rfl; have zJG : KT.cell? ⟨yF, 5, none⟩ = some (.slice none 0 0) := (zx yX.out 5).trans rfl; have zJH := zw yX.out 0; have zJI := zw yX.out 1; have zJL := zw yX.out 2; have zJM := zw yX.out 3; have zJN := zw yX.out 4; have zJO := zw yX.out 5; obtain ⟨Qz, Qq, zf4⟩ := Kd.yA xw.out; subst zf4; obtain ⟨QC, QD, zf5⟩ := Kd.yA xZ.out; subst zf5; obtain ⟨Qt, Qu, zQf⟩ := Kd.yA xQ.out; subst zQf) | ((with_reducible refine y7 (f := 23) rfl ?_); refine jP (some 18) Tryz.func23 #[.string a0] ?_; (with_reducible refine (zZ.calls k a0 xG xL xU xM vv vK nM _ A6.out).mono ?_); rintro e w18 ⟨zY0, zY1, zY2, rfl, ho0, ho1, ho2, hb⟩; refine ⟨_, rfl, ?_⟩; have zl := zk.mk (Kd.zf (by (with_reducible repeat (first | apply Kd.yT | apply Kd.yU | apply Kd.yj)); exact (Kd.yh (Kd.zW (p := ⟨yF, 5, none⟩) (Kd.zW (p := ⟨yF, 4, none⟩) (Kd.zW (p := ⟨yF, 3, none⟩) (Kd.zW (p := ⟨yF, 2, none⟩) (Kd.zW (p := ⟨yF, 1, none⟩) (Kd.zW (p := ⟨yF, 0, none⟩) (Kd.qg xw.out yX.out (by decide)) (fun _ hk => hk.2) (.string uQ)) (fun _ hk => hk.2) (.bool uY)) (fun _ hk => hk.2) (.int .i64 uH)) (fun _ hk => hk.2) (.slice Qz uW.length Qq)) (fun _ hk => hk.2) (.slice QC uI.length QD)) (fun _ hk => hk.2) (.slice Qt u6.length Qu)) (fun _ h_ => h_.1))) hb); have zC := zk.mk (Kd.zf (by (with_reducible repeat (first | apply Kd.yT | apply Kd.yU | apply Kd.yj)); exact (Kd.yh (Kd.zW (p := ⟨yF, 5, none⟩) (Kd.zW (p := ⟨yF, 4, none⟩) (Kd.zW (p := ⟨yF, 3, none⟩) (Kd.zW (p := ⟨yF, 2, none⟩) (Kd.zW (p := ⟨yF, 1, none⟩) (Kd.zW (p := ⟨yF, 0, none⟩) (Kd.qg xZ.out yX.out (by decide)) (fun _ hk => hk.2) (.string uQ)) (fun _ hk => hk.2) (.bool uY)) (fun _ hk => hk.2) (.int .i64 uH)) (fun _ hk => hk.2) (.slice Qz uW.length Qq)) (fun _ hk => hk.2) (.slice QC uI.length QD)) (fun _ hk => hk.2) (.slice Qt u6.length Qu)) (fun _ h_ => h_.1))) hb); have zM := zk.mk (Kd.zf (by (with_reducible repeat (first | apply Kd.yT | apply Kd.yU | apply Kd.yj)); exact (Kd.yh (Kd.zW (p := ⟨yF, 5, none⟩) (Kd.zW (p := ⟨yF, 4, none⟩) (Kd.zW (p := ⟨yF, 3, none⟩) (Kd.zW (p := ⟨yF, 2, none⟩) (Kd.zW (p := ⟨yF, 1, none⟩) (Kd.zW (p := ⟨yF, 0, none⟩) (Kd.qg xQ.out yX.out (by decide)) (fun _ hk => hk.2) (.string uQ)) (fun _ hk => hk.2) (.bool uY)) (fun _ hk => hk.2) (.int .i64 uH)) (fun _ hk => hk.2) (.slice Qz uW.length Qq)) (fun _ hk => hk.2) (.slice QC uI.length QD)) (fun _ hk => hk.2) (.slice Qt u6.length Qu)) (fun _ h_ => h_.1))) hb); have zT := zk.mk (Kd.vB ho0 (zH (yQ HB.out))); have yL := zk.mk (Kd.vB ho1 (zH (yQ HB.out))); have y9 := zk.mk (Kd.vB ho2 (zH (yQ HB.out))); have qw := zk.mk (zo (g := yF) (o := .cells #[.string uQ, .bool uY, .int .i64 uH, .slice Qz uW.length Qq, .slice QC uI.length QD, .slice Qt u6.length Qu] 26 (0, 0)) (by (with_reducible repeat (first | refine zY ?_ _ | refine zV ?_ | refine zQ ?_ _)); refine zi (cs := #[.string uQ, .bool uY, .int .i64 uH, .slice Qz uW.length Qq, .slice QC uI.length QD, .slice none 0 0]) ?_ 5 _ rfl; (with_reducible repeat (first | refine zY ?_ _ | refine zV ?_ | refine zQ ?_ _)); refine zi (cs := #[.string uQ, .bool uY, .int .i64 uH, .slice Qz uW.length Qq, .slice none 0 0, .slice none 0 0]) ?_ 4 _ rfl; (with_reducible repeat (first | refine zY ?_ _ | refine zV ?_ | refine zQ ?_ _)); refine zi (cs := #[.string uQ, .bool uY, .int .i64 uH, .slice none 0 0, .slice none 0 0, .slice none 0 0]) ?_ 3 _ rfl; (with_reducible repeat (first | refine zY ?_ _ | refine zV ?_ | refine zQ ?_ _)); refine zi (cs := #[.string uQ, .bool uY, .int .i64 0, .slice none 0 0, .slice none 0 0, .slice none 0 0]) ?_ 2 _ rfl; (with_reducible repeat (first | refine zY ?_ _ | refine zV ?_ | refine zQ ?_ _)); refine zi (cs := #[.string uQ, .bool false, .int .i64 0, .slice none 0 0, .slice none 0 0, .slice none 0 0]) ?_ 1 _ rfl; (with_reducible repeat (first | refine zY ?_ _ | refine zV ?_ | refine zQ ?_ _)); refine zi (cs := #[.string (⟨#[]⟩ : ByteArray), .bool false, .int .i64 0, .slice none 0 0, .slice none 0 0, .slice none 0 0]) ?_ 0 _ rfl; (with_reducible repeat (first | refine zY ?_ _ | refine zV ?_ | refine zQ ?_ _)); exact yX.out) hb); have xg := zk.mk (yg (yQ HB.out) hb); clear xw; clear xZ; clear xQ; clear yX; clear HB; have xw := zl; have xZ := zC; have xQ := zM; have vE := zT; have vF := yL; have vG := y9; have yX := qw; have HB := xg; clear zl zC zM zT yL y9 qw xg; (try clear hb); (try clear hb2); (try clear hk); (try clear hi); (try clear ho0); (try clear ho1); (try clear ho2)) | ((with_reducible refine xI (N := 5) rfl ?_); refine vJ ?hg (N := 5) ?hd (cs := #[.string (⟨#[]⟩ : ByteArray), .bool false, .int .i64 0, .slice none 0 0, .slice none 0 0, .slice none 0 0]) (t := 44) ?hr ?_; (case hd => rfl); (case hg => rfl); (case hr => first | (go_simp; done) | (go_simp; rfl)); intro zX hg Y6 vX hb; have zl := zk.mk (Kd.zf (yK xw.out) hb); have zC := zk.mk (Kd.zf (yK xZ.out) hb); have zM := zk.mk (Kd.zf (yK xQ.out) hb); have zT := zk.mk (Kd.zf (yK vE.out) hb); have yL := zk.mk (Kd.zf (yK vF.out) hb); have y9 := zk.mk (Kd.zf (yK vG.out) hb); have qw := zk.mk (zo (g := yF) (o := .cells #[.string uQ, .bool uY, .int .i64 uH, .slice Qz uW.length Qq, .slice QC uI.length QD, .slice Qt u6.length Qu] 26 (0, 0)) (qV yX.out) hb); have xg := zk.mk (yg (yQ HB.out) hb); have jS := zk.mk (vX); have YB := zk.mk ((by rw [hg]; exact (zH (yQ HB.out)) : w.heap.size ≤ zX)); have Zp := zk.mk ((by rw [hg]; exact (zH (yQ HB.out)) : w.heap.size ≤ zX)); have Zr := zk.mk ((by rw [hg]; exact Nat.ne_of_lt (uM (g := yF) (o := .cells #[.string uQ, .bool uY, .int .i64 uH, .slice Qz uW.length Qq, .slice QC uI.length QD, .slice Qt u6.length Qu] 26 (0, 0)) (qV yX.out)) : yF ≠ zX)); have tC := zk.mk ((by rw [hg]; exact Nat.ne_of_gt (uM (g := yF) (o := .cells #[.string uQ, .bool uY, .int .i64 uH, .slice Qz uW.length Qq, .slice QC uI.length QD, .slice Qt u6.length Qu] 26 (0, 0)) (qV yX.out)) : zX ≠ yF)); clear xw; clear xZ; clear xQ; clear vE; clear vF; clear vG; clear yX; clear HB; have xw := zl; have xZ := zC; have xQ := zM; have vE := zT; have vF := yL; have vG := y9; have yX := qw; have HB := xg; have yu := jS; have zJc := YB; have zzD := Zp; have JA := Zr; have JB := tC; clear zl zC zM zT yL y9 qw xg jS YB Zp Zr tC; clear hb vX hg; have zXl := JB.out; have zXm := JA.out; have bF : Y6.cell? ⟨zX, 0, none⟩ = some (.string (⟨#[]⟩ : ByteArray)) := (zx yu.out 0).trans rfl; have bG : Y6.cell? ⟨zX, 1, none⟩ = some (.bool false) := (zx yu.out 1).trans rfl; have bH : Y6.cell? ⟨zX, 2, none⟩ = some (.int .i64 0) := (zx yu.out 2).trans rfl; have bI : Y6.cell? ⟨zX, 3, none⟩ = some (.slice none 0 0) := (zx yu.out 3).trans rfl; have bL : Y6.cell? ⟨zX, 4, none⟩ = some (.slice none 0 0) := (zx yu.out 4).trans rfl; have bM : Y6.cell? ⟨zX, 5, none⟩ = some (.slice none 0 0) := (zx yu.out 5).trans rfl; have bN := zw yu.out 0; have bO := zw yu.out 1; have bP := zw yu.out 2; have bR := zw yu.out 3; have bS := zw yu.out 4; have bT := zw yu.out 5; obtain ⟨wM, wN, zQg⟩ := Kd.yA vE.out; subst zQg; obtain ⟨Zz, Zq, zf6⟩ := Kd.yA vF.out; subst zf6; obtain ⟨Zt, Zu, zf7⟩ := Kd.yA vG.out; subst zf7))
    have zl : zk (Kd.R jB 31 ((((((Y6.setCell ⟨zX, 0, none⟩ (.string xG)).setCell ⟨zX, 1, none⟩ (.bool xL)).setCell ⟨zX, 2, none⟩ (.int .i64 xU)).setCell ⟨zX, 3, none⟩ (.slice wM xM.length wN)).setCell ⟨zX, 4, none⟩ (.slice Zz vv.length Zq)).setCell ⟨zX, 5, none⟩ (.slice Zt vK.length Zu)) w.heap.size (fun _ => True) (.slice Qz uW.length Qq) uW) := ⟨by (with_reducible repeat (first | apply Kd.yT | apply Kd.yU | apply Kd.yj)); exact Kd.yh (Kd.zW (p := ⟨zX, 5, none⟩) (Kd.zW (p := ⟨zX, 4, none⟩) (Kd.zW (p := ⟨zX, 3, none⟩) (Kd.zW (p := ⟨zX, 2, none⟩) (Kd.zW (p := ⟨zX, 1, none⟩) (Kd.zW (p := ⟨zX, 0, none⟩) (Kd.qg xw.out yu.out (by decide)) (fun _ hk => hk.2) (.string xG)) (fun _ hk => hk.2) (.bool xL)) (fun _ hk => hk.2) (.int .i64 xU)) (fun _ hk => hk.2) (.slice wM xM.length wN)) (fun _ hk => hk.2) (.slice Zz vv.length Zq)) (fun _ hk => hk.2) (.slice Zt vK.length Zu)) (fun _ hk => trivial)⟩
    have zC : zk (Kd.R kS 86 ((((((Y6.setCell ⟨zX, 0, none⟩ (.string xG)).setCell ⟨zX, 1, none⟩ (.bool xL)).setCell ⟨zX, 2, none⟩ (.int .i64 xU)).setCell ⟨zX, 3, none⟩ (.slice wM xM.length wN)).setCell ⟨zX, 4, none⟩ (.slice Zz vv.length Zq)).setCell ⟨zX, 5, none⟩ (.slice Zt vK.length Zu)) w.heap.size (fun _ => True) (.slice QC uI.length QD) uI) := ⟨by (with_reducible repeat (first | apply Kd.yT | apply Kd.yU | apply Kd.yj)); exact Kd.yh (Kd.zW (p := ⟨zX, 5, none⟩) (Kd.zW (p := ⟨zX, 4, none⟩) (Kd.zW (p := ⟨zX, 3, none⟩) (Kd.zW (p := ⟨zX, 2, none⟩) (Kd.zW (p := ⟨zX, 1, none⟩) (Kd.zW (p := ⟨zX, 0, none⟩) (Kd.qg xZ.out yu.out (by decide)) (fun _ hk => hk.2) (.string xG)) (fun _ hk => hk.2) (.bool xL)) (fun _ hk => hk.2) (.int .i64 xU)) (fun _ hk => hk.2) (.slice wM xM.length wN)) (fun _ hk => hk.2) (.slice Zz vv.length Zq)) (fun _ hk => hk.2) (.slice Zt vK.length Zu)) (fun _ hk => trivial)⟩
    have zM : zk (Kd.R kU 76 ((((((Y6.setCell ⟨zX, 0, none⟩ (.string xG)).setCell ⟨zX, 1, none⟩ (.bool xL)).setCell ⟨zX, 2, none⟩ (.int .i64 xU)).setCell ⟨zX, 3, none⟩ (.slice wM xM.length wN)).setCell ⟨zX, 4, none⟩ (.slice Zz vv.length Zq)).setCell ⟨zX, 5, none⟩ (.slice Zt vK.length Zu)) w.heap.size (fun _ => True) (.slice Qt u6.length Qu) u6) := ⟨by (with_reducible repeat (first | apply Kd.yT | apply Kd.yU | apply Kd.yj)); exact Kd.yh (Kd.zW (p := ⟨zX, 5, none⟩) (Kd.zW (p := ⟨zX, 4, none⟩) (Kd.zW (p := ⟨zX, 3, none⟩) (Kd.zW (p := ⟨zX, 2, none⟩) (Kd.zW (p := ⟨zX, 1, none⟩) (Kd.zW (p := ⟨zX, 0, none⟩) (Kd.qg xQ.out yu.out (by decide)) (fun _ hk => hk.2) (.string xG)) (fun _ hk => hk.2) (.bool xL)) (fun _ hk => hk.2) (.int .i64 xU)) (fun _ hk => hk.2) (.slice wM xM.length wN)) (fun _ hk => hk.2) (.slice Zz vv.length Zq)) (fun _ hk => hk.2) (.slice Zt vK.length Zu)) (fun _ hk => trivial)⟩
    have zT : zk (Kd.R YQ 81 ((((((Y6.setCell ⟨zX, 0, none⟩ (.string xG)).setCell ⟨zX, 1, none⟩ (.bool xL)).setCell ⟨zX, 2, none⟩ (.int .i64 xU)).setCell ⟨zX, 3, none⟩ (.slice wM xM.length wN)).setCell ⟨zX, 4, none⟩ (.slice Zz vv.length Zq)).setCell ⟨zX, 5, none⟩ (.slice Zt vK.length Zu)) w.heap.size (fun _ => True) (.slice wM xM.length wN) xM) := ⟨by (with_reducible repeat (first | apply Kd.yT | apply Kd.yU | apply Kd.yj)); exact Kd.yh (Kd.zW (p := ⟨zX, 5, none⟩) (Kd.zW (p := ⟨zX, 4, none⟩) (Kd.zW (p := ⟨zX, 3, none⟩) (Kd.zW (p := ⟨zX, 2, none⟩) (Kd.zW (p := ⟨zX, 1, none⟩) (Kd.zW (p := ⟨zX, 0, none⟩) (Kd.qg vE.out yu.out (by decide)) (fun _ hk => hk.2) (.string xG)) (fun _ hk => hk.2) (.bool xL)) (fun _ hk => hk.2) (.int .i64 xU)) (fun _ hk => hk.2) (.slice wM xM.length wN)) (fun _ hk => hk.2) (.slice Zz vv.length Zq)) (fun _ hk => hk.2) (.slice Zt vK.length Zu)) (fun _ hk => trivial)⟩
    have yL : zk (Kd.R Yt 83 ((((((Y6.setCell ⟨zX, 0, none⟩ (.string xG)).setCell ⟨zX, 1, none⟩ (.bool xL)).setCell ⟨zX, 2, none⟩ (.int .i64 xU)).setCell ⟨zX, 3, none⟩ (.slice wM xM.length wN)).setCell ⟨zX, 4, none⟩ (.slice Zz vv.length Zq)).setCell ⟨zX, 5, none⟩ (.slice Zt vK.length Zu)) w.heap.size (fun _ => True) (.slice Zz vv.length Zq) vv) := ⟨by (with_reducible repeat (first | apply Kd.yT | apply Kd.yU | apply Kd.yj)); exact Kd.yh (Kd.zW (p := ⟨zX, 5, none⟩) (Kd.zW (p := ⟨zX, 4, none⟩) (Kd.zW (p := ⟨zX, 3, none⟩) (Kd.zW (p := ⟨zX, 2, none⟩) (Kd.zW (p := ⟨zX, 1, none⟩) (Kd.zW (p := ⟨zX, 0, none⟩) (Kd.qg vF.out yu.out (by decide)) (fun _ hk => hk.2) (.string xG)) (fun _ hk => hk.2) (.bool xL)) (fun _ hk => hk.2) (.int .i64 xU)) (fun _ hk => hk.2) (.slice wM xM.length wN)) (fun _ hk => hk.2) (.slice Zz vv.length Zq)) (fun _ hk => hk.2) (.slice Zt vK.length Zu)) (fun _ hk => trivial)⟩
    have y9 : zk (Kd.R Yu 84 ((((((Y6.setCell ⟨zX, 0, none⟩ (.string xG)).setCell ⟨zX, 1, none⟩ (.bool xL)).setCell ⟨zX, 2, none⟩ (.int .i64 xU)).setCell ⟨zX, 3, none⟩ (.slice wM xM.length wN)).setCell ⟨zX, 4, none⟩ (.slice Zz vv.length Zq)).setCell ⟨zX, 5, none⟩ (.slice Zt vK.length Zu)) w.heap.size (fun _ => True) (.slice Zt vK.length Zu) vK) := ⟨by (with_reducible repeat (first | apply Kd.yT | apply Kd.yU | apply Kd.yj)); exact Kd.yh (Kd.zW (p := ⟨zX, 5, none⟩) (Kd.zW (p := ⟨zX, 4, none⟩) (Kd.zW (p := ⟨zX, 3, none⟩) (Kd.zW (p := ⟨zX, 2, none⟩) (Kd.zW (p := ⟨zX, 1, none⟩) (Kd.zW (p := ⟨zX, 0, none⟩) (Kd.qg vG.out yu.out (by decide)) (fun _ hk => hk.2) (.string xG)) (fun _ hk => hk.2) (.bool xL)) (fun _ hk => hk.2) (.int .i64 xU)) (fun _ hk => hk.2) (.slice wM xM.length wN)) (fun _ hk => hk.2) (.slice Zz vv.length Zq)) (fun _ hk => hk.2) (.slice Zt vK.length Zu)) (fun _ hk => trivial)⟩
    have qw : zk (((((((Y6.setCell ⟨zX, 0, none⟩ (.string xG)).setCell ⟨zX, 1, none⟩ (.bool xL)).setCell ⟨zX, 2, none⟩ (.int .i64 xU)).setCell ⟨zX, 3, none⟩ (.slice wM xM.length wN)).setCell ⟨zX, 4, none⟩ (.slice Zz vv.length Zq)).setCell ⟨zX, 5, none⟩ (.slice Zt vK.length Zu)).heap[yF]? = some (.cells #[.string uQ, .bool uY, .int .i64 uH, .slice Qz uW.length Qq, .slice QC uI.length QD, .slice Qt u6.length Qu] 26 (0, 0))) := ⟨JO yX.out⟩
    have xg : zk (((((((Y6.setCell ⟨zX, 0, none⟩ (.string xG)).setCell ⟨zX, 1, none⟩ (.bool xL)).setCell ⟨zX, 2, none⟩ (.int .i64 xU)).setCell ⟨zX, 3, none⟩ (.slice wM xM.length wN)).setCell ⟨zX, 4, none⟩ (.slice Zz vv.length Zq)).setCell ⟨zX, 5, none⟩ (.slice Zt vK.length Zu)).heap[zX]? = some (.cells #[.string xG, .bool xL, .int .i64 xU, .slice wM xM.length wN, .slice Zz vv.length Zq, .slice Zt vK.length Zu] 44 (0, 0))) := ⟨by (with_reducible repeat (first | refine zY ?_ _ | refine zV ?_ | refine zQ ?_ _)); refine zi (cs := #[.string xG, .bool xL, .int .i64 xU, .slice wM xM.length wN, .slice Zz vv.length Zq, .slice none 0 0]) ?_ 5 _ rfl; (with_reducible repeat (first | refine zY ?_ _ | refine zV ?_ | refine zQ ?_ _)); refine zi (cs := #[.string xG, .bool xL, .int .i64 xU, .slice wM xM.length wN, .slice none 0 0, .slice none 0 0]) ?_ 4 _ rfl; (with_reducible repeat (first | refine zY ?_ _ | refine zV ?_ | refine zQ ?_ _)); refine zi (cs := #[.string xG, .bool xL, .int .i64 xU, .slice none 0 0, .slice none 0 0, .slice none 0 0]) ?_ 3 _ rfl; (with_reducible repeat (first | refine zY ?_ _ | refine zV ?_ | refine zQ ?_ _)); refine zi (cs := #[.string xG, .bool xL, .int .i64 0, .slice none 0 0, .slice none 0 0, .slice none 0 0]) ?_ 2 _ rfl; (with_reducible repeat (first | refine zY ?_ _ | refine zV ?_ | refine zQ ?_ _)); refine zi (cs := #[.string xG, .bool false, .int .i64 0, .slice none 0 0, .slice none 0 0, .slice none 0 0]) ?_ 1 _ rfl; (with_reducible repeat (first | refine zY ?_ _ | refine zV ?_ | refine zQ ?_ _)); refine zi (cs := #[.string (⟨#[]⟩ : ByteArray), .bool false, .int .i64 0, .slice none 0 0, .slice none 0 0, .slice none 0 0]) ?_ 0 _ rfl; (with_reducible repeat (first | refine zY ?_ _ | refine zV ?_ | refine zQ ?_ _)); exact yu.out⟩
    have jS : zk (Below w.heap.size w ((((((Y6.setCell ⟨zX, 0, none⟩ (.string xG)).setCell ⟨zX, 1, none⟩ (.bool xL)).setCell ⟨zX, 2, none⟩ (.int .i64 xU)).setCell ⟨zX, 3, none⟩ (.slice wM xM.length wN)).setCell ⟨zX, 4, none⟩ (.slice Zz vv.length Zq)).setCell ⟨zX, 5, none⟩ (.slice Zt vK.length Zu))) := ⟨yQ HB.out⟩
    (try clear xw)
    (try clear xZ)
    (try clear xQ)
    (try clear vE)
    (try clear vF)
    (try clear vG)
    (try clear yX)
    (try clear yu)
    (try clear HB)
    generalize ((((((Y6.setCell ⟨zX, 0, none⟩ (.string xG)).setCell ⟨zX, 1, none⟩ (.bool xL)).setCell ⟨zX, 2, none⟩ (.int .i64 xU)).setCell ⟨zX, 3, none⟩ (.slice wM xM.length wN)).setCell ⟨zX, 4, none⟩ (.slice Zz vv.length Zq)).setCell ⟨zX, 5, none⟩ (.slice Zt vK.length Zu)) = w25 at zl zC zM zT yL y9 qw xg jS ⊢
    have xw := zl
    have xZ := zC
    have xQ := zM
    have vE := zT
    have vF := yL
    have vG := y9
    have yX := qw
    have yu := xg
    have HB := jS
    clear zl zC zM zT yL y9 qw xg jS
    have zl := zk.mk (Kd.yj xw.out)
    have zC := zk.mk (Kd.yj xZ.out)
    have zM := zk.mk (Kd.yj xQ.out)
    have zT := zk.mk (Kd.yj vE.out)
    have yL := zk.mk (Kd.yj vF.out)
    have y9 := zk.mk (Kd.yj vG.out)
    have qw := zk.mk (zV yX.out)
    have xg := zk.mk (zV yu.out)
    have jS := zk.mk (yD HB.out)
    clear xw
    clear xZ
    clear xQ
    clear vE
    clear vF
    clear vG
    clear yX
    clear yu
    clear HB
    have xw := zl
    have xZ := zC
    have xQ := zM
    have vE := zT
    have vF := yL
    have vG := y9
    have yX := qw
    have yu := xg
    have HB := jS
    clear zl zC zM zT yL y9 qw xg jS
    refine wW (n := 13) (S := fun w' => w'.cell? ⟨yF, 0, none⟩ = some (.string uQ) ∧ w'.cell? ⟨yF, 1, none⟩ = some (.bool uY) ∧ w'.cell? ⟨yF, 2, none⟩ = some (.int .i64 uH) ∧ w'.cell? ⟨yF, 3, none⟩ = some (.slice Qz uW.length Qq) ∧ w'.cell? ⟨yF, 4, none⟩ = some (.slice QC uI.length QD) ∧ w'.cell? ⟨yF, 5, none⟩ = some (.slice Qt u6.length Qu) ∧ w'.cell? ⟨zX, 0, none⟩ = some (.string xG) ∧ w'.cell? ⟨zX, 1, none⟩ = some (.bool xL) ∧ w'.cell? ⟨zX, 2, none⟩ = some (.int .i64 xU) ∧ w'.cell? ⟨zX, 3, none⟩ = some (.slice wM xM.length wN) ∧ w'.cell? ⟨zX, 4, none⟩ = some (.slice Zz vv.length Zq) ∧ w'.cell? ⟨zX, 5, none⟩ = some (.slice Zt vK.length Zu)) (ds := []) #[false, false, false, false, false, false, false, false, false, false, false, false, false] (by kernel_rfl) rfl rfl ⟨(zx yX.out 0).trans rfl, (zx yX.out 1).trans rfl, (zx yX.out 2).trans rfl, (zx yX.out 3).trans rfl, (zx yX.out 4).trans rfl, (zx yX.out 5).trans rfl, (zx yu.out 0).trans rfl, (zx yu.out 1).trans rfl, (zx yu.out 2).trans rfl, (zx yu.out 3).trans rfl, (zx yu.out 4).trans rfl, (zx yu.out 5).trans rfl⟩ (fun hHeld => ?_); refine wI qW.mJ qW.mI (fun yY jT => ?_)
    generalize w25.drew = w26 at xw xZ xQ vE vF vG yX yu HB hHeld ⊢
    refine vw (i := 0) (N := some 21) (v := ?_) (a' := ?_) #[true, false, false, false, false, false, false, false, false, false, false, false, false] rfl rfl (xk yY.out (by kernel_rfl)) (fun _ _ _ h => h) (Or.inl ⟨by rfl, ?_⟩) ?_ ?_
    rotate_left
    ·intro w'
     go_simp
     with_reducible rfl
    rotate_left
    ·simp only [Act.put, List.setIfInBounds_toArray, List.set_cons_zero, List.set_cons_succ, vZ, vQ]
     rfl
    refine vw (i := 1) (N := some 22) (v := ?_) (a' := ?_) #[true, true, false, false, false, false, false, false, false, false, false, false, false] rfl rfl (xk yY.out (by kernel_rfl)) (fun _ _ _ h => h) (Or.inl ⟨by rfl, ?_⟩) ?_ ?_
    rotate_left
    ·intro w'
     go_simp
     with_reducible rfl
    rotate_left
    ·simp only [Act.put, List.setIfInBounds_toArray, List.set_cons_zero, List.set_cons_succ, vZ, vQ]
     rfl
    refine vw (i := 2) (N := some 23) (v := ?_) (a' := ?_) #[true, true, true, false, false, false, false, false, false, false, false, false, false] rfl rfl (xk yY.out (by kernel_rfl)) (fun _ _ _ h => h) (Or.inl ⟨by rfl, ?_⟩) ?_ ?_
    rotate_left
    ·intro w'
     go_simp
     with_reducible rfl
    rotate_left
    ·simp only [Act.put, List.setIfInBounds_toArray, List.set_cons_zero, List.set_cons_succ, vZ, vQ]
     rfl
    refine vw (i := 3) (N := some 24) (v := ?_) (a' := ?_) #[true, true, true, true, false, false, false, false, false, false, false, false, false] rfl rfl (xk yY.out (by kernel_rfl)) (fun _ _ _ h => h) (Or.inl ⟨by rfl, ?_⟩) ?_ ?_
    rotate_left
    ·intro w'
     go_simp
     with_reducible rfl
    rotate_left
    ·simp only [Act.put, List.setIfInBounds_toArray, List.set_cons_zero, List.set_cons_succ, vZ, vQ]
     rfl
    refine Qf (i := 4) (N := some 25) (v := ?_) (a' := ?_) #[true, true, true, true, true, false, false, false, false, false, false, false, false] rfl rfl (Qm yY.out jT.out (by kernel_rfl)) (fun _ _ _ h => h) (Or.inl ⟨by rfl, ?_⟩) hHeld ?_ ?_
    rotate_left
    ·rintro w' ⟨s0, s1, s2, s3, s4, s5, s6, s7, s8, s9, s10, s11⟩
     go_simp
     with_reducible rfl
    rotate_left
    ·simp only [Act.put, List.setIfInBounds_toArray, List.set_cons_zero, List.set_cons_succ, vZ, vQ]
     rfl
    refine Qf (i := 6) (N := some 27) (v := ?_) (a' := ?_) #[true, true, true, true, true, false, true, false, false, false, false, false, false] rfl rfl (Qm yY.out jT.out (by kernel_rfl)) (fun _ _ _ h => h) (Or.inl ⟨by rfl, ?_⟩) hHeld ?_ ?_
    rotate_left
    ·rintro w' ⟨s0, s1, s2, s3, s4, s5, s6, s7, s8, s9, s10, s11⟩
     go_simp
     with_reducible rfl
    rotate_left
    ·simp only [Act.put, List.setIfInBounds_toArray, List.set_cons_zero, List.set_cons_succ, vZ, vQ]
     rfl
    refine YF (i := 5) (N := some 26) #[true, true, true, true, true, true, true, false, false, false, false, false, false] rfl rfl (uw yY.out (by kernel_rfl)) (by decide) (fun K hK => ?_)
    refine gP Tryz.func16 (by kernel_rfl) rfl #[.agg #[.string uQ, .bool uY, .int .i64 uH, .slice Qz uW.length Qq, .slice QC uI.length QD, .slice Qt u6.length Qu]] (by rfl) rfl rfl (by (try simp only [List.map_toArray, List.map_cons, List.map_nil]); first | done | rfl | (simp only [List.length_drop, List.length_take]; rfl)) ?_
    with_reducible refine (zu.calls k uQ uY uH _ _ uW _ _ uI _ _ u6 oW oh om oo ou oC _ ?vR ?jK ?jY ?jW ?jc ?jd A8.out).mono ?_
    (case vR => repeat (first | exact (Kd.yc xw.out).2.2 | (with_reducible refine Kd.qx ?_ _) | (with_reducible refine Kd.qj ?_ _) | (with_reducible refine Kd.qo ?_)))
    (case jK => exact (Kd.yc xw.out).2.1)
    (case jY => repeat (first | exact (Kd.yc xZ.out).2.2 | (with_reducible refine Kd.qx ?_ _) | (with_reducible refine Kd.qj ?_ _) | (with_reducible refine Kd.qo ?_)))
    (case jW => exact (Kd.yc xZ.out).2.1)
    (case jc => repeat (first | exact (Kd.yc xQ.out).2.2 | (with_reducible refine Kd.qx ?_ _) | (with_reducible refine Kd.qj ?_ _) | (with_reducible refine Kd.qo ?_)))
    (case jd => exact (Kd.yc xQ.out).2.1)
    rintro e w27 ⟨zf8, zf9, zgz, rfl, ho0, ho1, ho2, hb⟩
    refine ⟨_, rfl, ?_⟩
    have zl := zk.mk (Kd.zf (yK xw.out) hb)
    have zC := zk.mk (Kd.zf (yK xZ.out) hb)
    have zM := zk.mk (Kd.zf (yK xQ.out) hb)
    have zT := zk.mk (Kd.YE (yK vE.out) (Kd.Vt ho0) hb)
    have yL := zk.mk (Kd.YE (yK vF.out) (Kd.Vt ho1) hb)
    have y9 := zk.mk (Kd.YE (yK vG.out) (Kd.Vt ho2) hb)
    have qw := zk.mk (Kd.vB (Kd.Vu ho0 (Kd.gM (yK vE.out))) (zH (yQ HB.out)))
    have xg := zk.mk (Kd.vB (Kd.Vu ho1 (Kd.gM (yK vF.out))) (zH (yQ HB.out)))
    have jS := zk.mk (Kd.vB (Kd.Vu ho2 (Kd.gM (yK vG.out))) (zH (yQ HB.out)))
    have YB := zk.mk (zo (g := yF) (o := .cells #[.string uQ, .bool uY, .int .i64 uH, .slice Qz uW.length Qq, .slice QC uI.length QD, .slice Qt u6.length Qu] 26 (0, 0)) (qV yX.out) hb)
    have Zp := zk.mk (zo (g := zX) (o := .cells #[.string xG, .bool xL, .int .i64 xU, .slice wM xM.length wN, .slice Zz vv.length Zq, .slice Zt vK.length Zu] 44 (0, 0)) (qV yu.out) hb)
    have Zr := zk.mk (yg (yQ HB.out) hb)
    clear xw
    clear xZ
    clear xQ
    clear vE
    clear vF
    clear vG
    clear yX
    clear yu
    clear HB
    have xw := zl
    have xZ := zC
    have xQ := zM
    have vE := zT
    have vF := yL
    have vG := y9
    have Ya := qw
    have Yb := xg
    have Yc := jS
    have yX := YB
    have yu := Zp
    have HB := Zr
    clear zl zC zM zT yL y9 qw xg jS YB Zp Zr
    (try clear hb)
    (try clear hb2)
    (try clear hk)
    (try clear hi)
    (try clear ho0)
    (try clear ho1)
    (try clear ho2)
    obtain ⟨zgq, zgx, zY3⟩ := Kd.yA Ya.out
    (first | subst zY3 | (injection zY3 with kW Z4 kg; have Z5 := kW.symm; have Z6 := kg.symm; clear kW Z4 kg; subst Z5; subst Z6))
    obtain ⟨zgj, zgv, zY4⟩ := Kd.yA Yb.out
    (first | subst zY4 | (injection zY4 with kW Z4 kg; have Z5 := kW.symm; have Z6 := kg.symm; clear kW Z4 kg; subst Z5; subst Z6))
    obtain ⟨zgk, zgy, zY5⟩ := Kd.yA Yc.out
    (first | subst zY5 | (injection zY5 with kW Z4 kg; have Z5 := kW.symm; have Z6 := kg.symm; clear kW Z4 kg; subst Z5; subst Z6))
    refine hK.out _ _ ⟨(zx yX.out 0).trans rfl, (zx yX.out 1).trans rfl, (zx yX.out 2).trans rfl, (zx yX.out 3).trans rfl, (zx yX.out 4).trans rfl, (zx yX.out 5).trans rfl, (zx yu.out 0).trans rfl, (zx yu.out 1).trans rfl, (zx yu.out 2).trans rfl, (zx yu.out 3).trans rfl, (zx yu.out 4).trans rfl, (zx yu.out 5).trans rfl⟩ (fun hHeld => ?_)
    clear hK K
    refine ZO (a' := ?_) ?_ ?_
    rotate_left
    ·show Act.put _ (some 26) _ = _
     simp only [Act.put, List.setIfInBounds_toArray, List.set_cons_zero, List.set_cons_succ, vZ, vQ]
     rfl
    refine YF (i := 7) (N := some 28) #[true, true, true, true, true, true, true, true, false, false, false, false, false] rfl rfl (uw yY.out (by kernel_rfl)) (by decide) (fun K hK => ?_)
    refine gP Tryz.func15 (by kernel_rfl) rfl #[.agg #[.string oW, .bool oh, .int .i64 om, .slice zgq oo.length zgx, .slice zgj ou.length zgv, .slice zgk oC.length zgy], .agg #[.string xG, .bool xL, .int .i64 xU, .slice wM xM.length wN, .slice Zz vv.length Zq, .slice Zt vK.length Zu]] (by rfl) rfl rfl (by (try simp only [List.map_toArray, List.map_cons, List.map_nil]); first | done | rfl | (simp only [List.length_drop, List.length_take]; rfl)) ?_
    with_reducible refine (ze.calls k oW oh om _ _ oo _ _ ou _ _ oC xG xL xU _ _ xM _ _ vv _ _ vK true _ ?vR ?jK ?jY ?jW ?jc ?jd ?wQ ?zwb ?zwc ?zji ?zjl ?zjm A9.out).mono ?_
    (case vR => repeat (first | exact (Kd.yc Ya.out).2.2 | (with_reducible refine Kd.qx ?_ _) | (with_reducible refine Kd.qj ?_ _) | (with_reducible refine Kd.qo ?_)))
    (case jK => exact (Kd.yc Ya.out).2.1)
    (case jY => repeat (first | exact (Kd.yc Yb.out).2.2 | (with_reducible refine Kd.qx ?_ _) | (with_reducible refine Kd.qj ?_ _) | (with_reducible refine Kd.qo ?_)))
    (case jW => exact (Kd.yc Yb.out).2.1)
    (case jc => repeat (first | exact (Kd.yc Yc.out).2.2 | (with_reducible refine Kd.qx ?_ _) | (with_reducible refine Kd.qj ?_ _) | (with_reducible refine Kd.qo ?_)))
    (case jd => exact (Kd.yc Yc.out).2.1)
    (case wQ => repeat (first | exact (Kd.yc vE.out).2.2 | (with_reducible refine Kd.qx ?_ _) | (with_reducible refine Kd.qj ?_ _) | (with_reducible refine Kd.qo ?_)))
    (case zwb => exact (Kd.yc vE.out).2.1)
    (case zwc => repeat (first | exact (Kd.yc vF.out).2.2 | (with_reducible refine Kd.qx ?_ _) | (with_reducible refine Kd.qj ?_ _) | (with_reducible refine Kd.qo ?_)))
    (case zji => exact (Kd.yc vF.out).2.1)
    (case zjl => repeat (first | exact (Kd.yc vG.out).2.2 | (with_reducible refine Kd.qx ?_ _) | (with_reducible refine Kd.qj ?_ _) | (with_reducible refine Kd.qo ?_)))
    (case zjm => exact (Kd.yc vG.out).2.1)
    rintro e w31 ⟨rfl, hb⟩
    refine ⟨_, rfl, ?_⟩
    have zl := zk.mk (Kd.zf (yK xw.out) hb)
    have zC := zk.mk (Kd.zf (yK xZ.out) hb)
    have zM := zk.mk (Kd.zf (yK xQ.out) hb)
    have zT := zk.mk (Kd.zf (yK vE.out) hb)
    have yL := zk.mk (Kd.zf (yK vF.out) hb)
    have y9 := zk.mk (Kd.zf (yK vG.out) hb)
    have qw := zk.mk (Kd.zf (yK Ya.out) hb)
    have xg := zk.mk (Kd.zf (yK Yb.out) hb)
    have jS := zk.mk (Kd.zf (yK Yc.out) hb)
    have YB := zk.mk (zo (g := yF) (o := .cells #[.string uQ, .bool uY, .int .i64 uH, .slice Qz uW.length Qq, .slice QC uI.length QD, .slice Qt u6.length Qu] 26 (0, 0)) (qV yX.out) hb)
    have Zp := zk.mk (zo (g := zX) (o := .cells #[.string xG, .bool xL, .int .i64 xU, .slice wM xM.length wN, .slice Zz vv.length Zq, .slice Zt vK.length Zu] 44 (0, 0)) (qV yu.out) hb)
    have Zr := zk.mk (yg (yQ HB.out) hb)
    clear xw
    clear xZ
    clear xQ
    clear vE
    clear vF
    clear vG
    clear Ya
    clear Yb
    clear Yc
    clear yX
    clear yu
    clear HB
    have xw := zl
    have xZ := zC
    have xQ := zM
    have vE := zT
    have vF := yL
    have vG := y9
    have Ya := qw
    have Yb := xg
    have Yc := jS
    have yX := YB
    have yu := Zp
    have HB := Zr
    clear zl zC zM zT yL y9 qw xg jS YB Zp Zr
    (try clear hb)
    (try clear hb2)
    (try clear hk)
    (try clear hi)
    refine hK.out _ _ ⟨(zx yX.out 0).trans rfl, (zx yX.out 1).trans rfl, (zx yX.out 2).trans rfl, (zx yX.out 3).trans rfl, (zx yX.out 4).trans rfl, (zx yX.out 5).trans rfl, (zx yu.out 0).trans rfl, (zx yu.out 1).trans rfl, (zx yu.out 2).trans rfl, (zx yu.out 3).trans rfl, (zx yu.out 4).trans rfl, (zx yu.out 5).trans rfl⟩ (fun hHeld => ?_)
    clear hK K
    refine ZO (a' := ?_) ?_ ?_
    rotate_left
    ·show Act.put _ (some 28) _ = _
     simp only [Act.put, List.setIfInBounds_toArray, List.set_cons_zero, List.set_cons_succ, vZ, vQ]
     rfl
    refine vw (i := 8) (N := some 29) (v := ?_) (a' := ?_) #[true, true, true, true, true, true, true, true, true, false, false, false, false] rfl rfl (xk yY.out (by kernel_rfl)) (fun _ _ _ h => h) (Or.inl ⟨by rfl, ?_⟩) ?_ ?_
    rotate_left
    ·intro w'
     go_simp
     with_reducible rfl
    rotate_left
    ·simp only [Act.put, List.setIfInBounds_toArray, List.set_cons_zero, List.set_cons_succ, vZ, vQ]
     rfl
    refine vw (i := 9) (N := some 30) (v := ?_) (a' := ?_) #[true, true, true, true, true, true, true, true, true, true, false, false, false] rfl rfl (xk yY.out (by kernel_rfl)) (fun _ _ _ h => h) (Or.inl ⟨by rfl, ?_⟩) ?_ ?_
    rotate_left
    ·intro w'
     go_simp
     with_reducible rfl
    rotate_left
    ·simp only [Act.put, List.setIfInBounds_toArray, List.set_cons_zero, List.set_cons_succ, vZ, vQ]
     rfl
    refine YF (i := 10) (N := some 31) #[true, true, true, true, true, true, true, true, true, true, true, false, false] rfl rfl (uw yY.out (by kernel_rfl)) (by decide) (fun K hK => ?_)
    refine gP Tryz.func12 (by kernel_rfl) rfl #[] (by rfl) rfl rfl (by (try simp only [List.map_toArray, List.map_cons, List.map_nil]); first | done | rfl | (simp only [List.length_drop, List.length_take]; rfl)) ?_
    with_reducible refine (vM.calls  X9 _ ?vR A11.out).mono ?_
    (case vR => exact GW.under HG.out (yQ HB.out))
    rintro e w32 ⟨rfl, hb⟩
    refine ⟨_, rfl, ?_⟩
    have zl := zk.mk (Kd.zf (yK xw.out) hb)
    have zC := zk.mk (Kd.zf (yK xZ.out) hb)
    have zM := zk.mk (Kd.zf (yK xQ.out) hb)
    have zT := zk.mk (Kd.zf (yK vE.out) hb)
    have yL := zk.mk (Kd.zf (yK vF.out) hb)
    have y9 := zk.mk (Kd.zf (yK vG.out) hb)
    have qw := zk.mk (Kd.zf (yK Ya.out) hb)
    have xg := zk.mk (Kd.zf (yK Yb.out) hb)
    have jS := zk.mk (Kd.zf (yK Yc.out) hb)
    have YB := zk.mk (zo (g := yF) (o := .cells #[.string uQ, .bool uY, .int .i64 uH, .slice Qz uW.length Qq, .slice QC uI.length QD, .slice Qt u6.length Qu] 26 (0, 0)) (qV yX.out) hb)
    have Zp := zk.mk (zo (g := zX) (o := .cells #[.string xG, .bool xL, .int .i64 xU, .slice wM xM.length wN, .slice Zz vv.length Zq, .slice Zt vK.length Zu] 44 (0, 0)) (qV yu.out) hb)
    have Zr := zk.mk (yg (yQ HB.out) hb)
    clear xw
    clear xZ
    clear xQ
    clear vE
    clear vF
    clear vG
    clear Ya
    clear Yb
    clear Yc
    clear yX
    clear yu
    clear HB
    have xw := zl
    have xZ := zC
    have xQ := zM
    have vE := zT
    have vF := yL
    have vG := y9
    have Ya := qw
    have Yb := xg
    have Yc := jS
    have yX := YB
    have yu := Zp
    have HB := Zr
    clear zl zC zM zT yL y9 qw xg jS YB Zp Zr
    (try clear hb)
    (try clear hb2)
    (try clear hk)
    (try clear hi)
    refine hK.out _ _ ⟨(zx yX.out 0).trans rfl, (zx yX.out 1).trans rfl, (zx yX.out 2).trans rfl, (zx yX.out 3).trans rfl, (zx yX.out 4).trans rfl, (zx yX.out 5).trans rfl, (zx yu.out 0).trans rfl, (zx yu.out 1).trans rfl, (zx yu.out 2).trans rfl, (zx yu.out 3).trans rfl, (zx yu.out 4).trans rfl, (zx yu.out 5).trans rfl⟩ (fun hHeld => ?_)
    clear hK K
    refine ZO (a' := ?_) ?_ ?_
    rotate_left
    ·show Act.put _ (some 31) _ = _
     simp only [Act.put, List.setIfInBounds_toArray, List.set_cons_zero, List.set_cons_succ, vZ, vQ]
     rfl
    refine vw (i := 11) (N := some 32) (v := ?_) (a' := ?_) #[true, true, true, true, true, true, true, true, true, true, true, true, false] rfl rfl (xk yY.out (by kernel_rfl)) (fun _ _ _ h => h) (Or.inl ⟨by rfl, ?_⟩) ?_ ?_
    rotate_left
    ·intro w'
     go_simp
     with_reducible rfl
    rotate_left
    ·simp only [Act.put, List.setIfInBounds_toArray, List.set_cons_zero, List.set_cons_succ, vZ, vQ]
     rfl
    refine vw (i := 12) (N := some 2) (v := ?_) (a' := ?_) #[true, true, true, true, true, true, true, true, true, true, true, true, true] rfl rfl (xk yY.out (by kernel_rfl)) (fun _ _ _ h => h) (Or.inl ⟨by rfl, ?_⟩) ?_ ?_
    rotate_left
    ·intro w'
     go_simp
     with_reducible rfl
    rotate_left
    ·simp only [Act.put, List.setIfInBounds_toArray, List.set_cons_zero, List.set_cons_succ, vZ, vQ]
     rfl
    refine uh (vC yY.out (by kernel_rfl)) ?_
    try go_wp2
    go_ret
    exact ⟨by first | rfl | (simp [yw, yZ] <;> rfl) | (simp [*, yw, yZ] <;> rfl), by repeat (first | (with_reducible first | exact HB.out | apply yS | apply yx | apply yD | refine qh ?_ zzC.out | refine qh ?_ zzD.out) | exact HB.out)⟩
   ·replace c10 := Bool.eq_false_iff.mpr c10
    subst c10
    have H1 : (some false) = some r := by rw [if_neg (show ¬ (false = true) by decide)] at H; exact H
    clear H
    have H := H1
    clear H1
    obtain rfl := Option.some.inj H
    go_enter Tryz.func8, Tryz.ntmps8
    try go_wp2_with (first | ((with_reducible refine y7 (f := 22) rfl ?_); refine jP (some 13) Tryz.func22 #[.string a0] ?_; (with_reducible refine (wH.calls a0 uQ uY uH uW uI u6 PK _ ?vR A5.out).mono ?_); (case vR => exact GW.under HG.out (yQ HB.out)); rintro e w33 ⟨zYS, zYT, zYU, rfl, ho0, ho1, ho2, hb⟩; refine ⟨_, rfl, ?_⟩; have zl := zk.mk (Kd.vB ho0 (zH (yQ HB.out))); have zC := zk.mk (Kd.vB ho1 (zH (yQ HB.out))); have zM := zk.mk (Kd.vB ho2 (zH (yQ HB.out))); have zT := zk.mk (yg (yQ HB.out) hb); clear HB; have xw := zl; have xZ := zC; have xQ := zM; have HB := zT; clear zl zC zM zT; (try clear hb); (try clear hb2); (try clear hk); (try clear hi); (try clear ho0); (try clear ho1); (try clear ho2)) | ((with_reducible refine xI (N := 3) rfl ?_); refine vJ ?hg (N := 3) ?hd (cs := #[.string (⟨#[]⟩ : ByteArray), .bool false, .int .i64 0, .slice none 0 0, .slice none 0 0, .slice none 0 0]) (t := 26) ?hr ?_; (case hd => rfl); (case hg => rfl); (case hr => first | (go_simp; done) | (go_simp; rfl)); intro yF hg w34 vX hb; have zl := zk.mk (Kd.zf (yK xw.out) hb); have zC := zk.mk (Kd.zf (yK xZ.out) hb); have zM := zk.mk (Kd.zf (yK xQ.out) hb); have zT := zk.mk (yg (yQ HB.out) hb); have yL := zk.mk (vX); have y9 := zk.mk ((by rw [hg]; exact (zH (yQ HB.out)) : w.heap.size ≤ yF)); have qw := zk.mk ((by rw [hg]; exact (zH (yQ HB.out)) : w.heap.size ≤ yF)); clear xw; clear xZ; clear xQ; clear HB; have xw := zl; have xZ := zC; have xQ := zM; have HB := zT; have yX := yL; have zJb := y9; have zzC := qw; clear zl zC zM zT yL y9 qw; clear hb vX hg; have bU : w34.cell? ⟨yF, 0, none⟩ = some (.string (⟨#[]⟩ : ByteArray)) := (zx yX.out 0).trans rfl; have cZ : w34.cell? ⟨yF, 1, none⟩ = some (.bool false) := (zx yX.out 1).trans rfl; have cK : w34.cell? ⟨yF, 2, none⟩ = some (.int .i64 0) := (zx yX.out 2).trans rfl; have cB : w34.cell? ⟨yF, 3, none⟩ = some (.slice none 0 0) := (zx yX.out 3).trans rfl; have cO : w34.cell? ⟨yF, 4, none⟩ = some (.slice none 0 0) := (zx yX.out 4).trans rfl; have dx : w34.cell? ⟨yF, 5, none⟩ = some (.slice none 0 0) := (zx yX.out 5).trans rfl; have dw := zw yX.out 0; have dZ := zw yX.out 1; have dQ := zw yX.out 2; have dX := zw yX.out 3; have dJ := zw yX.out 4; have dV := zw yX.out 5; obtain ⟨X7, X8, zQi⟩ := Kd.yA xw.out; subst zQi; obtain ⟨QA, QB, zQm⟩ := Kd.yA xZ.out; subst zQm; obtain ⟨JY, JW, zgw⟩ := Kd.yA xQ.out; subst zgw) | ((with_reducible refine y7 (f := 23) rfl ?_); refine jP (some 18) Tryz.func23 #[.string a0] ?_; (with_reducible refine (zZ.calls k a0 xG xL xU xM vv vK nM _ A6.out).mono ?_); rintro e w39 ⟨zY0, zY1, zY2, rfl, ho0, ho1, ho2, hb⟩; refine ⟨_, rfl, ?_⟩; have zl := zk.mk (Kd.zf (by (with_reducible repeat (first | apply Kd.yT | apply Kd.yU | apply Kd.yj)); exact (Kd.yh (Kd.zW (p := ⟨yF, 5, none⟩) (Kd.zW (p := ⟨yF, 4, none⟩) (Kd.zW (p := ⟨yF, 3, none⟩) (Kd.zW (p := ⟨yF, 2, none⟩) (Kd.zW (p := ⟨yF, 1, none⟩) (Kd.zW (p := ⟨yF, 0, none⟩) (Kd.qg xw.out yX.out (by decide)) (fun _ hk => hk.2) (.string uQ)) (fun _ hk => hk.2) (.bool uY)) (fun _ hk => hk.2) (.int .i64 uH)) (fun _ hk => hk.2) (.slice X7 uW.length X8)) (fun _ hk => hk.2) (.slice QA uI.length QB)) (fun _ hk => hk.2) (.slice JY u6.length JW)) (fun _ h_ => h_.1))) hb); have zC := zk.mk (Kd.zf (by (with_reducible repeat (first | apply Kd.yT | apply Kd.yU | apply Kd.yj)); exact (Kd.yh (Kd.zW (p := ⟨yF, 5, none⟩) (Kd.zW (p := ⟨yF, 4, none⟩) (Kd.zW (p := ⟨yF, 3, none⟩) (Kd.zW (p := ⟨yF, 2, none⟩) (Kd.zW (p := ⟨yF, 1, none⟩) (Kd.zW (p := ⟨yF, 0, none⟩) (Kd.qg xZ.out yX.out (by decide)) (fun _ hk => hk.2) (.string uQ)) (fun _ hk => hk.2) (.bool uY)) (fun _ hk => hk.2) (.int .i64 uH)) (fun _ hk => hk.2) (.slice X7 uW.length X8)) (fun _ hk => hk.2) (.slice QA uI.length QB)) (fun _ hk => hk.2) (.slice JY u6.length JW)) (fun _ h_ => h_.1))) hb); have zM := zk.mk (Kd.zf (by (with_reducible repeat (first | apply Kd.yT | apply Kd.yU | apply Kd.yj)); exact (Kd.yh (Kd.zW (p := ⟨yF, 5, none⟩) (Kd.zW (p := ⟨yF, 4, none⟩) (Kd.zW (p := ⟨yF, 3, none⟩) (Kd.zW (p := ⟨yF, 2, none⟩) (Kd.zW (p := ⟨yF, 1, none⟩) (Kd.zW (p := ⟨yF, 0, none⟩) (Kd.qg xQ.out yX.out (by decide)) (fun _ hk => hk.2) (.string uQ)) (fun _ hk => hk.2) (.bool uY)) (fun _ hk => hk.2) (.int .i64 uH)) (fun _ hk => hk.2) (.slice X7 uW.length X8)) (fun _ hk => hk.2) (.slice QA uI.length QB)) (fun _ hk => hk.2) (.slice JY u6.length JW)) (fun _ h_ => h_.1))) hb); have zT := zk.mk (Kd.vB ho0 (zH (yQ HB.out))); have yL := zk.mk (Kd.vB ho1 (zH (yQ HB.out))); have y9 := zk.mk (Kd.vB ho2 (zH (yQ HB.out))); have qw := zk.mk (zo (g := yF) (o := .cells #[.string uQ, .bool uY, .int .i64 uH, .slice X7 uW.length X8, .slice QA uI.length QB, .slice JY u6.length JW] 26 (0, 0)) (by (with_reducible repeat (first | refine zY ?_ _ | refine zV ?_ | refine zQ ?_ _)); refine zi (cs := #[.string uQ, .bool uY, .int .i64 uH, .slice X7 uW.length X8, .slice QA uI.length QB, .slice none 0 0]) ?_ 5 _ rfl; (with_reducible repeat (first | refine zY ?_ _ | refine zV ?_ | refine zQ ?_ _)); refine zi (cs := #[.string uQ, .bool uY, .int .i64 uH, .slice X7 uW.length X8, .slice none 0 0, .slice none 0 0]) ?_ 4 _ rfl; (with_reducible repeat (first | refine zY ?_ _ | refine zV ?_ | refine zQ ?_ _)); refine zi (cs := #[.string uQ, .bool uY, .int .i64 uH, .slice none 0 0, .slice none 0 0, .slice none 0 0]) ?_ 3 _ rfl; (with_reducible repeat (first | refine zY ?_ _ | refine zV ?_ | refine zQ ?_ _)); refine zi (cs := #[.string uQ, .bool uY, .int .i64 0, .slice none 0 0, .slice none 0 0, .slice none 0 0]) ?_ 2 _ rfl; (with_reducible repeat (first | refine zY ?_ _ | refine zV ?_ | refine zQ ?_ _)); refine zi (cs := #[.string uQ, .bool false, .int .i64 0, .slice none 0 0, .slice none 0 0, .slice none 0 0]) ?_ 1 _ rfl; (with_reducible repeat (first | refine zY ?_ _ | refine zV ?_ | refine zQ ?_ _)); refine zi (cs := #[.string (⟨#[]⟩ : ByteArray), .bool false, .int .i64 0, .slice none 0 0, .slice none 0 0, .slice none 0 0]) ?_ 0 _ rfl; (with_reducible repeat (first | refine zY ?_ _ | refine zV ?_ | refine zQ ?_ _)); exact yX.out) hb); have xg := zk.mk (yg (yQ HB.out) hb); clear xw; clear xZ; clear xQ; clear yX; clear HB; have xw := zl; have xZ := zC; have xQ := zM; have vE := zT; have vF := yL; have vG := y9; have yX := qw; have HB := xg; clear zl zC zM zT yL y9 qw xg; (try clear hb); (try clear hb2); (try clear hk); (try clear hi); (try clear ho0); (try clear ho1); (try clear ho2)) | ((with_reducible refine xI (N := 5) rfl ?_); refine vJ ?hg (N := 5) ?hd (cs := #[.string (⟨#[]⟩ : ByteArray), .bool false, .int .i64 0, .slice none 0 0, .slice none 0 0, .slice none 0 0]) (t := 44) ?hr ?_; (case hd => rfl); (case hg => rfl); (case hr => first | (go_simp; done) | (go_simp; rfl)); intro zX hg JR vX hb; have zl := zk.mk (Kd.zf (yK xw.out) hb); have zC := zk.mk (Kd.zf (yK xZ.out) hb); have zM := zk.mk (Kd.zf (yK xQ.out) hb); have zT := zk.mk (Kd.zf (yK vE.out) hb); have yL := zk.mk (Kd.zf (yK vF.out) hb); have y9 := zk.mk (Kd.zf (yK vG.out) hb); have qw := zk.mk (zo (g := yF) (o := .cells #[.string uQ, .bool uY, .int .i64 uH, .slice X7 uW.length X8, .slice QA uI.length QB, .slice JY u6.length JW] 26 (0, 0)) (qV yX.out) hb); have xg := zk.mk (yg (yQ HB.out) hb); have jS := zk.mk (vX); have YB := zk.mk ((by rw [hg]; exact (zH (yQ HB.out)) : w.heap.size ≤ zX)); have Zp := zk.mk ((by rw [hg]; exact (zH (yQ HB.out)) : w.heap.size ≤ zX)); have Zr := zk.mk ((by rw [hg]; exact Nat.ne_of_lt (uM (g := yF) (o := .cells #[.string uQ, .bool uY, .int .i64 uH, .slice X7 uW.length X8, .slice QA uI.length QB, .slice JY u6.length JW] 26 (0, 0)) (qV yX.out)) : yF ≠ zX)); have tC := zk.mk ((by rw [hg]; exact Nat.ne_of_gt (uM (g := yF) (o := .cells #[.string uQ, .bool uY, .int .i64 uH, .slice X7 uW.length X8, .slice QA uI.length QB, .slice JY u6.length JW] 26 (0, 0)) (qV yX.out)) : zX ≠ yF)); clear xw; clear xZ; clear xQ; clear vE; clear vF; clear vG; clear yX; clear HB; have xw := zl; have xZ := zC; have xQ := zM; have vE := zT; have vF := yL; have vG := y9; have yX := qw; have HB := xg; have yu := jS; have zJc := YB; have zzD := Zp; have JA := Zr; have JB := tC; clear zl zC zM zT yL y9 qw xg jS YB Zp Zr tC; clear hb vX hg; have zmf := JB.out; have zmg := JA.out; have ziV : JR.cell? ⟨zX, 0, none⟩ = some (.string (⟨#[]⟩ : ByteArray)) := (zx yu.out 0).trans rfl; have ziK : JR.cell? ⟨zX, 1, none⟩ = some (.bool false) := (zx yu.out 1).trans rfl; have ziY : JR.cell? ⟨zX, 2, none⟩ = some (.int .i64 0) := (zx yu.out 2).trans rfl; have ziW : JR.cell? ⟨zX, 3, none⟩ = some (.slice none 0 0) := (zx yu.out 3).trans rfl; have zia : JR.cell? ⟨zX, 4, none⟩ = some (.slice none 0 0) := (zx yu.out 4).trans rfl; have zib : JR.cell? ⟨zX, 5, none⟩ = some (.slice none 0 0) := (zx yu.out 5).trans rfl; have zic := zw yu.out 0; have zid := zw yu.out 1; have zie := zw yu.out 2; have zif := zw yu.out 3; have zih := zw yu.out 4; have zii := zw yu.out 5; obtain ⟨Zx, Zj, zgZ⟩ := Kd.yA vE.out; subst zgZ; obtain ⟨wV, wK, zyb⟩ := Kd.yA vF.out; subst zyb; obtain ⟨ZF, ZG, zgQ⟩ := Kd.yA vG.out; subst zgQ))
    have zl : zk (Kd.R jB 31 ((((((JR.setCell ⟨zX, 0, none⟩ (.string xG)).setCell ⟨zX, 1, none⟩ (.bool xL)).setCell ⟨zX, 2, none⟩ (.int .i64 xU)).setCell ⟨zX, 3, none⟩ (.slice Zx xM.length Zj)).setCell ⟨zX, 4, none⟩ (.slice wV vv.length wK)).setCell ⟨zX, 5, none⟩ (.slice ZF vK.length ZG)) w.heap.size (fun _ => True) (.slice X7 uW.length X8) uW) := ⟨by (with_reducible repeat (first | apply Kd.yT | apply Kd.yU | apply Kd.yj)); exact Kd.yh (Kd.zW (p := ⟨zX, 5, none⟩) (Kd.zW (p := ⟨zX, 4, none⟩) (Kd.zW (p := ⟨zX, 3, none⟩) (Kd.zW (p := ⟨zX, 2, none⟩) (Kd.zW (p := ⟨zX, 1, none⟩) (Kd.zW (p := ⟨zX, 0, none⟩) (Kd.qg xw.out yu.out (by decide)) (fun _ hk => hk.2) (.string xG)) (fun _ hk => hk.2) (.bool xL)) (fun _ hk => hk.2) (.int .i64 xU)) (fun _ hk => hk.2) (.slice Zx xM.length Zj)) (fun _ hk => hk.2) (.slice wV vv.length wK)) (fun _ hk => hk.2) (.slice ZF vK.length ZG)) (fun _ hk => trivial)⟩
    have zC : zk (Kd.R kS 86 ((((((JR.setCell ⟨zX, 0, none⟩ (.string xG)).setCell ⟨zX, 1, none⟩ (.bool xL)).setCell ⟨zX, 2, none⟩ (.int .i64 xU)).setCell ⟨zX, 3, none⟩ (.slice Zx xM.length Zj)).setCell ⟨zX, 4, none⟩ (.slice wV vv.length wK)).setCell ⟨zX, 5, none⟩ (.slice ZF vK.length ZG)) w.heap.size (fun _ => True) (.slice QA uI.length QB) uI) := ⟨by (with_reducible repeat (first | apply Kd.yT | apply Kd.yU | apply Kd.yj)); exact Kd.yh (Kd.zW (p := ⟨zX, 5, none⟩) (Kd.zW (p := ⟨zX, 4, none⟩) (Kd.zW (p := ⟨zX, 3, none⟩) (Kd.zW (p := ⟨zX, 2, none⟩) (Kd.zW (p := ⟨zX, 1, none⟩) (Kd.zW (p := ⟨zX, 0, none⟩) (Kd.qg xZ.out yu.out (by decide)) (fun _ hk => hk.2) (.string xG)) (fun _ hk => hk.2) (.bool xL)) (fun _ hk => hk.2) (.int .i64 xU)) (fun _ hk => hk.2) (.slice Zx xM.length Zj)) (fun _ hk => hk.2) (.slice wV vv.length wK)) (fun _ hk => hk.2) (.slice ZF vK.length ZG)) (fun _ hk => trivial)⟩
    have zM : zk (Kd.R kU 76 ((((((JR.setCell ⟨zX, 0, none⟩ (.string xG)).setCell ⟨zX, 1, none⟩ (.bool xL)).setCell ⟨zX, 2, none⟩ (.int .i64 xU)).setCell ⟨zX, 3, none⟩ (.slice Zx xM.length Zj)).setCell ⟨zX, 4, none⟩ (.slice wV vv.length wK)).setCell ⟨zX, 5, none⟩ (.slice ZF vK.length ZG)) w.heap.size (fun _ => True) (.slice JY u6.length JW) u6) := ⟨by (with_reducible repeat (first | apply Kd.yT | apply Kd.yU | apply Kd.yj)); exact Kd.yh (Kd.zW (p := ⟨zX, 5, none⟩) (Kd.zW (p := ⟨zX, 4, none⟩) (Kd.zW (p := ⟨zX, 3, none⟩) (Kd.zW (p := ⟨zX, 2, none⟩) (Kd.zW (p := ⟨zX, 1, none⟩) (Kd.zW (p := ⟨zX, 0, none⟩) (Kd.qg xQ.out yu.out (by decide)) (fun _ hk => hk.2) (.string xG)) (fun _ hk => hk.2) (.bool xL)) (fun _ hk => hk.2) (.int .i64 xU)) (fun _ hk => hk.2) (.slice Zx xM.length Zj)) (fun _ hk => hk.2) (.slice wV vv.length wK)) (fun _ hk => hk.2) (.slice ZF vK.length ZG)) (fun _ hk => trivial)⟩
    have zT : zk (Kd.R YQ 81 ((((((JR.setCell ⟨zX, 0, none⟩ (.string xG)).setCell ⟨zX, 1, none⟩ (.bool xL)).setCell ⟨zX, 2, none⟩ (.int .i64 xU)).setCell ⟨zX, 3, none⟩ (.slice Zx xM.length Zj)).setCell ⟨zX, 4, none⟩ (.slice wV vv.length wK)).setCell ⟨zX, 5, none⟩ (.slice ZF vK.length ZG)) w.heap.size (fun _ => True) (.slice Zx xM.length Zj) xM) := ⟨by (with_reducible repeat (first | apply Kd.yT | apply Kd.yU | apply Kd.yj)); exact Kd.yh (Kd.zW (p := ⟨zX, 5, none⟩) (Kd.zW (p := ⟨zX, 4, none⟩) (Kd.zW (p := ⟨zX, 3, none⟩) (Kd.zW (p := ⟨zX, 2, none⟩) (Kd.zW (p := ⟨zX, 1, none⟩) (Kd.zW (p := ⟨zX, 0, none⟩) (Kd.qg vE.out yu.out (by decide)) (fun _ hk => hk.2) (.string xG)) (fun _ hk => hk.2) (.bool xL)) (fun _ hk => hk.2) (.int .i64 xU)) (fun _ hk => hk.2) (.slice Zx xM.length Zj)) (fun _ hk => hk.2) (.slice wV vv.length wK)) (fun _ hk => hk.2) (.slice ZF vK.length ZG)) (fun _ hk => trivial)⟩
    have yL : zk (Kd.R Yt 83 ((((((JR.setCell ⟨zX, 0, none⟩ (.string xG)).setCell ⟨zX, 1, none⟩ (.bool xL)).setCell ⟨zX, 2, none⟩ (.int .i64 xU)).setCell ⟨zX, 3, none⟩ (.slice Zx xM.length Zj)).setCell ⟨zX, 4, none⟩ (.slice wV vv.length wK)).setCell ⟨zX, 5, none⟩ (.slice ZF vK.length ZG)) w.heap.size (fun _ => True) (.slice wV vv.length wK) vv) := ⟨by (with_reducible repeat (first | apply Kd.yT | apply Kd.yU | apply Kd.yj)); exact Kd.yh (Kd.zW (p := ⟨zX, 5, none⟩) (Kd.zW (p := ⟨zX, 4, none⟩) (Kd.zW (p := ⟨zX, 3, none⟩) (Kd.zW (p := ⟨zX, 2, none⟩) (Kd.zW (p := ⟨zX, 1, none⟩) (Kd.zW (p := ⟨zX, 0, none⟩) (Kd.qg vF.out yu.out (by decide)) (fun _ hk => hk.2) (.string xG)) (fun _ hk => hk.2) (.bool xL)) (fun _ hk => hk.2) (.int .i64 xU)) (fun _ hk => hk.2) (.slice Zx xM.length Zj)) (fun _ hk => hk.2) (.slice wV vv.length wK)) (fun _ hk => hk.2) (.slice ZF vK.length ZG)) (fun _ hk => trivial)⟩
    have y9 : zk (Kd.R Yu 84 ((((((JR.setCell ⟨zX, 0, none⟩ (.string xG)).setCell ⟨zX, 1, none⟩ (.bool xL)).setCell ⟨zX, 2, none⟩ (.int .i64 xU)).setCell ⟨zX, 3, none⟩ (.slice Zx xM.length Zj)).setCell ⟨zX, 4, none⟩ (.slice wV vv.length wK)).setCell ⟨zX, 5, none⟩ (.slice ZF vK.length ZG)) w.heap.size (fun _ => True) (.slice ZF vK.length ZG) vK) := ⟨by (with_reducible repeat (first | apply Kd.yT | apply Kd.yU | apply Kd.yj)); exact Kd.yh (Kd.zW (p := ⟨zX, 5, none⟩) (Kd.zW (p := ⟨zX, 4, none⟩) (Kd.zW (p := ⟨zX, 3, none⟩) (Kd.zW (p := ⟨zX, 2, none⟩) (Kd.zW (p := ⟨zX, 1, none⟩) (Kd.zW (p := ⟨zX, 0, none⟩) (Kd.qg vG.out yu.out (by decide)) (fun _ hk => hk.2) (.string xG)) (fun _ hk => hk.2) (.bool xL)) (fun _ hk => hk.2) (.int .i64 xU)) (fun _ hk => hk.2) (.slice Zx xM.length Zj)) (fun _ hk => hk.2) (.slice wV vv.length wK)) (fun _ hk => hk.2) (.slice ZF vK.length ZG)) (fun _ hk => trivial)⟩
    have qw : zk (((((((JR.setCell ⟨zX, 0, none⟩ (.string xG)).setCell ⟨zX, 1, none⟩ (.bool xL)).setCell ⟨zX, 2, none⟩ (.int .i64 xU)).setCell ⟨zX, 3, none⟩ (.slice Zx xM.length Zj)).setCell ⟨zX, 4, none⟩ (.slice wV vv.length wK)).setCell ⟨zX, 5, none⟩ (.slice ZF vK.length ZG)).heap[yF]? = some (.cells #[.string uQ, .bool uY, .int .i64 uH, .slice X7 uW.length X8, .slice QA uI.length QB, .slice JY u6.length JW] 26 (0, 0))) := ⟨JO yX.out⟩
    have xg : zk (((((((JR.setCell ⟨zX, 0, none⟩ (.string xG)).setCell ⟨zX, 1, none⟩ (.bool xL)).setCell ⟨zX, 2, none⟩ (.int .i64 xU)).setCell ⟨zX, 3, none⟩ (.slice Zx xM.length Zj)).setCell ⟨zX, 4, none⟩ (.slice wV vv.length wK)).setCell ⟨zX, 5, none⟩ (.slice ZF vK.length ZG)).heap[zX]? = some (.cells #[.string xG, .bool xL, .int .i64 xU, .slice Zx xM.length Zj, .slice wV vv.length wK, .slice ZF vK.length ZG] 44 (0, 0))) := ⟨by (with_reducible repeat (first | refine zY ?_ _ | refine zV ?_ | refine zQ ?_ _)); refine zi (cs := #[.string xG, .bool xL, .int .i64 xU, .slice Zx xM.length Zj, .slice wV vv.length wK, .slice none 0 0]) ?_ 5 _ rfl; (with_reducible repeat (first | refine zY ?_ _ | refine zV ?_ | refine zQ ?_ _)); refine zi (cs := #[.string xG, .bool xL, .int .i64 xU, .slice Zx xM.length Zj, .slice none 0 0, .slice none 0 0]) ?_ 4 _ rfl; (with_reducible repeat (first | refine zY ?_ _ | refine zV ?_ | refine zQ ?_ _)); refine zi (cs := #[.string xG, .bool xL, .int .i64 xU, .slice none 0 0, .slice none 0 0, .slice none 0 0]) ?_ 3 _ rfl; (with_reducible repeat (first | refine zY ?_ _ | refine zV ?_ | refine zQ ?_ _)); refine zi (cs := #[.string xG, .bool xL, .int .i64 0, .slice none 0 0, .slice none 0 0, .slice none 0 0]) ?_ 2 _ rfl; (with_reducible repeat (first | refine zY ?_ _ | refine zV ?_ | refine zQ ?_ _)); refine zi (cs := #[.string xG, .bool false, .int .i64 0, .slice none 0 0, .slice none 0 0, .slice none 0 0]) ?_ 1 _ rfl; (with_reducible repeat (first | refine zY ?_ _ | refine zV ?_ | refine zQ ?_ _)); refine zi (cs := #[.string (⟨#[]⟩ : ByteArray), .bool false, .int .i64 0, .slice none 0 0, .slice none 0 0, .slice none 0 0]) ?_ 0 _ rfl; (with_reducible repeat (first | refine zY ?_ _ | refine zV ?_ | refine zQ ?_ _)); exact yu.out⟩
    have jS : zk (Below w.heap.size w ((((((JR.setCell ⟨zX, 0, none⟩ (.string xG)).setCell ⟨zX, 1, none⟩ (.bool xL)).setCell ⟨zX, 2, none⟩ (.int .i64 xU)).setCell ⟨zX, 3, none⟩ (.slice Zx xM.length Zj)).setCell ⟨zX, 4, none⟩ (.slice wV vv.length wK)).setCell ⟨zX, 5, none⟩ (.slice ZF vK.length ZG))) := ⟨yQ HB.out⟩
    (try clear xw)
    (try clear xZ)
    (try clear xQ)
    (try clear vE)
    (try clear vF)
    (try clear vG)
    (try clear yX)
    (try clear yu)
    (try clear HB)
    generalize ((((((JR.setCell ⟨zX, 0, none⟩ (.string xG)).setCell ⟨zX, 1, none⟩ (.bool xL)).setCell ⟨zX, 2, none⟩ (.int .i64 xU)).setCell ⟨zX, 3, none⟩ (.slice Zx xM.length Zj)).setCell ⟨zX, 4, none⟩ (.slice wV vv.length wK)).setCell ⟨zX, 5, none⟩ (.slice ZF vK.length ZG)) = w46 at zl zC zM zT yL y9 qw xg jS ⊢
    have xw := zl
    have xZ := zC
    have xQ := zM
    have vE := zT
    have vF := yL
    have vG := y9
    have yX := qw
    have yu := xg
    have HB := jS
    clear zl zC zM zT yL y9 qw xg jS
    have zl := zk.mk (Kd.yj xw.out)
    have zC := zk.mk (Kd.yj xZ.out)
    have zM := zk.mk (Kd.yj xQ.out)
    have zT := zk.mk (Kd.yj vE.out)
    have yL := zk.mk (Kd.yj vF.out)
    have y9 := zk.mk (Kd.yj vG.out)
    have qw := zk.mk (zV yX.out)
    have xg := zk.mk (zV yu.out)
    have jS := zk.mk (yD HB.out)
    clear xw
    clear xZ
    clear xQ
    clear vE
    clear vF
    clear vG
    clear yX
    clear yu
    clear HB
    have xw := zl
    have xZ := zC
    have xQ := zM
    have vE := zT
    have vF := yL
    have vG := y9
    have yX := qw
    have yu := xg
    have HB := jS
    clear zl zC zM zT yL y9 qw xg jS
    refine wW (n := 13) (S := fun w' => w'.cell? ⟨yF, 0, none⟩ = some (.string uQ) ∧ w'.cell? ⟨yF, 1, none⟩ = some (.bool uY) ∧ w'.cell? ⟨yF, 2, none⟩ = some (.int .i64 uH) ∧ w'.cell? ⟨yF, 3, none⟩ = some (.slice X7 uW.length X8) ∧ w'.cell? ⟨yF, 4, none⟩ = some (.slice QA uI.length QB) ∧ w'.cell? ⟨yF, 5, none⟩ = some (.slice JY u6.length JW) ∧ w'.cell? ⟨zX, 0, none⟩ = some (.string xG) ∧ w'.cell? ⟨zX, 1, none⟩ = some (.bool xL) ∧ w'.cell? ⟨zX, 2, none⟩ = some (.int .i64 xU) ∧ w'.cell? ⟨zX, 3, none⟩ = some (.slice Zx xM.length Zj) ∧ w'.cell? ⟨zX, 4, none⟩ = some (.slice wV vv.length wK) ∧ w'.cell? ⟨zX, 5, none⟩ = some (.slice ZF vK.length ZG)) (ds := []) #[false, false, false, false, false, false, false, false, false, false, false, false, false] (by kernel_rfl) rfl rfl ⟨(zx yX.out 0).trans rfl, (zx yX.out 1).trans rfl, (zx yX.out 2).trans rfl, (zx yX.out 3).trans rfl, (zx yX.out 4).trans rfl, (zx yX.out 5).trans rfl, (zx yu.out 0).trans rfl, (zx yu.out 1).trans rfl, (zx yu.out 2).trans rfl, (zx yu.out 3).trans rfl, (zx yu.out 4).trans rfl, (zx yu.out 5).trans rfl⟩ (fun hHeld => ?_); refine wI qW.mJ qW.mI (fun yY jT => ?_)
    generalize w46.drew = gK at xw xZ xQ vE vF vG yX yu HB hHeld ⊢
    refine vw (i := 0) (N := some 21) (v := ?_) (a' := ?_) #[true, false, false, false, false, false, false, false, false, false, false, false, false] rfl rfl (xk yY.out (by kernel_rfl)) (fun _ _ _ h => h) (Or.inl ⟨by rfl, ?_⟩) ?_ ?_
    rotate_left
    ·intro w'
     go_simp
     with_reducible rfl
    rotate_left
    ·simp only [Act.put, List.setIfInBounds_toArray, List.set_cons_zero, List.set_cons_succ, vZ, vQ]
     rfl
    refine vw (i := 1) (N := some 22) (v := ?_) (a' := ?_) #[true, true, false, false, false, false, false, false, false, false, false, false, false] rfl rfl (xk yY.out (by kernel_rfl)) (fun _ _ _ h => h) (Or.inl ⟨by rfl, ?_⟩) ?_ ?_
    rotate_left
    ·intro w'
     go_simp
     with_reducible rfl
    rotate_left
    ·simp only [Act.put, List.setIfInBounds_toArray, List.set_cons_zero, List.set_cons_succ, vZ, vQ]
     rfl
    refine vw (i := 2) (N := some 23) (v := ?_) (a' := ?_) #[true, true, true, false, false, false, false, false, false, false, false, false, false] rfl rfl (xk yY.out (by kernel_rfl)) (fun _ _ _ h => h) (Or.inl ⟨by rfl, ?_⟩) ?_ ?_
    rotate_left
    ·intro w'
     go_simp
     with_reducible rfl
    rotate_left
    ·simp only [Act.put, List.setIfInBounds_toArray, List.set_cons_zero, List.set_cons_succ, vZ, vQ]
     rfl
    refine vw (i := 3) (N := some 24) (v := ?_) (a' := ?_) #[true, true, true, true, false, false, false, false, false, false, false, false, false] rfl rfl (xk yY.out (by kernel_rfl)) (fun _ _ _ h => h) (Or.inl ⟨by rfl, ?_⟩) ?_ ?_
    rotate_left
    ·intro w'
     go_simp
     with_reducible rfl
    rotate_left
    ·simp only [Act.put, List.setIfInBounds_toArray, List.set_cons_zero, List.set_cons_succ, vZ, vQ]
     rfl
    refine Qf (i := 4) (N := some 25) (v := ?_) (a' := ?_) #[true, true, true, true, true, false, false, false, false, false, false, false, false] rfl rfl (Qm yY.out jT.out (by kernel_rfl)) (fun _ _ _ h => h) (Or.inl ⟨by rfl, ?_⟩) hHeld ?_ ?_
    rotate_left
    ·rintro w' ⟨s0, s1, s2, s3, s4, s5, s6, s7, s8, s9, s10, s11⟩
     go_simp
     with_reducible rfl
    rotate_left
    ·simp only [Act.put, List.setIfInBounds_toArray, List.set_cons_zero, List.set_cons_succ, vZ, vQ]
     rfl
    refine Qf (i := 6) (N := some 27) (v := ?_) (a' := ?_) #[true, true, true, true, true, false, true, false, false, false, false, false, false] rfl rfl (Qm yY.out jT.out (by kernel_rfl)) (fun _ _ _ h => h) (Or.inl ⟨by rfl, ?_⟩) hHeld ?_ ?_
    rotate_left
    ·rintro w' ⟨s0, s1, s2, s3, s4, s5, s6, s7, s8, s9, s10, s11⟩
     go_simp
     with_reducible rfl
    rotate_left
    ·simp only [Act.put, List.setIfInBounds_toArray, List.set_cons_zero, List.set_cons_succ, vZ, vQ]
     rfl
    refine YF (i := 5) (N := some 26) #[true, true, true, true, true, true, true, false, false, false, false, false, false] rfl rfl (uw yY.out (by kernel_rfl)) (by decide) (fun K hK => ?_)
    refine gP Tryz.func16 (by kernel_rfl) rfl #[.agg #[.string uQ, .bool uY, .int .i64 uH, .slice X7 uW.length X8, .slice QA uI.length QB, .slice JY u6.length JW]] (by rfl) rfl rfl (by (try simp only [List.map_toArray, List.map_cons, List.map_nil]); first | done | rfl | (simp only [List.length_drop, List.length_take]; rfl)) ?_
    with_reducible refine (zu.calls k uQ uY uH _ _ uW _ _ uI _ _ u6 oW oh om oo ou oC _ ?vR ?jK ?jY ?jW ?jc ?jd A8.out).mono ?_
    (case vR => repeat (first | exact (Kd.yc xw.out).2.2 | (with_reducible refine Kd.qx ?_ _) | (with_reducible refine Kd.qj ?_ _) | (with_reducible refine Kd.qo ?_)))
    (case jK => exact (Kd.yc xw.out).2.1)
    (case jY => repeat (first | exact (Kd.yc xZ.out).2.2 | (with_reducible refine Kd.qx ?_ _) | (with_reducible refine Kd.qj ?_ _) | (with_reducible refine Kd.qo ?_)))
    (case jW => exact (Kd.yc xZ.out).2.1)
    (case jc => repeat (first | exact (Kd.yc xQ.out).2.2 | (with_reducible refine Kd.qx ?_ _) | (with_reducible refine Kd.qj ?_ _) | (with_reducible refine Kd.qo ?_)))
    (case jd => exact (Kd.yc xQ.out).2.1)
    rintro e w48 ⟨zf8, zf9, zgz, rfl, ho0, ho1, ho2, hb⟩
    refine ⟨_, rfl, ?_⟩
    have zl := zk.mk (Kd.zf (yK xw.out) hb)
    have zC := zk.mk (Kd.zf (yK xZ.out) hb)
    have zM := zk.mk (Kd.zf (yK xQ.out) hb)
    have zT := zk.mk (Kd.YE (yK vE.out) (Kd.Vt ho0) hb)
    have yL := zk.mk (Kd.YE (yK vF.out) (Kd.Vt ho1) hb)
    have y9 := zk.mk (Kd.YE (yK vG.out) (Kd.Vt ho2) hb)
    have qw := zk.mk (Kd.vB (Kd.Vu ho0 (Kd.gM (yK vE.out))) (zH (yQ HB.out)))
    have xg := zk.mk (Kd.vB (Kd.Vu ho1 (Kd.gM (yK vF.out))) (zH (yQ HB.out)))
    have jS := zk.mk (Kd.vB (Kd.Vu ho2 (Kd.gM (yK vG.out))) (zH (yQ HB.out)))
    have YB := zk.mk (zo (g := yF) (o := .cells #[.string uQ, .bool uY, .int .i64 uH, .slice X7 uW.length X8, .slice QA uI.length QB, .slice JY u6.length JW] 26 (0, 0)) (qV yX.out) hb)
    have Zp := zk.mk (zo (g := zX) (o := .cells #[.string xG, .bool xL, .int .i64 xU, .slice Zx xM.length Zj, .slice wV vv.length wK, .slice ZF vK.length ZG] 44 (0, 0)) (qV yu.out) hb)
    have Zr := zk.mk (yg (yQ HB.out) hb)
    clear xw
    clear xZ
    clear xQ
    clear vE
    clear vF
    clear vG
    clear yX
    clear yu
    clear HB
    have xw := zl
    have xZ := zC
    have xQ := zM
    have vE := zT
    have vF := yL
    have vG := y9
    have Ya := qw
    have Yb := xg
    have Yc := jS
    have yX := YB
    have yu := Zp
    have HB := Zr
    clear zl zC zM zT yL y9 qw xg jS YB Zp Zr
    (try clear hb)
    (try clear hb2)
    (try clear hk)
    (try clear hi)
    (try clear ho0)
    (try clear ho1)
    (try clear ho2)
    obtain ⟨zgX, zgJ, zY6⟩ := Kd.yA Ya.out
    (first | subst zY6 | (injection zY6 with kW Z4 kg; have Z5 := kW.symm; have Z6 := kg.symm; clear kW Z4 kg; subst Z5; subst Z6))
    obtain ⟨zgV, zgK, zY7⟩ := Kd.yA Yb.out
    (first | subst zY7 | (injection zY7 with kW Z4 kg; have Z5 := kW.symm; have Z6 := kg.symm; clear kW Z4 kg; subst Z5; subst Z6))
    obtain ⟨zgY, zgW, zY8⟩ := Kd.yA Yc.out
    (first | subst zY8 | (injection zY8 with kW Z4 kg; have Z5 := kW.symm; have Z6 := kg.symm; clear kW Z4 kg; subst Z5; subst Z6))
    refine hK.out _ _ ⟨(zx yX.out 0).trans rfl, (zx yX.out 1).trans rfl, (zx yX.out 2).trans rfl, (zx yX.out 3).trans rfl, (zx yX.out 4).trans rfl, (zx yX.out 5).trans rfl, (zx yu.out 0).trans rfl, (zx yu.out 1).trans rfl, (zx yu.out 2).trans rfl, (zx yu.out 3).trans rfl, (zx yu.out 4).trans rfl, (zx yu.out 5).trans rfl⟩ (fun hHeld => ?_)
    clear hK K
    refine ZO (a' := ?_) ?_ ?_
    rotate_left
    ·show Act.put _ (some 26) _ = _
     simp only [Act.put, List.setIfInBounds_toArray, List.set_cons_zero, List.set_cons_succ, vZ, vQ]
     rfl
    refine YF (i := 7) (N := some 28) #[true, true, true, true, true, true, true, true, false, false, false, false, false] rfl rfl (uw yY.out (by kernel_rfl)) (by decide) (fun K hK => ?_)
    refine gP Tryz.func15 (by kernel_rfl) rfl #[.agg #[.string oW, .bool oh, .int .i64 om, .slice zgX oo.length zgJ, .slice zgV ou.length zgK, .slice zgY oC.length zgW], .agg #[.string xG, .bool xL, .int .i64 xU, .slice Zx xM.length Zj, .slice wV vv.length wK, .slice ZF vK.length ZG]] (by rfl) rfl rfl (by (try simp only [List.map_toArray, List.map_cons, List.map_nil]); first | done | rfl | (simp only [List.length_drop, List.length_take]; rfl)) ?_
    with_reducible refine (ze.calls k oW oh om _ _ oo _ _ ou _ _ oC xG xL xU _ _ xM _ _ vv _ _ vK false _ ?vR ?jK ?jY ?jW ?jc ?jd ?wQ ?zwb ?zwc ?zji ?zjl ?zjm A9.out).mono ?_
    (case vR => repeat (first | exact (Kd.yc Ya.out).2.2 | (with_reducible refine Kd.qx ?_ _) | (with_reducible refine Kd.qj ?_ _) | (with_reducible refine Kd.qo ?_)))
    (case jK => exact (Kd.yc Ya.out).2.1)
    (case jY => repeat (first | exact (Kd.yc Yb.out).2.2 | (with_reducible refine Kd.qx ?_ _) | (with_reducible refine Kd.qj ?_ _) | (with_reducible refine Kd.qo ?_)))
    (case jW => exact (Kd.yc Yb.out).2.1)
    (case jc => repeat (first | exact (Kd.yc Yc.out).2.2 | (with_reducible refine Kd.qx ?_ _) | (with_reducible refine Kd.qj ?_ _) | (with_reducible refine Kd.qo ?_)))
    (case jd => exact (Kd.yc Yc.out).2.1)
    (case wQ => repeat (first | exact (Kd.yc vE.out).2.2 | (with_reducible refine Kd.qx ?_ _) | (with_reducible refine Kd.qj ?_ _) | (with_reducible refine Kd.qo ?_)))
    (case zwb => exact (Kd.yc vE.out).2.1)
    (case zwc => repeat (first | exact (Kd.yc vF.out).2.2 | (with_reducible refine Kd.qx ?_ _) | (with_reducible refine Kd.qj ?_ _) | (with_reducible refine Kd.qo ?_)))
    (case zji => exact (Kd.yc vF.out).2.1)
    (case zjl => repeat (first | exact (Kd.yc vG.out).2.2 | (with_reducible refine Kd.qx ?_ _) | (with_reducible refine Kd.qj ?_ _) | (with_reducible refine Kd.qo ?_)))
    (case zjm => exact (Kd.yc vG.out).2.1)
    rintro e w52 ⟨rfl, hb⟩
    refine ⟨_, rfl, ?_⟩
    have zl := zk.mk (Kd.zf (yK xw.out) hb)
    have zC := zk.mk (Kd.zf (yK xZ.out) hb)
    have zM := zk.mk (Kd.zf (yK xQ.out) hb)
    have zT := zk.mk (Kd.zf (yK vE.out) hb)
    have yL := zk.mk (Kd.zf (yK vF.out) hb)
    have y9 := zk.mk (Kd.zf (yK vG.out) hb)
    have qw := zk.mk (Kd.zf (yK Ya.out) hb)
    have xg := zk.mk (Kd.zf (yK Yb.out) hb)
    have jS := zk.mk (Kd.zf (yK Yc.out) hb)
    have YB := zk.mk (zo (g := yF) (o := .cells #[.string uQ, .bool uY, .int .i64 uH, .slice X7 uW.length X8, .slice QA uI.length QB, .slice JY u6.length JW] 26 (0, 0)) (qV yX.out) hb)
    have Zp := zk.mk (zo (g := zX) (o := .cells #[.string xG, .bool xL, .int .i64 xU, .slice Zx xM.length Zj, .slice wV vv.length wK, .slice ZF vK.length ZG] 44 (0, 0)) (qV yu.out) hb)
    have Zr := zk.mk (yg (yQ HB.out) hb)
    clear xw
    clear xZ
    clear xQ
    clear vE
    clear vF
    clear vG
    clear Ya
    clear Yb
    clear Yc
    clear yX
    clear yu
    clear HB
    have xw := zl
    have xZ := zC
    have xQ := zM
    have vE := zT
    have vF := yL
    have vG := y9
    have Ya := qw
    have Yb := xg
    have Yc := jS
    have yX := YB
    have yu := Zp
    have HB := Zr
    clear zl zC zM zT yL y9 qw xg jS YB Zp Zr
    (try clear hb)
    (try clear hb2)
    (try clear hk)
    (try clear hi)
    refine hK.out _ _ ⟨(zx yX.out 0).trans rfl, (zx yX.out 1).trans rfl, (zx yX.out 2).trans rfl, (zx yX.out 3).trans rfl, (zx yX.out 4).trans rfl, (zx yX.out 5).trans rfl, (zx yu.out 0).trans rfl, (zx yu.out 1).trans rfl, (zx yu.out 2).trans rfl, (zx yu.out 3).trans rfl, (zx yu.out 4).trans rfl, (zx yu.out 5).trans rfl⟩ (fun hHeld => ?_)
    clear hK K
    refine ZO (a' := ?_) ?_ ?_
    rotate_left
    ·show Act.put _ (some 28) _ = _
     simp only [Act.put, List.setIfInBounds_toArray, List.set_cons_zero, List.set_cons_succ, vZ, vQ]
     rfl
    refine vw (i := 8) (N := some 29) (v := ?_) (a' := ?_) #[true, true, true, true, true, true, true, true, true, false, false, false, false] rfl rfl (xk yY.out (by kernel_rfl)) (fun _ _ _ h => h) (Or.inl ⟨by rfl, ?_⟩) ?_ ?_
    rotate_left
    ·intro w'
     go_simp
     with_reducible rfl
    rotate_left
    ·simp only [Act.put, List.setIfInBounds_toArray, List.set_cons_zero, List.set_cons_succ, vZ, vQ]
     rfl
    refine vw (i := 9) (N := some 30) (v := ?_) (a' := ?_) #[true, true, true, true, true, true, true, true, true, true, false, false, false] rfl rfl (xk yY.out (by kernel_rfl)) (fun _ _ _ h => h) (Or.inl ⟨by rfl, ?_⟩) ?_ ?_
    rotate_left
    ·intro w'
     go_simp
     with_reducible rfl
    rotate_left
    ·simp only [Act.put, List.setIfInBounds_toArray, List.set_cons_zero, List.set_cons_succ, vZ, vQ]
     rfl
    refine vw (i := 10) (N := some 31) (v := undef) (a' := ?_) #[true, true, true, true, true, true, true, true, true, true, true, false, false] rfl rfl (xk yY.out (by kernel_rfl)) (fun _ _ _ h => h) (Or.inr ⟨by rfl, rfl⟩) ?_ ?_
    rotate_left
    ·simp only [Act.put, List.setIfInBounds_toArray, List.set_cons_zero, List.set_cons_succ, vZ, vQ]
     rfl
    refine vw (i := 11) (N := some 32) (v := ?_) (a' := ?_) #[true, true, true, true, true, true, true, true, true, true, true, true, false] rfl rfl (xk yY.out (by kernel_rfl)) (fun _ _ _ h => h) (Or.inl ⟨by rfl, ?_⟩) ?_ ?_
    rotate_left
    ·intro w'
     go_simp
     with_reducible rfl
    rotate_left
    ·simp only [Act.put, List.setIfInBounds_toArray, List.set_cons_zero, List.set_cons_succ, vZ, vQ]
     rfl
    refine vw (i := 12) (N := some 2) (v := ?_) (a' := ?_) #[true, true, true, true, true, true, true, true, true, true, true, true, true] rfl rfl (xk yY.out (by kernel_rfl)) (fun _ _ _ h => h) (Or.inl ⟨by rfl, ?_⟩) ?_ ?_
    rotate_left
    ·intro w'
     go_simp
     with_reducible rfl
    rotate_left
    ·simp only [Act.put, List.setIfInBounds_toArray, List.set_cons_zero, List.set_cons_succ, vZ, vQ]
     rfl
    refine uh (vC yY.out (by kernel_rfl)) ?_
    try go_wp2
    go_ret
    exact ⟨by first | rfl | (simp [yw, yZ] <;> rfl) | (simp [*, yw, yZ] <;> rfl), by repeat (first | (with_reducible first | exact HB.out | apply yS | apply yx | apply yD | refine qh ?_ zzC.out | refine qh ?_ zzD.out) | exact HB.out)⟩
  ·rw [if_neg c7] at H
   have VI : (PK == nM) = false := beq_eq_false_iff_ne.mpr c7
   have rO : (PK != nM) = true := bne_iff_ne.mpr c7
   obtain rfl := Option.some.inj H
   go_enter Tryz.func8, Tryz.ntmps8
   try go_wp2_with (first | ((with_reducible refine y7 (f := 22) rfl ?_); refine jP (some 13) Tryz.func22 #[.string a0] ?_; (with_reducible refine (wH.calls a0 uQ uY uH uW uI u6 PK _ ?vR A5.out).mono ?_); (case vR => exact GW.under HG.out (yQ HB.out)); rintro e w53 ⟨zYS, zYT, zYU, rfl, ho0, ho1, ho2, hb⟩; refine ⟨_, rfl, ?_⟩; have zl := zk.mk (Kd.vB ho0 (zH (yQ HB.out))); have zC := zk.mk (Kd.vB ho1 (zH (yQ HB.out))); have zM := zk.mk (Kd.vB ho2 (zH (yQ HB.out))); have zT := zk.mk (yg (yQ HB.out) hb); clear HB; have xw := zl; have xZ := zC; have xQ := zM; have HB := zT; clear zl zC zM zT; (try clear hb); (try clear hb2); (try clear hk); (try clear hi); (try clear ho0); (try clear ho1); (try clear ho2)) | ((with_reducible refine xI (N := 3) rfl ?_); refine vJ ?hg (N := 3) ?hd (cs := #[.string (⟨#[]⟩ : ByteArray), .bool false, .int .i64 0, .slice none 0 0, .slice none 0 0, .slice none 0 0]) (t := 26) ?hr ?_; (case hd => rfl); (case hg => rfl); (case hr => first | (go_simp; done) | (go_simp; rfl)); intro yF hg w54 vX hb; have zl := zk.mk (Kd.zf (yK xw.out) hb); have zC := zk.mk (Kd.zf (yK xZ.out) hb); have zM := zk.mk (Kd.zf (yK xQ.out) hb); have zT := zk.mk (yg (yQ HB.out) hb); have yL := zk.mk (vX); have y9 := zk.mk ((by rw [hg]; exact (zH (yQ HB.out)) : w.heap.size ≤ yF)); have qw := zk.mk ((by rw [hg]; exact (zH (yQ HB.out)) : w.heap.size ≤ yF)); clear xw; clear xZ; clear xQ; clear HB; have xw := zl; have xZ := zC; have xQ := zM; have HB := zT; have yX := yL; have zJb := y9; have zzC := qw; clear zl zC zM zT yL y9 qw; clear hb vX hg; have zil : w54.cell? ⟨yF, 0, none⟩ = some (.string (⟨#[]⟩ : ByteArray)) := (zx yX.out 0).trans rfl; have zim : w54.cell? ⟨yF, 1, none⟩ = some (.bool false) := (zx yX.out 1).trans rfl; have zin : w54.cell? ⟨yF, 2, none⟩ = some (.int .i64 0) := (zx yX.out 2).trans rfl; have zio : w54.cell? ⟨yF, 3, none⟩ = some (.slice none 0 0) := (zx yX.out 3).trans rfl; have zir : w54.cell? ⟨yF, 4, none⟩ = some (.slice none 0 0) := (zx yX.out 4).trans rfl; have zis : w54.cell? ⟨yF, 5, none⟩ = some (.slice none 0 0) := (zx yX.out 5).trans rfl; have zit := zw yX.out 0; have ziu := zw yX.out 1; have ziA := zw yX.out 2; have ziB := zw yX.out 3; have ziC := zw yX.out 4; have ziD := zw yX.out 5; obtain ⟨WK, WY, zga⟩ := Kd.yA xw.out; subst zga; obtain ⟨PY, PW, zgb⟩ := Kd.yA xZ.out; subst zgb; obtain ⟨Pv, Pk, zQp⟩ := Kd.yA xQ.out; subst zQp) | ((with_reducible refine y7 (f := 23) rfl ?_); refine jP (some 18) Tryz.func23 #[.string a0] ?_; (with_reducible refine (zZ.calls k a0 xG xL xU xM vv vK nM _ A6.out).mono ?_); rintro e w59 ⟨zY0, zY1, zY2, rfl, ho0, ho1, ho2, hb⟩; refine ⟨_, rfl, ?_⟩; have zl := zk.mk (Kd.zf (by (with_reducible repeat (first | apply Kd.yT | apply Kd.yU | apply Kd.yj)); exact (Kd.yh (Kd.zW (p := ⟨yF, 5, none⟩) (Kd.zW (p := ⟨yF, 4, none⟩) (Kd.zW (p := ⟨yF, 3, none⟩) (Kd.zW (p := ⟨yF, 2, none⟩) (Kd.zW (p := ⟨yF, 1, none⟩) (Kd.zW (p := ⟨yF, 0, none⟩) (Kd.qg xw.out yX.out (by decide)) (fun _ hk => hk.2) (.string uQ)) (fun _ hk => hk.2) (.bool uY)) (fun _ hk => hk.2) (.int .i64 uH)) (fun _ hk => hk.2) (.slice WK uW.length WY)) (fun _ hk => hk.2) (.slice PY uI.length PW)) (fun _ hk => hk.2) (.slice Pv u6.length Pk)) (fun _ h_ => h_.1))) hb); have zC := zk.mk (Kd.zf (by (with_reducible repeat (first | apply Kd.yT | apply Kd.yU | apply Kd.yj)); exact (Kd.yh (Kd.zW (p := ⟨yF, 5, none⟩) (Kd.zW (p := ⟨yF, 4, none⟩) (Kd.zW (p := ⟨yF, 3, none⟩) (Kd.zW (p := ⟨yF, 2, none⟩) (Kd.zW (p := ⟨yF, 1, none⟩) (Kd.zW (p := ⟨yF, 0, none⟩) (Kd.qg xZ.out yX.out (by decide)) (fun _ hk => hk.2) (.string uQ)) (fun _ hk => hk.2) (.bool uY)) (fun _ hk => hk.2) (.int .i64 uH)) (fun _ hk => hk.2) (.slice WK uW.length WY)) (fun _ hk => hk.2) (.slice PY uI.length PW)) (fun _ hk => hk.2) (.slice Pv u6.length Pk)) (fun _ h_ => h_.1))) hb); have zM := zk.mk (Kd.zf (by (with_reducible repeat (first | apply Kd.yT | apply Kd.yU | apply Kd.yj)); exact (Kd.yh (Kd.zW (p := ⟨yF, 5, none⟩) (Kd.zW (p := ⟨yF, 4, none⟩) (Kd.zW (p := ⟨yF, 3, none⟩) (Kd.zW (p := ⟨yF, 2, none⟩) (Kd.zW (p := ⟨yF, 1, none⟩) (Kd.zW (p := ⟨yF, 0, none⟩) (Kd.qg xQ.out yX.out (by decide)) (fun _ hk => hk.2) (.string uQ)) (fun _ hk => hk.2) (.bool uY)) (fun _ hk => hk.2) (.int .i64 uH)) (fun _ hk => hk.2) (.slice WK uW.length WY)) (fun _ hk => hk.2) (.slice PY uI.length PW)) (fun _ hk => hk.2) (.slice Pv u6.length Pk)) (fun _ h_ => h_.1))) hb); have zT := zk.mk (Kd.vB ho0 (zH (yQ HB.out))); have yL := zk.mk (Kd.vB ho1 (zH (yQ HB.out))); have y9 := zk.mk (Kd.vB ho2 (zH (yQ HB.out))); have qw := zk.mk (zo (g := yF) (o := .cells #[.string uQ, .bool uY, .int .i64 uH, .slice WK uW.length WY, .slice PY uI.length PW, .slice Pv u6.length Pk] 26 (0, 0)) (by (with_reducible repeat (first | refine zY ?_ _ | refine zV ?_ | refine zQ ?_ _)); refine zi (cs := #[.string uQ, .bool uY, .int .i64 uH, .slice WK uW.length WY, .slice PY uI.length PW, .slice none 0 0]) ?_ 5 _ rfl; (with_reducible repeat (first | refine zY ?_ _ | refine zV ?_ | refine zQ ?_ _)); refine zi (cs := #[.string uQ, .bool uY, .int .i64 uH, .slice WK uW.length WY, .slice none 0 0, .slice none 0 0]) ?_ 4 _ rfl; (with_reducible repeat (first | refine zY ?_ _ | refine zV ?_ | refine zQ ?_ _)); refine zi (cs := #[.string uQ, .bool uY, .int .i64 uH, .slice none 0 0, .slice none 0 0, .slice none 0 0]) ?_ 3 _ rfl; (with_reducible repeat (first | refine zY ?_ _ | refine zV ?_ | refine zQ ?_ _)); refine zi (cs := #[.string uQ, .bool uY, .int .i64 0, .slice none 0 0, .slice none 0 0, .slice none 0 0]) ?_ 2 _ rfl; (with_reducible repeat (first | refine zY ?_ _ | refine zV ?_ | refine zQ ?_ _)); refine zi (cs := #[.string uQ, .bool false, .int .i64 0, .slice none 0 0, .slice none 0 0, .slice none 0 0]) ?_ 1 _ rfl; (with_reducible repeat (first | refine zY ?_ _ | refine zV ?_ | refine zQ ?_ _)); refine zi (cs := #[.string (⟨#[]⟩ : ByteArray), .bool false, .int .i64 0, .slice none 0 0, .slice none 0 0, .slice none 0 0]) ?_ 0 _ rfl; (with_reducible repeat (first | refine zY ?_ _ | refine zV ?_ | refine zQ ?_ _)); exact yX.out) hb); have xg := zk.mk (yg (yQ HB.out) hb); clear xw; clear xZ; clear xQ; clear yX; clear HB; have xw := zl; have xZ := zC; have xQ := zM; have vE := zT; have vF := yL; have vG := y9; have yX := qw; have HB := xg; clear zl zC zM zT yL y9 qw xg; (try clear hb); (try clear hb2); (try clear hk); (try clear hi); (try clear ho0); (try clear ho1); (try clear ho2)) | ((with_reducible refine xI (N := 5) rfl ?_); refine vJ ?hg (N := 5) ?hd (cs := #[.string (⟨#[]⟩ : ByteArray), .bool false, .int .i64 0, .slice none 0 0, .slice none 0 0, .slice none 0 0]) (t := 44) ?hr ?_; (case hd => rfl); (case hg => rfl); (case hr => first | (go_simp; done) | (go_simp; rfl)); intro zX hg JU vX hb; have zl := zk.mk (Kd.zf (yK xw.out) hb); have zC := zk.mk (Kd.zf (yK xZ.out) hb); have zM := zk.mk (Kd.zf (yK xQ.out) hb); have zT := zk.mk (Kd.zf (yK vE.out) hb); have yL := zk.mk (Kd.zf (yK vF.out) hb); have y9 := zk.mk (Kd.zf (yK vG.out) hb); have qw := zk.mk (zo (g := yF) (o := .cells #[.string uQ, .bool uY, .int .i64 uH, .slice WK uW.length WY, .slice PY uI.length PW, .slice Pv u6.length Pk] 26 (0, 0)) (qV yX.out) hb); have xg := zk.mk (yg (yQ HB.out) hb); have jS := zk.mk (vX); have YB := zk.mk ((by rw [hg]; exact (zH (yQ HB.out)) : w.heap.size ≤ zX)); have Zp := zk.mk ((by rw [hg]; exact (zH (yQ HB.out)) : w.heap.size ≤ zX)); have Zr := zk.mk ((by rw [hg]; exact Nat.ne_of_lt (uM (g := yF) (o := .cells #[.string uQ, .bool uY, .int .i64 uH, .slice WK uW.length WY, .slice PY uI.length PW, .slice Pv u6.length Pk] 26 (0, 0)) (qV yX.out)) : yF ≠ zX)); have tC := zk.mk ((by rw [hg]; exact Nat.ne_of_gt (uM (g := yF) (o := .cells #[.string uQ, .bool uY, .int .i64 uH, .slice WK uW.length WY, .slice PY uI.length PW, .slice Pv u6.length Pk] 26 (0, 0)) (qV yX.out)) : zX ≠ yF)); clear xw; clear xZ; clear xQ; clear vE; clear vF; clear vG; clear yX; clear HB; have xw := zl; have xZ := zC; have xQ := zM; have vE := zT; have vF := yL; have vG := y9; have yX := qw; have HB := xg; have yu := jS; have zJc := YB; have zzD := Zp; have JA := Zr; have JB := tC; clear zl zC zM zT yL y9 qw xg jS YB Zp Zr tC; clear hb vX hg; have zaI := JB.out; have zaL := JA.out; have zVV : JU.cell? ⟨zX, 0, none⟩ = some (.string (⟨#[]⟩ : ByteArray)) := (zx yu.out 0).trans rfl; have zVK : JU.cell? ⟨zX, 1, none⟩ = some (.bool false) := (zx yu.out 1).trans rfl; have zVY : JU.cell? ⟨zX, 2, none⟩ = some (.int .i64 0) := (zx yu.out 2).trans rfl; have zVW : JU.cell? ⟨zX, 3, none⟩ = some (.slice none 0 0) := (zx yu.out 3).trans rfl; have zVa : JU.cell? ⟨zX, 4, none⟩ = some (.slice none 0 0) := (zx yu.out 4).trans rfl; have zVb : JU.cell? ⟨zX, 5, none⟩ = some (.slice none 0 0) := (zx yu.out 5).trans rfl; have zVc := zw yu.out 0; have zVd := zw yu.out 1; have zVe := zw yu.out 2; have zVf := zw yu.out 3; have zVg := zw yu.out 4; have zVh := zw yu.out 5; obtain ⟨Yp, Yr, zgc⟩ := Kd.yA vE.out; subst zgc; obtain ⟨Y0, Y1, zgd⟩ := Kd.yA vF.out; subst zgd; obtain ⟨Xx, Xj, zge⟩ := Kd.yA vG.out; subst zge))
   have zl : zk (Kd.R jB 31 ((((((JU.setCell ⟨zX, 0, none⟩ (.string xG)).setCell ⟨zX, 1, none⟩ (.bool xL)).setCell ⟨zX, 2, none⟩ (.int .i64 xU)).setCell ⟨zX, 3, none⟩ (.slice Yp xM.length Yr)).setCell ⟨zX, 4, none⟩ (.slice Y0 vv.length Y1)).setCell ⟨zX, 5, none⟩ (.slice Xx vK.length Xj)) w.heap.size (fun _ => True) (.slice WK uW.length WY) uW) := ⟨by (with_reducible repeat (first | apply Kd.yT | apply Kd.yU | apply Kd.yj)); exact Kd.yh (Kd.zW (p := ⟨zX, 5, none⟩) (Kd.zW (p := ⟨zX, 4, none⟩) (Kd.zW (p := ⟨zX, 3, none⟩) (Kd.zW (p := ⟨zX, 2, none⟩) (Kd.zW (p := ⟨zX, 1, none⟩) (Kd.zW (p := ⟨zX, 0, none⟩) (Kd.qg xw.out yu.out (by decide)) (fun _ hk => hk.2) (.string xG)) (fun _ hk => hk.2) (.bool xL)) (fun _ hk => hk.2) (.int .i64 xU)) (fun _ hk => hk.2) (.slice Yp xM.length Yr)) (fun _ hk => hk.2) (.slice Y0 vv.length Y1)) (fun _ hk => hk.2) (.slice Xx vK.length Xj)) (fun _ hk => trivial)⟩
   have zC : zk (Kd.R kS 86 ((((((JU.setCell ⟨zX, 0, none⟩ (.string xG)).setCell ⟨zX, 1, none⟩ (.bool xL)).setCell ⟨zX, 2, none⟩ (.int .i64 xU)).setCell ⟨zX, 3, none⟩ (.slice Yp xM.length Yr)).setCell ⟨zX, 4, none⟩ (.slice Y0 vv.length Y1)).setCell ⟨zX, 5, none⟩ (.slice Xx vK.length Xj)) w.heap.size (fun _ => True) (.slice PY uI.length PW) uI) := ⟨by (with_reducible repeat (first | apply Kd.yT | apply Kd.yU | apply Kd.yj)); exact Kd.yh (Kd.zW (p := ⟨zX, 5, none⟩) (Kd.zW (p := ⟨zX, 4, none⟩) (Kd.zW (p := ⟨zX, 3, none⟩) (Kd.zW (p := ⟨zX, 2, none⟩) (Kd.zW (p := ⟨zX, 1, none⟩) (Kd.zW (p := ⟨zX, 0, none⟩) (Kd.qg xZ.out yu.out (by decide)) (fun _ hk => hk.2) (.string xG)) (fun _ hk => hk.2) (.bool xL)) (fun _ hk => hk.2) (.int .i64 xU)) (fun _ hk => hk.2) (.slice Yp xM.length Yr)) (fun _ hk => hk.2) (.slice Y0 vv.length Y1)) (fun _ hk => hk.2) (.slice Xx vK.length Xj)) (fun _ hk => trivial)⟩
   have zM : zk (Kd.R kU 76 ((((((JU.setCell ⟨zX, 0, none⟩ (.string xG)).setCell ⟨zX, 1, none⟩ (.bool xL)).setCell ⟨zX, 2, none⟩ (.int .i64 xU)).setCell ⟨zX, 3, none⟩ (.slice Yp xM.length Yr)).setCell ⟨zX, 4, none⟩ (.slice Y0 vv.length Y1)).setCell ⟨zX, 5, none⟩ (.slice Xx vK.length Xj)) w.heap.size (fun _ => True) (.slice Pv u6.length Pk) u6) := ⟨by (with_reducible repeat (first | apply Kd.yT | apply Kd.yU | apply Kd.yj)); exact Kd.yh (Kd.zW (p := ⟨zX, 5, none⟩) (Kd.zW (p := ⟨zX, 4, none⟩) (Kd.zW (p := ⟨zX, 3, none⟩) (Kd.zW (p := ⟨zX, 2, none⟩) (Kd.zW (p := ⟨zX, 1, none⟩) (Kd.zW (p := ⟨zX, 0, none⟩) (Kd.qg xQ.out yu.out (by decide)) (fun _ hk => hk.2) (.string xG)) (fun _ hk => hk.2) (.bool xL)) (fun _ hk => hk.2) (.int .i64 xU)) (fun _ hk => hk.2) (.slice Yp xM.length Yr)) (fun _ hk => hk.2) (.slice Y0 vv.length Y1)) (fun _ hk => hk.2) (.slice Xx vK.length Xj)) (fun _ hk => trivial)⟩
   have zT : zk (Kd.R YQ 81 ((((((JU.setCell ⟨zX, 0, none⟩ (.string xG)).setCell ⟨zX, 1, none⟩ (.bool xL)).setCell ⟨zX, 2, none⟩ (.int .i64 xU)).setCell ⟨zX, 3, none⟩ (.slice Yp xM.length Yr)).setCell ⟨zX, 4, none⟩ (.slice Y0 vv.length Y1)).setCell ⟨zX, 5, none⟩ (.slice Xx vK.length Xj)) w.heap.size (fun _ => True) (.slice Yp xM.length Yr) xM) := ⟨by (with_reducible repeat (first | apply Kd.yT | apply Kd.yU | apply Kd.yj)); exact Kd.yh (Kd.zW (p := ⟨zX, 5, none⟩) (Kd.zW (p := ⟨zX, 4, none⟩) (Kd.zW (p := ⟨zX, 3, none⟩) (Kd.zW (p := ⟨zX, 2, none⟩) (Kd.zW (p := ⟨zX, 1, none⟩) (Kd.zW (p := ⟨zX, 0, none⟩) (Kd.qg vE.out yu.out (by decide)) (fun _ hk => hk.2) (.string xG)) (fun _ hk => hk.2) (.bool xL)) (fun _ hk => hk.2) (.int .i64 xU)) (fun _ hk => hk.2) (.slice Yp xM.length Yr)) (fun _ hk => hk.2) (.slice Y0 vv.length Y1)) (fun _ hk => hk.2) (.slice Xx vK.length Xj)) (fun _ hk => trivial)⟩
   have yL : zk (Kd.R Yt 83 ((((((JU.setCell ⟨zX, 0, none⟩ (.string xG)).setCell ⟨zX, 1, none⟩ (.bool xL)).setCell ⟨zX, 2, none⟩ (.int .i64 xU)).setCell ⟨zX, 3, none⟩ (.slice Yp xM.length Yr)).setCell ⟨zX, 4, none⟩ (.slice Y0 vv.length Y1)).setCell ⟨zX, 5, none⟩ (.slice Xx vK.length Xj)) w.heap.size (fun _ => True) (.slice Y0 vv.length Y1) vv) := ⟨by (with_reducible repeat (first | apply Kd.yT | apply Kd.yU | apply Kd.yj)); exact Kd.yh (Kd.zW (p := ⟨zX, 5, none⟩) (Kd.zW (p := ⟨zX, 4, none⟩) (Kd.zW (p := ⟨zX, 3, none⟩) (Kd.zW (p := ⟨zX, 2, none⟩) (Kd.zW (p := ⟨zX, 1, none⟩) (Kd.zW (p := ⟨zX, 0, none⟩) (Kd.qg vF.out yu.out (by decide)) (fun _ hk => hk.2) (.string xG)) (fun _ hk => hk.2) (.bool xL)) (fun _ hk => hk.2) (.int .i64 xU)) (fun _ hk => hk.2) (.slice Yp xM.length Yr)) (fun _ hk => hk.2) (.slice Y0 vv.length Y1)) (fun _ hk => hk.2) (.slice Xx vK.length Xj)) (fun _ hk => trivial)⟩
   have y9 : zk (Kd.R Yu 84 ((((((JU.setCell ⟨zX, 0, none⟩ (.string xG)).setCell ⟨zX, 1, none⟩ (.bool xL)).setCell ⟨zX, 2, none⟩ (.int .i64 xU)).setCell ⟨zX, 3, none⟩ (.slice Yp xM.length Yr)).setCell ⟨zX, 4, none⟩ (.slice Y0 vv.length Y1)).setCell ⟨zX, 5, none⟩ (.slice Xx vK.length Xj)) w.heap.size (fun _ => True) (.slice Xx vK.length Xj) vK) := ⟨by (with_reducible repeat (first | apply Kd.yT | apply Kd.yU | apply Kd.yj)); exact Kd.yh (Kd.zW (p := ⟨zX, 5, none⟩) (Kd.zW (p := ⟨zX, 4, none⟩) (Kd.zW (p := ⟨zX, 3, none⟩) (Kd.zW (p := ⟨zX, 2, none⟩) (Kd.zW (p := ⟨zX, 1, none⟩) (Kd.zW (p := ⟨zX, 0, none⟩) (Kd.qg vG.out yu.out (by decide)) (fun _ hk => hk.2) (.string xG)) (fun _ hk => hk.2) (.bool xL)) (fun _ hk => hk.2) (.int .i64 xU)) (fun _ hk => hk.2) (.slice Yp xM.length Yr)) (fun _ hk => hk.2) (.slice Y0 vv.length Y1)) (fun _ hk => hk.2) (.slice Xx vK.length Xj)) (fun _ hk => trivial)⟩
   have qw : zk (((((((JU.setCell ⟨zX, 0, none⟩ (.string xG)).setCell ⟨zX, 1, none⟩ (.bool xL)).setCell ⟨zX, 2, none⟩ (.int .i64 xU)).setCell ⟨zX, 3, none⟩ (.slice Yp xM.length Yr)).setCell ⟨zX, 4, none⟩ (.slice Y0 vv.length Y1)).setCell ⟨zX, 5, none⟩ (.slice Xx vK.length Xj)).heap[yF]? = some (.cells #[.string uQ, .bool uY, .int .i64 uH, .slice WK uW.length WY, .slice PY uI.length PW, .slice Pv u6.length Pk] 26 (0, 0))) := ⟨JO yX.out⟩
   have xg : zk (((((((JU.setCell ⟨zX, 0, none⟩ (.string xG)).setCell ⟨zX, 1, none⟩ (.bool xL)).setCell ⟨zX, 2, none⟩ (.int .i64 xU)).setCell ⟨zX, 3, none⟩ (.slice Yp xM.length Yr)).setCell ⟨zX, 4, none⟩ (.slice Y0 vv.length Y1)).setCell ⟨zX, 5, none⟩ (.slice Xx vK.length Xj)).heap[zX]? = some (.cells #[.string xG, .bool xL, .int .i64 xU, .slice Yp xM.length Yr, .slice Y0 vv.length Y1, .slice Xx vK.length Xj] 44 (0, 0))) := ⟨by (with_reducible repeat (first | refine zY ?_ _ | refine zV ?_ | refine zQ ?_ _)); refine zi (cs := #[.string xG, .bool xL, .int .i64 xU, .slice Yp xM.length Yr, .slice Y0 vv.length Y1, .slice none 0 0]) ?_ 5 _ rfl; (with_reducible repeat (first | refine zY ?_ _ | refine zV ?_ | refine zQ ?_ _)); refine zi (cs := #[.string xG, .bool xL, .int .i64 xU, .slice Yp xM.length Yr, .slice none 0 0, .slice none 0 0]) ?_ 4 _ rfl; (with_reducible repeat (first | refine zY ?_ _ | refine zV ?_ | refine zQ ?_ _)); refine zi (cs := #[.string xG, .bool xL, .int .i64 xU, .slice none 0 0, .slice none 0 0, .slice none 0 0]) ?_ 3 _ rfl; (with_reducible repeat (first | refine zY ?_ _ | refine zV ?_ | refine zQ ?_ _)); refine zi (cs := #[.string xG, .bool xL, .int .i64 0, .slice none 0 0, .slice none 0 0, .slice none 0 0]) ?_ 2 _ rfl; (with_reducible repeat (first | refine zY ?_ _ | refine zV ?_ | refine zQ ?_ _)); refine zi (cs := #[.string xG, .bool false, .int .i64 0, .slice none 0 0, .slice none 0 0, .slice none 0 0]) ?_ 1 _ rfl; (with_reducible repeat (first | refine zY ?_ _ | refine zV ?_ | refine zQ ?_ _)); refine zi (cs := #[.string (⟨#[]⟩ : ByteArray), .bool false, .int .i64 0, .slice none 0 0, .slice none 0 0, .slice none 0 0]) ?_ 0 _ rfl; (with_reducible repeat (first | refine zY ?_ _ | refine zV ?_ | refine zQ ?_ _)); exact yu.out⟩
   have jS : zk (Below w.heap.size w ((((((JU.setCell ⟨zX, 0, none⟩ (.string xG)).setCell ⟨zX, 1, none⟩ (.bool xL)).setCell ⟨zX, 2, none⟩ (.int .i64 xU)).setCell ⟨zX, 3, none⟩ (.slice Yp xM.length Yr)).setCell ⟨zX, 4, none⟩ (.slice Y0 vv.length Y1)).setCell ⟨zX, 5, none⟩ (.slice Xx vK.length Xj))) := ⟨yQ HB.out⟩
   (try clear xw)
   (try clear xZ)
   (try clear xQ)
   (try clear vE)
   (try clear vF)
   (try clear vG)
   (try clear yX)
   (try clear yu)
   (try clear HB)
   generalize ((((((JU.setCell ⟨zX, 0, none⟩ (.string xG)).setCell ⟨zX, 1, none⟩ (.bool xL)).setCell ⟨zX, 2, none⟩ (.int .i64 xU)).setCell ⟨zX, 3, none⟩ (.slice Yp xM.length Yr)).setCell ⟨zX, 4, none⟩ (.slice Y0 vv.length Y1)).setCell ⟨zX, 5, none⟩ (.slice Xx vK.length Xj)) = w66 at zl zC zM zT yL y9 qw xg jS ⊢
   have xw := zl
   have xZ := zC
   have xQ := zM
   have vE := zT
   have vF := yL
   have vG := y9
   have yX := qw
   have yu := xg
   have HB := jS
   clear zl zC zM zT yL y9 qw xg jS
   have zl := zk.mk (Kd.yj xw.out)
   have zC := zk.mk (Kd.yj xZ.out)
   have zM := zk.mk (Kd.yj xQ.out)
   have zT := zk.mk (Kd.yj vE.out)
   have yL := zk.mk (Kd.yj vF.out)
   have y9 := zk.mk (Kd.yj vG.out)
   have qw := zk.mk (zV yX.out)
   have xg := zk.mk (zV yu.out)
   have jS := zk.mk (yD HB.out)
   clear xw
   clear xZ
   clear xQ
   clear vE
   clear vF
   clear vG
   clear yX
   clear yu
   clear HB
   have xw := zl
   have xZ := zC
   have xQ := zM
   have vE := zT
   have vF := yL
   have vG := y9
   have yX := qw
   have yu := xg
   have HB := jS
   clear zl zC zM zT yL y9 qw xg jS
   refine wW (n := 13) (S := fun w' => True) (ds := []) #[false, false, false, false, false, false, false, false, false, false, false, false, false] (by kernel_rfl) rfl rfl trivial (fun hHeld => ?_); refine wI qW.mJ qW.mI (fun yY jT => ?_)
   generalize w66.drew = w67 at xw xZ xQ vE vF vG yX yu HB hHeld ⊢
   refine vw (i := 0) (N := some 21) (v := ?_) (a' := ?_) #[true, false, false, false, false, false, false, false, false, false, false, false, false] rfl rfl (xk yY.out (by kernel_rfl)) (fun _ _ _ h => h) (Or.inl ⟨by rfl, ?_⟩) ?_ ?_
   rotate_left
   ·intro w'
    go_simp
    with_reducible rfl
   rotate_left
   ·simp only [Act.put, List.setIfInBounds_toArray, List.set_cons_zero, List.set_cons_succ, vZ, vQ]
    rfl
   refine vw (i := 1) (N := some 22) (v := ?_) (a' := ?_) #[true, true, false, false, false, false, false, false, false, false, false, false, false] rfl rfl (xk yY.out (by kernel_rfl)) (fun _ _ _ h => h) (Or.inl ⟨by rfl, ?_⟩) ?_ ?_
   rotate_left
   ·intro w'
    go_simp
    with_reducible rfl
   rotate_left
   ·simp only [Act.put, List.setIfInBounds_toArray, List.set_cons_zero, List.set_cons_succ, vZ, vQ]
    rfl
   refine vw (i := 2) (N := some 23) (v := ?_) (a' := ?_) #[true, true, true, false, false, false, false, false, false, false, false, false, false] rfl rfl (xk yY.out (by kernel_rfl)) (fun _ _ _ h => h) (Or.inl ⟨by rfl, ?_⟩) ?_ ?_
   rotate_left
   ·intro w'
    go_simp
    with_reducible rfl
   rotate_left
   ·simp only [Act.put, List.setIfInBounds_toArray, List.set_cons_zero, List.set_cons_succ, vZ, vQ]
    rfl
   refine vw (i := 3) (N := some 24) (v := ?_) (a' := ?_) #[true, true, true, true, false, false, false, false, false, false, false, false, false] rfl rfl (xk yY.out (by kernel_rfl)) (fun _ _ _ h => h) (Or.inl ⟨by rfl, ?_⟩) ?_ ?_
   rotate_left
   ·intro w'
    go_simp
    with_reducible rfl
   rotate_left
   ·simp only [Act.put, List.setIfInBounds_toArray, List.set_cons_zero, List.set_cons_succ, vZ, vQ]
    rfl
   refine vw (i := 4) (N := some 25) (v := undef) (a' := ?_) #[true, true, true, true, true, false, false, false, false, false, false, false, false] rfl rfl (xk yY.out (by kernel_rfl)) (fun _ _ _ h => h) (Or.inr ⟨by rfl, rfl⟩) ?_ ?_
   rotate_left
   ·simp only [Act.put, List.setIfInBounds_toArray, List.set_cons_zero, List.set_cons_succ, vZ, vQ]
    rfl
   refine vw (i := 5) (N := some 26) (v := undef) (a' := ?_) #[true, true, true, true, true, true, false, false, false, false, false, false, false] rfl rfl (xk yY.out (by kernel_rfl)) (fun _ _ _ h => h) (Or.inr ⟨by rfl, rfl⟩) ?_ ?_
   rotate_left
   ·simp only [Act.put, List.setIfInBounds_toArray, List.set_cons_zero, List.set_cons_succ, vZ, vQ]
    rfl
   refine vw (i := 6) (N := some 27) (v := undef) (a' := ?_) #[true, true, true, true, true, true, true, false, false, false, false, false, false] rfl rfl (xk yY.out (by kernel_rfl)) (fun _ _ _ h => h) (Or.inr ⟨by rfl, rfl⟩) ?_ ?_
   rotate_left
   ·simp only [Act.put, List.setIfInBounds_toArray, List.set_cons_zero, List.set_cons_succ, vZ, vQ]
    rfl
   refine vw (i := 7) (N := some 28) (v := undef) (a' := ?_) #[true, true, true, true, true, true, true, true, false, false, false, false, false] rfl rfl (xk yY.out (by kernel_rfl)) (fun _ _ _ h => h) (Or.inr ⟨by rfl, rfl⟩) ?_ ?_
   rotate_left
   ·simp only [Act.put, List.setIfInBounds_toArray, List.set_cons_zero, List.set_cons_succ, vZ, vQ]
    rfl
   refine vw (i := 8) (N := some 29) (v := ?_) (a' := ?_) #[true, true, true, true, true, true, true, true, true, false, false, false, false] rfl rfl (xk yY.out (by kernel_rfl)) (fun _ _ _ h => h) (Or.inl ⟨by rfl, ?_⟩) ?_ ?_
   rotate_left
   ·intro w'
    go_simp
    with_reducible rfl
   rotate_left
   ·simp only [Act.put, List.setIfInBounds_toArray, List.set_cons_zero, List.set_cons_succ, vZ, vQ]
    rfl
   refine vw (i := 9) (N := some 30) (v := ?_) (a' := ?_) #[true, true, true, true, true, true, true, true, true, true, false, false, false] rfl rfl (xk yY.out (by kernel_rfl)) (fun _ _ _ h => h) (Or.inl ⟨by rfl, ?_⟩) ?_ ?_
   rotate_left
   ·intro w'
    go_simp
    with_reducible rfl
   rotate_left
   ·simp only [Act.put, List.setIfInBounds_toArray, List.set_cons_zero, List.set_cons_succ, vZ, vQ]
    rfl
   refine vw (i := 10) (N := some 31) (v := undef) (a' := ?_) #[true, true, true, true, true, true, true, true, true, true, true, false, false] rfl rfl (xk yY.out (by kernel_rfl)) (fun _ _ _ h => h) (Or.inr ⟨by rfl, rfl⟩) ?_ ?_
   rotate_left
   ·simp only [Act.put, List.setIfInBounds_toArray, List.set_cons_zero, List.set_cons_succ, vZ, vQ]
    rfl
   refine vw (i := 11) (N := some 32) (v := ?_) (a' := ?_) #[true, true, true, true, true, true, true, true, true, true, true, true, false] rfl rfl (xk yY.out (by kernel_rfl)) (fun _ _ _ h => h) (Or.inl ⟨by rfl, ?_⟩) ?_ ?_
   rotate_left
   ·intro w'
    go_simp
    with_reducible rfl
   rotate_left
   ·simp only [Act.put, List.setIfInBounds_toArray, List.set_cons_zero, List.set_cons_succ, vZ, vQ]
    rfl
   refine vw (i := 12) (N := some 2) (v := ?_) (a' := ?_) #[true, true, true, true, true, true, true, true, true, true, true, true, true] rfl rfl (xk yY.out (by kernel_rfl)) (fun _ _ _ h => h) (Or.inl ⟨by rfl, ?_⟩) ?_ ?_
   rotate_left
   ·intro w'
    go_simp
    with_reducible rfl
   rotate_left
   ·simp only [Act.put, List.setIfInBounds_toArray, List.set_cons_zero, List.set_cons_succ, vZ, vQ]
    rfl
   refine uh (vC yY.out (by kernel_rfl)) ?_
   try go_wp2
   go_ret
   exact ⟨by first | rfl | (simp [yw, yZ] <;> rfl) | (simp [*, yw, yZ] <;> rfl), by repeat (first | (with_reducible first | exact HB.out | apply yS | apply yx | apply yD | refine qh ?_ zzC.out | refine qh ?_ zzD.out) | exact HB.out)⟩
end Go.Proofs.YtaifemkokfoadaaGreatDoor.PX
namespace Go.Proofs.YtaifemkokfoadaaGreatDoor
open Go.RowKit Go.Proofs.zy.zK Go.Proofs.YtaifemkokfoadaaGreatDoor.PX
set_option linter.unusedVariables false
def resT (p : vI × Int) : ByteArray × Bool × Int × List qA × List qM × List qH × Int := (p.1.a, p.1.b, p.1.c, p.1.l3.map p9, p.1.l4.map YP, p.1.l5.map YR, p.2)
theorem zY9 (s : ByteArray) (hs : s.size ≤ 100000) : Ev (fun k => zZ.f k s) (resT (uV s)) := by
 by_cases h : ∃ f, zy9 f = true ∧ zwz f = s.data.toList
 ·obtain ⟨f, h1, h2⟩ := h
  rw [zjB h1 h2]
  exact zQP f s h1 h2 hs
 ·have hp : uV s = (vI.zero, 4) := by
   unfold uV
   cases hg : uS vI.zero ((Z7 s.data.toList).map bar) with
   | none => rfl
   | some f => exact if_neg (fun hh => h ⟨f, hh⟩)
  rw [hp]
  obtain ⟨r, he, hr⟩ := zQM s hs
  rcases hr with rfl | ⟨g, rfl, h1, h2⟩
  ·exact he
  ·exact absurd ⟨toP g, by rw [zkD]; exact h1, by rw [zkE]; exact h2⟩ h
theorem zwd (s : ByteArray) : (uV s).1.l3.length ≤ 1000000 ∧ (uV s).1.l4.length ≤ 1000000 ∧ (uV s).1.l5.length ≤ 1000000 := by
 unfold uV
 split
 ·exact ⟨by decide, by decide, by decide⟩
 ·split
  ·rename_i f _ hv
   have := nQ hv.1
   have h3 := this.n3
   have h4 := this.n4
   have h5 := this.n5
   exact ⟨by show f.l3.length ≤ _; omega, by show f.l4.length ≤ _; omega, by show f.l5.length ≤ _; omega⟩
  ·exact ⟨by decide, by decide, by decide⟩
theorem zjn (s : ByteArray) : ∃ k, qW.f k s = some true := by
 suffices H : Ev (fun k => qW.f k s) true from H.rounds
 refine Ev.congr (fun k => by rw [qW.f]) ?_
 by_cases hs : (s.size : Int) > 2000
 ·exact yJ hs (zw2 (Ev.now _))
 ·refine xA hs ?_
  have hsz : s.size ≤ 2000 := by omega
  have hp : wH.f s = some ((uV s).1.a, (uV s).1.b, (uV s).1.c, (uV s).1.l3, (uV s).1.l4, (uV s).1.l5, (uV s).2) := by
   unfold wH.f; rw [if_pos (by omega)]
  obtain ⟨z3, z4, z5⟩ := zwd s
  have hR := zY9 s (by omega)
  generalize uV s = p at hp z3 z4 z5 hR
  obtain ⟨⟨a, b, c, l3, l4, l5⟩, e⟩ := p
  refine oU hp (Ev.bind hR (yJ rfl (Ev.bind (zby a b c l3 l4 l5 z3 z4 z5) ?_)))
  obtain ⟨q, hq, hi⟩ := zyf a b c (l3.map sZ) (l4.map iF) (l5.map asK) a b c (l3.map p9) (l4.map YP) (l5.map YR) (by rw [List.length_map]; exact z3) (by rw [List.length_map]; exact z4) (by rw [List.length_map]; exact z5)
  have hq1 : q = true := hi.2 ⟨rfl, rfl, rfl, rfl, rfl, rfl⟩
  subst hq1
  exact Ev.bind hq (yJ rfl (zw2 (Ev.now _)))
end Go.Proofs.YtaifemkokfoadaaGreatDoor
namespace Go.Proofs.YtaifemkokfoadaaGreatDoor
open Go.ChangeShapes Go.WideShapes Go.RowKit Go.Deep Go.Proofs.zy.zK
section
variable {H : Type} {enc : TypeId × Value → H} {P : Program} {w : World} {sp : Nat → Bool} {held : Bool} {α : Type}
end
end Go.Proofs.YtaifemkokfoadaaGreatDoor
namespace Go.Proofs.YtaifemkokfoadaaGreatDoor
open Go.RowKit Go.ChangeShapes Go.WideShapes Go.Proofs.zy.zK
theorem rX {P : Program} {w : World} {l : List (String × DataW Unit)} {n nm : String} {d : DataW Unit} {g : Nat} {t : TypeId} {ms : Array (String × TypeId)} (h : laidMet P l w) (hm : (n, .iface nm d) ∈ l)
  (hg : P.globalNamed n = some g) (ht : (P.globals[g]?).map (·.type) = some t) (hu : P.underlying t = some (.interface ms)) : ∃ tp p, w.var? P n = some #[.iface tp p] := by
 obtain ⟨g', t', cs, fuel, p, e1, e2, e3, e4⟩ := Lib.laidMet.reads h hm
 obtain rfl : g' = g := Option.some.inj (e1.symm.trans hg)
 obtain rfl : t' = t := Option.some.inj (e2.symm.trans ht)
 cases fuel with
 | zero => simp [DataW.trod] at e4
 | succ k =>
  unfold DataW.trod at e4
  rw [hu] at e4
  obtain ⟨cl⟩ := cs
  rw [e3]
  match cl, e4 with
  | [], e4 => simp at e4
  | [v], e4 =>
   cases v <;> simp at e4
   exact ⟨_, _, rfl⟩
  | _ :: _ :: _, e4 => simp at e4
theorem zcb {W : World} {l : List (String × DataW Unit)} {ds : DataW Unit} {dr : DataW Unit} {n1 n2 : String} (h : laidMet Tryz.prog l W) (hsh : W.ShapedOpen Tryz.prog) (h1 : ("internal/strconv.uint64pow10", Lib.tabData .u64 Lib.pow10Tab) ∈ l) (h2 : ("strconv.ErrSyntax", .iface n1 ds) ∈ l) (h3 : ("strconv.ErrRange", .iface n2 dr) ∈ l) (h4 : ("strings.asciiSpace", Lib.tabData .u8 Lib.asciiSpaceTab) ∈ l) : GW W := by
 have htab : Lib.TabIs Tryz.prog W "internal/strconv.uint64pow10" .u64 Lib.pow10Tab := nO (g := 7) (t := 244) (e := 186) (n := 20) (by kernel_rfl) (by kernel_rfl) Tryz.underlying244 Tryz.underlying186 (by kernel_rfl) (by kernel_rfl) h h1
 have zgf : Lib.TabIs Tryz.prog W "strings.asciiSpace" .u8 Lib.asciiSpaceTab := nO (g := 0) (t := 140) (e := 5) (n := 256) (by kernel_rfl) (by kernel_rfl) Tryz.underlying140 Tryz.underlying5 (by kernel_rfl) (by kernel_rfl) h h4
 refine ⟨htab, rX (g := 3) h h2 (by kernel_rfl) (t := 131) (by kernel_rfl) Tryz.underlying131, rX (g := 4) h h3 (by kernel_rfl) (t := 131) (by kernel_rfl) Tryz.underlying131, zgf,
  cell_of_shapedOpen_int (t := 3) (zero := #[.int .i64 0]) hsh (of_decide_eq_true (by kernel_rfl)) (by kernel_rfl) rfl (by kernel_rfl) (by kernel_rfl) Tryz.underlying3, ?_⟩
 obtain ⟨o, _, h4, _⟩ := hsh.2 11 (of_decide_eq_true (by kernel_rfl)) (of_decide_eq_true (by kernel_rfl))
 rcases Nat.lt_or_ge 11 W.heap.size with h5 | h5
 ·omega
 ·rw [Array.getElem?_eq_none h5] at h4; cases h4
end Go.Proofs.YtaifemkokfoadaaGreatDoor
