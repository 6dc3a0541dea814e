/-
  Texts that lean on one another, laid in one file. No condition.
-/
import Derived.Test.YtggifbbiiickmaaGreatDoorGBX1
import Derived.Test.YtggifbbiiickmaaGreatDoorGBX5
import Derived.Test.YtggifbbiiickmaaGreatDoorGBX4
import Derived.Test.YtggifbbiiickmaaGreatDoorGBX3
import Derived.Deep.Slices
import Derived.ChangeArms
import Derived.ChangeSlices
import Derived.SizedLaws
import Derived.WideShapes
import Derived.Test.YtggifbbiiickmaaGreatDoorGBX2
import Derived.OpenShut
import Derived.Lib.LaidU8
import Derived.Shelf.Vars
namespace Go.Proofs.YtggifbbiiickmaaGreatDoor.PX
open Go.RowKit Go.Proofs.zk.zu Go.Proofs.zk.yD Go.Proofs.zk.yA
attribute [local go_sem] xP xR vG vH xB xC xS xU   -- for this text's walks alone
set_option linter.unusedVariables false
set_option linter.unusedSimpArgs false
mutual
def yK.j0:Nat → Bool → Int → Int → Int → Int → ByteArray → ByteArray → List Int → Int → Int → Int → Int → ByteArray → ByteArray → List Int → Option (Bool)
 | 0,_,_,_,_,_,_,_,_,_,_,_,_,_,_,_=>none
 | k + 1,x54,zyr,zys,zyt,zyu,zyA,zyB,zzg,zyC,zyD,zyE,zyF,zyG,zyH,zzh=>if x54 = true then (some false) else (yK.l0 k 0 zyr zys zyt zyu zyA zyB zzg zyC zyD zyE zyF zyG zyH zzh)
def yK.l0:Nat → Int → Int → Int → Int → Int → ByteArray → ByteArray → List Int → Int → Int → Int → Int → ByteArray → ByteArray → List Int → Option (Bool)
 | 0,_,_,_,_,_,_,_,_,_,_,_,_,_,_,_=>none
 | k + 1,x5,zyr,zys,zyt,zyu,zyA,zyB,zzg,zyC,zyD,zyE,zyF,zyG,zyH,zzh=>if x5 < (zzg.length:Int) then (if 0 ≤ x5 then (if x5 < (zzh.length:Int) then (if (rd zzg x5) = (rd zzh x5) then (yK.l0 k (wrap64 (x5 + 1)) zyr zys zyt zyu zyA zyB zzg zyC zyD zyE zyF zyG zyH zzh) else (some false)) else (none)) else (none)) else (some true)
end
def yK.f (k:Nat) (zD:Int) (ze:Int) (za:Int) (yN:Int) (yS:ByteArray) (uS:ByteArray) (yL:List Int) (zS:Int) (zP:Int) (yC:Int) (yh:Int) (kQ:ByteArray) (kX:ByteArray) (jX:List Int):Option (Bool):=if zD = zS then (if ze = zP then (if za = yC then (if yN = yh then (if yS.toList = kQ.toList then (if uS.toList = kX.toList then (yK.j0 k ((yL.length:Int) != (jX.length:Int)) zD ze za yN yS uS yL zS zP yC yh kQ kX jX) else (yK.j0 k true zD ze za yN yS uS yL zS zP yC yh kQ kX jX)) else (yK.j0 k true zD ze za yN yS uS yL zS zP yC yh kQ kX jX)) else (yK.j0 k true zD ze za yN yS uS yL zS zP yC yh kQ kX jX)) else (yK.j0 k true zD ze za yN yS uS yL zS zP yC yh kQ kX jX)) else (yK.j0 k true zD ze za yN yS uS yL zS zP yC yh kQ kX jX)) else (yK.j0 k true zD ze za yN yS uS yL zS zP yC yh kQ kX jX)
set_option maxHeartbeats 8000000 in
set_option maxRecDepth 100000 in
theorem yK.calls (k:Nat) (zD:Int) (ze:Int) (za:Int) (yN:Int) (yS:ByteArray) (uS:ByteArray) (xk:Option Addr) (xw:Nat) (yL:List Int) (zS:Int) (zP:Int) (yC:Int) (yh:Int) (kQ:ByteArray) (kX:ByteArray) (Vs:Option Addr) (Vt:Nat) (jX:List Int) (r:Bool) (w:World) (zvM:Kd.C (Kd.int .i64) w xk yL.length yL) (zvN:yL.length ≤ xw) (zfg:Kd.C (Kd.int .i64) w Vs jX.length jX) (zfh:jX.length ≤ Vt) (h:yK.f k zD ze za yN yS uS yL zS zP yC yh kQ kX jX = some r) :
  Calls Tryz.prog 53 #[.agg #[.int .i64 zD,.int .i64 ze,.int .i64 za,.int .i64 yN,.string yS,.string uS,.slice xk yL.length xw],.agg #[.int .i64 zS,.int .i64 zP,.int .i64 yC,.int .i64 yh,.string kQ,.string kX,.slice Vs jX.length Vt]] w fun e w'=>e = .returned (.bool r) ∧ Below w.heap.size w w':=by
 have zlO:=Tryz.underlying53
 have Ws:=zx.mk zvM
 have gM:=zx.mk zvN
 clear zvM zvN
 have zfi:=zx.mk zfg
 have zDT:=zx.mk zfh
 clear zfg zfh
 have HB:=zx.mk (Below.refl w.heap.size w)
 have H:(if zD = zS then (if ze = zP then (if za = yC then (if yN = yh then (if yS.toList = kQ.toList then (if uS.toList = kX.toList then (yK.j0 k ((yL.length:Int) != (jX.length:Int)) zD ze za yN yS uS yL zS zP yC yh kQ kX jX) else (yK.j0 k true zD ze za yN yS uS yL zS zP yC yh kQ kX jX)) else (yK.j0 k true zD ze za yN yS uS yL zS zP yC yh kQ kX jX)) else (yK.j0 k true zD ze za yN yS uS yL zS zP yC yh kQ kX jX)) else (yK.j0 k true zD ze za yN yS uS yL zS zP yC yh kQ kX jX)) else (yK.j0 k true zD ze za yN yS uS yL zS zP yC yh kQ kX jX)) else (yK.j0 k true zD ze za yN yS uS yL zS zP yC yh kQ kX jX)) = some r:=h
 clear h
 have sK:=zx.mk H
 clear H
 go_enter Tryz.func53,Tryz.ntmps53
 go_upto_region 1 with (first | ((with_reducible refine qA (N:=2) rfl ?_);(try (refine uO (by rfl) ?_;dsimp only));refine qH ?hg (N:=2) ?hd (cs:=#[.int .i64 zD,.int .i64 ze,.int .i64 za,.int .i64 yN,.string yS,.string uS,.slice xk yL.length xw]) (t:=53) ?hr ?_;(case hd=>rfl);(case hg=>rfl);(case hr=>first | (go_simp;done) | (go_simp;rfl));intro qW hg w4 qd hb;have zW:=zx.mk (zC (zG HB.out) hb);have zh:=zx.mk (qd);have zo:=zx.mk ((by rw [hg];exact (zf (zG HB.out)):w.heap.size ≤ qW));have zM:=zx.mk ((by rw [hg];exact (zf (zG HB.out)):w.heap.size ≤ qW));clear HB;have HB:=zW;have yw:=zh;have zfl:=zo;have zvO:=zM;clear zW zh zo zM;clear hb qd hg) | ((with_reducible refine qA (N:=3) rfl ?_);(try (refine uO (by rfl) ?_;dsimp only));refine qH ?hg (N:=3) ?hd (cs:=#[.int .i64 zS,.int .i64 zP,.int .i64 yC,.int .i64 yh,.string kQ,.string kX,.slice Vs jX.length Vt]) (t:=53) ?hr ?_;(case hd=>rfl);(case hg=>rfl);(case hr=>first | (go_simp;done) | (go_simp;rfl));intro qM hg w5 qd hb;have zW:=zx.mk (yj (g:=qW) (o:=.cells #[.int .i64 zD,.int .i64 ze,.int .i64 za,.int .i64 yN,.string yS,.string uS,.slice xk yL.length xw] 53 (0,0)) (qV yw.out) hb);have zh:=zx.mk (zC (zG HB.out) hb);have zo:=zx.mk (qd);have zM:=zx.mk ((by rw [hg];exact (zf (zG HB.out)):w.heap.size ≤ qM));have qw:=zx.mk ((by rw [hg];exact (zf (zG HB.out)):w.heap.size ≤ qM));have xE:=zx.mk ((by rw [hg];exact Nat.ne_of_lt (Zx (g:=qW) (o:=.cells #[.int .i64 zD,.int .i64 ze,.int .i64 za,.int .i64 yN,.string yS,.string uS,.slice xk yL.length xw] 53 (0,0)) (qV yw.out)):qW ≠ qM));have jU:=zx.mk ((by rw [hg];exact Nat.ne_of_gt (Zx (g:=qW) (o:=.cells #[.int .i64 zD,.int .i64 ze,.int .i64 za,.int .i64 yN,.string yS,.string uS,.slice xk yL.length xw] 53 (0,0)) (qV yw.out)):qM ≠ qW));clear yw;clear HB;have yw:=zW;have HB:=zh;have yH:=zo;have zfm:=zM;have zvP:=qw;have ZW:=xE;have Za:=jU;clear zW zh zo zM qw xE jU;clear hb qd hg))
 repeat (go_quiet (first | ((with_reducible refine qA (N:=2) rfl ?_);(try (refine uO (by rfl) ?_;dsimp only));refine qH ?hg (N:=2) ?hd (cs:=#[.int .i64 zD,.int .i64 ze,.int .i64 za,.int .i64 yN,.string yS,.string uS,.slice xk yL.length xw]) (t:=53) ?hr ?_;(case hd=>rfl);(case hg=>rfl);(case hr=>first | (go_simp;done) | (go_simp;rfl));intro qW hg w4 qd hb;have zW:=zx.mk (zC (zG HB.out) hb);have zh:=zx.mk (qd);have zo:=zx.mk ((by rw [hg];exact (zf (zG HB.out)):w.heap.size ≤ qW));have zM:=zx.mk ((by rw [hg];exact (zf (zG HB.out)):w.heap.size ≤ qW));clear HB;have HB:=zW;have yw:=zh;have zfl:=zo;have zvO:=zM;clear zW zh zo zM;clear hb qd hg) | ((with_reducible refine qA (N:=3) rfl ?_);(try (refine uO (by rfl) ?_;dsimp only));refine qH ?hg (N:=3) ?hd (cs:=#[.int .i64 zS,.int .i64 zP,.int .i64 yC,.int .i64 yh,.string kQ,.string kX,.slice Vs jX.length Vt]) (t:=53) ?hr ?_;(case hd=>rfl);(case hg=>rfl);(case hr=>first | (go_simp;done) | (go_simp;rfl));intro qM hg w5 qd hb;have zW:=zx.mk (yj (g:=qW) (o:=.cells #[.int .i64 zD,.int .i64 ze,.int .i64 za,.int .i64 yN,.string yS,.string uS,.slice xk yL.length xw] 53 (0,0)) (qV yw.out) hb);have zh:=zx.mk (zC (zG HB.out) hb);have zo:=zx.mk (qd);have zM:=zx.mk ((by rw [hg];exact (zf (zG HB.out)):w.heap.size ≤ qM));have qw:=zx.mk ((by rw [hg];exact (zf (zG HB.out)):w.heap.size ≤ qM));have xE:=zx.mk ((by rw [hg];exact Nat.ne_of_lt (Zx (g:=qW) (o:=.cells #[.int .i64 zD,.int .i64 ze,.int .i64 za,.int .i64 yN,.string yS,.string uS,.slice xk yL.length xw] 53 (0,0)) (qV yw.out)):qW ≠ qM));have jU:=zx.mk ((by rw [hg];exact Nat.ne_of_gt (Zx (g:=qW) (o:=.cells #[.int .i64 zD,.int .i64 ze,.int .i64 za,.int .i64 yN,.string yS,.string uS,.slice xk yL.length xw] 53 (0,0)) (qV yw.out)):qM ≠ qW));clear yw;clear HB;have yw:=zW;have HB:=zh;have yH:=zo;have zfm:=zM;have zvP:=qw;have ZW:=xE;have Za:=jU;clear zW zh zo zM qw xE jU;clear hb qd hg));go_upto_region 1 with (first | ((with_reducible refine qA (N:=2) rfl ?_);(try (refine uO (by rfl) ?_;dsimp only));refine qH ?hg (N:=2) ?hd (cs:=#[.int .i64 zD,.int .i64 ze,.int .i64 za,.int .i64 yN,.string yS,.string uS,.slice xk yL.length xw]) (t:=53) ?hr ?_;(case hd=>rfl);(case hg=>rfl);(case hr=>first | (go_simp;done) | (go_simp;rfl));intro qW hg w4 qd hb;have zW:=zx.mk (zC (zG HB.out) hb);have zh:=zx.mk (qd);have zo:=zx.mk ((by rw [hg];exact (zf (zG HB.out)):w.heap.size ≤ qW));have zM:=zx.mk ((by rw [hg];exact (zf (zG HB.out)):w.heap.size ≤ qW));clear HB;have HB:=zW;have yw:=zh;have zfl:=zo;have zvO:=zM;clear zW zh zo zM;clear hb qd hg) | ((with_reducible refine qA (N:=3) rfl ?_);(try (refine uO (by rfl) ?_;dsimp only));refine qH ?hg (N:=3) ?hd (cs:=#[.int .i64 zS,.int .i64 zP,.int .i64 yC,.int .i64 yh,.string kQ,.string kX,.slice Vs jX.length Vt]) (t:=53) ?hr ?_;(case hd=>rfl);(case hg=>rfl);(case hr=>first | (go_simp;done) | (go_simp;rfl));intro qM hg w5 qd hb;have zW:=zx.mk (yj (g:=qW) (o:=.cells #[.int .i64 zD,.int .i64 ze,.int .i64 za,.int .i64 yN,.string yS,.string uS,.slice xk yL.length xw] 53 (0,0)) (qV yw.out) hb);have zh:=zx.mk (zC (zG HB.out) hb);have zo:=zx.mk (qd);have zM:=zx.mk ((by rw [hg];exact (zf (zG HB.out)):w.heap.size ≤ qM));have qw:=zx.mk ((by rw [hg];exact (zf (zG HB.out)):w.heap.size ≤ qM));have xE:=zx.mk ((by rw [hg];exact Nat.ne_of_lt (Zx (g:=qW) (o:=.cells #[.int .i64 zD,.int .i64 ze,.int .i64 za,.int .i64 yN,.string yS,.string uS,.slice xk yL.length xw] 53 (0,0)) (qV yw.out)):qW ≠ qM));have jU:=zx.mk ((by rw [hg];exact Nat.ne_of_gt (Zx (g:=qW) (o:=.cells #[.int .i64 zD,.int .i64 ze,.int .i64 za,.int .i64 yN,.string yS,.string uS,.slice xk yL.length xw] 53 (0,0)) (qV yw.out)):qM ≠ qW));clear yw;clear HB;have yw:=zW;have HB:=zh;have yH:=zo;have zfm:=zM;have zvP:=qw;have ZW:=xE;have Za:=jU;clear zW zh zo zM qw xE jU;clear hb qd hg)))
 (try simp only [Act.put,List.setIfInBounds_toArray,List.set_cons_zero,List.set_cons_succ])
 go_cut [54] (fun v54 wc=>∃ (kq:Nat) (zwh:Bool),v54 = .bool zwh ∧ zx (yK.j0 kq zwh zD ze za yN yS uS yL zS zP yC yh kQ kX jX = some r) ∧ zx (kq ≤ k) ∧ zx (wc.heap[qW]? = some (.cells #[.int .i64 zD,.int .i64 ze,.int .i64 za,.int .i64 yN,.string yS,.string uS,(.slice xk yL.length xw)] 53 (0,0))) ∧ zx (wc.heap[qM]? = some (.cells #[.int .i64 zS,.int .i64 zP,.int .i64 yC,.int .i64 yh,.string kQ,.string kX,(.slice Vs jX.length Vt)] 53 (0,0))) ∧ zx (Below w.heap.size w wc))
 case first =>
  have H:=sK.out
  clear sK
  by_cases c6:zD = zS
  ·rw [if_pos c6] at H
   have wP:(zD == zS) = true:=beq_iff_eq.mpr c6
   have zqe:(zD != zS) = false:=bne_eq_false_iff_eq.mpr c6
   clear c6
   (first | rw [wP] | (simp only [vU,uW];rw [wP]) | skip)
   by_cases c7:ze = zP
   ·rw [if_pos c7] at H
    have Xn:(ze == zP) = true:=beq_iff_eq.mpr c7
    have zz1:(ze != zP) = false:=bne_eq_false_iff_eq.mpr c7
    clear c7
    by_cases c8:za = yC
    ·rw [if_pos c8] at H
     have Zt:(za == yC) = true:=beq_iff_eq.mpr c8
     have V6:(za != yC) = false:=bne_eq_false_iff_eq.mpr c8
     clear c8
     by_cases c9:yN = yh
     ·rw [if_pos c9] at H
      have zqf:(yN == yh) = true:=beq_iff_eq.mpr c9
      have zwU:(yN != yh) = false:=bne_eq_false_iff_eq.mpr c9
      clear c9
      by_cases c10:yS.toList = kQ.toList
      ·rw [if_pos c10] at H
       have zvl:(yS.toList == kQ.toList) = true:=beq_iff_eq.mpr c10
       have zaj:(yS.toList != kQ.toList) = false:=bne_eq_false_iff_eq.mpr c10
       clear c10
       by_cases c11:uS.toList = kX.toList
       ·rw [if_pos c11] at H
        have QS:(uS.toList == kX.toList) = true:=beq_iff_eq.mpr c11
        have tN:(uS.toList != kX.toList) = false:=bne_eq_false_iff_eq.mpr c11
        clear c11
        have H':=zx.mk H
        clear H
        have zDU:=ZW.out
        have zD0:=Za.out
        have XP:w5.cell? ⟨qW,0,none⟩ = some (.int .i64 zD):=zw yw 0
        have XR:w5.cell? ⟨qW,1,none⟩ = some (.int .i64 ze):=zw yw 1
        have XT:w5.cell? ⟨qW,2,none⟩ = some (.int .i64 za):=zw yw 2
        have XU:w5.cell? ⟨qW,3,none⟩ = some (.int .i64 yN):=zw yw 3
        have eH:w5.cell? ⟨qW,4,none⟩ = some (.string yS):=zw yw 4
        have eO:w5.cell? ⟨qW,5,none⟩ = some (.string uS):=zw yw 5
        have zVV:w5.cell? ⟨qW,6,none⟩ = some (.slice xk yL.length xw):=zw yw 6
        have X0:=zy yw.out 0
        have X3:=zy yw.out 1
        have X4:=zy yw.out 2
        have X5:=zy yw.out 3
        have eP:=zy yw.out 4
        have eT:=zy yw.out 5
        have zVK:=zy yw.out 6
        have UY:w5.cell? ⟨qM,0,none⟩ = some (.int .i64 zS):=zw yH 0
        have UW:w5.cell? ⟨qM,1,none⟩ = some (.int .i64 zP):=zw yH 1
        have Ua:w5.cell? ⟨qM,2,none⟩ = some (.int .i64 yC):=zw yH 2
        have Ub:w5.cell? ⟨qM,3,none⟩ = some (.int .i64 yh):=zw yH 3
        have Uc:w5.cell? ⟨qM,4,none⟩ = some (.string kQ):=zw yH 4
        have Ud:w5.cell? ⟨qM,5,none⟩ = some (.string kX):=zw yH 5
        have zzi:w5.cell? ⟨qM,6,none⟩ = some (.slice Vs jX.length Vt):=zw yH 6
        have Ue:=zy yH.out 0
        have Uf:=zy yH.out 1
        have Ug:=zy yH.out 2
        have Uh:=zy yH.out 3
        have Ui:=zy yH.out 4
        have Ul:=zy yH.out 5
        have zzl:=zy yH.out 6
        go_wp2
        repeat (go_quiet (fail);try go_wp2)
        go_meet
        case rel=>exact ⟨_,(((yL.length:Int) != (jX.length:Int))),(by first | rfl | (simp;done) | (simp [*];done)),H',⟨by first | omega | exact Nat.le_refl _⟩,⟨qV yw.out⟩,⟨qV yH.out⟩,⟨zG HB.out⟩⟩
       ·rw [if_neg c11] at H
        have QS:(uS.toList == kX.toList) = false:=beq_eq_false_iff_ne.mpr c11
        have tN:(uS.toList != kX.toList) = true:=bne_iff_ne.mpr c11
        have H':=zx.mk H
        clear H
        have zD1:=ZW.out
        have zD2:=Za.out
        have Um:w5.cell? ⟨qW,0,none⟩ = some (.int .i64 zD):=zw yw 0
        have Un:w5.cell? ⟨qW,1,none⟩ = some (.int .i64 ze):=zw yw 1
        have Uo:w5.cell? ⟨qW,2,none⟩ = some (.int .i64 za):=zw yw 2
        have Ur:w5.cell? ⟨qW,3,none⟩ = some (.int .i64 yN):=zw yw 3
        have zxj:w5.cell? ⟨qW,4,none⟩ = some (.string yS):=zw yw 4
        have zxv:w5.cell? ⟨qW,5,none⟩ = some (.string uS):=zw yw 5
        have zVY:w5.cell? ⟨qW,6,none⟩ = some (.slice xk yL.length xw):=zw yw 6
        have Us:=zy yw.out 0
        have Ut:=zy yw.out 1
        have Uu:=zy yw.out 2
        have UA:=zy yw.out 3
        have zxk:=zy yw.out 4
        have zxy:=zy yw.out 5
        have zVW:=zy yw.out 6
        have zVa:w5.cell? ⟨qM,0,none⟩ = some (.int .i64 zS):=zw yH 0
        have zVb:w5.cell? ⟨qM,1,none⟩ = some (.int .i64 zP):=zw yH 1
        have zVc:w5.cell? ⟨qM,2,none⟩ = some (.int .i64 yC):=zw yH 2
        have zVd:w5.cell? ⟨qM,3,none⟩ = some (.int .i64 yh):=zw yH 3
        have zVe:w5.cell? ⟨qM,4,none⟩ = some (.string kQ):=zw yH 4
        have zVf:w5.cell? ⟨qM,5,none⟩ = some (.string kX):=zw yH 5
        have zVg:w5.cell? ⟨qM,6,none⟩ = some (.slice Vs jX.length Vt):=zw yH 6
        have zVh:=zy yH.out 0
        have zVi:=zy yH.out 1
        have zVl:=zy yH.out 2
        have zVm:=zy yH.out 3
        have zVn:=zy yH.out 4
        have zVo:=zy yH.out 5
        have zVp:=zy yH.out 6
        go_wp2
        repeat (go_quiet (fail);try go_wp2)
        go_meet
        case rel=>exact ⟨_,(true),(by first | rfl | (simp;done) | (simp [*];done)),H',⟨by first | omega | exact Nat.le_refl _⟩,⟨qV yw.out⟩,⟨qV yH.out⟩,⟨zG HB.out⟩⟩
      ·rw [if_neg c10] at H
       have zvl:(yS.toList == kQ.toList) = false:=beq_eq_false_iff_ne.mpr c10
       have zaj:(yS.toList != kQ.toList) = true:=bne_iff_ne.mpr c10
       have H':=zx.mk H
       clear H
       have zD3:=ZW.out
       have zD4:=Za.out
       have nU:w5.cell? ⟨qW,0,none⟩ = some (.int .i64 zD):=zw yw 0
       have rz:w5.cell? ⟨qW,1,none⟩ = some (.int .i64 ze):=zw yw 1
       have rZ:w5.cell? ⟨qW,2,none⟩ = some (.int .i64 za):=zw yw 2
       have rQ:w5.cell? ⟨qW,3,none⟩ = some (.int .i64 yN):=zw yw 3
       have zVr:w5.cell? ⟨qW,4,none⟩ = some (.string yS):=zw yw 4
       have zVs:w5.cell? ⟨qW,5,none⟩ = some (.string uS):=zw yw 5
       have zVt:w5.cell? ⟨qW,6,none⟩ = some (.slice xk yL.length xw):=zw yw 6
       have rX:=zy yw.out 0
       have rJ:=zy yw.out 1
       have rV:=zy yw.out 2
       have rY:=zy yw.out 3
       have zVu:=zy yw.out 4
       have zVA:=zy yw.out 5
       have zVB:=zy yw.out 6
       have fA:w5.cell? ⟨qM,0,none⟩ = some (.int .i64 zS):=zw yH 0
       have fB:w5.cell? ⟨qM,1,none⟩ = some (.int .i64 zP):=zw yH 1
       have fC:w5.cell? ⟨qM,2,none⟩ = some (.int .i64 yC):=zw yH 2
       have fD:w5.cell? ⟨qM,3,none⟩ = some (.int .i64 yh):=zw yH 3
       have fE:w5.cell? ⟨qM,4,none⟩ = some (.string kQ):=zw yH 4
       have fF:w5.cell? ⟨qM,5,none⟩ = some (.string kX):=zw yH 5
       have zxF:w5.cell? ⟨qM,6,none⟩ = some (.slice Vs jX.length Vt):=zw yH 6
       have fG:=zy yH.out 0
       have fH:=zy yH.out 1
       have fI:=zy yH.out 2
       have fM:=zy yH.out 3
       have fO:=zy yH.out 4
       have fP:=zy yH.out 5
       have zxG:=zy yH.out 6
       go_wp2
       repeat (go_quiet (fail);try go_wp2)
       go_meet
       case rel=>exact ⟨_,(true),(by first | rfl | (simp;done) | (simp [*];done)),H',⟨by first | omega | exact Nat.le_refl _⟩,⟨qV yw.out⟩,⟨qV yH.out⟩,⟨zG HB.out⟩⟩
     ·rw [if_neg c9] at H
      have zqf:(yN == yh) = false:=beq_eq_false_iff_ne.mpr c9
      have zwU:(yN != yh) = true:=bne_iff_ne.mpr c9
      have H':=zx.mk H
      clear H
      have zD5:=ZW.out
      have zD6:=Za.out
      have nL:w5.cell? ⟨qW,0,none⟩ = some (.int .i64 zD):=zw yw 0
      have nM:w5.cell? ⟨qW,1,none⟩ = some (.int .i64 ze):=zw yw 1
      have nN:w5.cell? ⟨qW,2,none⟩ = some (.int .i64 za):=zw yw 2
      have nO:w5.cell? ⟨qW,3,none⟩ = some (.int .i64 yN):=zw yw 3
      have zxH:w5.cell? ⟨qW,4,none⟩ = some (.string yS):=zw yw 4
      have zxI:w5.cell? ⟨qW,5,none⟩ = some (.string uS):=zw yw 5
      have zxL:w5.cell? ⟨qW,6,none⟩ = some (.slice xk yL.length xw):=zw yw 6
      have nP:=zy yw.out 0
      have nR:=zy yw.out 1
      have nS:=zy yw.out 2
      have nT:=zy yw.out 3
      have zxM:=zy yw.out 4
      have zxN:=zy yw.out 5
      have zxO:=zy yw.out 6
      have fT:w5.cell? ⟨qM,0,none⟩ = some (.int .i64 zS):=zw yH 0
      have fU:w5.cell? ⟨qM,1,none⟩ = some (.int .i64 zP):=zw yH 1
      have eZ:w5.cell? ⟨qM,2,none⟩ = some (.int .i64 yC):=zw yH 2
      have eX:w5.cell? ⟨qM,3,none⟩ = some (.int .i64 yh):=zw yH 3
      have zkX:w5.cell? ⟨qM,4,none⟩ = some (.string kQ):=zw yH 4
      have zkJ:w5.cell? ⟨qM,5,none⟩ = some (.string kX):=zw yH 5
      have zVC:w5.cell? ⟨qM,6,none⟩ = some (.slice Vs jX.length Vt):=zw yH 6
      have eY:=zy yH.out 0
      have eB:=zy yH.out 1
      have eD:=zy yH.out 2
      have eG:=zy yH.out 3
      have zkV:=zy yH.out 4
      have zkK:=zy yH.out 5
      have zVD:=zy yH.out 6
      go_wp2
      repeat (go_quiet (fail);try go_wp2)
      go_meet
      case rel=>exact ⟨_,(true),(by first | rfl | (simp;done) | (simp [*];done)),H',⟨by first | omega | exact Nat.le_refl _⟩,⟨qV yw.out⟩,⟨qV yH.out⟩,⟨zG HB.out⟩⟩
    ·rw [if_neg c8] at H
     have Zt:(za == yC) = false:=beq_eq_false_iff_ne.mpr c8
     have V6:(za != yC) = true:=bne_iff_ne.mpr c8
     have H':=zx.mk H
     clear H
     have zD7:=ZW.out
     have zD8:=Za.out
     have zVE:w5.cell? ⟨qW,0,none⟩ = some (.int .i64 zD):=zw yw 0
     have zVF:w5.cell? ⟨qW,1,none⟩ = some (.int .i64 ze):=zw yw 1
     have zVG:w5.cell? ⟨qW,2,none⟩ = some (.int .i64 za):=zw yw 2
     have zVH:w5.cell? ⟨qW,3,none⟩ = some (.int .i64 yN):=zw yw 3
     have zVI:w5.cell? ⟨qW,4,none⟩ = some (.string yS):=zw yw 4
     have zVL:w5.cell? ⟨qW,5,none⟩ = some (.string uS):=zw yw 5
     have zVM:w5.cell? ⟨qW,6,none⟩ = some (.slice xk yL.length xw):=zw yw 6
     have zVN:=zy yw.out 0
     have zVO:=zy yw.out 1
     have zVP:=zy yw.out 2
     have zVR:=zy yw.out 3
     have zVS:=zy yw.out 4
     have zVT:=zy yw.out 5
     have zVU:=zy yw.out 6
     have zV0:w5.cell? ⟨qM,0,none⟩ = some (.int .i64 zS):=zw yH 0
     have zV1:w5.cell? ⟨qM,1,none⟩ = some (.int .i64 zP):=zw yH 1
     have zV2:w5.cell? ⟨qM,2,none⟩ = some (.int .i64 yC):=zw yH 2
     have zV3:w5.cell? ⟨qM,3,none⟩ = some (.int .i64 yh):=zw yH 3
     have zV4:w5.cell? ⟨qM,4,none⟩ = some (.string kQ):=zw yH 4
     have zV5:w5.cell? ⟨qM,5,none⟩ = some (.string kX):=zw yH 5
     have zV6:w5.cell? ⟨qM,6,none⟩ = some (.slice Vs jX.length Vt):=zw yH 6
     have zV7:=zy yH.out 0
     have zV8:=zy yH.out 1
     have zV9:=zy yH.out 2
     have zKz:=zy yH.out 3
     have zKq:=zy yH.out 4
     have zKx:=zy yH.out 5
     have zKj:=zy yH.out 6
     go_wp2
     repeat (go_quiet (fail);try go_wp2)
     go_meet
     case rel=>exact ⟨_,(true),(by first | rfl | (simp;done) | (simp [*];done)),H',⟨by first | omega | exact Nat.le_refl _⟩,⟨qV yw.out⟩,⟨qV yH.out⟩,⟨zG HB.out⟩⟩
   ·rw [if_neg c7] at H
    have Xn:(ze == zP) = false:=beq_eq_false_iff_ne.mpr c7
    have zz1:(ze != zP) = true:=bne_iff_ne.mpr c7
    have H':=zx.mk H
    clear H
    have zD9:=ZW.out
    have zEz:=Za.out
    have zKv:w5.cell? ⟨qW,0,none⟩ = some (.int .i64 zD):=zw yw 0
    have zKk:w5.cell? ⟨qW,1,none⟩ = some (.int .i64 ze):=zw yw 1
    have zKy:w5.cell? ⟨qW,2,none⟩ = some (.int .i64 za):=zw yw 2
    have zKw:w5.cell? ⟨qW,3,none⟩ = some (.int .i64 yN):=zw yw 3
    have zKZ:w5.cell? ⟨qW,4,none⟩ = some (.string yS):=zw yw 4
    have zKQ:w5.cell? ⟨qW,5,none⟩ = some (.string uS):=zw yw 5
    have zKX:w5.cell? ⟨qW,6,none⟩ = some (.slice xk yL.length xw):=zw yw 6
    have zKJ:=zy yw.out 0
    have zKV:=zy yw.out 1
    have zKK:=zy yw.out 2
    have zKY:=zy yw.out 3
    have zKW:=zy yw.out 4
    have zKa:=zy yw.out 5
    have zKb:=zy yw.out 6
    have zKc:w5.cell? ⟨qM,0,none⟩ = some (.int .i64 zS):=zw yH 0
    have zKd:w5.cell? ⟨qM,1,none⟩ = some (.int .i64 zP):=zw yH 1
    have zKe:w5.cell? ⟨qM,2,none⟩ = some (.int .i64 yC):=zw yH 2
    have zKf:w5.cell? ⟨qM,3,none⟩ = some (.int .i64 yh):=zw yH 3
    have zKg:w5.cell? ⟨qM,4,none⟩ = some (.string kQ):=zw yH 4
    have zKh:w5.cell? ⟨qM,5,none⟩ = some (.string kX):=zw yH 5
    have zKi:w5.cell? ⟨qM,6,none⟩ = some (.slice Vs jX.length Vt):=zw yH 6
    have zKl:=zy yH.out 0
    have zKm:=zy yH.out 1
    have zKn:=zy yH.out 2
    have zKo:=zy yH.out 3
    have zKp:=zy yH.out 4
    have zKr:=zy yH.out 5
    have zKs:=zy yH.out 6
    go_wp2
    repeat (go_quiet (fail);try go_wp2)
    go_meet
    case rel=>exact ⟨_,(true),(by first | rfl | (simp;done) | (simp [*];done)),H',⟨by first | omega | exact Nat.le_refl _⟩,⟨qV yw.out⟩,⟨qV yH.out⟩,⟨zG HB.out⟩⟩
  ·rw [if_neg c6] at H
   have wP:(zD == zS) = false:=beq_eq_false_iff_ne.mpr c6
   have zqe:(zD != zS) = true:=bne_iff_ne.mpr c6
   (first | rw [wP] | (simp only [vU,uW];rw [wP]) | skip)
   have H':=zx.mk H
   clear H
   have zEq:=ZW.out
   have zEx:=Za.out
   have zKt:w5.cell? ⟨qW,0,none⟩ = some (.int .i64 zD):=zw yw 0
   have zKu:w5.cell? ⟨qW,1,none⟩ = some (.int .i64 ze):=zw yw 1
   have zKA:w5.cell? ⟨qW,2,none⟩ = some (.int .i64 za):=zw yw 2
   have zKB:w5.cell? ⟨qW,3,none⟩ = some (.int .i64 yN):=zw yw 3
   have zKC:w5.cell? ⟨qW,4,none⟩ = some (.string yS):=zw yw 4
   have zKD:w5.cell? ⟨qW,5,none⟩ = some (.string uS):=zw yw 5
   have zKE:w5.cell? ⟨qW,6,none⟩ = some (.slice xk yL.length xw):=zw yw 6
   have zKF:=zy yw.out 0
   have zKG:=zy yw.out 1
   have zKH:=zy yw.out 2
   have zKI:=zy yw.out 3
   have zKL:=zy yw.out 4
   have zKM:=zy yw.out 5
   have zKN:=zy yw.out 6
   have zKO:w5.cell? ⟨qM,0,none⟩ = some (.int .i64 zS):=zw yH 0
   have zKP:w5.cell? ⟨qM,1,none⟩ = some (.int .i64 zP):=zw yH 1
   have zKR:w5.cell? ⟨qM,2,none⟩ = some (.int .i64 yC):=zw yH 2
   have zKS:w5.cell? ⟨qM,3,none⟩ = some (.int .i64 yh):=zw yH 3
   have zKT:w5.cell? ⟨qM,4,none⟩ = some (.string kQ):=zw yH 4
   have zKU:w5.cell? ⟨qM,5,none⟩ = some (.string kX):=zw yH 5
   have zK0:w5.cell? ⟨qM,6,none⟩ = some (.slice Vs jX.length Vt):=zw yH 6
   have zK1:=zy yH.out 0
   have zK2:=zy yH.out 1
   have zK3:=zy yH.out 2
   have zK4:=zy yH.out 3
   have zK5:=zy yH.out 4
   have zK6:=zy yH.out 5
   have zK7:=zy yH.out 6
   go_wp2
   repeat (go_quiet (fail);try go_wp2)
   go_meet
   case rel=>exact ⟨_,(true),(by first | rfl | (simp;done) | (simp [*];done)),H',⟨by first | omega | exact Nat.le_refl _⟩,⟨qV yw.out⟩,⟨qV yH.out⟩,⟨zG HB.out⟩⟩
 case rest =>
  clear sK
  try clear c6
  try clear wP
  try clear zqe
  try clear c7
  try clear Xn
  try clear zz1
  try clear c8
  try clear Zt
  try clear V6
  try clear c9
  try clear zqf
  try clear zwU
  try clear c10
  try clear zvl
  try clear zaj
  try clear c11
  try clear QS
  try clear tN
  try clear XP
  try clear XR
  try clear XT
  try clear XU
  try clear eH
  try clear eO
  try clear zVV
  try clear UY
  try clear UW
  try clear Ua
  try clear Ub
  try clear Uc
  try clear Ud
  try clear zzi
  try clear Um
  try clear Un
  try clear Uo
  try clear Ur
  try clear zxj
  try clear zxv
  try clear zVY
  try clear zVa
  try clear zVb
  try clear zVc
  try clear zVd
  try clear zVe
  try clear zVf
  try clear zVg
  try clear nU
  try clear rz
  try clear rZ
  try clear rQ
  try clear zVr
  try clear zVs
  try clear zVt
  try clear fA
  try clear fB
  try clear fC
  try clear fD
  try clear fE
  try clear fF
  try clear zxF
  try clear nL
  try clear nM
  try clear nN
  try clear nO
  try clear zxH
  try clear zxI
  try clear zxL
  try clear fT
  try clear fU
  try clear eZ
  try clear eX
  try clear zkX
  try clear zkJ
  try clear zVC
  try clear zVE
  try clear zVF
  try clear zVG
  try clear zVH
  try clear zVI
  try clear zVL
  try clear zVM
  try clear zV0
  try clear zV1
  try clear zV2
  try clear zV3
  try clear zV4
  try clear zV5
  try clear zV6
  try clear zKv
  try clear zKk
  try clear zKy
  try clear zKw
  try clear zKZ
  try clear zKQ
  try clear zKX
  try clear zKc
  try clear zKd
  try clear zKe
  try clear zKf
  try clear zKg
  try clear zKh
  try clear zKi
  try clear zKt
  try clear zKu
  try clear zKA
  try clear zKB
  try clear zKC
  try clear zKD
  try clear zKE
  try clear zKO
  try clear zKP
  try clear zKR
  try clear zKS
  try clear zKT
  try clear zKU
  try clear zK0
  try clear X0
  try clear X3
  try clear X4
  try clear X5
  try clear eP
  try clear eT
  try clear zVK
  try clear Ue
  try clear Uf
  try clear Ug
  try clear Uh
  try clear Ui
  try clear Ul
  try clear zzl
  try clear Us
  try clear Ut
  try clear Uu
  try clear UA
  try clear zxk
  try clear zxy
  try clear zVW
  try clear zVh
  try clear zVi
  try clear zVl
  try clear zVm
  try clear zVn
  try clear zVo
  try clear zVp
  try clear rX
  try clear rJ
  try clear rV
  try clear rY
  try clear zVu
  try clear zVA
  try clear zVB
  try clear fG
  try clear fH
  try clear fI
  try clear fM
  try clear fO
  try clear fP
  try clear zxG
  try clear nP
  try clear nR
  try clear nS
  try clear nT
  try clear zxM
  try clear zxN
  try clear zxO
  try clear eY
  try clear eB
  try clear eD
  try clear eG
  try clear zkV
  try clear zkK
  try clear zVD
  try clear zVN
  try clear zVO
  try clear zVP
  try clear zVR
  try clear zVS
  try clear zVT
  try clear zVU
  try clear zV7
  try clear zV8
  try clear zV9
  try clear zKz
  try clear zKq
  try clear zKx
  try clear zKj
  try clear zKJ
  try clear zKV
  try clear zKK
  try clear zKY
  try clear zKW
  try clear zKa
  try clear zKb
  try clear zKl
  try clear zKm
  try clear zKn
  try clear zKo
  try clear zKp
  try clear zKr
  try clear zKs
  try clear zKF
  try clear zKG
  try clear zKH
  try clear zKI
  try clear zKL
  try clear zKM
  try clear zKN
  try clear zK1
  try clear zK2
  try clear zK3
  try clear zK4
  try clear zK5
  try clear zK6
  try clear zK7
  obtain ⟨kq,zwh,rfl,HA,HJ2,yw,yH,HB⟩:=hcut
  cases kq with
  | zero=>exact absurd HA.out (by simp [yK.j0])
  | succ kj2 =>
   have H:=HA.out
   clear HA
   simp only [yK.j0] at H
   by_cases J9:zwh = true
   ·subst J9
    have H1:(some false) = some r:=by rw [if_pos rfl] at H;exact H
    clear H
    have H:=H1
    clear H1
    obtain rfl:=Option.some.inj H
    go_wp2
    repeat (go_quiet (fail);try go_wp2)
    go_ret
    exact ⟨by first | rfl | (simp [zH,zI] <;> rfl) | (simp [*,zH,zI] <;> rfl),by repeat (first | (with_reducible first | exact HB.out | apply yX | apply zL | apply zR | refine qK ?_ zvO.out | refine qK ?_ zvP.out) | exact HB.out)⟩
   ·replace J9:=Bool.eq_false_iff.mpr J9
    subst J9
    have H1:(yK.l0 kj2 0 zD ze za yN yS uS yL zS zP yC yh kQ kX jX) = some r:=by rw [if_neg (show ¬ (false = true) by decide)] at H;exact H
    clear H
    have H:=H1
    clear H1
    have H':=zx.mk H
    clear H
    go_wp2
    repeat (go_quiet (fail);try go_wp2)
    go_loopg [5] kj2 (fun kq v5 w'=>∃ (wR:Int),v5 = .int .i64 wR ∧ zx (yK.l0 kq wR zD ze za yN yS uS yL zS zP yC yh kQ kX jX = some r) ∧ zx (kq ≤ kj2) ∧ zx (w'.heap[qW]? = some (.cells #[.int .i64 zD,.int .i64 ze,.int .i64 za,.int .i64 yN,.string yS,.string uS,(.slice xk yL.length xw)] 53 (0,0))) ∧ zx (w'.heap[qM]? = some (.cells #[.int .i64 zS,.int .i64 zP,.int .i64 yC,.int .i64 yh,.string kQ,.string kX,(.slice Vs jX.length Vt)] 53 (0,0))) ∧ zx (Below w.heap.size w w'))
    case atStart=>exact ⟨(0),(by first | rfl | (simp;done) | (simp [*];done)),H',⟨Nat.le_refl _⟩,⟨qV yw.out⟩,⟨qV yH.out⟩,⟨zG HB.out⟩⟩
    case round =>
     clear H'
     try clear c6
     try clear wP
     try clear zqe
     try clear c7
     try clear Xn
     try clear zz1
     try clear c8
     try clear Zt
     try clear V6
     try clear c9
     try clear zqf
     try clear zwU
     try clear c10
     try clear zvl
     try clear zaj
     try clear c11
     try clear QS
     try clear tN
     try clear J9
     try clear XP
     try clear XR
     try clear XT
     try clear XU
     try clear eH
     try clear eO
     try clear zVV
     try clear UY
     try clear UW
     try clear Ua
     try clear Ub
     try clear Uc
     try clear Ud
     try clear zzi
     try clear Um
     try clear Un
     try clear Uo
     try clear Ur
     try clear zxj
     try clear zxv
     try clear zVY
     try clear zVa
     try clear zVb
     try clear zVc
     try clear zVd
     try clear zVe
     try clear zVf
     try clear zVg
     try clear nU
     try clear rz
     try clear rZ
     try clear rQ
     try clear zVr
     try clear zVs
     try clear zVt
     try clear fA
     try clear fB
     try clear fC
     try clear fD
     try clear fE
     try clear fF
     try clear zxF
     try clear nL
     try clear nM
     try clear nN
     try clear nO
     try clear zxH
     try clear zxI
     try clear zxL
     try clear fT
     try clear fU
     try clear eZ
     try clear eX
     try clear zkX
     try clear zkJ
     try clear zVC
     try clear zVE
     try clear zVF
     try clear zVG
     try clear zVH
     try clear zVI
     try clear zVL
     try clear zVM
     try clear zV0
     try clear zV1
     try clear zV2
     try clear zV3
     try clear zV4
     try clear zV5
     try clear zV6
     try clear zKv
     try clear zKk
     try clear zKy
     try clear zKw
     try clear zKZ
     try clear zKQ
     try clear zKX
     try clear zKc
     try clear zKd
     try clear zKe
     try clear zKf
     try clear zKg
     try clear zKh
     try clear zKi
     try clear zKt
     try clear zKu
     try clear zKA
     try clear zKB
     try clear zKC
     try clear zKD
     try clear zKE
     try clear zKO
     try clear zKP
     try clear zKR
     try clear zKS
     try clear zKT
     try clear zKU
     try clear zK0
     try clear X0
     try clear X3
     try clear X4
     try clear X5
     try clear eP
     try clear eT
     try clear zVK
     try clear Ue
     try clear Uf
     try clear Ug
     try clear Uh
     try clear Ui
     try clear Ul
     try clear zzl
     try clear Us
     try clear Ut
     try clear Uu
     try clear UA
     try clear zxk
     try clear zxy
     try clear zVW
     try clear zVh
     try clear zVi
     try clear zVl
     try clear zVm
     try clear zVn
     try clear zVo
     try clear zVp
     try clear rX
     try clear rJ
     try clear rV
     try clear rY
     try clear zVu
     try clear zVA
     try clear zVB
     try clear fG
     try clear fH
     try clear fI
     try clear fM
     try clear fO
     try clear fP
     try clear zxG
     try clear nP
     try clear nR
     try clear nS
     try clear nT
     try clear zxM
     try clear zxN
     try clear zxO
     try clear eY
     try clear eB
     try clear eD
     try clear eG
     try clear zkV
     try clear zkK
     try clear zVD
     try clear zVN
     try clear zVO
     try clear zVP
     try clear zVR
     try clear zVS
     try clear zVT
     try clear zVU
     try clear zV7
     try clear zV8
     try clear zV9
     try clear zKz
     try clear zKq
     try clear zKx
     try clear zKj
     try clear zKJ
     try clear zKV
     try clear zKK
     try clear zKY
     try clear zKW
     try clear zKa
     try clear zKb
     try clear zKl
     try clear zKm
     try clear zKn
     try clear zKo
     try clear zKp
     try clear zKr
     try clear zKs
     try clear zKF
     try clear zKG
     try clear zKH
     try clear zKI
     try clear zKL
     try clear zKM
     try clear zKN
     try clear zK1
     try clear zK2
     try clear zK3
     try clear zK4
     try clear zK5
     try clear zK6
     try clear zK7
     obtain ⟨wR,rfl,HA,Qs,yw,yH,HB⟩:=hrel
     cases gk with
     | zero=>exact absurd HA.out (by simp [yK.l0])
     | succ k2 =>
      have H:=HA.out
      clear HA
      simp only [yK.l0] at H
      by_cases c34:wR < (yL.length:Int)
      ·rw [if_pos c34] at H
       have zWm:decide (wR < (yL.length:Int)) = true:=decide_eq_true c34
       clear c34
       by_cases c35:0 ≤ wR
       ·rw [if_pos c35] at H
        have zEj:decide (0 ≤ wR) = true:=decide_eq_true c35
        clear c35
        by_cases tH:wR < (jX.length:Int)
        ·rw [if_pos tH] at H
         have zEv:decide (wR < (jX.length:Int)) = true:=decide_eq_true tH
         clear tH
         by_cases c37:(rd yL wR) = (rd jX wR)
         ·rw [if_pos c37] at H
          have zfy:((rd yL wR) == (rd jX wR)) = true:=beq_iff_eq.mpr c37
          have zpP:((rd yL wR) != (rd jX wR)) = false:=bne_eq_false_iff_eq.mpr c37
          clear c37
          have H':=zx.mk H
          clear H
          have zEk:=ZW.out
          have zEy:=Za.out
          have zuL:wr.cell? ⟨qW,0,none⟩ = some (.int .i64 zD):=zw yw 0
          have zuM:wr.cell? ⟨qW,1,none⟩ = some (.int .i64 ze):=zw yw 1
          have zuN:wr.cell? ⟨qW,2,none⟩ = some (.int .i64 za):=zw yw 2
          have zuO:wr.cell? ⟨qW,3,none⟩ = some (.int .i64 yN):=zw yw 3
          have zuP:wr.cell? ⟨qW,4,none⟩ = some (.string yS):=zw yw 4
          have zuR:wr.cell? ⟨qW,5,none⟩ = some (.string uS):=zw yw 5
          have zuS:wr.cell? ⟨qW,6,none⟩ = some (.slice xk yL.length xw):=zw yw 6
          have zuT:=zy yw.out 0
          have zuU:=zy yw.out 1
          have zu0:=zy yw.out 2
          have zu1:=zy yw.out 3
          have zu3:=zy yw.out 4
          have zu4:=zy yw.out 5
          have zu5:=zy yw.out 6
          have zjM:0 ≤ (wR:Int):=of_decide_eq_true yF
          have zjN:wR < (yL.length:Int):=of_decide_eq_true yF
          obtain ⟨zpR,e291,cB⟩:=Kd.aW Ws.out wR zjM zjN
          cases e291
          replace cB:=(HB.out.cell (World.block_lt_of_cell? w _ cB)).trans cB
          replace zjM:=eq_true zjM
          replace zjN:=eq_true zjN
          have zhj:wr.cell? ⟨qM,0,none⟩ = some (.int .i64 zS):=zw yH 0
          have zhv:wr.cell? ⟨qM,1,none⟩ = some (.int .i64 zP):=zw yH 1
          have zhk:wr.cell? ⟨qM,2,none⟩ = some (.int .i64 yC):=zw yH 2
          have zhy:wr.cell? ⟨qM,3,none⟩ = some (.int .i64 yh):=zw yH 3
          have zhw:wr.cell? ⟨qM,4,none⟩ = some (.string kQ):=zw yH 4
          have zhZ:wr.cell? ⟨qM,5,none⟩ = some (.string kX):=zw yH 5
          have zu6:wr.cell? ⟨qM,6,none⟩ = some (.slice Vs jX.length Vt):=zw yH 6
          have zhQ:=zy yH.out 0
          have zhX:=zy yH.out 1
          have zhJ:=zy yH.out 2
          have zhV:=zy yH.out 3
          have zhK:=zy yH.out 4
          have zhY:=zy yH.out 5
          have zu7:=zy yH.out 6
          have zjO:0 ≤ (wR:Int):=of_decide_eq_true yF
          have zjP:wR < (jX.length:Int):=of_decide_eq_true yF
          obtain ⟨zpS,zet,cO⟩:=Kd.aW zfi.out wR zjO zjP
          cases zet
          replace cO:=(HB.out.cell (World.block_lt_of_cell? w _ cO)).trans cO
          replace zjO:=eq_true zjO
          replace zjP:=eq_true zjP
          go_wp2
          repeat (go_quiet (fail);try go_wp2)
          go_roundg k2
          case measure=>have:=HJ2.out;have:=Qs.out;omega
          case rel=>exact ⟨(wrap64 (wR + 1)),(by first | rfl | (simp;done) | (simp [*];done)),H',⟨by have:=HJ2.out;have:=Qs.out;omega⟩,⟨qV yw.out⟩,⟨qV yH.out⟩,⟨zG HB.out⟩⟩
         ·rw [if_neg c37] at H
          have zfy:((rd yL wR) == (rd jX wR)) = false:=beq_eq_false_iff_ne.mpr c37
          have zpP:((rd yL wR) != (rd jX wR)) = true:=bne_iff_ne.mpr c37
          obtain rfl:=Option.some.inj H
          have zEw:=ZW.out
          have zEZ:=Za.out
          have zu8:wr.cell? ⟨qW,0,none⟩ = some (.int .i64 zD):=zw yw 0
          have zu9:wr.cell? ⟨qW,1,none⟩ = some (.int .i64 ze):=zw yw 1
          have zAz:wr.cell? ⟨qW,2,none⟩ = some (.int .i64 za):=zw yw 2
          have zAq:wr.cell? ⟨qW,3,none⟩ = some (.int .i64 yN):=zw yw 3
          have zAx:wr.cell? ⟨qW,4,none⟩ = some (.string yS):=zw yw 4
          have zAj:wr.cell? ⟨qW,5,none⟩ = some (.string uS):=zw yw 5
          have zAv:wr.cell? ⟨qW,6,none⟩ = some (.slice xk yL.length xw):=zw yw 6
          have zAk:=zy yw.out 0
          have zAy:=zy yw.out 1
          have zAw:=zy yw.out 2
          have zAZ:=zy yw.out 3
          have zAQ:=zy yw.out 4
          have zAX:=zy yw.out 5
          have zAJ:=zy yw.out 6
          have zjM:0 ≤ (wR:Int):=of_decide_eq_true yF
          have zjN:wR < (yL.length:Int):=of_decide_eq_true yF
          obtain ⟨zpR,e291,cB⟩:=Kd.aW Ws.out wR zjM zjN
          cases e291
          replace cB:=(HB.out.cell (World.block_lt_of_cell? w _ cB)).trans cB
          replace zjM:=eq_true zjM
          replace zjN:=eq_true zjN
          have zAV:wr.cell? ⟨qM,0,none⟩ = some (.int .i64 zS):=zw yH 0
          have zAK:wr.cell? ⟨qM,1,none⟩ = some (.int .i64 zP):=zw yH 1
          have zAY:wr.cell? ⟨qM,2,none⟩ = some (.int .i64 yC):=zw yH 2
          have zAW:wr.cell? ⟨qM,3,none⟩ = some (.int .i64 yh):=zw yH 3
          have zAa:wr.cell? ⟨qM,4,none⟩ = some (.string kQ):=zw yH 4
          have zAb:wr.cell? ⟨qM,5,none⟩ = some (.string kX):=zw yH 5
          have zAc:wr.cell? ⟨qM,6,none⟩ = some (.slice Vs jX.length Vt):=zw yH 6
          have zAd:=zy yH.out 0
          have zAe:=zy yH.out 1
          have zAf:=zy yH.out 2
          have zAg:=zy yH.out 3
          have zAh:=zy yH.out 4
          have zAi:=zy yH.out 5
          have zAl:=zy yH.out 6
          have zjO:0 ≤ (wR:Int):=of_decide_eq_true yF
          have zjP:wR < (jX.length:Int):=of_decide_eq_true yF
          obtain ⟨zpS,zet,cO⟩:=Kd.aW zfi.out wR zjO zjP
          cases zet
          replace cO:=(HB.out.cell (World.block_lt_of_cell? w _ cO)).trans cO
          replace zjO:=eq_true zjO
          replace zjP:=eq_true zjP
          go_wp2
          repeat (go_quiet (fail);try go_wp2)
          go_ret
          exact ⟨by first | rfl | (simp [zH,zI] <;> rfl) | (simp [*,zH,zI] <;> rfl),by repeat (first | (with_reducible first | exact HB.out | apply yX | apply zL | apply zR | refine qK ?_ zvO.out | refine qK ?_ zvP.out) | exact HB.out)⟩
        ·rw [if_neg tH] at H
         exact absurd H (by simp)
       ·rw [if_neg c35] at H
        exact absurd H (by simp)
      ·rw [if_neg c34] at H
       have zWm:decide (wR < (yL.length:Int)) = false:=decide_eq_false c34
       clear c34
       obtain rfl:=Option.some.inj H
       have zEQ:=ZW.out
       have zEX:=Za.out
       have zAm:wr.cell? ⟨qW,0,none⟩ = some (.int .i64 zD):=zw yw 0
       have zAn:wr.cell? ⟨qW,1,none⟩ = some (.int .i64 ze):=zw yw 1
       have zAo:wr.cell? ⟨qW,2,none⟩ = some (.int .i64 za):=zw yw 2
       have zAp:wr.cell? ⟨qW,3,none⟩ = some (.int .i64 yN):=zw yw 3
       have zAr:wr.cell? ⟨qW,4,none⟩ = some (.string yS):=zw yw 4
       have zAs:wr.cell? ⟨qW,5,none⟩ = some (.string uS):=zw yw 5
       have zAt:wr.cell? ⟨qW,6,none⟩ = some (.slice xk yL.length xw):=zw yw 6
       have zAu:=zy yw.out 0
       have zAA:=zy yw.out 1
       have zAB:=zy yw.out 2
       have zAC:=zy yw.out 3
       have zAD:=zy yw.out 4
       have zAE:=zy yw.out 5
       have zAF:=zy yw.out 6
       go_wp2
       repeat (go_quiet (fail);try go_wp2)
       go_ret
       exact ⟨by first | rfl | (simp [zH,zI] <;> rfl) | (simp [*,zH,zI] <;> rfl),by repeat (first | (with_reducible first | exact HB.out | apply yX | apply zL | apply zR | refine qK ?_ zvO.out | refine qK ?_ zvP.out) | exact HB.out)⟩
end Go.Proofs.YtggifbbiiickmaaGreatDoor.PX
namespace Go.Proofs.YtggifbbiiickmaaGreatDoor.PX
open Go.RowKit Go.Proofs.zk.zu Go.Proofs.zk.yD Go.Proofs.zk.yA
attribute [local go_sem] xP xR vG vH xB xC xS xU   -- for this text's walks alone
set_option linter.unusedVariables false
set_option linter.unusedSimpArgs false
def yO.l0:Nat → List (vP) → List (vP) → Int → Option (Bool)
 | 0,_,_,_=>none
 | k + 1,x0,x1,x5=>if x5 < (x0.length:Int) then (if 0 ≤ x5 then (if x5 < (x1.length:Int) then ((yK.f k ((yx x0 x5).f0) ((yx x0 x5).f1) ((yx x0 x5).f2) ((yx x0 x5).f3) ((yx x0 x5).f4) ((yx x0 x5).f5) ((yx x0 x5).f6) ((yx x1 x5).f0) ((yx x1 x5).f1) ((yx x1 x5).f2) ((yx x1 x5).f3) ((yx x1 x5).f4) ((yx x1 x5).f5) ((yx x1 x5).f6)).bind fun zav=>(if zav = true then (yO.l0 k x0 x1 (wrap64 (x5 + 1))) else (some false))) else (none)) else (none)) else (some true)
def yO.f (k:Nat) (l0:List (vP)) (l1:List (vP)):Option (Bool):=if (l0.length:Int) = (l1.length:Int) then (yO.l0 k l0 l1 0) else (some false)
def yO.T6:Bool × List (List Nat × List Nat):=(true,[([],[]),([],[]),([0,1],[0,1]),([2],[2]),([],[]),([],[]),([4,5],[4,5]),([6],[6]),([3,7],[3,7]),([8],[8])])
def yO.B6:List Nat:=[0,0,3,7,0,0,48,112,255,511]
theorem yO.zZF:uj .any (opsOf Tryz.f18 6) = yO.T6:=by kernel_rfl
theorem yO.zvo:uh yO.T6.2 yO.B6 = true:=by kernel_rfl
set_option maxHeartbeats 8000000 in
set_option maxRecDepth 100000 in
theorem yO.calls (k:Nat) (A0:Option Addr) (c0:Nat) (l0:List (vP)) (A1:Option Addr) (c1:Nat) (l1:List (vP)) (r:Bool) (w:World) (hr0:Kd.C Qb w A0 l0.length l0) (hc0:l0.length ≤ c0) (hr1:Kd.C Qb w A1 l1.length l1) (hc1:l1.length ≤ c1) (h:yO.f k l0 l1 = some r) :
  Calls Tryz.prog 18 #[.slice A0 l0.length c0,.slice A1 l1.length c1] w fun e w'=>e = .returned (.bool r) ∧ Below w.heap.size w w':=by
 have zlO:=Tryz.underlying53
 have ji:=zx.mk hr0
 have Vm:=zx.mk hc0
 clear hr0 hc0
 have HR1:=zx.mk hr1
 have HC1:=zx.mk hc1
 clear hr1 hc1
 have HB:=zx.mk (Below.refl w.heap.size w)
 have H:(if (l0.length:Int) = (l1.length:Int) then (yO.l0 k l0 l1 0) else (some false)) = some r:=h
 clear h
 by_cases c3:(l0.length:Int) = (l1.length:Int)
 ·rw [if_pos c3] at H
  have ZR:((l0.length:Int) == (l1.length:Int)) = true:=beq_iff_eq.mpr c3
  have zqm:((l0.length:Int) != (l1.length:Int)) = false:=bne_eq_false_iff_eq.mpr c3
  have zQx:(l0.length == l1.length) = true:=by first | simpa using c3 | (simp at c3 ⊢;omega)
  clear c3
  have H':=zx.mk H
  clear H
  go_enter Tryz.func18,Tryz.ntmps18
  go_wp2
  go_loopg [5] k (fun kq v5 w'=>∃ (zN:Int),v5 = .int .i64 zN ∧ zx (yO.l0 kq l0 l1 zN = some r) ∧ zx (kq ≤ k) ∧ zx (Below w.heap.size w w'))
  case atStart=>exact ⟨(0),(by first | rfl | (simp;done) | (simp [*];done)),H',⟨Nat.le_refl _⟩,⟨zG HB.out⟩⟩
  case round =>
   clear H'
   try clear c1
   try clear c3
   try clear ZR
   try clear zqm
   try clear zQx
   obtain ⟨zN,rfl,HA,uK,HB⟩:=hrel
   cases gk with
   | zero=>exact absurd HA.out (by simp [yO.l0])
   | succ k1 =>
    have H:=HA.out
    clear HA
    simp only [yO.l0] at H
    by_cases c4:zN < (l0.length:Int)
    ·rw [if_pos c4] at H
     have Z8:decide (zN < (l0.length:Int)) = true:=decide_eq_true c4
     clear c4
     by_cases c5:0 ≤ zN
     ·rw [if_pos c5] at H
      have pY:decide (0 ≤ zN) = true:=decide_eq_true c5
      clear c5
      by_cases c6:zN < (l1.length:Int)
      ·rw [if_pos c6] at H
       have wP:decide (zN < (l1.length:Int)) = true:=decide_eq_true c6
       clear c6
       replace H:=Option.bind_eq_some_iff.mp H
       obtain ⟨zav,A70,H⟩:=H
       replace H:(if zav = true then (yO.l0 k1 l0 l1 (wrap64 (zN + 1))) else (some false)) = some r:=H
       have A7:=zx.mk A70
       clear A70
       by_cases c8:zav = true
       ·subst c8
        have H1:(yO.l0 k1 l0 l1 (wrap64 (zN + 1))) = some r:=by rw [if_pos rfl] at H;exact H
        clear H
        have H:=H1
        clear H1
        have H':=zx.mk H
        clear H
        try go_wp2
        have zW:=zx.mk (zR HB.out)
        clear HB
        have HB:=zW
        clear zW
        have zjR:0 ≤ (zN:Int):=of_decide_eq_true yF
        have zjS:zN < (l0.length:Int):=of_decide_eq_true yF
        obtain ⟨wH,zqT,zqU,zeu,XQ,XJ,XV,XK,XY,XW,Xa,zzm,zzn⟩:=VA ji.out zN zjR zjS
        have Vw:=Xa
        have VZ:=XW
        have VQ:=XY
        have VX:=XK
        have VJ:=XV
        have VK:=XJ
        have VY:=XQ
        cases zeu
        replace XQ:=(HB.out.cell (World.block_lt_of_cell? w _ XQ)).trans XQ
        replace XJ:=(HB.out.cell (World.block_lt_of_cell? w _ XJ)).trans XJ
        replace XV:=(HB.out.cell (World.block_lt_of_cell? w _ XV)).trans XV
        replace XK:=(HB.out.cell (World.block_lt_of_cell? w _ XK)).trans XK
        replace XY:=(HB.out.cell (World.block_lt_of_cell? w _ XY)).trans XY
        replace XW:=(HB.out.cell (World.block_lt_of_cell? w _ XW)).trans XW
        replace Xa:=(HB.out.cell (World.block_lt_of_cell? w _ Xa)).trans Xa
        have zzo:=zx.mk zzn
        have zyI:=zx.mk zzm
        clear zzn zzm
        replace zjR:=eq_true zjR
        replace zjS:=eq_true zjS
        have zjT:0 ≤ (zN:Int):=of_decide_eq_true yF
        have zjU:zN < (l1.length:Int):=of_decide_eq_true yF
        obtain ⟨wI,zq0,zq1,e294,Xb,Xc,Xd,Xe,Xf,Xg,Xh,zzp,zzr⟩:=VA HR1.out zN zjT zjU
        have VW:=Xh
        have Va:=Xg
        have Vb:=Xf
        have Vd:=Xe
        have Ve:=Xd
        have Vf:=Xc
        have Vg:=Xb
        cases e294
        replace Xb:=(HB.out.cell (World.block_lt_of_cell? w _ Xb)).trans Xb
        replace Xc:=(HB.out.cell (World.block_lt_of_cell? w _ Xc)).trans Xc
        replace Xd:=(HB.out.cell (World.block_lt_of_cell? w _ Xd)).trans Xd
        replace Xe:=(HB.out.cell (World.block_lt_of_cell? w _ Xe)).trans Xe
        replace Xf:=(HB.out.cell (World.block_lt_of_cell? w _ Xf)).trans Xf
        replace Xg:=(HB.out.cell (World.block_lt_of_cell? w _ Xg)).trans Xg
        replace Xh:=(HB.out.cell (World.block_lt_of_cell? w _ Xh)).trans Xh
        have zzs:=zx.mk zzr
        have zyL:=zx.mk zzp
        clear zzr zzp
        replace zjT:=eq_true zjT
        replace zjU:=eq_true zjU
        refine jr (n:=10) (S:=fun w'=>w'.cell? (wH.add ((zN).toNat * 7)) = some (.int .i64 ((yx l0 zN).f0)) ∧ w'.cell? ⟨(wH.add ((zN).toNat * 7)).block,(wH.add ((zN).toNat * 7)).off + 1,none⟩ = some (.int .i64 ((yx l0 zN).f1)) ∧ w'.cell? ⟨(wH.add ((zN).toNat * 7)).block,(wH.add ((zN).toNat * 7)).off + 2,none⟩ = some (.int .i64 ((yx l0 zN).f2)) ∧ w'.cell? ⟨(wH.add ((zN).toNat * 7)).block,(wH.add ((zN).toNat * 7)).off + 3,none⟩ = some (.int .i64 ((yx l0 zN).f3)) ∧ w'.cell? ⟨(wH.add ((zN).toNat * 7)).block,(wH.add ((zN).toNat * 7)).off + 4,none⟩ = some (.string ((yx l0 zN).f4)) ∧ w'.cell? ⟨(wH.add ((zN).toNat * 7)).block,(wH.add ((zN).toNat * 7)).off + 5,none⟩ = some (.string ((yx l0 zN).f5)) ∧ w'.cell? ⟨(wH.add ((zN).toNat * 7)).block,(wH.add ((zN).toNat * 7)).off + 6,none⟩ = some (.slice zqT ((yx l0 zN).f6).length zqU) ∧ w'.cell? (wI.add ((zN).toNat * 7)) = some (.int .i64 ((yx l1 zN).f0)) ∧ w'.cell? ⟨(wI.add ((zN).toNat * 7)).block,(wI.add ((zN).toNat * 7)).off + 1,none⟩ = some (.int .i64 ((yx l1 zN).f1)) ∧ w'.cell? ⟨(wI.add ((zN).toNat * 7)).block,(wI.add ((zN).toNat * 7)).off + 2,none⟩ = some (.int .i64 ((yx l1 zN).f2)) ∧ w'.cell? ⟨(wI.add ((zN).toNat * 7)).block,(wI.add ((zN).toNat * 7)).off + 3,none⟩ = some (.int .i64 ((yx l1 zN).f3)) ∧ w'.cell? ⟨(wI.add ((zN).toNat * 7)).block,(wI.add ((zN).toNat * 7)).off + 4,none⟩ = some (.string ((yx l1 zN).f4)) ∧ w'.cell? ⟨(wI.add ((zN).toNat * 7)).block,(wI.add ((zN).toNat * 7)).off + 5,none⟩ = some (.string ((yx l1 zN).f5)) ∧ w'.cell? ⟨(wI.add ((zN).toNat * 7)).block,(wI.add ((zN).toNat * 7)).off + 6,none⟩ = some (.slice zq0 ((yx l1 zN).f6).length zq1)) (ds:=[]) #[false,false,false,false,false,false,false,false,false,false] (by kernel_rfl) rfl rfl ⟨((HB.out.cell (World.block_lt_of_cell? w _ VY)).trans VY),((HB.out.cell (World.block_lt_of_cell? w _ VK)).trans VK),((HB.out.cell (World.block_lt_of_cell? w _ VJ)).trans VJ),((HB.out.cell (World.block_lt_of_cell? w _ VX)).trans VX),((HB.out.cell (World.block_lt_of_cell? w _ VQ)).trans VQ),((HB.out.cell (World.block_lt_of_cell? w _ VZ)).trans VZ),((HB.out.cell (World.block_lt_of_cell? w _ Vw)).trans Vw),((HB.out.cell (World.block_lt_of_cell? w _ Vg)).trans Vg),((HB.out.cell (World.block_lt_of_cell? w _ Vf)).trans Vf),((HB.out.cell (World.block_lt_of_cell? w _ Ve)).trans Ve),((HB.out.cell (World.block_lt_of_cell? w _ Vd)).trans Vd),((HB.out.cell (World.block_lt_of_cell? w _ Vb)).trans Vb),((HB.out.cell (World.block_lt_of_cell? w _ Va)).trans Va),((HB.out.cell (World.block_lt_of_cell? w _ VW)).trans VW)⟩ (fun hHeld=>?_);refine uT yO.zZF yO.zvo (fun zi vD=>?_)
        generalize wr.drew = w9 at HB zzo zzs XQ XJ XV XK XY XW Xa Xb Xc Xd Xe Xf Xg Xh hHeld ⊢
        refine uY (i:=0) (N:=some 17) (v:=?_) (a':=?_) #[true,false,false,false,false,false,false,false,false,false] rfl rfl (vE zi.out (by kernel_rfl)) (fun _ _ _ h=>h) (Or.inl ⟨by rfl,?_⟩) ?_ ?_
        rotate_left
        ·intro w'
         go_simp
         with_reducible rfl
        rotate_left
        ·simp only [Act.put,List.setIfInBounds_toArray,List.set_cons_zero,List.set_cons_succ,vU,uW]
         rfl
        refine uY (i:=1) (N:=some 18) (v:=?_) (a':=?_) #[true,true,false,false,false,false,false,false,false,false] rfl rfl (vE zi.out (by kernel_rfl)) (fun _ _ _ h=>h) (Or.inl ⟨by rfl,?_⟩) ?_ ?_
        rotate_left
        ·intro w'
         go_simp
         with_reducible rfl
        rotate_left
        ·simp only [Act.put,List.setIfInBounds_toArray,List.set_cons_zero,List.set_cons_succ,vU,uW]
         rfl
        refine uY (i:=2) (N:=some 19) (v:=?_) (a':=?_) #[true,true,true,false,false,false,false,false,false,false] rfl rfl (vE zi.out (by kernel_rfl)) (fun _ _ _ h=>h) (Or.inl ⟨by rfl,?_⟩) ?_ ?_
        rotate_left
        ·intro w'
         go_simp
         with_reducible rfl
        rotate_left
        ·simp only [Act.put,List.setIfInBounds_toArray,List.set_cons_zero,List.set_cons_succ,vU,uW]
         rfl
        refine uY (i:=4) (N:=some 21) (v:=?_) (a':=?_) #[true,true,true,false,true,false,false,false,false,false] rfl rfl (vE zi.out (by kernel_rfl)) (fun _ _ _ h=>h) (Or.inl ⟨by rfl,?_⟩) ?_ ?_
        rotate_left
        ·intro w'
         go_simp
         with_reducible rfl
        rotate_left
        ·simp only [Act.put,List.setIfInBounds_toArray,List.set_cons_zero,List.set_cons_succ,vU,uW]
         rfl
        refine uY (i:=5) (N:=some 22) (v:=?_) (a':=?_) #[true,true,true,false,true,true,false,false,false,false] rfl rfl (vE zi.out (by kernel_rfl)) (fun _ _ _ h=>h) (Or.inl ⟨by rfl,?_⟩) ?_ ?_
        rotate_left
        ·intro w'
         go_simp
         with_reducible rfl
        rotate_left
        ·simp only [Act.put,List.setIfInBounds_toArray,List.set_cons_zero,List.set_cons_succ,vU,uW]
         rfl
        refine uY (i:=6) (N:=some 23) (v:=?_) (a':=?_) #[true,true,true,false,true,true,true,false,false,false] rfl rfl (vE zi.out (by kernel_rfl)) (fun _ _ _ h=>h) (Or.inl ⟨by rfl,?_⟩) ?_ ?_
        rotate_left
        ·intro w'
         go_simp
         with_reducible rfl
        rotate_left
        ·simp only [Act.put,List.setIfInBounds_toArray,List.set_cons_zero,List.set_cons_succ,vU,uW]
         rfl
        refine Qu (i:=3) (N:=some 20) (v:=?_) (a':=?_) #[true,true,true,true,true,true,true,false,false,false] rfl rfl (V5 zi.out vD.out (by kernel_rfl)) (fun _ _ _ h=>h) (Or.inl ⟨by rfl,?_⟩) hHeld ?_ ?_
        rotate_left
        ·rintro w' ⟨s0,s1,s2,s3,s4,s5,s6,s7,s8,s9,s10,s11,s12,s13⟩
         go_simp
         with_reducible rfl
        rotate_left
        ·simp only [Act.put,List.setIfInBounds_toArray,List.set_cons_zero,List.set_cons_succ,vU,uW]
         rfl
        refine Qu (i:=7) (N:=some 24) (v:=?_) (a':=?_) #[true,true,true,true,true,true,true,true,false,false] rfl rfl (V5 zi.out vD.out (by kernel_rfl)) (fun _ _ _ h=>h) (Or.inl ⟨by rfl,?_⟩) hHeld ?_ ?_
        rotate_left
        ·rintro w' ⟨s0,s1,s2,s3,s4,s5,s6,s7,s8,s9,s10,s11,s12,s13⟩
         go_simp
         with_reducible rfl
        rotate_left
        ·simp only [Act.put,List.setIfInBounds_toArray,List.set_cons_zero,List.set_cons_succ,vU,uW]
         rfl
        refine V4 (i:=8) (N:=some 25) #[true,true,true,true,true,true,true,true,true,false] rfl rfl (Zv zi.out (by kernel_rfl)) (by decide) (fun K hK=>?_)
        refine wS Tryz.func53 (by kernel_rfl) rfl #[.agg #[.int .i64 ((yx l0 zN).f0),.int .i64 ((yx l0 zN).f1),.int .i64 ((yx l0 zN).f2),.int .i64 ((yx l0 zN).f3),.string ((yx l0 zN).f4),.string ((yx l0 zN).f5),.slice zqT ((yx l0 zN).f6).length zqU],.agg #[.int .i64 ((yx l1 zN).f0),.int .i64 ((yx l1 zN).f1),.int .i64 ((yx l1 zN).f2),.int .i64 ((yx l1 zN).f3),.string ((yx l1 zN).f4),.string ((yx l1 zN).f5),.slice zq0 ((yx l1 zN).f6).length zq1]] (by rfl) rfl rfl (by (try simp only [List.map_toArray,List.map_cons,List.map_nil]);first | done | rfl | (simp only [List.length_drop,List.length_take];rfl)) ?_
        with_reducible refine (yK.calls k1 ((yx l0 zN).f0) ((yx l0 zN).f1) ((yx l0 zN).f2) ((yx l0 zN).f3) ((yx l0 zN).f4) ((yx l0 zN).f5) _ _ ((yx l0 zN).f6) ((yx l1 zN).f0) ((yx l1 zN).f1) ((yx l1 zN).f2) ((yx l1 zN).f3) ((yx l1 zN).f4) ((yx l1 zN).f5) _ _ ((yx l1 zN).f6) true _ ?yc ?yG ?qZ ?qQ A7.out).mono ?_
        (case yc=>exact qY (Kd.zm zzo.out HB.out))
        (case yG=>exact zyI.out)
        (case qZ=>exact qY (Kd.zm zzs.out HB.out))
        (case qQ=>exact zyL.out)
        rintro e Xm ⟨rfl,hb⟩
        refine ⟨_,rfl,?_⟩
        have zW:=zx.mk (zC (zG HB.out) hb)
        clear HB
        have HB:=zW
        clear zW
        (try clear hb)
        refine hK.out _ _ ⟨((HB.out.cell (World.block_lt_of_cell? w _ VY)).trans VY),((HB.out.cell (World.block_lt_of_cell? w _ VK)).trans VK),((HB.out.cell (World.block_lt_of_cell? w _ VJ)).trans VJ),((HB.out.cell (World.block_lt_of_cell? w _ VX)).trans VX),((HB.out.cell (World.block_lt_of_cell? w _ VQ)).trans VQ),((HB.out.cell (World.block_lt_of_cell? w _ VZ)).trans VZ),((HB.out.cell (World.block_lt_of_cell? w _ Vw)).trans Vw),((HB.out.cell (World.block_lt_of_cell? w _ Vg)).trans Vg),((HB.out.cell (World.block_lt_of_cell? w _ Vf)).trans Vf),((HB.out.cell (World.block_lt_of_cell? w _ Ve)).trans Ve),((HB.out.cell (World.block_lt_of_cell? w _ Vd)).trans Vd),((HB.out.cell (World.block_lt_of_cell? w _ Vb)).trans Vb),((HB.out.cell (World.block_lt_of_cell? w _ Va)).trans Va),((HB.out.cell (World.block_lt_of_cell? w _ VW)).trans VW)⟩ (fun hHeld=>?_)
        clear hK K
        refine QC (a':=?_) ?_ ?_
        rotate_left
        ·show Act.put _ (some 25) _ = _
         simp only [Act.put,List.setIfInBounds_toArray,List.set_cons_zero,List.set_cons_succ,vU,uW]
         rfl
        refine uY (i:=9) (N:=some 26) (v:=?_) (a':=?_) #[true,true,true,true,true,true,true,true,true,true] rfl rfl (vE zi.out (by kernel_rfl)) (fun _ _ _ h=>h) (Or.inl ⟨by rfl,?_⟩) ?_ ?_
        rotate_left
        ·intro w'
         go_simp
         with_reducible rfl
        rotate_left
        ·simp only [Act.put,List.setIfInBounds_toArray,List.set_cons_zero,List.set_cons_succ,vU,uW]
         rfl
        refine vW (qP zi.out (by kernel_rfl)) ?_
        try go_wp2
        go_roundg k1
        case measure=>have:=uK.out;omega
        case rel=>exact ⟨(wrap64 (zN + 1)),(by first | rfl | (simp;done) | (simp [*];done)),H',⟨by have:=uK.out;omega⟩,⟨zG HB.out⟩⟩
       ·replace c8:=Bool.eq_false_iff.mpr c8
        subst c8
        have H1:(some false) = some r:=by rw [if_neg (show ¬ (false = true) by decide)] at H;exact H
        clear H
        have H:=H1
        clear H1
        obtain rfl:=Option.some.inj H
        try go_wp2
        have zW:=zx.mk (zR HB.out)
        clear HB
        have HB:=zW
        clear zW
        have zjR:0 ≤ (zN:Int):=of_decide_eq_true yF
        have zjS:zN < (l0.length:Int):=of_decide_eq_true yF
        obtain ⟨wH,zqT,zqU,zeu,XQ,XJ,XV,XK,XY,XW,Xa,zzm,zzn⟩:=VA ji.out zN zjR zjS
        have Vw:=Xa
        have VZ:=XW
        have VQ:=XY
        have VX:=XK
        have VJ:=XV
        have VK:=XJ
        have VY:=XQ
        cases zeu
        replace XQ:=(HB.out.cell (World.block_lt_of_cell? w _ XQ)).trans XQ
        replace XJ:=(HB.out.cell (World.block_lt_of_cell? w _ XJ)).trans XJ
        replace XV:=(HB.out.cell (World.block_lt_of_cell? w _ XV)).trans XV
        replace XK:=(HB.out.cell (World.block_lt_of_cell? w _ XK)).trans XK
        replace XY:=(HB.out.cell (World.block_lt_of_cell? w _ XY)).trans XY
        replace XW:=(HB.out.cell (World.block_lt_of_cell? w _ XW)).trans XW
        replace Xa:=(HB.out.cell (World.block_lt_of_cell? w _ Xa)).trans Xa
        have zzo:=zx.mk zzn
        have zyI:=zx.mk zzm
        clear zzn zzm
        replace zjR:=eq_true zjR
        replace zjS:=eq_true zjS
        have zjT:0 ≤ (zN:Int):=of_decide_eq_true yF
        have zjU:zN < (l1.length:Int):=of_decide_eq_true yF
        obtain ⟨wI,zq0,zq1,e294,Xb,Xc,Xd,Xe,Xf,Xg,Xh,zzp,zzr⟩:=VA HR1.out zN zjT zjU
        have VW:=Xh
        have Va:=Xg
        have Vb:=Xf
        have Vd:=Xe
        have Ve:=Xd
        have Vf:=Xc
        have Vg:=Xb
        cases e294
        replace Xb:=(HB.out.cell (World.block_lt_of_cell? w _ Xb)).trans Xb
        replace Xc:=(HB.out.cell (World.block_lt_of_cell? w _ Xc)).trans Xc
        replace Xd:=(HB.out.cell (World.block_lt_of_cell? w _ Xd)).trans Xd
        replace Xe:=(HB.out.cell (World.block_lt_of_cell? w _ Xe)).trans Xe
        replace Xf:=(HB.out.cell (World.block_lt_of_cell? w _ Xf)).trans Xf
        replace Xg:=(HB.out.cell (World.block_lt_of_cell? w _ Xg)).trans Xg
        replace Xh:=(HB.out.cell (World.block_lt_of_cell? w _ Xh)).trans Xh
        have zzs:=zx.mk zzr
        have zyL:=zx.mk zzp
        clear zzr zzp
        replace zjT:=eq_true zjT
        replace zjU:=eq_true zjU
        refine jr (n:=10) (S:=fun w'=>w'.cell? (wH.add ((zN).toNat * 7)) = some (.int .i64 ((yx l0 zN).f0)) ∧ w'.cell? ⟨(wH.add ((zN).toNat * 7)).block,(wH.add ((zN).toNat * 7)).off + 1,none⟩ = some (.int .i64 ((yx l0 zN).f1)) ∧ w'.cell? ⟨(wH.add ((zN).toNat * 7)).block,(wH.add ((zN).toNat * 7)).off + 2,none⟩ = some (.int .i64 ((yx l0 zN).f2)) ∧ w'.cell? ⟨(wH.add ((zN).toNat * 7)).block,(wH.add ((zN).toNat * 7)).off + 3,none⟩ = some (.int .i64 ((yx l0 zN).f3)) ∧ w'.cell? ⟨(wH.add ((zN).toNat * 7)).block,(wH.add ((zN).toNat * 7)).off + 4,none⟩ = some (.string ((yx l0 zN).f4)) ∧ w'.cell? ⟨(wH.add ((zN).toNat * 7)).block,(wH.add ((zN).toNat * 7)).off + 5,none⟩ = some (.string ((yx l0 zN).f5)) ∧ w'.cell? ⟨(wH.add ((zN).toNat * 7)).block,(wH.add ((zN).toNat * 7)).off + 6,none⟩ = some (.slice zqT ((yx l0 zN).f6).length zqU) ∧ w'.cell? (wI.add ((zN).toNat * 7)) = some (.int .i64 ((yx l1 zN).f0)) ∧ w'.cell? ⟨(wI.add ((zN).toNat * 7)).block,(wI.add ((zN).toNat * 7)).off + 1,none⟩ = some (.int .i64 ((yx l1 zN).f1)) ∧ w'.cell? ⟨(wI.add ((zN).toNat * 7)).block,(wI.add ((zN).toNat * 7)).off + 2,none⟩ = some (.int .i64 ((yx l1 zN).f2)) ∧ w'.cell? ⟨(wI.add ((zN).toNat * 7)).block,(wI.add ((zN).toNat * 7)).off + 3,none⟩ = some (.int .i64 ((yx l1 zN).f3)) ∧ w'.cell? ⟨(wI.add ((zN).toNat * 7)).block,(wI.add ((zN).toNat * 7)).off + 4,none⟩ = some (.string ((yx l1 zN).f4)) ∧ w'.cell? ⟨(wI.add ((zN).toNat * 7)).block,(wI.add ((zN).toNat * 7)).off + 5,none⟩ = some (.string ((yx l1 zN).f5)) ∧ w'.cell? ⟨(wI.add ((zN).toNat * 7)).block,(wI.add ((zN).toNat * 7)).off + 6,none⟩ = some (.slice zq0 ((yx l1 zN).f6).length zq1)) (ds:=[]) #[false,false,false,false,false,false,false,false,false,false] (by kernel_rfl) rfl rfl ⟨((HB.out.cell (World.block_lt_of_cell? w _ VY)).trans VY),((HB.out.cell (World.block_lt_of_cell? w _ VK)).trans VK),((HB.out.cell (World.block_lt_of_cell? w _ VJ)).trans VJ),((HB.out.cell (World.block_lt_of_cell? w _ VX)).trans VX),((HB.out.cell (World.block_lt_of_cell? w _ VQ)).trans VQ),((HB.out.cell (World.block_lt_of_cell? w _ VZ)).trans VZ),((HB.out.cell (World.block_lt_of_cell? w _ Vw)).trans Vw),((HB.out.cell (World.block_lt_of_cell? w _ Vg)).trans Vg),((HB.out.cell (World.block_lt_of_cell? w _ Vf)).trans Vf),((HB.out.cell (World.block_lt_of_cell? w _ Ve)).trans Ve),((HB.out.cell (World.block_lt_of_cell? w _ Vd)).trans Vd),((HB.out.cell (World.block_lt_of_cell? w _ Vb)).trans Vb),((HB.out.cell (World.block_lt_of_cell? w _ Va)).trans Va),((HB.out.cell (World.block_lt_of_cell? w _ VW)).trans VW)⟩ (fun hHeld=>?_);refine uT yO.zZF yO.zvo (fun zi vD=>?_)
        generalize wr.drew = w11 at HB zzo zzs XQ XJ XV XK XY XW Xa Xb Xc Xd Xe Xf Xg Xh hHeld ⊢
        refine uY (i:=0) (N:=some 17) (v:=?_) (a':=?_) #[true,false,false,false,false,false,false,false,false,false] rfl rfl (vE zi.out (by kernel_rfl)) (fun _ _ _ h=>h) (Or.inl ⟨by rfl,?_⟩) ?_ ?_
        rotate_left
        ·intro w'
         go_simp
         with_reducible rfl
        rotate_left
        ·simp only [Act.put,List.setIfInBounds_toArray,List.set_cons_zero,List.set_cons_succ,vU,uW]
         rfl
        refine uY (i:=1) (N:=some 18) (v:=?_) (a':=?_) #[true,true,false,false,false,false,false,false,false,false] rfl rfl (vE zi.out (by kernel_rfl)) (fun _ _ _ h=>h) (Or.inl ⟨by rfl,?_⟩) ?_ ?_
        rotate_left
        ·intro w'
         go_simp
         with_reducible rfl
        rotate_left
        ·simp only [Act.put,List.setIfInBounds_toArray,List.set_cons_zero,List.set_cons_succ,vU,uW]
         rfl
        refine uY (i:=2) (N:=some 19) (v:=?_) (a':=?_) #[true,true,true,false,false,false,false,false,false,false] rfl rfl (vE zi.out (by kernel_rfl)) (fun _ _ _ h=>h) (Or.inl ⟨by rfl,?_⟩) ?_ ?_
        rotate_left
        ·intro w'
         go_simp
         with_reducible rfl
        rotate_left
        ·simp only [Act.put,List.setIfInBounds_toArray,List.set_cons_zero,List.set_cons_succ,vU,uW]
         rfl
        refine uY (i:=4) (N:=some 21) (v:=?_) (a':=?_) #[true,true,true,false,true,false,false,false,false,false] rfl rfl (vE zi.out (by kernel_rfl)) (fun _ _ _ h=>h) (Or.inl ⟨by rfl,?_⟩) ?_ ?_
        rotate_left
        ·intro w'
         go_simp
         with_reducible rfl
        rotate_left
        ·simp only [Act.put,List.setIfInBounds_toArray,List.set_cons_zero,List.set_cons_succ,vU,uW]
         rfl
        refine uY (i:=5) (N:=some 22) (v:=?_) (a':=?_) #[true,true,true,false,true,true,false,false,false,false] rfl rfl (vE zi.out (by kernel_rfl)) (fun _ _ _ h=>h) (Or.inl ⟨by rfl,?_⟩) ?_ ?_
        rotate_left
        ·intro w'
         go_simp
         with_reducible rfl
        rotate_left
        ·simp only [Act.put,List.setIfInBounds_toArray,List.set_cons_zero,List.set_cons_succ,vU,uW]
         rfl
        refine uY (i:=6) (N:=some 23) (v:=?_) (a':=?_) #[true,true,true,false,true,true,true,false,false,false] rfl rfl (vE zi.out (by kernel_rfl)) (fun _ _ _ h=>h) (Or.inl ⟨by rfl,?_⟩) ?_ ?_
        rotate_left
        ·intro w'
         go_simp
         with_reducible rfl
        rotate_left
        ·simp only [Act.put,List.setIfInBounds_toArray,List.set_cons_zero,List.set_cons_succ,vU,uW]
         rfl
        refine Qu (i:=3) (N:=some 20) (v:=?_) (a':=?_) #[true,true,true,true,true,true,true,false,false,false] rfl rfl (V5 zi.out vD.out (by kernel_rfl)) (fun _ _ _ h=>h) (Or.inl ⟨by rfl,?_⟩) hHeld ?_ ?_
        rotate_left
        ·rintro w' ⟨s0,s1,s2,s3,s4,s5,s6,s7,s8,s9,s10,s11,s12,s13⟩
         go_simp
         with_reducible rfl
        rotate_left
        ·simp only [Act.put,List.setIfInBounds_toArray,List.set_cons_zero,List.set_cons_succ,vU,uW]
         rfl
        refine Qu (i:=7) (N:=some 24) (v:=?_) (a':=?_) #[true,true,true,true,true,true,true,true,false,false] rfl rfl (V5 zi.out vD.out (by kernel_rfl)) (fun _ _ _ h=>h) (Or.inl ⟨by rfl,?_⟩) hHeld ?_ ?_
        rotate_left
        ·rintro w' ⟨s0,s1,s2,s3,s4,s5,s6,s7,s8,s9,s10,s11,s12,s13⟩
         go_simp
         with_reducible rfl
        rotate_left
        ·simp only [Act.put,List.setIfInBounds_toArray,List.set_cons_zero,List.set_cons_succ,vU,uW]
         rfl
        refine V4 (i:=8) (N:=some 25) #[true,true,true,true,true,true,true,true,true,false] rfl rfl (Zv zi.out (by kernel_rfl)) (by decide) (fun K hK=>?_)
        refine wS Tryz.func53 (by kernel_rfl) rfl #[.agg #[.int .i64 ((yx l0 zN).f0),.int .i64 ((yx l0 zN).f1),.int .i64 ((yx l0 zN).f2),.int .i64 ((yx l0 zN).f3),.string ((yx l0 zN).f4),.string ((yx l0 zN).f5),.slice zqT ((yx l0 zN).f6).length zqU],.agg #[.int .i64 ((yx l1 zN).f0),.int .i64 ((yx l1 zN).f1),.int .i64 ((yx l1 zN).f2),.int .i64 ((yx l1 zN).f3),.string ((yx l1 zN).f4),.string ((yx l1 zN).f5),.slice zq0 ((yx l1 zN).f6).length zq1]] (by rfl) rfl rfl (by (try simp only [List.map_toArray,List.map_cons,List.map_nil]);first | done | rfl | (simp only [List.length_drop,List.length_take];rfl)) ?_
        with_reducible refine (yK.calls k1 ((yx l0 zN).f0) ((yx l0 zN).f1) ((yx l0 zN).f2) ((yx l0 zN).f3) ((yx l0 zN).f4) ((yx l0 zN).f5) _ _ ((yx l0 zN).f6) ((yx l1 zN).f0) ((yx l1 zN).f1) ((yx l1 zN).f2) ((yx l1 zN).f3) ((yx l1 zN).f4) ((yx l1 zN).f5) _ _ ((yx l1 zN).f6) false _ ?yc ?yG ?qZ ?qQ A7.out).mono ?_
        (case yc=>exact qY (Kd.zm zzo.out HB.out))
        (case yG=>exact zyI.out)
        (case qZ=>exact qY (Kd.zm zzs.out HB.out))
        (case qQ=>exact zyL.out)
        rintro e YK ⟨rfl,hb⟩
        refine ⟨_,rfl,?_⟩
        have zW:=zx.mk (zC (zG HB.out) hb)
        clear HB
        have HB:=zW
        clear zW
        (try clear hb)
        refine hK.out _ _ ⟨((HB.out.cell (World.block_lt_of_cell? w _ VY)).trans VY),((HB.out.cell (World.block_lt_of_cell? w _ VK)).trans VK),((HB.out.cell (World.block_lt_of_cell? w _ VJ)).trans VJ),((HB.out.cell (World.block_lt_of_cell? w _ VX)).trans VX),((HB.out.cell (World.block_lt_of_cell? w _ VQ)).trans VQ),((HB.out.cell (World.block_lt_of_cell? w _ VZ)).trans VZ),((HB.out.cell (World.block_lt_of_cell? w _ Vw)).trans Vw),((HB.out.cell (World.block_lt_of_cell? w _ Vg)).trans Vg),((HB.out.cell (World.block_lt_of_cell? w _ Vf)).trans Vf),((HB.out.cell (World.block_lt_of_cell? w _ Ve)).trans Ve),((HB.out.cell (World.block_lt_of_cell? w _ Vd)).trans Vd),((HB.out.cell (World.block_lt_of_cell? w _ Vb)).trans Vb),((HB.out.cell (World.block_lt_of_cell? w _ Va)).trans Va),((HB.out.cell (World.block_lt_of_cell? w _ VW)).trans VW)⟩ (fun hHeld=>?_)
        clear hK K
        refine QC (a':=?_) ?_ ?_
        rotate_left
        ·show Act.put _ (some 25) _ = _
         simp only [Act.put,List.setIfInBounds_toArray,List.set_cons_zero,List.set_cons_succ,vU,uW]
         rfl
        refine uY (i:=9) (N:=some 26) (v:=?_) (a':=?_) #[true,true,true,true,true,true,true,true,true,true] rfl rfl (vE zi.out (by kernel_rfl)) (fun _ _ _ h=>h) (Or.inl ⟨by rfl,?_⟩) ?_ ?_
        rotate_left
        ·intro w'
         go_simp
         with_reducible rfl
        rotate_left
        ·simp only [Act.put,List.setIfInBounds_toArray,List.set_cons_zero,List.set_cons_succ,vU,uW]
         rfl
        refine vW (qP zi.out (by kernel_rfl)) ?_
        try go_wp2
        go_ret
        exact ⟨by first | rfl | (simp [zH,zI] <;> rfl) | (simp [*,zH,zI] <;> rfl),by repeat (first | (with_reducible first | exact HB.out | apply yX | apply zL | apply zR) | exact HB.out)⟩
      ·rw [if_neg c6] at H
       exact absurd H (by simp)
     ·rw [if_neg c5] at H
      exact absurd H (by simp)
    ·rw [if_neg c4] at H
     have Z8:decide (zN < (l0.length:Int)) = false:=decide_eq_false c4
     clear c4
     obtain rfl:=Option.some.inj H
     go_wp2
     go_ret
     exact ⟨by first | rfl | (simp [zH,zI] <;> rfl) | (simp [*,zH,zI] <;> rfl),by repeat (first | (with_reducible first | exact HB.out | apply yX | apply zL | apply zR) | exact HB.out)⟩
 ·rw [if_neg c3] at H
  have ZR:((l0.length:Int) == (l1.length:Int)) = false:=beq_eq_false_iff_ne.mpr c3
  have zqm:((l0.length:Int) != (l1.length:Int)) = true:=bne_iff_ne.mpr c3
  have zQx:(l0.length == l1.length) = false:=by first | simpa using c3 | (simp at c3 ⊢;omega)
  obtain rfl:=Option.some.inj H
  go_enter Tryz.func18,Tryz.ntmps18
  go_wp2
  go_ret
  exact ⟨by first | rfl | (simp [zH,zI] <;> rfl) | (simp [*,zH,zI] <;> rfl),by repeat (first | (with_reducible first | exact HB.out | apply yX | apply zL | apply zR) | exact HB.out)⟩
end Go.Proofs.YtggifbbiiickmaaGreatDoor.PX
namespace Go.Proofs.YtggifbbiiickmaaGreatDoor.PX
open Go.RowKit Go.Proofs.zk.zu Go.Proofs.zk.yD Go.Proofs.zk.yA
attribute [local go_sem] xP xR vG vH xB xC xS xU   -- for this text's walks alone
set_option linter.unusedVariables false
set_option linter.unusedSimpArgs false
def qL.l0:Nat → List ByteArray → List ByteArray → Int → Option (Bool)
 | 0,_,_,_=>none
 | k + 1,x0,x1,x5=>if x5 < (x0.length:Int) then (if 0 ≤ x5 then (if x5 < (x1.length:Int) then (if (qb ByteArray.empty x0 x5).toList = (qb ByteArray.empty x1 x5).toList then (qL.l0 k x0 x1 (wrap64 (x5 + 1))) else (some false)) else (none)) else (none)) else (some true)
def qL.f (k:Nat) (l0:List ByteArray) (l1:List ByteArray):Option (Bool):=if (l0.length:Int) = (l1.length:Int) then (qL.l0 k l0 l1 0) else (some false)
set_option maxHeartbeats 8000000 in
set_option maxRecDepth 100000 in
theorem qL.calls (k:Nat) (A0:Option Addr) (c0:Nat) (l0:List ByteArray) (A1:Option Addr) (c1:Nat) (l1:List ByteArray) (r:Bool) (w:World) (hr0:Kd.C Kd.string w A0 l0.length l0) (hc0:l0.length ≤ c0) (hr1:Kd.C Kd.string w A1 l1.length l1) (hc1:l1.length ≤ c1) (h:qL.f k l0 l1 = some r) :
  Calls Tryz.prog 17 #[.slice A0 l0.length c0,.slice A1 l1.length c1] w fun e w'=>e = .returned (.bool r) ∧ yt w w':=by
 have ji:=zx.mk hr0
 have Vm:=zx.mk hc0
 clear hr0 hc0
 have HR1:=zx.mk hr1
 have HC1:=zx.mk hc1
 clear hr1 hc1
 have H:(if (l0.length:Int) = (l1.length:Int) then (qL.l0 k l0 l1 0) else (some false)) = some r:=h
 clear h
 by_cases c3:(l0.length:Int) = (l1.length:Int)
 ·rw [if_pos c3] at H
  have ZR:((l0.length:Int) == (l1.length:Int)) = true:=beq_iff_eq.mpr c3
  have zqm:((l0.length:Int) != (l1.length:Int)) = false:=bne_eq_false_iff_eq.mpr c3
  have zQx:(l0.length == l1.length) = true:=by first | simpa using c3 | (simp at c3 ⊢;omega)
  clear c3
  have H':=zx.mk H
  clear H
  go_enter Tryz.func17,Tryz.ntmps17
  go_wp2
  repeat (go_quiet (fail);try go_wp2)
  go_loopg [5] k (fun kq v5 w'=>∃ (zN:Int),v5 = .int .i64 zN ∧ zx (qL.l0 kq l0 l1 zN = some r) ∧ zx (kq ≤ k) ∧ yt w w')
  case atStart=>exact ⟨(0),(by first | rfl | (simp;done) | (simp [*];done)),H',⟨Nat.le_refl _⟩,by repeat (first | exact yt.refl _ | apply yt.step)⟩
  case round =>
   clear H'
   try clear c1
   try clear c3
   try clear ZR
   try clear zqm
   try clear zQx
   obtain ⟨zN,rfl,HA,uK,⟨m1,rfl⟩⟩:=hrel
   cases gk with
   | zero=>exact absurd HA.out (by simp [qL.l0])
   | succ k1 =>
    have H:=HA.out
    clear HA
    simp only [qL.l0] at H
    by_cases c4:zN < (l0.length:Int)
    ·rw [if_pos c4] at H
     have Z8:decide (zN < (l0.length:Int)) = true:=decide_eq_true c4
     clear c4
     by_cases c5:0 ≤ zN
     ·rw [if_pos c5] at H
      have pY:decide (0 ≤ zN) = true:=decide_eq_true c5
      clear c5
      by_cases c6:zN < (l1.length:Int)
      ·rw [if_pos c6] at H
       have wP:decide (zN < (l1.length:Int)) = true:=decide_eq_true c6
       clear c6
       by_cases c7:(qb ByteArray.empty l0 zN).toList = (qb ByteArray.empty l1 zN).toList
       ·rw [if_pos c7] at H
        have Xn:((qb ByteArray.empty l0 zN).toList == (qb ByteArray.empty l1 zN).toList) = true:=beq_iff_eq.mpr c7
        have zz1:((qb ByteArray.empty l0 zN).toList != (qb ByteArray.empty l1 zN).toList) = false:=bne_eq_false_iff_eq.mpr c7
        clear c7
        have H':=zx.mk H
        clear H
        have zj0:0 ≤ (zN:Int):=of_decide_eq_true yF
        have zj1:zN < (l0.length:Int):=of_decide_eq_true yF
        obtain ⟨zpT,e287,zh9⟩:=Kd.uQ ji.out zN zj0 zj1
        cases e287
        replace zj0:=eq_true zj0
        replace zj1:=eq_true zj1
        have zj2:0 ≤ (zN:Int):=of_decide_eq_true yF
        have zj3:zN < (l1.length:Int):=of_decide_eq_true yF
        obtain ⟨zpU,e288,ziz⟩:=Kd.uQ HR1.out zN zj2 zj3
        cases e288
        replace zj2:=eq_true zj2
        replace zj3:=eq_true zj3
        go_wp2
        repeat (go_quiet (fail);try go_wp2)
        go_roundg k1
        case measure=>have:=uK.out;omega
        case rel=>exact ⟨(wrap64 (zN + 1)),(by first | rfl | (simp;done) | (simp [*];done)),H',⟨by have:=uK.out;omega⟩,by repeat (first | exact yt.refl _ | apply yt.step)⟩
       ·rw [if_neg c7] at H
        have Xn:((qb ByteArray.empty l0 zN).toList == (qb ByteArray.empty l1 zN).toList) = false:=beq_eq_false_iff_ne.mpr c7
        have zz1:((qb ByteArray.empty l0 zN).toList != (qb ByteArray.empty l1 zN).toList) = true:=bne_iff_ne.mpr c7
        obtain rfl:=Option.some.inj H
        have zj0:0 ≤ (zN:Int):=of_decide_eq_true yF
        have zj1:zN < (l0.length:Int):=of_decide_eq_true yF
        obtain ⟨zpT,e287,zh9⟩:=Kd.uQ ji.out zN zj0 zj1
        cases e287
        replace zj0:=eq_true zj0
        replace zj1:=eq_true zj1
        have zj2:0 ≤ (zN:Int):=of_decide_eq_true yF
        have zj3:zN < (l1.length:Int):=of_decide_eq_true yF
        obtain ⟨zpU,e288,ziz⟩:=Kd.uQ HR1.out zN zj2 zj3
        cases e288
        replace zj2:=eq_true zj2
        replace zj3:=eq_true zj3
        go_wp2
        repeat (go_quiet (fail);try go_wp2)
        go_ret
        exact ⟨by first | rfl | (simp;done) | (simp [*];done),by repeat (first | exact yt.refl _ | apply yt.step)⟩
      ·rw [if_neg c6] at H
       exact absurd H (by simp)
     ·rw [if_neg c5] at H
      exact absurd H (by simp)
    ·rw [if_neg c4] at H
     have Z8:decide (zN < (l0.length:Int)) = false:=decide_eq_false c4
     clear c4
     obtain rfl:=Option.some.inj H
     go_wp2
     repeat (go_quiet (fail);try go_wp2)
     go_ret
     exact ⟨by first | rfl | (simp;done) | (simp [*];done),by repeat (first | exact yt.refl _ | apply yt.step)⟩
 ·rw [if_neg c3] at H
  have ZR:((l0.length:Int) == (l1.length:Int)) = false:=beq_eq_false_iff_ne.mpr c3
  have zqm:((l0.length:Int) != (l1.length:Int)) = true:=bne_iff_ne.mpr c3
  have zQx:(l0.length == l1.length) = false:=by first | simpa using c3 | (simp at c3 ⊢;omega)
  obtain rfl:=Option.some.inj H
  go_enter Tryz.func17,Tryz.ntmps17
  go_wp2
  repeat (go_quiet (fail);try go_wp2)
  go_ret
  exact ⟨by first | rfl | (simp;done) | (simp [*];done),by repeat (first | exact yt.refl _ | apply yt.step)⟩
end Go.Proofs.YtggifbbiiickmaaGreatDoor.PX
namespace Go.Proofs.YtggifbbiiickmaaGreatDoor.PX
open Go.RowKit Go.Proofs.zk.zu Go.Proofs.zk.yD Go.Proofs.zk.yA
attribute [local go_sem] xP xR vG vH xB xC xS xU   -- for this text's walks alone
set_option linter.unusedVariables false
set_option linter.unusedSimpArgs false
def xq.l0:Nat → Int → Int → List (kK) → Option (Bool)
 | 0,_,_,_=>none
 | k + 1,x3,x4,ru=>if x4 < (ru.length:Int) then (if 0 ≤ x4 then (xq.l0 k (wrap64 ((wrap64 ((wrap64 (x3 + (((zK ru x4).f3).length:Int))) + (((zK ru x4).f4).length:Int))) + (((zK ru x4).f5).length:Int))) (wrap64 (x4 + 1)) ru) else (none)) else (if x3 > 1200 then (some true) else (some (decide ((ru.length:Int) > 10))))
def xq.f (k:Nat) (yR:List (kK)):Option (Bool):=xq.l0 k 0 0 yR
set_option maxHeartbeats 8000000 in
set_option maxRecDepth 100000 in
theorem xq.calls (k:Nat) (xu:Option Addr) (xA:Nat) (yR:List (kK)) (r:Bool) (w:World) (zfn:Kd.C pV w xu yR.length yR) (zfo:yR.length ≤ xA) (h:xq.f k yR = some r) :
  Calls Tryz.prog 10 #[.agg #[.slice xu yR.length xA]] w fun e w'=>e = .returned (.bool r) ∧ Below w.heap.size w w':=by
 have zmG:=Tryz.underlying24
 have zak:=zx.mk zfn
 have zEJ:=zx.mk zfo
 clear zfn zfo
 have HB:=zx.mk (Below.refl w.heap.size w)
 have H:(xq.l0 k 0 0 yR) = some r:=h
 clear h
 have H':=zx.mk H
 clear H
 go_enter Tryz.func10,Tryz.ntmps10
 go_wp2_with (first | ((with_reducible refine qA (N:=1) rfl ?_);(try (refine uO (by rfl) ?_;dsimp only));refine qH ?hg (N:=1) ?hd (cs:=#[.slice xu yR.length xA]) (t:=24) ?hr ?_;(case hd=>rfl);(case hg=>rfl);(case hr=>first | (go_simp;done) | (go_simp;rfl));intro VO hg w2 qd hb;have zW:=zx.mk (zC (zG HB.out) hb);have zh:=zx.mk (qd);have zo:=zx.mk ((by rw [hg];exact (zf (zG HB.out)):w.heap.size ≤ VO));have zM:=zx.mk ((by rw [hg];exact (zf (zG HB.out)):w.heap.size ≤ VO));clear HB;have HB:=zW;have Wt:=zh;have zfp:=zo;have zwi:=zM;clear zW zh zo zM;clear hb qd hg))
 repeat (go_quiet (first | ((with_reducible refine qA (N:=1) rfl ?_);(try (refine uO (by rfl) ?_;dsimp only));refine qH ?hg (N:=1) ?hd (cs:=#[.slice xu yR.length xA]) (t:=24) ?hr ?_;(case hd=>rfl);(case hg=>rfl);(case hr=>first | (go_simp;done) | (go_simp;rfl));intro VO hg w2 qd hb;have zW:=zx.mk (zC (zG HB.out) hb);have zh:=zx.mk (qd);have zo:=zx.mk ((by rw [hg];exact (zf (zG HB.out)):w.heap.size ≤ VO));have zM:=zx.mk ((by rw [hg];exact (zf (zG HB.out)):w.heap.size ≤ VO));clear HB;have HB:=zW;have Wt:=zh;have zfp:=zo;have zwi:=zM;clear zW zh zo zM;clear hb qd hg));try go_wp2_with (first | ((with_reducible refine qA (N:=1) rfl ?_);(try (refine uO (by rfl) ?_;dsimp only));refine qH ?hg (N:=1) ?hd (cs:=#[.slice xu yR.length xA]) (t:=24) ?hr ?_;(case hd=>rfl);(case hg=>rfl);(case hr=>first | (go_simp;done) | (go_simp;rfl));intro VO hg w2 qd hb;have zW:=zx.mk (zC (zG HB.out) hb);have zh:=zx.mk (qd);have zo:=zx.mk ((by rw [hg];exact (zf (zG HB.out)):w.heap.size ≤ VO));have zM:=zx.mk ((by rw [hg];exact (zf (zG HB.out)):w.heap.size ≤ VO));clear HB;have HB:=zW;have Wt:=zh;have zfp:=zo;have zwi:=zM;clear zW zh zo zM;clear hb qd hg)))
 go_loopg [3,4] k (fun kq v3 v4 w'=>∃ (qX:Int) (zJ:Int),v3 = .int .i64 qX ∧ v4 = .int .i64 zJ ∧ zx (xq.l0 kq qX zJ yR = some r) ∧ zx (kq ≤ k) ∧ zx (w'.heap[VO]? = some (.cells #[(.slice xu yR.length xA)] 24 (0,0))) ∧ zx (Below w.heap.size w w'))
 case atStart=>exact ⟨(0),(0),(by first | rfl | (simp;done) | (simp [*];done)),(by first | rfl | (simp;done) | (simp [*];done)),H',⟨Nat.le_refl _⟩,⟨qV Wt.out⟩,⟨zG HB.out⟩⟩
 case round =>
  clear H'
  obtain ⟨qX,zJ,rfl,rfl,HA,uK,Wt,HB⟩:=hrel
  cases gk with
  | zero=>exact absurd HA.out (by simp [xq.l0])
  | succ k1 =>
   have H:=HA.out
   clear HA
   simp only [xq.l0] at H
   by_cases c3:zJ < (yR.length:Int)
   ·rw [if_pos c3] at H
    have ZR:decide (zJ < (yR.length:Int)) = true:=decide_eq_true c3
    clear c3
    by_cases c4:0 ≤ zJ
    ·rw [if_pos c4] at H
     have Z8:decide (0 ≤ zJ) = true:=decide_eq_true c4
     clear c4
     have H':=zx.mk H
     clear H
     have zmH:wr.cell? ⟨VO,0,none⟩ = some (.slice xu yR.length xA):=zw Wt 0
     have zmI:=zy Wt.out 0
     have zeA:0 ≤ (zJ:Int):=of_decide_eq_true yF
     have zeB:zJ < (yR.length:Int):=of_decide_eq_true yF
     obtain ⟨zfr,zCS,zCT,zCU,zC0,zC1,zC2,e108,zyM,zyN,zyO,zzt,zzu,zzA,zK8,zK9,zYz,zYq,zYx,zYj⟩:=kT zak.out zJ zeA zeB
     cases e108
     replace zyM:=(HB.out.cell (World.block_lt_of_cell? w _ zyM)).trans zyM
     replace zyN:=(HB.out.cell (World.block_lt_of_cell? w _ zyN)).trans zyN
     replace zyO:=(HB.out.cell (World.block_lt_of_cell? w _ zyO)).trans zyO
     replace zzt:=(HB.out.cell (World.block_lt_of_cell? w _ zzt)).trans zzt
     replace zzu:=(HB.out.cell (World.block_lt_of_cell? w _ zzu)).trans zzu
     replace zzA:=(HB.out.cell (World.block_lt_of_cell? w _ zzA)).trans zzA
     have zAG:=zx.mk zK9
     have zAH:=zx.mk zK8
     clear zK9 zK8
     have zAI:=zx.mk zYq
     have zAL:=zx.mk zYz
     clear zYq zYz
     have zAM:=zx.mk zYj
     have zAN:=zx.mk zYx
     clear zYj zYx
     replace zeA:=eq_true zeA
     replace zeB:=eq_true zeB
     have zeC:0 ≤ (zJ:Int):=of_decide_eq_true yF
     have zeD:zJ < (yR.length:Int):=of_decide_eq_true yF
     obtain ⟨zp0,zC3,zC4,zC5,zC6,zC7,zC8,e109,zyP,zyR,zyS,zxP,zxR,zxS,zYv,zYk,zYy,zYw,zYZ,zYQ⟩:=kT zak.out zJ zeC zeD
     obtain rfl:zfr = zp0:=(by injection e109)
     replace zyP:=(HB.out.cell (World.block_lt_of_cell? w _ zyP)).trans zyP
     replace zyR:=(HB.out.cell (World.block_lt_of_cell? w _ zyR)).trans zyR
     replace zyS:=(HB.out.cell (World.block_lt_of_cell? w _ zyS)).trans zyS
     replace zxP:=(HB.out.cell (World.block_lt_of_cell? w _ zxP)).trans zxP
     replace zxR:=(HB.out.cell (World.block_lt_of_cell? w _ zxR)).trans zxR
     replace zxS:=(HB.out.cell (World.block_lt_of_cell? w _ zxS)).trans zxS
     have zAO:=zx.mk zYk
     have zAP:=zx.mk zYv
     clear zYk zYv
     have zAR:=zx.mk zYw
     have zAS:=zx.mk zYy
     clear zYw zYy
     have zAT:=zx.mk zYQ
     have zAU:=zx.mk zYZ
     clear zYQ zYZ
     replace zeC:=eq_true zeC
     replace zeD:=eq_true zeD
     have qN:=Option.some.inj (zzt.symm.trans zxP)
     injection qN with qN jc jd
     subst qN
     subst jd
     clear jc
     have qN:=Option.some.inj (zzu.symm.trans zxR)
     injection qN with qN jc jd
     subst qN
     subst jd
     clear jc
     have qN:=Option.some.inj (zzA.symm.trans zxS)
     injection qN with qN jc jd
     subst qN
     subst jd
     clear jc
     have zeE:0 ≤ (zJ:Int):=of_decide_eq_true yF
     have zeF:zJ < (yR.length:Int):=of_decide_eq_true yF
     obtain ⟨zp1,zC9,zDz,zDq,zDx,zDj,zDv,ztx,zyT,zyU,zy0,zxT,zxU,zx0,zYX,zYJ,zYV,zYK,zYY,zYW⟩:=kT zak.out zJ zeE zeF
     obtain rfl:zfr = zp1:=(by injection ztx)
     replace zyT:=(HB.out.cell (World.block_lt_of_cell? w _ zyT)).trans zyT
     replace zyU:=(HB.out.cell (World.block_lt_of_cell? w _ zyU)).trans zyU
     replace zy0:=(HB.out.cell (World.block_lt_of_cell? w _ zy0)).trans zy0
     replace zxT:=(HB.out.cell (World.block_lt_of_cell? w _ zxT)).trans zxT
     replace zxU:=(HB.out.cell (World.block_lt_of_cell? w _ zxU)).trans zxU
     replace zx0:=(HB.out.cell (World.block_lt_of_cell? w _ zx0)).trans zx0
     have zA0:=zx.mk zYJ
     have zA1:=zx.mk zYX
     clear zYJ zYX
     have zA2:=zx.mk zYK
     have zA3:=zx.mk zYV
     clear zYK zYV
     have zA4:=zx.mk zYW
     have zA5:=zx.mk zYY
     clear zYW zYY
     replace zeE:=eq_true zeE
     replace zeF:=eq_true zeF
     have qN:=Option.some.inj (zzt.symm.trans zxT)
     injection qN with qN jc jd
     subst qN
     subst jd
     clear jc
     have qN:=Option.some.inj (zzu.symm.trans zxU)
     injection qN with qN jc jd
     subst qN
     subst jd
     clear jc
     have qN:=Option.some.inj (zzA.symm.trans zx0)
     injection qN with qN jc jd
     subst qN
     subst jd
     clear jc
     go_wp2
     repeat (go_quiet (fail);try go_wp2)
     go_roundg k1
     case measure=>have:=uK.out;omega
     case rel=>exact ⟨(wrap64 ((wrap64 ((wrap64 (qX + (((zK yR zJ).f3).length:Int))) + (((zK yR zJ).f4).length:Int))) + (((zK yR zJ).f5).length:Int))),(wrap64 (zJ + 1)),(by first | rfl | (simp;done) | (simp [*];done)),(by first | rfl | (simp;done) | (simp [*];done)),H',⟨by have:=uK.out;omega⟩,⟨qV Wt.out⟩,⟨zG HB.out⟩⟩
    ·rw [if_neg c4] at H
     exact absurd H (by simp)
   ·rw [if_neg c3] at H
    have ZR:decide (zJ < (yR.length:Int)) = false:=decide_eq_false c3
    clear c3
    by_cases c6:qX > 1200
    ·rw [if_pos c6] at H
     have wP:decide (1200 < qX) = true:=decide_eq_true c6
     clear c6
     obtain rfl:=Option.some.inj H
     have zwH:wr.cell? ⟨VO,0,none⟩ = some (.slice xu yR.length xA):=zw Wt 0
     have zwI:=zy Wt.out 0
     go_wp2
     repeat (go_quiet (fail);try go_wp2)
     go_ret
     exact ⟨by first | rfl | (simp [zH,zI] <;> rfl) | (simp [*,zH,zI] <;> rfl),by repeat (first | (with_reducible first | exact HB.out | apply yX | apply zL | apply zR | refine qK ?_ zwi.out) | exact HB.out)⟩
    ·rw [if_neg c6] at H
     have wP:decide (1200 < qX) = false:=decide_eq_false c6
     clear c6
     obtain rfl:=Option.some.inj H
     have zaP:wr.cell? ⟨VO,0,none⟩ = some (.slice xu yR.length xA):=zw Wt 0
     have zaR:=zy Wt.out 0
     go_wp2
     repeat (go_quiet (fail);try go_wp2)
     go_ret
     exact ⟨by first | rfl | (simp [zH,zI] <;> rfl) | (simp [*,zH,zI] <;> rfl),by repeat (first | (with_reducible first | exact HB.out | apply yX | apply zL | apply zR | refine qK ?_ zwi.out) | exact HB.out)⟩
end Go.Proofs.YtggifbbiiickmaaGreatDoor.PX
namespace Go.Proofs.YtggifbbiiickmaaGreatDoor.PX
open Go.RowKit Go.Proofs.zk.zu Go.Proofs.zk.yD Go.Proofs.zk.yA
attribute [local go_sem] xP xR vG vH xB xC xS xU   -- for this text's walks alone
set_option linter.unusedVariables false
set_option linter.unusedSimpArgs false
def pE.f (yR:List (kK)):Option ((List (kK))):=(kF.f).bind fun gV=>(if gV.length + yR.length < 1353245080339 then (some (gV ++ yR)) else (none))
set_option maxHeartbeats 8000000 in
set_option maxRecDepth 100000 in
theorem pE.calls (wh:Nat → Prop) (xu:Option Addr) (xA:Nat) (yR:List (kK)) (r:List (kK)) (w:World) (zay:Kd.V pV 60 w w.heap.size (fun k_=>wh k_) (.slice xu yR.length xA) yR) (hG:GW w) (h:pE.f yR = some r) :
  Calls Tryz.prog 12 #[.agg #[.slice xu yR.length xA]] w fun e w'=>∃ Qo:Value,e = .returned (Qo) ∧ Kd.N pV 60 w' w.heap.size (fun k_=>(wh k_ ∨ w.heap.size ≤ k_)) Qo r ∧ Below w.heap.size w w':=by
 have zmG:=Tryz.underlying24
 have HG:=zx.mk hG
 clear hG
 have jA:=zx.mk (show Kd.V pV 60 w w.heap.size (fun k_=>(wh k_ ∨ w.heap.size ≤ k_)) (.slice xu yR.length xA) yR from Kd.wL zay (fun k_ hk=>.inl hk))
 have HB:=zx.mk (Below.refl w.heap.size w)
 have H:((kF.f).bind fun gV=>(if gV.length + yR.length < 1353245080339 then (some (gV ++ yR)) else (none))) = some r:=h
 clear h
 replace H:=Option.bind_eq_some_iff.mp H
 obtain ⟨gV,A20,H⟩:=H
 replace H:(if gV.length + yR.length < 1353245080339 then (some (gV ++ yR)) else (none)) = some r:=H
 have A2:=zx.mk A20
 clear A20
 by_cases c3:gV.length + yR.length < 1353245080339
 ·rw [if_pos c3] at H
  have ztj:=zx.mk c3
  clear c3
  obtain ⟨ztv,zvR⟩:∃ y_:List (kK),y_ = (gV ++ yR):=⟨_,rfl⟩
  replace H:(some ztv) = some r:=by first | (rw [zvR];with_reducible exact H) | (have jH:=(Option.bind_some _ _).symm.trans H;rw [zvR];with_reducible exact jH) | (have jH:=(Option.bind_some _ _).symm.trans H;with_reducible exact jH) | with_reducible exact H | (rw [zvR];exact H) | exact H
  have zp2:=zx.mk zvR
  clear zvR
  obtain rfl:=Option.some.inj H
  go_enter Tryz.func12,Tryz.ntmps12
  try go_wp2_with (first | ((with_reducible refine qA (N:=1) rfl ?_);refine qH ?hg (N:=1) ?hd (cs:=#[.slice xu yR.length xA]) (t:=24) ?hr ?_;(case hd=>rfl);(case hg=>rfl);(case hr=>first | (go_simp;done) | (go_simp;rfl));intro Vh hg w4 qd hb;have zW:=zx.mk (Kd.wV (Kd.zwB (by (with_reducible repeat (first | apply Kd.XM | apply Kd.XO | apply Kd.Zk));exact jA.out) Vh (Nat.le_of_eq hg.symm)) hb);have zh:=zx.mk (zC (zG HB.out) hb);have zo:=zx.mk (qd);have zM:=zx.mk ((by rw [hg];exact (zf (zG HB.out)):w.heap.size ≤ Vh));have qw:=zx.mk ((by rw [hg];exact (zf (zG HB.out)):w.heap.size ≤ Vh));clear jA;clear HB;have jA:=zW;have HB:=zh;have YO:=zo;have zEV:=zM;have zp3:=qw;clear zW zh zo zM qw;clear hb qd hg))
  have zW:=zx.mk (Kd.Zk jA.out)
  have zh:=zx.mk (xV YO.out)
  have zo:=zx.mk (zR HB.out)
  clear jA
  clear YO
  clear HB
  have jA:=zW
  have YO:=zh
  have HB:=zo
  clear zW zh zo
  refine jr (n:=5) (S:=fun w'=>w'.cell? ⟨Vh,0,none⟩ = some (.slice xu yR.length xA)) (ds:=[]) #[false,false,false,false,false] (by kernel_rfl) rfl rfl (zw YO 0) (fun hHeld=>?_)
  generalize w4.drew = w5 at jA YO HB hHeld ⊢
  refine uY (i:=1) (N:=some 4) (v:=?_) (a':=?_) #[false,true,false,false,false] rfl rfl (by kernel_rfl) (fun _ _ _ h=>h) (Or.inl ⟨by rfl,?_⟩) ?_ ?_
  rotate_left
  ·intro w'
   go_simp
   with_reducible rfl
  rotate_left
  ·simp only [Act.put,List.setIfInBounds_toArray,List.set_cons_zero,List.set_cons_succ,vU,uW]
   rfl
  refine Qu (i:=2) (N:=some 5) (v:=?_) (a':=?_) #[false,true,true,false,false] rfl rfl (by kernel_rfl) (fun _ _ _ h=>h) (Or.inl ⟨by rfl,?_⟩) hHeld ?_ ?_
  rotate_left
  ·intro w' s0
   go_simp
   with_reducible rfl
  rotate_left
  ·simp only [Act.put,List.setIfInBounds_toArray,List.set_cons_zero,List.set_cons_succ,vU,uW]
   rfl
  refine V4 (i:=0) (N:=some 3) #[true,true,true,false,false] rfl rfl (by kernel_rfl) (by decide) (fun K hK=>?_)
  refine wS Tryz.func19 (by kernel_rfl) rfl #[] (by rfl) rfl rfl (by (try simp only [List.map_toArray,List.map_cons,List.map_nil]);first | done | rfl | (simp only [List.length_drop,List.length_take];rfl)) ?_
  with_reducible refine (kF.calls  gV _ ?yc A2.out).mono ?_
  (case yc=>exact GW.under HG.out (zG HB.out))
  rintro e w6 ⟨v127,rfl,ho0,hb⟩
  refine ⟨_,rfl,?_⟩
  have zW:=zx.mk (Kd.YD (by (with_reducible repeat (first | apply Kd.XM | apply Kd.XO | apply Kd.Zk));exact jA.out) (Kd.um ho0) hb)
  have zh:=zx.mk (Kd.ZE (Kd.kE (ok':=fun k_=>(wh k_ ∨ w.heap.size ≤ k_) ∧ k_ ≠ Vh) (Kd.aC (Kd.Zd ho0)) (fun k_ uJ=>⟨(.inr (Nat.le_trans (zf (zG HB.out)) uJ.2.1)),(Kd.Z4 (g:=Vh) (o:=.cells #[.slice xu yR.length xA] 24 (0,0)) (qV YO.out) k_ uJ.2.1)⟩)) (zf (zG HB.out)))
  have zo:=zx.mk (yj (g:=Vh) (o:=.cells #[.slice xu yR.length xA] 24 (0,0)) (qV YO.out) hb)
  have zM:=zx.mk (zC (zG HB.out) hb)
  clear jA
  clear YO
  clear HB
  have jA:=zW
  have zaw:=zh
  have YO:=zo
  have HB:=zM
  clear zW zh zo zM
  (try clear hb)
  (try clear hk)
  (try clear ho0)
  refine hK.out _ _ (zw YO 0) (fun hHeld=>?_)
  clear hK K
  refine QC (a':=?_) ?_ ?_
  rotate_left
  ·show Act.put _ (some 3) _ = _
   simp only [Act.put,List.setIfInBounds_toArray,List.set_cons_zero,List.set_cons_succ,vU,uW]
   rfl
  refine V4 (i:=3) (N:=some 6) #[true,true,true,true,false] rfl rfl (by kernel_rfl) (by decide) (fun K hK=>?_)
  refine Kd.zqd pV (w0:=w) w.heap.size (by rfl) (.tmp 3) (.tmp 5) 22 60 (.agg #[(.string ⟨#[]⟩),(.bool false),(.int .i64 0),(.slice none 0 0),(.slice none 0 0),(.slice none 0 0)]) 104 rfl Tryz.underlying22 ziF rfl (by decide) (by omega) v127 gV yR _ _ _ (fun k_=>(wh k_ ∨ w.heap.size ≤ k_) ∧ k_ ≠ Vh) (fun k_=>((fun k_=>(wh k_ ∨ w.heap.size ≤ k_) ∧ k_ ≠ Vh)) k_ ∧ some k_ ≠ (v127:Value).ownBlock) rfl rfl ?aO ?aR (fun _ hk=>hk) ?aF ?aB ?aS ?aL ?_
  (case aR=>exact (by skip;exact Kd.V_F (Kd.wL (ok':=(fun k_=>((fun k_=>(wh k_ ∨ w.heap.size ≤ k_) ∧ k_ ≠ Vh)) k_ ∧ some k_ ≠ (v127:Value).ownBlock)) (jA.out) (fun k_ hk=>⟨⟨hk.1.1,hk.1.2⟩,hk.2⟩))))
  (case aB=>exact (zG HB.out))
  (case aF=>exact (fun k_ hk=>⟨(.inr (Nat.le_trans (zf (zG HB.out)) hk)),Kd.Z4 (g:=Vh) (o:=.cells #[.slice xu yR.length xA] 24 (0,0)) (qV YO.out) k_ hk⟩))
  (case aO=>exact (by (with_reducible repeat (first | apply Kd.zv9 | apply Kd.zkz | apply Kd.rA));exact zaw.out))
  (case aS=>exact (zf (zG HB.out)))
  (case aL=>have:=ztj.out;omega)
  intro v130 w7 ho hb hg hat
  rw [← zp2.out] at ho
  have zW:=zx.mk (Kd.zce (ok:=(fun k_=>(wh k_ ∨ w.heap.size ≤ k_) ∧ k_ ≠ Vh)) (by (with_reducible repeat (first | apply Kd.XM | apply Kd.XO | apply Kd.Zk));exact jA.out) hg hat)
  have zh:=zx.mk (uL (g:=Vh) (o:=.cells #[.slice xu yR.length xA] 24 (0,0)) (qV YO.out) hg (Kd.zrw zaw.out YO.out (by decide)))
  have zo:=zx.mk (hb)
  have zM:=zx.mk (ho)
  clear jA
  clear YO
  clear HB
  clear zaw
  have jA:=zW
  have YO:=zh
  have HB:=zo
  have zp4:=zM
  clear zW zh zo zM
  clear ho hb hg hat
  refine hK.out _ _ (zw YO 0) (fun hHeld=>?_)
  clear hK K
  refine QC (a':=?_) ?_ ?_
  rotate_left
  ·show Act.put _ (some 6) _ = _
   simp only [Act.put,List.setIfInBounds_toArray,List.set_cons_zero,List.set_cons_succ,vU,uW]
   rfl
  refine uY (i:=4) (N:=some 2) (v:=?_) (a':=?_) #[true,true,true,true,true] rfl rfl (by kernel_rfl) (fun _ _ _ h=>h) (Or.inl ⟨by rfl,?_⟩) ?_ ?_
  rotate_left
  ·intro w'
   go_simp
   with_reducible rfl
  rotate_left
  ·simp only [Act.put,List.setIfInBounds_toArray,List.set_cons_zero,List.set_cons_succ,vU,uW]
   rfl
  refine vW (by kernel_rfl) ?_
  try go_wp2
  go_ret
  exact ⟨_,by first | rfl | (simp [zH,zI] <;> rfl) | (simp [*,zH,zI] <;> rfl),by (with_reducible repeat (first | apply Kd.zv9 | apply Kd.zkz | apply Kd.rA));exact Kd.kE zp4.out (fun _ hk=>hk.1),by repeat (first | (with_reducible first | exact HB.out | apply yX | apply zL | apply zR | refine qK ?_ zp3.out) | exact HB.out)⟩
 ·rw [if_neg c3] at H
  exact absurd H (by simp)
end Go.Proofs.YtggifbbiiickmaaGreatDoor.PX
namespace Go.Proofs.YtggifbbiiickmaaGreatDoor
open Go.RowKit Go.Proofs.zk.zu Go.Proofs.zk.yD Go.Proofs.zk.yA Go.Proofs.YtggifbbiiickmaaGreatDoor.PX
set_option linter.unusedSimpArgs false
set_option linter.unusedVariables false
theorem zb0 (b:wB) (hl:b.f6.length ≤ 1000000000):∀ d i,i + d = b.f6.length → Ev (fun k=>yK.l0 k (i:Int) b.f0 b.f1 b.f2 b.f3 b.f4 b.f5 b.f6 b.f0 b.f1 b.f2 b.f3 b.f4 b.f5 b.f6) true:=by
 intro d
 induction d with
 | zero=>intro i h;exact Ev.step (fun k=>by rw [yK.l0]) (xQ (by omega) (Ev.now _))
 | succ d ih =>
  intro i h
  have hw:wrap64 ((i:Int) + 1) = ((i + 1:Nat):Int):=(wK (by omega) (by omega)).trans (by omega)
  have q1:(i:Int) < (b.f6.length:Int):=by omega
  have q2:(0:Int) ≤ (i:Int):=by omega
  have hr:=ih (i + 1) (by omega)
  exact Ev.step (fun k=>by rw [yK.l0,hw]) (yJ q1 (yJ q2 (yJ q1 (yJ rfl hr))))
theorem zQj (b:wB) (hl:b.f6.length ≤ 1000000000):Ev (fun k=>yK.f k b.f0 b.f1 b.f2 b.f3 b.f4 b.f5 b.f6 b.f0 b.f1 b.f2 b.f3 b.f4 b.f5 b.f6) true:=by
 have h:Ev (fun k=>yK.l0 k 0 b.f0 b.f1 b.f2 b.f3 b.f4 b.f5 b.f6 b.f0 b.f1 b.f2 b.f3 b.f4 b.f5 b.f6) true:=zb0 b hl b.f6.length 0 (by omega)
 have e:((b.f6.length:Int) != (b.f6.length:Int)) = false:=by simp
 have h0:Ev (fun k=>yK.j0 k false b.f0 b.f1 b.f2 b.f3 b.f4 b.f5 b.f6 b.f0 b.f1 b.f2 b.f3 b.f4 b.f5 b.f6) true :=
  Ev.step (fun k=>by rw [yK.j0]) (xQ Bool.false_ne_true h)
 exact Ev.congr (fun k=>by rw [yK.f,e]) (yJ rfl (yJ rfl (yJ rfl (yJ rfl (yJ rfl (yJ rfl h0))))))
theorem zmL (l:List wB) (hl:l.length ≤ 1000000000) (hb:∀ b ∈ l,b.f6.length ≤ 1000000000):∀ d i,i + d = l.length → Ev (fun k=>yO.l0 k l l (i:Int)) true:=by
 intro d
 induction d with
 | zero=>intro i h;exact Ev.step (fun k=>by rw [yO.l0]) (xQ (by omega) (Ev.now _))
 | succ d ih =>
  intro i h
  have hi:i < l.length:=by omega
  have hw:wrap64 ((i:Int) + 1) = ((i + 1:Nat):Int):=(wK (by omega) (by omega)).trans (by omega)
  have q1:(i:Int) < (l.length:Int):=by omega
  have q2:(0:Int) ≤ (i:Int):=by omega
  have hr:=ih (i + 1) (by omega)
  have hd:=rdB l i _ (List.getElem?_eq_getElem hi)
  have hs:=zQj l[i] (hb _ (List.getElem_mem hi))
  exact Ev.step (fun k=>by rw [yO.l0,hw,hd]) (yJ q1 (yJ q2 (yJ q1 (Ev.bind hs (yJ rfl hr)))))
theorem zb1 (l:List wB) (hl:l.length ≤ 1000000000) (hb:∀ b ∈ l,b.f6.length ≤ 1000000000):Ev (fun k=>yO.f k l l) true :=
 Ev.congr (fun k=>by rw [yO.f];rfl) (yJ rfl (zmL l hl hb l.length 0 (by omega)))
theorem zmM (l:List ByteArray) (hl:l.length ≤ 1000000000):∀ d i,i + d = l.length → Ev (fun k=>qL.l0 k l l (i:Int)) true:=by
 intro d
 induction d with
 | zero=>intro i h;exact Ev.step (fun k=>by rw [qL.l0]) (xQ (by omega) (Ev.now _))
 | succ d ih =>
  intro i h
  have hw:wrap64 ((i:Int) + 1) = ((i + 1:Nat):Int):=(wK (by omega) (by omega)).trans (by omega)
  have q1:(i:Int) < (l.length:Int):=by omega
  have q2:(0:Int) ≤ (i:Int):=by omega
  have hr:=ih (i + 1) (by omega)
  exact Ev.step (fun k=>by rw [qL.l0,hw]) (yJ q1 (yJ q2 (yJ q1 (yJ rfl hr))))
theorem zb2 (l:List ByteArray) (hl:l.length ≤ 1000000000):Ev (fun k=>qL.f k l l) true :=
 Ev.congr (fun k=>by rw [qL.f];rfl) (yJ rfl (zmM l hl l.length 0 (by omega)))
def okM (x:qo):Prop:=x.f3.length ≤ 140737488355328 ∧ x.f4.length ≤ 140737488355328 ∧ x.f5.length ≤ 140737488355328
theorem ztk (n a b c:Int) (h0:0 ≤ n) (h1:n ≤ 4222124650659840) (ha:0 ≤ a) (ha1:a ≤ 140737488355328) (hb:0 ≤ b) (hb1:b ≤ 140737488355328) (hc:0 ≤ c) (hc1:c ≤ 140737488355328):wrap64 (wrap64 (wrap64 (n + a) + b) + c) = n + a + b + c:=by
 rw [wK (x:=n + a) (by omega) (by omega),wK (x:=n + a + b) (by omega) (by omega),wK (by omega) (by omega)]
theorem ziq (l:List qo) (hl:l.length ≤ 2000000000000) (hM:∀ x ∈ l,okM x):∀ d i n,i + d = l.length →
  ∃ b,Ev (fun k=>xq.l0 k n (i:Int) l) b ∧ (b = false → l.length ≤ 10 ∧ (0 ≤ n → n ≤ (i:Int) * 422212465065984 → (∀ x ∈ l.drop i,x.f3.length ≤ 1200 ∧ x.f4.length ≤ 1200 ∧ x.f5.length ≤ 1200) ∧ n ≤ 1200)):=by
 intro d
 induction d with
 | zero =>
  intro i n h
  by_cases hn:n > 1200
  ·exact ⟨true,Ev.step (fun k=>by rw [xq.l0]) (xQ (by omega) (yJ hn (Ev.now _))),fun h=>by cases h⟩
  ·refine ⟨decide ((l.length:Int) > 10),Ev.step (fun k=>by rw [xq.l0]) (xQ (by omega) (xQ hn (Ev.now _))),fun hd=>⟨?_,fun _ _=>⟨fun x hx=>?_,by omega⟩⟩⟩
   ·have:=of_decide_eq_false hd;omega
   ·rw [List.drop_eq_nil_of_le (by omega)] at hx;cases hx
 | succ d ih =>
  intro i n h
  have hi:i < l.length:=by omega
  have hw:wrap64 ((i:Int) + 1) = ((i + 1:Nat):Int):=(wK (by omega) (by omega)).trans (by omega)
  have q1:(i:Int) < (l.length:Int):=by omega
  have q2:(0:Int) ≤ (i:Int):=by omega
  have hd:zK l (i:Int) = l[i]:=by simp [zK,List.getD_eq_getElem?_getD,hi]
  obtain ⟨m1,m2,m3⟩:=hM _ (List.getElem_mem hi)
  have hdr:l.drop i = l[i] :: l.drop (i + 1):=List.drop_eq_getElem_cons hi
  generalize l[i] = x at hd m1 m2 m3 hdr
  obtain ⟨b,hb,hf⟩:=ih (i + 1) (wrap64 (wrap64 (wrap64 (n + (x.f3.length:Int)) + (x.f4.length:Int)) + (x.f5.length:Int))) (by omega)
  refine ⟨b,Ev.step (fun k=>by rw [xq.l0,hw,hd]) (yJ q1 (yJ q2 hb)),fun hbf=>?_⟩
  obtain ⟨h1,h2⟩:=hf hbf
  refine ⟨h1,fun n0 n1=>?_⟩
  rw [ztk n _ _ _ n0 (by omega) (by omega) (by omega) (by omega) (by omega) (by omega) (by omega)] at h2
  obtain ⟨g1,g2⟩:=h2 (by omega) (by omega)
  refine ⟨fun y hy=>?_,by omega⟩
  rw [hdr] at hy
  rcases List.mem_cons.1 hy with rfl | hy
  ·omega
  ·exact g1 y hy
theorem zeG (l:List qo) (hl:l.length ≤ 2000000000000) (hM:∀ x ∈ l,okM x):∃ b,Ev (fun k=>xq.f k l) b ∧ (b = false → l.length ≤ 10 ∧ ∀ x ∈ l,x.f3.length ≤ 1200 ∧ x.f4.length ≤ 1200 ∧ x.f5.length ≤ 1200):=by
 obtain ⟨b,h1,h2⟩:=ziq l hl hM l.length 0 0 (by omega)
 refine ⟨b,Ev.congr (fun k=>by rw [xq.f];rfl) h1,fun h=>?_⟩
 obtain ⟨g1,g2⟩:=h2 h
 have:=(g2 (Int.le_refl _) (by omega)).1
 rw [List.drop_zero] at this
 exact ⟨g1,this⟩
theorem zp5 (l:List qo) (hl:l.length ≤ 1000):pE.f l = some (gJ ++ l):=by
 unfold pE.f
 show (some gJ).bind _ = _
 rw [Option.bind_some,if_pos (by rw [zVJ];omega)]
end Go.Proofs.YtggifbbiiickmaaGreatDoor
namespace Go.Proofs.YtggifbbiiickmaaGreatDoor
open Go.RowKit Go.Proofs.zk.zu Go.Proofs.zk.yD Go.Proofs.zk.yA Go.Proofs.YtggifbbiiickmaaGreatDoor.PX
set_option linter.unusedSimpArgs false
set_option linter.unusedVariables false
theorem zb3 (J:ByteArray → ByteArray → ByteArray × Bool) (l:List ByteArray):(wY J l).length ≤ l.length:=zx9 J _ l (Nat.le_refl _)
theorem zix (l:List qo) (f s:Int) (kn:Bool) (ns:List ByteArray):∀ b ∈ (Vr l f s kn ns).1,b.f6 = []:=by
 have key:∀ (ns:List ByteArray) (st:List wB × List ByteArray),(∀ b ∈ st.1,b.f6 = []) → ∀ b ∈ (ns.foldl (YF l f s kn) st).1,b.f6 = []:=by
  intro ns
  induction ns with
  | nil=>intro st h;exact h
  | cons n r ih =>
   intro st h
   refine ih _ ?_
   unfold YF
   split
   ·exact h
   ·intro b hb
    simp only [List.mem_append,List.mem_singleton] at hb
    rcases hb with (hb | hb) | rfl
    ·exact h b hb
    ·unfold ZG at hb
     split at hb
     ·cases hb
     ·split at hb
      ·split at hb
       ·cases hb
       ·rw [List.mem_singleton] at hb
        rw [hb];rfl
      ·cases hb
    ·rfl
 exact key ns ([],[]) (fun b hb=>by cases hb)
theorem zQv (l:List qo) (f s:Int) (lg kn:Bool) (chars:List ByteArray) (pairs:List kG):(pO l f s lg kn chars pairs).1.length ≤ 4000 ∧ (pO l f s lg kn chars pairs).2.1.length ≤ 2000 ∧ ∀ b ∈ (pO l f s lg kn chars pairs).1,b.f6 = []:=by
 unfold pO
 by_cases h:Zf l f s chars pairs = true
 ·rw [if_pos h]
  exact ⟨Nat.zero_le _,Nat.zero_le _,fun b hb=>by cases hb⟩
 ·rw [if_neg h]
  have hc:chars.length ≤ 2000:=by
   rcases Nat.lt_or_ge 2000 chars.length with h1 | h1
   ·exact absurd (by unfold Zf;rw [decide_eq_true h1];simp) h
   ·exact h1
  have h1:=zes l f s kn (Y4 l f lg chars pairs)
  have h2:=zax l f lg chars pairs
  exact ⟨by show (Vr l f s kn (Y4 l f lg chars pairs)).1.length ≤ 4000;omega,by show (Vr l f s kn (Y4 l f lg chars pairs)).2.length ≤ 2000;omega,zix l f s kn _⟩
theorem zb4 (l:List qo) (f s:Int) (lg kn:Bool) (chars:List ByteArray) (pairs:List kG) :
  Ev (fun k=>if (pO l f s lg kn chars pairs).2.2 = (pO l f s lg kn chars pairs).2.2 then ((qL.f k (pO l f s lg kn chars pairs).2.1 (pO l f s lg kn chars pairs).2.1).bind fun t=>(if t = true then ((yO.f k (pO l f s lg kn chars pairs).1 (pO l f s lg kn chars pairs).1).bind fun u=>(if u = true then ((xO.f).bind fun v=>(some v)) else (some false))) else (some false))) else (some false)) true:=by
 obtain ⟨h1,h2,h3⟩:=zQv l f s lg kn chars pairs
 generalize pO l f s lg kn chars pairs = R at h1 h2 h3 ⊢
 refine yJ rfl (Ev.bind (zb2 R.2.1 (by omega)) (yJ rfl (Ev.bind (zb1 R.1 (by omega) (fun b hb=>by rw [h3 b hb];exact Nat.zero_le _)) (yJ rfl ?_))))
 exact Wv zbU (Ev.now _)
end Go.Proofs.YtggifbbiiickmaaGreatDoor
namespace Go.Proofs.YtggifbbiiickmaaGreatDoor.PX
open Go.RowKit Go.Proofs.zk.zu Go.Proofs.zk.yD Go.Proofs.zk.yA
attribute [local go_sem] xP xR vG vH xB xC xS xU   -- for this text's walks alone
set_option linter.unusedVariables false
set_option linter.unusedSimpArgs false
def je.f (zD:Int) (ze:Int) (za:Bool) (yN:Bool):Option (Int × Int × Bool × Bool):=some (zD,ze,za,yN)
set_option maxHeartbeats 8000000 in
set_option maxRecDepth 100000 in
theorem je.calls (zD:Int) (ze:Int) (za:Bool) (yN:Bool) (r1:Int) (r2:Int) (r3:Bool) (r4:Bool) (w:World) (h:je.f zD ze za yN = some (r1,r2,r3,r4)) :
    Calls Tryz.prog 16 #[.agg #[.int .i64 zD,.int .i64 ze,.bool za,.bool yN]] w fun e w'=>e = .returned (.agg #[.int .i64 r1,.int .i64 r2,.bool r3,.bool r4]) ∧ Below w.heap.size w w':=by
  have zWT:=Tryz.underlying26
  have zdm:=Tryz.underlying41
  have HB:=zx.mk (Below.refl w.heap.size w)
  have H:(some (zD,ze,za,yN)) = some (r1,r2,r3,r4):=h
  clear h
  simp only [Option.some.injEq,Prod.mk.injEq] at H
  obtain ⟨rfl,rfl,rfl,rfl⟩:=H
  go_enter Tryz.func16,Tryz.ntmps16
  go_wp2_with (first | ((with_reducible refine qA (N:=1) rfl ?_);refine qH ?hg (N:=1) ?hd (cs:=#[.int .i64 zD,.int .i64 ze,.bool za,.bool yN]) (t:=26) ?hr ?_;(case hd=>rfl);(case hg=>rfl);(case hr=>first | (go_simp;done) | (go_simp;rfl));intro Wu hg w2 qd hb;have zW:=zx.mk (zC (zG HB.out) hb);have zh:=zx.mk (qd);have zo:=zx.mk ((by rw [hg];exact (zf (zG HB.out)):w.heap.size ≤ Wu));have zM:=zx.mk ((by rw [hg];exact (zf (zG HB.out)):w.heap.size ≤ Wu));clear HB;have HB:=zW;have Vi:=zh;have zEK:=zo;have zp6:=zM;clear zW zh zo zM;clear hb qd hg) | ((with_reducible refine qA (N:=2) rfl ?_);refine qH ?hg (N:=2) ?hd (cs:=#[.int .i64 0,.int .i64 0,.bool false,.bool false]) (t:=41) ?hr ?_;(case hd=>rfl);(case hg=>rfl);(case hr=>first | (go_simp;done) | (go_simp;rfl));intro gN hg w3 qd hb;have zW:=zx.mk (yj (g:=Wu) (o:=.cells #[.int .i64 zD,.int .i64 ze,.bool za,.bool yN] 26 (0,0)) (qV Vi.out) hb);have zh:=zx.mk (zC (zG HB.out) hb);have zo:=zx.mk (qd);have zM:=zx.mk ((by rw [hg];exact (zf (zG HB.out)):w.heap.size ≤ gN));have qw:=zx.mk ((by rw [hg];exact (zf (zG HB.out)):w.heap.size ≤ gN));have xE:=zx.mk ((by rw [hg];exact Nat.ne_of_lt (Zx (g:=Wu) (o:=.cells #[.int .i64 zD,.int .i64 ze,.bool za,.bool yN] 26 (0,0)) (qV Vi.out)):Wu ≠ gN));have jU:=zx.mk ((by rw [hg];exact Nat.ne_of_gt (Zx (g:=Wu) (o:=.cells #[.int .i64 zD,.int .i64 ze,.bool za,.bool yN] 26 (0,0)) (qV Vi.out)):gN ≠ Wu));clear Vi;clear HB;have Vi:=zW;have HB:=zh;have gP:=zo;have zEY:=zM;have zp7:=qw;have zb5:=xE;have zb6:=jU;clear zW zh zo zM qw xE jU;clear hb qd hg;have zE9:=zb5.out;have zFz:=zb6.out;have zmH:w3.cell? ⟨Wu,0,none⟩ = some (.int .i64 zD):=zw Vi 0;have zDk:w3.cell? ⟨Wu,1,none⟩ = some (.int .i64 ze):=zw Vi 1;have zDy:w3.cell? ⟨Wu,2,none⟩ = some (.bool za):=zw Vi 2;have zDw:w3.cell? ⟨Wu,3,none⟩ = some (.bool yN):=zw Vi 3;have zmI:=zy Vi.out 0;have zDZ:=zy Vi.out 1;have zDQ:=zy Vi.out 2;have zDX:=zy Vi.out 3;have zQk:w3.cell? ⟨gN,0,none⟩ = some (.int .i64 0):=zw gP 0;have zQy:w3.cell? ⟨gN,1,none⟩ = some (.int .i64 0):=zw gP 1;have zQw:w3.cell? ⟨gN,2,none⟩ = some (.bool false):=zw gP 2;have zQZ:w3.cell? ⟨gN,3,none⟩ = some (.bool false):=zw gP 3;have zQQ:=zy gP.out 0;have zQX:=zy gP.out 1;have zQJ:=zy gP.out 2;have zQV:=zy gP.out 3))
  refine bodyPost_ret (results_cell_row rfl _ _ gN 41 #[.int .i64 zD,.int .i64 ze,.bool za,.bool yN] (0,0) _ rfl (by (with_reducible repeat (first | refine jE ?_ _ | refine xV ?_ | refine qx ?_ _));refine vC (cs:=#[.int .i64 zD,.int .i64 ze,.bool za,.bool false]) ?_ 3 _ rfl;(with_reducible repeat (first | refine jE ?_ _ | refine xV ?_ | refine qx ?_ _));refine vC (cs:=#[.int .i64 zD,.int .i64 ze,.bool false,.bool false]) ?_ 2 _ rfl;(with_reducible repeat (first | refine jE ?_ _ | refine xV ?_ | refine qx ?_ _));refine vC (cs:=#[.int .i64 zD,.int .i64 0,.bool false,.bool false]) ?_ 1 _ rfl;(with_reducible repeat (first | refine jE ?_ _ | refine xV ?_ | refine qx ?_ _));refine vC (cs:=#[.int .i64 0,.int .i64 0,.bool false,.bool false]) ?_ 0 _ rfl;(with_reducible repeat (first | refine jE ?_ _ | refine xV ?_ | refine qx ?_ _));exact gP.out) Tryz.underlying41 rfl (by kernel_rfl)) rfl ?_
  exact ⟨by first | rfl | (simp [zH,zI] <;> rfl) | (simp [*,zH,zI] <;> rfl),by repeat (first | (with_reducible first | exact HB.out | apply yX | apply zL | apply zR | refine qK ?_ zp6.out | refine qK ?_ zp7.out) | exact HB.out)⟩
end Go.Proofs.YtggifbbiiickmaaGreatDoor.PX
namespace Go.Proofs.YtggifbbiiickmaaGreatDoor.PX
open Go.RowKit Go.Proofs.zk.zu Go.Proofs.zk.yD Go.Proofs.zk.yA
attribute [local go_sem] xP xR vG vH xB xC xS xU   -- for this text's walks alone
set_option linter.unusedVariables false
set_option linter.unusedSimpArgs false
end Go.Proofs.YtggifbbiiickmaaGreatDoor.PX
namespace Go.Proofs.YtggifbbiiickmaaGreatDoor
open Go.RowKit Go.Proofs.zk.zu Go.Proofs.zk.yD Go.Proofs.zk.yA Go.Proofs.YtggifbbiiickmaaGreatDoor.PX
set_option linter.unusedSimpArgs false
set_option linter.unusedVariables false
theorem zb7:gJ.all (fun x=>decide (x.f0.size ≤ 100) && x.f3.all (fun y=>decide (y.f0.size ≤ 100))) = true:=by decide +kernel
theorem zeH:∀ x ∈ gJ,Yj x:=fun x hx=>by
 have h:=List.all_eq_true.1 zb7 x hx
 have g:=List.all_eq_true.1 zh7 x hx
 simp only [Bool.and_eq_true,decide_eq_true_eq,List.all_eq_true] at h
 unfold okF at g
 have g:=of_decide_eq_true g
 exact ⟨g.1,g.2.1,g.2.2,by omega,fun y hy=>by have:=h.2 y hy;omega⟩
end Go.Proofs.YtggifbbiiickmaaGreatDoor
namespace Go.Proofs.YtggifbbiiickmaaGreatDoor.PX
open Go.RowKit Go.Proofs.zk.zu Go.Proofs.zk.yD Go.Proofs.zk.yA
attribute [local go_sem] xP xR vG vH xB xC xS xU   -- for this text's walks alone
set_option linter.unusedVariables false
set_option linter.unusedSimpArgs false
mutual
def zB.j0:Nat → Bool → List (kK) → Int → Int → Bool → Bool → List ByteArray → List (pG) → Bool → Option (Bool)
 | 0,_,_,_,_,_,_,_,_,_=>none
 | k + 1,x24,zzB,zzC,zzD,zzE,zzF,zzG,zzH,zx1=>if x24 = true then ((xO.f).bind fun zy1=>(some zy1)) else ((pE.f zzB).bind fun zq2=>(if zx1 = true then (zB.j1 k zzB zzB zzC zzD zzE zzF zzG zzH zx1) else (zB.j1 k zq2 zzB zzC zzD zzE zzF zzG zzH zx1)))
def zB.j1:Nat → List (kK) → List (kK) → Int → Int → Bool → Bool → List ByteArray → List (pG) → Bool → Option (Bool)
 | 0,_,_,_,_,_,_,_,_,_=>none
 | k + 1,x3,zzB,zzC,zzD,zzE,zzF,zzG,zzH,zx1=>(uP.f x3 zzC zzD zzE zzF zzG zzH).bind fun zaZ=>((zl.f k x3).bind fun Yl=>((je.f zzC zzD zzE zzF).bind fun Ql=>((zA.f k Yl Ql.1 Ql.2.1 Ql.2.2.1 Ql.2.2.2 zzG zzH).bind fun XB=>(if zaZ.2.2 = XB.2.2 then ((qL.f k zaZ.2.1 XB.2.1).bind fun gK=>(if gK = true then ((yO.f k zaZ.1 XB.1).bind fun Vu=>(if Vu = true then ((xO.f).bind fun Xi=>(some Xi)) else (some false))) else (some false))) else (some false)))))
end
def zB.f (k:Nat) (yR:List (kK)) (ze:Int) (za:Int) (yN:Bool) (yS:Bool) (zY:List ByteArray) (yL:List (pG)) (xL:Bool):Option (Bool):=(xq.f k yR).bind fun zy2=>(if zy2 = true then (zB.j0 k true yR ze za yN yS zY yL xL) else (if (zY.length:Int) > 300 then (zB.j0 k true yR ze za yN yS zY yL xL) else (zB.j0 k (decide ((yL.length:Int) > 120)) yR ze za yN yS zY yL xL)))
def zB.T7:Bool × List (List Nat × List Nat):=(true,[([],[]),([0],[0]),([],[]),([2],[2]),([3,1],[3]),([],[]),([5],[5]),([],[]),([7],[7]),([1,4,6,8,4],[1,4,6,8]),([9],[9]),([10],[10]),([10],[10]),([10],[10]),([11,9,0,1,2,3,4,5,6,7,8,9,10,11],[11]),([12,14,0,1,2,3,4,5,6,7,8,9,10,11,12,14],[12]),([13,15,0,1,2,3,4,5,6,7,8,9,10,11,12,13,14,15],[13])])
def zB.B7:List Nat:=[0,1,0,4,15,0,32,0,128,511,1023,2047,2047,2047,4095,24575,65535]
theorem zB.zjn:uj .any (opsOf Tryz.f3 7) = zB.T7:=by kernel_rfl
theorem zB.zz8:uh zB.T7.2 zB.B7 = true:=by kernel_rfl
set_option maxHeartbeats 8000000 in
set_option maxRecDepth 100000 in
theorem zB.calls (k:Nat) (wh:Nat → Prop) (xu:Option Addr) (xA:Nat) (yR:List (kK)) (ze:Int) (za:Int) (yN:Bool) (yS:Bool) (yZ:Option Addr) (yQ:Nat) (zY:List ByteArray) (xk:Option Addr) (xw:Nat) (yL:List (pG)) (xL:Bool) (r:Bool) (w:World) (zay:Kd.V pV 60 w w.heap.size (fun k_=>wh k_) (.slice xu yR.length xA) yR) (jm:Kd.C Kd.string w yZ zY.length zY) (jo:zY.length ≤ yQ) (zvM:Kd.C Xl w xk yL.length yL) (zvN:yL.length ≤ xw) (hG:GW w) (h:zB.f k yR ze za yN yS zY yL xL = some r) :
  Calls Tryz.prog 3 #[.agg #[.slice xu yR.length xA,.int .i64 ze,.int .i64 za,.bool yN,.bool yS,.slice yZ zY.length yQ,.slice xk yL.length xw,.bool xL]] w fun e w'=>e = .returned (.bool r) ∧ Below w.heap.size w w':=by
 have zFq:=Tryz.underlying30
 have zmG:=Tryz.underlying24
 have zWT:=Tryz.underlying26
 have HG:=zx.mk hG
 clear hG
 have jA:=zx.mk (show Kd.V pV 60 w w.heap.size (fun k_=>(wh k_ ∨ w.heap.size ≤ k_)) (.slice xu yR.length xA) yR from Kd.wL zay (fun k_ hk=>.inl hk))
 have uD:=zx.mk jm
 have jh:=zx.mk jo
 clear jm jo
 have Ws:=zx.mk zvM
 have gM:=zx.mk zvN
 clear zvM zvN
 have HB:=zx.mk (Below.refl w.heap.size w)
 have H:((xq.f k yR).bind fun zy2=>(if zy2 = true then (zB.j0 k true yR ze za yN yS zY yL xL) else (if (zY.length:Int) > 300 then (zB.j0 k true yR ze za yN yS zY yL xL) else (zB.j0 k (decide ((yL.length:Int) > 120)) yR ze za yN yS zY yL xL)))) = some r:=h
 clear h
 have HC2:=zx.mk H
 clear H
 go_enter Tryz.func3,Tryz.ntmps3
 go_upto_region 1 with (first | ((with_reducible refine qA (N:=1) rfl ?_);(try (refine uO (by rfl) ?_;dsimp only));refine qH ?hg (N:=1) ?hd (cs:=#[.slice xu yR.length xA,.int .i64 ze,.int .i64 za,.bool yN,.bool yS,.slice yZ zY.length yQ,.slice xk yL.length xw,.bool xL]) (t:=30) ?hr ?_;(case hd=>rfl);(case hg=>rfl);(case hr=>first | (go_simp;done) | (go_simp;rfl));intro zT hg w3 qd hb;have zW:=zx.mk (Kd.wV (Kd.zwB (wT jA.out) zT (Nat.le_of_eq hg.symm)) hb);have zh:=zx.mk (zC (zG HB.out) hb);have zo:=zx.mk (qd);have zM:=zx.mk ((by rw [hg];exact (zf (zG HB.out)):w.heap.size ≤ zT));have qw:=zx.mk ((by rw [hg];exact (zf (zG HB.out)):w.heap.size ≤ zT));clear jA;clear HB;have jA:=zW;have HB:=zh;have zQ:=zo;have zEW:=zM;have zvS:=qw;clear zW zh zo zM qw;clear hb qd hg))
 (try simp only [Act.put,List.setIfInBounds_toArray,List.set_cons_zero,List.set_cons_succ])
 go_cut [24] (fun v24 wc=>∃ (kq:Nat) (zwl:Bool),v24 = .bool zwl ∧ zx (zB.j0 kq zwl yR ze za yN yS zY yL xL = some r) ∧ zx (kq ≤ k) ∧ zx (Kd.V pV 60 wc w.heap.size (fun k_=>(wh k_ ∨ w.heap.size ≤ k_) ∧ k_ ≠ zT) (.slice xu yR.length xA) yR) ∧ zx (wc.heap[zT]? = some (.cells #[(.slice xu yR.length xA),.int .i64 ze,.int .i64 za,.bool yN,.bool yS,(.slice yZ zY.length yQ),(.slice xk yL.length xw),.bool xL] 30 (0,0))) ∧ zx (Below w.heap.size w wc))
 case first =>
  have H:=HC2.out
  clear HC2
  replace H:=Option.bind_eq_some_iff.mp H
  obtain ⟨zy2,gW,H⟩:=H
  replace H:(if zy2 = true then (zB.j0 k true yR ze za yN yS zY yL xL) else (if (zY.length:Int) > 300 then (zB.j0 k true yR ze za yN yS zY yL xL) else (zB.j0 k (decide ((yL.length:Int) > 120)) yR ze za yN yS zY yL xL))) = some r:=H
  have A4:=zx.mk gW
  clear gW
  by_cases c5:zy2 = true
  ·subst c5
   have H1:(zB.j0 k true yR ze za yN yS zY yL xL) = some r:=by rw [if_pos rfl] at H;exact H
   clear H
   have H:=H1
   clear H1
   have H':=zx.mk H
   clear H
   have zQk:w3.cell? ⟨zT,0,none⟩ = some (.slice xu yR.length xA):=zw zQ 0
   have zQy:w3.cell? ⟨zT,1,none⟩ = some (.int .i64 ze):=zw zQ 1
   have zQw:w3.cell? ⟨zT,2,none⟩ = some (.int .i64 za):=zw zQ 2
   have zQZ:w3.cell? ⟨zT,3,none⟩ = some (.bool yN):=zw zQ 3
   have zb8:w3.cell? ⟨zT,4,none⟩ = some (.bool yS):=zw zQ 4
   have zb9:w3.cell? ⟨zT,5,none⟩ = some (.slice yZ zY.length yQ):=zw zQ 5
   have zcz:w3.cell? ⟨zT,6,none⟩ = some (.slice xk yL.length xw):=zw zQ 6
   have zcq:w3.cell? ⟨zT,7,none⟩ = some (.bool xL):=zw zQ 7
   have zQQ:=zy zQ.out 0
   have zQX:=zy zQ.out 1
   have zQJ:=zy zQ.out 2
   have zQV:=zy zQ.out 3
   have zcx:=zy zQ.out 4
   have zcj:=zy zQ.out 5
   have zcv:=zy zQ.out 6
   have zck:=zy zQ.out 7
   go_wp2_with (first | ((with_reducible refine yE (f:=10) rfl ?_);refine jg (some 12) Tryz.func10 #[.agg #[.slice xu yR.length xA]] ?_;(with_reducible refine (xq.calls k _ _ yR true _ ?yc ?yG A4.out).mono ?_);(case yc=>exact qY ((Kd.jB jA.out).2.2));(case yG=>exact (Kd.jB jA.out).2.1);rintro e w7 ⟨rfl,hb⟩;refine ⟨_,rfl,?_⟩;have zW:=zx.mk (Kd.wV (wT jA.out) hb);have zh:=zx.mk (yj (g:=zT) (o:=.cells #[.slice xu yR.length xA,.int .i64 ze,.int .i64 za,.bool yN,.bool yS,.slice yZ zY.length yQ,.slice xk yL.length xw,.bool xL] 30 (0,0)) (qV zQ.out) hb);have zo:=zx.mk (zC (zG HB.out) hb);clear jA;clear zQ;clear HB;have jA:=zW;have zQ:=zh;have HB:=zo;clear zW zh zo;(try clear hb);(try clear hk);(try clear hi)))
   go_meet
   case rel=>exact ⟨_,(true),(by first | rfl | (simp;done) | (simp [*];done)),H',⟨by first | omega | exact Nat.le_refl _⟩,⟨by (with_reducible repeat (first | apply Kd.XM | apply Kd.XO | apply Kd.Zk));exact jA.out⟩,⟨qV zQ.out⟩,⟨zG HB.out⟩⟩
  ·replace c5:=Bool.eq_false_iff.mpr c5
   subst c5
   have H1:(if (zY.length:Int) > 300 then (zB.j0 k true yR ze za yN yS zY yL xL) else (zB.j0 k (decide ((yL.length:Int) > 120)) yR ze za yN yS zY yL xL)) = some r:=by rw [if_neg (show ¬ (false = true) by decide)] at H;exact H
   clear H
   have H:=H1
   clear H1
   by_cases c8:(zY.length:Int) > 300
   ·rw [if_pos c8] at H
    have Zt:decide (300 < (zY.length:Int)) = true:=decide_eq_true c8
    have V6:decide (300 < zY.length) = true:=decide_eq_true (by omega)
    clear c8
    (first | rw [Zt] | (simp only [vU,uW];rw [Zt]) | skip)
    have H':=zx.mk H
    clear H
    have Wy:w3.cell? ⟨zT,0,none⟩ = some (.slice xu yR.length xA):=zw zQ 0
    have Ww:w3.cell? ⟨zT,1,none⟩ = some (.int .i64 ze):=zw zQ 1
    have WZ:w3.cell? ⟨zT,2,none⟩ = some (.int .i64 za):=zw zQ 2
    have WQ:w3.cell? ⟨zT,3,none⟩ = some (.bool yN):=zw zQ 3
    have dI:w3.cell? ⟨zT,4,none⟩ = some (.bool yS):=zw zQ 4
    have dL:w3.cell? ⟨zT,5,none⟩ = some (.slice yZ zY.length yQ):=zw zQ 5
    have zcy:w3.cell? ⟨zT,6,none⟩ = some (.slice xk yL.length xw):=zw zQ 6
    have zcw:w3.cell? ⟨zT,7,none⟩ = some (.bool xL):=zw zQ 7
    have WX:=zy zQ.out 0
    have WJ:=zy zQ.out 1
    have WV:=zy zQ.out 2
    have WK:=zy zQ.out 3
    have dM:=zy zQ.out 4
    have dN:=zy zQ.out 5
    have zcZ:=zy zQ.out 6
    have zcQ:=zy zQ.out 7
    go_wp2_with (first | ((with_reducible refine yE (f:=10) rfl ?_);refine jg (some 12) Tryz.func10 #[.agg #[.slice xu yR.length xA]] ?_;(with_reducible refine (xq.calls k _ _ yR false _ ?yc ?yG A4.out).mono ?_);(case yc=>exact qY ((Kd.jB jA.out).2.2));(case yG=>exact (Kd.jB jA.out).2.1);rintro e Xm ⟨rfl,hb⟩;refine ⟨_,rfl,?_⟩;have zW:=zx.mk (Kd.wV (wT jA.out) hb);have zh:=zx.mk (yj (g:=zT) (o:=.cells #[.slice xu yR.length xA,.int .i64 ze,.int .i64 za,.bool yN,.bool yS,.slice yZ zY.length yQ,.slice xk yL.length xw,.bool xL] 30 (0,0)) (qV zQ.out) hb);have zo:=zx.mk (zC (zG HB.out) hb);clear jA;clear zQ;clear HB;have jA:=zW;have zQ:=zh;have HB:=zo;clear zW zh zo;(try clear hb);(try clear hk);have WU:Xm.cell? ⟨zT,0,none⟩ = some (.slice xu yR.length xA):=zw zQ 0;have Pz:Xm.cell? ⟨zT,1,none⟩ = some (.int .i64 ze):=zw zQ 1;have Pq:Xm.cell? ⟨zT,2,none⟩ = some (.int .i64 za):=zw zQ 2;have Px:Xm.cell? ⟨zT,3,none⟩ = some (.bool yN):=zw zQ 3;have mX:Xm.cell? ⟨zT,4,none⟩ = some (.bool yS):=zw zQ 4;have mJ:Xm.cell? ⟨zT,5,none⟩ = some (.slice yZ zY.length yQ):=zw zQ 5;have zYa:Xm.cell? ⟨zT,6,none⟩ = some (.slice xk yL.length xw):=zw zQ 6;have zYb:Xm.cell? ⟨zT,7,none⟩ = some (.bool xL):=zw zQ 7;have Pj:=zy zQ.out 0;have Pv:=zy zQ.out 1;have Pk:=zy zQ.out 2;have Py:=zy zQ.out 3;have mV:=zy zQ.out 4;have mK:=zy zQ.out 5;have zYc:=zy zQ.out 6;have zYd:=zy zQ.out 7))
    go_meet
    case rel=>exact ⟨_,(true),(by first | rfl | (simp;done) | (simp [*];done)),H',⟨by first | omega | exact Nat.le_refl _⟩,⟨by (with_reducible repeat (first | apply Kd.XM | apply Kd.XO | apply Kd.Zk));exact jA.out⟩,⟨qV zQ.out⟩,⟨zG HB.out⟩⟩
   ·rw [if_neg c8] at H
    have Zt:decide (300 < (zY.length:Int)) = false:=decide_eq_false c8
    have V6:decide (300 < zY.length) = false:=decide_eq_false (by omega)
    clear c8
    (first | rw [Zt] | (simp only [vU,uW];rw [Zt]) | skip)
    have H':=zx.mk H
    clear H
    have aI:w3.cell? ⟨zT,0,none⟩ = some (.slice xu yR.length xA):=zw zQ 0
    have aM:w3.cell? ⟨zT,1,none⟩ = some (.int .i64 ze):=zw zQ 1
    have aN:w3.cell? ⟨zT,2,none⟩ = some (.int .i64 za):=zw zQ 2
    have aT:w3.cell? ⟨zT,3,none⟩ = some (.bool yN):=zw zQ 3
    have aU:w3.cell? ⟨zT,4,none⟩ = some (.bool yS):=zw zQ 4
    have fq:w3.cell? ⟨zT,5,none⟩ = some (.slice yZ zY.length yQ):=zw zQ 5
    have zYe:w3.cell? ⟨zT,6,none⟩ = some (.slice xk yL.length xw):=zw zQ 6
    have zYf:w3.cell? ⟨zT,7,none⟩ = some (.bool xL):=zw zQ 7
    have fZ:=zy zQ.out 0
    have fQ:=zy zQ.out 1
    have fJ:=zy zQ.out 2
    have fV:=zy zQ.out 3
    have fK:=zy zQ.out 4
    have fu:=zy zQ.out 5
    have zYg:=zy zQ.out 6
    have zYh:=zy zQ.out 7
    go_wp2_with (first | ((with_reducible refine yE (f:=10) rfl ?_);refine jg (some 12) Tryz.func10 #[.agg #[.slice xu yR.length xA]] ?_;(with_reducible refine (xq.calls k _ _ yR false _ ?yc ?yG A4.out).mono ?_);(case yc=>exact qY ((Kd.jB jA.out).2.2));(case yG=>exact (Kd.jB jA.out).2.1);rintro e gB ⟨rfl,hb⟩;refine ⟨_,rfl,?_⟩;have zW:=zx.mk (Kd.wV (wT jA.out) hb);have zh:=zx.mk (yj (g:=zT) (o:=.cells #[.slice xu yR.length xA,.int .i64 ze,.int .i64 za,.bool yN,.bool yS,.slice yZ zY.length yQ,.slice xk yL.length xw,.bool xL] 30 (0,0)) (qV zQ.out) hb);have zo:=zx.mk (zC (zG HB.out) hb);clear jA;clear zQ;clear HB;have jA:=zW;have zQ:=zh;have HB:=zo;clear zW zh zo;(try clear hb);(try clear hk);have UY:gB.cell? ⟨zT,0,none⟩ = some (.slice xu yR.length xA):=zw zQ 0;have UW:gB.cell? ⟨zT,1,none⟩ = some (.int .i64 ze):=zw zQ 1;have Ua:gB.cell? ⟨zT,2,none⟩ = some (.int .i64 za):=zw zQ 2;have Ub:gB.cell? ⟨zT,3,none⟩ = some (.bool yN):=zw zQ 3;have Uc:gB.cell? ⟨zT,4,none⟩ = some (.bool yS):=zw zQ 4;have Ud:gB.cell? ⟨zT,5,none⟩ = some (.slice yZ zY.length yQ):=zw zQ 5;have zzi:gB.cell? ⟨zT,6,none⟩ = some (.slice xk yL.length xw):=zw zQ 6;have zYi:gB.cell? ⟨zT,7,none⟩ = some (.bool xL):=zw zQ 7;have Ue:=zy zQ.out 0;have Uf:=zy zQ.out 1;have Ug:=zy zQ.out 2;have Uh:=zy zQ.out 3;have Ui:=zy zQ.out 4;have Ul:=zy zQ.out 5;have zzl:=zy zQ.out 6;have zYl:=zy zQ.out 7))
    go_meet
    case rel=>exact ⟨_,(decide ((yL.length:Int) > 120)),(by first | rfl | (simp;done) | (simp [*];done)),H',⟨by first | omega | exact Nat.le_refl _⟩,⟨by (with_reducible repeat (first | apply Kd.XM | apply Kd.XO | apply Kd.Zk));exact jA.out⟩,⟨qV zQ.out⟩,⟨zG HB.out⟩⟩
 case rest =>
  clear HC2
  try clear c5
  try clear c8
  try clear Zt
  try clear V6
  try clear WU
  try clear Pz
  try clear Pq
  try clear Px
  try clear mX
  try clear mJ
  try clear zYa
  try clear zYb
  try clear aI
  try clear aM
  try clear aN
  try clear aT
  try clear aU
  try clear fq
  try clear zYe
  try clear zYf
  try clear UY
  try clear UW
  try clear Ua
  try clear Ub
  try clear Uc
  try clear Ud
  try clear zzi
  try clear zYi
  try clear zQk
  try clear zQy
  try clear zQw
  try clear zQZ
  try clear zb8
  try clear zb9
  try clear zcz
  try clear zcq
  try clear Wy
  try clear Ww
  try clear WZ
  try clear WQ
  try clear dI
  try clear dL
  try clear zcy
  try clear zcw
  try clear Pj
  try clear Pv
  try clear Pk
  try clear Py
  try clear mV
  try clear mK
  try clear zYc
  try clear zYd
  try clear fZ
  try clear fQ
  try clear fJ
  try clear fV
  try clear fK
  try clear fu
  try clear zYg
  try clear zYh
  try clear Ue
  try clear Uf
  try clear Ug
  try clear Uh
  try clear Ui
  try clear Ul
  try clear zzl
  try clear zYl
  try clear zQQ
  try clear zQX
  try clear zQJ
  try clear zQV
  try clear zcx
  try clear zcj
  try clear zcv
  try clear zck
  try clear WX
  try clear WJ
  try clear WV
  try clear WK
  try clear dM
  try clear dN
  try clear zcZ
  try clear zcQ
  obtain ⟨kq,zwl,rfl,HA,HJ1,yg,zQ,HB⟩:=hcut
  cases kq with
  | zero=>exact absurd HA.out (by simp [zB.j0])
  | succ kj1 =>
   have H:=HA.out
   clear HA
   simp only [zB.j0] at H
   by_cases c15:zwl = true
   ·subst c15
    have H1:((xO.f).bind fun zy1=>(some zy1)) = some r:=by rw [if_pos rfl] at H;exact H
    clear H
    have H:=H1
    clear H1
    replace H:=Option.bind_eq_some_iff.mp H
    obtain ⟨zy1,zmN,H⟩:=H
    replace H:(some zy1) = some r:=H
    have A16:=zx.mk zmN
    clear zmN
    obtain rfl:=Option.some.inj H
    go_wp2_with (first | ((with_reducible refine yE (f:=11) rfl ?_);refine jg (some 25) Tryz.func11 #[] ?_;(with_reducible refine (xO.calls  zy1 _ ?yc A16.out).mono ?_);(case yc=>exact GW.under HG.out (zG HB.out));rintro e Vn ⟨rfl,hb⟩;refine ⟨_,rfl,?_⟩;have zW:=zx.mk (Kd.wV (wT yg.out) hb);have zh:=zx.mk (yj (g:=zT) (o:=.cells #[.slice xu yR.length xA,.int .i64 ze,.int .i64 za,.bool yN,.bool yS,.slice yZ zY.length yQ,.slice xk yL.length xw,.bool xL] 30 (0,0)) (qV zQ.out) hb);have zo:=zx.mk (zC (zG HB.out) hb);clear yg;clear zQ;clear HB;have yg:=zW;have zQ:=zh;have HB:=zo;clear zW zh zo;(try clear hb);(try clear hk);(try clear hi)))
    go_ret
    exact ⟨by first | rfl | (simp [zH,zI] <;> rfl) | (simp [*,zH,zI] <;> rfl),by repeat (first | (with_reducible first | exact HB.out | apply yX | apply zL | apply zR | refine qK ?_ zvS.out) | exact HB.out)⟩
   ·replace c15:=Bool.eq_false_iff.mpr c15
    subst c15
    have H1:((pE.f yR).bind fun zq2=>(if xL = true then (zB.j1 kj1 yR yR ze za yN yS zY yL xL) else (zB.j1 kj1 zq2 yR ze za yN yS zY yL xL))) = some r:=by rw [if_neg (show ¬ (false = true) by decide)] at H;exact H
    clear H
    have H:=H1
    clear H1
    replace H:=Option.bind_eq_some_iff.mp H
    obtain ⟨zq2,zmO,H⟩:=H
    replace H:(if xL = true then (zB.j1 kj1 yR yR ze za yN yS zY yL xL) else (zB.j1 kj1 zq2 yR ze za yN yS zY yL xL)) = some r:=H
    have A18:=zx.mk zmO
    clear zmO
    have zeI:=zx.mk H
    clear H
    have fA:wc.cell? ⟨zT,0,none⟩ = some (.slice xu yR.length xA):=zw zQ 0
    have fB:wc.cell? ⟨zT,1,none⟩ = some (.int .i64 ze):=zw zQ 1
    have fC:wc.cell? ⟨zT,2,none⟩ = some (.int .i64 za):=zw zQ 2
    have fD:wc.cell? ⟨zT,3,none⟩ = some (.bool yN):=zw zQ 3
    have fE:wc.cell? ⟨zT,4,none⟩ = some (.bool yS):=zw zQ 4
    have fF:wc.cell? ⟨zT,5,none⟩ = some (.slice yZ zY.length yQ):=zw zQ 5
    have zxF:wc.cell? ⟨zT,6,none⟩ = some (.slice xk yL.length xw):=zw zQ 6
    have zij:wc.cell? ⟨zT,7,none⟩ = some (.bool xL):=zw zQ 7
    have fG:=zy zQ.out 0
    have fH:=zy zQ.out 1
    have fI:=zy zQ.out 2
    have fM:=zy zQ.out 3
    have fO:=zy zQ.out 4
    have fP:=zy zQ.out 5
    have zxG:=zy zQ.out 6
    have ziv:=zy zQ.out 7
    go_upto_if 30 with (first | ((with_reducible refine yE (f:=12) rfl ?_);refine jg (some 28) Tryz.func12 #[.agg #[.slice xu yR.length xA]] ?_;(with_reducible refine (pE.calls (fun k_=>((wh k_ ∨ w.heap.size ≤ k_) ∧ k_ ≠ zT)) _ _ yR zq2 _ ?yc ?yG A18.out).mono ?_);(case yc=>exact yg.out);(case yG=>exact GW.under HG.out (zG HB.out));rintro e WB ⟨zFx,rfl,ho0,hb⟩;refine ⟨_,rfl,?_⟩;have zW:=zx.mk (Kd.YD (wT yg.out) (Kd.ziD ho0) hb);have zh:=zx.mk (Kd.ZE (Kd.kE (ok':=fun k_=>(wh k_ ∨ w.heap.size ≤ k_) ∧ k_ ≠ zT) ho0 (fun k_ uJ=>⟨Or.elim uJ (fun hs_=>hs_.1) (fun hn_=>(.inr (Nat.le_trans (zf (zG HB.out)) hn_))),Or.elim uJ (fun hs_=>hs_.2) (fun hn_=>(Kd.Z4 (g:=zT) (o:=.cells #[.slice xu yR.length xA,.int .i64 ze,.int .i64 za,.bool yN,.bool yS,.slice yZ zY.length yQ,.slice xk yL.length xw,.bool xL] 30 (0,0)) (qV zQ.out) k_ hn_))⟩)) (zf (zG HB.out)));have zo:=zx.mk (yj (g:=zT) (o:=.cells #[.slice xu yR.length xA,.int .i64 ze,.int .i64 za,.bool yN,.bool yS,.slice yZ zY.length yQ,.slice xk yL.length xw,.bool xL] 30 (0,0)) (qV zQ.out) hb);have zM:=zx.mk (zC (zG HB.out) hb);clear yg;clear zQ;clear HB;have yg:=zW;have zp8:=zh;have zQ:=zo;have HB:=zM;clear zW zh zo zM;(try clear hb);(try clear hk);(try clear ho0);have nL:WB.cell? ⟨zT,0,none⟩ = some (.slice xu yR.length xA):=zw zQ 0;have nM:WB.cell? ⟨zT,1,none⟩ = some (.int .i64 ze):=zw zQ 1;have nN:WB.cell? ⟨zT,2,none⟩ = some (.int .i64 za):=zw zQ 2;have nO:WB.cell? ⟨zT,3,none⟩ = some (.bool yN):=zw zQ 3;have zxH:WB.cell? ⟨zT,4,none⟩ = some (.bool yS):=zw zQ 4;have zxI:WB.cell? ⟨zT,5,none⟩ = some (.slice yZ zY.length yQ):=zw zQ 5;have zxL:WB.cell? ⟨zT,6,none⟩ = some (.slice xk yL.length xw):=zw zQ 6;have zik:WB.cell? ⟨zT,7,none⟩ = some (.bool xL):=zw zQ 7;have nP:=zy zQ.out 0;have nR:=zy zQ.out 1;have nS:=zy zQ.out 2;have nT:=zy zQ.out 3;have zxM:=zy zQ.out 4;have zxN:=zy zQ.out 5;have zxO:=zy zQ.out 6;have ziy:=zy zQ.out 7))
    (try simp only [Act.put,List.setIfInBounds_toArray,List.set_cons_zero,List.set_cons_succ])
    go_cut [3] (fun v3 wc=>∃ (kq:Nat) (ZN:List (kK)),zx (zB.j1 kq ZN yR ze za yN yS zY yL xL = some r) ∧ zx (kq ≤ kj1) ∧ zx (Kd.V pV 60 wc w.heap.size (fun k_=>(wh k_ ∨ w.heap.size ≤ k_) ∧ k_ ≠ zT) v3 ZN) ∧ zx (Kd.V pV 60 wc w.heap.size (fun k_=>(wh k_ ∨ w.heap.size ≤ k_) ∧ k_ ≠ zT) (.slice xu yR.length xA) yR) ∧ zx (wc.heap[zT]? = some (.cells #[(.slice xu yR.length xA),.int .i64 ze,.int .i64 za,.bool yN,.bool yS,(.slice yZ zY.length yQ),(.slice xk yL.length xw),.bool xL] 30 (0,0))) ∧ zx (Below w.heap.size w wc))
    case first =>
     have H:=zeI.out
     clear zeI
     by_cases c23:xL = true
     ·subst c23
      have H1:(zB.j1 kj1 yR yR ze za yN yS zY yL true) = some r:=by rw [if_pos rfl] at H;exact H
      clear H
      have H:=H1
      clear H1
      have H':=zx.mk H
      clear H
      have zk6:WB.cell? ⟨zT,0,none⟩ = some (.slice xu yR.length xA):=zw zQ 0
      have zk7:WB.cell? ⟨zT,1,none⟩ = some (.int .i64 ze):=zw zQ 1
      have zk8:WB.cell? ⟨zT,2,none⟩ = some (.int .i64 za):=zw zQ 2
      have zk9:WB.cell? ⟨zT,3,none⟩ = some (.bool yN):=zw zQ 3
      have ziw:WB.cell? ⟨zT,4,none⟩ = some (.bool yS):=zw zQ 4
      have ziZ:WB.cell? ⟨zT,5,none⟩ = some (.slice yZ zY.length yQ):=zw zQ 5
      have ziQ:WB.cell? ⟨zT,6,none⟩ = some (.slice xk yL.length xw):=zw zQ 6
      have ziX:WB.cell? ⟨zT,7,none⟩ = some (.bool true):=zw zQ 7
      have zyz:=zy zQ.out 0
      have zyq:=zy zQ.out 1
      have zyx:=zy zQ.out 2
      have zyj:=zy zQ.out 3
      have ziJ:=zy zQ.out 4
      have ziV:=zy zQ.out 5
      have ziK:=zy zQ.out 6
      have ziY:=zy zQ.out 7
      go_wp2
      go_meet
      case rel=>exact ⟨_,(yR),H',⟨by have:=HJ1.out;first | omega | exact Nat.le_refl _⟩,⟨by (with_reducible repeat (first | apply Kd.XM | apply Kd.XO | apply Kd.Zk));exact Kd.wL yg.out (fun _ hk=>⟨hk.1.1,hk.1.2⟩)⟩,⟨by (with_reducible repeat (first | apply Kd.XM | apply Kd.XO | apply Kd.Zk));exact Kd.wL yg.out (fun _ hk=>⟨hk.1.1,hk.1.2⟩)⟩,⟨qV zQ.out⟩,⟨zG HB.out⟩⟩
     ·replace c23:=Bool.eq_false_iff.mpr c23
      subst c23
      have H1:(zB.j1 kj1 zq2 yR ze za yN yS zY yL false) = some r:=by rw [if_neg (show ¬ (false = true) by decide)] at H;exact H
      clear H
      have H:=H1
      clear H1
      have H':=zx.mk H
      clear H
      go_wp2
      go_meet
      case rel=>exact ⟨_,(zq2),H',⟨by have:=HJ1.out;first | omega | exact Nat.le_refl _⟩,⟨Kd.N_V (pK zp8.out)⟩,⟨by (with_reducible repeat (first | apply Kd.XM | apply Kd.XO | apply Kd.Zk));exact Kd.wL yg.out (fun _ hk=>⟨hk.1.1,hk.1.2⟩)⟩,⟨qV zQ.out⟩,⟨zG HB.out⟩⟩
    case rest =>
     clear zeI
     try clear c5
     try clear c8
     try clear Zt
     try clear V6
     try clear c15
     try clear c23
     try clear WU
     try clear Pz
     try clear Pq
     try clear Px
     try clear mX
     try clear mJ
     try clear zYa
     try clear zYb
     try clear aI
     try clear aM
     try clear aN
     try clear aT
     try clear aU
     try clear fq
     try clear zYe
     try clear zYf
     try clear UY
     try clear UW
     try clear Ua
     try clear Ub
     try clear Uc
     try clear Ud
     try clear zzi
     try clear zYi
     try clear fA
     try clear fB
     try clear fC
     try clear fD
     try clear fE
     try clear fF
     try clear zxF
     try clear zij
     try clear nL
     try clear nM
     try clear nN
     try clear nO
     try clear zxH
     try clear zxI
     try clear zxL
     try clear zik
     try clear zk6
     try clear zk7
     try clear zk8
     try clear zk9
     try clear ziw
     try clear ziZ
     try clear ziQ
     try clear ziX
     try clear zQk
     try clear zQy
     try clear zQw
     try clear zQZ
     try clear zb8
     try clear zb9
     try clear zcz
     try clear zcq
     try clear Wy
     try clear Ww
     try clear WZ
     try clear WQ
     try clear dI
     try clear dL
     try clear zcy
     try clear zcw
     try clear Pj
     try clear Pv
     try clear Pk
     try clear Py
     try clear mV
     try clear mK
     try clear zYc
     try clear zYd
     try clear fZ
     try clear fQ
     try clear fJ
     try clear fV
     try clear fK
     try clear fu
     try clear zYg
     try clear zYh
     try clear Ue
     try clear Uf
     try clear Ug
     try clear Uh
     try clear Ui
     try clear Ul
     try clear zzl
     try clear zYl
     try clear fG
     try clear fH
     try clear fI
     try clear fM
     try clear fO
     try clear fP
     try clear zxG
     try clear ziv
     try clear nP
     try clear nR
     try clear nS
     try clear nT
     try clear zxM
     try clear zxN
     try clear zxO
     try clear ziy
     try clear zyz
     try clear zyq
     try clear zyx
     try clear zyj
     try clear ziJ
     try clear ziV
     try clear ziK
     try clear ziY
     try clear zQQ
     try clear zQX
     try clear zQJ
     try clear zQV
     try clear zcx
     try clear zcj
     try clear zcv
     try clear zck
     try clear WX
     try clear WJ
     try clear WV
     try clear WK
     try clear dM
     try clear dN
     try clear zcZ
     try clear zcQ
     obtain ⟨kq,ZN,HA,zFj,y9,yg,zQ,HB⟩:=hcut
     cases kq with
     | zero=>exact absurd HA.out (by simp [zB.j1])
     | succ Zh =>
      have H:=HA.out
      clear HA
      simp only [zB.j1] at H
      replace H:=Option.bind_eq_some_iff.mp H
      obtain ⟨⟨gY,sM,dw⟩,zZR,H⟩:=H
      replace H:((zl.f Zh ZN).bind fun Yl=>((je.f ze za yN yS).bind fun Ql=>((zA.f Zh Yl Ql.1 Ql.2.1 Ql.2.2.1 Ql.2.2.2 zY yL).bind fun XB=>(if dw = XB.2.2 then ((qL.f Zh sM XB.2.1).bind fun gK=>(if gK = true then ((yO.f Zh gY XB.1).bind fun Vu=>(if Vu = true then ((xO.f).bind fun Xi=>(some Xi)) else (some false))) else (some false))) else (some false))))) = some r:=H
      have A25:=zx.mk zZR
      clear zZR
      replace H:=Option.bind_eq_some_iff.mp H
      obtain ⟨Yl,zmP,H⟩:=H
      replace H:((je.f ze za yN yS).bind fun Ql=>((zA.f Zh Yl Ql.1 Ql.2.1 Ql.2.2.1 Ql.2.2.2 zY yL).bind fun XB=>(if dw = XB.2.2 then ((qL.f Zh sM XB.2.1).bind fun gK=>(if gK = true then ((yO.f Zh gY XB.1).bind fun Vu=>(if Vu = true then ((xO.f).bind fun Xi=>(some Xi)) else (some false))) else (some false))) else (some false)))) = some r:=H
      have A26:=zx.mk zmP
      clear zmP
      replace H:=Option.bind_eq_some_iff.mp H
      obtain ⟨⟨dZ,dQ,dX,dJ⟩,zZS,H⟩:=H
      replace H:((zA.f Zh Yl dZ dQ dX dJ zY yL).bind fun XB=>(if dw = XB.2.2 then ((qL.f Zh sM XB.2.1).bind fun gK=>(if gK = true then ((yO.f Zh gY XB.1).bind fun Vu=>(if Vu = true then ((xO.f).bind fun Xi=>(some Xi)) else (some false))) else (some false))) else (some false))) = some r:=H
      have A27:=zx.mk zZS
      clear zZS
      replace H:=Option.bind_eq_some_iff.mp H
      obtain ⟨⟨zqJ,zq3,aV⟩,zmR,H⟩:=H
      replace H:(if dw = aV then ((qL.f Zh sM zq3).bind fun gK=>(if gK = true then ((yO.f Zh gY zqJ).bind fun Vu=>(if Vu = true then ((xO.f).bind fun Xi=>(some Xi)) else (some false))) else (some false))) else (some false)) = some r:=H
      have A28:=zx.mk zmR
      clear zmR
      by_cases c29:dw = aV
      ·rw [if_pos c29] at H
       have zfv:(dw == aV) = true:=beq_iff_eq.mpr c29
       have zp9:(dw != aV) = false:=bne_eq_false_iff_eq.mpr c29
       clear c29
       replace H:=Option.bind_eq_some_iff.mp H
       obtain ⟨gK,zmS,H⟩:=H
       replace H:(if gK = true then ((yO.f Zh gY zqJ).bind fun Vu=>(if Vu = true then ((xO.f).bind fun Xi=>(some Xi)) else (some false))) else (some false)) = some r:=H
       have A30:=zx.mk zmS
       clear zmS
       by_cases c31:gK = true
       ·subst c31
        have H1:((yO.f Zh gY zqJ).bind fun Vu=>(if Vu = true then ((xO.f).bind fun Xi=>(some Xi)) else (some false))) = some r:=by rw [if_pos rfl] at H;exact H
        clear H
        have H:=H1
        clear H1
        replace H:=Option.bind_eq_some_iff.mp H
        obtain ⟨Vu,zZT,H⟩:=H
        replace H:(if Vu = true then ((xO.f).bind fun Xi=>(some Xi)) else (some false)) = some r:=H
        have A32:=zx.mk zZT
        clear zZT
        by_cases J9:Vu = true
        ·subst J9
         have H1:((xO.f).bind fun Xi=>(some Xi)) = some r:=by rw [if_pos rfl] at H;exact H
         clear H
         have H:=H1
         clear H1
         replace H:=Option.bind_eq_some_iff.mp H
         obtain ⟨Xi,zZU,H⟩:=H
         replace H:(some Xi) = some r:=H
         have A34:=zx.mk zZU
         clear zZU
         obtain rfl:=Option.some.inj H
         have zA6:wc.cell? ⟨zT,0,none⟩ = some (.slice xu yR.length xA):=zw zQ 0
         have zA7:wc.cell? ⟨zT,1,none⟩ = some (.int .i64 ze):=zw zQ 1
         have zA8:wc.cell? ⟨zT,2,none⟩ = some (.int .i64 za):=zw zQ 2
         have zA9:wc.cell? ⟨zT,3,none⟩ = some (.bool yN):=zw zQ 3
         have zBz:wc.cell? ⟨zT,4,none⟩ = some (.bool yS):=zw zQ 4
         have zBq:wc.cell? ⟨zT,5,none⟩ = some (.slice yZ zY.length yQ):=zw zQ 5
         have zBx:wc.cell? ⟨zT,6,none⟩ = some (.slice xk yL.length xw):=zw zQ 6
         have zBj:wc.cell? ⟨zT,7,none⟩ = some (.bool xL):=zw zQ 7
         have zBv:=zy zQ.out 0
         have zBk:=zy zQ.out 1
         have zBy:=zy zQ.out 2
         have zBw:=zy zQ.out 3
         have zBZ:=zy zQ.out 4
         have zBQ:=zy zQ.out 5
         have zBX:=zy zQ.out 6
         have zBJ:=zy zQ.out 7
         obtain ⟨zmT,zmU,zty⟩:=Kd.zxq y9.out
         subst zty
         try go_wp2_with (first | ((with_reducible refine yE (f:=13) rfl ?_);refine jg (some 42) Tryz.func13 #[.slice zmT ZN.length zmU,.agg #[.int .i64 ze,.int .i64 za,.bool yN,.bool yS],.slice yZ zY.length yQ,.slice xk yL.length xw] ?_;(with_reducible refine (uP.calls _ _ ZN ze za yN yS _ _ zY _ _ yL gY sM dw _ ?yc ?yG ?qZ ?qQ ?qB ?qC ?j4 A25.out).mono ?_);(case yc=>exact qY ((Kd.jB y9.out).2.2));(case yG=>exact (Kd.jB y9.out).2.1);(case qZ=>exact qY (Kd.zm uD.out HB.out));(case qQ=>exact jh.out);(case qB=>exact qY (Kd.zm Ws.out HB.out));(case qC=>exact gM.out);(case j4=>exact GW.under HG.out (zG HB.out));rintro e w37 ⟨sN,Ux,rfl,ho0,ho1,hb⟩;refine ⟨_,rfl,?_⟩;have zW:=zx.mk (Kd.wL (Kd.jV (Kd.jV (Kd.YM (wT y9.out) hb) (Kd.um ho0)) (Kd.ug ho1)) (fun _ h_=>h_.1));have zh:=zx.mk (Kd.wL (Kd.jV (Kd.jV (Kd.YM (wT yg.out) hb) (Kd.um ho0)) (Kd.ug ho1)) (fun _ h_=>h_.1));have zo:=zx.mk (Kd.ZE (Kd.kE (ok':=fun k_=>(wh k_ ∨ w.heap.size ≤ k_) ∧ some k_ ≠ (Ux:Value).ownBlock ∧ k_ ≠ zT) (Kd.aC (Kd.Zd (Kd.Qn ho0 (Kd.YZ ho1) (by decide)))) (fun k_ uJ=>⟨(.inr (Nat.le_trans (zf (zG HB.out)) uJ.2.1)),uJ.1.2,(Kd.Z4 (g:=zT) (o:=.cells #[.slice xu yR.length xA,.int .i64 ze,.int .i64 za,.bool yN,.bool yS,.slice yZ zY.length yQ,.slice xk yL.length xw,.bool xL] 30 (0,0)) (qV zQ.out) k_ uJ.2.1)⟩)) (zf (zG HB.out)));have zM:=zx.mk (Kd.uI (Kd.dG (M:=fun k_=>(w.heap.size ≤ k_)) ho1 (zf (zG HB.out)) (fun k_ h_=>h_)) (zf (zG HB.out)));have qw:=zx.mk (yj (g:=zT) (o:=.cells #[.slice xu yR.length xA,.int .i64 ze,.int .i64 za,.bool yN,.bool yS,.slice yZ zY.length yQ,.slice xk yL.length xw,.bool xL] 30 (0,0)) (qV zQ.out) hb);have xE:=zx.mk (zC (zG HB.out) hb);clear y9;clear yg;clear zQ;clear HB;have y9:=zW;have yg:=zh;have qO:=zo;have qD:=zM;have zQ:=qw;have HB:=xE;clear zW zh zo zM qw xE;(try clear hb);(try clear hk);(try clear ho0);(try clear ho1)))
         have zW:=zx.mk (Kd.Zk y9.out)
         have zh:=zx.mk (Kd.Zk yg.out)
         have zo:=zx.mk (Kd.rA qO.out)
         have zM:=zx.mk (Kd.uw qD.out)
         have qw:=zx.mk (xV zQ.out)
         have xE:=zx.mk (zR HB.out)
         clear y9 yg qO qD zQ HB
         have y9:=zW
         have yg:=zh
         have qO:=zo
         have qD:=zM
         have zQ:=qw
         have HB:=xE
         clear zW zh zo zM qw xE
         refine jr (n:=17) (S:=fun w'=>w'.cell? ⟨zT,0,none⟩ = some (.slice xu yR.length xA) ∧ w'.cell? ⟨zT,1,none⟩ = some (.int .i64 ze) ∧ w'.cell? ⟨zT,2,none⟩ = some (.int .i64 za) ∧ w'.cell? ⟨zT,3,none⟩ = some (.bool yN) ∧ w'.cell? ⟨zT,4,none⟩ = some (.bool yS) ∧ w'.cell? ⟨zT,5,none⟩ = some (.slice yZ zY.length yQ) ∧ w'.cell? ⟨zT,6,none⟩ = some (.slice xk yL.length xw) ∧ w'.cell? ⟨zT,7,none⟩ = some (.bool xL)) (ds:=[]) #[false,false,false,false,false,false,false,false,false,false,false,false,false,false,false,false,false] (by kernel_rfl) rfl rfl ⟨zw zQ 0,zw zQ 1,zw zQ 2,zw zQ 3,zw zQ 4,zw zQ 5,zw zQ 6,zw zQ 7⟩ (fun hHeld=>?_);refine uT zB.zjn zB.zz8 (fun zi vD=>?_)
         generalize w37.drew = w38 at y9 yg qO qD zQ HB hHeld ⊢
         refine yu 0 (some 47) zi ?_
         refine yu 2 (some 49) zi ?_
         refine yu 5 (some 52) zi ?_
         refine yu 7 (some 54) zi ?_
         refine jK 3 (some 50) zi vD hHeld ?_
         refine jK 6 (some 53) zi vD hHeld ?_
         refine jK 8 (some 55) zi vD hHeld ?_
         refine Zr 1 (some 48) zi (fun K hK=>?_)
         refine wS Tryz.func15 (by kernel_rfl) rfl #[.slice zmT ZN.length zmU] (by rfl) rfl rfl (by (try simp only [List.map_toArray,List.map_cons,List.map_nil]);first | done | rfl | (simp only [List.length_drop,List.length_take];rfl)) ?_
         with_reducible refine (zl.calls Zh _ _ ZN Yl _ ?yc ?yG A26.out).mono ?_
         (case yc=>exact qY ((Kd.jB y9.out).2.2))
         (case yG=>exact (Kd.jB y9.out).2.1)
         rintro e w39 ⟨zeL,rfl,ho0,hb⟩
         refine ⟨_,rfl,?_⟩
         have zW:=zx.mk (Kd.YD (wT y9.out) (Kd.um ho0) hb)
         have zh:=zx.mk (Kd.YD (wT yg.out) (Kd.um ho0) hb)
         have zo:=zx.mk (Kd.zzR (pK qO.out) (Kd.um ho0) hb)
         have zM:=zx.mk (Kd.xI (vQ qD.out) hb)
         have qw:=zx.mk (Kd.ZE (Kd.kE (ok':=fun k_=>(wh k_ ∨ w.heap.size ≤ k_) ∧ some k_ ≠ (sN:Value).ownBlock ∧ some k_ ≠ (Ux:Value).ownBlock ∧ k_ ≠ zT) (Kd.aC (Kd.Zd ho0)) (fun k_ uJ=>⟨(.inr (Nat.le_trans (zf (zG HB.out)) uJ.2.1)),(Kd.fresh' (Kd.WH (pK qO.out)) k_ uJ.2.1),(Kd.fresh' (Kd.YB (vQ qD.out)) k_ uJ.2.1),(Kd.Z4 (g:=zT) (o:=.cells #[.slice xu yR.length xA,.int .i64 ze,.int .i64 za,.bool yN,.bool yS,.slice yZ zY.length yQ,.slice xk yL.length xw,.bool xL] 30 (0,0)) (qV zQ.out) k_ uJ.2.1)⟩)) (zf (zG HB.out)))
         have xE:=zx.mk (yj (g:=zT) (o:=.cells #[.slice xu yR.length xA,.int .i64 ze,.int .i64 za,.bool yN,.bool yS,.slice yZ zY.length yQ,.slice xk yL.length xw,.bool xL] 30 (0,0)) (qV zQ.out) hb)
         have jU:=zx.mk (zC (zG HB.out) hb)
         clear y9 yg qO qD zQ HB
         have y9:=zW
         have yg:=zh
         have qO:=zo
         have qD:=zM
         have vM:=qw
         have zQ:=xE
         have HB:=jU
         clear zW zh zo zM qw xE jU
         (try clear hb)
         (try clear hk)
         (try clear ho0)
         refine hK.out _ _ ⟨zw zQ 0,zw zQ 1,zw zQ 2,zw zQ 3,zw zQ 4,zw zQ 5,zw zQ 6,zw zQ 7⟩ (fun hHeld=>?_)
         clear hK K
         refine ZF (some 48) ?_
         refine Zr 4 (some 51) zi (fun K hK=>?_)
         refine wS Tryz.func16 (by kernel_rfl) rfl #[.agg #[.int .i64 ze,.int .i64 za,.bool yN,.bool yS]] (by rfl) rfl rfl (by (try simp only [List.map_toArray,List.map_cons,List.map_nil]);first | done | rfl | (simp only [List.length_drop,List.length_take];rfl)) ?_
         with_reducible refine (je.calls ze za yN yS dZ dQ dX dJ _ A27.out).mono ?_
         rintro e w40 ⟨rfl,hb⟩
         refine ⟨_,rfl,?_⟩
         have zW:=zx.mk (Kd.wV (wT y9.out) hb)
         have zh:=zx.mk (Kd.wV (wT yg.out) hb)
         have zo:=zx.mk (Kd.kW (pK qO.out) hb)
         have zM:=zx.mk (Kd.xI (vQ qD.out) hb)
         have qw:=zx.mk (Kd.kW (pK vM.out) hb)
         have xE:=zx.mk (yj (g:=zT) (o:=.cells #[.slice xu yR.length xA,.int .i64 ze,.int .i64 za,.bool yN,.bool yS,.slice yZ zY.length yQ,.slice xk yL.length xw,.bool xL] 30 (0,0)) (qV zQ.out) hb)
         have jU:=zx.mk (zC (zG HB.out) hb)
         clear y9 yg qO qD vM zQ HB
         have y9:=zW
         have yg:=zh
         have qO:=zo
         have qD:=zM
         have vM:=qw
         have zQ:=xE
         have HB:=jU
         clear zW zh zo zM qw xE jU
         (try clear hb)
         (try clear hk)
         obtain ⟨zm0,zm1,zm2⟩:=Kd.QD vM.out
         (first | subst zm2 | (injection zm2 with Jb iX Jc;have iJ:=Jb.symm;have iV:=Jc.symm;clear Jb iX Jc;subst iJ;subst iV))
         refine hK.out _ _ ⟨zw zQ 0,zw zQ 1,zw zQ 2,zw zQ 3,zw zQ 4,zw zQ 5,zw zQ 6,zw zQ 7⟩ (fun hHeld=>?_)
         clear hK K
         refine ZF (some 51) ?_
         refine Zr 9 (some 56) zi (fun K hK=>?_)
         refine wS Tryz.func14 (by kernel_rfl) rfl #[.slice zm0 Yl.length zm1,.agg #[.int .i64 dZ,.int .i64 dQ,.bool dX,.bool dJ],.slice yZ zY.length yQ,.slice xk yL.length xw] (by rfl) rfl rfl (by (try simp only [List.map_toArray,List.map_cons,List.map_nil]);first | done | rfl | (simp only [List.length_drop,List.length_take];rfl)) ?_
         with_reducible refine (zA.calls Zh _ _ Yl dZ dQ dX dJ _ _ zY _ _ yL zqJ zq3 aV _ ?yc ?yG ?qZ ?qQ ?qB ?qC A28.out).mono ?_
         (case yc=>exact qY ((Kd.kR vM.out).2.2))
         (case yG=>exact (Kd.kR vM.out).2.1)
         (case qZ=>exact qY (Kd.zm uD.out HB.out))
         (case qQ=>exact jh.out)
         (case qB=>exact qY (Kd.zm Ws.out HB.out))
         (case qC=>exact gM.out)
         rintro e w42 ⟨zeM,zj4,rfl,ho0,ho1,hb⟩
         refine ⟨_,rfl,?_⟩
         have zW:=zx.mk (Kd.wL (Kd.jV (Kd.jV (Kd.YM (wT y9.out) hb) (Kd.um ho0)) (Kd.ug ho1)) (fun _ h_=>h_.1))
         have zh:=zx.mk (Kd.wL (Kd.jV (Kd.jV (Kd.YM (wT yg.out) hb) (Kd.um ho0)) (Kd.ug ho1)) (fun _ h_=>h_.1))
         have zo:=zx.mk (Kd.kE (Kd.Z5 (Kd.Z5 (Kd.tZ (pK qO.out) hb) (Kd.um ho0)) (Kd.ug ho1)) (fun _ h_=>h_.1))
         have zM:=zx.mk (Kd.ZP (vQ qD.out) (Kd.ug ho1) hb)
         have qw:=zx.mk (Kd.kE (Kd.Z5 (Kd.Z5 (Kd.tZ (pK vM.out) hb) (Kd.um ho0)) (Kd.ug ho1)) (fun _ h_=>h_.1))
         have xE:=zx.mk (Kd.ZE (Kd.kE (ok':=fun k_=>(wh k_ ∨ w.heap.size ≤ k_) ∧ some k_ ≠ (zj4:Value).ownBlock ∧ some k_ ≠ (sN:Value).ownBlock ∧ some k_ ≠ (Ux:Value).ownBlock ∧ some k_ ≠ (.slice zm0 Yl.length zm1:Value).ownBlock ∧ k_ ≠ zT) (Kd.aC (Kd.Zd (Kd.Qn ho0 (Kd.YZ ho1) (by decide)))) (fun k_ uJ=>⟨(.inr (Nat.le_trans (zf (zG HB.out)) uJ.2.1)),uJ.1.2,(Kd.fresh' (Kd.WH (pK qO.out)) k_ uJ.2.1),(Kd.fresh' (Kd.YB (vQ qD.out)) k_ uJ.2.1),(Kd.fresh' (Kd.WH (pK vM.out)) k_ uJ.2.1),(Kd.Z4 (g:=zT) (o:=.cells #[.slice xu yR.length xA,.int .i64 ze,.int .i64 za,.bool yN,.bool yS,.slice yZ zY.length yQ,.slice xk yL.length xw,.bool xL] 30 (0,0)) (qV zQ.out) k_ uJ.2.1)⟩)) (zf (zG HB.out)))
         have jU:=zx.mk (Kd.uI (Kd.XD (Kd.dG (M:=fun k_=>(w.heap.size ≤ k_)) ho1 (zf (zG HB.out)) (fun k_ h_=>h_)) (Kd.YB (vQ qD.out))) (zf (zG HB.out)))
         have KU:=zx.mk (yj (g:=zT) (o:=.cells #[.slice xu yR.length xA,.int .i64 ze,.int .i64 za,.bool yN,.bool yS,.slice yZ zY.length yQ,.slice xk yL.length xw,.bool xL] 30 (0,0)) (qV zQ.out) hb)
         have K8:=zx.mk (zC (zG HB.out) hb)
         clear y9 yg qO qD vM zQ HB
         have y9:=zW
         have yg:=zh
         have qO:=zo
         have qD:=zM
         have vM:=qw
         have Yh:=xE
         have Zn:=jU
         have zQ:=KU
         have HB:=K8
         clear zW zh zo zM qw xE jU KU K8
         (try clear hb)
         (try clear hk)
         (try clear ho0)
         (try clear ho1)
         refine hK.out _ _ ⟨zw zQ 0,zw zQ 1,zw zQ 2,zw zQ 3,zw zQ 4,zw zQ 5,zw zQ 6,zw zQ 7⟩ (fun hHeld=>?_)
         clear hK K
         refine ZF (some 56) ?_
         refine yu 10 (some 46) zi ?_
         refine yu 11 (some 57) zi ?_
         refine yu 12 (some 58) zi ?_
         refine yu 13 (some 59) zi ?_
         refine yu 14 (some 7) zi ?_
         refine yu 15 (some 8) zi ?_
         refine yu 16 (some 9) zi ?_
         refine vW (qP zi.out (by kernel_rfl)) ?_
         obtain ⟨zZf,zZg,zda⟩:=Kd.vw qD.out
         subst zda
         obtain ⟨zZh,zZi,zdb⟩:=Kd.vw Zn.out
         subst zdb
         try go_wp2_with (first | (go_at_call 17;(with_reducible refine (qL.calls Zh _ _ sM _ _ zq3 true _ ?yc ?yG ?qZ ?qQ A30.out).mono ?_);(case yc=>exact qY ((Kd.vO qD.out).2.2));(case yG=>exact (Kd.vO qD.out).2.1);(case qZ=>exact qY ((Kd.vO Zn.out).2.2));(case qQ=>exact (Kd.vO Zn.out).2.1);rintro e w' ⟨rfl,⟨nd,rfl⟩⟩;obtain ⟨zmZ,zmQ,zdT⟩:=Kd.QD qO.out;subst zdT;obtain ⟨zFv,zFk,ztw⟩:=Kd.QD Yh.out;subst ztw) | (go_at_call 18;(with_reducible refine (yO.calls Zh _ _ gY _ _ zqJ true _ ?yc ?yG ?qZ ?qQ A32.out).mono ?_);(case yc=>exact qY ((Kd.kR qO.out).2.2));(case yG=>exact (Kd.kR qO.out).2.1);(case qZ=>exact qY ((Kd.kR Yh.out).2.2));(case qQ=>exact (Kd.kR Yh.out).2.1);rintro e w47 ⟨rfl,hb⟩;have zW:=zx.mk (Kd.wV (wT y9.out) hb);have zh:=zx.mk (Kd.wV (wT yg.out) hb);have zo:=zx.mk (Kd.kW (pK qO.out) hb);have zM:=zx.mk (Kd.xI (vQ qD.out) hb);have qw:=zx.mk (Kd.kW (pK vM.out) hb);have xE:=zx.mk (Kd.kW (pK Yh.out) hb);have jU:=zx.mk (Kd.xI (vQ Zn.out) hb);have KU:=zx.mk (yj (g:=zT) (o:=.cells #[.slice xu yR.length xA,.int .i64 ze,.int .i64 za,.bool yN,.bool yS,.slice yZ zY.length yQ,.slice xk yL.length xw,.bool xL] 30 (0,0)) (qV zQ.out) hb);have K8:=zx.mk (zC (zG HB.out) hb);clear y9;clear yg;clear qO;clear qD;clear vM;clear Yh;clear Zn;clear zQ;clear HB;have y9:=zW;have yg:=zh;have qO:=zo;have qD:=zM;have vM:=qw;have Yh:=xE;have Zn:=jU;have zQ:=KU;have HB:=K8;clear zW zh zo zM qw xE jU KU K8;(try clear hb);(try clear hk);(try clear hi)) | (go_at_call 11;(with_reducible refine (xO.calls  Xi _ ?yc A34.out).mono ?_);(case yc=>exact GW.under HG.out (zG HB.out));rintro e w48 ⟨rfl,hb⟩;have zW:=zx.mk (Kd.wV (wT y9.out) hb);have zh:=zx.mk (Kd.wV (wT yg.out) hb);have zo:=zx.mk (Kd.kW (pK qO.out) hb);have zM:=zx.mk (Kd.xI (vQ qD.out) hb);have qw:=zx.mk (Kd.kW (pK vM.out) hb);have xE:=zx.mk (Kd.kW (pK Yh.out) hb);have jU:=zx.mk (Kd.xI (vQ Zn.out) hb);have KU:=zx.mk (yj (g:=zT) (o:=.cells #[.slice xu yR.length xA,.int .i64 ze,.int .i64 za,.bool yN,.bool yS,.slice yZ zY.length yQ,.slice xk yL.length xw,.bool xL] 30 (0,0)) (qV zQ.out) hb);have K8:=zx.mk (zC (zG HB.out) hb);clear y9;clear yg;clear qO;clear qD;clear vM;clear Yh;clear Zn;clear zQ;clear HB;have y9:=zW;have yg:=zh;have qO:=zo;have qD:=zM;have vM:=qw;have Yh:=xE;have Zn:=jU;have zQ:=KU;have HB:=K8;clear zW zh zo zM qw xE jU KU K8;(try clear hb);(try clear hk);(try clear hi)))
         go_ret
         exact ⟨by first | rfl | (simp [zH,zI] <;> rfl) | (simp [*,zH,zI] <;> rfl),by repeat (first | (with_reducible first | exact HB.out | apply yX | apply zL | apply zR | refine qK ?_ zvS.out) | exact HB.out)⟩
        ·replace J9:=Bool.eq_false_iff.mpr J9
         subst J9
         have H1:(some false) = some r:=by rw [if_neg (show ¬ (false = true) by decide)] at H;exact H
         clear H
         have H:=H1
         clear H1
         obtain rfl:=Option.some.inj H
         have zBV:wc.cell? ⟨zT,0,none⟩ = some (.slice xu yR.length xA):=zw zQ 0
         have zBK:wc.cell? ⟨zT,1,none⟩ = some (.int .i64 ze):=zw zQ 1
         have zBY:wc.cell? ⟨zT,2,none⟩ = some (.int .i64 za):=zw zQ 2
         have zBW:wc.cell? ⟨zT,3,none⟩ = some (.bool yN):=zw zQ 3
         have zBa:wc.cell? ⟨zT,4,none⟩ = some (.bool yS):=zw zQ 4
         have zBb:wc.cell? ⟨zT,5,none⟩ = some (.slice yZ zY.length yQ):=zw zQ 5
         have zBc:wc.cell? ⟨zT,6,none⟩ = some (.slice xk yL.length xw):=zw zQ 6
         have zBd:wc.cell? ⟨zT,7,none⟩ = some (.bool xL):=zw zQ 7
         have zBe:=zy zQ.out 0
         have zBf:=zy zQ.out 1
         have zBg:=zy zQ.out 2
         have zBh:=zy zQ.out 3
         have zBi:=zy zQ.out 4
         have zBl:=zy zQ.out 5
         have zBm:=zy zQ.out 6
         have zBn:=zy zQ.out 7
         obtain ⟨zm3,zm4,ztZ⟩:=Kd.zxq y9.out
         subst ztZ
         try go_wp2_with (first | ((with_reducible refine yE (f:=13) rfl ?_);refine jg (some 42) Tryz.func13 #[.slice zm3 ZN.length zm4,.agg #[.int .i64 ze,.int .i64 za,.bool yN,.bool yS],.slice yZ zY.length yQ,.slice xk yL.length xw] ?_;(with_reducible refine (uP.calls _ _ ZN ze za yN yS _ _ zY _ _ yL gY sM dw _ ?yc ?yG ?qZ ?qQ ?qB ?qC ?j4 A25.out).mono ?_);(case yc=>exact qY ((Kd.jB y9.out).2.2));(case yG=>exact (Kd.jB y9.out).2.1);(case qZ=>exact qY (Kd.zm uD.out HB.out));(case qQ=>exact jh.out);(case qB=>exact qY (Kd.zm Ws.out HB.out));(case qC=>exact gM.out);(case j4=>exact GW.under HG.out (zG HB.out));rintro e w51 ⟨sN,Ux,rfl,ho0,ho1,hb⟩;refine ⟨_,rfl,?_⟩;have zW:=zx.mk (Kd.wL (Kd.jV (Kd.jV (Kd.YM (wT y9.out) hb) (Kd.um ho0)) (Kd.ug ho1)) (fun _ h_=>h_.1));have zh:=zx.mk (Kd.wL (Kd.jV (Kd.jV (Kd.YM (wT yg.out) hb) (Kd.um ho0)) (Kd.ug ho1)) (fun _ h_=>h_.1));have zo:=zx.mk (Kd.ZE (Kd.kE (ok':=fun k_=>(wh k_ ∨ w.heap.size ≤ k_) ∧ some k_ ≠ (Ux:Value).ownBlock ∧ k_ ≠ zT) (Kd.aC (Kd.Zd (Kd.Qn ho0 (Kd.YZ ho1) (by decide)))) (fun k_ uJ=>⟨(.inr (Nat.le_trans (zf (zG HB.out)) uJ.2.1)),uJ.1.2,(Kd.Z4 (g:=zT) (o:=.cells #[.slice xu yR.length xA,.int .i64 ze,.int .i64 za,.bool yN,.bool yS,.slice yZ zY.length yQ,.slice xk yL.length xw,.bool xL] 30 (0,0)) (qV zQ.out) k_ uJ.2.1)⟩)) (zf (zG HB.out)));have zM:=zx.mk (Kd.uI (Kd.dG (M:=fun k_=>(w.heap.size ≤ k_)) ho1 (zf (zG HB.out)) (fun k_ h_=>h_)) (zf (zG HB.out)));have qw:=zx.mk (yj (g:=zT) (o:=.cells #[.slice xu yR.length xA,.int .i64 ze,.int .i64 za,.bool yN,.bool yS,.slice yZ zY.length yQ,.slice xk yL.length xw,.bool xL] 30 (0,0)) (qV zQ.out) hb);have xE:=zx.mk (zC (zG HB.out) hb);clear y9;clear yg;clear zQ;clear HB;have y9:=zW;have yg:=zh;have qO:=zo;have qD:=zM;have zQ:=qw;have HB:=xE;clear zW zh zo zM qw xE;(try clear hb);(try clear hk);(try clear ho0);(try clear ho1)))
         have zW:=zx.mk (Kd.Zk y9.out)
         have zh:=zx.mk (Kd.Zk yg.out)
         have zo:=zx.mk (Kd.rA qO.out)
         have zM:=zx.mk (Kd.uw qD.out)
         have qw:=zx.mk (xV zQ.out)
         have xE:=zx.mk (zR HB.out)
         clear y9 yg qO qD zQ HB
         have y9:=zW
         have yg:=zh
         have qO:=zo
         have qD:=zM
         have zQ:=qw
         have HB:=xE
         clear zW zh zo zM qw xE
         refine jr (n:=17) (S:=fun w'=>w'.cell? ⟨zT,0,none⟩ = some (.slice xu yR.length xA) ∧ w'.cell? ⟨zT,1,none⟩ = some (.int .i64 ze) ∧ w'.cell? ⟨zT,2,none⟩ = some (.int .i64 za) ∧ w'.cell? ⟨zT,3,none⟩ = some (.bool yN) ∧ w'.cell? ⟨zT,4,none⟩ = some (.bool yS) ∧ w'.cell? ⟨zT,5,none⟩ = some (.slice yZ zY.length yQ) ∧ w'.cell? ⟨zT,6,none⟩ = some (.slice xk yL.length xw) ∧ w'.cell? ⟨zT,7,none⟩ = some (.bool xL)) (ds:=[]) #[false,false,false,false,false,false,false,false,false,false,false,false,false,false,false,false,false] (by kernel_rfl) rfl rfl ⟨zw zQ 0,zw zQ 1,zw zQ 2,zw zQ 3,zw zQ 4,zw zQ 5,zw zQ 6,zw zQ 7⟩ (fun hHeld=>?_);refine uT zB.zjn zB.zz8 (fun zi vD=>?_)
         generalize w51.drew = w52 at y9 yg qO qD zQ HB hHeld ⊢
         refine yu 0 (some 47) zi ?_
         refine yu 2 (some 49) zi ?_
         refine yu 5 (some 52) zi ?_
         refine yu 7 (some 54) zi ?_
         refine jK 3 (some 50) zi vD hHeld ?_
         refine jK 6 (some 53) zi vD hHeld ?_
         refine jK 8 (some 55) zi vD hHeld ?_
         refine Zr 1 (some 48) zi (fun K hK=>?_)
         refine wS Tryz.func15 (by kernel_rfl) rfl #[.slice zm3 ZN.length zm4] (by rfl) rfl rfl (by (try simp only [List.map_toArray,List.map_cons,List.map_nil]);first | done | rfl | (simp only [List.length_drop,List.length_take];rfl)) ?_
         with_reducible refine (zl.calls Zh _ _ ZN Yl _ ?yc ?yG A26.out).mono ?_
         (case yc=>exact qY ((Kd.jB y9.out).2.2))
         (case yG=>exact (Kd.jB y9.out).2.1)
         rintro e w53 ⟨zeL,rfl,ho0,hb⟩
         refine ⟨_,rfl,?_⟩
         have zW:=zx.mk (Kd.YD (wT y9.out) (Kd.um ho0) hb)
         have zh:=zx.mk (Kd.YD (wT yg.out) (Kd.um ho0) hb)
         have zo:=zx.mk (Kd.zzR (pK qO.out) (Kd.um ho0) hb)
         have zM:=zx.mk (Kd.xI (vQ qD.out) hb)
         have qw:=zx.mk (Kd.ZE (Kd.kE (ok':=fun k_=>(wh k_ ∨ w.heap.size ≤ k_) ∧ some k_ ≠ (sN:Value).ownBlock ∧ some k_ ≠ (Ux:Value).ownBlock ∧ k_ ≠ zT) (Kd.aC (Kd.Zd ho0)) (fun k_ uJ=>⟨(.inr (Nat.le_trans (zf (zG HB.out)) uJ.2.1)),(Kd.fresh' (Kd.WH (pK qO.out)) k_ uJ.2.1),(Kd.fresh' (Kd.YB (vQ qD.out)) k_ uJ.2.1),(Kd.Z4 (g:=zT) (o:=.cells #[.slice xu yR.length xA,.int .i64 ze,.int .i64 za,.bool yN,.bool yS,.slice yZ zY.length yQ,.slice xk yL.length xw,.bool xL] 30 (0,0)) (qV zQ.out) k_ uJ.2.1)⟩)) (zf (zG HB.out)))
         have xE:=zx.mk (yj (g:=zT) (o:=.cells #[.slice xu yR.length xA,.int .i64 ze,.int .i64 za,.bool yN,.bool yS,.slice yZ zY.length yQ,.slice xk yL.length xw,.bool xL] 30 (0,0)) (qV zQ.out) hb)
         have jU:=zx.mk (zC (zG HB.out) hb)
         clear y9 yg qO qD zQ HB
         have y9:=zW
         have yg:=zh
         have qO:=zo
         have qD:=zM
         have vM:=qw
         have zQ:=xE
         have HB:=jU
         clear zW zh zo zM qw xE jU
         (try clear hb)
         (try clear hk)
         (try clear ho0)
         refine hK.out _ _ ⟨zw zQ 0,zw zQ 1,zw zQ 2,zw zQ 3,zw zQ 4,zw zQ 5,zw zQ 6,zw zQ 7⟩ (fun hHeld=>?_)
         clear hK K
         refine ZF (some 48) ?_
         refine Zr 4 (some 51) zi (fun K hK=>?_)
         refine wS Tryz.func16 (by kernel_rfl) rfl #[.agg #[.int .i64 ze,.int .i64 za,.bool yN,.bool yS]] (by rfl) rfl rfl (by (try simp only [List.map_toArray,List.map_cons,List.map_nil]);first | done | rfl | (simp only [List.length_drop,List.length_take];rfl)) ?_
         with_reducible refine (je.calls ze za yN yS dZ dQ dX dJ _ A27.out).mono ?_
         rintro e w54 ⟨rfl,hb⟩
         refine ⟨_,rfl,?_⟩
         have zW:=zx.mk (Kd.wV (wT y9.out) hb)
         have zh:=zx.mk (Kd.wV (wT yg.out) hb)
         have zo:=zx.mk (Kd.kW (pK qO.out) hb)
         have zM:=zx.mk (Kd.xI (vQ qD.out) hb)
         have qw:=zx.mk (Kd.kW (pK vM.out) hb)
         have xE:=zx.mk (yj (g:=zT) (o:=.cells #[.slice xu yR.length xA,.int .i64 ze,.int .i64 za,.bool yN,.bool yS,.slice yZ zY.length yQ,.slice xk yL.length xw,.bool xL] 30 (0,0)) (qV zQ.out) hb)
         have jU:=zx.mk (zC (zG HB.out) hb)
         clear y9 yg qO qD vM zQ HB
         have y9:=zW
         have yg:=zh
         have qO:=zo
         have qD:=zM
         have vM:=qw
         have zQ:=xE
         have HB:=jU
         clear zW zh zo zM qw xE jU
         (try clear hb)
         (try clear hk)
         obtain ⟨zm5,zm6,zm7⟩:=Kd.QD vM.out
         (first | subst zm7 | (injection zm7 with Jb iX Jc;have iJ:=Jb.symm;have iV:=Jc.symm;clear Jb iX Jc;subst iJ;subst iV))
         refine hK.out _ _ ⟨zw zQ 0,zw zQ 1,zw zQ 2,zw zQ 3,zw zQ 4,zw zQ 5,zw zQ 6,zw zQ 7⟩ (fun hHeld=>?_)
         clear hK K
         refine ZF (some 51) ?_
         refine Zr 9 (some 56) zi (fun K hK=>?_)
         refine wS Tryz.func14 (by kernel_rfl) rfl #[.slice zm5 Yl.length zm6,.agg #[.int .i64 dZ,.int .i64 dQ,.bool dX,.bool dJ],.slice yZ zY.length yQ,.slice xk yL.length xw] (by rfl) rfl rfl (by (try simp only [List.map_toArray,List.map_cons,List.map_nil]);first | done | rfl | (simp only [List.length_drop,List.length_take];rfl)) ?_
         with_reducible refine (zA.calls Zh _ _ Yl dZ dQ dX dJ _ _ zY _ _ yL zqJ zq3 aV _ ?yc ?yG ?qZ ?qQ ?qB ?qC A28.out).mono ?_
         (case yc=>exact qY ((Kd.kR vM.out).2.2))
         (case yG=>exact (Kd.kR vM.out).2.1)
         (case qZ=>exact qY (Kd.zm uD.out HB.out))
         (case qQ=>exact jh.out)
         (case qB=>exact qY (Kd.zm Ws.out HB.out))
         (case qC=>exact gM.out)
         rintro e w56 ⟨zeM,zj4,rfl,ho0,ho1,hb⟩
         refine ⟨_,rfl,?_⟩
         have zW:=zx.mk (Kd.wL (Kd.jV (Kd.jV (Kd.YM (wT y9.out) hb) (Kd.um ho0)) (Kd.ug ho1)) (fun _ h_=>h_.1))
         have zh:=zx.mk (Kd.wL (Kd.jV (Kd.jV (Kd.YM (wT yg.out) hb) (Kd.um ho0)) (Kd.ug ho1)) (fun _ h_=>h_.1))
         have zo:=zx.mk (Kd.kE (Kd.Z5 (Kd.Z5 (Kd.tZ (pK qO.out) hb) (Kd.um ho0)) (Kd.ug ho1)) (fun _ h_=>h_.1))
         have zM:=zx.mk (Kd.ZP (vQ qD.out) (Kd.ug ho1) hb)
         have qw:=zx.mk (Kd.kE (Kd.Z5 (Kd.Z5 (Kd.tZ (pK vM.out) hb) (Kd.um ho0)) (Kd.ug ho1)) (fun _ h_=>h_.1))
         have xE:=zx.mk (Kd.ZE (Kd.kE (ok':=fun k_=>(wh k_ ∨ w.heap.size ≤ k_) ∧ some k_ ≠ (zj4:Value).ownBlock ∧ some k_ ≠ (sN:Value).ownBlock ∧ some k_ ≠ (Ux:Value).ownBlock ∧ some k_ ≠ (.slice zm5 Yl.length zm6:Value).ownBlock ∧ k_ ≠ zT) (Kd.aC (Kd.Zd (Kd.Qn ho0 (Kd.YZ ho1) (by decide)))) (fun k_ uJ=>⟨(.inr (Nat.le_trans (zf (zG HB.out)) uJ.2.1)),uJ.1.2,(Kd.fresh' (Kd.WH (pK qO.out)) k_ uJ.2.1),(Kd.fresh' (Kd.YB (vQ qD.out)) k_ uJ.2.1),(Kd.fresh' (Kd.WH (pK vM.out)) k_ uJ.2.1),(Kd.Z4 (g:=zT) (o:=.cells #[.slice xu yR.length xA,.int .i64 ze,.int .i64 za,.bool yN,.bool yS,.slice yZ zY.length yQ,.slice xk yL.length xw,.bool xL] 30 (0,0)) (qV zQ.out) k_ uJ.2.1)⟩)) (zf (zG HB.out)))
         have jU:=zx.mk (Kd.uI (Kd.XD (Kd.dG (M:=fun k_=>(w.heap.size ≤ k_)) ho1 (zf (zG HB.out)) (fun k_ h_=>h_)) (Kd.YB (vQ qD.out))) (zf (zG HB.out)))
         have KU:=zx.mk (yj (g:=zT) (o:=.cells #[.slice xu yR.length xA,.int .i64 ze,.int .i64 za,.bool yN,.bool yS,.slice yZ zY.length yQ,.slice xk yL.length xw,.bool xL] 30 (0,0)) (qV zQ.out) hb)
         have K8:=zx.mk (zC (zG HB.out) hb)
         clear y9 yg qO qD vM zQ HB
         have y9:=zW
         have yg:=zh
         have qO:=zo
         have qD:=zM
         have vM:=qw
         have Yh:=xE
         have Zn:=jU
         have zQ:=KU
         have HB:=K8
         clear zW zh zo zM qw xE jU KU K8
         (try clear hb)
         (try clear hk)
         (try clear ho0)
         (try clear ho1)
         refine hK.out _ _ ⟨zw zQ 0,zw zQ 1,zw zQ 2,zw zQ 3,zw zQ 4,zw zQ 5,zw zQ 6,zw zQ 7⟩ (fun hHeld=>?_)
         clear hK K
         refine ZF (some 56) ?_
         refine yu 10 (some 46) zi ?_
         refine yu 11 (some 57) zi ?_
         refine yu 12 (some 58) zi ?_
         refine yu 13 (some 59) zi ?_
         refine yu 14 (some 7) zi ?_
         refine yu 15 (some 8) zi ?_
         refine yu 16 (some 9) zi ?_
         refine vW (qP zi.out (by kernel_rfl)) ?_
         obtain ⟨zFy,zFw,ztQ⟩:=Kd.vw qD.out
         subst ztQ
         obtain ⟨zFZ,zFQ,ztX⟩:=Kd.vw Zn.out
         subst ztX
         try go_wp2_with (first | (go_at_call 17;(with_reducible refine (qL.calls Zh _ _ sM _ _ zq3 true _ ?yc ?yG ?qZ ?qQ A30.out).mono ?_);(case yc=>exact qY ((Kd.vO qD.out).2.2));(case yG=>exact (Kd.vO qD.out).2.1);(case qZ=>exact qY ((Kd.vO Zn.out).2.2));(case qQ=>exact (Kd.vO Zn.out).2.1);rintro e w' ⟨rfl,⟨nd,rfl⟩⟩;obtain ⟨zFX,zFJ,ztJ⟩:=Kd.QD qO.out;subst ztJ;obtain ⟨zFV,zFK,ztV⟩:=Kd.QD Yh.out;subst ztV) | (go_at_call 18;(with_reducible refine (yO.calls Zh _ _ gY _ _ zqJ false _ ?yc ?yG ?qZ ?qQ A32.out).mono ?_);(case yc=>exact qY ((Kd.kR qO.out).2.2));(case yG=>exact (Kd.kR qO.out).2.1);(case qZ=>exact qY ((Kd.kR Yh.out).2.2));(case qQ=>exact (Kd.kR Yh.out).2.1);rintro e w61 ⟨rfl,hb⟩;have zW:=zx.mk (Kd.wV (wT y9.out) hb);have zh:=zx.mk (Kd.wV (wT yg.out) hb);have zo:=zx.mk (Kd.kW (pK qO.out) hb);have zM:=zx.mk (Kd.xI (vQ qD.out) hb);have qw:=zx.mk (Kd.kW (pK vM.out) hb);have xE:=zx.mk (Kd.kW (pK Yh.out) hb);have jU:=zx.mk (Kd.xI (vQ Zn.out) hb);have KU:=zx.mk (yj (g:=zT) (o:=.cells #[.slice xu yR.length xA,.int .i64 ze,.int .i64 za,.bool yN,.bool yS,.slice yZ zY.length yQ,.slice xk yL.length xw,.bool xL] 30 (0,0)) (qV zQ.out) hb);have K8:=zx.mk (zC (zG HB.out) hb);clear y9;clear yg;clear qO;clear qD;clear vM;clear Yh;clear Zn;clear zQ;clear HB;have y9:=zW;have yg:=zh;have qO:=zo;have qD:=zM;have vM:=qw;have Yh:=xE;have Zn:=jU;have zQ:=KU;have HB:=K8;clear zW zh zo zM qw xE jU KU K8;(try clear hb);(try clear hk);(try clear hi)))
         go_ret
         exact ⟨by first | rfl | (simp [zH,zI] <;> rfl) | (simp [*,zH,zI] <;> rfl),by repeat (first | (with_reducible first | exact HB.out | apply yX | apply zL | apply zR | refine qK ?_ zvS.out) | exact HB.out)⟩
       ·replace c31:=Bool.eq_false_iff.mpr c31
        subst c31
        have H1:(some false) = some r:=by rw [if_neg (show ¬ (false = true) by decide)] at H;exact H
        clear H
        have H:=H1
        clear H1
        obtain rfl:=Option.some.inj H
        have zBo:wc.cell? ⟨zT,0,none⟩ = some (.slice xu yR.length xA):=zw zQ 0
        have zBp:wc.cell? ⟨zT,1,none⟩ = some (.int .i64 ze):=zw zQ 1
        have zBr:wc.cell? ⟨zT,2,none⟩ = some (.int .i64 za):=zw zQ 2
        have zBs:wc.cell? ⟨zT,3,none⟩ = some (.bool yN):=zw zQ 3
        have zBt:wc.cell? ⟨zT,4,none⟩ = some (.bool yS):=zw zQ 4
        have zBu:wc.cell? ⟨zT,5,none⟩ = some (.slice yZ zY.length yQ):=zw zQ 5
        have zBA:wc.cell? ⟨zT,6,none⟩ = some (.slice xk yL.length xw):=zw zQ 6
        have zBB:wc.cell? ⟨zT,7,none⟩ = some (.bool xL):=zw zQ 7
        have zBC:=zy zQ.out 0
        have zBD:=zy zQ.out 1
        have zBE:=zy zQ.out 2
        have zBF:=zy zQ.out 3
        have zBG:=zy zQ.out 4
        have zBH:=zy zQ.out 5
        have zBI:=zy zQ.out 6
        have zBL:=zy zQ.out 7
        obtain ⟨zm8,zm9,ztK⟩:=Kd.zxq y9.out
        subst ztK
        try go_wp2_with (first | ((with_reducible refine yE (f:=13) rfl ?_);refine jg (some 42) Tryz.func13 #[.slice zm8 ZN.length zm9,.agg #[.int .i64 ze,.int .i64 za,.bool yN,.bool yS],.slice yZ zY.length yQ,.slice xk yL.length xw] ?_;(with_reducible refine (uP.calls _ _ ZN ze za yN yS _ _ zY _ _ yL gY sM dw _ ?yc ?yG ?qZ ?qQ ?qB ?qC ?j4 A25.out).mono ?_);(case yc=>exact qY ((Kd.jB y9.out).2.2));(case yG=>exact (Kd.jB y9.out).2.1);(case qZ=>exact qY (Kd.zm uD.out HB.out));(case qQ=>exact jh.out);(case qB=>exact qY (Kd.zm Ws.out HB.out));(case qC=>exact gM.out);(case j4=>exact GW.under HG.out (zG HB.out));rintro e wK ⟨sN,Ux,rfl,ho0,ho1,hb⟩;refine ⟨_,rfl,?_⟩;have zW:=zx.mk (Kd.wL (Kd.jV (Kd.jV (Kd.YM (wT y9.out) hb) (Kd.um ho0)) (Kd.ug ho1)) (fun _ h_=>h_.1));have zh:=zx.mk (Kd.wL (Kd.jV (Kd.jV (Kd.YM (wT yg.out) hb) (Kd.um ho0)) (Kd.ug ho1)) (fun _ h_=>h_.1));have zo:=zx.mk (Kd.ZE (Kd.kE (ok':=fun k_=>(wh k_ ∨ w.heap.size ≤ k_) ∧ some k_ ≠ (Ux:Value).ownBlock ∧ k_ ≠ zT) (Kd.aC (Kd.Zd (Kd.Qn ho0 (Kd.YZ ho1) (by decide)))) (fun k_ uJ=>⟨(.inr (Nat.le_trans (zf (zG HB.out)) uJ.2.1)),uJ.1.2,(Kd.Z4 (g:=zT) (o:=.cells #[.slice xu yR.length xA,.int .i64 ze,.int .i64 za,.bool yN,.bool yS,.slice yZ zY.length yQ,.slice xk yL.length xw,.bool xL] 30 (0,0)) (qV zQ.out) k_ uJ.2.1)⟩)) (zf (zG HB.out)));have zM:=zx.mk (Kd.uI (Kd.dG (M:=fun k_=>(w.heap.size ≤ k_)) ho1 (zf (zG HB.out)) (fun k_ h_=>h_)) (zf (zG HB.out)));have qw:=zx.mk (yj (g:=zT) (o:=.cells #[.slice xu yR.length xA,.int .i64 ze,.int .i64 za,.bool yN,.bool yS,.slice yZ zY.length yQ,.slice xk yL.length xw,.bool xL] 30 (0,0)) (qV zQ.out) hb);have xE:=zx.mk (zC (zG HB.out) hb);clear y9;clear yg;clear zQ;clear HB;have y9:=zW;have yg:=zh;have qO:=zo;have qD:=zM;have zQ:=qw;have HB:=xE;clear zW zh zo zM qw xE;(try clear hb);(try clear hk);(try clear ho0);(try clear ho1)))
        have zW:=zx.mk (Kd.Zk y9.out)
        have zh:=zx.mk (Kd.Zk yg.out)
        have zo:=zx.mk (Kd.rA qO.out)
        have zM:=zx.mk (Kd.uw qD.out)
        have qw:=zx.mk (xV zQ.out)
        have xE:=zx.mk (zR HB.out)
        clear y9 yg qO qD zQ HB
        have y9:=zW
        have yg:=zh
        have qO:=zo
        have qD:=zM
        have zQ:=qw
        have HB:=xE
        clear zW zh zo zM qw xE
        refine jr (n:=17) (S:=fun w'=>w'.cell? ⟨zT,0,none⟩ = some (.slice xu yR.length xA) ∧ w'.cell? ⟨zT,1,none⟩ = some (.int .i64 ze) ∧ w'.cell? ⟨zT,2,none⟩ = some (.int .i64 za) ∧ w'.cell? ⟨zT,3,none⟩ = some (.bool yN) ∧ w'.cell? ⟨zT,4,none⟩ = some (.bool yS) ∧ w'.cell? ⟨zT,5,none⟩ = some (.slice yZ zY.length yQ) ∧ w'.cell? ⟨zT,6,none⟩ = some (.slice xk yL.length xw) ∧ w'.cell? ⟨zT,7,none⟩ = some (.bool xL)) (ds:=[]) #[false,false,false,false,false,false,false,false,false,false,false,false,false,false,false,false,false] (by kernel_rfl) rfl rfl ⟨zw zQ 0,zw zQ 1,zw zQ 2,zw zQ 3,zw zQ 4,zw zQ 5,zw zQ 6,zw zQ 7⟩ (fun hHeld=>?_);refine uT zB.zjn zB.zz8 (fun zi vD=>?_)
        generalize wK.drew = w65 at y9 yg qO qD zQ HB hHeld ⊢
        refine yu 0 (some 47) zi ?_
        refine yu 2 (some 49) zi ?_
        refine yu 5 (some 52) zi ?_
        refine yu 7 (some 54) zi ?_
        refine jK 3 (some 50) zi vD hHeld ?_
        refine jK 6 (some 53) zi vD hHeld ?_
        refine jK 8 (some 55) zi vD hHeld ?_
        refine Zr 1 (some 48) zi (fun K hK=>?_)
        refine wS Tryz.func15 (by kernel_rfl) rfl #[.slice zm8 ZN.length zm9] (by rfl) rfl rfl (by (try simp only [List.map_toArray,List.map_cons,List.map_nil]);first | done | rfl | (simp only [List.length_drop,List.length_take];rfl)) ?_
        with_reducible refine (zl.calls Zh _ _ ZN Yl _ ?yc ?yG A26.out).mono ?_
        (case yc=>exact qY ((Kd.jB y9.out).2.2))
        (case yG=>exact (Kd.jB y9.out).2.1)
        rintro e w66 ⟨zeL,rfl,ho0,hb⟩
        refine ⟨_,rfl,?_⟩
        have zW:=zx.mk (Kd.YD (wT y9.out) (Kd.um ho0) hb)
        have zh:=zx.mk (Kd.YD (wT yg.out) (Kd.um ho0) hb)
        have zo:=zx.mk (Kd.zzR (pK qO.out) (Kd.um ho0) hb)
        have zM:=zx.mk (Kd.xI (vQ qD.out) hb)
        have qw:=zx.mk (Kd.ZE (Kd.kE (ok':=fun k_=>(wh k_ ∨ w.heap.size ≤ k_) ∧ some k_ ≠ (sN:Value).ownBlock ∧ some k_ ≠ (Ux:Value).ownBlock ∧ k_ ≠ zT) (Kd.aC (Kd.Zd ho0)) (fun k_ uJ=>⟨(.inr (Nat.le_trans (zf (zG HB.out)) uJ.2.1)),(Kd.fresh' (Kd.WH (pK qO.out)) k_ uJ.2.1),(Kd.fresh' (Kd.YB (vQ qD.out)) k_ uJ.2.1),(Kd.Z4 (g:=zT) (o:=.cells #[.slice xu yR.length xA,.int .i64 ze,.int .i64 za,.bool yN,.bool yS,.slice yZ zY.length yQ,.slice xk yL.length xw,.bool xL] 30 (0,0)) (qV zQ.out) k_ uJ.2.1)⟩)) (zf (zG HB.out)))
        have xE:=zx.mk (yj (g:=zT) (o:=.cells #[.slice xu yR.length xA,.int .i64 ze,.int .i64 za,.bool yN,.bool yS,.slice yZ zY.length yQ,.slice xk yL.length xw,.bool xL] 30 (0,0)) (qV zQ.out) hb)
        have jU:=zx.mk (zC (zG HB.out) hb)
        clear y9 yg qO qD zQ HB
        have y9:=zW
        have yg:=zh
        have qO:=zo
        have qD:=zM
        have vM:=qw
        have zQ:=xE
        have HB:=jU
        clear zW zh zo zM qw xE jU
        (try clear hb)
        (try clear hk)
        (try clear ho0)
        refine hK.out _ _ ⟨zw zQ 0,zw zQ 1,zw zQ 2,zw zQ 3,zw zQ 4,zw zQ 5,zw zQ 6,zw zQ 7⟩ (fun hHeld=>?_)
        clear hK K
        refine ZF (some 48) ?_
        refine Zr 4 (some 51) zi (fun K hK=>?_)
        refine wS Tryz.func16 (by kernel_rfl) rfl #[.agg #[.int .i64 ze,.int .i64 za,.bool yN,.bool yS]] (by rfl) rfl rfl (by (try simp only [List.map_toArray,List.map_cons,List.map_nil]);first | done | rfl | (simp only [List.length_drop,List.length_take];rfl)) ?_
        with_reducible refine (je.calls ze za yN yS dZ dQ dX dJ _ A27.out).mono ?_
        rintro e w67 ⟨rfl,hb⟩
        refine ⟨_,rfl,?_⟩
        have zW:=zx.mk (Kd.wV (wT y9.out) hb)
        have zh:=zx.mk (Kd.wV (wT yg.out) hb)
        have zo:=zx.mk (Kd.kW (pK qO.out) hb)
        have zM:=zx.mk (Kd.xI (vQ qD.out) hb)
        have qw:=zx.mk (Kd.kW (pK vM.out) hb)
        have xE:=zx.mk (yj (g:=zT) (o:=.cells #[.slice xu yR.length xA,.int .i64 ze,.int .i64 za,.bool yN,.bool yS,.slice yZ zY.length yQ,.slice xk yL.length xw,.bool xL] 30 (0,0)) (qV zQ.out) hb)
        have jU:=zx.mk (zC (zG HB.out) hb)
        clear y9 yg qO qD vM zQ HB
        have y9:=zW
        have yg:=zh
        have qO:=zo
        have qD:=zM
        have vM:=qw
        have zQ:=xE
        have HB:=jU
        clear zW zh zo zM qw xE jU
        (try clear hb)
        (try clear hk)
        obtain ⟨znz,znq,znx⟩:=Kd.QD vM.out
        (first | subst znx | (injection znx with Jb iX Jc;have iJ:=Jb.symm;have iV:=Jc.symm;clear Jb iX Jc;subst iJ;subst iV))
        refine hK.out _ _ ⟨zw zQ 0,zw zQ 1,zw zQ 2,zw zQ 3,zw zQ 4,zw zQ 5,zw zQ 6,zw zQ 7⟩ (fun hHeld=>?_)
        clear hK K
        refine ZF (some 51) ?_
        refine Zr 9 (some 56) zi (fun K hK=>?_)
        refine wS Tryz.func14 (by kernel_rfl) rfl #[.slice znz Yl.length znq,.agg #[.int .i64 dZ,.int .i64 dQ,.bool dX,.bool dJ],.slice yZ zY.length yQ,.slice xk yL.length xw] (by rfl) rfl rfl (by (try simp only [List.map_toArray,List.map_cons,List.map_nil]);first | done | rfl | (simp only [List.length_drop,List.length_take];rfl)) ?_
        with_reducible refine (zA.calls Zh _ _ Yl dZ dQ dX dJ _ _ zY _ _ yL zqJ zq3 aV _ ?yc ?yG ?qZ ?qQ ?qB ?qC A28.out).mono ?_
        (case yc=>exact qY ((Kd.kR vM.out).2.2))
        (case yG=>exact (Kd.kR vM.out).2.1)
        (case qZ=>exact qY (Kd.zm uD.out HB.out))
        (case qQ=>exact jh.out)
        (case qB=>exact qY (Kd.zm Ws.out HB.out))
        (case qC=>exact gM.out)
        rintro e w69 ⟨zeM,zj4,rfl,ho0,ho1,hb⟩
        refine ⟨_,rfl,?_⟩
        have zW:=zx.mk (Kd.wL (Kd.jV (Kd.jV (Kd.YM (wT y9.out) hb) (Kd.um ho0)) (Kd.ug ho1)) (fun _ h_=>h_.1))
        have zh:=zx.mk (Kd.wL (Kd.jV (Kd.jV (Kd.YM (wT yg.out) hb) (Kd.um ho0)) (Kd.ug ho1)) (fun _ h_=>h_.1))
        have zo:=zx.mk (Kd.kE (Kd.Z5 (Kd.Z5 (Kd.tZ (pK qO.out) hb) (Kd.um ho0)) (Kd.ug ho1)) (fun _ h_=>h_.1))
        have zM:=zx.mk (Kd.ZP (vQ qD.out) (Kd.ug ho1) hb)
        have qw:=zx.mk (Kd.kE (Kd.Z5 (Kd.Z5 (Kd.tZ (pK vM.out) hb) (Kd.um ho0)) (Kd.ug ho1)) (fun _ h_=>h_.1))
        have xE:=zx.mk (Kd.ZE (Kd.kE (ok':=fun k_=>(wh k_ ∨ w.heap.size ≤ k_) ∧ some k_ ≠ (zj4:Value).ownBlock ∧ some k_ ≠ (sN:Value).ownBlock ∧ some k_ ≠ (Ux:Value).ownBlock ∧ some k_ ≠ (.slice znz Yl.length znq:Value).ownBlock ∧ k_ ≠ zT) (Kd.aC (Kd.Zd (Kd.Qn ho0 (Kd.YZ ho1) (by decide)))) (fun k_ uJ=>⟨(.inr (Nat.le_trans (zf (zG HB.out)) uJ.2.1)),uJ.1.2,(Kd.fresh' (Kd.WH (pK qO.out)) k_ uJ.2.1),(Kd.fresh' (Kd.YB (vQ qD.out)) k_ uJ.2.1),(Kd.fresh' (Kd.WH (pK vM.out)) k_ uJ.2.1),(Kd.Z4 (g:=zT) (o:=.cells #[.slice xu yR.length xA,.int .i64 ze,.int .i64 za,.bool yN,.bool yS,.slice yZ zY.length yQ,.slice xk yL.length xw,.bool xL] 30 (0,0)) (qV zQ.out) k_ uJ.2.1)⟩)) (zf (zG HB.out)))
        have jU:=zx.mk (Kd.uI (Kd.XD (Kd.dG (M:=fun k_=>(w.heap.size ≤ k_)) ho1 (zf (zG HB.out)) (fun k_ h_=>h_)) (Kd.YB (vQ qD.out))) (zf (zG HB.out)))
        have KU:=zx.mk (yj (g:=zT) (o:=.cells #[.slice xu yR.length xA,.int .i64 ze,.int .i64 za,.bool yN,.bool yS,.slice yZ zY.length yQ,.slice xk yL.length xw,.bool xL] 30 (0,0)) (qV zQ.out) hb)
        have K8:=zx.mk (zC (zG HB.out) hb)
        clear y9 yg qO qD vM zQ HB
        have y9:=zW
        have yg:=zh
        have qO:=zo
        have qD:=zM
        have vM:=qw
        have Yh:=xE
        have Zn:=jU
        have zQ:=KU
        have HB:=K8
        clear zW zh zo zM qw xE jU KU K8
        (try clear hb)
        (try clear hk)
        (try clear ho0)
        (try clear ho1)
        refine hK.out _ _ ⟨zw zQ 0,zw zQ 1,zw zQ 2,zw zQ 3,zw zQ 4,zw zQ 5,zw zQ 6,zw zQ 7⟩ (fun hHeld=>?_)
        clear hK K
        refine ZF (some 56) ?_
        refine yu 10 (some 46) zi ?_
        refine yu 11 (some 57) zi ?_
        refine yu 12 (some 58) zi ?_
        refine yu 13 (some 59) zi ?_
        refine yu 14 (some 7) zi ?_
        refine yu 15 (some 8) zi ?_
        refine yu 16 (some 9) zi ?_
        refine vW (qP zi.out (by kernel_rfl)) ?_
        obtain ⟨zFY,zFW,ztY⟩:=Kd.vw qD.out
        subst ztY
        obtain ⟨zFa,zFb,ztW⟩:=Kd.vw Zn.out
        subst ztW
        try go_wp2_with (first | (go_at_call 17;(with_reducible refine (qL.calls Zh _ _ sM _ _ zq3 false _ ?yc ?yG ?qZ ?qQ A30.out).mono ?_);(case yc=>exact qY ((Kd.vO qD.out).2.2));(case yG=>exact (Kd.vO qD.out).2.1);(case qZ=>exact qY ((Kd.vO Zn.out).2.2));(case qQ=>exact (Kd.vO Zn.out).2.1);rintro e w' ⟨rfl,⟨nd,rfl⟩⟩))
        go_ret
        exact ⟨by first | rfl | (simp [zH,zI] <;> rfl) | (simp [*,zH,zI] <;> rfl),by repeat (first | (with_reducible first | exact HB.out | apply yX | apply zL | apply zR | refine qK ?_ zvS.out) | exact HB.out)⟩
      ·rw [if_neg c29] at H
       have zfv:(dw == aV) = false:=beq_eq_false_iff_ne.mpr c29
       have zp9:(dw != aV) = true:=bne_iff_ne.mpr c29
       obtain rfl:=Option.some.inj H
       have zBM:wc.cell? ⟨zT,0,none⟩ = some (.slice xu yR.length xA):=zw zQ 0
       have zBN:wc.cell? ⟨zT,1,none⟩ = some (.int .i64 ze):=zw zQ 1
       have zBO:wc.cell? ⟨zT,2,none⟩ = some (.int .i64 za):=zw zQ 2
       have zBP:wc.cell? ⟨zT,3,none⟩ = some (.bool yN):=zw zQ 3
       have zBR:wc.cell? ⟨zT,4,none⟩ = some (.bool yS):=zw zQ 4
       have zBS:wc.cell? ⟨zT,5,none⟩ = some (.slice yZ zY.length yQ):=zw zQ 5
       have zBT:wc.cell? ⟨zT,6,none⟩ = some (.slice xk yL.length xw):=zw zQ 6
       have zBU:wc.cell? ⟨zT,7,none⟩ = some (.bool xL):=zw zQ 7
       have zB0:=zy zQ.out 0
       have zB1:=zy zQ.out 1
       have zB2:=zy zQ.out 2
       have zB3:=zy zQ.out 3
       have zB4:=zy zQ.out 4
       have zB5:=zy zQ.out 5
       have zB6:=zy zQ.out 6
       have zB7:=zy zQ.out 7
       obtain ⟨znj,znv,zta⟩:=Kd.zxq y9.out
       subst zta
       try go_wp2_with (first | ((with_reducible refine yE (f:=13) rfl ?_);refine jg (some 42) Tryz.func13 #[.slice znj ZN.length znv,.agg #[.int .i64 ze,.int .i64 za,.bool yN,.bool yS],.slice yZ zY.length yQ,.slice xk yL.length xw] ?_;(with_reducible refine (uP.calls _ _ ZN ze za yN yS _ _ zY _ _ yL gY sM dw _ ?yc ?yG ?qZ ?qQ ?qB ?qC ?j4 A25.out).mono ?_);(case yc=>exact qY ((Kd.jB y9.out).2.2));(case yG=>exact (Kd.jB y9.out).2.1);(case qZ=>exact qY (Kd.zm uD.out HB.out));(case qQ=>exact jh.out);(case qB=>exact qY (Kd.zm Ws.out HB.out));(case qC=>exact gM.out);(case j4=>exact GW.under HG.out (zG HB.out));rintro e w74 ⟨sN,Ux,rfl,ho0,ho1,hb⟩;refine ⟨_,rfl,?_⟩;have zW:=zx.mk (Kd.wL (Kd.jV (Kd.jV (Kd.YM (wT y9.out) hb) (Kd.um ho0)) (Kd.ug ho1)) (fun _ h_=>h_.1));have zh:=zx.mk (Kd.wL (Kd.jV (Kd.jV (Kd.YM (wT yg.out) hb) (Kd.um ho0)) (Kd.ug ho1)) (fun _ h_=>h_.1));have zo:=zx.mk (Kd.ZE (Kd.kE (ok':=fun k_=>(wh k_ ∨ w.heap.size ≤ k_) ∧ some k_ ≠ (Ux:Value).ownBlock ∧ k_ ≠ zT) (Kd.aC (Kd.Zd (Kd.Qn ho0 (Kd.YZ ho1) (by decide)))) (fun k_ uJ=>⟨(.inr (Nat.le_trans (zf (zG HB.out)) uJ.2.1)),uJ.1.2,(Kd.Z4 (g:=zT) (o:=.cells #[.slice xu yR.length xA,.int .i64 ze,.int .i64 za,.bool yN,.bool yS,.slice yZ zY.length yQ,.slice xk yL.length xw,.bool xL] 30 (0,0)) (qV zQ.out) k_ uJ.2.1)⟩)) (zf (zG HB.out)));have zM:=zx.mk (Kd.uI (Kd.dG (M:=fun k_=>(w.heap.size ≤ k_)) ho1 (zf (zG HB.out)) (fun k_ h_=>h_)) (zf (zG HB.out)));have qw:=zx.mk (yj (g:=zT) (o:=.cells #[.slice xu yR.length xA,.int .i64 ze,.int .i64 za,.bool yN,.bool yS,.slice yZ zY.length yQ,.slice xk yL.length xw,.bool xL] 30 (0,0)) (qV zQ.out) hb);have xE:=zx.mk (zC (zG HB.out) hb);clear y9;clear yg;clear zQ;clear HB;have y9:=zW;have yg:=zh;have qO:=zo;have qD:=zM;have zQ:=qw;have HB:=xE;clear zW zh zo zM qw xE;(try clear hb);(try clear hk);(try clear ho0);(try clear ho1)))
       have zW:=zx.mk (Kd.Zk y9.out)
       have zh:=zx.mk (Kd.Zk yg.out)
       have zo:=zx.mk (Kd.rA qO.out)
       have zM:=zx.mk (Kd.uw qD.out)
       have qw:=zx.mk (xV zQ.out)
       have xE:=zx.mk (zR HB.out)
       clear y9 yg qO qD zQ HB
       have y9:=zW
       have yg:=zh
       have qO:=zo
       have qD:=zM
       have zQ:=qw
       have HB:=xE
       clear zW zh zo zM qw xE
       refine jr (n:=17) (S:=fun w'=>w'.cell? ⟨zT,0,none⟩ = some (.slice xu yR.length xA) ∧ w'.cell? ⟨zT,1,none⟩ = some (.int .i64 ze) ∧ w'.cell? ⟨zT,2,none⟩ = some (.int .i64 za) ∧ w'.cell? ⟨zT,3,none⟩ = some (.bool yN) ∧ w'.cell? ⟨zT,4,none⟩ = some (.bool yS) ∧ w'.cell? ⟨zT,5,none⟩ = some (.slice yZ zY.length yQ) ∧ w'.cell? ⟨zT,6,none⟩ = some (.slice xk yL.length xw) ∧ w'.cell? ⟨zT,7,none⟩ = some (.bool xL)) (ds:=[]) #[false,false,false,false,false,false,false,false,false,false,false,false,false,false,false,false,false] (by kernel_rfl) rfl rfl ⟨zw zQ 0,zw zQ 1,zw zQ 2,zw zQ 3,zw zQ 4,zw zQ 5,zw zQ 6,zw zQ 7⟩ (fun hHeld=>?_);refine uT zB.zjn zB.zz8 (fun zi vD=>?_)
       generalize w74.drew = w75 at y9 yg qO qD zQ HB hHeld ⊢
       refine yu 0 (some 47) zi ?_
       refine yu 2 (some 49) zi ?_
       refine yu 5 (some 52) zi ?_
       refine yu 7 (some 54) zi ?_
       refine jK 3 (some 50) zi vD hHeld ?_
       refine jK 6 (some 53) zi vD hHeld ?_
       refine jK 8 (some 55) zi vD hHeld ?_
       refine Zr 1 (some 48) zi (fun K hK=>?_)
       refine wS Tryz.func15 (by kernel_rfl) rfl #[.slice znj ZN.length znv] (by rfl) rfl rfl (by (try simp only [List.map_toArray,List.map_cons,List.map_nil]);first | done | rfl | (simp only [List.length_drop,List.length_take];rfl)) ?_
       with_reducible refine (zl.calls Zh _ _ ZN Yl _ ?yc ?yG A26.out).mono ?_
       (case yc=>exact qY ((Kd.jB y9.out).2.2))
       (case yG=>exact (Kd.jB y9.out).2.1)
       rintro e w76 ⟨zeL,rfl,ho0,hb⟩
       refine ⟨_,rfl,?_⟩
       have zW:=zx.mk (Kd.YD (wT y9.out) (Kd.um ho0) hb)
       have zh:=zx.mk (Kd.YD (wT yg.out) (Kd.um ho0) hb)
       have zo:=zx.mk (Kd.zzR (pK qO.out) (Kd.um ho0) hb)
       have zM:=zx.mk (Kd.xI (vQ qD.out) hb)
       have qw:=zx.mk (Kd.ZE (Kd.kE (ok':=fun k_=>(wh k_ ∨ w.heap.size ≤ k_) ∧ some k_ ≠ (sN:Value).ownBlock ∧ some k_ ≠ (Ux:Value).ownBlock ∧ k_ ≠ zT) (Kd.aC (Kd.Zd ho0)) (fun k_ uJ=>⟨(.inr (Nat.le_trans (zf (zG HB.out)) uJ.2.1)),(Kd.fresh' (Kd.WH (pK qO.out)) k_ uJ.2.1),(Kd.fresh' (Kd.YB (vQ qD.out)) k_ uJ.2.1),(Kd.Z4 (g:=zT) (o:=.cells #[.slice xu yR.length xA,.int .i64 ze,.int .i64 za,.bool yN,.bool yS,.slice yZ zY.length yQ,.slice xk yL.length xw,.bool xL] 30 (0,0)) (qV zQ.out) k_ uJ.2.1)⟩)) (zf (zG HB.out)))
       have xE:=zx.mk (yj (g:=zT) (o:=.cells #[.slice xu yR.length xA,.int .i64 ze,.int .i64 za,.bool yN,.bool yS,.slice yZ zY.length yQ,.slice xk yL.length xw,.bool xL] 30 (0,0)) (qV zQ.out) hb)
       have jU:=zx.mk (zC (zG HB.out) hb)
       clear y9 yg qO qD zQ HB
       have y9:=zW
       have yg:=zh
       have qO:=zo
       have qD:=zM
       have vM:=qw
       have zQ:=xE
       have HB:=jU
       clear zW zh zo zM qw xE jU
       (try clear hb)
       (try clear hk)
       (try clear ho0)
       refine hK.out _ _ ⟨zw zQ 0,zw zQ 1,zw zQ 2,zw zQ 3,zw zQ 4,zw zQ 5,zw zQ 6,zw zQ 7⟩ (fun hHeld=>?_)
       clear hK K
       refine ZF (some 48) ?_
       refine Zr 4 (some 51) zi (fun K hK=>?_)
       refine wS Tryz.func16 (by kernel_rfl) rfl #[.agg #[.int .i64 ze,.int .i64 za,.bool yN,.bool yS]] (by rfl) rfl rfl (by (try simp only [List.map_toArray,List.map_cons,List.map_nil]);first | done | rfl | (simp only [List.length_drop,List.length_take];rfl)) ?_
       with_reducible refine (je.calls ze za yN yS dZ dQ dX dJ _ A27.out).mono ?_
       rintro e w77 ⟨rfl,hb⟩
       refine ⟨_,rfl,?_⟩
       have zW:=zx.mk (Kd.wV (wT y9.out) hb)
       have zh:=zx.mk (Kd.wV (wT yg.out) hb)
       have zo:=zx.mk (Kd.kW (pK qO.out) hb)
       have zM:=zx.mk (Kd.xI (vQ qD.out) hb)
       have qw:=zx.mk (Kd.kW (pK vM.out) hb)
       have xE:=zx.mk (yj (g:=zT) (o:=.cells #[.slice xu yR.length xA,.int .i64 ze,.int .i64 za,.bool yN,.bool yS,.slice yZ zY.length yQ,.slice xk yL.length xw,.bool xL] 30 (0,0)) (qV zQ.out) hb)
       have jU:=zx.mk (zC (zG HB.out) hb)
       clear y9 yg qO qD vM zQ HB
       have y9:=zW
       have yg:=zh
       have qO:=zo
       have qD:=zM
       have vM:=qw
       have zQ:=xE
       have HB:=jU
       clear zW zh zo zM qw xE jU
       (try clear hb)
       (try clear hk)
       obtain ⟨znk,zny,znw⟩:=Kd.QD vM.out
       (first | subst znw | (injection znw with Jb iX Jc;have iJ:=Jb.symm;have iV:=Jc.symm;clear Jb iX Jc;subst iJ;subst iV))
       refine hK.out _ _ ⟨zw zQ 0,zw zQ 1,zw zQ 2,zw zQ 3,zw zQ 4,zw zQ 5,zw zQ 6,zw zQ 7⟩ (fun hHeld=>?_)
       clear hK K
       refine ZF (some 51) ?_
       refine Zr 9 (some 56) zi (fun K hK=>?_)
       refine wS Tryz.func14 (by kernel_rfl) rfl #[.slice znk Yl.length zny,.agg #[.int .i64 dZ,.int .i64 dQ,.bool dX,.bool dJ],.slice yZ zY.length yQ,.slice xk yL.length xw] (by rfl) rfl rfl (by (try simp only [List.map_toArray,List.map_cons,List.map_nil]);first | done | rfl | (simp only [List.length_drop,List.length_take];rfl)) ?_
       with_reducible refine (zA.calls Zh _ _ Yl dZ dQ dX dJ _ _ zY _ _ yL zqJ zq3 aV _ ?yc ?yG ?qZ ?qQ ?qB ?qC A28.out).mono ?_
       (case yc=>exact qY ((Kd.kR vM.out).2.2))
       (case yG=>exact (Kd.kR vM.out).2.1)
       (case qZ=>exact qY (Kd.zm uD.out HB.out))
       (case qQ=>exact jh.out)
       (case qB=>exact qY (Kd.zm Ws.out HB.out))
       (case qC=>exact gM.out)
       rintro e w79 ⟨zeM,zj4,rfl,ho0,ho1,hb⟩
       refine ⟨_,rfl,?_⟩
       have zW:=zx.mk (Kd.wL (Kd.jV (Kd.jV (Kd.YM (wT y9.out) hb) (Kd.um ho0)) (Kd.ug ho1)) (fun _ h_=>h_.1))
       have zh:=zx.mk (Kd.wL (Kd.jV (Kd.jV (Kd.YM (wT yg.out) hb) (Kd.um ho0)) (Kd.ug ho1)) (fun _ h_=>h_.1))
       have zo:=zx.mk (Kd.kE (Kd.Z5 (Kd.Z5 (Kd.tZ (pK qO.out) hb) (Kd.um ho0)) (Kd.ug ho1)) (fun _ h_=>h_.1))
       have zM:=zx.mk (Kd.ZP (vQ qD.out) (Kd.ug ho1) hb)
       have qw:=zx.mk (Kd.kE (Kd.Z5 (Kd.Z5 (Kd.tZ (pK vM.out) hb) (Kd.um ho0)) (Kd.ug ho1)) (fun _ h_=>h_.1))
       have xE:=zx.mk (Kd.ZE (Kd.kE (ok':=fun k_=>(wh k_ ∨ w.heap.size ≤ k_) ∧ some k_ ≠ (zj4:Value).ownBlock ∧ some k_ ≠ (sN:Value).ownBlock ∧ some k_ ≠ (Ux:Value).ownBlock ∧ some k_ ≠ (.slice znk Yl.length zny:Value).ownBlock ∧ k_ ≠ zT) (Kd.aC (Kd.Zd (Kd.Qn ho0 (Kd.YZ ho1) (by decide)))) (fun k_ uJ=>⟨(.inr (Nat.le_trans (zf (zG HB.out)) uJ.2.1)),uJ.1.2,(Kd.fresh' (Kd.WH (pK qO.out)) k_ uJ.2.1),(Kd.fresh' (Kd.YB (vQ qD.out)) k_ uJ.2.1),(Kd.fresh' (Kd.WH (pK vM.out)) k_ uJ.2.1),(Kd.Z4 (g:=zT) (o:=.cells #[.slice xu yR.length xA,.int .i64 ze,.int .i64 za,.bool yN,.bool yS,.slice yZ zY.length yQ,.slice xk yL.length xw,.bool xL] 30 (0,0)) (qV zQ.out) k_ uJ.2.1)⟩)) (zf (zG HB.out)))
       have jU:=zx.mk (Kd.uI (Kd.XD (Kd.dG (M:=fun k_=>(w.heap.size ≤ k_)) ho1 (zf (zG HB.out)) (fun k_ h_=>h_)) (Kd.YB (vQ qD.out))) (zf (zG HB.out)))
       have KU:=zx.mk (yj (g:=zT) (o:=.cells #[.slice xu yR.length xA,.int .i64 ze,.int .i64 za,.bool yN,.bool yS,.slice yZ zY.length yQ,.slice xk yL.length xw,.bool xL] 30 (0,0)) (qV zQ.out) hb)
       have K8:=zx.mk (zC (zG HB.out) hb)
       clear y9 yg qO qD vM zQ HB
       have y9:=zW
       have yg:=zh
       have qO:=zo
       have qD:=zM
       have vM:=qw
       have Yh:=xE
       have Zn:=jU
       have zQ:=KU
       have HB:=K8
       clear zW zh zo zM qw xE jU KU K8
       (try clear hb)
       (try clear hk)
       (try clear ho0)
       (try clear ho1)
       refine hK.out _ _ ⟨zw zQ 0,zw zQ 1,zw zQ 2,zw zQ 3,zw zQ 4,zw zQ 5,zw zQ 6,zw zQ 7⟩ (fun hHeld=>?_)
       clear hK K
       refine ZF (some 56) ?_
       refine yu 10 (some 46) zi ?_
       refine yu 11 (some 57) zi ?_
       refine yu 12 (some 58) zi ?_
       refine yu 13 (some 59) zi ?_
       refine yu 14 (some 7) zi ?_
       refine yu 15 (some 8) zi ?_
       refine yu 16 (some 9) zi ?_
       refine vW (qP zi.out (by kernel_rfl)) ?_
       try go_wp2
       go_ret
       exact ⟨by first | rfl | (simp [zH,zI] <;> rfl) | (simp [*,zH,zI] <;> rfl),by repeat (first | (with_reducible first | exact HB.out | apply yX | apply zL | apply zR | refine qK ?_ zvS.out) | exact HB.out)⟩
end Go.Proofs.YtggifbbiiickmaaGreatDoor.PX
namespace Go.Proofs.YtggifbbiiickmaaGreatDoor
open Go.RowKit Go.Proofs.zk.zu Go.Proofs.zk.yD Go.Proofs.zk.yA Go.Proofs.YtggifbbiiickmaaGreatDoor.PX
set_option linter.unusedSimpArgs false
set_option linter.unusedVariables false
theorem zQK (F l:List qo) (hF:∀ x ∈ F,Yj x) (hl:F.length ≤ 1000000000) (f s:Int) (lg kn:Bool) (chars:List ByteArray) (hc:chars.length ≤ 300) (hcz:∀ c ∈ chars,c.size ≤ 140737488355328) (pairs:List kG) (hp:pairs.length ≤ 120) (hpz:∀ p ∈ pairs,p.f0.size ≤ 140737488355328 ∧ p.f1.size ≤ 140737488355328) (al:Bool) :
  Ev (fun k=>zB.j1 k F l f s lg kn chars pairs al) true:=by
 have hok:F.all okF = true:=List.all_eq_true.2 fun x hx=>by
  obtain ⟨h3,h4,h5,_⟩:=hF x hx
  exact decide_eq_true ⟨h3,h4,h5⟩
 have hbx:=zh8 F f s lg kn chars pairs hok hl (by omega) (by omega)
 have has:=zok F hl hF
 have hrb:=zbC F hl hF f s lg kn chars hcz pairs hpz (fun all=>zb3 _ all)
 refine Ev.step (fun k=>by rw [zB.j1]) (Wv hbx (Ev.bind has (Wv (x:=je.f f s lg kn) rfl (Ev.bind hrb ?_))))
 exact zb4 F f s lg kn chars pairs
theorem zeN (l:List qo) (hl:l.length ≤ 2000000000000) (hM:∀ x ∈ l,okM x) (hS:∀ x ∈ l,x.f0.size ≤ 140737488355328 ∧ ∀ g ∈ x.f3,g.f0.size ≤ 140737488355328) (f s:Int) (lg kn:Bool) (chars:List ByteArray) (hcz:∀ c ∈ chars,c.size ≤ 140737488355328) (pairs:List kG) (hpz:∀ p ∈ pairs,p.f0.size ≤ 140737488355328 ∧ p.f1.size ≤ 140737488355328) (al:Bool) :
  Ev (fun k=>zB.f k l f s lg kn chars pairs al) true:=by
 have zaQ:Ev (fun k=>zB.j0 k true l f s lg kn chars pairs al) true:=Ev.step (fun k=>by rw [zB.j0]) (yJ rfl (Wv zbU (Ev.now _)))
 obtain ⟨b,hb,hbf⟩:=zeG l hl hM
 refine Ev.congr (fun k=>by rw [zB.f]) (Ev.bind hb ?_)
 cases b with
 | true=>exact yJ rfl zaQ
 | false =>
  obtain ⟨h10,hok⟩:=hbf rfl
  refine xQ Bool.false_ne_true ?_
  by_cases hc:(chars.length:Int) > 300
  ·exact yJ hc zaQ
  ·refine xQ hc ?_
   by_cases hp:(pairs.length:Int) > 120
   ·rw [decide_eq_true hp];exact zaQ
   ·rw [decide_eq_false hp]
    have hFl:∀ x ∈ l,Yj x:=fun x hx=>by
     obtain ⟨g3,g4,g5⟩:=hok x hx
     exact ⟨by omega,by omega,by omega,hS x hx⟩
    refine Ev.step (fun k=>by rw [zB.j0]) (xQ Bool.false_ne_true (Wv (zp5 l (by omega)) ?_))
    cases al with
    | true=>exact yJ rfl (zQK l l hFl (by omega) f s lg kn chars (by omega) hcz pairs (by omega) hpz true)
    | false =>
     refine xQ Bool.false_ne_true (zQK (gJ ++ l) l (fun x hx=>?_) (by rw [List.length_append,zVJ];omega) f s lg kn chars (by omega) hcz pairs (by omega) hpz false)
     rcases List.mem_append.1 hx with h | h
     ·exact zeH x h
     ·exact hFl x h
theorem zQi (A0:Option Addr) (c0:Nat) (l:List qo) (f s:Int) (lg kn:Bool) (A5:Option Addr) (c5:Nat) (chars:List ByteArray) (A6:Option Addr) (c6:Nat) (pairs:List kG) (al:Bool) (w:World) (hG:GW w) (q0:l.length ≤ c0) (r0:Kd.C pV w A0 l.length l) (q5:chars.length ≤ c5) (r5:Kd.C Kd.string w A5 chars.length chars) (q6:pairs.length ≤ c6) (r6:Kd.C Xl w A6 pairs.length pairs)
  (hl:l.length ≤ 2000000000000) (hS:∀ x ∈ l,okM x ∧ x.f0.size ≤ 140737488355328 ∧ ∀ g ∈ x.f3,g.f0.size ≤ 140737488355328) (hcz:∀ c ∈ chars,c.size ≤ 140737488355328) (hpz:∀ p ∈ pairs,p.f0.size ≤ 140737488355328 ∧ p.f1.size ≤ 140737488355328) :
  Calls Tryz.prog 3 #[.agg #[.slice A0 l.length c0,.int .i64 f,.int .i64 s,.bool lg,.bool kn,.slice A5 chars.length c5,.slice A6 pairs.length c6,.bool al]] w fun e w'=>e = .returned (.bool true) ∧ Below w.heap.size w w':=by
 obtain ⟨k,hk⟩:=(zeN l hl (fun x hx=>(hS x hx).1) (fun x hx=>(hS x hx).2) f s lg kn chars hcz pairs hpz al).rounds
 exact zB.calls k _ A0 c0 l f s lg kn A5 c5 chars A6 c6 pairs al true w (Kd.zrZ q0 (Kd.C_F zch r0)) r5 q5 r6 q6 hG hk
end Go.Proofs.YtggifbbiiickmaaGreatDoor
namespace Go.Proofs.YtggifbbiiickmaaGreatDoor
open Go.ChangeShapes Go.WideShapes Go.RowKit Go.Deep Go.Proofs.zk.zu
section
variable {H:Type} {enc:TypeId × Value → H} {P:Program} {w:World} {sp:Nat → Bool} {held:Bool} {α:Type}
end
theorem Vl {H:Type} {P:Program} {e:TypeId}:∀ {elems:List (DataW H)} {D:DataW H},D ∈ elems → ∀ n ∈ D.weights P e,n ∈ DataW.weightsAll P e elems
 | d0 :: r,D,h,n,hn=>by
  simp only [DataW.weightsAll,List.mem_append]
  rcases List.mem_cons.1 h with rfl | h
  ·exact .inl hn
  ·exact .inr (Vl h n hn)
end Go.Proofs.YtggifbbiiickmaaGreatDoor
namespace Go.Proofs.YtggifbbiiickmaaGreatDoor
open Go.ChangeShapes Go.WideShapes Go.RowKit Go.Deep Go.Proofs.zk.zu Go.Proofs.YtggifbbiiickmaaGreatDoor.PX
section
variable {H:Type} {enc:TypeId × Value → H} {w:World} {sp:Nat → Bool} {held:Bool}
set_option maxRecDepth 100000 in
theorem ztb (n:Nat) (cs:List Value) (x:DataW H × List MemPlace) (h:DataW.trod enc Tryz.prog w 0 sp held n 108 cs = some x):∃ y:xX,kS.K w y cs:=by
 obtain ⟨xs,k,hk,hxy,hcl,hxl,hf⟩:=DataW.trod_struct Tryz.underlying108 h
 have c0:Tryz.prog.cellsOf 108 = 3:=by kernel_rfl
 have c9:Tryz.prog.cellsOf 9 = 1:=by kernel_rfl
 rw [c0] at hcl
 match xs,hxl,cs,hcl with
 | [y0,y1,y2],_,[v0,v1,v2],_ =>
  have g0:=hf 0 _ rfl
  have g1:=hf 1 _ rfl
  have g2:=hf 2 _ rfl
  simp [c9] at g0 g1 g2
  obtain ⟨n0,e0,_⟩:=DataW.trod_string Tryz.underlying9 g0
  obtain ⟨n1,e1,_⟩:=DataW.trod_string Tryz.underlying9 g1
  obtain ⟨n2,e2,_⟩:=DataW.trod_string Tryz.underlying9 g2
  cases e0;cases e1;cases e2
  exact ⟨⟨n0,n1,n2⟩,zfR w ⟨n0,n1,n2⟩⟩
set_option maxRecDepth 100000 in
theorem ztc (n:Nat) (cs:List Value) (x:DataW H × List MemPlace) (h:DataW.trod enc Tryz.prog w 0 sp held n 111 cs = some x):∃ y:vv,wX.K w y cs:=by
 obtain ⟨xs,k,hk,hxy,hcl,hxl,hf⟩:=DataW.trod_struct Tryz.underlying111 h
 have c0:Tryz.prog.cellsOf 111 = 3:=by kernel_rfl
 have c3:Tryz.prog.cellsOf 3 = 1:=by kernel_rfl
 have c9:Tryz.prog.cellsOf 9 = 1:=by kernel_rfl
 rw [c0] at hcl
 match xs,hxl,cs,hcl with
 | [y0,y1,y2],_,[v0,v1,v2],_ =>
  have g0:=hf 0 _ rfl
  have g1:=hf 1 _ rfl
  have g2:=hf 2 _ rfl
  simp [c3,c9] at g0 g1 g2
  obtain ⟨n0,e0,_⟩:=DataW.trod_string Tryz.underlying9 g0
  obtain ⟨n1,e1,_⟩:=DataW.trod_string Tryz.underlying9 g1
  obtain ⟨n2,e2,_⟩:=DataW.trod_int Tryz.underlying3 g2
  cases e0;cases e1;cases e2
  exact ⟨⟨n0,n1,n2⟩,zfS w ⟨n0,n1,n2⟩⟩
end
end Go.Proofs.YtggifbbiiickmaaGreatDoor
namespace Go.Proofs.YtggifbbiiickmaaGreatDoor
open Go.ChangeShapes Go.WideShapes Go.RowKit Go.Deep Go.Proofs.zk.zu Go.Proofs.YtggifbbiiickmaaGreatDoor.PX
set_option linter.unusedSimpArgs false
set_option linter.unusedVariables false
section
variable {H:Type} {enc:TypeId × Value → H} {w:World} {sp:Nat → Bool} {held:Bool}
theorem Wz {α:Type} [Inhabited α] (d:Kd α) {P:Program} {t e:TypeId} (Good:α → DataW H → Prop) {fuel:Nat} {cs:List Value} {x:DataW H × List MemPlace} (ht:P.underlying t = some (.slice e)) (hc:P.cellsOf e = d.sz)
  (dec:∀ n cs x,DataW.trod enc P w 0 sp held n e cs = some x → ∃ y:α,d.K w y cs ∧ Good y x.1) (h:DataW.trod enc P w 0 sp held fuel t cs = some x) :
  ∃ A c l,cs = [.slice A l.length c] ∧ l.length ≤ c ∧ Kd.C d w A l.length l ∧ (l = [] ∨ ∃ elems spare,x.1 = .slice elems spare ∧ elems.length = l.length ∧ ∀ y ∈ l,∃ D ∈ elems,Good y D):=by
 rcases open_slice ht h with ⟨hcs,_⟩ | ⟨a,len,cap,m,n,D,Pl,hcs,_,hl,hm,hmm,hx,hel⟩
 ·exact ⟨none,0,[],hcs,Nat.le_refl _,⟨rfl,by simp,fun h=>by simp at h⟩,.inl rfl⟩
 ·have hlm:len ≤ m:=by rw [hmm];split <;> omega
  obtain ⟨F,hF⟩:=choose_lt (α:=α) (p:=fun i y=>∃ cs',w.cells? 0 (a.add (i * d.sz)) d.sz = some cs' ∧ d.K w y cs' ∧ Good y (D i)) (n:=m) (fun i hi=>by
   obtain ⟨cs',h1,h2⟩:=hel i hi
   rw [hc] at h1
   obtain ⟨y,hy,hg⟩:=dec _ _ _ h2
   exact ⟨y,cs',h1,hy,hg⟩)
  refine ⟨some a,cap,(List.range len).map F,by simp [hcs],by simpa using hl,⟨rfl,?_,fun _=>⟨a,rfl,fun j p hj=>?_⟩⟩,.inr ⟨_,_,by rw [hx],by simp,fun y hy=>?_⟩⟩
  ·have:maxLen = 9223372036854775807:=rfl
   simp;omega
  ·have hj2:j < len:=by
    rcases Nat.lt_or_ge j len with h1 | h1
    ·exact h1
    ·rw [List.getElem?_eq_none (by simpa using h1)] at hj;cases hj
   rw [List.getElem?_map,List.getElem?_range hj2] at hj
   cases hj
   obtain ⟨cs',h1,h2,_⟩:=hF j (by omega)
   obtain ⟨_,h3,h4⟩:=World.cells?_some h1
   refine ⟨cs',h3,h2,fun i u hu=>?_⟩
   have hi:i < d.sz:=by
    rw [← h3]
    rcases Nat.lt_or_ge i cs'.length with h1 | h1
    ·exact h1
    ·rw [List.getElem?_eq_none h1] at hu;cases hu
   have:=h4 i hi
   rw [Go.Deep.add_add] at this
   rw [this,hu]
  ·obtain ⟨i,hi,rfl⟩:=List.mem_map.1 hy
   have hi2:=List.mem_range.1 hi
   obtain ⟨_,_,_,hg⟩:=hF i (by omega)
   exact ⟨D i,List.mem_map.2 ⟨i,hi,rfl⟩,hg⟩
instance:Inhabited kK:=⟨z60⟩
end
end Go.Proofs.YtggifbbiiickmaaGreatDoor
namespace Go.Proofs.YtggifbbiiickmaaGreatDoor
open Go.ChangeShapes Go.WideShapes Go.RowKit Go.Deep Go.Proofs.zk.zu Go.Proofs.YtggifbbiiickmaaGreatDoor.PX
set_option linter.unusedSimpArgs false
set_option linter.unusedVariables false
section
variable {H:Type} {enc:TypeId × Value → H} {w:World} {sp:Nat → Bool} {held:Bool}
instance:Inhabited pG:=⟨z80⟩
def sO (t:TypeId) (D:DataW H):Prop:=∀ n ∈ D.weights Tryz.prog t,n ≤ reachBytes
theorem XC {t:TypeId} {fs:List TypeId} {xs:List (DataW H)} (e0:DataW.weights Tryz.prog t (.agg xs) = DataW.weightsEach Tryz.prog fs xs) (h:sO t (.agg xs)) {i:Nat} {u:TypeId} {x:DataW H} (hf:fs[i]? = some u) (hx:xs[i]? = some x):sO u x:=fun n hn=>h n (by rw [e0];exact DataW.weights_mem_each hf hx n hn)
theorem dV {α:Type} {Q:α → Prop} {t e:TypeId} {l:List α} {D:DataW H} (hu:Tryz.prog.underlying t = some (.slice e)) (g:l = [] ∨ ∃ elems spare,D = .slice elems spare ∧ elems.length = l.length ∧ ∀ y ∈ l,∃ D' ∈ elems,(sO e D' → Q y)) (hw:sO t D):l.length * Tryz.prog.bytesOf e ≤ 140737488355328 ∧ ∀ y ∈ l,Q y:=by
 rcases g with rfl | ⟨elems,spare,rfl,hlen,hg⟩
 ·exact ⟨by simp,fun y hy=>by cases hy⟩
 ·refine ⟨?_,fun y hy=>?_⟩
  ·have h1:=hw ((elems.length + spare.length) * Tryz.prog.bytesOf e) (by simp [DataW.weights,hu])
   have h2:l.length * Tryz.prog.bytesOf e ≤ (elems.length + spare.length) * Tryz.prog.bytesOf e:=Nat.mul_le_mul_right _ (by omega)
   have hB:=reachBytes_lt
   omega
  ·obtain ⟨D',hD',hq⟩:=hg y hy
   refine hq fun n hn=>hw n ?_
   simp only [DataW.weights,hu,List.mem_cons,List.mem_append]
   exact .inr (.inl (Vl hD' n hn))
theorem zzI {t:TypeId} {s:ByteArray} (h:sO t (.lit (.string s.data.toList):DataW H)):s.size ≤ 140737488355328:=by
 have h1:=h s.data.toList.length (by simp [DataW.weights])
 have hB:=reachBytes_lt
 rw [Array.length_toList] at h1
 show s.data.size ≤ _
 omega
set_option maxRecDepth 100000 in
theorem zrz (n:Nat) (cs:List Value) (x:DataW H × List MemPlace) (h:DataW.trod enc Tryz.prog w 0 sp held n 105 cs = some x):∃ y:ql,jy.K w y cs ∧ (sO 105 x.1 → y.f0.size ≤ 140737488355328):=by
 obtain ⟨xs,k,hk,hxy,hcl,hxl,hf⟩:=DataW.trod_struct Tryz.underlying105 h
 have c0:Tryz.prog.cellsOf 105 = 2:=by kernel_rfl
 have c3:Tryz.prog.cellsOf 3 = 1:=by kernel_rfl
 have c9:Tryz.prog.cellsOf 9 = 1:=by kernel_rfl
 rw [c0] at hcl
 match xs,hxl,cs,hcl with
 | [y0,y1],_,[v0,v1],_ =>
  have g0:=hf 0 _ rfl
  have g1:=hf 1 _ rfl
  simp [c3,c9] at g0 g1
  obtain ⟨n0,e0,x0,_⟩:=DataW.trod_string Tryz.underlying9 g0
  obtain ⟨n1,e1,_⟩:=DataW.trod_int Tryz.underlying3 g1
  cases e0;cases e1
  refine ⟨⟨n0,n1⟩,zfP w ⟨n0,n1⟩,fun hb=>?_⟩
  have hx:x.1 = .agg [y0.1,y1.1]:=(Prod.mk.inj hxy).1
  rw [hx,x0] at hb
  have e0:DataW.weights Tryz.prog 105 (.agg [.lit (.string n0.data.toList),y1.1]:DataW H) = DataW.weightsEach Tryz.prog [9,3] [.lit (.string n0.data.toList),y1.1]:=by
   simp only [DataW.weights,Tryz.underlying105]
   rfl
  exact zzI (XC e0 hb (i:=0) rfl rfl)
set_option maxRecDepth 100000 in
theorem zrq (n:Nat) (cs:List Value) (x:DataW H × List MemPlace) (h:DataW.trod enc Tryz.prog w 0 sp held n 60 cs = some x):∃ y:kK,pV.K w y cs ∧ (sO 60 x.1 → okM y ∧ y.f0.size ≤ 140737488355328 ∧ ∀ g ∈ y.f3,g.f0.size ≤ 140737488355328):=by
 obtain ⟨xs,k,hk,hxy,hcl,hxl,hf⟩:=DataW.trod_struct Tryz.underlying60 h
 have c0:Tryz.prog.cellsOf 60 = 6:=by kernel_rfl
 have c3:Tryz.prog.cellsOf 3 = 1:=by kernel_rfl
 have c9:Tryz.prog.cellsOf 9 = 1:=by kernel_rfl
 have c4:Tryz.prog.cellsOf 4 = 1:=by kernel_rfl
 have cG:Tryz.prog.cellsOf 56 = 1:=by kernel_rfl
 have cL:Tryz.prog.cellsOf 57 = 1:=by kernel_rfl
 have cK:Tryz.prog.cellsOf 58 = 1:=by kernel_rfl
 rw [c0] at hcl
 match xs,hxl,cs,hcl with
 | [y0,y1,y2,y3,y4,y5],_,[v0,v1,v2,v3,v4,v5],_ =>
  have g0:=hf 0 _ rfl
  have g1:=hf 1 _ rfl
  have g2:=hf 2 _ rfl
  have g3:=hf 3 _ rfl
  have g4:=hf 4 _ rfl
  have g5:=hf 5 _ rfl
  simp [c3,c9,c4,cG,cL,cK] at g0 g1 g2 g3 g4 g5
  obtain ⟨n0,e0,x0,_⟩:=DataW.trod_string Tryz.underlying9 g0
  obtain ⟨n1,e1,_⟩:=DataW.trod_bool Tryz.underlying4 g1
  obtain ⟨n2,e2,_⟩:=DataW.trod_int Tryz.underlying3 g2
  obtain ⟨A3,c3',l3,e3,q3,r3,s3⟩:=Wz jy (fun (y:ql) (D:DataW H)=>sO 105 D → y.f0.size ≤ 140737488355328) Tryz.underlying56 (by kernel_rfl) zrz g3
  obtain ⟨A4,c4',l4,e4,q4,r4,s4⟩:=Wz kS (fun (_:xX) (D:DataW H)=>sO 108 D → True) Tryz.underlying57 (by kernel_rfl) (fun n cs x h=>by obtain ⟨y,hy⟩:=ztb n cs x h;exact ⟨y,hy,fun _=>trivial⟩) g4
  obtain ⟨A5,c5',l5,e5,q5,r5,s5⟩:=Wz wX (fun (_:vv) (D:DataW H)=>sO 111 D → True) Tryz.underlying58 (by kernel_rfl) (fun n cs x h=>by obtain ⟨y,hy⟩:=ztc n cs x h;exact ⟨y,hy,fun _=>trivial⟩) g5
  cases e0;cases e1;cases e2;cases e3;cases e4;cases e5
  refine ⟨⟨n0,n1,n2,l3,l4,l5⟩,ziG w ⟨n0,n1,n2,l3,l4,l5⟩ q3 r3 q4 r4 q5 r5,fun hb=>?_⟩
  have hx:x.1 = .agg [y0.1,y1.1,y2.1,y3.1,y4.1,y5.1]:=(Prod.mk.inj hxy).1
  rw [hx] at hb
  have e0:DataW.weights Tryz.prog 60 (.agg [y0.1,y1.1,y2.1,y3.1,y4.1,y5.1]:DataW H) = DataW.weightsEach Tryz.prog [9,4,3,56,57,58] [y0.1,y1.1,y2.1,y3.1,y4.1,y5.1]:=by
   simp only [DataW.weights,Tryz.underlying60]
   rfl
  have b0:=XC e0 hb (i:=0) rfl rfl
  rw [x0] at b0
  obtain ⟨z3,w3⟩:=dV Tryz.underlying56 s3 (XC e0 hb (i:=3) rfl rfl)
  obtain ⟨z4,_⟩:=dV Tryz.underlying57 s4 (XC e0 hb (i:=4) rfl rfl)
  obtain ⟨z5,_⟩:=dV Tryz.underlying58 s5 (XC e0 hb (i:=5) rfl rfl)
  have k3:1 ≤ Tryz.prog.bytesOf 105:=of_decide_eq_true (by kernel_rfl)
  have k4:1 ≤ Tryz.prog.bytesOf 108:=of_decide_eq_true (by kernel_rfl)
  have k5:1 ≤ Tryz.prog.bytesOf 111:=of_decide_eq_true (by kernel_rfl)
  exact ⟨⟨Nat.le_trans (Nat.le_mul_of_pos_right _ k3) z3,Nat.le_trans (Nat.le_mul_of_pos_right _ k4) z4,Nat.le_trans (Nat.le_mul_of_pos_right _ k5) z5⟩,zzI b0,w3⟩
set_option maxRecDepth 100000 in
theorem zrx (n:Nat) (cs:List Value) (x:DataW H × List MemPlace) (h:DataW.trod enc Tryz.prog w 0 sp held n 80 cs = some x):∃ y:pG,Xl.K w y cs ∧ (sO 80 x.1 → y.f0.size ≤ 140737488355328 ∧ y.f1.size ≤ 140737488355328):=by
 obtain ⟨xs,k,hk,hxy,hcl,hxl,hf⟩:=DataW.trod_array Tryz.underlying80 h
 have c0:Tryz.prog.cellsOf 80 = 2:=by kernel_rfl
 have c9:Tryz.prog.cellsOf 9 = 1:=by kernel_rfl
 rw [c0] at hcl
 match xs,hxl,cs,hcl with
 | [y0,y1],_,[v0,v1],_ =>
  have g0:=hf 0 (by decide)
  have g1:=hf 1 (by decide)
  simp [c9] at g0 g1
  obtain ⟨n0,e0,x0,_⟩:=DataW.trod_string Tryz.underlying9 g0
  obtain ⟨n1,e1,x1,_⟩:=DataW.trod_string Tryz.underlying9 g1
  cases e0;cases e1
  refine ⟨⟨n0,n1⟩,ziM w ⟨n0,n1⟩,fun hb=>?_⟩
  have hx:x.1 = .agg [y0.1,y1.1]:=(Prod.mk.inj hxy).1
  rw [hx,x0,x1] at hb
  have e0:DataW.weights Tryz.prog 80 (.agg [.lit (.string n0.data.toList),.lit (.string n1.data.toList)]:DataW H) = DataW.weightsAll Tryz.prog 9 ([.lit (.string n0.data.toList),.lit (.string n1.data.toList)]:List (DataW H)):=by
   simp only [DataW.weights,Tryz.underlying80]
  refine ⟨zzI (H:=H) (t:=9) (fun n hn=>hb n ?_),zzI (H:=H) (t:=9) (fun n hn=>hb n ?_)⟩
  ·rw [e0];exact Vl (.head _) n hn
  ·rw [e0];exact Vl (.tail _ (.head _)) n hn
set_option maxRecDepth 100000 in
theorem zaX {r:Reach} {b0:Nat} {v:Value} {d0:DataW H} {ps:List MemPlace} {ts:List TypeId} {ds:List (DataW H)} {j:Nat} (hwt:(DataW.weightsEach Tryz.prog ts ds).all (· ≤ reachBytes) = true) (ht:ts[j]? = some 30) (hd:ds[j]? = some d0)
  (hval:Value.okWide Tryz.prog w r b0 30 v) (h:DataW.Trod enc Tryz.prog w 0 sp held 30 v d0 ps) :
  ∃ A0 c0 l0 f s lg kn A5 c5 l5 A6 c6 l6 al,v = .agg #[.slice A0 l0.length c0,.int .i64 f,.int .i64 s,.bool lg,.bool kn,.slice A5 l5.length c5,.slice A6 l6.length c6,.bool al] ∧ l0.length ≤ c0 ∧ Kd.C pV w A0 l0.length l0 ∧ l5.length ≤ c5 ∧ Kd.C Kd.string w A5 l5.length l5 ∧ l6.length ≤ c6 ∧ Kd.C Xl w A6 l6.length l6 ∧
   l0.length ≤ 2000000000000 ∧ (∀ x ∈ l0,okM x ∧ x.f0.size ≤ 140737488355328 ∧ ∀ g ∈ x.f3,g.f0.size ≤ 140737488355328) ∧ (∀ c ∈ l5,c.size ≤ 140737488355328) ∧ (∀ p ∈ l6,p.f0.size ≤ 140737488355328 ∧ p.f1.size ≤ 140737488355328):=by
 have hB0:sO 30 d0:=fun n hn=>by
  have:=List.all_eq_true.1 hwt _ (DataW.weights_mem_each ht hd n hn)
  simpa using this
 obtain ⟨cs,rfl,hsz⟩:=okWide_struct Tryz.underlying30 hval
 obtain ⟨fuel,hf0⟩:=h
 obtain ⟨xs,k,hk,hxy,hcl,hxl,hf⟩:=DataW.trod_struct Tryz.underlying30 hf0
 have c0:Tryz.prog.cellsOf 30 = 8:=by kernel_rfl
 have cF:Tryz.prog.cellsOf 24 = 1:=by kernel_rfl
 have cS:Tryz.prog.cellsOf 26 = 4:=by kernel_rfl
 have cC:Tryz.prog.cellsOf 27 = 1:=by kernel_rfl
 have cP:Tryz.prog.cellsOf 28 = 1:=by kernel_rfl
 have c3:Tryz.prog.cellsOf 3 = 1:=by kernel_rfl
 have c4:Tryz.prog.cellsOf 4 = 1:=by kernel_rfl
 have cG:Tryz.prog.cellsOf 22 = 1:=by kernel_rfl
 have hcs:(Value.agg cs).cells.toList = cs.toList:=by simp [Value.cells]
 rw [hcs] at hf hcl
 rw [c0] at hcl
 have hcc:cs = ⟨cs.toList⟩:=rfl
 generalize cs.toList = L at hf hcl hcc
 subst hcc
 match xs,hxl,L,hcl with
 | [y0,y1,y2,y3,y4],_,[v0,v1,v2,v3,v4,v5,v6,v7],_ =>
  have g0:=hf 0 _ rfl
  have g1:=hf 1 _ rfl
  have g2:=hf 2 _ rfl
  have g3:=hf 3 _ rfl
  have g4:=hf 4 _ rfl
  simp [cF,cS,cC,cP,c4] at g0 g1 g2 g3 g4
  have hd0:d0 = .agg [y0.1,y1.1,y2.1,y3.1,y4.1]:=(Prod.mk.inj hxy).1
  subst hd0
  have e0:DataW.weights Tryz.prog 30 (.agg [y0.1,y1.1,y2.1,y3.1,y4.1]:DataW H) = DataW.weightsEach Tryz.prog [24,26,27,28,4] [y0.1,y1.1,y2.1,y3.1,y4.1]:=by
   simp only [DataW.weights,Tryz.underlying30]
   rfl
  have bF:=XC e0 hB0 (i:=0) rfl rfl
  have bC:=XC e0 hB0 (i:=2) rfl rfl
  have bP:=XC e0 hB0 (i:=3) rfl rfl
  obtain ⟨xs1,k1,hk1,ztd,zFc,zte,hf1⟩:=DataW.trod_struct Tryz.underlying24 g0
  obtain ⟨A0,q0,l0,eF,i0,i1,bl0⟩:∃ A c l,v0 = .slice A (List.length l) c ∧ l.length ≤ c ∧ Kd.C pV w A l.length l ∧ (l.length ≤ 2000000000000 ∧ ∀ x ∈ l,okM x ∧ x.f0.size ≤ 140737488355328 ∧ ∀ g ∈ x.f3,g.f0.size ≤ 140737488355328):=by
   match xs1,zte with
   | [z0],_ =>
    have f0:=hf1 0 _ rfl
    simp [cG] at f0
    obtain ⟨A,c,l,e,a1,a2,a3⟩:=Wz pV (fun (y:kK) (D:DataW H)=>sO 60 D → okM y ∧ y.f0.size ≤ 140737488355328 ∧ ∀ g ∈ y.f3,g.f0.size ≤ 140737488355328) Tryz.underlying22 (by kernel_rfl) zrq f0
    cases e
    have hz:y0.1 = .agg [z0.1]:=(Prod.mk.inj ztd).1
    rw [hz] at bF
    have e1:DataW.weights Tryz.prog 24 (.agg [z0.1]:DataW H) = DataW.weightsEach Tryz.prog [22] [z0.1]:=by
     simp only [DataW.weights,Tryz.underlying24]
     rfl
    obtain ⟨z1,z2⟩:=dV Tryz.underlying22 a3 (XC e1 bF (i:=0) rfl rfl)
    have hby:Tryz.prog.bytesOf 60 = 104:=by kernel_rfl
    rw [hby] at z1
    exact ⟨A,c,l,rfl,a1,a2,by omega,z2⟩
  obtain ⟨f,s,lg,kn,s0,s1,s2,s3⟩:∃ (f s:Int) (lg kn:Bool),v1 = .int .i64 f ∧ v2 = .int .i64 s ∧ v3 = .bool lg ∧ v4 = .bool kn:=by
   obtain ⟨xs2,k2,hk2,zFd,zFe,ztf,hf2⟩:=DataW.trod_struct Tryz.underlying26 g1
   match xs2,ztf with
   | [z0,z1,z2,z3],_ =>
    have f0:=hf2 0 _ rfl
    have f1:=hf2 1 _ rfl
    have f2:=hf2 2 _ rfl
    have f3:=hf2 3 _ rfl
    simp [c3,c4] at f0 f1 f2 f3
    obtain ⟨n0,e0,_⟩:=DataW.trod_int Tryz.underlying3 f0
    obtain ⟨n1,e1,_⟩:=DataW.trod_int Tryz.underlying3 f1
    obtain ⟨n2,e2,_⟩:=DataW.trod_bool Tryz.underlying4 f2
    obtain ⟨n3,e3,_⟩:=DataW.trod_bool Tryz.underlying4 f3
    cases e0;cases e1;cases e2;cases e3
    exact ⟨n0,n1,n2,n3,rfl,rfl,rfl,rfl⟩
  obtain ⟨A5,q5,l5,e5,a5,r5,w5⟩:=Wz Kd.string (fun (y:ByteArray) (D:DataW H)=>sO 9 D → y.size ≤ 140737488355328) Tryz.underlying27 (by kernel_rfl) (fun n cs x hx=>by
   obtain ⟨s,e,ex,_⟩:=DataW.trod_string Tryz.underlying9 hx
   exact ⟨s,e,fun hb=>by rw [ex] at hb;exact zzI hb⟩) g2
  obtain ⟨A6,q6,l6,e6,a6,r6,w6⟩:=Wz Xl (fun (y:pG) (D:DataW H)=>sO 80 D → y.f0.size ≤ 140737488355328 ∧ y.f1.size ≤ 140737488355328) Tryz.underlying28 (by kernel_rfl) zrx g3
  obtain ⟨al,e7,_⟩:=DataW.trod_bool Tryz.underlying4 g4
  cases e5;cases e6;cases e7
  subst eF s0 s1 s2 s3
  exact ⟨A0,q0,l0,f,s,lg,kn,A5,q5,l5,A6,q6,l6,al,rfl,i0,i1,a5,r5,a6,r6,bl0.1,bl0.2,(dV Tryz.underlying27 w5 bC).2,(dV Tryz.underlying28 w6 bP).2⟩
end
end Go.Proofs.YtggifbbiiickmaaGreatDoor
namespace Go.Proofs.YtggifbbiiickmaaGreatDoor
open Go.RowKit Go.ChangeShapes Go.WideShapes Go.Proofs.zk.zu
theorem zqY {P:Program} {w:World} {l:List (String × DataW Unit)} {n nm:String} {d:DataW Unit} {g:Nat} {t:TypeId} {ms:Array (String × TypeId)} (h:laidMet P l w) (hm:(n,.iface nm d) ∈ l)
  (hg:P.globalNamed n = some g) (ht:(P.globals[g]?).map (·.type) = some t) (hu:P.underlying t = some (.interface ms)):∃ tp p,w.var? P n = some #[.iface tp p]:=by
 obtain ⟨g',t',cs,fuel,p,e1,e2,e3,e4⟩:=Lib.laidMet.reads h hm
 obtain rfl:g' = g:=Option.some.inj (e1.symm.trans hg)
 obtain rfl:t' = t:=Option.some.inj (e2.symm.trans ht)
 cases fuel with
 | zero=>simp [DataW.trod] at e4
 | succ k =>
  unfold DataW.trod at e4
  rw [hu] at e4
  obtain ⟨cl⟩:=cs
  rw [e3]
  match cl,e4 with
  | [],e4=>simp at e4
  | [v],e4 =>
   cases v <;> simp at e4
   exact ⟨_,_,rfl⟩
  | _ :: _ :: _,e4=>simp at e4
theorem zrj {W:World} {l:List (String × DataW Unit)} {ds:DataW Unit} {dr:DataW Unit} {n1 n2:String} (h:laidMet Tryz.prog l W) (hsh:W.ShapedOpen Tryz.prog) (h1:("internal/strconv.uint64pow10",Lib.tabData .u64 Lib.pow10Tab) ∈ l) (h2:("strconv.ErrSyntax",.iface n1 ds) ∈ l) (h3:("strconv.ErrRange",.iface n2 dr) ∈ l) (h4:("strings.asciiSpace",Lib.tabData .u8 Lib.asciiSpaceTab) ∈ l):GW W:=by
 have htab:Lib.TabIs Tryz.prog W "internal/strconv.uint64pow10" .u64 Lib.pow10Tab:=zqK (g:=7) (t:=270) (e:=214) (n:=20) (by kernel_rfl) (by kernel_rfl) Tryz.underlying270 Tryz.underlying214 (by kernel_rfl) (by kernel_rfl) h h1
 have ztg:Lib.TabIs Tryz.prog W "strings.asciiSpace" .u8 Lib.asciiSpaceTab:=zqK (g:=0) (t:=169) (e:=5) (n:=256) (by kernel_rfl) (by kernel_rfl) Tryz.underlying169 Tryz.underlying5 (by kernel_rfl) (by kernel_rfl) h h4
 refine ⟨htab,zqY (g:=3) h h2 (by kernel_rfl) (t:=133) (by kernel_rfl) Tryz.underlying133,zqY (g:=4) h h3 (by kernel_rfl) (t:=133) (by kernel_rfl) Tryz.underlying133,ztg,
  cell_of_shapedOpen_int (t:=3) (zero:=#[.int .i64 0]) hsh (of_decide_eq_true (by kernel_rfl)) (by kernel_rfl) rfl (by kernel_rfl) (by kernel_rfl) Tryz.underlying3,?_⟩
 obtain ⟨o,_,h4,_⟩:=hsh.2 11 (of_decide_eq_true (by kernel_rfl)) (of_decide_eq_true (by kernel_rfl))
 rcases Nat.lt_or_ge 11 W.heap.size with h5 | h5
 ·omega
 ·rw [Array.getElem?_eq_none h5] at h4;cases h4
end Go.Proofs.YtggifbbiiickmaaGreatDoor
