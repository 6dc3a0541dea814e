/-
  Texts that lean on one another, laid in one file. No condition.
-/
import Derived.Test.YtggifbbiiickmaaGreatDoorGBX1
import Derived.Test.YtggifbbiiickmaaGreatDoorGBX3
import Derived.WalkKit
import Derived.WalkSpells
import Derived.WalkLawsBesides
import Derived.RangeFuncRecord
import Derived.Deep.QuietTactic
import Derived.BigQuiet
import Derived.RangeFuncBox
import Derived.Test.YtggifbbiiickmaaGreatDoorGBX2
namespace Go.Proofs.YtggifbbiiickmaaGreatDoor.PX
open Go.RowKit Go.Proofs.zk.zu Go.Proofs.zk.yD Go.Proofs.zk.yA
attribute [local go_sem] xP xR vG vH xB xC xS xU   -- for this text's walks alone
set_option linter.unusedVariables false
set_option linter.unusedSimpArgs false
def qh.l0:Nat → List (jC) → ByteArray → Int → Option (Int)
 | 0,_,_,_=>none
 | k + 1,x0,x2,x7=>if x7 < (x0.length:Int) then (if 0 ≤ x7 then (if (zZ x0 x7).f1 = true then ((qg.f k ((zZ x0 x7).f0) ((zZ x0 x7).f1) ((zZ x0 x7).f2) ((zZ x0 x7).f3) ((zZ x0 x7).f4) ((zZ x0 x7).f5) x2).bind fun t171=>(if t171 = true then (some x7) else (qh.l0 k x0 x2 (wrap64 (x7 + 1))))) else (qh.l0 k x0 x2 (wrap64 (x7 + 1)))) else (none)) else (some (-1))
def qh.f (k:Nat) (l0:List (jC)) (a1:Int) (a2:ByteArray):Option (Int):=if 0 ≤ a1 then (if a1 < (l0.length:Int) then ((qg.f k ((zZ l0 a1).f0) ((zZ l0 a1).f1) ((zZ l0 a1).f2) ((zZ l0 a1).f3) ((zZ l0 a1).f4) ((zZ l0 a1).f5) a2).bind fun t168=>(if t168 = true then (some a1) else (qh.l0 k l0 a2 0))) else (none)) else (none)
set_option maxHeartbeats 8000000 in
set_option maxRecDepth 100000 in
theorem qh.calls (k:Nat) (A0:Option Addr) (c0:Nat) (l0:List (jC)) (a1:Int) (a2:ByteArray) (r:Int) (w:World) (hr0:Kd.C Wj w A0 l0.length l0) (hc0:l0.length ≤ c0) (h:qh.f k l0 a1 a2 = some r) :
  Calls Tryz.prog 108 #[.slice A0 l0.length c0,.int .i64 a1,.string a2] w fun e w'=>e = .returned (.int .i64 r) ∧ Below w.heap.size w w':=by
 have VH:=Tryz.underlying101
 have ji:=zx.mk hr0
 have Vm:=zx.mk hc0
 clear hr0 hc0
 have HB:=zx.mk (Below.refl w.heap.size w)
 have H:(if 0 ≤ a1 then (if a1 < (l0.length:Int) then ((qg.f k ((zZ l0 a1).f0) ((zZ l0 a1).f1) ((zZ l0 a1).f2) ((zZ l0 a1).f3) ((zZ l0 a1).f4) ((zZ l0 a1).f5) a2).bind fun t168=>(if t168 = true then (some a1) else (qh.l0 k l0 a2 0))) else (none)) else (none)) = some r:=h
 clear h
 by_cases c4:0 ≤ a1
 ·rw [if_pos c4] at H
  have Z8:decide (0 ≤ a1) = true:=decide_eq_true c4
  clear c4
  by_cases c5:a1 < (l0.length:Int)
  ·rw [if_pos c5] at H
   have pY:decide (a1 < (l0.length:Int)) = true:=decide_eq_true c5
   clear c5
   replace H:=Option.bind_eq_some_iff.mp H
   obtain ⟨t168,A60,H⟩:=H
   replace H:(if t168 = true then (some a1) else (qh.l0 k l0 a2 0)) = some r:=H
   have A6:=zx.mk A60
   clear A60
   by_cases c7:t168 = true
   ·subst c7
    have H1:(some a1) = some r:=by rw [if_pos rfl] at H;exact H
    clear H
    have H:=H1
    clear H1
    obtain rfl:=Option.some.inj H
    have zqr:0 ≤ (a1:Int):=of_decide_eq_true yF
    have zqs:a1 < (l0.length:Int):=of_decide_eq_true yF
    obtain ⟨zxQ,zZs,zZt,zZu,zZA,zZB,zZC,e167,zJY,zJW,zJa,zJb,zJc,zJd,lS,lT,lU,l7,l8,l9⟩:=Ze ji.out a1 zqr zqs
    cases e167
    have zkN:=zx.mk lT
    have zkO:=zx.mk lS
    clear lT lS
    have zkP:=zx.mk l7
    have zkR:=zx.mk lU
    clear l7 lU
    have zkS:=zx.mk l9
    have zkT:=zx.mk l8
    clear l9 l8
    replace zqr:=eq_true zqr
    replace zqs:=eq_true zqs
    go_enter Tryz.func108,Tryz.ntmps108
    go_wp2_with (first | ((with_reducible refine yE (f:=139) rfl ?_);refine jg (some 13) Tryz.func139 #[.agg #[.string ((zZ l0 a1).f0),.bool ((zZ l0 a1).f1),.int .i64 ((zZ l0 a1).f2),.slice zZs ((zZ l0 a1).f3).length zZt,.slice zZu ((zZ l0 a1).f4).length zZA,.slice zZB ((zZ l0 a1).f5).length zZC],.string a2] ?_;(with_reducible refine (qg.calls k ((zZ l0 a1).f0) ((zZ l0 a1).f1) ((zZ l0 a1).f2) _ _ ((zZ l0 a1).f3) _ _ ((zZ l0 a1).f4) _ _ ((zZ l0 a1).f5) a2 true _ ?yc ?yG ?qZ ?qQ ?qB ?qC A6.out).mono ?_);(case yc=>exact qY zkN.out);(case yG=>exact zkO.out);(case qZ=>exact qY zkP.out);(case qQ=>exact zkR.out);(case qB=>exact qY zkS.out);(case qC=>exact zkT.out);rintro e w8 ⟨rfl,hb⟩;refine ⟨_,rfl,?_⟩;have zW:=zx.mk (zC (zG HB.out) hb);clear HB;have HB:=zW;clear zW;(try clear hb);(try clear hi)))
    go_ret
    exact ⟨by first | rfl | (simp [zH,zI] <;> rfl) | (simp [*,zH,zI] <;> rfl),by repeat (first | (with_reducible first | exact HB.out | apply yX | apply zL | apply zR) | exact HB.out)⟩
   ·replace c7:=Bool.eq_false_iff.mpr c7
    subst c7
    have H1:(qh.l0 k l0 a2 0) = some r:=by rw [if_neg (show ¬ (false = true) by decide)] at H;exact H
    clear H
    have H:=H1
    clear H1
    have H':=zx.mk H
    clear H
    have zqr:0 ≤ (a1:Int):=of_decide_eq_true yF
    have zqs:a1 < (l0.length:Int):=of_decide_eq_true yF
    obtain ⟨zxQ,zZs,zZt,zZu,zZA,zZB,zZC,e167,zJY,zJW,zJa,zJb,zJc,zJd,lS,lT,lU,l7,l8,l9⟩:=Ze ji.out a1 zqr zqs
    cases e167
    have zkN:=zx.mk lT
    have zkO:=zx.mk lS
    clear lT lS
    have zkP:=zx.mk l7
    have zkR:=zx.mk lU
    clear l7 lU
    have zkS:=zx.mk l9
    have zkT:=zx.mk l8
    clear l9 l8
    replace zqr:=eq_true zqr
    replace zqs:=eq_true zqs
    go_enter Tryz.func108,Tryz.ntmps108
    go_wp2_with (first | ((with_reducible refine yE (f:=139) rfl ?_);refine jg (some 13) Tryz.func139 #[.agg #[.string ((zZ l0 a1).f0),.bool ((zZ l0 a1).f1),.int .i64 ((zZ l0 a1).f2),.slice zZs ((zZ l0 a1).f3).length zZt,.slice zZu ((zZ l0 a1).f4).length zZA,.slice zZB ((zZ l0 a1).f5).length zZC],.string a2] ?_;(with_reducible refine (qg.calls k ((zZ l0 a1).f0) ((zZ l0 a1).f1) ((zZ l0 a1).f2) _ _ ((zZ l0 a1).f3) _ _ ((zZ l0 a1).f4) _ _ ((zZ l0 a1).f5) a2 false _ ?yc ?yG ?qZ ?qQ ?qB ?qC A6.out).mono ?_);(case yc=>exact qY zkN.out);(case yG=>exact zkO.out);(case qZ=>exact qY zkP.out);(case qQ=>exact zkR.out);(case qB=>exact qY zkS.out);(case qC=>exact zkT.out);rintro e w9 ⟨rfl,hb⟩;refine ⟨_,rfl,?_⟩;have zW:=zx.mk (zC (zG HB.out) hb);clear HB;have HB:=zW;clear zW;(try clear hb);(try clear hi)))
    go_loopg [7] k (fun kq v7 w'=>∃ (uo:Int),v7 = .int .i64 uo ∧ zx (qh.l0 kq l0 a2 uo = some r) ∧ zx (kq ≤ k) ∧ zx (Below w.heap.size w w'))
    case atStart=>exact ⟨(0),(by first | rfl | (simp;done) | (simp [*];done)),H',⟨Nat.le_refl _⟩,⟨zG HB.out⟩⟩
    case round =>
     clear H'
     try clear c4
     try clear Z8
     try clear c5
     try clear pY
     try clear c7
     try clear zJY
     try clear zJW
     try clear zJa
     try clear zJb
     try clear zJc
     try clear zJd
     try clear zqr
     try clear zqs
     obtain ⟨uo,rfl,HA,uK,HB⟩:=hrel
     cases gk with
     | zero=>exact absurd HA.out (by simp [qh.l0])
     | succ k1 =>
      have H:=HA.out
      clear HA
      simp only [qh.l0] at H
      by_cases c10:uo < (l0.length:Int)
      ·rw [if_pos c10] at H
       have zvl:decide (uo < (l0.length:Int)) = true:=decide_eq_true c10
       clear c10
       by_cases c11:0 ≤ uo
       ·rw [if_pos c11] at H
        have QS:decide (0 ≤ uo) = true:=decide_eq_true c11
        clear c11
        obtain ⟨zdh,zWb⟩:∃ b_:Bool,b_ = ((zZ l0 uo).f1):=⟨_,rfl⟩
        replace H:(if zdh = true then ((qg.f k1 ((zZ l0 uo).f0) (zdh) ((zZ l0 uo).f2) ((zZ l0 uo).f3) ((zZ l0 uo).f4) ((zZ l0 uo).f5) a2).bind fun t171=>(if t171 = true then (some uo) else (qh.l0 k1 l0 a2 (wrap64 (uo + 1))))) else (qh.l0 k1 l0 a2 (wrap64 (uo + 1)))) = some r:=by rw [← zWb] at H;exact H
        have zvm:=zx.mk zWb
        clear zWb
        by_cases c13:zdh = true
        ·subst c13
         have H1:((qg.f k1 ((zZ l0 uo).f0) (true) ((zZ l0 uo).f2) ((zZ l0 uo).f3) ((zZ l0 uo).f4) ((zZ l0 uo).f5) a2).bind fun t171=>(if t171 = true then (some uo) else (qh.l0 k1 l0 a2 (wrap64 (uo + 1))))) = some r:=by rw [if_pos rfl] at H;exact H
         clear H
         have H:=H1
         clear H1
         replace H:=Option.bind_eq_some_iff.mp H
         obtain ⟨t171,zlD,H⟩:=H
         replace H:(if t171 = true then (some uo) else (qh.l0 k1 l0 a2 (wrap64 (uo + 1)))) = some r:=H
         have A14:=zx.mk zlD
         clear zlD
         by_cases c15:t171 = true
         ·subst c15
          have H1:(some uo) = some r:=by rw [if_pos rfl] at H;exact H
          clear H
          have H:=H1
          clear H1
          obtain rfl:=Option.some.inj H
          have sQ:0 ≤ (uo:Int):=of_decide_eq_true yF
          have sJ:uo < (l0.length:Int):=of_decide_eq_true yF
          obtain ⟨zvn,zbk,zby,zbw,zbZ,zbQ,zbX,e169,Y6,ZI,Y7,YQ,YX,YJ,KD,KE,KF,KG,KH,KI⟩:=Ze ji.out uo sQ sJ
          (try rw [← zvm.out] at ZI)
          obtain rfl:zxQ = zvn:=(by injection e169)
          replace Y6:=(HB.out.cell (World.block_lt_of_cell? w _ Y6)).trans Y6
          replace ZI:=(HB.out.cell (World.block_lt_of_cell? w _ ZI)).trans ZI
          replace Y7:=(HB.out.cell (World.block_lt_of_cell? w _ Y7)).trans Y7
          replace YQ:=(HB.out.cell (World.block_lt_of_cell? w _ YQ)).trans YQ
          replace YX:=(HB.out.cell (World.block_lt_of_cell? w _ YX)).trans YX
          replace YJ:=(HB.out.cell (World.block_lt_of_cell? w _ YJ)).trans YJ
          have zJe:=zx.mk KE
          have zJf:=zx.mk KD
          clear KE KD
          have zJg:=zx.mk KG
          have zJh:=zx.mk KF
          clear KG KF
          have zJi:=zx.mk KI
          have zJl:=zx.mk KH
          clear KI KH
          replace sQ:=eq_true sQ
          replace sJ:=eq_true sJ
          have zjs:0 ≤ (uo:Int):=of_decide_eq_true yF
          have zjt:uo < (l0.length:Int):=of_decide_eq_true yF
          obtain ⟨zWc,zlE,zlF,zlG,zlH,zlI,zlL,e170,bM,QT,bN,QU,Q0,Q5,oz,oq,ow,oZ,oQ,oJ⟩:=Ze ji.out uo zjs zjt
          (try rw [← zvm.out] at QT)
          obtain rfl:zxQ = zWc:=(by injection e170)
          replace bM:=(HB.out.cell (World.block_lt_of_cell? w _ bM)).trans bM
          replace QT:=(HB.out.cell (World.block_lt_of_cell? w _ QT)).trans QT
          replace bN:=(HB.out.cell (World.block_lt_of_cell? w _ bN)).trans bN
          replace QU:=(HB.out.cell (World.block_lt_of_cell? w _ QU)).trans QU
          replace Q0:=(HB.out.cell (World.block_lt_of_cell? w _ Q0)).trans Q0
          replace Q5:=(HB.out.cell (World.block_lt_of_cell? w _ Q5)).trans Q5
          have zkU:=zx.mk oq
          have zk0:=zx.mk oz
          clear oq oz
          have zk1:=zx.mk oZ
          have zk2:=zx.mk ow
          clear oZ ow
          have zk3:=zx.mk oJ
          have zk4:=zx.mk oQ
          clear oJ oQ
          replace zjs:=eq_true zjs
          replace zjt:=eq_true zjt
          have qN:=Option.some.inj (YQ.symm.trans QU)
          injection qN with qN jc jd
          subst qN
          subst jd
          clear jc
          have qN:=Option.some.inj (YX.symm.trans Q0)
          injection qN with qN jc jd
          subst qN
          subst jd
          clear jc
          have qN:=Option.some.inj (YJ.symm.trans Q5)
          injection qN with qN jc jd
          subst qN
          subst jd
          clear jc
          go_wp2_with (first | (go_at_call 139;(with_reducible refine (qg.calls k1 ((zZ l0 uo).f0) true ((zZ l0 uo).f2) _ _ ((zZ l0 uo).f3) _ _ ((zZ l0 uo).f4) _ _ ((zZ l0 uo).f5) a2 true _ ?yc ?yG ?qZ ?qQ ?qB ?qC A14.out).mono ?_);(case yc=>exact qY (Kd.zm zkU.out HB.out));(case yG=>exact zk0.out);(case qZ=>exact qY (Kd.zm zk1.out HB.out));(case qQ=>exact zk2.out);(case qB=>exact qY (Kd.zm zk3.out HB.out));(case qC=>exact zk4.out);rintro e w16 ⟨rfl,hb⟩;have zW:=zx.mk (zC (zG HB.out) hb);clear HB;have HB:=zW;clear zW;(try clear hb);(try clear hi)))
          go_ret
          exact ⟨by first | rfl | (simp [zH,zI] <;> rfl) | (simp [*,zH,zI] <;> rfl),by repeat (first | (with_reducible first | exact HB.out | apply yX | apply zL | apply zR) | exact HB.out)⟩
         ·replace c15:=Bool.eq_false_iff.mpr c15
          subst c15
          have H1:(qh.l0 k1 l0 a2 (wrap64 (uo + 1))) = some r:=by rw [if_neg (show ¬ (false = true) by decide)] at H;exact H
          clear H
          have H:=H1
          clear H1
          have H':=zx.mk H
          clear H
          have sQ:0 ≤ (uo:Int):=of_decide_eq_true yF
          have sJ:uo < (l0.length:Int):=of_decide_eq_true yF
          obtain ⟨zvn,zbk,zby,zbw,zbZ,zbQ,zbX,e169,Y6,ZI,Y7,YQ,YX,YJ,KD,KE,KF,KG,KH,KI⟩:=Ze ji.out uo sQ sJ
          (try rw [← zvm.out] at ZI)
          obtain rfl:zxQ = zvn:=(by injection e169)
          replace Y6:=(HB.out.cell (World.block_lt_of_cell? w _ Y6)).trans Y6
          replace ZI:=(HB.out.cell (World.block_lt_of_cell? w _ ZI)).trans ZI
          replace Y7:=(HB.out.cell (World.block_lt_of_cell? w _ Y7)).trans Y7
          replace YQ:=(HB.out.cell (World.block_lt_of_cell? w _ YQ)).trans YQ
          replace YX:=(HB.out.cell (World.block_lt_of_cell? w _ YX)).trans YX
          replace YJ:=(HB.out.cell (World.block_lt_of_cell? w _ YJ)).trans YJ
          have zJe:=zx.mk KE
          have zJf:=zx.mk KD
          clear KE KD
          have zJg:=zx.mk KG
          have zJh:=zx.mk KF
          clear KG KF
          have zJi:=zx.mk KI
          have zJl:=zx.mk KH
          clear KI KH
          replace sQ:=eq_true sQ
          replace sJ:=eq_true sJ
          have zjs:0 ≤ (uo:Int):=of_decide_eq_true yF
          have zjt:uo < (l0.length:Int):=of_decide_eq_true yF
          obtain ⟨zWc,zlE,zlF,zlG,zlH,zlI,zlL,e170,bM,QT,bN,QU,Q0,Q5,oz,oq,ow,oZ,oQ,oJ⟩:=Ze ji.out uo zjs zjt
          (try rw [← zvm.out] at QT)
          obtain rfl:zxQ = zWc:=(by injection e170)
          replace bM:=(HB.out.cell (World.block_lt_of_cell? w _ bM)).trans bM
          replace QT:=(HB.out.cell (World.block_lt_of_cell? w _ QT)).trans QT
          replace bN:=(HB.out.cell (World.block_lt_of_cell? w _ bN)).trans bN
          replace QU:=(HB.out.cell (World.block_lt_of_cell? w _ QU)).trans QU
          replace Q0:=(HB.out.cell (World.block_lt_of_cell? w _ Q0)).trans Q0
          replace Q5:=(HB.out.cell (World.block_lt_of_cell? w _ Q5)).trans Q5
          have zkU:=zx.mk oq
          have zk0:=zx.mk oz
          clear oq oz
          have zk1:=zx.mk oZ
          have zk2:=zx.mk ow
          clear oZ ow
          have zk3:=zx.mk oJ
          have zk4:=zx.mk oQ
          clear oJ oQ
          replace zjs:=eq_true zjs
          replace zjt:=eq_true zjt
          have qN:=Option.some.inj (YQ.symm.trans QU)
          injection qN with qN jc jd
          subst qN
          subst jd
          clear jc
          have qN:=Option.some.inj (YX.symm.trans Q0)
          injection qN with qN jc jd
          subst qN
          subst jd
          clear jc
          have qN:=Option.some.inj (YJ.symm.trans Q5)
          injection qN with qN jc jd
          subst qN
          subst jd
          clear jc
          go_wp2_with (first | (go_at_call 139;(with_reducible refine (qg.calls k1 ((zZ l0 uo).f0) true ((zZ l0 uo).f2) _ _ ((zZ l0 uo).f3) _ _ ((zZ l0 uo).f4) _ _ ((zZ l0 uo).f5) a2 false _ ?yc ?yG ?qZ ?qQ ?qB ?qC A14.out).mono ?_);(case yc=>exact qY (Kd.zm zkU.out HB.out));(case yG=>exact zk0.out);(case qZ=>exact qY (Kd.zm zk1.out HB.out));(case qQ=>exact zk2.out);(case qB=>exact qY (Kd.zm zk3.out HB.out));(case qC=>exact zk4.out);rintro e Vn ⟨rfl,hb⟩;have zW:=zx.mk (zC (zG HB.out) hb);clear HB;have HB:=zW;clear zW;(try clear hb);(try clear hi)))
          go_roundg k1
          case measure=>have:=uK.out;omega
          case rel=>exact ⟨(wrap64 (uo + 1)),(by first | rfl | (simp;done) | (simp [*];done)),H',⟨by have:=uK.out;omega⟩,⟨zG HB.out⟩⟩
        ·replace c13:=Bool.eq_false_iff.mpr c13
         subst c13
         have H1:(qh.l0 k1 l0 a2 (wrap64 (uo + 1))) = some r:=by rw [if_neg (show ¬ (false = true) by decide)] at H;exact H
         clear H
         have H:=H1
         clear H1
         have H':=zx.mk H
         clear H
         have sQ:0 ≤ (uo:Int):=of_decide_eq_true yF
         have sJ:uo < (l0.length:Int):=of_decide_eq_true yF
         obtain ⟨zvn,zbk,zby,zbw,zbZ,zbQ,zbX,e169,Y6,ZI,Y7,YQ,YX,YJ,KD,KE,KF,KG,KH,KI⟩:=Ze ji.out uo sQ sJ
         (try rw [← zvm.out] at ZI)
         obtain rfl:zxQ = zvn:=(by injection e169)
         replace Y6:=(HB.out.cell (World.block_lt_of_cell? w _ Y6)).trans Y6
         replace ZI:=(HB.out.cell (World.block_lt_of_cell? w _ ZI)).trans ZI
         replace Y7:=(HB.out.cell (World.block_lt_of_cell? w _ Y7)).trans Y7
         replace YQ:=(HB.out.cell (World.block_lt_of_cell? w _ YQ)).trans YQ
         replace YX:=(HB.out.cell (World.block_lt_of_cell? w _ YX)).trans YX
         replace YJ:=(HB.out.cell (World.block_lt_of_cell? w _ YJ)).trans YJ
         have zJe:=zx.mk KE
         have zJf:=zx.mk KD
         clear KE KD
         have zJg:=zx.mk KG
         have zJh:=zx.mk KF
         clear KG KF
         have zJi:=zx.mk KI
         have zJl:=zx.mk KH
         clear KI KH
         replace sQ:=eq_true sQ
         replace sJ:=eq_true sJ
         go_wp2
         go_roundg k1
         case measure=>have:=uK.out;omega
         case rel=>exact ⟨(wrap64 (uo + 1)),(by first | rfl | (simp;done) | (simp [*];done)),H',⟨by have:=uK.out;omega⟩,⟨zG HB.out⟩⟩
       ·rw [if_neg c11] at H
        exact absurd H (by simp)
      ·rw [if_neg c10] at H
       have zvl:decide (uo < (l0.length:Int)) = false:=decide_eq_false c10
       clear c10
       obtain rfl:=Option.some.inj H
       go_wp2
       go_ret
       exact ⟨by first | rfl | (simp [zH,zI] <;> rfl) | (simp [*,zH,zI] <;> rfl),by repeat (first | (with_reducible first | exact HB.out | apply yX | apply zL | apply zR) | exact HB.out)⟩
  ·rw [if_neg c5] at H
   exact absurd H (by simp)
 ·rw [if_neg c4] at H
  exact absurd H (by simp)
end Go.Proofs.YtggifbbiiickmaaGreatDoor.PX
namespace Go.Proofs.YtggifbbiiickmaaGreatDoor
open Go.RowKit Go.Proofs.zk.zu Go.Proofs.zk.yD Go.Proofs.zk.yA Go.Proofs.YtggifbbiiickmaaGreatDoor.PX
set_option linter.unusedSimpArgs false
set_option linter.unusedVariables false
abbrev zz9:=jC
def kr (x:qo):zz9:=⟨x.f0,x.f1,x.f2,x.f3.map kV,x.f4.map wo,x.f5.map wu⟩
def Yj (x:qo):Prop:=x.f3.length ≤ 1000000000 ∧ x.f4.length ≤ 1000000000 ∧ x.f5.length ≤ 1000000000 ∧ x.f0.size ≤ 140737488355328 ∧ ∀ y ∈ x.f3,y.f0.size ≤ 140737488355328
theorem zZD (l:List qo) (i:Nat) (h:i < l.length):zZ (l.map kr) (i:Int) = kr l[i]:=by simp [zZ,List.getD_eq_getElem?_getD,h]
theorem zWd (l:List qo) (i:Nat) (h:i < l.length):zK l (i:Int) = l[i]:=by simp [zK,List.getD_eq_getElem?_getD,h]
theorem zlM (l:List kG) (i:Nat) (h:i < l.length):j6 l (i:Int) = l[i]:=by simp [j6,List.getD_eq_getElem?_getD,h]
theorem sV {α β:Type} (f:α → β) (l:List α) (j:Nat) (h:j < l.length):(l.map f).take (j + 1) = (l.map f).take j ++ [f l[j]]:=by
 rw [List.take_add_one];congr 1;simp [h]
theorem zox (l:List qo) (i:Nat) (hi:i < l.length) (hl:l.length ≤ 1000000000) (x:qo) (hx:zK l (i:Int) = x) (hF:x.f5.length ≤ 1000000000) (acc:List zz9) (hacc:acc.length ≤ 1000000000) (a:ByteArray) (b:Bool) (c:Int) (g3:List uX) (g4:List uG) (r:List zz9)
  (hr:Ev (fun k=>zl.l0 k l (acc ++ [⟨a,b,c,g3,g4,x.f5.map wu⟩]) ((i + 1:Nat):Int)) r):∀ d j,j + d = x.f5.length → Ev (fun k=>zl.l3 k l acc (i:Int) (j:Int) a b c g3 g4 ((x.f5.map wu).take j)) r:=by
 have hwi:wrap64 ((i:Int) + 1) = ((i + 1:Nat):Int):=(wK (by omega) (by omega)).trans (by omega)
 have p1:(0:Int) ≤ (i:Int):=by omega
 have p2:(i:Int) < (l.length:Int):=by omega
 intro d
 induction d with
 | zero =>
  intro j h
  refine Ev.step (fun k=>by rw [zl.l3,hx,hwi]) (yJ p1 (yJ p2 (xQ (by omega) (yJ (by omega) ?_))))
  rw [List.take_of_length_le (by rw [List.length_map];omega)];exact hr
 | succ d ih =>
  intro j h
  have hj:j < x.f5.length:=by omega
  have hw:wrap64 ((j:Int) + 1) = ((j + 1:Nat):Int):=(wK (by omega) (by omega)).trans (by omega)
  have q1:(j:Int) < (x.f5.length:Int):=by omega
  have q2:(0:Int) ≤ (j:Int):=by omega
  have q3:((x.f5.map wu).take j).length < 3518437208883:=by rw [List.length_take,List.length_map];omega
  have hs:=ih (j + 1) (by omega)
  rw [sV wu x.f5 j hj] at hs
  refine Ev.step (fun k=>by rw [zl.l3,hx,hw,zwT x.f5 j hj]) (yJ p1 (yJ p2 (yJ q1 (yJ q2 (yJ q3 ?_)))))
  exact hs
theorem zoj (l:List qo) (i:Nat) (hi:i < l.length) (hl:l.length ≤ 1000000000) (x:qo) (hx:zK l (i:Int) = x) (hF:x.f4.length ≤ 1000000000) (acc:List zz9) (a:ByteArray) (b:Bool) (c:Int) (g3:List uX) (r:List zz9)
  (hr:Ev (fun k=>zl.l3 k l acc (i:Int) 0 a b c g3 (x.f4.map wo) []) r):∀ d j,j + d = x.f4.length → Ev (fun k=>zl.l2 k l acc (i:Int) (j:Int) a b c g3 ((x.f4.map wo).take j)) r:=by
 have p1:(0:Int) ≤ (i:Int):=by omega
 have p2:(i:Int) < (l.length:Int):=by omega
 intro d
 induction d with
 | zero =>
  intro j h
  refine Ev.step (fun k=>by rw [zl.l2,hx]) (yJ p1 (yJ p2 (xQ (by omega) ?_)))
  rw [List.take_of_length_le (by rw [List.length_map];omega)];exact hr
 | succ d ih =>
  intro j h
  have hj:j < x.f4.length:=by omega
  have hw:wrap64 ((j:Int) + 1) = ((j + 1:Nat):Int):=(wK (by omega) (by omega)).trans (by omega)
  have q1:(j:Int) < (x.f4.length:Int):=by omega
  have q2:(0:Int) ≤ (j:Int):=by omega
  have q3:((x.f4.map wo).take j).length < 2932031007402:=by rw [List.length_take,List.length_map];omega
  have hs:=ih (j + 1) (by omega)
  rw [sV wo x.f4 j hj] at hs
  refine Ev.step (fun k=>by rw [zl.l2,hx,hw,zwS x.f4 j hj]) (yJ p1 (yJ p2 (yJ q1 (yJ q2 (yJ q3 ?_)))))
  exact hs
theorem zov (l:List qo) (i:Nat) (hi:i < l.length) (hl:l.length ≤ 1000000000) (x:qo) (hx:zK l (i:Int) = x) (hF:x.f3.length ≤ 1000000000) (acc:List zz9) (a:ByteArray) (b:Bool) (c:Int) (r:List zz9)
  (hr:Ev (fun k=>zl.l2 k l acc (i:Int) 0 a b c (x.f3.map kV) []) r):∀ d j,j + d = x.f3.length → Ev (fun k=>zl.l1 k l acc (i:Int) (j:Int) a b c ((x.f3.map kV).take j)) r:=by
 have p1:(0:Int) ≤ (i:Int):=by omega
 have p2:(i:Int) < (l.length:Int):=by omega
 intro d
 induction d with
 | zero =>
  intro j h
  refine Ev.step (fun k=>by rw [zl.l1,hx]) (yJ p1 (yJ p2 (xQ (by omega) ?_)))
  rw [List.take_of_length_le (by rw [List.length_map];omega)];exact hr
 | succ d ih =>
  intro j h
  have hj:j < x.f3.length:=by omega
  have hw:wrap64 ((j:Int) + 1) = ((j + 1:Nat):Int):=(wK (by omega) (by omega)).trans (by omega)
  have q1:(j:Int) < (x.f3.length:Int):=by omega
  have q2:(0:Int) ≤ (j:Int):=by omega
  have q3:((x.f3.map kV).take j).length < 5864062014805:=by rw [List.length_take,List.length_map];omega
  have hs:=ih (j + 1) (by omega)
  rw [sV kV x.f3 j hj] at hs
  refine Ev.step (fun k=>by rw [zl.l1,hx,hw,gZ x.f3 j hj]) (yJ p1 (yJ p2 (yJ q1 (yJ q2 (yJ q3 ?_)))))
  exact hs
theorem zrA (l:List qo) (hl:l.length ≤ 1000000000) (hF:∀ x ∈ l,Yj x):∀ d i,i + d = l.length → Ev (fun k=>zl.l0 k l ((l.map kr).take i) (i:Int)) (l.map kr):=by
 intro d
 induction d with
 | zero =>
  intro i h
  refine Ev.step (fun k=>by rw [zl.l0]) (xQ (by omega) (jM ?_ (Ev.now _)))
  rw [List.take_of_length_le (by rw [List.length_map];omega)]
 | succ d ih =>
  intro i h
  have hi:i < l.length:=by omega
  have hr:=ih (i + 1) (by omega)
  rw [sV kr l i hi] at hr
  have hx:=zWd l i hi
  obtain ⟨h3,h4,h5,_⟩:=hF _ (List.getElem_mem hi)
  have q1:(i:Int) < (l.length:Int):=by omega
  have q2:(0:Int) ≤ (i:Int):=by omega
  have hacc:((l.map kr).take i).length ≤ 1000000000:=by rw [List.length_take];omega
  generalize l[i] = x at hr hx h3 h4 h5
  have s3:=zox l i hi hl x hx h5 ((l.map kr).take i) hacc x.f0 x.f1 x.f2 (x.f3.map kV) (x.f4.map wo) _ hr x.f5.length 0 (by omega)
  have s2:=zoj l i hi hl x hx h4 ((l.map kr).take i) x.f0 x.f1 x.f2 (x.f3.map kV) _ (by simpa using s3) x.f4.length 0 (by omega)
  have s1:=zov l i hi hl x hx h3 ((l.map kr).take i) x.f0 x.f1 x.f2 _ (by simpa using s2) x.f3.length 0 (by omega)
  exact Ev.step (fun k=>by rw [zl.l0,hx]) (yJ q1 (yJ q2 (by simpa using s1)))
theorem zok (l:List qo) (hl:l.length ≤ 1000000000) (hF:∀ x ∈ l,Yj x):Ev (fun k=>zl.f k l) (l.map kr):=by
 have h:=zrA l hl hF l.length 0 (by omega)
 rw [List.take_zero] at h
 exact Ev.congr (fun k=>by rw [zl.f];rfl) h
theorem zhb (l:List qo) (hl:l.length ≤ 1000000000) (hF:∀ x ∈ l,Yj x):∀ d i,i + d = l.length → Ev (fun k=>qI.l0 k (l.map kr) (i:Int)) ((l.drop i).all jW):=by
 intro d
 induction d with
 | zero =>
  intro i h
  refine Ev.step (fun k=>by rw [qI.l0,List.length_map]) (xQ (by omega) (jM ?_ (Ev.now _)))
  rw [List.drop_eq_nil_of_le (by omega)];rfl
 | succ d ih =>
  intro i h
  have hi:i < l.length:=by omega
  have hr:=ih (i + 1) (by omega)
  have hw:wrap64 ((i:Int) + 1) = ((i + 1:Nat):Int):=(wK (by omega) (by omega)).trans (by omega)
  have hx:=zZD l i hi
  obtain ⟨h3,h4,h5,ha,hz⟩:=hF _ (List.getElem_mem hi)
  have q1:(i:Int) < (l.length:Int):=by omega
  have q2:(0:Int) ≤ (i:Int):=by omega
  rw [List.drop_eq_getElem_cons hi,List.all_cons]
  generalize l[i] = x at hx h3 h4 h5 ha hz ⊢
  have hv:=zz3 x.f0 x.f1 x.f2 x.f3 x.f4 x.f5 h3 h4 h5 ha hz
  refine Ev.step (fun k=>by rw [qI.l0,List.length_map,hx,hw]) (yJ q1 (yJ q2 ?_))
  refine Wv hv ?_
  show Ev _ (vN x.f0 x.f2 x.f3 x.f4 x.f5 && _)
  cases vN x.f0 x.f2 x.f3 x.f4 x.f5 with
  | true=>exact yJ rfl hr
  | false=>exact xQ (by simp) (Ev.now _)
theorem zdi (l:List qo) (hl:l.length ≤ 1000000000) (hF:∀ x ∈ l,Yj x):Ev (fun k=>qI.f k (l.map kr)) (l.all jW):=by
 have h:=zhb l hl hF l.length 0 (by omega)
 rw [List.drop_zero] at h
 exact Ev.congr (fun k=>by rw [qI.f];rfl) h
theorem zhc (l:List UInt8) (hl:l.length ≤ 140737488355328):∀ d i,l.length - i = d → i ≤ l.length → Ev (fun k=>qy.l0 k (bar l) (i:Int)) ((l.drop i).all okB && (decide (1 ≤ l.length) && decide (l.length ≤ 10))):=by
 intro d
 induction d with
 | zero =>
  intro i hd hi
  have e:l.drop i = []:=List.drop_eq_nil_of_le (by omega)
  rw [e]
  refine Ev.step (fun k=>by rw [qy.l0,WO]) (xQ (by omega) ?_)
  by_cases h:1 ≤ l.length
  ·refine yJ (by omega) (jM ?_ (Ev.now _))
   rw [List.all_nil,decide_eq_true h,Bool.true_and,Bool.true_and]
   exact decide_eq_decide.2 (by omega)
  ·refine xQ (by omega) (jM ?_ (Ev.now _))
   rw [List.all_nil,decide_eq_false h];rfl
 | succ d ih =>
  intro i hd hi
  have h1:i < l.length:=by omega
  have q0:(0:Int) ≤ (i:Int):=by omega
  have q1:(i:Int) < (l.length:Int):=by omega
  have hw:wrap64 ((i:Int) + 1) = ((i + 1:Nat):Int):=(wK (by omega) (by omega)).trans (by omega)
  have hr:=ih (i + 1) (by omega) (by omega)
  have hb:=zkx l i h1
  rw [List.drop_eq_getElem_cons h1,List.all_cons]
  refine Ev.step (fun k=>by rw [qy.l0,WO,hb,hw]) (yJ q1 (yJ q0 ?_))
  clear hb hw
  generalize l[i] = b at *
  by_cases a1:b.toNat < 33
  ·refine yJ (by omega) (jM ?_ (Ev.now _))
   have:okB b = false:=by unfold okB;rw [decide_eq_false (by omega:¬ 33 ≤ b.toNat)];rfl
   rw [this];rfl
  ·refine xQ (by omega) ?_
   by_cases a2:126 < b.toNat
   ·refine yJ (by omega) (jM ?_ (Ev.now _))
    have:okB b = false:=by unfold okB;rw [decide_eq_false (by omega:¬ b.toNat ≤ 126),Bool.and_false]
    rw [this];rfl
   ·refine xQ (by omega) (jM ?_ hr)
    have:okB b = true:=by unfold okB;rw [decide_eq_true (by omega:33 ≤ b.toNat),decide_eq_true (by omega:b.toNat ≤ 126)];rfl
    rw [this,Bool.true_and]
theorem zqt (s:ByteArray) (hs:s.size ≤ 140737488355328):Ev (fun k=>qy.f k s) (!Yq s):=by
 obtain ⟨l,rfl⟩:=zfU s
 rw [WO] at hs
 have h1:Ev (fun k=>qy.l0 k (bar l) 0) _:=zhc l hs _ 0 rfl (Nat.zero_le _)
 refine Ev.congr (fun k=>by rw [qy.f]) (jM ?_ h1)
 rw [List.drop_zero]
 unfold Yq Zi
 rw [Bool.not_not,zct,Bool.and_comm,Bool.and_assoc]
theorem zZE (c:ByteArray) (l:List kG) (hl:l.length ≤ 1000000000):∀ d i,i + d = l.length → Ev (fun k=>qp.l0 k c l (i:Int)) (tu (l.drop i) c):=by
 intro d
 induction d with
 | zero =>
  intro i h
  refine Ev.step (fun k=>by rw [qp.l0]) (xQ (by omega) (jM ?_ (Ev.now _)))
  rw [List.drop_eq_nil_of_le (by omega)];rfl
 | succ d ih =>
  intro i h
  have hi:i < l.length:=by omega
  have hr:=ih (i + 1) (by omega)
  have hw:wrap64 ((i:Int) + 1) = ((i + 1:Nat):Int):=(wK (by omega) (by omega)).trans (by omega)
  have hx:=zlM l i hi
  have q1:(i:Int) < (l.length:Int):=by omega
  have q2:(0:Int) ≤ (i:Int):=by omega
  rw [List.drop_eq_getElem_cons hi]
  unfold tu at hr ⊢
  rw [List.find?_cons]
  refine Ev.step (fun k=>by rw [qp.l0,hx,hw]) (yJ q1 (yJ q2 ?_))
  by_cases he:l[i].f0 = c
  ·refine yJ (YR.2 he) (jM ?_ (Ev.now _))
   rw [decide_eq_true he]
  ·refine xQ (fun e=>he (YR.1 e)) (jM ?_ hr)
   rw [decide_eq_false he]
theorem zwJ (c:ByteArray) (l:List kG) (hl:l.length ≤ 1000000000):Ev (fun k=>qp.f k c l) (tu l c):=by
 have h:=zZE c l hl l.length 0 (by omega)
 rw [List.drop_zero] at h
 exact Ev.congr (fun k=>by rw [qp.f];rfl) h
theorem rdS (l:List ByteArray) (i:Nat) (h:i < l.length):qb ByteArray.empty l (i:Int) = l[i]:=by rw [zwF];simp [List.getD_eq_getElem?_getD,h]
theorem zdl (x:qo) (hx:Yj x) (l:List ByteArray) (hl:l.length ≤ 1000000000):∀ d i,i + d = l.length →
  (∀ acc:List ByteArray,acc.length ≤ i → Ev (fun k=>zU.l0 k l acc (i:Int) x.f0 x.f1 x.f2 (x.f3.map kV) (x.f4.map wo) (x.f5.map wu)) (acc ++ wY (fjoin x) (l.drop i))) ∧
  (0 < d → ∀ (acc:List ByteArray) (c:ByteArray),acc.length ≤ i → Ev (fun k=>zU.l1 k l acc (i:Int) c x.f0 x.f1 x.f2 (x.f3.map kV) (x.f4.map wo) (x.f5.map wu)) (acc ++ (Y3 (fjoin x) c (l.drop (i + 1))).1 :: wY (fjoin x) (Y3 (fjoin x) c (l.drop (i + 1))).2)):=by
 obtain ⟨h3,h4,h5,ha,hz⟩:=hx
 intro d
 induction d with
 | zero =>
  intro i h
  refine ⟨fun acc hacc=>Ev.step (fun k=>by rw [zU.l0]) (xQ (by omega) (jM ?_ (Ev.now _))),fun h=>absurd h (Nat.lt_irrefl _)⟩
  rw [List.drop_eq_nil_of_le (by omega),wY,List.append_nil]
 | succ d ih =>
  intro i h
  have hi:i < l.length:=by omega
  have hw:wrap64 ((i:Int) + 1) = ((i + 1:Nat):Int):=(wK (by omega) (by omega)).trans (by omega)
  have q1:(i:Int) < (l.length:Int):=by omega
  have q2:(0:Int) ≤ (i:Int):=by omega
  have p2:(0:Int) ≤ ((i + 1:Nat):Int):=by omega
  obtain ⟨g0,g1⟩:=ih (i + 1) (by omega)
  have key:∀ (acc:List ByteArray) (c:ByteArray),acc.length ≤ i → Ev (fun k=>zU.l1 k l acc (i:Int) c x.f0 x.f1 x.f2 (x.f3.map kV) (x.f4.map wo) (x.f5.map wu)) (acc ++ (Y3 (fjoin x) c (l.drop (i + 1))).1 :: wY (fjoin x) (Y3 (fjoin x) c (l.drop (i + 1))).2):=by
   intro acc c hacc
   have q3:acc.length < 8796093022208:=by omega
   by_cases hd:i + 1 < l.length
   ·have p1:((i + 1:Nat):Int) < (l.length:Int):=by omega
    have hj:=znr x.f0 x.f1 x.f2 x.f3 x.f4 x.f5 c l[i + 1] h3 h4 h5 ha hz
    rw [List.drop_eq_getElem_cons hd,Y3]
    refine Ev.step (fun k=>by rw [zU.l1,hw,rdS l (i + 1) hd]) (yJ p1 (yJ p2 (Ev.bind hj ?_)))
    show Ev (fun n=>if (fjoin x c l[i + 1]).2 = true then zU.l1 n l acc ((i + 1:Nat):Int) (fjoin x c l[i + 1]).1 x.f0 x.f1 x.f2 (x.f3.map kV) (x.f4.map wo) (x.f5.map wu) else _) _
    by_cases hq:(fjoin x c l[i + 1]).2 = true
    ·rw [if_pos hq]
     exact yJ hq (g1 (by omega) acc _ (by omega))
    ·rw [if_neg hq]
     refine xQ hq (yJ q3 (jM ?_ (g0 (acc ++ [c]) (by simp;omega))))
     rw [List.append_assoc,← List.drop_eq_getElem_cons hd];rfl
   ·refine Ev.step (fun k=>by rw [zU.l1,hw]) (xQ (by omega) (yJ q3 (jM ?_ (g0 (acc ++ [c]) (by simp;omega)))))
    rw [List.drop_eq_nil_of_le (by omega),List.append_assoc];rfl
  refine ⟨fun acc hacc=>?_,fun _=>key⟩
  rw [List.drop_eq_getElem_cons hi,wY]
  exact Ev.step (fun k=>by rw [zU.l0,rdS l i hi]) (yJ q1 (yJ q2 (key acc l[i] hacc)))
theorem zbJ (x:qo) (hx:Yj x) (l:List ByteArray) (hl:l.length ≤ 1000000000):Ev (fun k=>zU.f k x.f0 x.f1 x.f2 (x.f3.map kV) (x.f4.map wo) (x.f5.map wu) l) (wY (fjoin x) l):=by
 have h:=(zdl x hx l hl l.length 0 (by omega)).1 [] (Nat.le_refl _)
 rw [List.drop_zero,List.nil_append] at h
 exact Ev.congr (fun k=>by rw [zU.f];rfl) h
theorem zJm (x:qo) (hx:Yj x) (n:ByteArray):Ev (fun k=>qg.f k x.f0 x.f1 x.f2 (x.f3.map kV) (x.f4.map wo) (x.f5.map wu) n) (gQ x n):=by
 have h1:Ev (fun k=>qg.l0 k n 0 x.f0 x.f1 x.f2 (x.f3.map kV) (x.f4.map wo) (x.f5.map wu)) _:=hasL x.f0 x.f1 x.f2 (x.f3.map kV) (x.f4.map wo) (x.f5.map wu) n (by rw [List.length_map];exact hx.1) _ 0 rfl (Nat.zero_le _)
 rw [List.drop_zero,UC] at h1
 exact Ev.congr (fun k=>by rw [qg.f]) h1
theorem zlN (l:List qo) (hl:l.length ≤ 1000000000) (hF:∀ x ∈ l,Yj x) (n:ByteArray):∀ d i,i + d = l.length → Ev (fun k=>qh.l0 k (l.map kr) n (i:Int)) (Qc n (l.drop i) i):=by
 intro d
 induction d with
 | zero =>
  intro i h
  refine Ev.step (fun k=>by rw [qh.l0,List.length_map]) (xQ (by omega) (jM ?_ (Ev.now _)))
  rw [List.drop_eq_nil_of_le (by omega)];rfl
 | succ d ih =>
  intro i h
  have hi:i < l.length:=by omega
  have hr:=ih (i + 1) (by omega)
  have hw:wrap64 ((i:Int) + 1) = ((i + 1:Nat):Int):=(wK (by omega) (by omega)).trans (by omega)
  have hx:=zZD l i hi
  have hf:=hF _ (List.getElem_mem hi)
  have q1:(i:Int) < (l.length:Int):=by omega
  have q2:(0:Int) ≤ (i:Int):=by omega
  rw [List.drop_eq_getElem_cons hi,Qc]
  generalize l[i] = x at hx hf ⊢
  have hh:=zJm x hf n
  refine Ev.step (fun k=>by rw [qh.l0,List.length_map,hx,hw]) (yJ q1 (yJ q2 ?_))
  by_cases hs:x.f1 = true
  ·refine yJ hs (Ev.bind hh ?_)
   by_cases hq:gQ x n = true
   ·rw [if_pos (by rw [hs,hq];rfl)]
    exact yJ hq (Ev.now _)
   ·rw [if_neg (by simp [hq])]
    exact xQ hq hr
  ·rw [if_neg (by simp [hs])]
   exact xQ hs hr
theorem zhd (l:List qo) (hl:l.length ≤ 1000000000) (hF:∀ x ∈ l,Yj x) (a:Nat) (ha:a < l.length) (n:ByteArray):Ev (fun k=>qh.f k (l.map kr) (a:Int) n) (wZ l (a:Int) n):=by
 have h:=zlN l hl hF n l.length 0 (by omega)
 rw [List.drop_zero] at h
 have hx:=zZD l a ha
 have hx0:kZ l (a:Int) = l[a]:=zWd l a ha
 have hf:=hF _ (List.getElem_mem ha)
 have q1:(a:Int) < (l.length:Int):=by omega
 have q2:(0:Int) ≤ (a:Int):=by omega
 unfold wZ
 rw [hx0]
 generalize l[a] = x at hx hf ⊢
 have hh:=zJm x hf n
 refine Ev.congr (fun k=>by rw [qh.f,List.length_map,hx]) (yJ q2 (yJ q1 ?_))
 refine Ev.bind hh ?_
 by_cases hq:gQ x n = true
 ·rw [if_pos hq];exact yJ hq (Ev.now _)
 ·rw [if_neg hq];exact xQ hq h
end Go.Proofs.YtggifbbiiickmaaGreatDoor
namespace Go.Proofs.YtggifbbiiickmaaGreatDoor.PX
open Go.RowKit Go.Proofs.zk.zu Go.Proofs.zk.yD Go.Proofs.zk.yA
attribute [local go_sem] xP xR vG vH xB xC xS xU   -- for this text's walks alone
set_option linter.unusedVariables false
set_option linter.unusedSimpArgs false
def vB.f (l0:List (jC)) (zS:Int) (zP:Int) (yC:Bool) (yh:Bool):Option (Bool):=if zS ≥ 0 then (if zS < (l0.length:Int) then (if zP ≥ 1 then (some (decide (zP ≤ 1000))) else (some false)) else (some false)) else (some false)
set_option maxHeartbeats 8000000 in
set_option maxRecDepth 100000 in
theorem vB.calls (A0:Option Addr) (c0:Nat) (l0:List (jC)) (zS:Int) (zP:Int) (yC:Bool) (yh:Bool) (r:Bool) (w:World) (hr0:Kd.C Wj w A0 l0.length l0) (hc0:l0.length ≤ c0) (h:vB.f l0 zS zP yC yh = some r) :
  Calls Tryz.prog 48 #[.slice A0 l0.length c0,.agg #[.int .i64 zS,.int .i64 zP,.bool yC,.bool yh]] w fun e w'=>e = .returned (.bool r) ∧ Below w.heap.size w w':=by
 have zdm:=Tryz.underlying41
 have ji:=zx.mk hr0
 have Vm:=zx.mk hc0
 clear hr0 hc0
 have HB:=zx.mk (Below.refl w.heap.size w)
 have H:(if zS ≥ 0 then (if zS < (l0.length:Int) then (if zP ≥ 1 then (some (decide (zP ≤ 1000))) else (some false)) else (some false)) else (some false)) = some r:=h
 clear h
 by_cases c3:zS ≥ 0
 ·rw [if_pos c3] at H
  have ZR:decide (0 ≤ zS) = true:=decide_eq_true c3
  clear c3
  by_cases c4:zS < (l0.length:Int)
  ·rw [if_pos c4] at H
   have Z8:decide (zS < (l0.length:Int)) = true:=decide_eq_true c4
   clear c4
   by_cases c5:zP ≥ 1
   ·rw [if_pos c5] at H
    have pY:decide (1 ≤ zP) = true:=decide_eq_true c5
    clear c5
    obtain rfl:=Option.some.inj H
    go_enter Tryz.func48,Tryz.ntmps48
    go_wp2_with (first | ((with_reducible refine qA (N:=3) rfl ?_);(try (refine uO (by rfl) ?_;dsimp only));refine qH ?hg (N:=3) ?hd (cs:=#[.int .i64 zS,.int .i64 zP,.bool yC,.bool yh]) (t:=41) ?hr ?_;(case hd=>rfl);(case hg=>rfl);(case hr=>first | (go_simp;done) | (go_simp;rfl));intro wG hg w6 qd hb;have zW:=zx.mk (zC (zG HB.out) hb);have zh:=zx.mk (qd);have zo:=zx.mk ((by rw [hg];exact (zf (zG HB.out)):w.heap.size ≤ wG));have zM:=zx.mk ((by rw [hg];exact (zf (zG HB.out)):w.heap.size ≤ wG));clear HB;have HB:=zW;have jL:=zh;have zWe:=zo;have zqz:=zM;clear zW zh zo zM;clear hb qd hg;have zwH:w6.cell? ⟨wG,0,none⟩ = some (.int .i64 zS):=zw jL 0;have zaH:w6.cell? ⟨wG,1,none⟩ = some (.int .i64 zP):=zw jL 1;have zaI:w6.cell? ⟨wG,2,none⟩ = some (.bool yC):=zw jL 2;have zaL:w6.cell? ⟨wG,3,none⟩ = some (.bool yh):=zw jL 3;have zwI:=zy jL.out 0;have zaM:=zy jL.out 1;have zaN:=zy jL.out 2;have zaO:=zy jL.out 3))
    go_ret
    exact ⟨by first | rfl | (simp [zH,zI] <;> rfl) | (simp [*,zH,zI] <;> rfl),by repeat (first | (with_reducible first | exact HB.out | apply yX | apply zL | apply zR | refine qK ?_ zqz.out) | exact HB.out)⟩
   ·rw [if_neg c5] at H
    have pY:decide (1 ≤ zP) = false:=decide_eq_false c5
    clear c5
    obtain rfl:=Option.some.inj H
    go_enter Tryz.func48,Tryz.ntmps48
    go_wp2_with (first | ((with_reducible refine qA (N:=3) rfl ?_);(try (refine uO (by rfl) ?_;dsimp only));refine qH ?hg (N:=3) ?hd (cs:=#[.int .i64 zS,.int .i64 zP,.bool yC,.bool yh]) (t:=41) ?hr ?_;(case hd=>rfl);(case hg=>rfl);(case hr=>first | (go_simp;done) | (go_simp;rfl));intro wG hg w8 qd hb;have zW:=zx.mk (zC (zG HB.out) hb);have zh:=zx.mk (qd);have zo:=zx.mk ((by rw [hg];exact (zf (zG HB.out)):w.heap.size ≤ wG));have zM:=zx.mk ((by rw [hg];exact (zf (zG HB.out)):w.heap.size ≤ wG));clear HB;have HB:=zW;have jL:=zh;have zWe:=zo;have zqz:=zM;clear zW zh zo zM;clear hb qd hg;have Wy:w8.cell? ⟨wG,0,none⟩ = some (.int .i64 zS):=zw jL 0;have Ww:w8.cell? ⟨wG,1,none⟩ = some (.int .i64 zP):=zw jL 1;have WZ:w8.cell? ⟨wG,2,none⟩ = some (.bool yC):=zw jL 2;have WQ:w8.cell? ⟨wG,3,none⟩ = some (.bool yh):=zw jL 3;have WX:=zy jL.out 0;have WJ:=zy jL.out 1;have WV:=zy jL.out 2;have WK:=zy jL.out 3))
    go_ret
    exact ⟨by first | rfl | (simp [zH,zI] <;> rfl) | (simp [*,zH,zI] <;> rfl),by repeat (first | (with_reducible first | exact HB.out | apply yX | apply zL | apply zR | refine qK ?_ zqz.out) | exact HB.out)⟩
  ·rw [if_neg c4] at H
   have Z8:decide (zS < (l0.length:Int)) = false:=decide_eq_false c4
   clear c4
   obtain rfl:=Option.some.inj H
   go_enter Tryz.func48,Tryz.ntmps48
   go_wp2_with (first | ((with_reducible refine qA (N:=3) rfl ?_);(try (refine uO (by rfl) ?_;dsimp only));refine qH ?hg (N:=3) ?hd (cs:=#[.int .i64 zS,.int .i64 zP,.bool yC,.bool yh]) (t:=41) ?hr ?_;(case hd=>rfl);(case hg=>rfl);(case hr=>first | (go_simp;done) | (go_simp;rfl));intro wG hg Xm qd hb;have zW:=zx.mk (zC (zG HB.out) hb);have zh:=zx.mk (qd);have zo:=zx.mk ((by rw [hg];exact (zf (zG HB.out)):w.heap.size ≤ wG));have zM:=zx.mk ((by rw [hg];exact (zf (zG HB.out)):w.heap.size ≤ wG));clear HB;have HB:=zW;have jL:=zh;have zWe:=zo;have zqz:=zM;clear zW zh zo zM;clear hb qd hg;have WU:Xm.cell? ⟨wG,0,none⟩ = some (.int .i64 zS):=zw jL 0;have Pz:Xm.cell? ⟨wG,1,none⟩ = some (.int .i64 zP):=zw jL 1;have Pq:Xm.cell? ⟨wG,2,none⟩ = some (.bool yC):=zw jL 2;have Px:Xm.cell? ⟨wG,3,none⟩ = some (.bool yh):=zw jL 3;have Pj:=zy jL.out 0;have Pv:=zy jL.out 1;have Pk:=zy jL.out 2;have Py:=zy jL.out 3))
   go_ret
   exact ⟨by first | rfl | (simp [zH,zI] <;> rfl) | (simp [*,zH,zI] <;> rfl),by repeat (first | (with_reducible first | exact HB.out | apply yX | apply zL | apply zR | refine qK ?_ zqz.out) | exact HB.out)⟩
 ·rw [if_neg c3] at H
  have ZR:decide (0 ≤ zS) = false:=decide_eq_false c3
  clear c3
  obtain rfl:=Option.some.inj H
  go_enter Tryz.func48,Tryz.ntmps48
  go_wp2_with (first | ((with_reducible refine qA (N:=3) rfl ?_);(try (refine uO (by rfl) ?_;dsimp only));refine qH ?hg (N:=3) ?hd (cs:=#[.int .i64 zS,.int .i64 zP,.bool yC,.bool yh]) (t:=41) ?hr ?_;(case hd=>rfl);(case hg=>rfl);(case hr=>first | (go_simp;done) | (go_simp;rfl));intro wG hg YK qd hb;have zW:=zx.mk (zC (zG HB.out) hb);have zh:=zx.mk (qd);have zo:=zx.mk ((by rw [hg];exact (zf (zG HB.out)):w.heap.size ≤ wG));have zM:=zx.mk ((by rw [hg];exact (zf (zG HB.out)):w.heap.size ≤ wG));clear HB;have HB:=zW;have jL:=zh;have zWe:=zo;have zqz:=zM;clear zW zh zo zM;clear hb qd hg;have XP:YK.cell? ⟨wG,0,none⟩ = some (.int .i64 zS):=zw jL 0;have XR:YK.cell? ⟨wG,1,none⟩ = some (.int .i64 zP):=zw jL 1;have XT:YK.cell? ⟨wG,2,none⟩ = some (.bool yC):=zw jL 2;have XU:YK.cell? ⟨wG,3,none⟩ = some (.bool yh):=zw jL 3;have X0:=zy jL.out 0;have X3:=zy jL.out 1;have X4:=zy jL.out 2;have X5:=zy jL.out 3))
  go_ret
  exact ⟨by first | rfl | (simp [zH,zI] <;> rfl) | (simp [*,zH,zI] <;> rfl),by repeat (first | (with_reducible first | exact HB.out | apply yX | apply zL | apply zR | refine qK ?_ zqz.out) | exact HB.out)⟩
end Go.Proofs.YtggifbbiiickmaaGreatDoor.PX
namespace Go.Proofs.YtggifbbiiickmaaGreatDoor.PX
open Go.RowKit Go.Proofs.zk.zu Go.Proofs.zk.yD Go.Proofs.zk.yA
attribute [local go_sem] xP xR vG vH xB xC xS xU   -- for this text's walks alone
set_option linter.unusedVariables false
set_option linter.unusedSimpArgs false
mutual
def zV.l0:Nat → List (jC) → List ByteArray → List (vP) → List ByteArray → Int → Int → Int → Bool → Bool → Option ((List (vP)) × List ByteArray)
 | 0,_,_,_,_,_,_,_,_,_=>none
 | k + 1,x0,x2,x8,x9,x10,Q6,Zg,KL,Q7=>if x10 < (x2.length:Int) then (if 0 ≤ x10 then ((qh.f k x0 Q6 (qb ByteArray.empty x2 x10)).bind fun t182=>(if t182 < 0 then (if x9.length < 8796093022208 then (zV.l0 k x0 x2 x8 (x9 ++ [qb ByteArray.empty x2 x10]) (wrap64 (x10 + 1)) Q6 Zg KL Q7) else (none)) else (if Q7 = true then (if (wrap64 ((x8.length:Int) - 1)) ≥ 0 then (if 0 ≤ (wrap64 ((x8.length:Int) - 1)) then (if (wrap64 ((x8.length:Int) - 1)) < (x8.length:Int) then (zV.j1 k x0 x2 x8 x9 x10 t182 (wrap64 ((x8.length:Int) - 1)) (((yx x8 (wrap64 ((x8.length:Int) - 1))).f2) == t182) Q6 Zg KL Q7) else (none)) else (none)) else (zV.j1 k x0 x2 x8 x9 x10 t182 (wrap64 ((x8.length:Int) - 1)) false Q6 Zg KL Q7)) else (zV.j1 k x0 x2 x8 x9 x10 t182 (wrap64 ((x8.length:Int) - 1)) false Q6 Zg KL Q7)))) else (none)) else (some (x8,x9))
def zV.j1:Nat → List (jC) → List ByteArray → List (vP) → List ByteArray → Int → Int → Int → Bool → Int → Int → Bool → Bool → Option ((List (vP)) × List ByteArray)
 | 0,_,_,_,_,_,_,_,_,_,_,_,_=>none
 | k + 1,x0,x2,x8,x9,x10,wM,x12,x57,Q6,Zg,KL,Q7=>if x57 = true then (if 0 ≤ wM then (if wM < (x0.length:Int) then (if 0 ≤ x12 then (if x12 < (x8.length:Int) then (if 0 ≤ x10 then (if x10 < (x2.length:Int) then ((uH.f k ((zZ x0 wM).f0) ((zZ x0 wM).f1) ((zZ x0 wM).f2) ((zZ x0 wM).f3) ((zZ x0 wM).f4) ((zZ x0 wM).f5) ((yx x8 x12).f4) (qb ByteArray.empty x2 x10) Zg).bind fun tF=>(if tF.1 = 0 then ((yP.f k ((zZ x0 wM).f0) ((zZ x0 wM).f1) ((zZ x0 wM).f2) ((zZ x0 wM).f3) ((zZ x0 wM).f4) ((zZ x0 wM).f5) (qb ByteArray.empty x2 x10) Zg).bind fun zqq=>(if x8.length < 1599289640401 then (zV.l0 k x0 x2 (x8 ++ [(⟨0,zqq.1,wM,Zg,qb ByteArray.empty x2 x10,(⟨#[]⟩:ByteArray),([]:List Int)⟩:vP)]) x9 (wrap64 (x10 + 1)) Q6 Zg KL Q7) else (none))) else (if x8.length < 1599289640401 then ((some (x8 ++ [(⟨2,tF.1,0,0,(⟨#[]⟩:ByteArray),(⟨#[]⟩:ByteArray),([]:List Int)⟩:vP)]:List (vP))).bind fun Xu=>((yP.f k ((zZ x0 wM).f0) ((zZ x0 wM).f1) ((zZ x0 wM).f2) ((zZ x0 wM).f3) ((zZ x0 wM).f4) ((zZ x0 wM).f5) (qb ByteArray.empty x2 x10) Zg).bind fun gI=>(if Xu.length < 1599289640401 then (zV.l0 k x0 x2 (Xu ++ [(⟨0,gI.1,wM,Zg,qb ByteArray.empty x2 x10,(⟨#[]⟩:ByteArray),([]:List Int)⟩:vP)]) x9 (wrap64 (x10 + 1)) Q6 Zg KL Q7) else (none)))) else (none)))) else (none)) else (none)) else (none)) else (none)) else (none)) else (none)) else (if 0 ≤ wM then (if wM < (x0.length:Int) then (if 0 ≤ x10 then (if x10 < (x2.length:Int) then ((yP.f k ((zZ x0 wM).f0) ((zZ x0 wM).f1) ((zZ x0 wM).f2) ((zZ x0 wM).f3) ((zZ x0 wM).f4) ((zZ x0 wM).f5) (qb ByteArray.empty x2 x10) Zg).bind fun zWf=>(if x8.length < 1599289640401 then (zV.l0 k x0 x2 (x8 ++ [(⟨0,zWf.1,wM,Zg,qb ByteArray.empty x2 x10,(⟨#[]⟩:ByteArray),([]:List Int)⟩:vP)]) x9 (wrap64 (x10 + 1)) Q6 Zg KL Q7) else (none))) else (none)) else (none)) else (none)) else (none))
end
def zV.f (k:Nat) (l0:List (jC)) (zS:Int) (zP:Int) (yC:Bool) (yh:Bool) (l2:List ByteArray):Option ((List (vP)) × List ByteArray):=zV.l0 k l0 l2 ([]:List (vP)) ([]:List ByteArray) 0 zS zP yC yh
def zV.T6:Bool × List (List Nat × List Nat):=(true,[([],[]),([],[]),([1],[1]),([],[]),([],[]),([3,4],[3,4]),([5],[5]),([0,2,6],[0,2,6]),([7,7,0,1,2,3,4,5,6,7],[7])])
def zV.B6:List Nat:=[0,0,2,0,0,24,56,127,255]
theorem zV.zZF:uj .any (opsOf Tryz.f52 6) = zV.T6:=by kernel_rfl
theorem zV.zvo:uh zV.T6.2 zV.B6 = true:=by kernel_rfl
def zV.T11:Bool × List (List Nat × List Nat):=(true,[([],[]),([],[]),([0,1],[0,1]),([2],[2]),([],[]),([],[]),([4,5],[4,5]),([6],[6]),([7],[7]),([],[]),([],[]),([9,10],[9,10]),([11],[11]),([],[]),([13],[13]),([3,8,12,14],[3,8,12,14]),([15],[15]),([16],[16]),([16],[16]),([17,15,0,1,2,3,4,5,6,7,8,9,10,11,12,13,14,15,16,17],[17]),([18,19,0,1,2,3,4,5,6,7,8,9,10,11,12,13,14,15,16,17,18,19],[18])])
def zV.B11:List Nat:=[0,0,3,7,0,0,48,112,240,0,0,1536,3584,0,8192,32767,65535,131071,131071,262143,1048575]
theorem zV.zfj:uj .any (opsOf Tryz.f52 11) = zV.T11:=by kernel_rfl
theorem zV.zbV:uh zV.T11.2 zV.B11 = true:=by kernel_rfl
def zV.T14:Bool × List (List Nat × List Nat):=(true,[([],[]),([],[]),([0,1],[0,1]),([2],[2]),([],[]),([],[]),([4,5],[4,5]),([6],[6]),([],[]),([8],[8]),([3,7,9],[3,7,9]),([10],[10]),([11],[11]),([11],[11]),([12,10,0,1,2,3,4,5,6,7,8,9,10,11,12],[12]),([13,14,0,1,2,3,4,5,6,7,8,9,10,11,12,13,14],[13])])
def zV.B14:List Nat:=[0,0,3,7,0,0,48,112,0,256,1023,2047,4095,4095,8191,32767]
theorem zV.zvp:uj .any (opsOf Tryz.f52 14) = zV.T14:=by kernel_rfl
theorem zV.zZG:uh zV.T14.2 zV.B14 = true:=by kernel_rfl
def zV.T15:Bool × List (List Nat × List Nat):=(true,[([],[]),([],[]),([],[]),([],[]),([3],[3]),([],[]),([],[]),([5,6],[5,6]),([7],[7]),([1,2,4,8],[1,2,4,8]),([9],[9]),([0,10],[0,10]),([11,11,0,1,2,3,4,5,6,7,8,9,10,11],[0,11])])
def zV.B15:List Nat:=[0,0,0,0,8,0,0,96,224,510,1022,2047,4095]
theorem zV.zWg:uj .any (opsOf Tryz.f52 15) = zV.T15:=by kernel_rfl
theorem zV.zZH:uh zV.T15.2 zV.B15 = true:=by kernel_rfl
set_option maxHeartbeats 8000000 in
set_option maxRecDepth 100000 in
theorem zV.calls (k:Nat) (A0:Option Addr) (c0:Nat) (l0:List (jC)) (zS:Int) (zP:Int) (yC:Bool) (yh:Bool) (A2:Option Addr) (c2:Nat) (l2:List ByteArray) (r1:List (vP)) (r2:List ByteArray) (w:World) (hr0:Kd.C Wj w A0 l0.length l0) (hc0:l0.length ≤ c0) (hr2:Kd.C Kd.string w A2 l2.length l2) (hc2:l2.length ≤ c2) (h:zV.f k l0 zS zP yC yh l2 = some (r1,r2)) :
  Calls Tryz.prog 52 #[.slice A0 l0.length c0,.agg #[.int .i64 zS,.int .i64 zP,.bool yC,.bool yh],.slice A2 l2.length c2] w fun e w'=>∃ Qo v1_:Value,e = .returned (.tuple #[Qo,v1_]) ∧ Kd.S Qb 53 w' w.heap.size (fun _=>True) Qo r1 ∧ Kd.R Kd.string 9 w' w.heap.size (fun _=>True) v1_ r2 ∧ Below w.heap.size w w':=by
 have zdm:=Tryz.underlying41
 have VH:=Tryz.underlying101
 have zlO:=Tryz.underlying53
 have ji:=zx.mk hr0
 have Vm:=zx.mk hc0
 clear hr0 hc0
 have HR2:=zx.mk hr2
 have HC2:=zx.mk hc2
 clear hr2 hc2
 have HB:=zx.mk (Below.refl w.heap.size w)
 have H:(zV.l0 k l0 l2 ([]:List (vP)) ([]:List ByteArray) 0 zS zP yC yh) = some (r1,r2):=h
 clear h
 have H':=zx.mk H
 clear H
 go_enter Tryz.func52,Tryz.ntmps52
 go_wp2_with (first | ((with_reducible refine qA (N:=4) rfl ?_);refine qH ?hg (N:=4) ?hd (cs:=#[.int .i64 zS,.int .i64 zP,.bool yC,.bool yh]) (t:=41) ?hr ?_;(case hd=>rfl);(case hg=>rfl);(case hr=>first | (go_simp;done) | (go_simp;rfl));intro xW hg w4 qd hb;have zW:=zx.mk (zC (zG HB.out) hb);have zh:=zx.mk (qd);have zo:=zx.mk ((by rw [hg];exact (zf (zG HB.out)):w.heap.size ≤ xW));have zM:=zx.mk ((by rw [hg];exact (zf (zG HB.out)):w.heap.size ≤ xW));clear HB;have HB:=zW;have zO:=zh;have zDC:=zo;have zoy:=zM;clear zW zh zo zM;clear hb qd hg))
 go_loopg [8,9,10] k (fun kq v8 v9 v10 w'=>∃ (yV:List (vP)) (vk:List ByteArray) (yY:Int),v10 = .int .i64 yY ∧ zx (zV.l0 kq l0 l2 yV vk yY zS zP yC yh = some (r1,r2)) ∧ zx (kq ≤ k) ∧ zx (Kd.S Qb 53 w' w.heap.size (fun _=>True) v8 yV) ∧ zx (Kd.R Kd.string 9 w' w.heap.size (fun _=>True) v9 vk) ∧ zx (w'.heap[xW]? = some (.cells #[.int .i64 zS,.int .i64 zP,.bool yC,.bool yh] 41 (0,0))) ∧ zx (Below w.heap.size w w'))
 case atStart=>exact ⟨(([]:List (vP))),(([]:List ByteArray)),(0),(by first | rfl | (simp;done) | (simp [*];done)),H',⟨Nat.le_refl _⟩,⟨by first | exact Kd.Yp _ _ _ _ _ | exact Kd.YI _ _ _ _ _ | exact Kd.YL _ _ _ _ _ | exact Kd.YH _ _ _ _ _ | exact Kd.jf _ _ _ _ _⟩,⟨by first | exact Kd.jf _ _ _ _ _ | exact Kd.YI _ _ _ _ _ | exact Kd.YL _ _ _ _ _ | exact Kd.YH _ _ _ _ _ | exact Kd.Yp _ _ _ _ _⟩,⟨qV zO.out⟩,⟨zG HB.out⟩⟩
 case round =>
  clear H'
  try clear c2
  obtain ⟨yV,vk,yY,rfl,HA,uK,xG,xg,zO,HB⟩:=hrel
  cases gk with
  | zero=>exact absurd HA.out (by simp [zV.l0])
  | succ k1 =>
   have H:=HA.out
   clear HA
   simp only [zV.l0] at H
   by_cases c5:yY < (l2.length:Int)
   ·rw [if_pos c5] at H
    have pY:decide (yY < (l2.length:Int)) = true:=decide_eq_true c5
    clear c5
    by_cases c6:0 ≤ yY
    ·rw [if_pos c6] at H
     have wP:decide (0 ≤ yY) = true:=decide_eq_true c6
     clear c6
     replace H:=Option.bind_eq_some_iff.mp H
     obtain ⟨t182,A70,H⟩:=H
     replace H:(if t182 < 0 then (if vk.length < 8796093022208 then (zV.l0 k1 l0 l2 yV (vk ++ [qb ByteArray.empty l2 yY]) (wrap64 (yY + 1)) zS zP yC yh) else (none)) else (if yh = true then (if (wrap64 ((yV.length:Int) - 1)) ≥ 0 then (if 0 ≤ (wrap64 ((yV.length:Int) - 1)) then (if (wrap64 ((yV.length:Int) - 1)) < (yV.length:Int) then (zV.j1 k1 l0 l2 yV vk yY t182 (wrap64 ((yV.length:Int) - 1)) (((yx yV (wrap64 ((yV.length:Int) - 1))).f2) == t182) zS zP yC yh) else (none)) else (none)) else (zV.j1 k1 l0 l2 yV vk yY t182 (wrap64 ((yV.length:Int) - 1)) false zS zP yC yh)) else (zV.j1 k1 l0 l2 yV vk yY t182 (wrap64 ((yV.length:Int) - 1)) false zS zP yC yh))) = some (r1,r2):=H
     have A7:=zx.mk A70
     clear A70
     by_cases c8:t182 < 0
     ·rw [if_pos c8] at H
      have Zt:decide (t182 < 0) = true:=decide_eq_true c8
      clear c8
      by_cases c9:vk.length < 8796093022208
      ·rw [if_pos c9] at H
       have zrB:=zx.mk c9
       clear c9
       obtain ⟨zlP,zvr⟩:∃ y_:List ByteArray,y_ = (vk ++ [qb ByteArray.empty l2 yY]):=⟨_,rfl⟩
       replace H:(zV.l0 k1 l0 l2 yV zlP (wrap64 (yY + 1)) zS zP yC yh) = some (r1,r2):=by first | (rw [zvr];with_reducible exact H) | (have jH:=(Option.bind_some _ _).symm.trans H;rw [zvr];with_reducible exact jH) | (have jH:=(Option.bind_some _ _).symm.trans H;with_reducible exact jH) | with_reducible exact H | (rw [zvr];exact H) | exact H
       have zow:=zx.mk zvr
       clear zvr
       have H':=zx.mk H
       clear H
       try go_wp2
       have zW:=zx.mk (Kd.vZ xG.out)
       have zh:=zx.mk (Kd.uw xg.out)
       have zo:=zx.mk (xV zO.out)
       have zM:=zx.mk (zR HB.out)
       clear xG xg zO HB
       have xG:=zW
       have xg:=zh
       have zO:=zo
       have HB:=zM
       clear zW zh zo zM
       have zqu:0 ≤ (yY:Int):=of_decide_eq_true yF
       have zqA:yY < (l2.length:Int):=of_decide_eq_true yF
       obtain ⟨ZL,e181,Yo⟩:=Kd.uQ HR2.out yY zqu zqA
       have Q8:=Yo
       cases e181
       replace Yo:=(HB.out.cell (World.block_lt_of_cell? w _ Yo)).trans Yo
       replace zqu:=eq_true zqu
       replace zqA:=eq_true zqA
       refine jr (n:=9) (S:=fun w'=>w'.cell? ⟨xW,0,none⟩ = some (.int .i64 zS) ∧ w'.cell? ⟨xW,1,none⟩ = some (.int .i64 zP) ∧ w'.cell? ⟨xW,2,none⟩ = some (.bool yC) ∧ w'.cell? ⟨xW,3,none⟩ = some (.bool yh) ∧ w'.cell? (ZL.add (yY).toNat) = some (.string (qb ByteArray.empty l2 yY))) (ds:=[]) #[false,false,false,false,false,false,false,false,false] (by kernel_rfl) rfl rfl ⟨zw zO 0,zw zO 1,zw zO 2,zw zO 3,((HB.out.cell (World.block_lt_of_cell? w _ Q8)).trans Q8)⟩ (fun hHeld=>?_);refine uT zV.zZF zV.zvo (fun zi vD=>?_)
       generalize wr.drew = Xm at xG xg zO HB Yo hHeld ⊢
       refine yu 0 (some 23) zi ?_
       refine yu 1 (some 24) zi ?_
       refine yu 3 (some 26) zi ?_
       refine yu 4 (some 27) zi ?_
       refine yu 5 (some 28) zi ?_
       refine jK 2 (some 25) zi vD hHeld ?_
       refine jK 6 (some 29) zi vD hHeld ?_
       refine Zr 7 (some 30) zi (fun K hK=>?_)
       refine wS Tryz.func108 (by kernel_rfl) rfl #[.slice A0 l0.length c0,.int .i64 zS,.string (qb ByteArray.empty l2 yY)] (by rfl) rfl rfl (by (try simp only [List.map_toArray,List.map_cons,List.map_nil]);first | done | rfl | (simp only [List.length_drop,List.length_take];rfl)) ?_
       with_reducible refine (qh.calls k1 _ _ l0 zS (qb ByteArray.empty l2 yY) t182 _ ?yc ?yG A7.out).mono ?_
       (case yc=>exact qY (Kd.zm ji.out HB.out))
       (case yG=>exact Vm.out)
       rintro e w11 ⟨rfl,hb⟩
       refine ⟨_,rfl,?_⟩
       have zW:=zx.mk (Kd.wD (aG xG.out) hb)
       have zh:=zx.mk (Kd.xI (vQ xg.out) hb)
       have zo:=zx.mk (yj (g:=xW) (o:=.cells #[.int .i64 zS,.int .i64 zP,.bool yC,.bool yh] 41 (0,0)) (qV zO.out) hb)
       have zM:=zx.mk (zC (zG HB.out) hb)
       clear xG xg zO HB
       have xG:=zW
       have xg:=zh
       have zO:=zo
       have HB:=zM
       clear zW zh zo zM
       (try clear hb)
       (try clear hk)
       refine hK.out _ _ ⟨zw zO 0,zw zO 1,zw zO 2,zw zO 3,((HB.out.cell (World.block_lt_of_cell? w _ Q8)).trans Q8)⟩ (fun hHeld=>?_)
       clear hK K
       refine ZF (some 30) ?_
       refine yu 8 (some 11) zi ?_
       refine vW (qP zi.out (by kernel_rfl)) ?_
       have zWh:0 ≤ (yY:Int):=of_decide_eq_true yF
       have zWi:yY < (l2.length:Int):=of_decide_eq_true yF
       obtain ⟨zoZ,zrC,zxX⟩:=Kd.uQ HR2.out yY zWh zWi
       obtain rfl:ZL = zoZ:=(by injection zrC)
       replace zxX:=(HB.out.cell (World.block_lt_of_cell? w _ zxX)).trans zxX
       replace zWh:=eq_true zWh
       replace zWi:=eq_true zWi
       try go_wp2_with (first | ((with_reducible refine Zp (b:=.append) (xs:=#[.tmp 33,.tmp 38]) rfl ?_);at_builtin;refine Kd.VU Kd.string (w0:=w) w.heap.size rfl (.tmp 33) (.tmp 38) 27 9 (.string ⟨#[]⟩) 16 rfl Tryz.underlying27 zvk rfl (by decide) (by omega) u9 vk (qb ByteArray.empty l2 yY) [.string (qb ByteArray.empty l2 yY)] (fun _=>True) (fun _=>False) rfl rfl ?aP (fun _ hk=>hk.elim) ?aF ?aO ?aB ?aS ?aL ?_;(case aP=>exact rfl);(case aB=>exact (zG HB.out));(case aF=>exact (fun _ _=>trivial));(case aO=>exact (vQ xg.out));(case aS=>exact (zf (zG HB.out)));(case aL=>have:=zrB.out;omega);intro zEA YK ho hb hg hat;rw [← zow.out] at ho;have zW:=zx.mk (Kd.zfB (aG xG.out) (Kd.YZ (vQ xg.out)) (by decide) hg);have zh:=zx.mk (uL (g:=xW) (o:=.cells #[.int .i64 zS,.int .i64 zP,.bool yC,.bool yh] 41 (0,0)) (qV zO.out) hg (Kd.Qm xg.out zO.out (by decide)));have zo:=zx.mk (hb);have zM:=zx.mk (ho);clear xG;clear zO;clear HB;clear xg;have xG:=zW;have zO:=zh;have HB:=zo;have zoQ:=zM;clear zW zh zo zM;clear ho hb hg hat))
       go_roundg k1
       case measure=>have:=uK.out;omega
       case rel=>exact ⟨(yV),(zlP),(wrap64 (yY + 1)),(by first | rfl | (simp;done) | (simp [*];done)),H',⟨by have:=uK.out;omega⟩,⟨by (with_reducible repeat (first | apply Kd.vR | apply Kd.vS | apply Kd.vZ));exact xG.out⟩,⟨vQ zoQ.out⟩,⟨qV zO.out⟩,⟨zG HB.out⟩⟩
      ·rw [if_neg c9] at H
       exact absurd H (by simp)
     ·rw [if_neg c8] at H
      have Zt:decide (t182 < 0) = false:=decide_eq_false c8
      clear c8
      have zdn:=zx.mk H
      clear H
      try go_wp2
      have zW:=zx.mk (Kd.vZ xG.out)
      have zh:=zx.mk (Kd.uw xg.out)
      have zo:=zx.mk (xV zO.out)
      have zM:=zx.mk (zR HB.out)
      clear xG xg zO HB
      have xG:=zW
      have xg:=zh
      have zO:=zo
      have HB:=zM
      clear zW zh zo zM
      have zqu:0 ≤ (yY:Int):=of_decide_eq_true yF
      have zqA:yY < (l2.length:Int):=of_decide_eq_true yF
      obtain ⟨ZL,e181,Yo⟩:=Kd.uQ HR2.out yY zqu zqA
      have Q8:=Yo
      cases e181
      replace Yo:=(HB.out.cell (World.block_lt_of_cell? w _ Yo)).trans Yo
      replace zqu:=eq_true zqu
      replace zqA:=eq_true zqA
      refine jr (n:=9) (S:=fun w'=>w'.cell? ⟨xW,0,none⟩ = some (.int .i64 zS) ∧ w'.cell? ⟨xW,1,none⟩ = some (.int .i64 zP) ∧ w'.cell? ⟨xW,2,none⟩ = some (.bool yC) ∧ w'.cell? ⟨xW,3,none⟩ = some (.bool yh) ∧ w'.cell? (ZL.add (yY).toNat) = some (.string (qb ByteArray.empty l2 yY))) (ds:=[]) #[false,false,false,false,false,false,false,false,false] (by kernel_rfl) rfl rfl ⟨zw zO 0,zw zO 1,zw zO 2,zw zO 3,((HB.out.cell (World.block_lt_of_cell? w _ Q8)).trans Q8)⟩ (fun hHeld=>?_);refine uT zV.zZF zV.zvo (fun zi vD=>?_)
      generalize wr.drew = WC at xG xg zO HB Yo hHeld ⊢
      refine yu 0 (some 23) zi ?_
      refine yu 1 (some 24) zi ?_
      refine yu 3 (some 26) zi ?_
      refine yu 4 (some 27) zi ?_
      refine yu 5 (some 28) zi ?_
      refine jK 2 (some 25) zi vD hHeld ?_
      refine jK 6 (some 29) zi vD hHeld ?_
      refine Zr 7 (some 30) zi (fun K hK=>?_)
      refine wS Tryz.func108 (by kernel_rfl) rfl #[.slice A0 l0.length c0,.int .i64 zS,.string (qb ByteArray.empty l2 yY)] (by rfl) rfl rfl (by (try simp only [List.map_toArray,List.map_cons,List.map_nil]);first | done | rfl | (simp only [List.length_drop,List.length_take];rfl)) ?_
      with_reducible refine (qh.calls k1 _ _ l0 zS (qb ByteArray.empty l2 yY) t182 _ ?yc ?yG A7.out).mono ?_
      (case yc=>exact qY (Kd.zm ji.out HB.out))
      (case yG=>exact Vm.out)
      rintro e Zu ⟨rfl,hb⟩
      refine ⟨_,rfl,?_⟩
      have zW:=zx.mk (Kd.wD (aG xG.out) hb)
      have zh:=zx.mk (Kd.xI (vQ xg.out) hb)
      have zo:=zx.mk (yj (g:=xW) (o:=.cells #[.int .i64 zS,.int .i64 zP,.bool yC,.bool yh] 41 (0,0)) (qV zO.out) hb)
      have zM:=zx.mk (zC (zG HB.out) hb)
      clear xG xg zO HB
      have xG:=zW
      have xg:=zh
      have zO:=zo
      have HB:=zM
      clear zW zh zo zM
      (try clear hb)
      (try clear hk)
      refine hK.out _ _ ⟨zw zO 0,zw zO 1,zw zO 2,zw zO 3,((HB.out.cell (World.block_lt_of_cell? w _ Q8)).trans Q8)⟩ (fun hHeld=>?_)
      clear hK K
      refine ZF (some 30) ?_
      refine yu 8 (some 11) zi ?_
      refine vW (qP zi.out (by kernel_rfl)) ?_
      obtain ⟨zlR,zWl,zrD⟩:=Kd.WG xG.out
      subst zrD
      go_upto_region 10 with (fail)
      go_cut [57] (fun v57 wc=>∃ (kq:Nat) (zvs:Bool),v57 = .bool zvs ∧ zx (zV.j1 kq l0 l2 yV vk yY t182 (wrap64 ((yV.length:Int) - 1)) zvs zS zP yC yh = some (r1,r2)) ∧ zx (kq ≤ k1) ∧ zx (Kd.S Qb 53 wc w.heap.size (fun _=>True) (.slice zlR yV.length zWl) yV) ∧ zx (Kd.R Kd.string 9 wc w.heap.size (fun _=>True) u9 vk) ∧ zx (wc.heap[xW]? = some (.cells #[.int .i64 zS,.int .i64 zP,.bool yC,.bool yh] 41 (0,0))) ∧ zx (Below w.heap.size w wc))
      case first =>
       have H:=zdn.out
       clear zdn
       by_cases c17:yh = true
       ·subst c17
        have H1:(if (wrap64 ((yV.length:Int) - 1)) ≥ 0 then (if 0 ≤ (wrap64 ((yV.length:Int) - 1)) then (if (wrap64 ((yV.length:Int) - 1)) < (yV.length:Int) then (zV.j1 k1 l0 l2 yV vk yY t182 (wrap64 ((yV.length:Int) - 1)) (((yx yV (wrap64 ((yV.length:Int) - 1))).f2) == t182) zS zP yC true) else (none)) else (none)) else (zV.j1 k1 l0 l2 yV vk yY t182 (wrap64 ((yV.length:Int) - 1)) false zS zP yC true)) = some (r1,r2):=by rw [if_pos rfl] at H;exact H
        clear H
        have H:=H1
        clear H1
        by_cases c18:(wrap64 ((yV.length:Int) - 1)) ≥ 0
        ·rw [if_pos c18] at H
         have zqx:decide (0 ≤ (wrap64 ((yV.length:Int) - 1))) = true:=decide_eq_true c18
         clear c18
         (first | rw [zqx] | (simp only [vU,uW];rw [zqx]) | skip)
         obtain ⟨Wm,zxJ⟩:∃ j_:Int,(wrap64 ((yV.length:Int) - 1)) = j_:=⟨_,rfl⟩
         replace H:(if 0 ≤ (Wm) then (if (Wm) < (yV.length:Int) then (zV.j1 k1 l0 l2 yV vk yY t182 Wm (((yx yV (Wm)).f2) == t182) zS zP yC true) else (none)) else (none)) = some (r1,r2):=by first | (rw [zxJ] at H;exact H) | (simp only [zxJ] at H ⊢;exact H)
         (try rw [zxJ] at zqx)
         have zCL:(IntKind.i64.wrap ((yV.length:Int) - 1)) = Wm:=(vU _).trans zxJ
         by_cases c20:0 ≤ (Wm)
         ·rw [if_pos c20] at H
          have zoX:decide (0 ≤ (Wm)) = true:=decide_eq_true c20
          clear c20
          by_cases c21:(Wm) < (yV.length:Int)
          ·rw [if_pos c21] at H
           have zY4:decide ((Wm) < (yV.length:Int)) = true:=decide_eq_true c21
           clear c21
           have H':=zx.mk H
           clear H
           have nL:Zu.cell? ⟨xW,0,none⟩ = some (.int .i64 zS):=zw zO 0
           have nM:Zu.cell? ⟨xW,1,none⟩ = some (.int .i64 zP):=zw zO 1
           have nN:Zu.cell? ⟨xW,2,none⟩ = some (.bool yC):=zw zO 2
           have nO:Zu.cell? ⟨xW,3,none⟩ = some (.bool true):=zw zO 3
           have nP:=zy zO.out 0
           have nR:=zy zO.out 1
           have nS:=zy zO.out 2
           have nT:=zy zO.out 3
           have zZI:0 ≤ ((Wm):Int):=of_decide_eq_true yF
           have zZL:(Wm) < (yV.length:Int):=of_decide_eq_true yF
           obtain ⟨zDD,zCM,zCN,e187,zhe,zhf,zhg,zhh,zhi,zhl,zJn,zJo,zJp⟩:=VA (Kd.wO xG.out).2.2 (Wm) zZI zZL
           cases e187
           obtain ⟨zDE,zlS,zlT,zbK⟩:=Kd.zwY xG.out z53 (Wm) zZI (by first | exact zZL | exact of_decide_eq_true yF | (have e_:=(Kd.wO xG.out).1;omega))
           obtain ⟨zuZ,rfl,zk5⟩:=tQ zlT
           have oV:=zbK 6 _ rfl
           rw [vJ _ _ 6 (by omega)] at oV
           replace oV:=Option.some.inj (oV.symm.trans zJn)
           rw [oV] at zk5
           have zuQ:=zx.mk (show Kd.R (Kd.int .i64) 3 _ _ _ _ ((yx yV (Wm)).f6) from zk5)
           clear oV zk5 zbK zlS
           have zuX:=zx.mk zJp
           have zuJ:=zx.mk zJo
           clear zJp zJo
           replace zZI:=eq_true zZI
           replace zZL:=eq_true zZL
           go_wp2
           subst zxJ
           go_meet
           case rel=>exact ⟨_,((((yx yV (wrap64 ((yV.length:Int) - 1))).f2) == t182)),(by first | rfl | (simp;done) | (simp only [← zxJ] <;> (first | rfl | simp)) | (simp [*];done)),H',⟨by have:=uK.out;first | omega | exact Nat.le_refl _⟩,⟨by (with_reducible repeat (first | apply Kd.vR | apply Kd.vS | apply Kd.vZ));exact xG.out⟩,⟨vQ xg.out⟩,⟨qV zO.out⟩,⟨zG HB.out⟩⟩
          ·rw [if_neg c21] at H
           exact absurd H (by simp)
         ·rw [if_neg c20] at H
          exact absurd H (by simp)
        ·rw [if_neg c18] at H
         have zqx:decide (0 ≤ (wrap64 ((yV.length:Int) - 1))) = false:=decide_eq_false c18
         clear c18
         (first | rw [zqx] | (simp only [vU,uW];rw [zqx]) | skip)
         have H':=zx.mk H
         clear H
         have fT:Zu.cell? ⟨xW,0,none⟩ = some (.int .i64 zS):=zw zO 0
         have fU:Zu.cell? ⟨xW,1,none⟩ = some (.int .i64 zP):=zw zO 1
         have eZ:Zu.cell? ⟨xW,2,none⟩ = some (.bool yC):=zw zO 2
         have eX:Zu.cell? ⟨xW,3,none⟩ = some (.bool true):=zw zO 3
         have eY:=zy zO.out 0
         have eB:=zy zO.out 1
         have eD:=zy zO.out 2
         have eG:=zy zO.out 3
         go_wp2
         go_meet
         case rel=>exact ⟨_,(false),(by first | rfl | (simp;done) | (simp [*];done)),H',⟨by have:=uK.out;first | omega | exact Nat.le_refl _⟩,⟨by (with_reducible repeat (first | apply Kd.vR | apply Kd.vS | apply Kd.vZ));exact xG.out⟩,⟨vQ xg.out⟩,⟨qV zO.out⟩,⟨zG HB.out⟩⟩
       ·replace c17:=Bool.eq_false_iff.mpr c17
        subst c17
        have H1:(zV.j1 k1 l0 l2 yV vk yY t182 (wrap64 ((yV.length:Int) - 1)) false zS zP yC false) = some (r1,r2):=by rw [if_neg (show ¬ (false = true) by decide)] at H;exact H
        clear H
        have H:=H1
        clear H1
        have H':=zx.mk H
        clear H
        have zk6:Zu.cell? ⟨xW,0,none⟩ = some (.int .i64 zS):=zw zO 0
        have zk7:Zu.cell? ⟨xW,1,none⟩ = some (.int .i64 zP):=zw zO 1
        have zk8:Zu.cell? ⟨xW,2,none⟩ = some (.bool yC):=zw zO 2
        have zk9:Zu.cell? ⟨xW,3,none⟩ = some (.bool false):=zw zO 3
        have zyz:=zy zO.out 0
        have zyq:=zy zO.out 1
        have zyx:=zy zO.out 2
        have zyj:=zy zO.out 3
        go_wp2
        go_meet
        case rel=>exact ⟨_,(false),(by first | rfl | (simp;done) | (simp [*];done)),H',⟨by have:=uK.out;first | omega | exact Nat.le_refl _⟩,⟨by (with_reducible repeat (first | apply Kd.vR | apply Kd.vS | apply Kd.vZ));exact xG.out⟩,⟨vQ xg.out⟩,⟨qV zO.out⟩,⟨zG HB.out⟩⟩
      case rest =>
       clear zdn
       try clear c2
       try clear c5
       try clear pY
       try clear c6
       try clear wP
       try clear c8
       try clear Zt
       try clear c9
       try clear c17
       try clear c18
       try clear zqx
       try clear c20
       try clear zoX
       try clear c21
       try clear zY4
       try clear nL
       try clear nM
       try clear nN
       try clear nO
       try clear fT
       try clear fU
       try clear eZ
       try clear eX
       try clear zk6
       try clear zk7
       try clear zk8
       try clear zk9
       try clear nP
       try clear nR
       try clear nS
       try clear nT
       try clear eY
       try clear eB
       try clear eD
       try clear eG
       try clear zyz
       try clear zyq
       try clear zyx
       try clear zyj
       try clear Yo
       try clear zxX
       try clear zhe
       try clear zhf
       try clear zhg
       try clear zhh
       try clear zhi
       try clear zhl
       try clear zJn
       try clear zqu
       try clear zWh
       try clear zZI
       try clear zqA
       try clear zWi
       try clear zZL
       obtain ⟨kq,zvs,rfl,HA,zyv,xG,xg,zO,HB⟩:=hcut
       cases kq with
       | zero=>exact absurd HA.out (by simp [zV.j1])
       | succ pX =>
        have H:=HA.out
        clear HA
        simp only [zV.j1] at H
        by_cases c25:zvs = true
        ·subst c25
         have H1:(if 0 ≤ t182 then (if t182 < (l0.length:Int) then (if 0 ≤ (wrap64 ((yV.length:Int) - 1)) then (if (wrap64 ((yV.length:Int) - 1)) < (yV.length:Int) then (if 0 ≤ yY then (if yY < (l2.length:Int) then ((uH.f pX ((zZ l0 t182).f0) ((zZ l0 t182).f1) ((zZ l0 t182).f2) ((zZ l0 t182).f3) ((zZ l0 t182).f4) ((zZ l0 t182).f5) ((yx yV (wrap64 ((yV.length:Int) - 1))).f4) (qb ByteArray.empty l2 yY) zP).bind fun tF=>(if tF.1 = 0 then ((yP.f pX ((zZ l0 t182).f0) ((zZ l0 t182).f1) ((zZ l0 t182).f2) ((zZ l0 t182).f3) ((zZ l0 t182).f4) ((zZ l0 t182).f5) (qb ByteArray.empty l2 yY) zP).bind fun zqq=>(if yV.length < 1599289640401 then (zV.l0 pX l0 l2 (yV ++ [(⟨0,zqq.1,t182,zP,qb ByteArray.empty l2 yY,(⟨#[]⟩:ByteArray),([]:List Int)⟩:vP)]) vk (wrap64 (yY + 1)) zS zP yC yh) else (none))) else (if yV.length < 1599289640401 then ((some (yV ++ [(⟨2,tF.1,0,0,(⟨#[]⟩:ByteArray),(⟨#[]⟩:ByteArray),([]:List Int)⟩:vP)]:List (vP))).bind fun Xu=>((yP.f pX ((zZ l0 t182).f0) ((zZ l0 t182).f1) ((zZ l0 t182).f2) ((zZ l0 t182).f3) ((zZ l0 t182).f4) ((zZ l0 t182).f5) (qb ByteArray.empty l2 yY) zP).bind fun gI=>(if Xu.length < 1599289640401 then (zV.l0 pX l0 l2 (Xu ++ [(⟨0,gI.1,t182,zP,qb ByteArray.empty l2 yY,(⟨#[]⟩:ByteArray),([]:List Int)⟩:vP)]) vk (wrap64 (yY + 1)) zS zP yC yh) else (none)))) else (none)))) else (none)) else (none)) else (none)) else (none)) else (none)) else (none)) = some (r1,r2):=by rw [if_pos rfl] at H;exact H
         clear H
         have H:=H1
         clear H1
         by_cases c26:0 ≤ t182
         ·rw [if_pos c26] at H
          have zDF:decide (0 ≤ t182) = true:=decide_eq_true c26
          clear c26
          by_cases c27:t182 < (l0.length:Int)
          ·rw [if_pos c27] at H
           have zDG:decide (t182 < (l0.length:Int)) = true:=decide_eq_true c27
           clear c27
           obtain ⟨vT,zvt⟩:∃ j_:Int,(wrap64 ((yV.length:Int) - 1)) = j_:=⟨_,rfl⟩
           replace H:(if 0 ≤ (vT) then (if (vT) < (yV.length:Int) then (if 0 ≤ yY then (if yY < (l2.length:Int) then ((uH.f pX ((zZ l0 t182).f0) ((zZ l0 t182).f1) ((zZ l0 t182).f2) ((zZ l0 t182).f3) ((zZ l0 t182).f4) ((zZ l0 t182).f5) ((yx yV (vT)).f4) (qb ByteArray.empty l2 yY) zP).bind fun tF=>(if tF.1 = 0 then ((yP.f pX ((zZ l0 t182).f0) ((zZ l0 t182).f1) ((zZ l0 t182).f2) ((zZ l0 t182).f3) ((zZ l0 t182).f4) ((zZ l0 t182).f5) (qb ByteArray.empty l2 yY) zP).bind fun zqq=>(if yV.length < 1599289640401 then (zV.l0 pX l0 l2 (yV ++ [(⟨0,zqq.1,t182,zP,qb ByteArray.empty l2 yY,(⟨#[]⟩:ByteArray),([]:List Int)⟩:vP)]) vk (wrap64 (yY + 1)) zS zP yC yh) else (none))) else (if yV.length < 1599289640401 then ((some (yV ++ [(⟨2,tF.1,0,0,(⟨#[]⟩:ByteArray),(⟨#[]⟩:ByteArray),([]:List Int)⟩:vP)]:List (vP))).bind fun Xu=>((yP.f pX ((zZ l0 t182).f0) ((zZ l0 t182).f1) ((zZ l0 t182).f2) ((zZ l0 t182).f3) ((zZ l0 t182).f4) ((zZ l0 t182).f5) (qb ByteArray.empty l2 yY) zP).bind fun gI=>(if Xu.length < 1599289640401 then (zV.l0 pX l0 l2 (Xu ++ [(⟨0,gI.1,t182,zP,qb ByteArray.empty l2 yY,(⟨#[]⟩:ByteArray),([]:List Int)⟩:vP)]) vk (wrap64 (yY + 1)) zS zP yC yh) else (none)))) else (none)))) else (none)) else (none)) else (none)) else (none)) = some (r1,r2):=by first | (rw [zvt] at H;exact H) | (simp only [zvt] at H ⊢;exact H)
           have zCO:(IntKind.i64.wrap ((yV.length:Int) - 1)) = vT:=(vU _).trans zvt
           by_cases c29:0 ≤ (vT)
           ·rw [if_pos c29] at H
            have zfv:decide (0 ≤ (vT)) = true:=decide_eq_true c29
            clear c29
            by_cases gD:(vT) < (yV.length:Int)
            ·rw [if_pos gD] at H
             have zWJ:decide ((vT) < (yV.length:Int)) = true:=decide_eq_true gD
             clear gD
             by_cases c31:0 ≤ yY
             ·rw [if_pos c31] at H
              have ze9:decide (0 ≤ yY) = true:=decide_eq_true c31
              clear c31
              by_cases c32:yY < (l2.length:Int)
              ·rw [if_pos c32] at H
               have zfz:decide (yY < (l2.length:Int)) = true:=decide_eq_true c32
               clear c32
               replace H:=Option.bind_eq_some_iff.mp H
               obtain ⟨⟨bO,zlU⟩,zl0,H⟩:=H
               replace H:(if bO = 0 then ((yP.f pX ((zZ l0 t182).f0) ((zZ l0 t182).f1) ((zZ l0 t182).f2) ((zZ l0 t182).f3) ((zZ l0 t182).f4) ((zZ l0 t182).f5) (qb ByteArray.empty l2 yY) zP).bind fun zqq=>(if yV.length < 1599289640401 then (zV.l0 pX l0 l2 (yV ++ [(⟨0,zqq.1,t182,zP,qb ByteArray.empty l2 yY,(⟨#[]⟩:ByteArray),([]:List Int)⟩:vP)]) vk (wrap64 (yY + 1)) zS zP yC yh) else (none))) else (if yV.length < 1599289640401 then ((some (yV ++ [(⟨2,bO,0,0,(⟨#[]⟩:ByteArray),(⟨#[]⟩:ByteArray),([]:List Int)⟩:vP)]:List (vP))).bind fun Xu=>((yP.f pX ((zZ l0 t182).f0) ((zZ l0 t182).f1) ((zZ l0 t182).f2) ((zZ l0 t182).f3) ((zZ l0 t182).f4) ((zZ l0 t182).f5) (qb ByteArray.empty l2 yY) zP).bind fun gI=>(if Xu.length < 1599289640401 then (zV.l0 pX l0 l2 (Xu ++ [(⟨0,gI.1,t182,zP,qb ByteArray.empty l2 yY,(⟨#[]⟩:ByteArray),([]:List Int)⟩:vP)]) vk (wrap64 (yY + 1)) zS zP yC yh) else (none)))) else (none))) = some (r1,r2):=H
               have A33:=zx.mk zl0
               clear zl0
               by_cases c34:bO = 0
               ·rw [if_pos c34] at H
                have zWm:(bO == 0) = true:=beq_iff_eq.mpr c34
                have zoJ:(bO != 0) = false:=bne_eq_false_iff_eq.mpr c34
                clear c34
                replace H:=Option.bind_eq_some_iff.mp H
                obtain ⟨⟨zyk,t196⟩,zl1,H⟩:=H
                replace H:(if yV.length < 1599289640401 then (zV.l0 pX l0 l2 (yV ++ [(⟨0,zyk,t182,zP,qb ByteArray.empty l2 yY,(⟨#[]⟩:ByteArray),([]:List Int)⟩:vP)]) vk (wrap64 (yY + 1)) zS zP yC yh) else (none)) = some (r1,r2):=H
                have A35:=zx.mk zl1
                clear zl1
                by_cases tH:yV.length < 1599289640401
                ·rw [if_pos tH] at H
                 have zoV:=zx.mk tH
                 clear tH
                 obtain ⟨zl2,zvu⟩:∃ y_:List (vP),y_ = (yV ++ [(⟨0,zyk,t182,zP,qb ByteArray.empty l2 yY,(⟨#[]⟩:ByteArray),([]:List Int)⟩:vP)]):=⟨_,rfl⟩
                 replace H:(zV.l0 pX l0 l2 zl2 vk (wrap64 (yY + 1)) zS zP yC yh) = some (r1,r2):=by first | (rw [zvu];with_reducible exact H) | (have jH:=(Option.bind_some _ _).symm.trans H;rw [zvu];with_reducible exact jH) | (have jH:=(Option.bind_some _ _).symm.trans H;with_reducible exact jH) | with_reducible exact H | (rw [zvu];exact H) | exact H
                 have zoK:=zx.mk zvu
                 clear zvu
                 have H':=zx.mk H
                 clear H
                 try go_wp2
                 have zW:=zx.mk (Kd.vZ xG.out)
                 have zh:=zx.mk (Kd.uw xg.out)
                 have zo:=zx.mk (xV zO.out)
                 have zM:=zx.mk (zR HB.out)
                 clear xG xg zO HB
                 have xG:=zW
                 have xg:=zh
                 have zO:=zo
                 have HB:=zM
                 clear zW zh zo zM
                 have zju:0 ≤ (t182:Int):=of_decide_eq_true yF
                 have zjA:t182 < (l0.length:Int):=of_decide_eq_true yF
                 obtain ⟨uV,zqB,zqC,zqD,zqE,zqF,zqG,zdo,Y8,Y9,Xz,Xq,Xx,Xj,oK,oW,oh,om,oo,ou⟩:=Ze ji.out t182 zju zjA
                 have Q9:=Xj
                 have Vz:=Xx
                 have Vq:=Xq
                 have Vx:=Xz
                 have Vj:=Y9
                 have Vv:=Y8
                 cases zdo
                 replace Y8:=(HB.out.cell (World.block_lt_of_cell? w _ Y8)).trans Y8
                 replace Y9:=(HB.out.cell (World.block_lt_of_cell? w _ Y9)).trans Y9
                 replace Xz:=(HB.out.cell (World.block_lt_of_cell? w _ Xz)).trans Xz
                 replace Xq:=(HB.out.cell (World.block_lt_of_cell? w _ Xq)).trans Xq
                 replace Xx:=(HB.out.cell (World.block_lt_of_cell? w _ Xx)).trans Xx
                 replace Xj:=(HB.out.cell (World.block_lt_of_cell? w _ Xj)).trans Xj
                 have oC:=zx.mk oW
                 have zyy:=zx.mk oK
                 clear oW oK
                 have oD:=zx.mk om
                 have zyw:=zx.mk oh
                 clear om oh
                 have oF:=zx.mk ou
                 have zyZ:=zx.mk oo
                 clear ou oo
                 replace zju:=eq_true zju
                 replace zjA:=eq_true zjA
                 have zqj:0 ≤ ((vT):Int):=of_decide_eq_true yF
                 have zqv:(vT) < (yV.length:Int):=of_decide_eq_true yF
                 obtain ⟨wQ,zZM,zZN,e189,oG,oH,oI,oL,oM,oN,bR,oO,oP⟩:=VA (Kd.wO xG.out).2.2 (vT) zqj zqv
                 cases e189
                 obtain ⟨zoY,zZO,zZP,zqH⟩:=Kd.zwY xG.out z53 (vT) zqj (by first | exact zqv | exact of_decide_eq_true yF | (have e_:=(Kd.wO xG.out).1;omega))
                 obtain ⟨zhm,rfl,bS⟩:=tQ zZP
                 have Xv:=zqH 6 _ rfl
                 rw [vJ _ _ 6 (by omega)] at Xv
                 replace Xv:=Option.some.inj (Xv.symm.trans bR)
                 rw [Xv] at bS
                 have vY:=zx.mk (show Kd.R (Kd.int .i64) 3 _ _ _ _ ((yx yV (vT)).f6) from bS)
                 clear Xv bS zqH zZO
                 have wW:=zx.mk oP
                 have zhn:=zx.mk oO
                 clear oP oO
                 replace zqj:=eq_true zqj
                 replace zqv:=eq_true zqv
                 have zjB:0 ≤ (yY:Int):=of_decide_eq_true yF
                 have zjC:yY < (l2.length:Int):=of_decide_eq_true yF
                 obtain ⟨zWn,e190,Xk⟩:=Kd.uQ HR2.out yY zjB zjC
                 have Vk:=Xk
                 obtain rfl:ZL = zWn:=(by injection e190)
                 replace Xk:=(HB.out.cell (World.block_lt_of_cell? w _ Xk)).trans Xk
                 replace zjB:=eq_true zjB
                 replace zjC:=eq_true zjC
                 refine jr (n:=21) (S:=fun w'=>w'.cell? ⟨xW,0,none⟩ = some (.int .i64 zS) ∧ w'.cell? ⟨xW,1,none⟩ = some (.int .i64 zP) ∧ w'.cell? ⟨xW,2,none⟩ = some (.bool yC) ∧ w'.cell? ⟨xW,3,none⟩ = some (.bool yh) ∧ w'.cell? (uV.add ((t182).toNat * 6)) = some (.string ((zZ l0 t182).f0)) ∧ w'.cell? ⟨(uV.add ((t182).toNat * 6)).block,(uV.add ((t182).toNat * 6)).off + 1,none⟩ = some (.bool ((zZ l0 t182).f1)) ∧ w'.cell? ⟨(uV.add ((t182).toNat * 6)).block,(uV.add ((t182).toNat * 6)).off + 2,none⟩ = some (.int .i64 ((zZ l0 t182).f2)) ∧ w'.cell? ⟨(uV.add ((t182).toNat * 6)).block,(uV.add ((t182).toNat * 6)).off + 3,none⟩ = some (.slice zqB ((zZ l0 t182).f3).length zqC) ∧ w'.cell? ⟨(uV.add ((t182).toNat * 6)).block,(uV.add ((t182).toNat * 6)).off + 4,none⟩ = some (.slice zqD ((zZ l0 t182).f4).length zqE) ∧ w'.cell? ⟨(uV.add ((t182).toNat * 6)).block,(uV.add ((t182).toNat * 6)).off + 5,none⟩ = some (.slice zqF ((zZ l0 t182).f5).length zqG) ∧ w'.cell? (wQ.add (((vT)).toNat * 7)) = some (.int .i64 ((yx yV (vT)).f0)) ∧ w'.cell? ⟨(wQ.add (((vT)).toNat * 7)).block,(wQ.add (((vT)).toNat * 7)).off + 1,none⟩ = some (.int .i64 ((yx yV (vT)).f1)) ∧ w'.cell? ⟨(wQ.add (((vT)).toNat * 7)).block,(wQ.add (((vT)).toNat * 7)).off + 2,none⟩ = some (.int .i64 ((yx yV (vT)).f2)) ∧ w'.cell? ⟨(wQ.add (((vT)).toNat * 7)).block,(wQ.add (((vT)).toNat * 7)).off + 3,none⟩ = some (.int .i64 ((yx yV (vT)).f3)) ∧ w'.cell? ⟨(wQ.add (((vT)).toNat * 7)).block,(wQ.add (((vT)).toNat * 7)).off + 4,none⟩ = some (.string ((yx yV (vT)).f4)) ∧ w'.cell? ⟨(wQ.add (((vT)).toNat * 7)).block,(wQ.add (((vT)).toNat * 7)).off + 5,none⟩ = some (.string ((yx yV (vT)).f5)) ∧ w'.cell? ⟨(wQ.add (((vT)).toNat * 7)).block,(wQ.add (((vT)).toNat * 7)).off + 6,none⟩ = some (.slice zZM ((yx yV (vT)).f6).length zZN) ∧ w'.cell? (ZL.add (yY).toNat) = some (.string (qb ByteArray.empty l2 yY))) (ds:=[]) #[false,false,false,false,false,false,false,false,false,false,false,false,false,false,false,false,false,false,false,false,false] (by kernel_rfl) rfl rfl ⟨zw zO 0,zw zO 1,zw zO 2,zw zO 3,((HB.out.cell (World.block_lt_of_cell? w _ Vv)).trans Vv),((HB.out.cell (World.block_lt_of_cell? w _ Vj)).trans Vj),((HB.out.cell (World.block_lt_of_cell? w _ Vx)).trans Vx),((HB.out.cell (World.block_lt_of_cell? w _ Vq)).trans Vq),((HB.out.cell (World.block_lt_of_cell? w _ Vz)).trans Vz),((HB.out.cell (World.block_lt_of_cell? w _ Q9)).trans Q9),oG,oH,oI,oL,oM,oN,bR,((HB.out.cell (World.block_lt_of_cell? w _ Vk)).trans Vk)⟩ (fun hHeld=>?_);refine uT zV.zfj zV.zbV (fun zi vD=>?_)
                 generalize wc.drew = w37 at xG xg zO HB vY oC oD oF wW Y8 Y9 Xz Xq Xx Xj oG oH oI oL oM oN bR Xk hHeld ⊢
                 refine yu 0 (some 59) zi ?_
                 refine yu 1 (some 60) zi ?_
                 refine yu 2 (some 61) zi ?_
                 refine yu 4 (some 63) zi ?_
                 refine yu 5 (some 64) zi ?_
                 refine yu 6 (some 65) zi ?_
                 refine yu 7 (some 66) zi ?_
                 refine yu 9 (some 68) zi ?_
                 refine yu 10 (some 69) zi ?_
                 refine yu 11 (some 70) zi ?_
                 refine yu 13 (some 72) zi ?_
                 refine jK 3 (some 62) zi vD hHeld ?_
                 refine jK 8 (some 67) zi vD hHeld ?_
                 refine jK 12 (some 71) zi vD hHeld ?_
                 refine jK 14 (some 73) zi vD hHeld ?_
                 refine Zr 15 (some 74) zi (fun K hK=>?_)
                 refine wS Tryz.func109 (by kernel_rfl) rfl #[.agg #[.string ((zZ l0 t182).f0),.bool ((zZ l0 t182).f1),.int .i64 ((zZ l0 t182).f2),.slice zqB ((zZ l0 t182).f3).length zqC,.slice zqD ((zZ l0 t182).f4).length zqE,.slice zqF ((zZ l0 t182).f5).length zqG],.string ((yx yV (vT)).f4),.string (qb ByteArray.empty l2 yY),.int .i64 zP] (by rfl) rfl rfl (by (try simp only [List.map_toArray,List.map_cons,List.map_nil]);first | done | (simp only [zvt];rfl) | rfl | (simp only [List.length_drop,List.length_take];rfl)) ?_
                 with_reducible refine (uH.calls pX ((zZ l0 t182).f0) ((zZ l0 t182).f1) ((zZ l0 t182).f2) _ _ ((zZ l0 t182).f3) _ _ ((zZ l0 t182).f4) _ _ ((zZ l0 t182).f5) ((yx yV (vT)).f4) (qb ByteArray.empty l2 yY) zP bO zlU _ ?yc ?yG ?qZ ?qQ ?qB ?qC A33.out).mono ?_
                 (case yc=>exact qY (Kd.zm oC.out HB.out))
                 (case yG=>exact zyy.out)
                 (case qZ=>exact qY (Kd.zm oD.out HB.out))
                 (case qQ=>exact zyw.out)
                 (case qB=>exact qY (Kd.zm oF.out HB.out))
                 (case qC=>exact zyZ.out)
                 rintro e w38 ⟨rfl,hb⟩
                 have zWo:=(hb.cell (World.block_lt_of_cell? _ _ (hHeld.2.2.2.2.2.2.2.2.2.2.1))).trans (hHeld.2.2.2.2.2.2.2.2.2.2.1)
                 have zWp:=(hb.cell (World.block_lt_of_cell? _ _ (hHeld.2.2.2.2.2.2.2.2.2.2.2.1))).trans (hHeld.2.2.2.2.2.2.2.2.2.2.2.1)
                 have zWr:=(hb.cell (World.block_lt_of_cell? _ _ (hHeld.2.2.2.2.2.2.2.2.2.2.2.2.1))).trans (hHeld.2.2.2.2.2.2.2.2.2.2.2.2.1)
                 have zWs:=(hb.cell (World.block_lt_of_cell? _ _ (hHeld.2.2.2.2.2.2.2.2.2.2.2.2.2.1))).trans (hHeld.2.2.2.2.2.2.2.2.2.2.2.2.2.1)
                 have zWt:=(hb.cell (World.block_lt_of_cell? _ _ (hHeld.2.2.2.2.2.2.2.2.2.2.2.2.2.2.1))).trans (hHeld.2.2.2.2.2.2.2.2.2.2.2.2.2.2.1)
                 have zWu:=(hb.cell (World.block_lt_of_cell? _ _ (hHeld.2.2.2.2.2.2.2.2.2.2.2.2.2.2.2.1))).trans (hHeld.2.2.2.2.2.2.2.2.2.2.2.2.2.2.2.1)
                 have zWA:=(hb.cell (World.block_lt_of_cell? _ _ (hHeld.2.2.2.2.2.2.2.2.2.2.2.2.2.2.2.2.1))).trans (hHeld.2.2.2.2.2.2.2.2.2.2.2.2.2.2.2.2.1)
                 refine ⟨_,rfl,?_⟩
                 have zW:=zx.mk (Kd.wD (aG xG.out) hb)
                 have zh:=zx.mk (Kd.xI (vQ xg.out) hb)
                 have zo:=zx.mk (Kd.xI (vQ vY.out) hb)
                 have zM:=zx.mk (yj (g:=xW) (o:=.cells #[.int .i64 zS,.int .i64 zP,.bool yC,.bool yh] 41 (0,0)) (qV zO.out) hb)
                 have qw:=zx.mk (Kd.zm (ckS wW.out) hb)
                 have xE:=zx.mk (zC (zG HB.out) hb)
                 clear xG xg vY zO wW HB
                 have xG:=zW
                 have xg:=zh
                 have vY:=zo
                 have zO:=zM
                 have wW:=qw
                 have HB:=xE
                 clear zW zh zo zM qw xE
                 (try clear hb)
                 (try clear hk)
                 refine hK.out _ _ ⟨zw zO 0,zw zO 1,zw zO 2,zw zO 3,((HB.out.cell (World.block_lt_of_cell? w _ Vv)).trans Vv),((HB.out.cell (World.block_lt_of_cell? w _ Vj)).trans Vj),((HB.out.cell (World.block_lt_of_cell? w _ Vx)).trans Vx),((HB.out.cell (World.block_lt_of_cell? w _ Vq)).trans Vq),((HB.out.cell (World.block_lt_of_cell? w _ Vz)).trans Vz),((HB.out.cell (World.block_lt_of_cell? w _ Q9)).trans Q9),zWo,zWp,zWr,zWs,zWt,zWu,zWA,((HB.out.cell (World.block_lt_of_cell? w _ Vk)).trans Vk)⟩ (fun hHeld=>?_)
                 clear hK K
                 refine ZF (some 74) ?_
                 refine yu 16 (some 58) zi ?_
                 refine yu 17 (some 75) zi ?_
                 refine yu 18 (some 76) zi ?_
                 refine yu 19 (some 13) zi ?_
                 refine yu 20 (some 14) zi ?_
                 refine vW (qP zi.out (by kernel_rfl)) ?_
                 try go_wp2
                 have zW:=zx.mk (Kd.vZ xG.out)
                 have zh:=zx.mk (Kd.uw xg.out)
                 have zo:=zx.mk (Kd.uw vY.out)
                 have zM:=zx.mk (xV zO.out)
                 have qw:=zx.mk (Kd.zqW wW.out)
                 have xE:=zx.mk (zR HB.out)
                 clear xG xg vY zO wW HB
                 have xG:=zW
                 have xg:=zh
                 have vY:=zo
                 have zO:=zM
                 have wW:=qw
                 have HB:=xE
                 clear zW zh zo zM qw xE
                 have zdp:0 ≤ (t182:Int):=of_decide_eq_true yF
                 have zdr:t182 < (l0.length:Int):=of_decide_eq_true yF
                 obtain ⟨zoW,zbY,zbW,zba,zbb,zbc,zbd,zrE,oU,o7,o8,o9,zzq,zzx,zJr,zJs,zJt,zJu,zJA,zJB⟩:=Ze ji.out t182 zdp zdr
                 have zxV:=zzx
                 have zxK:=zzq
                 have zxY:=o9
                 have zxW:=o8
                 have zxa:=o7
                 have zxb:=oU
                 obtain rfl:uV = zoW:=(by injection zrE)
                 replace oU:=(HB.out.cell (World.block_lt_of_cell? w _ oU)).trans oU
                 replace o7:=(HB.out.cell (World.block_lt_of_cell? w _ o7)).trans o7
                 replace o8:=(HB.out.cell (World.block_lt_of_cell? w _ o8)).trans o8
                 replace o9:=(HB.out.cell (World.block_lt_of_cell? w _ o9)).trans o9
                 replace zzq:=(HB.out.cell (World.block_lt_of_cell? w _ zzq)).trans zzq
                 replace zzx:=(HB.out.cell (World.block_lt_of_cell? w _ zzx)).trans zzx
                 have zJC:=zx.mk zJs
                 have zho:=zx.mk zJr
                 clear zJs zJr
                 have zJD:=zx.mk zJu
                 have zhp:=zx.mk zJt
                 clear zJu zJt
                 have zJE:=zx.mk zJB
                 have zhr:=zx.mk zJA
                 clear zJB zJA
                 replace zdp:=eq_true zdp
                 replace zdr:=eq_true zdr
                 have zds:0 ≤ (yY:Int):=of_decide_eq_true yF
                 have zdu:yY < (l2.length:Int):=of_decide_eq_true yF
                 obtain ⟨zoa,zrF,zzj⟩:=Kd.uQ HR2.out yY zds zdu
                 have zxc:=zzj
                 obtain rfl:ZL = zoa:=(by injection zrF)
                 replace zzj:=(HB.out.cell (World.block_lt_of_cell? w _ zzj)).trans zzj
                 replace zds:=eq_true zds
                 replace zdu:=eq_true zdu
                 refine jr (n:=16) (S:=fun w'=>w'.cell? ⟨xW,0,none⟩ = some (.int .i64 zS) ∧ w'.cell? ⟨xW,1,none⟩ = some (.int .i64 zP) ∧ w'.cell? ⟨xW,2,none⟩ = some (.bool yC) ∧ w'.cell? ⟨xW,3,none⟩ = some (.bool yh) ∧ w'.cell? (uV.add ((t182).toNat * 6)) = some (.string ((zZ l0 t182).f0)) ∧ w'.cell? ⟨(uV.add ((t182).toNat * 6)).block,(uV.add ((t182).toNat * 6)).off + 1,none⟩ = some (.bool ((zZ l0 t182).f1)) ∧ w'.cell? ⟨(uV.add ((t182).toNat * 6)).block,(uV.add ((t182).toNat * 6)).off + 2,none⟩ = some (.int .i64 ((zZ l0 t182).f2)) ∧ w'.cell? ⟨(uV.add ((t182).toNat * 6)).block,(uV.add ((t182).toNat * 6)).off + 3,none⟩ = some (.slice zbY ((zZ l0 t182).f3).length zbW) ∧ w'.cell? ⟨(uV.add ((t182).toNat * 6)).block,(uV.add ((t182).toNat * 6)).off + 4,none⟩ = some (.slice zba ((zZ l0 t182).f4).length zbb) ∧ w'.cell? ⟨(uV.add ((t182).toNat * 6)).block,(uV.add ((t182).toNat * 6)).off + 5,none⟩ = some (.slice zbc ((zZ l0 t182).f5).length zbd) ∧ w'.cell? (ZL.add (yY).toNat) = some (.string (qb ByteArray.empty l2 yY))) (ds:=[]) #[false,false,false,false,false,false,false,false,false,false,false,false,false,false,false,false] (by kernel_rfl) rfl rfl ⟨zw zO 0,zw zO 1,zw zO 2,zw zO 3,((HB.out.cell (World.block_lt_of_cell? w _ zxb)).trans zxb),((HB.out.cell (World.block_lt_of_cell? w _ zxa)).trans zxa),((HB.out.cell (World.block_lt_of_cell? w _ zxW)).trans zxW),((HB.out.cell (World.block_lt_of_cell? w _ zxY)).trans zxY),((HB.out.cell (World.block_lt_of_cell? w _ zxK)).trans zxK),((HB.out.cell (World.block_lt_of_cell? w _ zxV)).trans zxV),((HB.out.cell (World.block_lt_of_cell? w _ zxc)).trans zxc)⟩ (fun hHeld=>?_);refine uT zV.zvp zV.zZG (fun zi vD=>?_)
                 generalize w38.drew = w39 at xG xg vY zO wW HB zJC zJD zJE oU o7 o8 o9 zzq zzx zzj hHeld ⊢
                 refine yu 0 (some 85) zi ?_
                 refine yu 1 (some 86) zi ?_
                 refine yu 2 (some 87) zi ?_
                 refine yu 4 (some 89) zi ?_
                 refine yu 5 (some 90) zi ?_
                 refine yu 6 (some 91) zi ?_
                 refine yu 8 (some 93) zi ?_
                 refine jK 3 (some 88) zi vD hHeld ?_
                 refine jK 7 (some 92) zi vD hHeld ?_
                 refine jK 9 (some 94) zi vD hHeld ?_
                 refine Zr 10 (some 95) zi (fun K hK=>?_)
                 refine wS Tryz.func71 (by kernel_rfl) rfl #[.agg #[.string ((zZ l0 t182).f0),.bool ((zZ l0 t182).f1),.int .i64 ((zZ l0 t182).f2),.slice zbY ((zZ l0 t182).f3).length zbW,.slice zba ((zZ l0 t182).f4).length zbb,.slice zbc ((zZ l0 t182).f5).length zbd],.string (qb ByteArray.empty l2 yY),.int .i64 zP] (by rfl) rfl rfl (by (try simp only [List.map_toArray,List.map_cons,List.map_nil]);first | done | rfl | (simp only [List.length_drop,List.length_take];rfl)) ?_
                 with_reducible refine (yP.calls pX ((zZ l0 t182).f0) ((zZ l0 t182).f1) ((zZ l0 t182).f2) _ _ ((zZ l0 t182).f3) _ _ ((zZ l0 t182).f4) _ _ ((zZ l0 t182).f5) (qb ByteArray.empty l2 yY) zP zyk t196 _ ?yc ?yG ?qZ ?qQ ?qB ?qC A35.out).mono ?_
                 (case yc=>exact qY (Kd.zm zJC.out HB.out))
                 (case yG=>exact zho.out)
                 (case qZ=>exact qY (Kd.zm zJD.out HB.out))
                 (case qQ=>exact zhp.out)
                 (case qB=>exact qY (Kd.zm zJE.out HB.out))
                 (case qC=>exact zhr.out)
                 rintro e w40 ⟨rfl,hb⟩
                 refine ⟨_,rfl,?_⟩
                 have zW:=zx.mk (Kd.wD (aG xG.out) hb)
                 have zh:=zx.mk (Kd.xI (vQ xg.out) hb)
                 have zo:=zx.mk (Kd.xI (vQ vY.out) hb)
                 have zM:=zx.mk (yj (g:=xW) (o:=.cells #[.int .i64 zS,.int .i64 zP,.bool yC,.bool yh] 41 (0,0)) (qV zO.out) hb)
                 have qw:=zx.mk (Kd.zm (ckS wW.out) hb)
                 have xE:=zx.mk (zC (zG HB.out) hb)
                 clear xG xg vY zO wW HB
                 have xG:=zW
                 have xg:=zh
                 have vY:=zo
                 have zO:=zM
                 have wW:=qw
                 have HB:=xE
                 clear zW zh zo zM qw xE
                 (try clear hb)
                 (try clear hk)
                 refine hK.out _ _ ⟨zw zO 0,zw zO 1,zw zO 2,zw zO 3,((HB.out.cell (World.block_lt_of_cell? w _ zxb)).trans zxb),((HB.out.cell (World.block_lt_of_cell? w _ zxa)).trans zxa),((HB.out.cell (World.block_lt_of_cell? w _ zxW)).trans zxW),((HB.out.cell (World.block_lt_of_cell? w _ zxY)).trans zxY),((HB.out.cell (World.block_lt_of_cell? w _ zxK)).trans zxK),((HB.out.cell (World.block_lt_of_cell? w _ zxV)).trans zxV),((HB.out.cell (World.block_lt_of_cell? w _ zxc)).trans zxc)⟩ (fun hHeld=>?_)
                 clear hK K
                 refine ZF (some 95) ?_
                 refine yu 11 (some 84) zi ?_
                 refine yu 12 (some 96) zi ?_
                 refine yu 13 (some 97) zi ?_
                 refine yu 14 (some 15) zi ?_
                 refine yu 15 (some 16) zi ?_
                 refine vW (qP zi.out (by kernel_rfl)) ?_
                 try go_wp2
                 have zW:=zx.mk (Kd.vZ xG.out)
                 have zh:=zx.mk (Kd.uw xg.out)
                 have zo:=zx.mk (Kd.uw vY.out)
                 have zM:=zx.mk (xV zO.out)
                 have qw:=zx.mk (Kd.zqW wW.out)
                 have xE:=zx.mk (zR HB.out)
                 clear xG xg vY zO wW HB
                 have xG:=zW
                 have xg:=zh
                 have vY:=zo
                 have zO:=zM
                 have wW:=qw
                 have HB:=xE
                 clear zW zh zo zM qw xE
                 have zdA:0 ≤ (yY:Int):=of_decide_eq_true yF
                 have zdB:yY < (l2.length:Int):=of_decide_eq_true yF
                 obtain ⟨zob,e197,zzv⟩:=Kd.uQ HR2.out yY zdA zdB
                 have KM:=zzv
                 obtain rfl:ZL = zob:=(by injection e197)
                 replace zzv:=(HB.out.cell (World.block_lt_of_cell? w _ zzv)).trans zzv
                 replace zdA:=eq_true zdA
                 replace zdB:=eq_true zdB
                 refine jr (n:=13) (S:=fun w'=>w'.cell? ⟨xW,0,none⟩ = some (.int .i64 zS) ∧ w'.cell? ⟨xW,1,none⟩ = some (.int .i64 zP) ∧ w'.cell? ⟨xW,2,none⟩ = some (.bool yC) ∧ w'.cell? ⟨xW,3,none⟩ = some (.bool yh) ∧ w'.cell? (ZL.add (yY).toNat) = some (.string (qb ByteArray.empty l2 yY))) (ds:=[]) #[false,false,false,false,false,false,false,false,false,false,false,false,false] (by kernel_rfl) rfl rfl ⟨zw zO 0,zw zO 1,zw zO 2,zw zO 3,((HB.out.cell (World.block_lt_of_cell? w _ KM)).trans KM)⟩ (fun hHeld=>?_);refine uT zV.zWg zV.zZH (fun zi vD=>?_)
                 generalize w40.drew = w41 at xG xg vY zO wW HB zzv hHeld ⊢
                 refine yu 0 (some 98) zi ?_
                 refine yu 1 (some 99) zi ?_
                 refine yu 2 (some 100) zi ?_
                 refine yu 3 (some 101) zi ?_
                 refine yu 5 (some 103) zi ?_
                 refine yu 6 (some 104) zi ?_
                 refine yu 7 (some 105) zi ?_
                 refine jK 4 (some 102) zi vD hHeld ?_
                 refine jK 8 (some 106) zi vD hHeld ?_
                 refine yu 9 (some 107) zi ?_
                 refine Zr 10 (some 108) zi (fun K hK=>?_)
                 refine vaS ?_
                 refine hK.out _ _ ⟨(zX (qx zO.out _) 0).trans rfl,(zX (qx zO.out _) 1).trans rfl,(zX (qx zO.out _) 2).trans rfl,(zX (qx zO.out _) 3).trans rfl,(World.cell?_alloc_lt _ _ _ (World.block_lt_of_cell? _ _ (((HB.out.cell (World.block_lt_of_cell? w _ KM)).trans KM)))).trans (((HB.out.cell (World.block_lt_of_cell? w _ KM)).trans KM))⟩ (fun hHeld=>?_)
                 clear hK K
                 refine ZF (some 108) ?_
                 refine Zr 11 (some 109) zi (fun K hK=>?_)
                 refine Kd.gq Qb (w0:=w) w.heap.size (by rfl) (.tmp 98) (.tmp 108) 34 53 (.agg #[(.int .i64 0),(.int .i64 0),(.int .i64 0),(.int .i64 0),(.string ⟨#[]⟩),(.string ⟨#[]⟩),(.slice none 0 0)]) 88 rfl Tryz.underlying34 aD rfl (by decide) (by omega) (.slice (some wQ) yV.length zWl) yV (⟨0,zyk,t182,zP,qb ByteArray.empty l2 yY,(⟨#[]⟩:ByteArray),([]:List Int)⟩:vP) [.int .i64 0,.int .i64 zyk,.int .i64 t182,.int .i64 zP,.string (qb ByteArray.empty l2 yY),.string (⟨#[]⟩:ByteArray),.slice none 0 0] (fun _=>True) (fun _=>False) rfl rfl ?aP (fun k_ uJ=>uJ.elim) ?aF ?aO ?aB ?aS ?aL ?_
                 (case aP=>exact mZ _ _ _ (⟨0,zyk,t182,zP,qb ByteArray.empty l2 yY,(⟨#[]⟩:ByteArray),([]:List Int)⟩:vP) (Kd.jf _ _ _ _ _))
                 (case aB=>exact (zG HB.out))
                 (case aF=>exact (fun _ _=>trivial))
                 (case aO=>exact (by (with_reducible repeat (first | apply Kd.vR | apply Kd.vS | apply Kd.vZ));exact Kd.pQ xG.out (fun k_ hk=>⟨trivial,fun e_=>e_⟩)))
                 (case aS=>exact (zf (zG HB.out)))
                 (case aL=>have:=zoV.out;omega)
                 intro zEB w42 ho hb hg hat
                 rw [← zoK.out] at ho
                 have zW:=zx.mk (Kd.Uk (vQ xg.out) (Kd.XL (aG xG.out)) (by decide) hg)
                 have zh:=zx.mk (uL (g:=xW) (o:=.cells #[.int .i64 zS,.int .i64 zP,.bool yC,.bool yh] 41 (0,0)) (qV zO.out) hg (Kd.zYt xG.out zO.out (by decide)))
                 have zo:=zx.mk (Kd.zq5 (ok:=(fun _=>True)) (vQ vY.out) hg hat)
                 have zM:=zx.mk (hb)
                 have qw:=zx.mk (ho)
                 clear xg zO vY HB xG
                 have xg:=zW
                 have zO:=zh
                 have vY:=zo
                 have HB:=zM
                 have zoc:=qw
                 clear zW zh zo zM qw ho hb hg hat
                 refine hK.out _ _ ⟨zw zO 0,zw zO 1,zw zO 2,zw zO 3,((HB.out.cell (World.block_lt_of_cell? w _ KM)).trans KM)⟩ (fun hHeld=>?_)
                 clear hK K
                 refine ZF (some 109) ?_
                 refine yu 12 (some 8) zi ?_
                 refine vW (qP zi.out (by kernel_rfl)) ?_
                 try go_wp2
                 go_roundg pX
                 case measure=>have:=uK.out;have:=zyv.out;omega
                 case rel=>exact ⟨(zl2),(vk),(wrap64 (yY + 1)),(by first | rfl | (simp;done) | (simp [*];done)),H',⟨by have:=uK.out;have:=zyv.out;omega⟩,⟨by (with_reducible repeat (first | apply Kd.vR | apply Kd.vS | apply Kd.vZ));exact zoc.out⟩,⟨vQ xg.out⟩,⟨qV zO.out⟩,⟨zG HB.out⟩⟩
                ·rw [if_neg tH] at H
                 exact absurd H (by simp)
               ·rw [if_neg c34] at H
                have zWm:(bO == 0) = false:=beq_eq_false_iff_ne.mpr c34
                have zoJ:(bO != 0) = true:=bne_iff_ne.mpr c34
                by_cases c43:yV.length < 1599289640401
                ·rw [if_pos c43] at H
                 have zod:=zx.mk c43
                 clear c43
                 obtain ⟨Xu,zvA⟩:∃ y_:List (vP),y_ = (yV ++ [(⟨2,bO,0,0,(⟨#[]⟩:ByteArray),(⟨#[]⟩:ByteArray),([]:List Int)⟩:vP)]):=⟨_,rfl⟩
                 replace H:((yP.f pX ((zZ l0 t182).f0) ((zZ l0 t182).f1) ((zZ l0 t182).f2) ((zZ l0 t182).f3) ((zZ l0 t182).f4) ((zZ l0 t182).f5) (qb ByteArray.empty l2 yY) zP).bind fun gI=>(if Xu.length < 1599289640401 then (zV.l0 pX l0 l2 (Xu ++ [(⟨0,gI.1,t182,zP,qb ByteArray.empty l2 yY,(⟨#[]⟩:ByteArray),([]:List Int)⟩:vP)]) vk (wrap64 (yY + 1)) zS zP yC yh) else (none))) = some (r1,r2):=by first | (rw [zvA];with_reducible exact H) | (have jH:=(Option.bind_some _ _).symm.trans H;rw [zvA];with_reducible exact jH) | (have jH:=(Option.bind_some _ _).symm.trans H;with_reducible exact jH) | with_reducible exact H | (rw [zvA];exact H) | exact H
                 have zoe:=zx.mk zvA
                 clear zvA
                 replace H:=Option.bind_eq_some_iff.mp H
                 obtain ⟨⟨t206,zrG⟩,zl3,H⟩:=H
                 replace H:(if Xu.length < 1599289640401 then (zV.l0 pX l0 l2 (Xu ++ [(⟨0,t206,t182,zP,qb ByteArray.empty l2 yY,(⟨#[]⟩:ByteArray),([]:List Int)⟩:vP)]) vk (wrap64 (yY + 1)) zS zP yC yh) else (none)) = some (r1,r2):=H
                 have A44:=zx.mk zl3
                 clear zl3
                 by_cases c45:Xu.length < 1599289640401
                 ·rw [if_pos c45] at H
                  have zof:=zx.mk c45
                  clear c45
                  obtain ⟨zl4,zvB⟩:∃ y_:List (vP),y_ = (Xu ++ [(⟨0,t206,t182,zP,qb ByteArray.empty l2 yY,(⟨#[]⟩:ByteArray),([]:List Int)⟩:vP)]):=⟨_,rfl⟩
                  replace H:(zV.l0 pX l0 l2 zl4 vk (wrap64 (yY + 1)) zS zP yC yh) = some (r1,r2):=by first | (rw [zvB];with_reducible exact H) | (have jH:=(Option.bind_some _ _).symm.trans H;rw [zvB];with_reducible exact jH) | (have jH:=(Option.bind_some _ _).symm.trans H;with_reducible exact jH) | with_reducible exact H | (rw [zvB];exact H) | exact H
                  have zog:=zx.mk zvB
                  clear zvB
                  have H':=zx.mk H
                  clear H
                  try go_wp2
                  have zW:=zx.mk (Kd.vZ xG.out)
                  have zh:=zx.mk (Kd.uw xg.out)
                  have zo:=zx.mk (xV zO.out)
                  have zM:=zx.mk (zR HB.out)
                  clear xG xg zO HB
                  have xG:=zW
                  have xg:=zh
                  have zO:=zo
                  have HB:=zM
                  clear zW zh zo zM
                  have zju:0 ≤ (t182:Int):=of_decide_eq_true yF
                  have zjA:t182 < (l0.length:Int):=of_decide_eq_true yF
                  obtain ⟨uV,zqB,zqC,zqD,zqE,zqF,zqG,zdo,Y8,Y9,Xz,Xq,Xx,Xj,oK,oW,oh,om,oo,ou⟩:=Ze ji.out t182 zju zjA
                  have Q9:=Xj
                  have Vz:=Xx
                  have Vq:=Xq
                  have Vx:=Xz
                  have Vj:=Y9
                  have Vv:=Y8
                  cases zdo
                  replace Y8:=(HB.out.cell (World.block_lt_of_cell? w _ Y8)).trans Y8
                  replace Y9:=(HB.out.cell (World.block_lt_of_cell? w _ Y9)).trans Y9
                  replace Xz:=(HB.out.cell (World.block_lt_of_cell? w _ Xz)).trans Xz
                  replace Xq:=(HB.out.cell (World.block_lt_of_cell? w _ Xq)).trans Xq
                  replace Xx:=(HB.out.cell (World.block_lt_of_cell? w _ Xx)).trans Xx
                  replace Xj:=(HB.out.cell (World.block_lt_of_cell? w _ Xj)).trans Xj
                  have oC:=zx.mk oW
                  have zyy:=zx.mk oK
                  clear oW oK
                  have oD:=zx.mk om
                  have zyw:=zx.mk oh
                  clear om oh
                  have oF:=zx.mk ou
                  have zyZ:=zx.mk oo
                  clear ou oo
                  replace zju:=eq_true zju
                  replace zjA:=eq_true zjA
                  have zqj:0 ≤ ((vT):Int):=of_decide_eq_true yF
                  have zqv:(vT) < (yV.length:Int):=of_decide_eq_true yF
                  obtain ⟨wQ,zZM,zZN,e189,oG,oH,oI,oL,oM,oN,bR,oO,oP⟩:=VA (Kd.wO xG.out).2.2 (vT) zqj zqv
                  cases e189
                  obtain ⟨zoY,zZO,zZP,zqH⟩:=Kd.zwY xG.out z53 (vT) zqj (by first | exact zqv | exact of_decide_eq_true yF | (have e_:=(Kd.wO xG.out).1;omega))
                  obtain ⟨zhm,rfl,bS⟩:=tQ zZP
                  have Xv:=zqH 6 _ rfl
                  rw [vJ _ _ 6 (by omega)] at Xv
                  replace Xv:=Option.some.inj (Xv.symm.trans bR)
                  rw [Xv] at bS
                  have vY:=zx.mk (show Kd.R (Kd.int .i64) 3 _ _ _ _ ((yx yV (vT)).f6) from bS)
                  clear Xv bS zqH zZO
                  have wW:=zx.mk oP
                  have zhn:=zx.mk oO
                  clear oP oO
                  replace zqj:=eq_true zqj
                  replace zqv:=eq_true zqv
                  have zjB:0 ≤ (yY:Int):=of_decide_eq_true yF
                  have zjC:yY < (l2.length:Int):=of_decide_eq_true yF
                  obtain ⟨zWn,e190,Xk⟩:=Kd.uQ HR2.out yY zjB zjC
                  have Vk:=Xk
                  obtain rfl:ZL = zWn:=(by injection e190)
                  replace Xk:=(HB.out.cell (World.block_lt_of_cell? w _ Xk)).trans Xk
                  replace zjB:=eq_true zjB
                  replace zjC:=eq_true zjC
                  refine jr (n:=21) (S:=fun w'=>w'.cell? ⟨xW,0,none⟩ = some (.int .i64 zS) ∧ w'.cell? ⟨xW,1,none⟩ = some (.int .i64 zP) ∧ w'.cell? ⟨xW,2,none⟩ = some (.bool yC) ∧ w'.cell? ⟨xW,3,none⟩ = some (.bool yh) ∧ w'.cell? (uV.add ((t182).toNat * 6)) = some (.string ((zZ l0 t182).f0)) ∧ w'.cell? ⟨(uV.add ((t182).toNat * 6)).block,(uV.add ((t182).toNat * 6)).off + 1,none⟩ = some (.bool ((zZ l0 t182).f1)) ∧ w'.cell? ⟨(uV.add ((t182).toNat * 6)).block,(uV.add ((t182).toNat * 6)).off + 2,none⟩ = some (.int .i64 ((zZ l0 t182).f2)) ∧ w'.cell? ⟨(uV.add ((t182).toNat * 6)).block,(uV.add ((t182).toNat * 6)).off + 3,none⟩ = some (.slice zqB ((zZ l0 t182).f3).length zqC) ∧ w'.cell? ⟨(uV.add ((t182).toNat * 6)).block,(uV.add ((t182).toNat * 6)).off + 4,none⟩ = some (.slice zqD ((zZ l0 t182).f4).length zqE) ∧ w'.cell? ⟨(uV.add ((t182).toNat * 6)).block,(uV.add ((t182).toNat * 6)).off + 5,none⟩ = some (.slice zqF ((zZ l0 t182).f5).length zqG) ∧ w'.cell? (wQ.add (((vT)).toNat * 7)) = some (.int .i64 ((yx yV (vT)).f0)) ∧ w'.cell? ⟨(wQ.add (((vT)).toNat * 7)).block,(wQ.add (((vT)).toNat * 7)).off + 1,none⟩ = some (.int .i64 ((yx yV (vT)).f1)) ∧ w'.cell? ⟨(wQ.add (((vT)).toNat * 7)).block,(wQ.add (((vT)).toNat * 7)).off + 2,none⟩ = some (.int .i64 ((yx yV (vT)).f2)) ∧ w'.cell? ⟨(wQ.add (((vT)).toNat * 7)).block,(wQ.add (((vT)).toNat * 7)).off + 3,none⟩ = some (.int .i64 ((yx yV (vT)).f3)) ∧ w'.cell? ⟨(wQ.add (((vT)).toNat * 7)).block,(wQ.add (((vT)).toNat * 7)).off + 4,none⟩ = some (.string ((yx yV (vT)).f4)) ∧ w'.cell? ⟨(wQ.add (((vT)).toNat * 7)).block,(wQ.add (((vT)).toNat * 7)).off + 5,none⟩ = some (.string ((yx yV (vT)).f5)) ∧ w'.cell? ⟨(wQ.add (((vT)).toNat * 7)).block,(wQ.add (((vT)).toNat * 7)).off + 6,none⟩ = some (.slice zZM ((yx yV (vT)).f6).length zZN) ∧ w'.cell? (ZL.add (yY).toNat) = some (.string (qb ByteArray.empty l2 yY))) (ds:=[]) #[false,false,false,false,false,false,false,false,false,false,false,false,false,false,false,false,false,false,false,false,false] (by kernel_rfl) rfl rfl ⟨zw zO 0,zw zO 1,zw zO 2,zw zO 3,((HB.out.cell (World.block_lt_of_cell? w _ Vv)).trans Vv),((HB.out.cell (World.block_lt_of_cell? w _ Vj)).trans Vj),((HB.out.cell (World.block_lt_of_cell? w _ Vx)).trans Vx),((HB.out.cell (World.block_lt_of_cell? w _ Vq)).trans Vq),((HB.out.cell (World.block_lt_of_cell? w _ Vz)).trans Vz),((HB.out.cell (World.block_lt_of_cell? w _ Q9)).trans Q9),oG,oH,oI,oL,oM,oN,bR,((HB.out.cell (World.block_lt_of_cell? w _ Vk)).trans Vk)⟩ (fun hHeld=>?_);refine uT zV.zfj zV.zbV (fun zi vD=>?_)
                  generalize wc.drew = w46 at xG xg zO HB vY oC oD oF wW Y8 Y9 Xz Xq Xx Xj oG oH oI oL oM oN bR Xk hHeld ⊢
                  refine yu 0 (some 59) zi ?_
                  refine yu 1 (some 60) zi ?_
                  refine yu 2 (some 61) zi ?_
                  refine yu 4 (some 63) zi ?_
                  refine yu 5 (some 64) zi ?_
                  refine yu 6 (some 65) zi ?_
                  refine yu 7 (some 66) zi ?_
                  refine yu 9 (some 68) zi ?_
                  refine yu 10 (some 69) zi ?_
                  refine yu 11 (some 70) zi ?_
                  refine yu 13 (some 72) zi ?_
                  refine jK 3 (some 62) zi vD hHeld ?_
                  refine jK 8 (some 67) zi vD hHeld ?_
                  refine jK 12 (some 71) zi vD hHeld ?_
                  refine jK 14 (some 73) zi vD hHeld ?_
                  refine Zr 15 (some 74) zi (fun K hK=>?_)
                  refine wS Tryz.func109 (by kernel_rfl) rfl #[.agg #[.string ((zZ l0 t182).f0),.bool ((zZ l0 t182).f1),.int .i64 ((zZ l0 t182).f2),.slice zqB ((zZ l0 t182).f3).length zqC,.slice zqD ((zZ l0 t182).f4).length zqE,.slice zqF ((zZ l0 t182).f5).length zqG],.string ((yx yV (vT)).f4),.string (qb ByteArray.empty l2 yY),.int .i64 zP] (by rfl) rfl rfl (by (try simp only [List.map_toArray,List.map_cons,List.map_nil]);first | done | (simp only [zvt];rfl) | rfl | (simp only [List.length_drop,List.length_take];rfl)) ?_
                  with_reducible refine (uH.calls pX ((zZ l0 t182).f0) ((zZ l0 t182).f1) ((zZ l0 t182).f2) _ _ ((zZ l0 t182).f3) _ _ ((zZ l0 t182).f4) _ _ ((zZ l0 t182).f5) ((yx yV (vT)).f4) (qb ByteArray.empty l2 yY) zP bO zlU _ ?yc ?yG ?qZ ?qQ ?qB ?qC A33.out).mono ?_
                  (case yc=>exact qY (Kd.zm oC.out HB.out))
                  (case yG=>exact zyy.out)
                  (case qZ=>exact qY (Kd.zm oD.out HB.out))
                  (case qQ=>exact zyw.out)
                  (case qB=>exact qY (Kd.zm oF.out HB.out))
                  (case qC=>exact zyZ.out)
                  rintro e w47 ⟨rfl,hb⟩
                  have zWo:=(hb.cell (World.block_lt_of_cell? _ _ (hHeld.2.2.2.2.2.2.2.2.2.2.1))).trans (hHeld.2.2.2.2.2.2.2.2.2.2.1)
                  have zWp:=(hb.cell (World.block_lt_of_cell? _ _ (hHeld.2.2.2.2.2.2.2.2.2.2.2.1))).trans (hHeld.2.2.2.2.2.2.2.2.2.2.2.1)
                  have zWr:=(hb.cell (World.block_lt_of_cell? _ _ (hHeld.2.2.2.2.2.2.2.2.2.2.2.2.1))).trans (hHeld.2.2.2.2.2.2.2.2.2.2.2.2.1)
                  have zWs:=(hb.cell (World.block_lt_of_cell? _ _ (hHeld.2.2.2.2.2.2.2.2.2.2.2.2.2.1))).trans (hHeld.2.2.2.2.2.2.2.2.2.2.2.2.2.1)
                  have zWt:=(hb.cell (World.block_lt_of_cell? _ _ (hHeld.2.2.2.2.2.2.2.2.2.2.2.2.2.2.1))).trans (hHeld.2.2.2.2.2.2.2.2.2.2.2.2.2.2.1)
                  have zWu:=(hb.cell (World.block_lt_of_cell? _ _ (hHeld.2.2.2.2.2.2.2.2.2.2.2.2.2.2.2.1))).trans (hHeld.2.2.2.2.2.2.2.2.2.2.2.2.2.2.2.1)
                  have zWA:=(hb.cell (World.block_lt_of_cell? _ _ (hHeld.2.2.2.2.2.2.2.2.2.2.2.2.2.2.2.2.1))).trans (hHeld.2.2.2.2.2.2.2.2.2.2.2.2.2.2.2.2.1)
                  refine ⟨_,rfl,?_⟩
                  have zW:=zx.mk (Kd.wD (aG xG.out) hb)
                  have zh:=zx.mk (Kd.xI (vQ xg.out) hb)
                  have zo:=zx.mk (Kd.xI (vQ vY.out) hb)
                  have zM:=zx.mk (yj (g:=xW) (o:=.cells #[.int .i64 zS,.int .i64 zP,.bool yC,.bool yh] 41 (0,0)) (qV zO.out) hb)
                  have qw:=zx.mk (Kd.zm (ckS wW.out) hb)
                  have xE:=zx.mk (zC (zG HB.out) hb)
                  clear xG xg vY zO wW HB
                  have xG:=zW
                  have xg:=zh
                  have vY:=zo
                  have zO:=zM
                  have wW:=qw
                  have HB:=xE
                  clear zW zh zo zM qw xE
                  (try clear hb)
                  (try clear hk)
                  refine hK.out _ _ ⟨zw zO 0,zw zO 1,zw zO 2,zw zO 3,((HB.out.cell (World.block_lt_of_cell? w _ Vv)).trans Vv),((HB.out.cell (World.block_lt_of_cell? w _ Vj)).trans Vj),((HB.out.cell (World.block_lt_of_cell? w _ Vx)).trans Vx),((HB.out.cell (World.block_lt_of_cell? w _ Vq)).trans Vq),((HB.out.cell (World.block_lt_of_cell? w _ Vz)).trans Vz),((HB.out.cell (World.block_lt_of_cell? w _ Q9)).trans Q9),zWo,zWp,zWr,zWs,zWt,zWu,zWA,((HB.out.cell (World.block_lt_of_cell? w _ Vk)).trans Vk)⟩ (fun hHeld=>?_)
                  clear hK K
                  refine ZF (some 74) ?_
                  refine yu 16 (some 58) zi ?_
                  refine yu 17 (some 75) zi ?_
                  refine yu 18 (some 76) zi ?_
                  refine yu 19 (some 13) zi ?_
                  refine yu 20 (some 14) zi ?_
                  refine vW (qP zi.out (by kernel_rfl)) ?_
                  try go_wp2_with (first | ((with_reducible refine Zp (b:=.append) (xs:=#[.tmp 79,.tmp 82]) rfl ?_);at_builtin;refine Kd.zwt Qb (w0:=w) w.heap.size rfl (.tmp 79) (.tmp 82) 34 53 (.agg #[(.int .i64 0),(.int .i64 0),(.int .i64 0),(.int .i64 0),(.string ⟨#[]⟩),(.string ⟨#[]⟩),(.slice none 0 0)]) 88 rfl Tryz.underlying34 aD rfl (by decide) (by omega) (.slice (some wQ) yV.length zWl) yV (⟨2,bO,0,0,(⟨#[]⟩:ByteArray),(⟨#[]⟩:ByteArray),([]:List Int)⟩:vP) [.int .i64 2,.int .i64 bO,.int .i64 0,.int .i64 0,.string (⟨#[]⟩:ByteArray),.string (⟨#[]⟩:ByteArray),.slice none 0 0] (fun _=>True) (fun _=>False) rfl rfl ?aP (fun k_ uJ=>uJ.elim) ?aF ?aO ?aB ?aS ?aL ?_;(case aP=>exact mZ _ _ _ (⟨2,bO,0,0,(⟨#[]⟩:ByteArray),(⟨#[]⟩:ByteArray),([]:List Int)⟩:vP) (Kd.jf _ _ _ _ _));(case aB=>exact (zG HB.out));(case aF=>exact (fun _ _=>trivial));(case aO=>exact (by (with_reducible repeat (first | apply Kd.vR | apply Kd.vS | apply Kd.vZ));exact Kd.pQ xG.out (fun k_ hk=>⟨trivial,fun e_=>e_⟩)));(case aS=>exact (zf (zG HB.out)));(case aL=>have:=zod.out;omega);intro zrH w48 ho hb hg hat;rw [← zoe.out] at ho;have zW:=zx.mk (Kd.Uk (vQ xg.out) (Kd.XL (aG xG.out)) (by decide) hg);have zh:=zx.mk (uL (g:=xW) (o:=.cells #[.int .i64 zS,.int .i64 zP,.bool yC,.bool yh] 41 (0,0)) (qV zO.out) hg (Kd.zYt xG.out zO.out (by decide)));have zo:=zx.mk (Kd.zq5 (ok:=(fun _=>True)) (vQ vY.out) hg hat);have zM:=zx.mk (hb);have qw:=zx.mk (ho);clear xg;clear zO;clear vY;clear HB;clear xG;have xg:=zW;have zO:=zh;have vY:=zo;have HB:=zM;have XA:=qw;clear zW zh zo zM qw;clear ho hb hg hat))
                  have zW:=zx.mk (Kd.uw xg.out)
                  have zh:=zx.mk (Kd.uw vY.out)
                  have zo:=zx.mk (Kd.vZ XA.out)
                  have zM:=zx.mk (xV zO.out)
                  have qw:=zx.mk (zR HB.out)
                  clear xg vY XA zO HB
                  have xg:=zW
                  have vY:=zh
                  have XA:=zo
                  have zO:=zM
                  have HB:=qw
                  clear zW zh zo zM qw
                  have zdC:0 ≤ (t182:Int):=of_decide_eq_true yF
                  have zdD:t182 < (l0.length:Int):=of_decide_eq_true yF
                  obtain ⟨zoh,zbe,zbf,zbg,zbh,zbi,zbl,e204,zzk,zzy,zzw,zzZ,zzQ,zzX,zJF,zJG,zJH,zJI,zJL,zJM⟩:=Ze ji.out t182 zdC zdD
                  have zxd:=zzX
                  have zxe:=zzQ
                  have zxf:=zzZ
                  have zxg:=zzw
                  have zxh:=zzy
                  have zxi:=zzk
                  obtain rfl:uV = zoh:=(by injection e204)
                  replace zzk:=(HB.out.cell (World.block_lt_of_cell? w _ zzk)).trans zzk
                  replace zzy:=(HB.out.cell (World.block_lt_of_cell? w _ zzy)).trans zzy
                  replace zzw:=(HB.out.cell (World.block_lt_of_cell? w _ zzw)).trans zzw
                  replace zzZ:=(HB.out.cell (World.block_lt_of_cell? w _ zzZ)).trans zzZ
                  replace zzQ:=(HB.out.cell (World.block_lt_of_cell? w _ zzQ)).trans zzQ
                  replace zzX:=(HB.out.cell (World.block_lt_of_cell? w _ zzX)).trans zzX
                  have zJN:=zx.mk zJG
                  have zhs:=zx.mk zJF
                  clear zJG zJF
                  have zJO:=zx.mk zJI
                  have zht:=zx.mk zJH
                  clear zJI zJH
                  have zJP:=zx.mk zJM
                  have zhu:=zx.mk zJL
                  clear zJM zJL
                  replace zdC:=eq_true zdC
                  replace zdD:=eq_true zdD
                  have zdE:0 ≤ (yY:Int):=of_decide_eq_true yF
                  have zdF:yY < (l2.length:Int):=of_decide_eq_true yF
                  obtain ⟨zoi,zrI,zzJ⟩:=Kd.uQ HR2.out yY zdE zdF
                  have zxl:=zzJ
                  obtain rfl:ZL = zoi:=(by injection zrI)
                  replace zzJ:=(HB.out.cell (World.block_lt_of_cell? w _ zzJ)).trans zzJ
                  replace zdE:=eq_true zdE
                  replace zdF:=eq_true zdF
                  refine jr (n:=16) (S:=fun w'=>w'.cell? ⟨xW,0,none⟩ = some (.int .i64 zS) ∧ w'.cell? ⟨xW,1,none⟩ = some (.int .i64 zP) ∧ w'.cell? ⟨xW,2,none⟩ = some (.bool yC) ∧ w'.cell? ⟨xW,3,none⟩ = some (.bool yh) ∧ w'.cell? (uV.add ((t182).toNat * 6)) = some (.string ((zZ l0 t182).f0)) ∧ w'.cell? ⟨(uV.add ((t182).toNat * 6)).block,(uV.add ((t182).toNat * 6)).off + 1,none⟩ = some (.bool ((zZ l0 t182).f1)) ∧ w'.cell? ⟨(uV.add ((t182).toNat * 6)).block,(uV.add ((t182).toNat * 6)).off + 2,none⟩ = some (.int .i64 ((zZ l0 t182).f2)) ∧ w'.cell? ⟨(uV.add ((t182).toNat * 6)).block,(uV.add ((t182).toNat * 6)).off + 3,none⟩ = some (.slice zbe ((zZ l0 t182).f3).length zbf) ∧ w'.cell? ⟨(uV.add ((t182).toNat * 6)).block,(uV.add ((t182).toNat * 6)).off + 4,none⟩ = some (.slice zbg ((zZ l0 t182).f4).length zbh) ∧ w'.cell? ⟨(uV.add ((t182).toNat * 6)).block,(uV.add ((t182).toNat * 6)).off + 5,none⟩ = some (.slice zbi ((zZ l0 t182).f5).length zbl) ∧ w'.cell? (ZL.add (yY).toNat) = some (.string (qb ByteArray.empty l2 yY))) (ds:=[]) #[false,false,false,false,false,false,false,false,false,false,false,false,false,false,false,false] (by kernel_rfl) rfl rfl ⟨zw zO 0,zw zO 1,zw zO 2,zw zO 3,((HB.out.cell (World.block_lt_of_cell? w _ zxi)).trans zxi),((HB.out.cell (World.block_lt_of_cell? w _ zxh)).trans zxh),((HB.out.cell (World.block_lt_of_cell? w _ zxg)).trans zxg),((HB.out.cell (World.block_lt_of_cell? w _ zxf)).trans zxf),((HB.out.cell (World.block_lt_of_cell? w _ zxe)).trans zxe),((HB.out.cell (World.block_lt_of_cell? w _ zxd)).trans zxd),((HB.out.cell (World.block_lt_of_cell? w _ zxl)).trans zxl)⟩ (fun hHeld=>?_);refine uT zV.zvp zV.zZG (fun zi vD=>?_)
                  generalize w48.drew = w49 at xg vY XA zO HB zJN zJO zJP zzk zzy zzw zzZ zzQ zzX zzJ hHeld ⊢
                  refine yu 0 (some 85) zi ?_
                  refine yu 1 (some 86) zi ?_
                  refine yu 2 (some 87) zi ?_
                  refine yu 4 (some 89) zi ?_
                  refine yu 5 (some 90) zi ?_
                  refine yu 6 (some 91) zi ?_
                  refine yu 8 (some 93) zi ?_
                  refine jK 3 (some 88) zi vD hHeld ?_
                  refine jK 7 (some 92) zi vD hHeld ?_
                  refine jK 9 (some 94) zi vD hHeld ?_
                  refine Zr 10 (some 95) zi (fun K hK=>?_)
                  refine wS Tryz.func71 (by kernel_rfl) rfl #[.agg #[.string ((zZ l0 t182).f0),.bool ((zZ l0 t182).f1),.int .i64 ((zZ l0 t182).f2),.slice zbe ((zZ l0 t182).f3).length zbf,.slice zbg ((zZ l0 t182).f4).length zbh,.slice zbi ((zZ l0 t182).f5).length zbl],.string (qb ByteArray.empty l2 yY),.int .i64 zP] (by rfl) rfl rfl (by (try simp only [List.map_toArray,List.map_cons,List.map_nil]);first | done | rfl | (simp only [List.length_drop,List.length_take];rfl)) ?_
                  with_reducible refine (yP.calls pX ((zZ l0 t182).f0) ((zZ l0 t182).f1) ((zZ l0 t182).f2) _ _ ((zZ l0 t182).f3) _ _ ((zZ l0 t182).f4) _ _ ((zZ l0 t182).f5) (qb ByteArray.empty l2 yY) zP t206 zrG _ ?yc ?yG ?qZ ?qQ ?qB ?qC A44.out).mono ?_
                  (case yc=>exact qY (Kd.zm zJN.out HB.out))
                  (case yG=>exact zhs.out)
                  (case qZ=>exact qY (Kd.zm zJO.out HB.out))
                  (case qQ=>exact zht.out)
                  (case qB=>exact qY (Kd.zm zJP.out HB.out))
                  (case qC=>exact zhu.out)
                  rintro e w50 ⟨rfl,hb⟩
                  refine ⟨_,rfl,?_⟩
                  have zW:=zx.mk (Kd.xI (vQ xg.out) hb)
                  have zh:=zx.mk (Kd.xI (vQ vY.out) hb)
                  have zo:=zx.mk (Kd.wD (aG XA.out) hb)
                  have zM:=zx.mk (yj (g:=xW) (o:=.cells #[.int .i64 zS,.int .i64 zP,.bool yC,.bool yh] 41 (0,0)) (qV zO.out) hb)
                  have qw:=zx.mk (zC (zG HB.out) hb)
                  clear xg vY XA zO HB
                  have xg:=zW
                  have vY:=zh
                  have XA:=zo
                  have zO:=zM
                  have HB:=qw
                  clear zW zh zo zM qw
                  (try clear hb)
                  (try clear hk)
                  refine hK.out _ _ ⟨zw zO 0,zw zO 1,zw zO 2,zw zO 3,((HB.out.cell (World.block_lt_of_cell? w _ zxi)).trans zxi),((HB.out.cell (World.block_lt_of_cell? w _ zxh)).trans zxh),((HB.out.cell (World.block_lt_of_cell? w _ zxg)).trans zxg),((HB.out.cell (World.block_lt_of_cell? w _ zxf)).trans zxf),((HB.out.cell (World.block_lt_of_cell? w _ zxe)).trans zxe),((HB.out.cell (World.block_lt_of_cell? w _ zxd)).trans zxd),((HB.out.cell (World.block_lt_of_cell? w _ zxl)).trans zxl)⟩ (fun hHeld=>?_)
                  clear hK K
                  refine ZF (some 95) ?_
                  refine yu 11 (some 84) zi ?_
                  refine yu 12 (some 96) zi ?_
                  refine yu 13 (some 97) zi ?_
                  refine yu 14 (some 15) zi ?_
                  refine yu 15 (some 16) zi ?_
                  refine vW (qP zi.out (by kernel_rfl)) ?_
                  try go_wp2
                  have zW:=zx.mk (Kd.uw xg.out)
                  have zh:=zx.mk (Kd.uw vY.out)
                  have zo:=zx.mk (Kd.vZ XA.out)
                  have zM:=zx.mk (xV zO.out)
                  have qw:=zx.mk (zR HB.out)
                  clear xg vY XA zO HB
                  have xg:=zW
                  have vY:=zh
                  have XA:=zo
                  have zO:=zM
                  have HB:=qw
                  clear zW zh zo zM qw
                  have zdG:0 ≤ (yY:Int):=of_decide_eq_true yF
                  have zdH:yY < (l2.length:Int):=of_decide_eq_true yF
                  obtain ⟨zol,e208,zzV⟩:=Kd.uQ HR2.out yY zdG zdH
                  have KN:=zzV
                  obtain rfl:ZL = zol:=(by injection e208)
                  replace zzV:=(HB.out.cell (World.block_lt_of_cell? w _ zzV)).trans zzV
                  replace zdG:=eq_true zdG
                  replace zdH:=eq_true zdH
                  refine jr (n:=13) (S:=fun w'=>w'.cell? ⟨xW,0,none⟩ = some (.int .i64 zS) ∧ w'.cell? ⟨xW,1,none⟩ = some (.int .i64 zP) ∧ w'.cell? ⟨xW,2,none⟩ = some (.bool yC) ∧ w'.cell? ⟨xW,3,none⟩ = some (.bool yh) ∧ w'.cell? (ZL.add (yY).toNat) = some (.string (qb ByteArray.empty l2 yY))) (ds:=[]) #[false,false,false,false,false,false,false,false,false,false,false,false,false] (by kernel_rfl) rfl rfl ⟨zw zO 0,zw zO 1,zw zO 2,zw zO 3,((HB.out.cell (World.block_lt_of_cell? w _ KN)).trans KN)⟩ (fun hHeld=>?_);refine uT zV.zWg zV.zZH (fun zi vD=>?_)
                  generalize w50.drew = w51 at xg vY XA zO HB zzV hHeld ⊢
                  refine yu 0 (some 98) zi ?_
                  refine yu 1 (some 99) zi ?_
                  refine yu 2 (some 100) zi ?_
                  refine yu 3 (some 101) zi ?_
                  refine yu 5 (some 103) zi ?_
                  refine yu 6 (some 104) zi ?_
                  refine yu 7 (some 105) zi ?_
                  refine jK 4 (some 102) zi vD hHeld ?_
                  refine jK 8 (some 106) zi vD hHeld ?_
                  refine yu 9 (some 107) zi ?_
                  refine Zr 10 (some 108) zi (fun K hK=>?_)
                  refine vaS ?_
                  refine hK.out _ _ ⟨(zX (qx zO.out _) 0).trans rfl,(zX (qx zO.out _) 1).trans rfl,(zX (qx zO.out _) 2).trans rfl,(zX (qx zO.out _) 3).trans rfl,(World.cell?_alloc_lt _ _ _ (World.block_lt_of_cell? _ _ (((HB.out.cell (World.block_lt_of_cell? w _ KN)).trans KN)))).trans (((HB.out.cell (World.block_lt_of_cell? w _ KN)).trans KN))⟩ (fun hHeld=>?_)
                  clear hK K
                  refine ZF (some 108) ?_
                  refine Zr 11 (some 109) zi (fun K hK=>?_)
                  refine Kd.gq Qb (w0:=w) w.heap.size (by rfl) (.tmp 98) (.tmp 108) 34 53 (.agg #[(.int .i64 0),(.int .i64 0),(.int .i64 0),(.int .i64 0),(.string ⟨#[]⟩),(.string ⟨#[]⟩),(.slice none 0 0)]) 88 rfl Tryz.underlying34 aD rfl (by decide) (by omega) zrH Xu (⟨0,t206,t182,zP,qb ByteArray.empty l2 yY,(⟨#[]⟩:ByteArray),([]:List Int)⟩:vP) [.int .i64 0,.int .i64 t206,.int .i64 t182,.int .i64 zP,.string (qb ByteArray.empty l2 yY),.string (⟨#[]⟩:ByteArray),.slice none 0 0] (fun _=>True) (fun _=>False) rfl rfl ?aP (fun k_ uJ=>uJ.elim) ?aF ?aO ?aB ?aS ?aL ?_
                  (case aP=>exact mZ _ _ _ (⟨0,t206,t182,zP,qb ByteArray.empty l2 yY,(⟨#[]⟩:ByteArray),([]:List Int)⟩:vP) (Kd.jf _ _ _ _ _))
                  (case aB=>exact (zG HB.out))
                  (case aF=>exact (fun _ _=>trivial))
                  (case aO=>exact (by (with_reducible repeat (first | apply Kd.vR | apply Kd.vS | apply Kd.vZ));exact Kd.pQ XA.out (fun k_ hk=>⟨trivial,fun e_=>e_⟩)))
                  (case aS=>exact (zf (zG HB.out)))
                  (case aL=>have:=zof.out;omega)
                  intro v210 w52 ho hb hg hat
                  rw [← zog.out] at ho
                  have zW:=zx.mk (Kd.Uk (vQ xg.out) (Kd.XL (aG XA.out)) (by decide) hg)
                  have zh:=zx.mk (uL (g:=xW) (o:=.cells #[.int .i64 zS,.int .i64 zP,.bool yC,.bool yh] 41 (0,0)) (qV zO.out) hg (Kd.zYt XA.out zO.out (by decide)))
                  have zo:=zx.mk (Kd.zq5 (ok:=(fun _=>True)) (vQ vY.out) hg hat)
                  have zM:=zx.mk (hb)
                  have qw:=zx.mk (ho)
                  clear xg zO vY HB XA
                  have xg:=zW
                  have zO:=zh
                  have vY:=zo
                  have HB:=zM
                  have zom:=qw
                  clear zW zh zo zM qw ho hb hg hat
                  refine hK.out _ _ ⟨zw zO 0,zw zO 1,zw zO 2,zw zO 3,((HB.out.cell (World.block_lt_of_cell? w _ KN)).trans KN)⟩ (fun hHeld=>?_)
                  clear hK K
                  refine ZF (some 109) ?_
                  refine yu 12 (some 8) zi ?_
                  refine vW (qP zi.out (by kernel_rfl)) ?_
                  try go_wp2
                  go_roundg pX
                  case measure=>have:=uK.out;have:=zyv.out;omega
                  case rel=>exact ⟨(zl4),(vk),(wrap64 (yY + 1)),(by first | rfl | (simp;done) | (simp [*];done)),H',⟨by have:=uK.out;have:=zyv.out;omega⟩,⟨by (with_reducible repeat (first | apply Kd.vR | apply Kd.vS | apply Kd.vZ));exact zom.out⟩,⟨vQ xg.out⟩,⟨qV zO.out⟩,⟨zG HB.out⟩⟩
                 ·rw [if_neg c45] at H
                  exact absurd H (by simp)
                ·rw [if_neg c43] at H
                 exact absurd H (by simp)
              ·rw [if_neg c32] at H
               exact absurd H (by simp)
             ·rw [if_neg c31] at H
              exact absurd H (by simp)
            ·rw [if_neg gD] at H
             exact absurd H (by simp)
           ·rw [if_neg c29] at H
            exact absurd H (by simp)
          ·rw [if_neg c27] at H
           exact absurd H (by simp)
         ·rw [if_neg c26] at H
          exact absurd H (by simp)
        ·replace c25:=Bool.eq_false_iff.mpr c25
         subst c25
         have H1:(if 0 ≤ t182 then (if t182 < (l0.length:Int) then (if 0 ≤ yY then (if yY < (l2.length:Int) then ((yP.f pX ((zZ l0 t182).f0) ((zZ l0 t182).f1) ((zZ l0 t182).f2) ((zZ l0 t182).f3) ((zZ l0 t182).f4) ((zZ l0 t182).f5) (qb ByteArray.empty l2 yY) zP).bind fun zWf=>(if yV.length < 1599289640401 then (zV.l0 pX l0 l2 (yV ++ [(⟨0,zWf.1,t182,zP,qb ByteArray.empty l2 yY,(⟨#[]⟩:ByteArray),([]:List Int)⟩:vP)]) vk (wrap64 (yY + 1)) zS zP yC yh) else (none))) else (none)) else (none)) else (none)) else (none)) = some (r1,r2):=by rw [if_neg (show ¬ (false = true) by decide)] at H;exact H
         clear H
         have H:=H1
         clear H1
         by_cases c53:0 ≤ t182
         ·rw [if_pos c53] at H
          have zDH:decide (0 ≤ t182) = true:=decide_eq_true c53
          clear c53
          by_cases c54:t182 < (l0.length:Int)
          ·rw [if_pos c54] at H
           have zDI:decide (t182 < (l0.length:Int)) = true:=decide_eq_true c54
           clear c54
           by_cases c55:0 ≤ yY
           ·rw [if_pos c55] at H
            have zDL:decide (0 ≤ yY) = true:=decide_eq_true c55
            clear c55
            by_cases c56:yY < (l2.length:Int)
            ·rw [if_pos c56] at H
             have zDM:decide (yY < (l2.length:Int)) = true:=decide_eq_true c56
             clear c56
             replace H:=Option.bind_eq_some_iff.mp H
             obtain ⟨⟨zyQ,zrL⟩,zl5,H⟩:=H
             replace H:(if yV.length < 1599289640401 then (zV.l0 pX l0 l2 (yV ++ [(⟨0,zyQ,t182,zP,qb ByteArray.empty l2 yY,(⟨#[]⟩:ByteArray),([]:List Int)⟩:vP)]) vk (wrap64 (yY + 1)) zS zP yC yh) else (none)) = some (r1,r2):=H
             have A57:=zx.mk zl5
             clear zl5
             by_cases c58:yV.length < 1599289640401
             ·rw [if_pos c58] at H
              have zon:=zx.mk c58
              clear c58
              obtain ⟨zl6,zvC⟩:∃ y_:List (vP),y_ = (yV ++ [(⟨0,zyQ,t182,zP,qb ByteArray.empty l2 yY,(⟨#[]⟩:ByteArray),([]:List Int)⟩:vP)]):=⟨_,rfl⟩
              replace H:(zV.l0 pX l0 l2 zl6 vk (wrap64 (yY + 1)) zS zP yC yh) = some (r1,r2):=by first | (rw [zvC];with_reducible exact H) | (have jH:=(Option.bind_some _ _).symm.trans H;rw [zvC];with_reducible exact jH) | (have jH:=(Option.bind_some _ _).symm.trans H;with_reducible exact jH) | with_reducible exact H | (rw [zvC];exact H) | exact H
              have zoo:=zx.mk zvC
              clear zvC
              have H':=zx.mk H
              clear H
              try go_wp2
              have zW:=zx.mk (Kd.vZ xG.out)
              have zh:=zx.mk (Kd.uw xg.out)
              have zo:=zx.mk (xV zO.out)
              have zM:=zx.mk (zR HB.out)
              clear xG xg zO HB
              have xG:=zW
              have xg:=zh
              have zO:=zo
              have HB:=zM
              clear zW zh zo zM
              have zdI:0 ≤ (t182:Int):=of_decide_eq_true yF
              have zdL:t182 < (l0.length:Int):=of_decide_eq_true yF
              obtain ⟨Wn,zbm,zbn,zbo,zbp,zbr,zbs,e212,zzK,zzY,zzW,zza,zzb,zzc,zJR,zJS,zJT,zJU,zJ0,zJ1⟩:=Ze ji.out t182 zdI zdL
              have zxm:=zzc
              have zxn:=zzb
              have zxo:=zza
              have zxp:=zzW
              have zxr:=zzY
              have zxs:=zzK
              cases e212
              replace zzK:=(HB.out.cell (World.block_lt_of_cell? w _ zzK)).trans zzK
              replace zzY:=(HB.out.cell (World.block_lt_of_cell? w _ zzY)).trans zzY
              replace zzW:=(HB.out.cell (World.block_lt_of_cell? w _ zzW)).trans zzW
              replace zza:=(HB.out.cell (World.block_lt_of_cell? w _ zza)).trans zza
              replace zzb:=(HB.out.cell (World.block_lt_of_cell? w _ zzb)).trans zzb
              replace zzc:=(HB.out.cell (World.block_lt_of_cell? w _ zzc)).trans zzc
              have zJ2:=zx.mk zJS
              have zhA:=zx.mk zJR
              clear zJS zJR
              have zJ3:=zx.mk zJU
              have zhB:=zx.mk zJT
              clear zJU zJT
              have zJ4:=zx.mk zJ1
              have zhC:=zx.mk zJ0
              clear zJ1 zJ0
              replace zdI:=eq_true zdI
              replace zdL:=eq_true zdL
              have zdM:0 ≤ (yY:Int):=of_decide_eq_true yF
              have zdN:yY < (l2.length:Int):=of_decide_eq_true yF
              obtain ⟨zop,e213,zzd⟩:=Kd.uQ HR2.out yY zdM zdN
              have zxt:=zzd
              obtain rfl:ZL = zop:=(by injection e213)
              replace zzd:=(HB.out.cell (World.block_lt_of_cell? w _ zzd)).trans zzd
              replace zdM:=eq_true zdM
              replace zdN:=eq_true zdN
              refine jr (n:=16) (S:=fun w'=>w'.cell? ⟨xW,0,none⟩ = some (.int .i64 zS) ∧ w'.cell? ⟨xW,1,none⟩ = some (.int .i64 zP) ∧ w'.cell? ⟨xW,2,none⟩ = some (.bool yC) ∧ w'.cell? ⟨xW,3,none⟩ = some (.bool yh) ∧ w'.cell? (Wn.add ((t182).toNat * 6)) = some (.string ((zZ l0 t182).f0)) ∧ w'.cell? ⟨(Wn.add ((t182).toNat * 6)).block,(Wn.add ((t182).toNat * 6)).off + 1,none⟩ = some (.bool ((zZ l0 t182).f1)) ∧ w'.cell? ⟨(Wn.add ((t182).toNat * 6)).block,(Wn.add ((t182).toNat * 6)).off + 2,none⟩ = some (.int .i64 ((zZ l0 t182).f2)) ∧ w'.cell? ⟨(Wn.add ((t182).toNat * 6)).block,(Wn.add ((t182).toNat * 6)).off + 3,none⟩ = some (.slice zbm ((zZ l0 t182).f3).length zbn) ∧ w'.cell? ⟨(Wn.add ((t182).toNat * 6)).block,(Wn.add ((t182).toNat * 6)).off + 4,none⟩ = some (.slice zbo ((zZ l0 t182).f4).length zbp) ∧ w'.cell? ⟨(Wn.add ((t182).toNat * 6)).block,(Wn.add ((t182).toNat * 6)).off + 5,none⟩ = some (.slice zbr ((zZ l0 t182).f5).length zbs) ∧ w'.cell? (ZL.add (yY).toNat) = some (.string (qb ByteArray.empty l2 yY))) (ds:=[]) #[false,false,false,false,false,false,false,false,false,false,false,false,false,false,false,false] (by kernel_rfl) rfl rfl ⟨zw zO 0,zw zO 1,zw zO 2,zw zO 3,((HB.out.cell (World.block_lt_of_cell? w _ zxs)).trans zxs),((HB.out.cell (World.block_lt_of_cell? w _ zxr)).trans zxr),((HB.out.cell (World.block_lt_of_cell? w _ zxp)).trans zxp),((HB.out.cell (World.block_lt_of_cell? w _ zxo)).trans zxo),((HB.out.cell (World.block_lt_of_cell? w _ zxn)).trans zxn),((HB.out.cell (World.block_lt_of_cell? w _ zxm)).trans zxm),((HB.out.cell (World.block_lt_of_cell? w _ zxt)).trans zxt)⟩ (fun hHeld=>?_);refine uT zV.zvp zV.zZG (fun zi vD=>?_)
              generalize wc.drew = w59 at xG xg zO HB zJ2 zJ3 zJ4 zzK zzY zzW zza zzb zzc zzd hHeld ⊢
              refine yu 0 (some 85) zi ?_
              refine yu 1 (some 86) zi ?_
              refine yu 2 (some 87) zi ?_
              refine yu 4 (some 89) zi ?_
              refine yu 5 (some 90) zi ?_
              refine yu 6 (some 91) zi ?_
              refine yu 8 (some 93) zi ?_
              refine jK 3 (some 88) zi vD hHeld ?_
              refine jK 7 (some 92) zi vD hHeld ?_
              refine jK 9 (some 94) zi vD hHeld ?_
              refine Zr 10 (some 95) zi (fun K hK=>?_)
              refine wS Tryz.func71 (by kernel_rfl) rfl #[.agg #[.string ((zZ l0 t182).f0),.bool ((zZ l0 t182).f1),.int .i64 ((zZ l0 t182).f2),.slice zbm ((zZ l0 t182).f3).length zbn,.slice zbo ((zZ l0 t182).f4).length zbp,.slice zbr ((zZ l0 t182).f5).length zbs],.string (qb ByteArray.empty l2 yY),.int .i64 zP] (by rfl) rfl rfl (by (try simp only [List.map_toArray,List.map_cons,List.map_nil]);first | done | rfl | (simp only [List.length_drop,List.length_take];rfl)) ?_
              with_reducible refine (yP.calls pX ((zZ l0 t182).f0) ((zZ l0 t182).f1) ((zZ l0 t182).f2) _ _ ((zZ l0 t182).f3) _ _ ((zZ l0 t182).f4) _ _ ((zZ l0 t182).f5) (qb ByteArray.empty l2 yY) zP zyQ zrL _ ?yc ?yG ?qZ ?qQ ?qB ?qC A57.out).mono ?_
              (case yc=>exact qY (Kd.zm zJ2.out HB.out))
              (case yG=>exact zhA.out)
              (case qZ=>exact qY (Kd.zm zJ3.out HB.out))
              (case qQ=>exact zhB.out)
              (case qB=>exact qY (Kd.zm zJ4.out HB.out))
              (case qC=>exact zhC.out)
              rintro e w60 ⟨rfl,hb⟩
              refine ⟨_,rfl,?_⟩
              have zW:=zx.mk (Kd.wD (aG xG.out) hb)
              have zh:=zx.mk (Kd.xI (vQ xg.out) hb)
              have zo:=zx.mk (yj (g:=xW) (o:=.cells #[.int .i64 zS,.int .i64 zP,.bool yC,.bool yh] 41 (0,0)) (qV zO.out) hb)
              have zM:=zx.mk (zC (zG HB.out) hb)
              clear xG xg zO HB
              have xG:=zW
              have xg:=zh
              have zO:=zo
              have HB:=zM
              clear zW zh zo zM
              (try clear hb)
              (try clear hk)
              refine hK.out _ _ ⟨zw zO 0,zw zO 1,zw zO 2,zw zO 3,((HB.out.cell (World.block_lt_of_cell? w _ zxs)).trans zxs),((HB.out.cell (World.block_lt_of_cell? w _ zxr)).trans zxr),((HB.out.cell (World.block_lt_of_cell? w _ zxp)).trans zxp),((HB.out.cell (World.block_lt_of_cell? w _ zxo)).trans zxo),((HB.out.cell (World.block_lt_of_cell? w _ zxn)).trans zxn),((HB.out.cell (World.block_lt_of_cell? w _ zxm)).trans zxm),((HB.out.cell (World.block_lt_of_cell? w _ zxt)).trans zxt)⟩ (fun hHeld=>?_)
              clear hK K
              refine ZF (some 95) ?_
              refine yu 11 (some 84) zi ?_
              refine yu 12 (some 96) zi ?_
              refine yu 13 (some 97) zi ?_
              refine yu 14 (some 15) zi ?_
              refine yu 15 (some 16) zi ?_
              refine vW (qP zi.out (by kernel_rfl)) ?_
              try go_wp2
              have zW:=zx.mk (Kd.vZ xG.out)
              have zh:=zx.mk (Kd.uw xg.out)
              have zo:=zx.mk (xV zO.out)
              have zM:=zx.mk (zR HB.out)
              clear xG xg zO HB
              have xG:=zW
              have xg:=zh
              have zO:=zo
              have HB:=zM
              clear zW zh zo zM
              have zdO:0 ≤ (yY:Int):=of_decide_eq_true yF
              have zdP:yY < (l2.length:Int):=of_decide_eq_true yF
              obtain ⟨zor,e216,zze⟩:=Kd.uQ HR2.out yY zdO zdP
              have KO:=zze
              obtain rfl:ZL = zor:=(by injection e216)
              replace zze:=(HB.out.cell (World.block_lt_of_cell? w _ zze)).trans zze
              replace zdO:=eq_true zdO
              replace zdP:=eq_true zdP
              refine jr (n:=13) (S:=fun w'=>w'.cell? ⟨xW,0,none⟩ = some (.int .i64 zS) ∧ w'.cell? ⟨xW,1,none⟩ = some (.int .i64 zP) ∧ w'.cell? ⟨xW,2,none⟩ = some (.bool yC) ∧ w'.cell? ⟨xW,3,none⟩ = some (.bool yh) ∧ w'.cell? (ZL.add (yY).toNat) = some (.string (qb ByteArray.empty l2 yY))) (ds:=[]) #[false,false,false,false,false,false,false,false,false,false,false,false,false] (by kernel_rfl) rfl rfl ⟨zw zO 0,zw zO 1,zw zO 2,zw zO 3,((HB.out.cell (World.block_lt_of_cell? w _ KO)).trans KO)⟩ (fun hHeld=>?_);refine uT zV.zWg zV.zZH (fun zi vD=>?_)
              generalize w60.drew = w61 at xG xg zO HB zze hHeld ⊢
              refine yu 0 (some 98) zi ?_
              refine yu 1 (some 99) zi ?_
              refine yu 2 (some 100) zi ?_
              refine yu 3 (some 101) zi ?_
              refine yu 5 (some 103) zi ?_
              refine yu 6 (some 104) zi ?_
              refine yu 7 (some 105) zi ?_
              refine jK 4 (some 102) zi vD hHeld ?_
              refine jK 8 (some 106) zi vD hHeld ?_
              refine yu 9 (some 107) zi ?_
              refine Zr 10 (some 108) zi (fun K hK=>?_)
              refine vaS ?_
              refine hK.out _ _ ⟨(zX (qx zO.out _) 0).trans rfl,(zX (qx zO.out _) 1).trans rfl,(zX (qx zO.out _) 2).trans rfl,(zX (qx zO.out _) 3).trans rfl,(World.cell?_alloc_lt _ _ _ (World.block_lt_of_cell? _ _ (((HB.out.cell (World.block_lt_of_cell? w _ KO)).trans KO)))).trans (((HB.out.cell (World.block_lt_of_cell? w _ KO)).trans KO))⟩ (fun hHeld=>?_)
              clear hK K
              refine ZF (some 108) ?_
              refine Zr 11 (some 109) zi (fun K hK=>?_)
              refine Kd.gq Qb (w0:=w) w.heap.size (by rfl) (.tmp 98) (.tmp 108) 34 53 (.agg #[(.int .i64 0),(.int .i64 0),(.int .i64 0),(.int .i64 0),(.string ⟨#[]⟩),(.string ⟨#[]⟩),(.slice none 0 0)]) 88 rfl Tryz.underlying34 aD rfl (by decide) (by omega) (.slice zlR yV.length zWl) yV (⟨0,zyQ,t182,zP,qb ByteArray.empty l2 yY,(⟨#[]⟩:ByteArray),([]:List Int)⟩:vP) [.int .i64 0,.int .i64 zyQ,.int .i64 t182,.int .i64 zP,.string (qb ByteArray.empty l2 yY),.string (⟨#[]⟩:ByteArray),.slice none 0 0] (fun _=>True) (fun _=>False) rfl rfl ?aP (fun k_ uJ=>uJ.elim) ?aF ?aO ?aB ?aS ?aL ?_
              (case aP=>exact mZ _ _ _ (⟨0,zyQ,t182,zP,qb ByteArray.empty l2 yY,(⟨#[]⟩:ByteArray),([]:List Int)⟩:vP) (Kd.jf _ _ _ _ _))
              (case aB=>exact (zG HB.out))
              (case aF=>exact (fun _ _=>trivial))
              (case aO=>exact (by (with_reducible repeat (first | apply Kd.vR | apply Kd.vS | apply Kd.vZ));exact Kd.pQ xG.out (fun k_ hk=>⟨trivial,fun e_=>e_⟩)))
              (case aS=>exact (zf (zG HB.out)))
              (case aL=>have:=zon.out;omega)
              intro v218 w62 ho hb hg hat
              rw [← zoo.out] at ho
              have zW:=zx.mk (Kd.Uk (vQ xg.out) (Kd.XL (aG xG.out)) (by decide) hg)
              have zh:=zx.mk (uL (g:=xW) (o:=.cells #[.int .i64 zS,.int .i64 zP,.bool yC,.bool yh] 41 (0,0)) (qV zO.out) hg (Kd.zYt xG.out zO.out (by decide)))
              have zo:=zx.mk (hb)
              have zM:=zx.mk (ho)
              clear xg zO HB xG
              have xg:=zW
              have zO:=zh
              have HB:=zo
              have zos:=zM
              clear zW zh zo zM ho hb hg hat
              refine hK.out _ _ ⟨zw zO 0,zw zO 1,zw zO 2,zw zO 3,((HB.out.cell (World.block_lt_of_cell? w _ KO)).trans KO)⟩ (fun hHeld=>?_)
              clear hK K
              refine ZF (some 109) ?_
              refine yu 12 (some 8) zi ?_
              refine vW (qP zi.out (by kernel_rfl)) ?_
              try go_wp2
              go_roundg pX
              case measure=>have:=uK.out;have:=zyv.out;omega
              case rel=>exact ⟨(zl6),(vk),(wrap64 (yY + 1)),(by first | rfl | (simp;done) | (simp [*];done)),H',⟨by have:=uK.out;have:=zyv.out;omega⟩,⟨by (with_reducible repeat (first | apply Kd.vR | apply Kd.vS | apply Kd.vZ));exact zos.out⟩,⟨vQ xg.out⟩,⟨qV zO.out⟩,⟨zG HB.out⟩⟩
             ·rw [if_neg c58] at H
              exact absurd H (by simp)
            ·rw [if_neg c56] at H
             exact absurd H (by simp)
           ·rw [if_neg c55] at H
            exact absurd H (by simp)
          ·rw [if_neg c54] at H
           exact absurd H (by simp)
         ·rw [if_neg c53] at H
          exact absurd H (by simp)
    ·rw [if_neg c6] at H
     exact absurd H (by simp)
   ·rw [if_neg c5] at H
    have pY:decide (yY < (l2.length:Int)) = false:=decide_eq_false c5
    clear c5
    simp only [Option.some.injEq,Prod.mk.injEq] at H
    obtain ⟨rfl,rfl⟩:=H
    go_wp2
    go_ret2
    exact ⟨_,_,by first | rfl | (simp [zH,zI] <;> rfl) | (simp [*,zH,zI] <;> rfl),by (with_reducible repeat (first | apply Kd.vR | apply Kd.vS | apply Kd.vZ));exact xG.out,by (with_reducible repeat (first | apply Kd.Ym | apply Kd.Yn | apply Kd.uw));exact xg.out,by repeat (first | (with_reducible first | exact HB.out | apply yX | apply zL | apply zR | refine qK ?_ zoy.out) | exact HB.out)⟩
end Go.Proofs.YtggifbbiiickmaaGreatDoor.PX
namespace Go.Proofs.YtggifbbiiickmaaGreatDoor.PX
open Go.RowKit Go.Proofs.zk.zu Go.Proofs.zk.yD Go.Proofs.zk.yA
attribute [local go_sem] xP xR vG vH xB xC xS xU   -- for this text's walks alone
set_option linter.unusedVariables false
set_option linter.unusedSimpArgs false
mutual
def zA.j0:Nat → List (jC) → List ByteArray → List (pG) → Bool → Int → Int → Bool → Bool → Option ((List (vP)) × List ByteArray × Int)
 | 0,_,_,_,_,_,_,_,_=>none
 | k + 1,x0,x2,x3,x34,ZK,KP,Vy,KR=>if x34 = true then (some (([]:List (vP)),([]:List ByteArray),1)) else (zA.l0 k x0 x2 x3 ([]:List ByteArray) 0 ZK KP Vy KR)
def zA.l0:Nat → List (jC) → List ByteArray → List (pG) → List ByteArray → Int → Int → Int → Bool → Bool → Option ((List (vP)) × List ByteArray × Int)
 | 0,_,_,_,_,_,_,_,_,_=>none
 | k + 1,x0,x2,x3,wM,x12,ZK,KP,Vy,KR=>if x12 < (x2.length:Int) then (if 0 ≤ x12 then ((qy.f k (qb ByteArray.empty x2 x12)).bind fun zWB=>(if zWB = true then ((qp.f k (qb ByteArray.empty x2 x12) x3).bind fun t226=>(if wM.length < 8796093022208 then (zA.l0 k x0 x2 x3 (wM ++ [t226]) (wrap64 (x12 + 1)) ZK KP Vy KR) else (none))) else (some (([]:List (vP)),([]:List ByteArray),1)))) else (none)) else (zA.l1 k x0 x3 wM 0 ZK KP Vy KR)
def zA.l1:Nat → List (jC) → List (pG) → List ByteArray → Int → Int → Int → Bool → Bool → Option ((List (vP)) × List ByteArray × Int)
 | 0,_,_,_,_,_,_,_,_=>none
 | k + 1,x0,x3,wM,x13,ZK,KP,Vy,KR=>if x13 < (x3.length:Int) then (if 0 ≤ x13 then ((qy.f k ((j6 x3 x13).f0)).bind fun zWC=>(if zWC = true then ((qy.f k ((j6 x3 x13).f1)).bind fun t233=>(if t233 = true then (zA.l1 k x0 x3 wM (wrap64 (x13 + 1)) ZK KP Vy KR) else (some (([]:List (vP)),([]:List ByteArray),1)))) else (some (([]:List (vP)),([]:List ByteArray),1)))) else (none)) else (if Vy = true then (if 0 ≤ ZK then (if ZK < (x0.length:Int) then ((zU.f k ((zZ x0 ZK).f0) ((zZ x0 ZK).f1) ((zZ x0 ZK).f2) ((zZ x0 ZK).f3) ((zZ x0 ZK).f4) ((zZ x0 ZK).f5) wM).bind fun zqI=>((zV.f k x0 ZK KP Vy KR zqI).bind fun tL=>(some (tL.1,tL.2,0)))) else (none)) else (none)) else ((zV.f k x0 ZK KP Vy KR wM).bind fun zvD=>(some (zvD.1,zvD.2,0))))
end
def zA.f (k:Nat) (l0:List (jC)) (zS:Int) (zP:Int) (yC:Bool) (yh:Bool) (l2:List ByteArray) (l3:List (pG)):Option ((List (vP)) × List ByteArray × Int):=(qI.f k l0).bind fun zyX=>(if zyX = true then ((vB.f l0 zS zP yC yh).bind fun t222=>(if t222 = true then (if (l2.length:Int) > 2000 then (zA.j0 k l0 l2 l3 true zS zP yC yh) else (zA.j0 k l0 l2 l3 (decide ((l3.length:Int) > 100)) zS zP yC yh)) else (zA.j0 k l0 l2 l3 true zS zP yC yh))) else (zA.j0 k l0 l2 l3 true zS zP yC yh))
set_option maxHeartbeats 8000000 in
set_option maxRecDepth 100000 in
theorem zA.calls (k:Nat) (A0:Option Addr) (c0:Nat) (l0:List (jC)) (zS:Int) (zP:Int) (yC:Bool) (yh:Bool) (A2:Option Addr) (c2:Nat) (l2:List ByteArray) (A3:Option Addr) (c3:Nat) (l3:List (pG)) (r1:List (vP)) (r2:List ByteArray) (r3:Int) (w:World) (hr0:Kd.C Wj w A0 l0.length l0) (hc0:l0.length ≤ c0) (hr2:Kd.C Kd.string w A2 l2.length l2) (hc2:l2.length ≤ c2) (hr3:Kd.C Xl w A3 l3.length l3) (hc3:l3.length ≤ c3) (h:zA.f k l0 zS zP yC yh l2 l3 = some (r1,r2,r3)) :
  Calls Tryz.prog 14 #[.slice A0 l0.length c0,.agg #[.int .i64 zS,.int .i64 zP,.bool yC,.bool yh],.slice A2 l2.length c2,.slice A3 l3.length c3] w fun e w'=>∃ Qo v1_:Value,e = .returned (.tuple #[Qo,v1_,.int .i64 r3]) ∧ Kd.S Qb 53 w' w.heap.size (fun _=>True) Qo r1 ∧ Kd.R Kd.string 9 w' w.heap.size (fun _=>True) v1_ r2 ∧ Below w.heap.size w w':=by
 have zdm:=Tryz.underlying41
 have VH:=Tryz.underlying101
 have ji:=zx.mk hr0
 have Vm:=zx.mk hc0
 clear hr0 hc0
 have HR2:=zx.mk hr2
 have HC2:=zx.mk hc2
 clear hr2 hc2
 have HR3:=zx.mk hr3
 have sK:=zx.mk hc3
 clear hr3 hc3
 have HB:=zx.mk (Below.refl w.heap.size w)
 have H:((qI.f k l0).bind fun zyX=>(if zyX = true then ((vB.f l0 zS zP yC yh).bind fun t222=>(if t222 = true then (if (l2.length:Int) > 2000 then (zA.j0 k l0 l2 l3 true zS zP yC yh) else (zA.j0 k l0 l2 l3 (decide ((l3.length:Int) > 100)) zS zP yC yh)) else (zA.j0 k l0 l2 l3 true zS zP yC yh))) else (zA.j0 k l0 l2 l3 true zS zP yC yh))) = some (r1,r2,r3):=h
 clear h
 have HC5:=zx.mk H
 clear H
 go_enter Tryz.func14,Tryz.ntmps14
 go_upto_region 1 with (first | ((with_reducible refine qA (N:=5) rfl ?_);(try (refine uO (by rfl) ?_;dsimp only));refine qH ?hg (N:=5) ?hd (cs:=#[.int .i64 zS,.int .i64 zP,.bool yC,.bool yh]) (t:=41) ?hr ?_;(case hd=>rfl);(case hg=>rfl);(case hr=>first | (go_simp;done) | (go_simp;rfl));intro jk hg w6 qd hb;have zW:=zx.mk (zC (zG HB.out) hb);have zh:=zx.mk (qd);have zo:=zx.mk ((by rw [hg];exact (zf (zG HB.out)):w.heap.size ≤ jk));have zM:=zx.mk ((by rw [hg];exact (zf (zG HB.out)):w.heap.size ≤ jk));clear HB;have HB:=zW;have qc:=zh;have zDN:=zo;have zxu:=zM;clear zW zh zo zM;clear hb qd hg))
 (try simp only [Act.put,List.setIfInBounds_toArray,List.set_cons_zero,List.set_cons_succ])
 go_cut [34] (fun v34 wc=>∃ (kq:Nat) (zwe:Bool),v34 = .bool zwe ∧ zx (zA.j0 kq l0 l2 l3 zwe zS zP yC yh = some (r1,r2,r3)) ∧ zx (kq ≤ k) ∧ zx (wc.heap[jk]? = some (.cells #[.int .i64 zS,.int .i64 zP,.bool yC,.bool yh] 41 (0,0))) ∧ zx (Below w.heap.size w wc))
 case first =>
  have H:=HC5.out
  clear HC5
  replace H:=Option.bind_eq_some_iff.mp H
  obtain ⟨zyX,A70,H⟩:=H
  replace H:(if zyX = true then ((vB.f l0 zS zP yC yh).bind fun t222=>(if t222 = true then (if (l2.length:Int) > 2000 then (zA.j0 k l0 l2 l3 true zS zP yC yh) else (zA.j0 k l0 l2 l3 (decide ((l3.length:Int) > 100)) zS zP yC yh)) else (zA.j0 k l0 l2 l3 true zS zP yC yh))) else (zA.j0 k l0 l2 l3 true zS zP yC yh)) = some (r1,r2,r3):=H
  have A7:=zx.mk A70
  clear A70
  by_cases c8:zyX = true
  ·subst c8
   have H1:((vB.f l0 zS zP yC yh).bind fun t222=>(if t222 = true then (if (l2.length:Int) > 2000 then (zA.j0 k l0 l2 l3 true zS zP yC yh) else (zA.j0 k l0 l2 l3 (decide ((l3.length:Int) > 100)) zS zP yC yh)) else (zA.j0 k l0 l2 l3 true zS zP yC yh))) = some (r1,r2,r3):=by rw [if_pos rfl] at H;exact H
   clear H
   have H:=H1
   clear H1
   replace H:=Option.bind_eq_some_iff.mp H
   obtain ⟨t222,A90,H⟩:=H
   replace H:(if t222 = true then (if (l2.length:Int) > 2000 then (zA.j0 k l0 l2 l3 true zS zP yC yh) else (zA.j0 k l0 l2 l3 (decide ((l3.length:Int) > 100)) zS zP yC yh)) else (zA.j0 k l0 l2 l3 true zS zP yC yh)) = some (r1,r2,r3):=H
   have A9:=zx.mk A90
   clear A90
   by_cases c10:t222 = true
   ·subst c10
    have H1:(if (l2.length:Int) > 2000 then (zA.j0 k l0 l2 l3 true zS zP yC yh) else (zA.j0 k l0 l2 l3 (decide ((l3.length:Int) > 100)) zS zP yC yh)) = some (r1,r2,r3):=by rw [if_pos rfl] at H;exact H
    clear H
    have H:=H1
    clear H1
    by_cases c11:(l2.length:Int) > 2000
    ·rw [if_pos c11] at H
     have QS:decide (2000 < (l2.length:Int)) = true:=decide_eq_true c11
     have tN:decide (2000 < l2.length) = true:=decide_eq_true (by omega)
     clear c11
     (first | rw [QS] | (simp only [vU,uW];rw [QS]) | skip)
     have H':=zx.mk H
     clear H
     go_wp2_with (first | ((with_reducible refine yE (f:=47) rfl ?_);refine jg (some 17) Tryz.func47 #[.slice A0 l0.length c0] ?_;(with_reducible refine (qI.calls k _ _ l0 true _ ?yc ?yG A7.out).mono ?_);(case yc=>exact qY (Kd.zm ji.out HB.out));(case yG=>exact Vm.out);rintro e YK ⟨rfl,hb⟩;refine ⟨_,rfl,?_⟩;have zW:=zx.mk (yj (g:=jk) (o:=.cells #[.int .i64 zS,.int .i64 zP,.bool yC,.bool yh] 41 (0,0)) (qV qc.out) hb);have zh:=zx.mk (zC (zG HB.out) hb);clear qc;clear HB;have qc:=zW;have HB:=zh;clear zW zh;(try clear hb);(try clear hk);have XP:YK.cell? ⟨jk,0,none⟩ = some (.int .i64 zS):=zw qc 0;have XR:YK.cell? ⟨jk,1,none⟩ = some (.int .i64 zP):=zw qc 1;have XT:YK.cell? ⟨jk,2,none⟩ = some (.bool yC):=zw qc 2;have XU:YK.cell? ⟨jk,3,none⟩ = some (.bool yh):=zw qc 3;have X0:=zy qc.out 0;have X3:=zy qc.out 1;have X4:=zy qc.out 2;have X5:=zy qc.out 3) | (go_at_call 48;(with_reducible refine (vB.calls _ _ l0 zS zP yC yh true _ ?yc ?yG A9.out).mono ?_);(case yc=>exact qY (Kd.zm ji.out HB.out));(case yG=>exact Vm.out);rintro e WC ⟨rfl,hb⟩;have zW:=zx.mk (yj (g:=jk) (o:=.cells #[.int .i64 zS,.int .i64 zP,.bool yC,.bool yh] 41 (0,0)) (qV qc.out) hb);have zh:=zx.mk (zC (zG HB.out) hb);clear qc;clear HB;have qc:=zW;have HB:=zh;clear zW zh;(try clear hb);(try clear hk);(try clear hi)))
     go_meet
     case rel=>exact ⟨_,(true),(by first | rfl | (simp;done) | (simp [*];done)),H',⟨by first | omega | exact Nat.le_refl _⟩,⟨qV qc.out⟩,⟨zG HB.out⟩⟩
    ·rw [if_neg c11] at H
     have QS:decide (2000 < (l2.length:Int)) = false:=decide_eq_false c11
     have tN:decide (2000 < l2.length) = false:=decide_eq_false (by omega)
     clear c11
     (first | rw [QS] | (simp only [vU,uW];rw [QS]) | skip)
     have H':=zx.mk H
     clear H
     go_wp2_with (first | ((with_reducible refine yE (f:=47) rfl ?_);refine jg (some 17) Tryz.func47 #[.slice A0 l0.length c0] ?_;(with_reducible refine (qI.calls k _ _ l0 true _ ?yc ?yG A7.out).mono ?_);(case yc=>exact qY (Kd.zm ji.out HB.out));(case yG=>exact Vm.out);rintro e Zu ⟨rfl,hb⟩;refine ⟨_,rfl,?_⟩;have zW:=zx.mk (yj (g:=jk) (o:=.cells #[.int .i64 zS,.int .i64 zP,.bool yC,.bool yh] 41 (0,0)) (qV qc.out) hb);have zh:=zx.mk (zC (zG HB.out) hb);clear qc;clear HB;have qc:=zW;have HB:=zh;clear zW zh;(try clear hb);(try clear hk);have Um:Zu.cell? ⟨jk,0,none⟩ = some (.int .i64 zS):=zw qc 0;have Un:Zu.cell? ⟨jk,1,none⟩ = some (.int .i64 zP):=zw qc 1;have Uo:Zu.cell? ⟨jk,2,none⟩ = some (.bool yC):=zw qc 2;have Ur:Zu.cell? ⟨jk,3,none⟩ = some (.bool yh):=zw qc 3;have Us:=zy qc.out 0;have Ut:=zy qc.out 1;have Uu:=zy qc.out 2;have UA:=zy qc.out 3) | (go_at_call 48;(with_reducible refine (vB.calls _ _ l0 zS zP yC yh true _ ?yc ?yG A9.out).mono ?_);(case yc=>exact qY (Kd.zm ji.out HB.out));(case yG=>exact Vm.out);rintro e Vn ⟨rfl,hb⟩;have zW:=zx.mk (yj (g:=jk) (o:=.cells #[.int .i64 zS,.int .i64 zP,.bool yC,.bool yh] 41 (0,0)) (qV qc.out) hb);have zh:=zx.mk (zC (zG HB.out) hb);clear qc;clear HB;have qc:=zW;have HB:=zh;clear zW zh;(try clear hb);(try clear hk);(try clear hi)))
     go_meet
     case rel=>exact ⟨_,(decide ((l3.length:Int) > 100)),(by first | rfl | (simp;done) | (simp [*];done)),H',⟨by first | omega | exact Nat.le_refl _⟩,⟨qV qc.out⟩,⟨zG HB.out⟩⟩
   ·replace c10:=Bool.eq_false_iff.mpr c10
    subst c10
    have H1:(zA.j0 k l0 l2 l3 true zS zP yC yh) = some (r1,r2,r3):=by rw [if_neg (show ¬ (false = true) by decide)] at H;exact H
    clear H
    have H:=H1
    clear H1
    have H':=zx.mk H
    clear H
    go_wp2_with (first | ((with_reducible refine yE (f:=47) rfl ?_);refine jg (some 17) Tryz.func47 #[.slice A0 l0.length c0] ?_;(with_reducible refine (qI.calls k _ _ l0 true _ ?yc ?yG A7.out).mono ?_);(case yc=>exact qY (Kd.zm ji.out HB.out));(case yG=>exact Vm.out);rintro e sZ ⟨rfl,hb⟩;refine ⟨_,rfl,?_⟩;have zW:=zx.mk (yj (g:=jk) (o:=.cells #[.int .i64 zS,.int .i64 zP,.bool yC,.bool yh] 41 (0,0)) (qV qc.out) hb);have zh:=zx.mk (zC (zG HB.out) hb);clear qc;clear HB;have qc:=zW;have HB:=zh;clear zW zh;(try clear hb);(try clear hk);have nU:sZ.cell? ⟨jk,0,none⟩ = some (.int .i64 zS):=zw qc 0;have rz:sZ.cell? ⟨jk,1,none⟩ = some (.int .i64 zP):=zw qc 1;have rZ:sZ.cell? ⟨jk,2,none⟩ = some (.bool yC):=zw qc 2;have rQ:sZ.cell? ⟨jk,3,none⟩ = some (.bool yh):=zw qc 3;have rX:=zy qc.out 0;have rJ:=zy qc.out 1;have rV:=zy qc.out 2;have rY:=zy qc.out 3) | (go_at_call 48;(with_reducible refine (vB.calls _ _ l0 zS zP yC yh false _ ?yc ?yG A9.out).mono ?_);(case yc=>exact qY (Kd.zm ji.out HB.out));(case yG=>exact Vm.out);rintro e w20 ⟨rfl,hb⟩;have zW:=zx.mk (yj (g:=jk) (o:=.cells #[.int .i64 zS,.int .i64 zP,.bool yC,.bool yh] 41 (0,0)) (qV qc.out) hb);have zh:=zx.mk (zC (zG HB.out) hb);clear qc;clear HB;have qc:=zW;have HB:=zh;clear zW zh;(try clear hb);(try clear hk);(try clear hi)))
    go_meet
    case rel=>exact ⟨_,(true),(by first | rfl | (simp;done) | (simp [*];done)),H',⟨by first | omega | exact Nat.le_refl _⟩,⟨qV qc.out⟩,⟨zG HB.out⟩⟩
  ·replace c8:=Bool.eq_false_iff.mpr c8
   subst c8
   have H1:(zA.j0 k l0 l2 l3 true zS zP yC yh) = some (r1,r2,r3):=by rw [if_neg (show ¬ (false = true) by decide)] at H;exact H
   clear H
   have H:=H1
   clear H1
   have H':=zx.mk H
   clear H
   go_wp2_with (first | ((with_reducible refine yE (f:=47) rfl ?_);refine jg (some 17) Tryz.func47 #[.slice A0 l0.length c0] ?_;(with_reducible refine (qI.calls k _ _ l0 false _ ?yc ?yG A7.out).mono ?_);(case yc=>exact qY (Kd.zm ji.out HB.out));(case yG=>exact Vm.out);rintro e WB ⟨rfl,hb⟩;refine ⟨_,rfl,?_⟩;have zW:=zx.mk (yj (g:=jk) (o:=.cells #[.int .i64 zS,.int .i64 zP,.bool yC,.bool yh] 41 (0,0)) (qV qc.out) hb);have zh:=zx.mk (zC (zG HB.out) hb);clear qc;clear HB;have qc:=zW;have HB:=zh;clear zW zh;(try clear hb);(try clear hk);(try clear hi)))
   go_meet
   case rel=>exact ⟨_,(true),(by first | rfl | (simp;done) | (simp [*];done)),H',⟨by first | omega | exact Nat.le_refl _⟩,⟨qV qc.out⟩,⟨zG HB.out⟩⟩
 case rest =>
  clear HC5
  try clear c2
  try clear c3
  try clear c8
  try clear c10
  try clear c11
  try clear QS
  try clear tN
  try clear XP
  try clear XR
  try clear XT
  try clear XU
  try clear Um
  try clear Un
  try clear Uo
  try clear Ur
  try clear nU
  try clear rz
  try clear rZ
  try clear rQ
  try clear X0
  try clear X3
  try clear X4
  try clear X5
  try clear Us
  try clear Ut
  try clear Uu
  try clear UA
  try clear rX
  try clear rJ
  try clear rV
  try clear rY
  obtain ⟨kq,zwe,rfl,HA,HJ4,qc,HB⟩:=hcut
  cases kq with
  | zero=>exact absurd HA.out (by simp [zA.j0])
  | succ kj4 =>
   have H:=HA.out
   clear HA
   simp only [zA.j0] at H
   by_cases c22:zwe = true
   ·subst c22
    have H1:(some (([]:List (vP)),([]:List ByteArray),1)) = some (r1,r2,r3):=by rw [if_pos rfl] at H;exact H
    clear H
    have H:=H1
    clear H1
    simp only [Option.some.injEq,Prod.mk.injEq] at H
    obtain ⟨rfl,rfl,rfl⟩:=H
    go_wp2
    go_ret3
    exact ⟨_,_,by first | rfl | (simp [zH,zI] <;> rfl) | (simp [*,zH,zI] <;> rfl),by first | exact Kd.Yp _ _ _ _ _ | exact Kd.YI _ _ _ _ _ | exact Kd.YL _ _ _ _ _ | exact Kd.YH _ _ _ _ _ | exact Kd.jf _ _ _ _ _,by first | exact Kd.jf _ _ _ _ _ | exact Kd.YI _ _ _ _ _ | exact Kd.YL _ _ _ _ _ | exact Kd.YH _ _ _ _ _ | exact Kd.Yp _ _ _ _ _,by repeat (first | (with_reducible first | exact HB.out | apply yX | apply zL | apply zR | refine qK ?_ zxu.out) | exact HB.out)⟩
   ·replace c22:=Bool.eq_false_iff.mpr c22
    subst c22
    have H1:(zA.l0 kj4 l0 l2 l3 ([]:List ByteArray) 0 zS zP yC yh) = some (r1,r2,r3):=by rw [if_neg (show ¬ (false = true) by decide)] at H;exact H
    clear H
    have H:=H1
    clear H1
    have H':=zx.mk H
    clear H
    go_wp2
    go_loopg [11,12] kj4 (fun kq v11 v12 w'=>∃ (Zz:List ByteArray) (kH:Int),v12 = .int .i64 kH ∧ zx (zA.l0 kq l0 l2 l3 Zz kH zS zP yC yh = some (r1,r2,r3)) ∧ zx (kq ≤ kj4) ∧ zx (Kd.R Kd.string 9 w' w.heap.size (fun _=>True) v11 Zz) ∧ zx (w'.heap[jk]? = some (.cells #[.int .i64 zS,.int .i64 zP,.bool yC,.bool yh] 41 (0,0))) ∧ zx (Below w.heap.size w w'))
    case atStart=>exact ⟨(([]:List ByteArray)),(0),(by first | rfl | (simp;done) | (simp [*];done)),H',⟨Nat.le_refl _⟩,⟨by first | exact Kd.jf _ _ _ _ _ | exact Kd.YI _ _ _ _ _ | exact Kd.YL _ _ _ _ _ | exact Kd.YH _ _ _ _ _ | exact Kd.Yp _ _ _ _ _⟩,⟨qV qc.out⟩,⟨zG HB.out⟩⟩
    case round =>
     clear H'
     try clear c2
     try clear c3
     try clear c8
     try clear c10
     try clear c11
     try clear QS
     try clear tN
     try clear c22
     try clear XP
     try clear XR
     try clear XT
     try clear XU
     try clear Um
     try clear Un
     try clear Uo
     try clear Ur
     try clear nU
     try clear rz
     try clear rZ
     try clear rQ
     try clear X0
     try clear X3
     try clear X4
     try clear X5
     try clear Us
     try clear Ut
     try clear Uu
     try clear UA
     try clear rX
     try clear rJ
     try clear rV
     try clear rY
     obtain ⟨Zz,kH,rfl,HA,Qs,Zq,qc,HB⟩:=hrel
     cases gk with
     | zero=>exact absurd HA.out (by simp [zA.l0])
     | succ k2 =>
      have H:=HA.out
      clear HA
      simp only [zA.l0] at H
      by_cases c23:kH < (l2.length:Int)
      ·rw [if_pos c23] at H
       have zvd:decide (kH < (l2.length:Int)) = true:=decide_eq_true c23
       clear c23
       by_cases c24:0 ≤ kH
       ·rw [if_pos c24] at H
        have zY5:decide (0 ≤ kH) = true:=decide_eq_true c24
        clear c24
        replace H:=Option.bind_eq_some_iff.mp H
        obtain ⟨zWB,zZR,H⟩:=H
        replace H:(if zWB = true then ((qp.f k2 (qb ByteArray.empty l2 kH) l3).bind fun t226=>(if Zz.length < 8796093022208 then (zA.l0 k2 l0 l2 l3 (Zz ++ [t226]) (wrap64 (kH + 1)) zS zP yC yh) else (none))) else (some (([]:List (vP)),([]:List ByteArray),1))) = some (r1,r2,r3):=H
        have A25:=zx.mk zZR
        clear zZR
        by_cases c26:zWB = true
        ·subst c26
         have H1:((qp.f k2 (qb ByteArray.empty l2 kH) l3).bind fun t226=>(if Zz.length < 8796093022208 then (zA.l0 k2 l0 l2 l3 (Zz ++ [t226]) (wrap64 (kH + 1)) zS zP yC yh) else (none))) = some (r1,r2,r3):=by rw [if_pos rfl] at H;exact H
         clear H
         have H:=H1
         clear H1
         replace H:=Option.bind_eq_some_iff.mp H
         obtain ⟨t226,zZS,H⟩:=H
         replace H:(if Zz.length < 8796093022208 then (zA.l0 k2 l0 l2 l3 (Zz ++ [t226]) (wrap64 (kH + 1)) zS zP yC yh) else (none)) = some (r1,r2,r3):=H
         have A27:=zx.mk zZS
         clear zZS
         by_cases c28:Zz.length < 8796093022208
         ·rw [if_pos c28] at H
          have zot:=zx.mk c28
          clear c28
          obtain ⟨zl7,zvE⟩:∃ y_:List ByteArray,y_ = (Zz ++ [t226]):=⟨_,rfl⟩
          replace H:(zA.l0 k2 l0 l2 l3 zl7 (wrap64 (kH + 1)) zS zP yC yh) = some (r1,r2,r3):=by first | (rw [zvE];with_reducible exact H) | (have jH:=(Option.bind_some _ _).symm.trans H;rw [zvE];with_reducible exact jH) | (have jH:=(Option.bind_some _ _).symm.trans H;with_reducible exact jH) | with_reducible exact H | (rw [zvE];exact H) | exact H
          have zou:=zx.mk zvE
          clear zvE
          have H':=zx.mk H
          clear H
          have zqL:0 ≤ (kH:Int):=of_decide_eq_true yF
          have zqM:kH < (l2.length:Int):=of_decide_eq_true yF
          obtain ⟨zfk,e223,KS⟩:=Kd.uQ HR2.out kH zqL zqM
          cases e223
          replace KS:=(HB.out.cell (World.block_lt_of_cell? w _ KS)).trans KS
          replace zqL:=eq_true zqL
          replace zqM:=eq_true zqM
          go_wp2_with (first | ((with_reducible refine yE (f:=49) rfl ?_);refine jg (some 45) Tryz.func49 #[.string (qb ByteArray.empty l2 kH)] ?_;(with_reducible refine (qy.calls k2 (qb ByteArray.empty l2 kH) true _ A25.out).mono ?_);rintro e w' ⟨rfl,⟨nd,rfl⟩⟩;refine ⟨_,rfl,?_⟩;have zWD:0 ≤ (kH:Int):=of_decide_eq_true yF;have zWE:kH < (l2.length:Int):=of_decide_eq_true yF;obtain ⟨zoA,zrM,zxA⟩:=Kd.uQ HR2.out kH zWD zWE;obtain rfl:zfk = zoA:=(by injection zrM);replace zxA:=(HB.out.cell (World.block_lt_of_cell? w _ zxA)).trans zxA;replace zWD:=eq_true zWD;replace zWE:=eq_true zWE) | ((with_reducible refine yE (f:=50) rfl ?_);refine jg (some 53) Tryz.func50 #[.string (qb ByteArray.empty l2 kH),.slice A3 l3.length c3] ?_;(with_reducible refine (qp.calls k2 (qb ByteArray.empty l2 kH) _ _ l3 t226 _ ?yc ?yG A27.out).mono ?_);(case yc=>repeat (first | exact (Kd.zm HR3.out (zG HB.out)) | (with_reducible refine Kd.zv0 ?_ _) | (with_reducible refine Kd.zv1 ?_ _) | (with_reducible refine Kd.zqW ?_)));(case yG=>exact sK.out);rintro e w' ⟨rfl,⟨nd,rfl⟩⟩;refine ⟨_,rfl,?_⟩) | ((with_reducible refine Zp (b:=.append) (xs:=#[.tmp 47,.tmp 54]) rfl ?_);(try (refine uO (by rfl) ?_;dsimp only));at_builtin;refine Kd.VU Kd.string (w0:=w) w.heap.size rfl (.tmp 47) (.tmp 54) 27 9 (.string ⟨#[]⟩) 16 rfl Tryz.underlying27 zvk rfl (by decide) (by omega) u11 Zz t226 [.string t226] (fun _=>True) (fun _=>False) rfl rfl ?aP (fun _ hk=>hk.elim) ?aF ?aO ?aB ?aS ?aL ?_;(case aP=>exact rfl);(case aB=>exact (zG HB.out));(case aF=>exact (fun _ _=>trivial));(case aO=>exact (vQ Zq.out));(case aS=>exact (zf (zG HB.out)));(case aL=>have:=zot.out;omega);intro v228 w29 ho hb hg hat;rw [← zou.out] at ho;have zW:=zx.mk (uL (g:=jk) (o:=.cells #[.int .i64 zS,.int .i64 zP,.bool yC,.bool yh] 41 (0,0)) (qV qc.out) hg (Kd.Qm Zq.out qc.out (by decide)));have zh:=zx.mk (hb);have zo:=zx.mk (ho);clear qc;clear HB;clear Zq;have qc:=zW;have HB:=zh;have zoB:=zo;clear zW zh zo;clear ho hb hg hat))
          go_roundg k2
          case measure=>have:=HJ4.out;have:=Qs.out;omega
          case rel=>exact ⟨(zl7),(wrap64 (kH + 1)),(by first | rfl | (simp;done) | (simp [*];done)),H',⟨by have:=HJ4.out;have:=Qs.out;omega⟩,⟨vQ zoB.out⟩,⟨qV qc.out⟩,⟨zG HB.out⟩⟩
         ·rw [if_neg c28] at H
          exact absurd H (by simp)
        ·replace c26:=Bool.eq_false_iff.mpr c26
         subst c26
         have H1:(some (([]:List (vP)),([]:List ByteArray),1)) = some (r1,r2,r3):=by rw [if_neg (show ¬ (false = true) by decide)] at H;exact H
         clear H
         have H:=H1
         clear H1
         simp only [Option.some.injEq,Prod.mk.injEq] at H
         obtain ⟨rfl,rfl,rfl⟩:=H
         have zqL:0 ≤ (kH:Int):=of_decide_eq_true yF
         have zqM:kH < (l2.length:Int):=of_decide_eq_true yF
         obtain ⟨zfk,e223,KS⟩:=Kd.uQ HR2.out kH zqL zqM
         cases e223
         replace KS:=(HB.out.cell (World.block_lt_of_cell? w _ KS)).trans KS
         replace zqL:=eq_true zqL
         replace zqM:=eq_true zqM
         go_wp2_with (first | ((with_reducible refine yE (f:=49) rfl ?_);refine jg (some 45) Tryz.func49 #[.string (qb ByteArray.empty l2 kH)] ?_;(with_reducible refine (qy.calls k2 (qb ByteArray.empty l2 kH) false _ A25.out).mono ?_);rintro e w' ⟨rfl,⟨nd,rfl⟩⟩;refine ⟨_,rfl,?_⟩))
         go_ret3
         exact ⟨_,_,by first | rfl | (simp [zH,zI] <;> rfl) | (simp [*,zH,zI] <;> rfl),by first | exact Kd.Yp _ _ _ _ _ | exact Kd.YI _ _ _ _ _ | exact Kd.YL _ _ _ _ _ | exact Kd.YH _ _ _ _ _ | exact Kd.jf _ _ _ _ _,by first | exact Kd.jf _ _ _ _ _ | exact Kd.YI _ _ _ _ _ | exact Kd.YL _ _ _ _ _ | exact Kd.YH _ _ _ _ _ | exact Kd.Yp _ _ _ _ _,by repeat (first | (with_reducible first | exact HB.out | apply yX | apply zL | apply zR | refine qK ?_ zxu.out) | exact HB.out)⟩
       ·rw [if_neg c24] at H
        exact absurd H (by simp)
      ·rw [if_neg c23] at H
       have zvd:decide (kH < (l2.length:Int)) = false:=decide_eq_false c23
       clear c23
       have H':=zx.mk H
       clear H
       go_wp2
       go_loopg [13] k2 (fun kq v13 w'=>∃ (jl:Int),v13 = .int .i64 jl ∧ zx (zA.l1 kq l0 l3 Zz jl zS zP yC yh = some (r1,r2,r3)) ∧ zx (kq ≤ k2) ∧ zx (Kd.R Kd.string 9 w' w.heap.size (fun _=>True) u11 Zz) ∧ zx (w'.heap[jk]? = some (.cells #[.int .i64 zS,.int .i64 zP,.bool yC,.bool yh] 41 (0,0))) ∧ zx (Below w.heap.size w w'))
       case atStart=>exact ⟨(0),(by first | rfl | (simp;done) | (simp [*];done)),H',⟨Nat.le_refl _⟩,⟨vQ Zq.out⟩,⟨qV qc.out⟩,⟨zG HB.out⟩⟩
       case round =>
        clear H'
        try clear c2
        try clear c3
        try clear c8
        try clear c10
        try clear c11
        try clear QS
        try clear tN
        try clear c22
        try clear c23
        try clear zvd
        try clear c24
        try clear zY5
        try clear c26
        try clear c28
        try clear XP
        try clear XR
        try clear XT
        try clear XU
        try clear Um
        try clear Un
        try clear Uo
        try clear Ur
        try clear nU
        try clear rz
        try clear rZ
        try clear rQ
        try clear X0
        try clear X3
        try clear X4
        try clear X5
        try clear Us
        try clear Ut
        try clear Uu
        try clear UA
        try clear rX
        try clear rJ
        try clear rV
        try clear rY
        try clear KS
        try clear zxA
        try clear zqL
        try clear zWD
        try clear zqM
        try clear zWE
        obtain ⟨jl,rfl,HA,rF,Zq,qc,HB⟩:=hrel
        cases gk with
        | zero=>exact absurd HA.out (by simp [zA.l1])
        | succ k3 =>
         have H:=HA.out
         clear HA
         simp only [zA.l1] at H
         by_cases gD:jl < (l3.length:Int)
         ·rw [if_pos gD] at H
          have zWJ:decide (jl < (l3.length:Int)) = true:=decide_eq_true gD
          clear gD
          by_cases c31:0 ≤ jl
          ·rw [if_pos c31] at H
           have ze9:decide (0 ≤ jl) = true:=decide_eq_true c31
           clear c31
           replace H:=Option.bind_eq_some_iff.mp H
           obtain ⟨zWC,zZT,H⟩:=H
           replace H:(if zWC = true then ((qy.f k3 ((j6 l3 jl).f1)).bind fun t233=>(if t233 = true then (zA.l1 k3 l0 l3 Zz (wrap64 (jl + 1)) zS zP yC yh) else (some (([]:List (vP)),([]:List ByteArray),1)))) else (some (([]:List (vP)),([]:List ByteArray),1))) = some (r1,r2,r3):=H
           have A32:=zx.mk zZT
           clear zZT
           by_cases J9:zWC = true
           ·subst J9
            have H1:((qy.f k3 ((j6 l3 jl).f1)).bind fun t233=>(if t233 = true then (zA.l1 k3 l0 l3 Zz (wrap64 (jl + 1)) zS zP yC yh) else (some (([]:List (vP)),([]:List ByteArray),1)))) = some (r1,r2,r3):=by rw [if_pos rfl] at H;exact H
            clear H
            have H:=H1
            clear H1
            replace H:=Option.bind_eq_some_iff.mp H
            obtain ⟨t233,zZU,H⟩:=H
            replace H:(if t233 = true then (zA.l1 k3 l0 l3 Zz (wrap64 (jl + 1)) zS zP yC yh) else (some (([]:List (vP)),([]:List ByteArray),1))) = some (r1,r2,r3):=H
            have A34:=zx.mk zZU
            clear zZU
            by_cases c35:t233 = true
            ·subst c35
             have H1:(zA.l1 k3 l0 l3 Zz (wrap64 (jl + 1)) zS zP yC yh) = some (r1,r2,r3):=by rw [if_pos rfl] at H;exact H
             clear H
             have H:=H1
             clear H1
             have H':=zx.mk H
             clear H
             have sW:0 ≤ (jl:Int):=of_decide_eq_true yF
             have su:jl < (l3.length:Int):=of_decide_eq_true yF
             obtain ⟨zwf,e230,Xy,Xw⟩:=VB HR3.out jl sW su
             cases e230
             replace Xy:=(HB.out.cell (World.block_lt_of_cell? w _ Xy)).trans Xy
             replace Xw:=(HB.out.cell (World.block_lt_of_cell? w _ Xw)).trans Xw
             replace sW:=eq_true sW
             replace su:=eq_true su
             go_wp2_with (first | ((with_reducible refine yE (f:=49) rfl ?_);refine jg (some 67) Tryz.func49 #[.string ((j6 l3 jl).f0)] ?_;(with_reducible refine (qy.calls k3 ((j6 l3 jl).f0) true _ A32.out).mono ?_);rintro e w' ⟨rfl,⟨nd,rfl⟩⟩;refine ⟨_,rfl,?_⟩;have zjD:0 ≤ (jl:Int):=of_decide_eq_true yF;have zjE:jl < (l3.length:Int):=of_decide_eq_true yF;obtain ⟨zWF,e232,bT,bU⟩:=VB HR3.out jl zjD zjE;obtain rfl:zwf = zWF:=(by injection e232);replace bT:=(HB.out.cell (World.block_lt_of_cell? w _ bT)).trans bT;replace bU:=(HB.out.cell (World.block_lt_of_cell? w _ bU)).trans bU;replace zjD:=eq_true zjD;replace zjE:=eq_true zjE) | (go_at_call 49;(with_reducible refine (qy.calls k3 ((j6 l3 jl).f1) true _ A34.out).mono ?_);rintro e w' ⟨rfl,⟨nd,rfl⟩⟩))
             go_roundg k3
             case measure=>have:=HJ4.out;have:=Qs.out;have:=rF.out;omega
             case rel=>exact ⟨(wrap64 (jl + 1)),(by first | rfl | (simp;done) | (simp [*];done)),H',⟨by have:=HJ4.out;have:=Qs.out;have:=rF.out;omega⟩,⟨vQ Zq.out⟩,⟨qV qc.out⟩,⟨zG HB.out⟩⟩
            ·replace c35:=Bool.eq_false_iff.mpr c35
             subst c35
             have H1:(some (([]:List (vP)),([]:List ByteArray),1)) = some (r1,r2,r3):=by rw [if_neg (show ¬ (false = true) by decide)] at H;exact H
             clear H
             have H:=H1
             clear H1
             simp only [Option.some.injEq,Prod.mk.injEq] at H
             obtain ⟨rfl,rfl,rfl⟩:=H
             have sW:0 ≤ (jl:Int):=of_decide_eq_true yF
             have su:jl < (l3.length:Int):=of_decide_eq_true yF
             obtain ⟨zwf,e230,Xy,Xw⟩:=VB HR3.out jl sW su
             cases e230
             replace Xy:=(HB.out.cell (World.block_lt_of_cell? w _ Xy)).trans Xy
             replace Xw:=(HB.out.cell (World.block_lt_of_cell? w _ Xw)).trans Xw
             replace sW:=eq_true sW
             replace su:=eq_true su
             go_wp2_with (first | ((with_reducible refine yE (f:=49) rfl ?_);refine jg (some 67) Tryz.func49 #[.string ((j6 l3 jl).f0)] ?_;(with_reducible refine (qy.calls k3 ((j6 l3 jl).f0) true _ A32.out).mono ?_);rintro e w' ⟨rfl,⟨nd,rfl⟩⟩;refine ⟨_,rfl,?_⟩;have zjD:0 ≤ (jl:Int):=of_decide_eq_true yF;have zjE:jl < (l3.length:Int):=of_decide_eq_true yF;obtain ⟨zWF,e232,bT,bU⟩:=VB HR3.out jl zjD zjE;obtain rfl:zwf = zWF:=(by injection e232);replace bT:=(HB.out.cell (World.block_lt_of_cell? w _ bT)).trans bT;replace bU:=(HB.out.cell (World.block_lt_of_cell? w _ bU)).trans bU;replace zjD:=eq_true zjD;replace zjE:=eq_true zjE) | (go_at_call 49;(with_reducible refine (qy.calls k3 ((j6 l3 jl).f1) false _ A34.out).mono ?_);rintro e w' ⟨rfl,⟨nd,rfl⟩⟩))
             go_ret3
             exact ⟨_,_,by first | rfl | (simp [zH,zI] <;> rfl) | (simp [*,zH,zI] <;> rfl),by first | exact Kd.Yp _ _ _ _ _ | exact Kd.YI _ _ _ _ _ | exact Kd.YL _ _ _ _ _ | exact Kd.YH _ _ _ _ _ | exact Kd.jf _ _ _ _ _,by first | exact Kd.jf _ _ _ _ _ | exact Kd.YI _ _ _ _ _ | exact Kd.YL _ _ _ _ _ | exact Kd.YH _ _ _ _ _ | exact Kd.Yp _ _ _ _ _,by repeat (first | (with_reducible first | exact HB.out | apply yX | apply zL | apply zR | refine qK ?_ zxu.out) | exact HB.out)⟩
           ·replace J9:=Bool.eq_false_iff.mpr J9
            subst J9
            have H1:(some (([]:List (vP)),([]:List ByteArray),1)) = some (r1,r2,r3):=by rw [if_neg (show ¬ (false = true) by decide)] at H;exact H
            clear H
            have H:=H1
            clear H1
            simp only [Option.some.injEq,Prod.mk.injEq] at H
            obtain ⟨rfl,rfl,rfl⟩:=H
            have sW:0 ≤ (jl:Int):=of_decide_eq_true yF
            have su:jl < (l3.length:Int):=of_decide_eq_true yF
            obtain ⟨zwf,e230,Xy,Xw⟩:=VB HR3.out jl sW su
            cases e230
            replace Xy:=(HB.out.cell (World.block_lt_of_cell? w _ Xy)).trans Xy
            replace Xw:=(HB.out.cell (World.block_lt_of_cell? w _ Xw)).trans Xw
            replace sW:=eq_true sW
            replace su:=eq_true su
            go_wp2_with (first | ((with_reducible refine yE (f:=49) rfl ?_);refine jg (some 67) Tryz.func49 #[.string ((j6 l3 jl).f0)] ?_;(with_reducible refine (qy.calls k3 ((j6 l3 jl).f0) false _ A32.out).mono ?_);rintro e w' ⟨rfl,⟨nd,rfl⟩⟩;refine ⟨_,rfl,?_⟩))
            go_ret3
            exact ⟨_,_,by first | rfl | (simp [zH,zI] <;> rfl) | (simp [*,zH,zI] <;> rfl),by first | exact Kd.Yp _ _ _ _ _ | exact Kd.YI _ _ _ _ _ | exact Kd.YL _ _ _ _ _ | exact Kd.YH _ _ _ _ _ | exact Kd.jf _ _ _ _ _,by first | exact Kd.jf _ _ _ _ _ | exact Kd.YI _ _ _ _ _ | exact Kd.YL _ _ _ _ _ | exact Kd.YH _ _ _ _ _ | exact Kd.Yp _ _ _ _ _,by repeat (first | (with_reducible first | exact HB.out | apply yX | apply zL | apply zR | refine qK ?_ zxu.out) | exact HB.out)⟩
          ·rw [if_neg c31] at H
           exact absurd H (by simp)
         ·rw [if_neg gD] at H
          have zWJ:decide (jl < (l3.length:Int)) = false:=decide_eq_false gD
          clear gD
          by_cases tH:yC = true
          ·subst tH
           have H1:(if 0 ≤ zS then (if zS < (l0.length:Int) then ((zU.f k3 ((zZ l0 zS).f0) ((zZ l0 zS).f1) ((zZ l0 zS).f2) ((zZ l0 zS).f3) ((zZ l0 zS).f4) ((zZ l0 zS).f5) Zz).bind fun zqI=>((zV.f k3 l0 zS zP true yh zqI).bind fun tL=>(some (tL.1,tL.2,0)))) else (none)) else (none)) = some (r1,r2,r3):=by rw [if_pos rfl] at H;exact H
           clear H
           have H:=H1
           clear H1
           by_cases c37:0 ≤ zS
           ·rw [if_pos c37] at H
            have zfy:decide (0 ≤ zS) = true:=decide_eq_true c37
            clear c37
            by_cases c38:zS < (l0.length:Int)
            ·rw [if_pos c38] at H
             have zDO:decide (zS < (l0.length:Int)) = true:=decide_eq_true c38
             clear c38
             replace H:=Option.bind_eq_some_iff.mp H
             obtain ⟨zqI,zl8,H⟩:=H
             replace H:((zV.f k3 l0 zS zP true yh zqI).bind fun tL=>(some (tL.1,tL.2,0))) = some (r1,r2,r3):=H
             have A39:=zx.mk zl8
             clear zl8
             replace H:=Option.bind_eq_some_iff.mp H
             obtain ⟨⟨zl9,zmz⟩,zmq,H⟩:=H
             replace H:(some (zl9,zmz,0)) = some (r1,r2,r3):=H
             have gW:=zx.mk zmq
             clear zmq
             simp only [Option.some.injEq,Prod.mk.injEq] at H
             obtain ⟨rfl,rfl,rfl⟩:=H
             have zuV:wr.cell? ⟨jk,0,none⟩ = some (.int .i64 zS):=zw qc 0
             have zuK:wr.cell? ⟨jk,1,none⟩ = some (.int .i64 zP):=zw qc 1
             have zuY:wr.cell? ⟨jk,2,none⟩ = some (.bool true):=zw qc 2
             have zuW:wr.cell? ⟨jk,3,none⟩ = some (.bool yh):=zw qc 3
             have zua:=zy qc.out 0
             have zue:=zy qc.out 1
             have zuf:=zy qc.out 2
             have zug:=zy qc.out 3
             have zdR:0 ≤ (zS:Int):=of_decide_eq_true yF
             have zdS:zS < (l0.length:Int):=of_decide_eq_true yF
             obtain ⟨zoC,zmx,zmj,zmv,zmk,zmy,zmw,e234,zyJ,zyV,zyK,zyY,zyW,zya,zJ5,zJ6,zJ7,zJ8,zJ9,zVz⟩:=Ze ji.out zS zdR zdS
             cases e234
             replace zyJ:=(HB.out.cell (World.block_lt_of_cell? w _ zyJ)).trans zyJ
             replace zyV:=(HB.out.cell (World.block_lt_of_cell? w _ zyV)).trans zyV
             replace zyK:=(HB.out.cell (World.block_lt_of_cell? w _ zyK)).trans zyK
             replace zyY:=(HB.out.cell (World.block_lt_of_cell? w _ zyY)).trans zyY
             replace zyW:=(HB.out.cell (World.block_lt_of_cell? w _ zyW)).trans zyW
             replace zya:=(HB.out.cell (World.block_lt_of_cell? w _ zya)).trans zya
             have zhD:=zx.mk zJ6
             have zhE:=zx.mk zJ5
             clear zJ6 zJ5
             have zhF:=zx.mk zJ8
             have zhG:=zx.mk zJ7
             clear zJ8 zJ7
             have zhH:=zx.mk zVz
             have zhI:=zx.mk zJ9
             clear zVz zJ9
             replace zdR:=eq_true zdR
             replace zdS:=eq_true zdS
             obtain ⟨zkD,zkE,zdW⟩:=Kd.vw Zq.out
             subst zdW
             go_wp2_with (first | ((with_reducible refine yE (f:=51) rfl ?_);refine jg (some 86) Tryz.func51 #[.agg #[.string ((zZ l0 zS).f0),.bool ((zZ l0 zS).f1),.int .i64 ((zZ l0 zS).f2),.slice zmx ((zZ l0 zS).f3).length zmj,.slice zmv ((zZ l0 zS).f4).length zmk,.slice zmy ((zZ l0 zS).f5).length zmw],.slice zkD Zz.length zkE] ?_;(with_reducible refine (zU.calls k3 ((zZ l0 zS).f0) ((zZ l0 zS).f1) ((zZ l0 zS).f2) _ _ ((zZ l0 zS).f3) _ _ ((zZ l0 zS).f4) _ _ ((zZ l0 zS).f5) _ _ Zz zqI _ ?yc ?yG ?qZ ?qQ ?qB ?qC ?j4 ?zoD A39.out).mono ?_);(case yc=>exact qY (Kd.zm zhD.out HB.out));(case yG=>exact zhE.out);(case qZ=>exact qY (Kd.zm zhF.out HB.out));(case qQ=>exact zhG.out);(case qB=>exact qY (Kd.zm zhH.out HB.out));(case qC=>exact zhI.out);(case j4=>exact qY ((Kd.vO Zq.out).2.2));(case zoD=>exact (Kd.vO Zq.out).2.1);rintro e w43 ⟨v236,rfl,ho0,hb⟩;refine ⟨_,rfl,?_⟩;have zW:=zx.mk (Kd.ZP (vQ Zq.out) (Kd.ug ho0) hb);have zh:=zx.mk (Kd.uI (Kd.XD ho0 (Kd.YB (vQ Zq.out))) (zf (zG HB.out)));have zo:=zx.mk (yj (g:=jk) (o:=.cells #[.int .i64 zS,.int .i64 zP,.bool true,.bool yh] 41 (0,0)) (qV qc.out) hb);have zM:=zx.mk (zC (zG HB.out) hb);clear Zq;clear qc;clear HB;have Zq:=zW;have zqk:=zh;have qc:=zo;have HB:=zM;clear zW zh zo zM;(try clear hb);(try clear hk);(try clear ho0);have zuh:w43.cell? ⟨jk,0,none⟩ = some (.int .i64 zS):=zw qc 0;have zui:w43.cell? ⟨jk,1,none⟩ = some (.int .i64 zP):=zw qc 1;have zul:w43.cell? ⟨jk,2,none⟩ = some (.bool true):=zw qc 2;have zum:w43.cell? ⟨jk,3,none⟩ = some (.bool yh):=zw qc 3;have zun:=zy qc.out 0;have zuo:=zy qc.out 1;have zup:=zy qc.out 2;have zur:=zy qc.out 3;obtain ⟨zmZ,zmQ,zdT⟩:=Kd.vw zqk.out;subst zdT) | ((with_reducible refine yE (f:=52) rfl ?_);refine jg (some 91) Tryz.func52 #[.slice (some zoC) l0.length c0,.agg #[.int .i64 zS,.int .i64 zP,.bool true,.bool yh],.slice zmZ zqI.length zmQ] ?_;(with_reducible refine (zV.calls k3 _ _ l0 zS zP true yh _ _ zqI zl9 zmz _ ?yc ?yG ?qZ ?qQ gW.out).mono ?_);(case yc=>exact qY (Kd.zm ji.out HB.out));(case yG=>exact Vm.out);(case qZ=>exact qY ((Kd.vO zqk.out).2.2));(case qQ=>exact (Kd.vO zqk.out).2.1);rintro e w46 ⟨zEC,zED,rfl,ho0,ho1,hb⟩;refine ⟨_,rfl,?_⟩;have zW:=zx.mk (Kd.ZP (vQ Zq.out) (Kd.ug ho1) hb);have zh:=zx.mk (Kd.ZP (vQ zqk.out) (Kd.ug ho1) hb);have zo:=zx.mk (Kd.XI ho0 (zf (zG HB.out)));have zM:=zx.mk (Kd.uI (Kd.XD (Kd.XD ho1 (Kd.YB (vQ Zq.out))) (Kd.YB (vQ zqk.out))) (zf (zG HB.out)));have qw:=zx.mk (yj (g:=jk) (o:=.cells #[.int .i64 zS,.int .i64 zP,.bool true,.bool yh] 41 (0,0)) (qV qc.out) hb);have xE:=zx.mk (zC (zG HB.out) hb);clear Zq;clear zqk;clear qc;clear HB;have Zq:=zW;have zqk:=zh;have zoE:=zo;have zoF:=zM;have qc:=qw;have HB:=xE;clear zW zh zo zM qw xE;(try clear hb);(try clear hk);(try clear ho0);(try clear ho1)))
             go_ret3
             exact ⟨_,_,by first | rfl | (simp [zH,zI] <;> rfl) | (simp [*,zH,zI] <;> rfl),by (with_reducible repeat (first | apply Kd.vR | apply Kd.vS | apply Kd.vZ));exact zoE.out,by (with_reducible repeat (first | apply Kd.Ym | apply Kd.Yn | apply Kd.uw));exact Kd.uy zoF.out (fun _ hk=>trivial),by repeat (first | (with_reducible first | exact HB.out | apply yX | apply zL | apply zR | refine qK ?_ zxu.out) | exact HB.out)⟩
            ·rw [if_neg c38] at H
             exact absurd H (by simp)
           ·rw [if_neg c37] at H
            exact absurd H (by simp)
          ·replace tH:=Bool.eq_false_iff.mpr tH
           subst tH
           have H1:((zV.f k3 l0 zS zP false yh Zz).bind fun zvD=>(some (zvD.1,zvD.2,0))) = some (r1,r2,r3):=by rw [if_neg (show ¬ (false = true) by decide)] at H;exact H
           clear H
           have H:=H1
           clear H1
           replace H:=Option.bind_eq_some_iff.mp H
           obtain ⟨⟨zmX,zmJ⟩,zmV,H⟩:=H
           replace H:(some (zmX,zmJ,0)) = some (r1,r2,r3):=H
           have A47:=zx.mk zmV
           clear zmV
           simp only [Option.some.injEq,Prod.mk.injEq] at H
           obtain ⟨rfl,rfl,rfl⟩:=H
           have zus:wr.cell? ⟨jk,0,none⟩ = some (.int .i64 zS):=zw qc 0
           have zut:wr.cell? ⟨jk,1,none⟩ = some (.int .i64 zP):=zw qc 1
           have zuu:wr.cell? ⟨jk,2,none⟩ = some (.bool false):=zw qc 2
           have zuA:wr.cell? ⟨jk,3,none⟩ = some (.bool yh):=zw qc 3
           have zuB:=zy qc.out 0
           have zuC:=zy qc.out 1
           have zuD:=zy qc.out 2
           have zuE:=zy qc.out 3
           obtain ⟨zrN,zrO,zrP⟩:=Kd.vw Zq.out
           subst zrP
           go_wp2_with (first | ((with_reducible refine yE (f:=52) rfl ?_);refine jg (some 91) Tryz.func52 #[.slice A0 l0.length c0,.agg #[.int .i64 zS,.int .i64 zP,.bool false,.bool yh],.slice zrN Zz.length zrO] ?_;(with_reducible refine (zV.calls k3 _ _ l0 zS zP false yh _ _ Zz zmX zmJ _ ?yc ?yG ?qZ ?qQ A47.out).mono ?_);(case yc=>exact qY (Kd.zm ji.out HB.out));(case yG=>exact Vm.out);(case qZ=>exact qY ((Kd.vO Zq.out).2.2));(case qQ=>exact (Kd.vO Zq.out).2.1);rintro e w50 ⟨zEE,zEF,rfl,ho0,ho1,hb⟩;refine ⟨_,rfl,?_⟩;have zW:=zx.mk (Kd.ZP (vQ Zq.out) (Kd.ug ho1) hb);have zh:=zx.mk (Kd.XI ho0 (zf (zG HB.out)));have zo:=zx.mk (Kd.uI (Kd.XD ho1 (Kd.YB (vQ Zq.out))) (zf (zG HB.out)));have zM:=zx.mk (yj (g:=jk) (o:=.cells #[.int .i64 zS,.int .i64 zP,.bool false,.bool yh] 41 (0,0)) (qV qc.out) hb);have qw:=zx.mk (zC (zG HB.out) hb);clear Zq;clear qc;clear HB;have Zq:=zW;have zoG:=zh;have zoH:=zo;have qc:=zM;have HB:=qw;clear zW zh zo zM qw;(try clear hb);(try clear hk);(try clear ho0);(try clear ho1)))
           go_ret3
           exact ⟨_,_,by first | rfl | (simp [zH,zI] <;> rfl) | (simp [*,zH,zI] <;> rfl),by (with_reducible repeat (first | apply Kd.vR | apply Kd.vS | apply Kd.vZ));exact zoG.out,by (with_reducible repeat (first | apply Kd.Ym | apply Kd.Yn | apply Kd.uw));exact Kd.uy zoH.out (fun _ hk=>trivial),by repeat (first | (with_reducible first | exact HB.out | apply yX | apply zL | apply zR | refine qK ?_ zxu.out) | exact HB.out)⟩
end Go.Proofs.YtggifbbiiickmaaGreatDoor.PX
namespace Go.Proofs.YtggifbbiiickmaaGreatDoor
open Go.RowKit Go.Proofs.zk.zu Go.Proofs.zk.yD Go.Proofs.zk.yA Go.Proofs.YtggifbbiiickmaaGreatDoor.PX
set_option linter.unusedSimpArgs false
set_option linter.unusedVariables false
theorem zhL (x:qo) (hx:Yj x) (n m:ByteArray) (s:Int):Ev (fun k=>uH.f k (kr x).f0 (kr x).f1 (kr x).f2 (kr x).f3 (kr x).f4 (kr x).f5 n m s) (QH x n m s) :=
 znp x.f0 x.f1 x.f2 x.f3 x.f4 x.f5 n m s hx.1 hx.2.1 hx.2.2.1 hx.2.2.2.1 hx.2.2.2.2
theorem zdU (x:qo) (hx:Yj x) (n:ByteArray) (s:Int):Ev (fun k=>yP.f k (kr x).f0 (kr x).f1 (kr x).f2 (kr x).f3 (kr x).f4 (kr x).f5 n s) (zz4 x n s) :=
 zlV x.f0 x.f1 x.f2 x.f3 x.f4 x.f5 n s hx.1 hx.2.1 hx.2.2.1 hx.2.2.2.1 hx.2.2.2.2
theorem zd0 {l:List qo} {f:Int} (n:ByteArray) (h0:0 ≤ f) (h1:f < (l.length:Int)):wZ l f n = -1 ∨ (0 ≤ wZ l f n ∧ wZ l f n < (l.length:Int)):=by
 unfold wZ
 split
 ·exact Or.inr ⟨h0,h1⟩
 ·have key:∀ (m:List qo) (i:Nat),Qc n m i = -1 ∨ (0 ≤ Qc n m i ∧ Qc n m i < ((i + m.length:Nat):Int)):=by
   intro m
   induction m with
   | nil=>intro i;exact Or.inl rfl
   | cons x r ih =>
    intro i
    unfold Qc
    split
    ·exact Or.inr ⟨by omega,by simp only [List.length_cons];omega⟩
    ·rcases ih (i + 1) with h | h
     ·exact Or.inl h
     ·exact Or.inr ⟨h.1,by have:=h.2;simp only [List.length_cons];omega⟩
  have:=key l 0
  simpa using this
theorem zhM (l:List wB) (b:wB) (hl:l.length ≤ 1000000000) (h:l.getLast? = some b):wrap64 ((l.length:Int) - 1) = ((l.length - 1:Nat):Int) ∧ l.length - 1 < l.length ∧ yx l ((l.length - 1:Nat):Int) = b:=by
 have hp:0 < l.length:=by
  rcases Nat.eq_zero_or_pos l.length with h0 | h0
  ·rw [List.eq_nil_of_length_eq_zero h0] at h;cases h
  ·exact h0
 refine ⟨(wK (by omega) (by omega)).trans (by omega),by omega,?_⟩
 rw [List.getLast?_eq_getElem?] at h
 simp [yx,List.getD_eq_getElem?_getD,h]
theorem zd1 (l:List qo) (hl:l.length ≤ 1000000000) (hF:∀ x ∈ l,Yj x) (f:Nat) (hf:f < l.length) (s:Int) (lg kn:Bool) (ns:List ByteArray) (hn:ns.length ≤ 100000000) (i:Nat) (hi:i < ns.length) (out:List wB) (miss:List ByteArray) (ho:out.length ≤ 2 * i) (hm:miss.length ≤ i) (r:List wB × List ByteArray)
  (hr:Ev (fun k=>zV.l0 k (l.map kr) ns (YF l (f:Int) s kn (out,miss) ns[i]).1 (YF l (f:Int) s kn (out,miss) ns[i]).2 ((i + 1:Nat):Int) (f:Int) s lg kn) r) :
  Ev (fun k=>zV.l0 k (l.map kr) ns out miss (i:Int) (f:Int) s lg kn) r:=by
 have hw:wrap64 ((i:Int) + 1) = ((i + 1:Nat):Int):=(wK (by omega) (by omega)).trans (by omega)
 have q1:(i:Int) < (ns.length:Int):=by omega
 have q2:(0:Int) ≤ (i:Int):=by omega
 have hd:=rdS ns i hi
 generalize ns[i] = c at hr hd
 have zWG:=zhd l hl hF f hf c
 have hlt:=zd0 (l:=l) (f:=(f:Int)) c (by omega) (by omega)
 have o1:out.length < 1599289640401:=by omega
 have m1:miss.length < 8796093022208:=by omega
 unfold YF at hr
 generalize wZ l (f:Int) c = a at hr zWG hlt
 by_cases ha:a < 0
 ·rw [if_pos ha] at hr
  exact Ev.step (fun k=>by rw [zV.l0,hd,hw]) (yJ q1 (yJ q2 (Ev.bind zWG (yJ ha (yJ m1 hr)))))
 ·rw [if_neg ha] at hr
  obtain ⟨b,rfl⟩:∃ b:Nat,a = (b:Int):=⟨a.toNat,by omega⟩
  have hb:b < l.length:=by omega
  have hx:=zZD l b hb
  have hx0:kZ l (b:Int) = l[b]:=zWd l b hb
  have hfx:=hF _ (List.getElem_mem hb)
  have b1:(0:Int) ≤ (b:Int):=by omega
  have b2:(b:Int) < (l.length:Int):=by omega
  rw [hx0] at hr
  generalize hgx:l[b] = x at hr hx hfx hx0
  have hwd:=zdU x hfx c s
  have plain:∀ nn:Int,Ev (fun k=>zV.l0 k (l.map kr) ns (out ++ [zjd (zz4 x c s).1 (b:Int) s c]) miss ((i + 1:Nat):Int) (f:Int) s lg kn) r → Ev (fun k=>zV.j1 k (l.map kr) ns out miss (i:Int) (b:Int) nn false (f:Int) s lg kn) r:=by
   intro nn h
   refine Ev.step (fun k=>by rw [zV.j1,List.length_map,hx,hd,hw]) (xQ Bool.false_ne_true (yJ b1 (yJ b2 (yJ q2 (yJ q1 ?_)))))
   refine Ev.bind hwd (yJ o1 ?_)
   exact h
  refine Ev.step (fun k=>by rw [zV.l0,hd,hw]) (yJ q1 (yJ q2 (Ev.bind zWG (xQ ha ?_))))
  cases hkn:kn with
  | false =>
   have hk0:ZG l s kn out (b:Int) c = []:=by unfold ZG;rw [hkn];cases out.getLast? <;> rfl
   rw [hk0,List.append_nil,hkn] at hr
   refine xQ Bool.false_ne_true ?_
   have:=plain (wrap64 ((out.length:Int) - 1))
   rw [hkn] at this
   exact this hr
  | true =>
   refine yJ rfl ?_
   cases hlast:out.getLast? with
   | none =>
    have hnil:out = []:=List.getLast?_eq_none_iff.1 hlast
    have hk0:ZG l s kn out (b:Int) c = []:=by unfold ZG;rw [hlast]
    rw [hk0,List.append_nil,hkn] at hr
    have hneg:¬ wrap64 ((out.length:Int) - 1) ≥ 0:=by rw [hnil,wK (by simp) (by simp)];simp
    refine xQ hneg ?_
    have:=plain (wrap64 ((out.length:Int) - 1))
    rw [hkn] at this
    exact this hr
   | some g =>
    obtain ⟨e1,e2,e3⟩:=zhM out g (by omega) hlast
    have p1:(0:Int) ≤ ((out.length - 1:Nat):Int):=by omega
    have p2:((out.length - 1:Nat):Int) < (out.length:Int):=by omega
    rw [e1,e3]
    refine yJ p1 (yJ p1 (yJ p2 ?_))
    by_cases hga:g.f2 = (b:Int)
    ·have ht:(g.f2 == (b:Int)) = true:=beq_iff_eq.2 hga
     rw [ht]
     have hke:=zhL x hfx g.f4 c s
     have hk1:ZG l s kn out (b:Int) c = if (QH x g.f4 c s).1 = 0 then [] else [zz5 (QH x g.f4 c s).1]:=by
      unfold ZG
      rw [hlast,hkn]
      dsimp only
      rw [decide_eq_true hga,hx0];rfl
     rw [hk1,hkn] at hr
     refine Ev.step (fun k=>by rw [zV.j1,List.length_map,hx,hd,hw,e3]) (yJ rfl (yJ b1 (yJ b2 (yJ p1 (yJ p2 (yJ q2 (yJ q1 ?_)))))))
     refine Ev.bind hke ?_
     by_cases hz:(QH x g.f4 c s).1 = 0
     ·rw [if_pos hz,List.append_nil] at hr
      refine yJ hz (Ev.bind hwd (yJ o1 ?_))
      exact hr
     ·rw [if_neg hz] at hr
      refine xQ hz (yJ o1 (zwW (Ev.bind hwd (yJ (by simp;omega) ?_))))
      exact hr
    ·have ht:(g.f2 == (b:Int)) = false:=beq_eq_false_iff_ne.2 hga
     rw [ht]
     have hk0:ZG l s kn out (b:Int) c = []:=by
      unfold ZG
      rw [hlast]
      dsimp only
      rw [decide_eq_false hga,Bool.and_false];rfl
     rw [hk0,List.append_nil,hkn] at hr
     have:=plain ((out.length - 1:Nat):Int)
     rw [hkn] at this
     exact this hr
theorem zbt (l:List qo) (f s:Int) (kn:Bool) (st:List wB × List ByteArray) (n:ByteArray):(YF l f s kn st n).1.length ≤ st.1.length + 2 ∧ (YF l f s kn st n).2.length ≤ st.2.length + 1:=by
 have hk:(ZG l s kn st.1 (wZ l f n) n).length ≤ 1:=by
  unfold ZG
  split
  ·exact Nat.zero_le _
  ·split
   ·split
    ·exact Nat.zero_le _
    ·exact Nat.le_refl _
   ·exact Nat.zero_le _
 unfold YF
 split
 ·refine ⟨by simp,by simp⟩
 ·refine ⟨by simp;omega,by simp⟩
theorem zoI (l:List qo) (hl:l.length ≤ 1000000000) (hF:∀ x ∈ l,Yj x) (f:Nat) (hf:f < l.length) (s:Int) (lg kn:Bool) (ns:List ByteArray) (hn:ns.length ≤ 100000000):∀ d i,i + d = ns.length → ∀ (out:List wB) (miss:List ByteArray),out.length ≤ 2 * i → miss.length ≤ i → Ev (fun k=>zV.l0 k (l.map kr) ns out miss (i:Int) (f:Int) s lg kn) ((ns.drop i).foldl (YF l (f:Int) s kn) (out,miss)):=by
 intro d
 induction d with
 | zero =>
  intro i h out miss ho hm
  refine Ev.step (fun k=>by rw [zV.l0]) (xQ (by omega) (jM ?_ (Ev.now _)))
  rw [List.drop_eq_nil_of_le (by omega)];rfl
 | succ d ih =>
  intro i h out miss ho hm
  have hi:i < ns.length:=by omega
  rw [List.drop_eq_getElem_cons hi,List.foldl_cons]
  have hlen:=zbt l (f:Int) s kn (out,miss) ns[i]
  exact zd1 l hl hF f hf s lg kn ns hn i hi out miss ho hm _ (ih (i + 1) (by omega) _ _ (by have:=hlen.1;simp only at this;omega) (by have:=hlen.2;simp only at this;omega))
theorem zbu (l:List qo) (hl:l.length ≤ 1000000000) (hF:∀ x ∈ l,Yj x) (f:Nat) (hf:f < l.length) (s:Int) (lg kn:Bool) (ns:List ByteArray) (hn:ns.length ≤ 100000000):Ev (fun k=>zV.f k (l.map kr) (f:Int) s lg kn ns) (Vr l (f:Int) s kn ns):=by
 have h:=zoI l hl hF f hf s lg kn ns hn ns.length 0 (by omega) [] [] (Nat.zero_le _) (Nat.zero_le _)
 rw [List.drop_zero] at h
 exact Ev.congr (fun k=>by rw [zV.f];rfl) h
theorem zbA (l:List qo) (hl:l.length ≤ 1000000000) (hF:∀ x ∈ l,Yj x) (f:Nat) (hf:f < l.length) (s:Int) (lg kn:Bool) (pairs:List kG) (hp:pairs.length ≤ 100) (hpz:∀ p ∈ pairs,p.f0.size ≤ 140737488355328 ∧ p.f1.size ≤ 140737488355328) (all:List ByteArray) (ha:all.length ≤ 2000) (hal:(wY (fjoin (kZ l (f:Int))) all).length ≤ all.length) :
  ∀ d i,i + d = pairs.length → Ev (fun k=>zA.l1 k (l.map kr) pairs all (i:Int) (f:Int) s lg kn) (if (pairs.drop i).any gX = true then ([],[],1) else ((Vr l (f:Int) s kn (if lg = true then wY (fjoin (kZ l (f:Int))) all else all)).1,(Vr l (f:Int) s kn (if lg = true then wY (fjoin (kZ l (f:Int))) all else all)).2,0)):=by
 have f1:(0:Int) ≤ (f:Int):=by omega
 have f2:(f:Int) < (l.length:Int):=by omega
 intro d
 induction d with
 | zero =>
  intro i h
  have hx:=zZD l f hf
  have hx0:kZ l (f:Int) = l[f]:=zWd l f hf
  have hfx:=hF _ (List.getElem_mem hf)
  rw [hx0] at hal ⊢
  generalize hgx:l[f] = x at hx hfx hx0 hal ⊢
  rw [List.drop_eq_nil_of_le (by omega),List.any_nil,if_neg Bool.false_ne_true]
  refine Ev.step (fun k=>by rw [zA.l1,List.length_map,hx]) (xQ (by omega) ?_)
  cases lg with
  | true =>
   rw [if_pos rfl]
   refine yJ rfl (yJ f1 (yJ f2 ?_))
   refine Ev.bind (zbJ x hfx all (by omega)) ?_
   exact Ev.bind (zbu l hl hF f hf s true kn _ (by omega)) (Ev.now _)
  | false =>
   rw [if_neg Bool.false_ne_true]
   refine xQ Bool.false_ne_true ?_
   exact Ev.bind (zbu l hl hF f hf s false kn all (by omega)) (Ev.now _)
 | succ d ih =>
  intro i h
  have hi:i < pairs.length:=by omega
  have hr:=ih (i + 1) (by omega)
  have hw:wrap64 ((i:Int) + 1) = ((i + 1:Nat):Int):=(wK (by omega) (by omega)).trans (by omega)
  have q1:(i:Int) < (pairs.length:Int):=by omega
  have q2:(0:Int) ≤ (i:Int):=by omega
  have hx:=zlM pairs i hi
  obtain ⟨z0,z1⟩:=hpz _ (List.getElem_mem hi)
  rw [List.drop_eq_getElem_cons hi,List.any_cons]
  generalize pairs[i] = p at hx z0 z1 ⊢
  refine Ev.step (fun k=>by rw [zA.l1,hx,hw]) (yJ q1 (yJ q2 (Ev.bind (zqt p.f0 z0) ?_)))
  unfold gX
  cases h0:Yq p.f0 with
  | true=>exact xQ (by decide) (Ev.now _)
  | false =>
   refine yJ rfl (Ev.bind (zqt p.f1 z1) ?_)
   cases h1:Yq p.f1 with
   | true=>exact xQ (by decide) (Ev.now _)
   | false=>exact yJ rfl hr
theorem zbB (l:List qo) (f s:Int) (lg kn:Bool) (pairs:List kG) (hp:pairs.length ≤ 100) (chars:List ByteArray) (hc:chars.length ≤ 2000) (hcz:∀ c ∈ chars,c.size ≤ 140737488355328) (r:List wB × List ByteArray × Int)
  (hr:Ev (fun k=>zA.l1 k (l.map kr) pairs (chars.map (tu pairs)) 0 f s lg kn) r) :
  ∀ d i,i + d = chars.length → Ev (fun k=>zA.l0 k (l.map kr) chars pairs ((chars.map (tu pairs)).take i) (i:Int) f s lg kn) (if (chars.drop i).any Yq = true then ([],[],1) else r):=by
 intro d
 induction d with
 | zero =>
  intro i h
  rw [List.drop_eq_nil_of_le (by omega),List.any_nil,if_neg Bool.false_ne_true,List.take_of_length_le (by rw [List.length_map];omega)]
  exact Ev.step (fun k=>by rw [zA.l0]) (xQ (by omega) hr)
 | succ d ih =>
  intro i h
  have hi:i < chars.length:=by omega
  have hs:=ih (i + 1) (by omega)
  rw [sV (tu pairs) chars i hi] at hs
  have hw:wrap64 ((i:Int) + 1) = ((i + 1:Nat):Int):=(wK (by omega) (by omega)).trans (by omega)
  have q1:(i:Int) < (chars.length:Int):=by omega
  have q2:(0:Int) ≤ (i:Int):=by omega
  have q3:((chars.map (tu pairs)).take i).length < 8796093022208:=by rw [List.length_take,List.length_map];omega
  have hx:=rdS chars i hi
  have hz:=hcz _ (List.getElem_mem hi)
  rw [List.drop_eq_getElem_cons hi,List.any_cons]
  generalize chars[i] = c at hs hx hz ⊢
  refine Ev.step (fun k=>by rw [zA.l0,hx,hw]) (yJ q1 (yJ q2 (Ev.bind (zqt c hz) ?_)))
  cases h0:Yq c with
  | true=>exact xQ (by decide) (Ev.now _)
  | false=>exact yJ rfl (Ev.bind (zwJ c pairs (by omega)) (yJ q3 hs))
theorem zbC (l:List qo) (hl:l.length ≤ 1000000000) (hF:∀ x ∈ l,Yj x) (f s:Int) (lg kn:Bool) (chars:List ByteArray) (hcz:∀ c ∈ chars,c.size ≤ 140737488355328) (pairs:List kG) (hpz:∀ p ∈ pairs,p.f0.size ≤ 140737488355328 ∧ p.f1.size ≤ 140737488355328)
  (hal:∀ all:List ByteArray,(wY (fjoin (kZ l f)) all).length ≤ all.length):Ev (fun k=>zA.f k (l.map kr) f s lg kn chars pairs) (pO l f s lg kn chars pairs):=by
 have hbad:∀ r,r = (([]:List wB),([]:List ByteArray),(1:Int)) → Ev (fun k=>zA.j0 k (l.map kr) chars pairs true f s lg kn) r:=fun r hr=>Ev.step (fun k=>by rw [zA.j0]) (yJ rfl (jM hr.symm (Ev.now _)))
 have hfn:=zdi l hl hF
 refine Ev.congr (fun k=>by rw [zA.f]) (Ev.bind hfn ?_)
 have hany:l.any (fun x=>!jW x) = !l.all jW:=by
  rw [← List.not_all_eq_any_not]
 by_cases hv:l.all jW = true
 ·refine yJ hv ?_
  by_cases hst:0 ≤ f ∧ f < (l.length:Int) ∧ 1 ≤ s ∧ s ≤ 1000
  ·obtain ⟨g0,g1,g2,g3⟩:=hst
   have Yv:vB.f (l.map kr) f s lg kn = some true:=by
    unfold vB.f
    rw [if_pos g0,List.length_map,if_pos g1,if_pos g2,decide_eq_true g3]
   refine Wv Yv (yJ rfl ?_)
   by_cases hc:(chars.length:Int) > 2000
   ·refine yJ hc (hbad _ ?_)
    unfold pO
    rw [if_pos (by unfold Zf;rw [decide_eq_true (by omega:2000 < chars.length)];simp)]
   ·refine xQ hc ?_
    by_cases hp:(pairs.length:Int) > 100
    ·rw [decide_eq_true hp]
     refine hbad _ ?_
     unfold pO
     rw [if_pos (by unfold Zf;rw [decide_eq_true (by omega:100 < pairs.length)];simp)]
    ·rw [decide_eq_false hp]
     obtain ⟨a,rfl⟩:∃ a:Nat,f = (a:Int):=⟨f.toNat,by omega⟩
     have h1:=zbA l hl hF a (by omega) s lg kn pairs (by omega) hpz (chars.map (tu pairs)) (by rw [List.length_map];omega) (hal _) pairs.length 0 (by omega)
     have h0:=zbB l (a:Int) s lg kn pairs (by omega) chars (by omega) hcz _ h1 chars.length 0 (by omega)
     refine Ev.step (fun k=>by rw [zA.j0]) (xQ Bool.false_ne_true ?_)
     refine jM ?_ h0
     have hrf:Zf l (a:Int) s chars pairs = (chars.any Yq || pairs.any gX):=by
      unfold Zf
      rw [hany,hv,decide_eq_false (by omega:¬ (a:Int) < 0),decide_eq_false (by omega:¬ (l.length:Int) ≤ (a:Int)),decide_eq_false (by omega:¬ s < 1),decide_eq_false (by omega:¬ 1000 < s),decide_eq_false (by omega:¬ 2000 < chars.length),decide_eq_false (by omega:¬ 100 < pairs.length)]
      rfl
     unfold pO
     rw [hrf,List.drop_zero,List.drop_zero]
     unfold Y4
     cases chars.any Yq with
     | true=>rfl
     | false=>rfl
  ·have Yv:vB.f (l.map kr) f s lg kn = some false:=by
    unfold vB.f
    rw [List.length_map]
    by_cases g0:f ≥ 0
    ·rw [if_pos g0]
     by_cases g1:f < (l.length:Int)
     ·rw [if_pos g1]
      by_cases g2:s ≥ 1
      ·rw [if_pos g2,decide_eq_false (fun g3=>hst ⟨g0,g1,g2,g3⟩)]
      ·rw [if_neg g2]
     ·rw [if_neg g1]
    ·rw [if_neg g0]
   refine Wv Yv (xQ Bool.false_ne_true (hbad _ ?_))
   unfold pO
   rw [if_pos ?_]
   unfold Zf
   have:(decide (f < 0) || decide ((l.length:Int) ≤ f) || decide (s < 1) || decide (1000 < s)) = true:=by
    simp only [Bool.or_eq_true,decide_eq_true_eq]
    omega
   rw [this];simp
 ·refine xQ hv (hbad _ ?_)
  unfold pO
  rw [if_pos ?_]
  unfold Zf
  rw [hany]
  simp only [Bool.not_eq_true] at hv
  rw [hv];rfl
end Go.Proofs.YtggifbbiiickmaaGreatDoor
namespace Go.Proofs.YtggifbbiiickmaaGreatDoor
open Go.RowKit Go.Proofs.zk.zu
set_option linter.unusedSimpArgs false
set_option linter.unusedVariables false
def Yb {α:Type} (p:α → Bool):List α → Nat → Int
 | [],_=>-1
 | x :: r,i=>if p x then (i:Int) else Yb p r (i + 1)
theorem tO {α:Type} (p:α → Bool) (x:α) (r:List α) (i:Nat):Yb p (x :: r) i = if p x then (i:Int) else Yb p r (i + 1):=rfl
theorem zqy {α:Type} (p:α → Bool):∀ (l:List α) (i:Nat),decide (0 ≤ Yb p l i) = l.any p
 | [],_=>rfl
 | x :: r,i=>by
  unfold Yb
  rw [List.any_cons]
  by_cases h:p x = true
  ·rw [if_pos h,h,Bool.true_or];exact decide_eq_true (by omega)
  ·rw [if_neg h,zqy p r]
   simp only [Bool.not_eq_true] at h
   rw [h,Bool.false_or]
end Go.Proofs.YtggifbbiiickmaaGreatDoor
namespace Go.Proofs.YtggifbbiiickmaaGreatDoor
open Go.RowKit Go.Proofs.zk.zu Go.Proofs.zk.yD Go.Proofs.zk.yA Go.Proofs.YtggifbbiiickmaaGreatDoor.PX
set_option linter.unusedSimpArgs false
set_option linter.unusedVariables false
set_option maxRecDepth 100000 in
set_option maxHeartbeats 4000000 in
theorem zZ0 (A0:Option Addr) (c0:Nat) (l:List kK) (w:World) (hr:Kd.C pV w A0 l.length l) (hl:l.length ≤ 1000000000) (p:kK → Bool) (g:Nat) (lb:Array Value) (eg:∀ args w,(callFunc g args).run Tryz.prog w = .ok (.enter g args) w)
  (hp:∀ (W:World) (x:kK) (A3:Option Addr) (c3:Nat) (A4:Option Addr) (c4:Nat) (A5:Option Addr) (c5:Nat),x ∈ l → Below w.heap.size w W → Kd.C jy W A3 x.f3.length x.f3 → x.f3.length ≤ c3 → Kd.C kS W A4 x.f4.length x.f4 → x.f4.length ≤ c4 → Kd.C wX W A5 x.f5.length x.f5 → x.f5.length ≤ c5 → Calls Tryz.prog g (#[.agg #[.string x.f0,.bool x.f1,.int .i64 x.f2,.slice A3 x.f3.length c3,.slice A4 x.f4.length c4,.slice A5 x.f5.length c5]] ++ lb) W fun e w'=>e = .returned (.bool (p x)) ∧ Below w.heap.size w w') :
  Calls Tryz.prog 83 #[.slice A0 l.length c0,.func (.func g) #[] lb] w fun e w'=>e = .returned (.int .i64 (Yb p l 0)) ∧ Below w.heap.size w w':=by
 have H:=zx.mk hr
 have HP:=zx.mk hp
 clear hr hp
 generalize hR:Yb p l 0 = R
 have HR:=zx.mk hR
 clear hR
 go_enter Tryz.func83,Tryz.ntmps83
 go_wp2
 go_loopw [8] (fun i W=>∃ k:Nat,k ≤ l.length ∧ i = .int .i64 (k:Int) ∧ zx (Yb p l 0 = Yb p (l.drop k) k) ∧ zx (Below w.heap.size w W)) (fun i _=>l.length - (intOf i).toNat)
 case atStart=>exact ⟨0,Nat.zero_le _,rfl,⟨by rw [List.drop_zero]⟩,⟨Below.refl _ _⟩⟩
 case round =>
  obtain ⟨k,hk,rfl,HI,HB⟩:=hrel
  by_cases hlt:k < l.length
  ·obtain ⟨ad,A3,c3,A4,c4,A5,c5,e,x0,x1,x2,x3,x4,x5,g3,q3,g4,q4,g5,q5⟩:=kT (Kd.zm H.out HB.out) (k:Int) (by omega) (by omega)
   cases e
   have e:zK l (k:Int) = l[k]:=by simp [zK,List.getD_eq_getElem?_getD,hlt]
   rw [Int.toNat_natCast] at x0 x1 x2 x3 x4 x5
   rw [e] at x0 x1 x2 x3 x4 x5 g3 q3 g4 q4 g5 q5
   clear e
   have hi:=HI.out
   rw [List.drop_eq_getElem_cons hlt,tO] at hi
   have hm:l[k] ∈ l:=List.getElem_mem hlt
   generalize l[k] = x at x0 x1 x2 x3 x4 x5 g3 q3 g4 q4 g5 q5 hi hm
   have hcall:=HP.out wr x A3 c3 A4 c4 A5 c5 hm HB.out q3 g3 q4 g4 q5 g5
   clear hm q3 g3 q4 g4 q5 g5
   cases hq:p x with
   | true =>
    rw [hq] at hcall
    rw [if_pos hq] at hi
    have HI2:=zx.mk (HR.out.symm.trans hi)
    clear hi hq HI
    go_wp2_with fail
    refine hcall.mono ?_;rintro e w' ⟨rfl,hb'⟩
    go_wp2_with fail
    go_ret
    exact ⟨by rw [HI2.out];rfl,hb'⟩
   | false =>
    rw [hq] at hcall
    rw [if_neg (by rw [hq];exact Bool.false_ne_true)] at hi
    have HI2:=zx.mk hi
    clear hi hq HI
    go_wp2_with fail
    refine hcall.mono ?_;rintro e w' ⟨rfl,hb'⟩
    go_wp2_with fail
    go_roundw
    case rel=>exact ⟨k + 1,by omega,by first | rfl | go_num,HI2,⟨hb'⟩⟩
    case measure=>simp [intOf];omega
  ·obtain rfl:k = l.length:=by omega
   have hi:=HI.out
   rw [List.drop_eq_nil_of_le (Nat.le_refl _)] at hi
   have HI2:=zx.mk (HR.out.symm.trans hi)
   clear hi HI
   go_wp2
   go_ret
   exact ⟨by rw [HI2.out];rfl,HB.out⟩
set_option maxRecDepth 100000 in
theorem zd2 (A0:Option Addr) (c0:Nat) (l:List kK) (w:World) (hr:Kd.C pV w A0 l.length l) (hl:l.length ≤ 1000000000) (p:kK → Bool) (g:Nat) (lb:Array Value) (eg:∀ args w,(callFunc g args).run Tryz.prog w = .ok (.enter g args) w)
  (hp:∀ (W:World) (x:kK) (A3:Option Addr) (c3:Nat) (A4:Option Addr) (c4:Nat) (A5:Option Addr) (c5:Nat),x ∈ l → Below w.heap.size w W → Kd.C jy W A3 x.f3.length x.f3 → x.f3.length ≤ c3 → Kd.C kS W A4 x.f4.length x.f4 → x.f4.length ≤ c4 → Kd.C wX W A5 x.f5.length x.f5 → x.f5.length ≤ c5 → Calls Tryz.prog g (#[.agg #[.string x.f0,.bool x.f1,.int .i64 x.f2,.slice A3 x.f3.length c3,.slice A4 x.f4.length c4,.slice A5 x.f5.length c5]] ++ lb) W fun e w'=>e = .returned (.bool (p x)) ∧ Below w.heap.size w w') :
  Calls Tryz.prog 37 #[.slice A0 l.length c0,.func (.func g) #[] lb] w fun e w'=>e = .returned (.bool (l.any p)) ∧ Below w.heap.size w w':=by
 have h:=zZ0 A0 c0 l w hr hl p g lb eg hp
 have e:=zqy p l 0
 generalize Yb p l 0 = i at h e
 generalize l.any p = b at e ⊢
 subst e
 clear hp hr
 go_enter Tryz.func37,Tryz.ntmps37
 go_wp2_with (go_at_call 83;refine h.mono ?_;rintro e w1 ⟨rfl,hb⟩)
 go_ret
 exact ⟨rfl,hb⟩
end Go.Proofs.YtggifbbiiickmaaGreatDoor
namespace Go.Proofs.YtggifbbiiickmaaGreatDoor
open Go.RowKit Go.Proofs.zk.zu Go.Proofs.zk.yD Go.Proofs.zk.yA
set_option linter.unusedSimpArgs false
set_option linter.unusedVariables false
namespace RW
section
variable {P:Program} {ops:Array Oper} {Q:Exit → Act → World → Prop} {md:Region.Mode} {S:World → Prop} {ds:List Nat} {T:Bool × List (List Nat × List Nat)} {oi:Oper} {v:Value} {fuel:Nat} {l:Array Bool} {a a':Act} {w:World}
theorem rP (i:Nat) (N:Option Tmp) (HT:zx (uj md ops = T)) (h:qj P md ops Q S ds fuel (l.setIfInBounds i true) a' w)
  (hi:ops[i]? = some oi:=by exact rfl) (hN:oi.dst = N:=by exact rfl) (hc:zjq T l.toList (l.setIfInBounds i true).toList i = true:=by kernel_rfl) (hQ:∀ c a w,Q (.panic c) (a.put oi.dst v) w → Q (.panic c) a w:=by exact fun _ _ _ h=>h)
  (hg:Region.wanted oi (yielded ops a.tmps) = true:=by rfl) (hy:∀ w,(execOp a.eval oi).run P w = .ok (.value v) w:=by intro w';go_simp;with_reducible rfl) (ha:a.put N v = a':=by simp only [Act.put,List.setIfInBounds_toArray,List.set_cons_zero,List.set_cons_succ,vU,uW];rfl) :
  qj P md ops Q S ds (fuel + 1) l a w:=uY _ hi hN (vE HT.out hc) hQ (Or.inl ⟨hg,hy⟩) ha h
theorem rU (i:Nat) (N:Option Tmp) (HT:zx (uj md ops = T)) (h:qj P md ops Q S ds fuel (l.setIfInBounds i true) a' w)
  (hi:ops[i]? = some oi:=by exact rfl) (hN:oi.dst = N:=by exact rfl) (hc:zjq T l.toList (l.setIfInBounds i true).toList i = true:=by kernel_rfl) (hQ:∀ c a w,Q (.panic c) (a.put oi.dst undef) w → Q (.panic c) a w:=by exact fun _ _ _ h=>h)
  (hg:Region.wanted oi (yielded ops a.tmps) = false:=by rfl) (ha:a.put N undef = a':=by simp only [Act.put,List.setIfInBounds_toArray,List.set_cons_zero,List.set_cons_succ,vU,uW];rfl) :
  qj P md ops Q S ds (fuel + 1) l a w:=uY _ hi hN (vE HT.out hc) hQ (Or.inr ⟨hg,rfl⟩) ha h
theorem rT {B:List Nat} (i:Nat) (N:Option Tmp) (HT:zx (uj md ops = T)) (HW:zx (uh T.2 B = true)) (hS:S w) (h:qj P md ops Q S ds fuel (l.setIfInBounds i true) a' w)
  (hi:ops[i]? = some oi:=by exact rfl) (hN:oi.dst = N:=by exact rfl) (hc:zvj T B ds l.toList (l.setIfInBounds i true).toList i = true:=by kernel_rfl) (hQ:∀ c a w,Q (.panic c) (a.put oi.dst v) w → Q (.panic c) a w:=by exact fun _ _ _ h=>h)
  (hg:Region.wanted oi (yielded ops a.tmps) = true:=by rfl) (hy:∀ w,S w → (execOp a.eval oi).run P w = .ok (.value v) w:=by intro w' hs_;go_simp;with_reducible rfl) (ha:a.put N v = a':=by simp only [Act.put,List.setIfInBounds_toArray,List.set_cons_zero,List.set_cons_succ,vU,uW];rfl) :
  qj P md ops Q S ds (fuel + 1) l a w:=Qu _ hi hN (V5 HT.out HW.out hc) hQ (Or.inl ⟨hg,hy⟩) hS ha h
theorem rS {X:World} {B:List Nat} {n id:Nat} (HS:zx (∀ W,Below X.heap.size X W → S W)) (hT:uj .any ops = T) (hB:uh T.2 B = true) (hm:P.follows .mixedOrders = true) (hn:ops.size = n) (hl:Array.replicate n false = l)
  (h:∀ w,zx (Below X.heap.size X w) → zx (uj .any ops = T) → zx (uh T.2 B = true) → S w → qj P .any ops Q S [] n l a w):(Code.region id ops true).wp P Q a X :=
 jr _ hm hn hl (HS.out _ (Below.refl _ _).drew) fun hH=>h _ ⟨(Below.refl _ _).drew⟩ ⟨hT⟩ ⟨hB⟩ hH
theorem rSD {X:World} {B:List Nat} {n id:Nat} (ds:List Nat) (HS:zx (∀ W,Below X.heap.size X W → S W)) (hT:uj .any ops = T) (hB:uh T.2 B = true) (hm:P.follows .mixedOrders = true) (hn:ops.size = n) (hl:Array.replicate n false = l)
  (h:∀ w,zx (Below X.heap.size X w) → zx (uj .any ops = T) → zx (uh T.2 B = true) → S w → qj P .any ops Q S ds n l a w):(Code.region id ops true).wp P Q a X :=
 jr _ hm hn hl (HS.out _ (Below.refl _ _).drew) fun hH=>h _ ⟨(Below.refl _ _).drew⟩ ⟨hT⟩ ⟨hB⟩ hH
theorem rC {X:World} {f:FuncId} {fn:Func} {aps:Array Operand} {ts:Array TypeId} {args:Array Value} (i:Nat) (N:Option Tmp) (HT:zx (uj md ops = T)) (HS:zx (∀ W,Below X.heap.size X W → S W)) (HY:zx (Below X.heap.size X w)) (hf:P.funcs[f]? = some fn)
  (hcall:Calls P f args w fun e w'=>e = .returned v ∧ Below w.heap.size w w') (h:∀ w',zx (Below X.heap.size X w') → S w' → qj P md ops Q S ds fuel (l.setIfInBounds i true) a' w') (hname:(fn.name == "runtime.NumGoroutine") = false)
  (hi:ops[i]? = some oi:=by exact rfl) (hN:oi.dst = N:=by exact rfl) (hc:(dF T.2 l.toList == [i] && l.toList.set i true == (l.setIfInBounds i true).toList) = true:=by kernel_rfl) (hd:i ∉ ds:=by decide) (hb:fn.body.isSome = true:=by exact rfl) (hw:Region.wanted oi (yielded ops a.tmps) = true:=by rfl)
  (hop:oi.op = .call { callee:=.value (.func f),args:=aps,argTypes:=ts }:=by exact rfl) (hargs:aps.map a.eval = args:=by (try simp only [List.map_toArray,List.map_cons,List.map_nil]);first | done | rfl) (ha:a.put N v = a':=by simp only [Act.put,List.setIfInBounds_toArray,List.set_cons_zero,List.set_cons_succ,vU,uW];rfl) :
  qj P md ops Q S ds (fuel + 1) l a w:=by
 refine V4 _ hi hN (Zv HT.out hc) hd fun K hK=>?_
 refine wS hf hname hb args hw hN hop hargs (hcall.mono ?_)
 rintro e w' ⟨rfl,hk⟩
 have h2:=HY.out.trans (hk.mono HY.out.size)
 refine ⟨_,rfl,hK.out _ _ (HS.out _ h2) fun hH=>?_⟩
 rw [ha]
 exact h _ ⟨h2⟩ hH
end
end RW
end Go.Proofs.YtggifbbiiickmaaGreatDoor
namespace Go.Proofs.YtggifbbiiickmaaGreatDoor
open Go.RowKit Go.Proofs.zk.zu Go.Proofs.zk.yD Go.Proofs.zk.yA Go.Proofs.YtggifbbiiickmaaGreatDoor.PX
set_option linter.unusedSimpArgs false
set_option linter.unusedVariables false
theorem gL {x:qo} (h:jW x = true):x.f3.length ≤ 400 ∧ x.f4.length ≤ 50 ∧ x.f5.length ≤ 500:=za4 h
theorem zWH {l:List qo} {i:Int} (h0:0 ≤ i) (h1:i < (l.length:Int)):kZ l i ∈ l:=by
 unfold kZ zK
 rw [List.getD_eq_getElem?_getD,List.getElem?_eq_getElem (by omega),Option.getD_some]
 exact List.getElem_mem _
theorem sD {l:List qo} {i:Int} (hv:∀ x ∈ l,jW x = true) (h0:0 ≤ i) (h1:i < (l.length:Int)):jW (kZ l i) = true:=hv _ (zWH h0 h1)
theorem zwv (n:ByteArray):∀ (l:List qo) (i:Nat),Qc n l i = Yb (fun x=>x.f1 && gQ x n) l i
 | [],_=>rfl
 | x :: r,i=>by
  unfold Qc
  rw [tO,zwv n r]
theorem zZ1 (n:ByteArray):∀ (l:List qo) (i:Nat),Qc n l i = -1 ∨ (0 ≤ Qc n l i ∧ Qc n l i < ((i + l.length:Nat):Int))
 | [],_=>Or.inl rfl
 | x :: r,i=>by
  unfold Qc
  by_cases h:(x.f1 && gQ x n) = true
  ·rw [if_pos h];right;simp only [List.length_cons];omega
  ·rw [if_neg h]
   rcases zZ1 n r (i + 1) with h1 | h1
   ·exact Or.inl h1
   ·right;simp only [List.length_cons];omega
theorem zd3 {l:List qo} {f:Int} (n:ByteArray) (h0:0 ≤ f) (h1:f < (l.length:Int)):wZ l f n = -1 ∨ (0 ≤ wZ l f n ∧ wZ l f n < (l.length:Int)):=by
 unfold wZ
 split
 ·exact Or.inr ⟨h0,h1⟩
 ·have:=zZ1 n l 0
  simpa using this
set_option maxRecDepth 100000 in
set_option maxHeartbeats 4000000 in
theorem zd4 (B:Nat) (n:ByteArray) (x:qo) (A3:Option Addr) (c3:Nat) (A4:Option Addr) (c4:Nat) (A5:Option Addr) (c5:Nat) (W:World) (hG:GW W) (hx:jW x = true) (hB:W.cell? ⟨B,0,none⟩ = some (.string n))
  (q3:Kd.C jy W A3 x.f3.length x.f3) (g3:x.f3.length ≤ c3) (q4:Kd.C kS W A4 x.f4.length x.f4) (g4:x.f4.length ≤ c4) (q5:Kd.C wX W A5 x.f5.length x.f5) (g5:x.f5.length ≤ c5) :
  Calls Tryz.prog 136 #[.agg #[.string x.f0,.bool x.f1,.int .i64 x.f2,.slice A3 x.f3.length c3,.slice A4 x.f4.length c4,.slice A5 x.f5.length c5],.pointer (some ⟨B,0,none⟩)] W fun e w'=>e = .returned (.bool (x.f1 && gQ x n)) ∧ Below W.heap.size W w':=by
 have hl:=World.block_lt_of_cell? W _ hB
 have hb0:Below W.heap.size W (W.alloc (.cells #[.string x.f0,.bool x.f1,.int .i64 x.f2,.slice A3 x.f3.length c3,.slice A4 x.f4.length c4,.slice A5 x.f5.length c5] 60)):=(Below.refl _ W).alloc (Nat.le_refl _) _
 have hc:(W.alloc (.cells #[.string x.f0,.bool x.f1,.int .i64 x.f2,.slice A3 x.f3.length c3,.slice A4 x.f4.length c4,.slice A5 x.f5.length c5] 60)).cell? ⟨B,0,none⟩ = some (.string n):=(World.cell?_alloc_lt _ _ _ hl).trans hB
 have hz:=gL hx
 have hh:=Uq.calls x.f0 x.f1 x.f2 A3 c3 x.f3 A4 c4 x.f4 A5 c5 x.f5 n (Ya x.f3 n) _ (Kd.zm q3 hb0) g3 (Kd.zm q4 hb0) g4 (Kd.zm q5 hb0) g5 (hG.under hb0) (by unfold Uq.f;rw [if_pos (by omega)])
 unfold gQ
 generalize Ya x.f3 n = b at hh ⊢
 cases hs:x.f1 with
 | false =>
  rw [hs] at hc hb0
  clear hh hz hx q3 q4 q5
  go_enter Tryz.func136,Tryz.ntmps136
  go_wp2
  go_ret
  exact ⟨rfl,hb0⟩
 | true =>
  rw [hs] at hc hb0 hh
  clear hz hx q3 q4 q5
  go_enter Tryz.func136,Tryz.ntmps136
  go_wp2_with (go_at_call 135;refine hh.mono ?_;rintro e w2 ⟨rfl,hb2⟩)
  go_ret
  exact ⟨by cases b <;> rfl,hb0.trans (hb2.mono hb0.size)⟩
def home.T1:Bool × List (List Nat × List Nat):=(true,[([],[]),([0],[0]),([1],[1]),([2],[2]),([],[]),([4],[4]),([5],[5]),([6],[6]),([7],[7]),([3,8],[3,8]),([9],[9]),([],[]),([10,11],[10,11])])
def home.B1:List Nat:=[0,1,3,7,0,16,48,112,240,511,1023,0,4095]
theorem home.zmK:uj .any (opsOf Tryz.f105 1) = home.T1:=by kernel_rfl
theorem home.zfw:uh home.T1.2 home.B1 = true:=by kernel_rfl
set_option maxRecDepth 100000 in
set_option maxHeartbeats 8000000 in
theorem zZ2 (w0:World) (g:Nat) (Af:Option Addr) (cf:Nat) (l:List qo) (f s:Int) (qJ yB:Bool) (vo vl:Value) (n:ByteArray) (w:World) (hG:GW w0) (hC:Kd.C pV w0 Af l.length l) (hl:l.length ≤ 1000000000) (hf0:0 ≤ f) (hf1:f < (l.length:Int)) (hv:∀ x ∈ l,jW x = true) (hw:Below w0.heap.size w0 w)
  (hS:w.heap[g]? = some (.cells #[.slice Af l.length cf,.int .i64 f,.int .i64 s,.bool qJ,.bool yB,vo,vl] 90 (0,0))) :
  Calls Tryz.prog 105 #[.pointer (some ⟨g,0,none⟩),.string n] w fun e w'=>e = .returned (.int .i64 (wZ l f n)) ∧ Below w.heap.size w w':=by
 obtain ⟨w1,hw1⟩:∃ w1,w.alloc (.cells #[.string n] 9) = w1:=⟨_,rfl⟩
 have hb1:Below w.heap.size w w1:=by rw [← hw1];exact (Below.refl _ w).alloc (Nat.le_refl _) _
 have hS1:=yj hS hb1
 have hN:w1.cell? ⟨w.heap.size,0,none⟩ = some (.string n):=by rw [← hw1];simp
 have hwb:Below w0.heap.size w0 w1:=hw.trans (hb1.mono hw.size)
 have hC1:=Kd.zm hC hwb
 have hG1:GW w1:=hG.under hwb
 obtain ⟨ad,A3,c3,A4,c4,A5,c5,e,x0,x1,x2,x3,x4,x5,g3,q3,g4,q4,g5,q5⟩:=kT hC1 f hf0 (by omega)
 subst e
 have hx:=sD hv hf0 hf1
 have hz:=gL hx
 have hhome:wZ l f n = if Ya (kZ l f).f3 n then f else Yb (fun x=>x.f1 && gQ x n) l 0:=by unfold wZ;rw [zwv];rfl
 have e:zK l f = kZ l f:=rfl
 rw [e] at x0 x1 x2 x3 x4 x5 g3 q3 g4 q4 g5 q5
 clear e
 generalize kZ l f = x at x0 x1 x2 x3 x4 x5 g3 q3 g4 q4 g5 q5 hx hz hhome
 have hh:∀ W,Below w1.heap.size w1 W → Calls Tryz.prog 135 #[.agg #[.string x.f0,.bool x.f1,.int .i64 x.f2,.slice A3 x.f3.length c3,.slice A4 x.f4.length c4,.slice A5 x.f5.length c5],.string n] W fun e w'=>e = .returned (.bool (Ya x.f3 n)) ∧ Below W.heap.size W w':=fun W hb =>
  Uq.calls x.f0 x.f1 x.f2 A3 c3 x.f3 A4 c4 x.f4 A5 c5 x.f5 n (Ya x.f3 n) _ (Kd.zm q3 hb) g3 (Kd.zm q4 hb) g4 (Kd.zm q5 hb) g5 (hG1.under hb) (by unfold Uq.f;rw [if_pos (by omega)])
 have HH:=zx.mk hh
 have hi:∀ W,Below w1.heap.size w1 W → Calls Tryz.prog 83 #[.slice (some ad) l.length cf,.func (.func 136) #[] #[.pointer (some ⟨w.heap.size,0,none⟩)]] W fun e w'=>e = .returned (.int .i64 (Yb (fun x=>x.f1 && gQ x n) l 0)) ∧ Below W.heap.size W w':=fun W hb =>
  (zZ0 (some ad) cf l W (Kd.zm hC1 hb) hl (fun x=>x.f1 && gQ x n) 136 #[.pointer (some ⟨w.heap.size,0,none⟩)] (XH Tryz.func136 (by kernel_rfl) rfl)
   (fun V y A3 c3 A4 c4 A5 c5 hm hV p3 g3 p4 g4 p5 g5=>by
    have hb2:=hb.trans (hV.mono hb.size)
    have hlt:=World.block_lt_of_cell? w1 _ hN
    exact (zd4 w.heap.size n y A3 c3 A4 c4 A5 c5 V (hG1.under hb2) (hv y hm) ((hb2.cell (p:=⟨w.heap.size,0,none⟩) hlt).trans hN) p3 g3 p4 g4 p5 g5).mono fun e w' ⟨h1,h2⟩=>⟨h1,hV.trans (h2.mono hV.size)⟩))
 have HI:=zx.mk hi
 have hs0:w1.cell? ⟨g,0,none⟩ = some (.slice (some ad) l.length cf):=(zX hS1 0).trans rfl
 have hs1:w1.cell? ⟨g,1,none⟩ = some (.int .i64 f):=(zX hS1 1).trans rfl
 have HS:=zx.mk (fun (W:World) (h:Below w1.heap.size w1 W)=>(show W.cell? ⟨g,0,none⟩ = some (.slice (some ad) l.length cf) ∧ W.cell? ⟨g,1,none⟩ = some (.int .i64 f) ∧ W.cell? ⟨w.heap.size,0,none⟩ = some (.string n) ∧ W.cell? (ad.add (f.toNat * 6)) = some (.string x.f0) ∧ W.cell? ⟨(ad.add (f.toNat * 6)).block,(ad.add (f.toNat * 6)).off + 1,none⟩ = some (.bool x.f1) ∧ W.cell? ⟨(ad.add (f.toNat * 6)).block,(ad.add (f.toNat * 6)).off + 2,none⟩ = some (.int .i64 x.f2) ∧ W.cell? ⟨(ad.add (f.toNat * 6)).block,(ad.add (f.toNat * 6)).off + 3,none⟩ = some (.slice A3 x.f3.length c3) ∧ W.cell? ⟨(ad.add (f.toNat * 6)).block,(ad.add (f.toNat * 6)).off + 4,none⟩ = some (.slice A4 x.f4.length c4) ∧ W.cell? ⟨(ad.add (f.toNat * 6)).block,(ad.add (f.toNat * 6)).off + 5,none⟩ = some (.slice A5 x.f5.length c5) from
  ⟨(h.cell (World.block_lt_of_cell? w1 _ hs0)).trans hs0,(h.cell (World.block_lt_of_cell? w1 _ hs1)).trans hs1,(h.cell (World.block_lt_of_cell? w1 _ hN)).trans hN,(h.cell (World.block_lt_of_cell? w1 _ x0)).trans x0,(h.cell (World.block_lt_of_cell? w1 _ x1)).trans x1,(h.cell (World.block_lt_of_cell? w1 _ x2)).trans x2,(h.cell (World.block_lt_of_cell? w1 _ x3)).trans x3,(h.cell (World.block_lt_of_cell? w1 _ x4)).trans x4,(h.cell (World.block_lt_of_cell? w1 _ x5)).trans x5⟩))
 generalize hR:wZ l f n = R at hhome
 have HR:=zx.mk hhome
 have HB1:=zx.mk hb1
 clear hhome hh hi hS hS1 hN hC hC1 hG hG1 hw hwb hs0 hs1 x0 x1 x2 x3 x4 x5 q3 q4 q5 hv hx hR hz hb1
 go_enter Tryz.func105,Tryz.ntmps105
 go_wp2_with fail
 clear hw1
 cases hb:Ya x.f3 n with
 | true =>
  rw [hb,if_pos rfl] at HR
  rw [hb] at HH
  refine RW.rS (n:=13) HS home.zmK home.zfw (by kernel_rfl) rfl rfl (fun w2 H0 T U h=>?_)
  refine RW.rP 0 (some 5) T ?_
  refine RW.rP 1 (some 6) T ?_
  refine RW.rP 2 (some 7) T ?_
  refine RW.rT 3 (some 8) T U h ?_
  refine RW.rP 4 (some 9) T ?_
  refine RW.rP 5 (some 10) T ?_
  refine RW.rP 6 (some 11) T ?_
  refine RW.rP 7 (some 12) T ?_
  refine RW.rT 8 (some 13) T U h ?_
  refine RW.rP 9 (some 14) T ?_
  refine RW.rT 10 (some 15) T U h ?_
  refine RW.rT 11 (some 16) T U h ?_
  clear h
  refine RW.rC 12 (some 17) T HS H0 Tryz.func135 (HH.out _ H0.out) (fun w3 H3 h=>?_) (by kernel_rfl)
  refine vW (qP T.out (by kernel_rfl)) ?_
  obtain ⟨h1,h2,h3,h4⟩:=h
  go_wp2_with fail
  go_ret
  exact ⟨by rw [HR.out];rfl,HB1.out.trans (H3.out.mono HB1.out.size)⟩
 | false =>
  rw [hb,if_neg Bool.false_ne_true] at HR
  rw [hb] at HH
  refine RW.rS (n:=13) HS home.zmK home.zfw (by kernel_rfl) rfl rfl (fun w2 H0 T U h=>?_)
  refine RW.rP 0 (some 5) T ?_
  refine RW.rP 1 (some 6) T ?_
  refine RW.rP 2 (some 7) T ?_
  refine RW.rT 3 (some 8) T U h ?_
  refine RW.rP 4 (some 9) T ?_
  refine RW.rP 5 (some 10) T ?_
  refine RW.rP 6 (some 11) T ?_
  refine RW.rP 7 (some 12) T ?_
  refine RW.rT 8 (some 13) T U h ?_
  refine RW.rP 9 (some 14) T ?_
  refine RW.rT 10 (some 15) T U h ?_
  refine RW.rT 11 (some 16) T U h ?_
  clear h
  refine RW.rC 12 (some 17) T HS H0 Tryz.func135 (HH.out _ H0.out) (fun w3 H3 h=>?_) (by kernel_rfl)
  refine vW (qP T.out (by kernel_rfl)) ?_
  obtain ⟨h1,h2,h3,h4⟩:=h
  clear h2 h4
  go_wp2_with fail
  refine (HI.out _ H3.out).mono ?_;rintro e w4 ⟨rfl,hb4⟩
  go_wp2_with fail
  go_ret
  exact ⟨by rw [HR.out];rfl,HB1.out.trans ((H3.out.trans (hb4.mono H3.out.size)).mono HB1.out.size)⟩
end Go.Proofs.YtggifbbiiickmaaGreatDoor
namespace Go.Proofs.YtggifbbiiickmaaGreatDoor
open Go.RowKit Go.Proofs.zk.zu Go.Proofs.zk.yD Go.Proofs.zk.yA Go.Proofs.YtggifbbiiickmaaGreatDoor.PX
set_option linter.unusedSimpArgs false
set_option linter.unusedVariables false
def jS (base B:Nat) (w w':World):Prop:=Below 0 w w' ∧ (∀ (k:Nat) (o:Obj),w.heap[k]? = some o → o.isCells = false → w'.heap[k]? = some o) ∧ ∀ k:Nat,k < base → k ≠ B → w'.heap[k]? = w.heap[k]?
theorem jS.refl (base B:Nat) (w:World):jS base B w w:=⟨Below.refl _ _,fun _ _ h _=>h,fun _ _ _=>rfl⟩
theorem jS.trans {base B:Nat} {a b c:World} (h:jS base B a b) (k:jS base B b c):jS base B a c :=
 ⟨h.1.trans k.1,fun i o hi ho=>k.2.1 i o (h.2.1 i o hi ho) ho,fun i hi hb=>(k.2.2 i hi hb).trans (h.2.2 i hi hb)⟩
theorem jS.below {base B:Nat} {a b:World} (h:Below a.heap.size a b) (hb:base ≤ a.heap.size):jS base B a b :=
 ⟨h.mono (Nat.zero_le _),fun k o hk _=>(h.block k (Array.getElem?_eq_some_iff.1 hk).1).trans hk,fun k hk _=>h.block k (by omega)⟩
theorem jS.set {base B:Nat} {w:World} {cs:Array Value} {t:TypeId} {z:Nat × Nat} (h:w.heap[B]? = some (.cells cs t z)) (j:Nat) (u:Value):jS base B w (w.setCell ⟨B,j,none⟩ u):=by
 refine ⟨(Below.refl _ _).setCell (p:=⟨B,j,none⟩) (Nat.zero_le _) u,fun k o hk ho=>?_,fun k _ hb=>Below.heap_setCell w ⟨B,j,none⟩ u k hb⟩
 by_cases e:k = B
 ·subst e;rw [h] at hk;cases hk;cases ho
 ·rw [Below.heap_setCell w ⟨B,j,none⟩ u k e];exact hk
theorem jS.grown {base B:Nat} {a b:World} {v:Value} {e:TypeId} {size n:Nat} {xs:List Value} (ho:a.ownsRow base e size v n xs) (h:a.grownBy b v.ownBlock) (hb:base ≤ a.heap.size):jS base B a b:=by
 refine ⟨⟨h.os,h.tape,h.output,h.size,fun k hk=>absurd hk (Nat.not_lt_zero _)⟩,fun k o hk hc=>?_,fun k hk _=>h.block k (by omega) (fun e=>?_)⟩
 ·have hlt:=(Array.getElem?_eq_some_iff.1 hk).1
  rw [h.block k hlt (fun e=>?_)]
  ·exact hk
  ·obtain ⟨cells,hcc⟩:=dD ho k e.symm
   rw [hcc] at hk;cases hk;cases hc
 ·have:=VP ho k e.symm
  omega
theorem zx8 {base B n₀:Nat} {W W':World} (h:jS base B W W') (hn:n₀ ≤ B) (hn2:n₀ ≤ base):Below n₀ W W':=⟨h.1.os,h.1.tape,h.1.output,h.1.size,fun k hk=>h.2.2 k (by omega) (by omega)⟩
theorem zhN {W W':World} {row:Option Nat} {k:Nat} {cs:Array Value} {t:TypeId} (h:W.heap[k]? = some (.cells cs t (0,0))) (hg:W.grownBy W' row) (hr:∀ r,row = some r → ∃ o:Obj,W.heap[r]? = some o ∧ o.isCells = false):W'.heap[k]? = some (.cells cs t (0,0)) :=
 uL h hg (fun e=>by obtain ⟨o,ho,hn⟩:=hr k e.symm;rw [h] at ho;cases ho;cases hn)
theorem zVq {α:Type} {d:Kd α} {e base:Nat} {W W':World} {row:Option Nat} {v:Value} {xs:List α} (h:d.R e W base (fun _=>True) v xs) (hg:W.grownBy W' row) (hr:∀ r,row = some r → ∃ o:Obj,W.heap[r]? = some o ∧ o.isCells = false):d.R e W' base (fun _=>True) v xs :=
 Kd.uy (Kd.zq4 (Kd.ZC h) hg (fun k hk e=>by
  obtain ⟨_,_,_,q,hq,cells,hc⟩:=hk
  obtain ⟨o,ho,hn⟩:=hr k e.symm
  rw [hc] at ho;cases ho;cases hn)) (fun _ _=>trivial)
end Go.Proofs.YtggifbbiiickmaaGreatDoor
namespace Go.Proofs.YtggifbbiiickmaaGreatDoor
open Go.RowKit Go.Proofs.zk.zu Go.Proofs.zk.yD Go.Proofs.zk.yA Go.Proofs.YtggifbbiiickmaaGreatDoor.PX
set_option linter.unusedSimpArgs false
set_option linter.unusedVariables false
set_option maxRecDepth 100000 in
set_option maxHeartbeats 4000000 in
theorem zQa (a:ByteArray) (b:Bool) (c:Int) (A3:Option Addr) (c3:Nat) (l3:List ql) (A4:Option Addr) (c4:Nat) (l4:List xX) (A5:Option Addr) (c5:Nat) (l5:List vv) (na nb:ByteArray) (s:Int) (w:World) (hG:GW w) (h3:Kd.C jy w A3 l3.length l3) (g3:l3.length ≤ c3) (h4:Kd.C kS w A4 l4.length l4) (g4:l4.length ≤ c4) (h5:Kd.C wX w A5 l5.length l5) (g5:l5.length ≤ c5) (z3:l3.length ≤ 1000000000) (z4:l4.length ≤ 1000000000) (z5:l5.length ≤ 1000000000) :
  Calls Tryz.prog 21 #[.agg #[.string a,.bool b,.int .i64 c,.slice A3 l3.length c3,.slice A4 l4.length c4,.slice A5 l5.length c5],.string na,.string nb,.int .i64 s] w fun e w'=>e = .returned (.tuple #[.int .i64 (zz0 (vN a c l3 l4 l5) l5 na nb s).1,.int .i64 (zz0 (vN a c l3 l4 l5) l5 na nb s).2]) ∧ Below w.heap.size w w':=by
 have hb0:Below w.heap.size w (w.alloc (.cells #[.string a,.bool b,.int .i64 c,.slice A3 l3.length c3,.slice A4 l4.length c4,.slice A5 l5.length c5] 60)):=(Below.refl _ w).alloc (Nat.le_refl _) _
 have hbf:=kI w (.cells #[.string a,.bool b,.int .i64 c,.slice A3 l3.length c3,.slice A4 l4.length c4,.slice A5 l5.length c5] 60)
 have hfair:=Yw.calls a b c A3 c3 l3 A4 c4 l4 A5 c5 l5 s (QG s (vN a c l3 l4 l5)) (w.alloc (.cells #[.string a,.bool b,.int .i64 c,.slice A3 l3.length c3,.slice A4 l4.length c4,.slice A5 l5.length c5] 60)) (Kd.zm h3 hb0) g3 (Kd.zm h4 hb0) g4 (Kd.zm h5 hb0) g5 (hG.under hb0) (za7 a b c l3 l4 l5 s z3 z4 z5)
 have hval:zz0 (vN a c l3 l4 l5) l5 na nb s = (if QG s (vN a c l3 l4 l5) = true then ((match l5.find? (fun x=>decide (x.f0 = na) && decide (x.f1 = nb)) with | some x=>flr s x.f2 | none=>0),0) else (0,1)):=rfl
 have hk:QG s (vN a c l3 l4 l5) = true → (1 ≤ s ∧ s ≤ 1000) ∧ ∀ x ∈ l5,-500 ≤ x.f2 ∧ x.f2 ≤ 500:=fun h=>by
  obtain ⟨p,q,hv⟩:=zwR h
  exact ⟨⟨p,q⟩,(zvY hv).2⟩
 generalize zz0 (vN a c l3 l4 l5) l5 na nb s = R at hval ⊢
 cases aH:QG s (vN a c l3 l4 l5) with
 | false =>
  rw [aH,if_neg (by simp)] at hval
  rw [aH] at hfair
  subst hval
  clear h3 h4 h5 hk
  go_enter Tryz.func21,Tryz.ntmps21
  go_wp2_with fail
  refine hfair.mono ?_;rintro e w1 ⟨rfl,hb1⟩
  go_wp2
  go_ret2
  exact ⟨rfl,hb0.trans (hb1.mono hb0.size)⟩
 | true =>
 rw [aH,if_pos rfl] at hval
 rw [aH] at hfair
 obtain ⟨⟨s1,s2⟩,hkn⟩:=hk aH
 have cZ:=zx.mk hval
 have HK:=zx.mk hkn
 have H5:=zx.mk h5
 clear h3 h4 h5 hk hval hkn
 go_enter Tryz.func21,Tryz.ntmps21
 go_wp2_with fail
 refine hfair.mono ?_;rintro e w1 ⟨rfl,hb1⟩
 have HB0:=zx.mk (hb0.trans (hb1.mono hb0.size))
 have hc5:w1.cell? ⟨w.heap.size,5,none⟩ = some (.slice A5 l5.length c5):=(zX (yj hbf hb1) 5).trans rfl
 clear hbf hb1 hfair
 go_wp2_with fail
 clear hc5
 go_loopw [19] (fun y W=>∃ i:Nat,y = .int .i64 (i:Int) ∧ i ≤ l5.length ∧ zx (l5.find? (fun x=>decide (x.f0 = na) && decide (x.f1 = nb)) = (l5.drop i).find? (fun x=>decide (x.f0 = na) && decide (x.f1 = nb))) ∧ zx (Below w.heap.size w W)) (fun y _=>l5.length - (intOf y).toNat)
 case atStart=>exact ⟨0,rfl,Nat.zero_le _,⟨by rw [List.drop_zero]⟩,HB0⟩
 case round =>
  clear HB0
  obtain ⟨i,rfl,hi,HX,HB⟩:=hrel
  by_cases hlt:i < l5.length
  ·obtain ⟨ad,e,x0,x1,x2⟩:=mq (Kd.zm H5.out HB.out) (i:Int) (by omega) (by omega)
   cases e
   have e:q9 l5 (i:Int) = l5[i]:=by simp [q9,List.getD_eq_getElem?_getD,hlt]
   rw [Int.toNat_natCast,e] at x0 x1 x2
   clear e
   have hx:=HX.out
   rw [List.drop_eq_getElem_cons hlt,List.find?_cons] at hx
   have hm:l5[i] ∈ l5:=List.getElem_mem hlt
   generalize l5[i] = x at x0 x1 x2 hx hm
   have q1:(i:Int) < (l5.length:Int):=by omega
   have q0:(0:Int) ≤ (i:Int):=by omega
   have q3:((i:Int)).toNat = i:=Int.toNat_natCast i
   have hbX:Below wr.heap.size wr (wr.alloc (.cells #[.string x.f0,.string x.f1,.int .i64 x.f2] 111)):=(Below.refl _ wr).alloc (Nat.le_refl _) _
   have hb2:=HB.out.trans (hbX.mono HB.out.size)
   by_cases t0:x.f0 = na
   case neg =>
    have d0:(x.f0.toList == na.toList) = false:=beq_eq_false_iff_ne.2 (fun e=>t0 (YR.1 e))
    rw [decide_eq_false t0,Bool.false_and] at hx
    have HX2:=zx.mk hx
    clear hx
    clear hm t0
    go_wp2
    go_roundw
    case rel=>exact ⟨i + 1,by first | rfl | (simp;done) | go_num,by omega,HX2,⟨hb2⟩⟩
    case measure=>simp [intOf];omega
   have d0:(x.f0.toList == na.toList) = true:=beq_iff_eq.2 (YR.2 t0)
   by_cases t1:x.f1 = nb
   case neg =>
    have d1:(x.f1.toList == nb.toList) = false:=beq_eq_false_iff_ne.2 (fun e=>t1 (YR.1 e))
    rw [decide_eq_false t1,Bool.and_false] at hx
    have HX2:=zx.mk hx
    clear hx t1
    clear hm t0
    go_wp2
    go_roundw
    case rel=>exact ⟨i + 1,by first | rfl | (simp;done) | go_num,by omega,HX2,⟨hb2⟩⟩
    case measure=>simp [intOf];omega
   case pos =>
    have d1:(x.f1.toList == nb.toList) = true:=beq_iff_eq.2 (YR.2 t1)
    rw [decide_eq_true t0,decide_eq_true t1] at hx
    simp only [Bool.and_true] at hx
    rw [hx] at cZ
    have hR:=cZ.out
    subst hR
    have hsc:=fun W=>pJ.calls x.f2 s (flr s x.f2) W (za6 x.f2 s s1 s2 (by have:=HK.out x hm;omega) (by have:=HK.out x hm;omega))
    clear hx cZ hm t0 t1
    go_wp2_with fail
    refine (hsc _).mono ?_;rintro e w3 ⟨rfl,⟨nd,rfl⟩⟩
    go_wp2
    go_ret2
    exact ⟨rfl,zL hb2 nd⟩
  ·obtain rfl:i = l5.length:=by omega
   have q1:decide ((l5.length:Int) < (l5.length:Int)) = false:=decide_eq_false (by omega)
   have hx:=HX.out
   rw [List.drop_eq_nil_of_le (Nat.le_refl _),List.find?_nil] at hx
   rw [hx] at cZ
   have hR:=cZ.out
   subst hR
   clear hx cZ
   go_wp2
   go_ret2
   exact ⟨rfl,HB.out⟩
set_option maxRecDepth 100000 in
set_option maxHeartbeats 4000000 in
theorem zd5 (a:ByteArray) (b:Bool) (c:Int) (A3:Option Addr) (c3:Nat) (l3:List ql) (A4:Option Addr) (c4:Nat) (l4:List xX) (A5:Option Addr) (c5:Nat) (l5:List vv) (na nb:ByteArray) (w:World) (hG:GW w) (h3:Kd.C jy w A3 l3.length l3) (g3:l3.length ≤ c3) (h4:Kd.C kS w A4 l4.length l4) (g4:l4.length ≤ c4) (h5:Kd.C wX w A5 l5.length l5) (g5:l5.length ≤ c5) (z3:l3.length ≤ 1000000000) (z4:l4.length ≤ 1000000000) (z5:l5.length ≤ 1000000000) :
  Calls Tryz.prog 45 #[.agg #[.string a,.bool b,.int .i64 c,.slice A3 l3.length c3,.slice A4 l4.length c4,.slice A5 l5.length c5],.string na,.string nb] w fun e w'=>e = .returned (.tuple #[.string (tK (vN a c l3 l4 l5) l4 na nb).1,.bool (tK (vN a c l3 l4 l5) l4 na nb).2]) ∧ Below w.heap.size w w':=by
 have hb0:Below w.heap.size w (w.alloc (.cells #[.string a,.bool b,.int .i64 c,.slice A3 l3.length c3,.slice A4 l4.length c4,.slice A5 l5.length c5] 60)):=(Below.refl _ w).alloc (Nat.le_refl _) _
 have hbf:=kI w (.cells #[.string a,.bool b,.int .i64 c,.slice A3 l3.length c3,.slice A4 l4.length c4,.slice A5 l5.length c5] 60)
 have hvalid:=ZQ.calls a b c A3 c3 l3 A4 c4 l4 A5 c5 l5 (vN a c l3 l4 l5) (w.alloc (.cells #[.string a,.bool b,.int .i64 c,.slice A3 l3.length c3,.slice A4 l4.length c4,.slice A5 l5.length c5] 60)) (Kd.zm h3 hb0) g3 (Kd.zm h4 hb0) g4 (Kd.zm h5 hb0) g5 (hG.under hb0) (by unfold ZQ.f;rw [if_pos ⟨z3,z4,z5⟩])
 have hval:tK (vN a c l3 l4 l5) l4 na nb = (if vN a c l3 l4 l5 = true then (match l4.find? (fun x=>decide (x.f0 = na) && decide (x.f1 = nb)) with | some x=>(x.f2,true) | none=>((⟨#[]⟩:ByteArray),false)) else ((⟨#[]⟩:ByteArray),false)):=rfl
 generalize tK (vN a c l3 l4 l5) l4 na nb = R at hval ⊢
 by_cases h0:l4.length = 0
 ·have e:l4 = []:=List.eq_nil_of_length_eq_zero h0
  have hR:R = ((⟨#[]⟩:ByteArray),false):=by rw [hval,e];split <;> rfl
  subst hR
  have d0:((l4.length:Int) == 0) = true:=beq_iff_eq.2 (by omega)
  have d1:decide ((l4.length:Int) = 0) = true:=decide_eq_true (by omega)
  clear h3 h4 h5 hval hvalid e h0
  go_enter Tryz.func45,Tryz.ntmps45
  go_wp2
  go_ret2
  exact ⟨rfl,hb0⟩
 have d0:((l4.length:Int) == 0) = false:=beq_eq_false_iff_ne.2 (by omega)
 have d1:decide ((l4.length:Int) = 0) = false:=decide_eq_false (by omega)
 clear h0
 cases aH:vN a c l3 l4 l5 with
 | false =>
  rw [aH,if_neg (by simp)] at hval
  rw [aH] at hvalid
  subst hval
  clear h3 h4 h5
  go_enter Tryz.func45,Tryz.ntmps45
  go_wp2_with fail
  refine hvalid.mono ?_;rintro e w1 ⟨rfl,hb1⟩
  go_wp2
  go_ret2
  exact ⟨rfl,hb0.trans (hb1.mono hb0.size)⟩
 | true =>
 rw [aH,if_pos rfl] at hval
 rw [aH] at hvalid
 have cZ:=zx.mk hval
 have H4:=zx.mk h4
 clear h3 h4 h5 hval
 go_enter Tryz.func45,Tryz.ntmps45
 go_wp2_with fail
 refine hvalid.mono ?_;rintro e w1 ⟨rfl,hb1⟩
 have HB0:=zx.mk (hb0.trans (hb1.mono hb0.size))
 have hc4:w1.cell? ⟨w.heap.size,4,none⟩ = some (.slice A4 l4.length c4):=(zX (yj hbf hb1) 4).trans rfl
 clear hbf hb1 hvalid
 go_wp2_with fail
 clear hc4 d0 d1
 go_loopw [22] (fun y W=>∃ i:Nat,y = .int .i64 (i:Int) ∧ i ≤ l4.length ∧ zx (l4.find? (fun x=>decide (x.f0 = na) && decide (x.f1 = nb)) = (l4.drop i).find? (fun x=>decide (x.f0 = na) && decide (x.f1 = nb))) ∧ zx (Below w.heap.size w W)) (fun y _=>l4.length - (intOf y).toNat)
 case atStart=>exact ⟨0,rfl,Nat.zero_le _,⟨by rw [List.drop_zero]⟩,HB0⟩
 case round =>
  clear HB0
  obtain ⟨i,rfl,hi,HX,HB⟩:=hrel
  by_cases hlt:i < l4.length
  ·obtain ⟨ad,e,x0,x1,x2⟩:=gU (Kd.zm H4.out HB.out) (i:Int) (by omega) (by omega)
   cases e
   have e:qR l4 (i:Int) = l4[i]:=by simp [qR,List.getD_eq_getElem?_getD,hlt]
   rw [Int.toNat_natCast,e] at x0 x1 x2
   clear e
   have hx:=HX.out
   rw [List.drop_eq_getElem_cons hlt,List.find?_cons] at hx
   have hm:l4[i] ∈ l4:=List.getElem_mem hlt
   generalize l4[i] = x at x0 x1 x2 hx hm
   have q1:(i:Int) < (l4.length:Int):=by omega
   have q0:(0:Int) ≤ (i:Int):=by omega
   have q3:((i:Int)).toNat = i:=Int.toNat_natCast i
   have hbX:Below wr.heap.size wr (wr.alloc (.cells #[.string x.f0,.string x.f1,.string x.f2] 108)):=(Below.refl _ wr).alloc (Nat.le_refl _) _
   have hb2:=HB.out.trans (hbX.mono HB.out.size)
   by_cases t0:x.f0 = na
   case neg =>
    have d0:(x.f0.toList == na.toList) = false:=beq_eq_false_iff_ne.2 (fun e=>t0 (YR.1 e))
    rw [decide_eq_false t0,Bool.false_and] at hx
    have HX2:=zx.mk hx
    clear hx
    clear hm t0
    go_wp2
    go_roundw
    case rel=>exact ⟨i + 1,by first | rfl | (simp;done) | go_num,by omega,HX2,⟨hb2⟩⟩
    case measure=>simp [intOf];omega
   have d0:(x.f0.toList == na.toList) = true:=beq_iff_eq.2 (YR.2 t0)
   by_cases t1:x.f1 = nb
   case neg =>
    have d1:(x.f1.toList == nb.toList) = false:=beq_eq_false_iff_ne.2 (fun e=>t1 (YR.1 e))
    rw [decide_eq_false t1,Bool.and_false] at hx
    have HX2:=zx.mk hx
    clear hx t1
    clear hm t0
    go_wp2
    go_roundw
    case rel=>exact ⟨i + 1,by first | rfl | (simp;done) | go_num,by omega,HX2,⟨hb2⟩⟩
    case measure=>simp [intOf];omega
   case pos =>
    have d1:(x.f1.toList == nb.toList) = true:=beq_iff_eq.2 (YR.2 t1)
    rw [decide_eq_true t0,decide_eq_true t1] at hx
    simp only [Bool.and_true] at hx
    rw [hx] at cZ
    have hR:=cZ.out
    subst hR
    clear hx cZ hm t0 t1
    go_wp2
    go_ret2
    exact ⟨rfl,hb2⟩
  ·obtain rfl:i = l4.length:=by omega
   have q1:decide ((l4.length:Int) < (l4.length:Int)) = false:=decide_eq_false (by omega)
   have hx:=HX.out
   rw [List.drop_eq_nil_of_le (Nat.le_refl _),List.find?_nil] at hx
   rw [hx] at cZ
   have hR:=cZ.out
   subst hR
   clear hx cZ
   go_wp2
   go_ret2
   exact ⟨rfl,HB.out⟩
end Go.Proofs.YtggifbbiiickmaaGreatDoor
