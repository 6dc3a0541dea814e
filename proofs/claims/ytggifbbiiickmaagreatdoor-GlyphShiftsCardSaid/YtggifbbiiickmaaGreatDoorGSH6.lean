/-
  Texts that lean on one another, laid in one file. No condition.
-/
import Derived.Test.YtggifbbiiickmaaGreatDoorGSH1
import Derived.Test.YtggifbbiiickmaaGreatDoorGSH3
import Derived.Test.YtggifbbiiickmaaGreatDoorGSH5
import Derived.Test.YtggifbbiiickmaaGreatDoorGSH4
import Derived.Deep.Slices
import Derived.ChangeArms
import Derived.ChangeSlices
import Derived.SizedLaws
import Derived.WideShapes
import Derived.Test.YtggifbbiiickmaaGreatDoorGSH2
import Derived.OpenShut
import Derived.Lib.LaidU8
import Derived.Shelf.Vars
namespace Go.Proofs.YtggifbbiiickmaaGreatDoor.PX
open Go.RowKit Go.Proofs.zk.za Go.Proofs.zk.zS Go.Proofs.zk.zR
attribute [local go_sem] qD qE xJ xV qc qd qF qG   -- for this text's walks alone
set_option linter.unusedVariables false
set_option linter.unusedSimpArgs false
mutual
def zY.j0:Nat → List (qV) → Int → List (jr) → Bool → Option ((List (qV)) × Int)
 | 0,_,_,_,_=>none
 | k + 1,x0,x1,x2,x23=>if x23 = true then (some (([]:List (qV)),1)) else (zY.l0 k x0 x1 x2 ([]:List (qV)) 0)
def zY.l0:Nat → List (qV) → Int → List (jr) → List (qV) → Int → Option ((List (qV)) × Int)
 | 0,_,_,_,_,_=>none
 | k + 1,x0,x1,x2,x8,x9=>if x9 < (x0.length:Int) then (if 0 ≤ x9 then (if ((zy x0 x9).f0) = 0 then (zY.j2 k x0 x1 x2 x8 x9 true ((zy x0 x9).f0) ((zy x0 x9).f1) ((zy x0 x9).f2) ((zy x0 x9).f3) ((zy x0 x9).f4) ((zy x0 x9).f5) ((zy x0 x9).f6)) else (zY.j2 k x0 x1 x2 x8 x9 (((zy x0 x9).f0) == 1) ((zy x0 x9).f0) ((zy x0 x9).f1) ((zy x0 x9).f2) ((zy x0 x9).f3) ((zy x0 x9).f4) ((zy x0 x9).f5) ((zy x0 x9).f6))) else (none)) else (some (x8,0))
def zY.j2:Nat → List (qV) → Int → List (jr) → List (qV) → Int → Bool → Int → Int → Int → Int → ByteArray → ByteArray → List Int → Option ((List (qV)) × Int)
 | 0,_,_,_,_,_,_,_,_,_,_,_,_,_=>none
 | k + 1,x0,x1,x2,x8,x9,x41,KI,oU,jQ,o7,KL,P6,X9=>if x41 = true then (if jQ < 0 then (zY.j3 k x0 x1 x2 x8 x9 true KI oU jQ o7 KL P6 X9) else (zY.j3 k x0 x1 x2 x8 x9 (decide (jQ ≥ (x2.length:Int))) KI oU jQ o7 KL P6 X9)) else ((some (([]:List Int):List Int)).bind fun bF=>(if bF.length + X9.length < 17592186044416 then (if x8.length < 1599289640401 then (zY.l0 k x0 x1 x2 (x8 ++ [(⟨KI,oU,jQ,o7,KL,P6,(bF ++ X9)⟩:qV)]) (wrap64 (x9 + 1))) else (none)) else (none)))
def zY.j3:Nat → List (qV) → Int → List (jr) → List (qV) → Int → Bool → Int → Int → Int → Int → ByteArray → ByteArray → List Int → Option ((List (qV)) × Int)
 | 0,_,_,_,_,_,_,_,_,_,_,_,_,_=>none
 | k + 1,x0,x1,x2,x8,x9,x51,KI,oU,jQ,o7,KL,P6,X9=>if x51 = true then (some (([]:List (qV)),1)) else (if 0 ≤ jQ then (if jQ < (x2.length:Int) then ((vI.f ((zl x2 jQ).f0) ((zl x2 jQ).f1) ((zl x2 jQ).f2) ((zl x2 jQ).f3) ((zl x2 jQ).f4) ((zl x2 jQ).f5) x1).bind fun zqP=>(if KI = 0 then ((yL.f k ((zl x2 jQ).f0) ((zl x2 jQ).f1) ((zl x2 jQ).f2) ((zl x2 jQ).f3) ((zl x2 jQ).f4) ((zl x2 jQ).f5) KL x1).bind fun dR=>(if dR.2 = 0 then ((some (([]:List Int):List Int)).bind fun Xf=>(if Xf.length + X9.length < 17592186044416 then (if x8.length < 1599289640401 then (zY.l0 k x0 x1 x2 (x8 ++ [(⟨KI,dR.1,jQ,x1,KL,P6,(Xf ++ X9)⟩:qV)]) (wrap64 (x9 + 1))) else (none)) else (none))) else (some (([]:List (qV)),1)))) else (if zqP.2 = 0 then ((some (([]:List Int):List Int)).bind fun JQ=>(if JQ.length + X9.length < 17592186044416 then (if x8.length < 1599289640401 then (zY.l0 k x0 x1 x2 (x8 ++ [(⟨KI,zqP.1,jQ,x1,KL,P6,(JQ ++ X9)⟩:qV)]) (wrap64 (x9 + 1))) else (none)) else (none))) else (some (([]:List (qV)),1))))) else (none)) else (none))
end
def zY.f (k:Nat) (l0:List (qV)) (a1:Int) (l2:List (jr)):Option ((List (qV)) × Int):=if a1 < 1 then (zY.j0 k l0 a1 l2 true) else (if a1 > 1000 then (zY.j0 k l0 a1 l2 true) else ((qg.f k l2).bind fun zz7=>(zY.j0 k l0 a1 l2 (!zz7))))
def zY.T13:Bool × List (List Nat × List Nat):=(true,[([],[]),([],[]),([1],[1]),([0,2],[0,2]),([3],[3]),([],[]),([5],[5]),([],[]),([4,6,7],[4,6,7]),([8],[8]),([9],[9]),([9],[9]),([10,8,0,1,2,3,4,5,6,7,8,9,10],[10]),([11,12,0,1,2,3,4,5,6,7,8,9,10,11,12],[11])])
def zY.B13:List Nat:=[0,0,2,7,15,0,32,0,255,511,1023,1023,2047,8191]
theorem zY.Xy:vZ .any (opsOf Tryz.f26 13) = zY.T13:=by kernel_rfl
theorem zY.Zr:vW zY.T13.2 zY.B13 = true:=by kernel_rfl
set_option maxHeartbeats 8000000 in
set_option maxRecDepth 100000 in
theorem zY.calls (k:Nat) (A0:Option Addr) (c0:Nat) (l0:List (qV)) (a1:Int) (A2:Option Addr) (c2:Nat) (l2:List (jr)) (r1:List (qV)) (r2:Int) (w:World) (hr0:Kd.C uj w A0 l0.length l0) (hc0:l0.length ≤ c0) (hr2:Kd.C bZ w A2 l2.length l2) (hc2:l2.length ≤ c2) (h:zY.f k l0 a1 l2 = some (r1,r2)) :
  Calls Tryz.prog 26 #[.slice A0 l0.length c0,.int .i64 a1,.slice A2 l2.length c2] w fun e w'=>∃ Q8:Value,e = .returned (.tuple #[Q8,.int .i64 r2]) ∧ Kd.S uj 53 w' w.heap.size (fun _=>True) Q8 r1 ∧ Below w.heap.size w w':=by
 have zeF:=Tryz.underlying53
 have lI:=Tryz.underlying101
 have jm:=zx.mk hr0
 have HC0:=zx.mk hc0
 clear hr0 hc0
 have HR2:=zx.mk hr2
 have HC2:=zx.mk hc2
 clear hr2 hc2
 have HB:=zx.mk (Below.refl w.heap.size w)
 have H:(if a1 < 1 then (zY.j0 k l0 a1 l2 true) else (if a1 > 1000 then (zY.j0 k l0 a1 l2 true) else ((qg.f k l2).bind fun zz7=>(zY.j0 k l0 a1 l2 (!zz7))))) = some (r1,r2):=h
 clear h
 have iQ:=zx.mk H
 clear H
 go_enter Tryz.func26,Tryz.ntmps26
 go_upto_region 1 with (fail)
 go_cut [23] (fun v23 wc=>∃ (kq:Nat) (zky:Bool),v23 = .bool zky ∧ zx (zY.j0 kq l0 a1 l2 zky = some (r1,r2)) ∧ zx (kq ≤ k) ∧ zx (Below w.heap.size w wc))
 case first =>
  have H:=iQ.out
  clear iQ
  by_cases c5:a1 < 1
  ·rw [if_pos c5] at H
   have wM:decide (a1 < 1) = true:=decide_eq_true c5
   clear c5
   (first | rw [wM] | (simp only [vv,vk];rw [wM]) | skip)
   have H':=zx.mk H
   clear H
   go_wp2
   go_meet
   case rel=>exact ⟨_,(true),(by first | rfl | (simp;done) | (simp [*];done)),H',⟨by first | omega | exact Nat.le_refl _⟩,⟨zD HB.out⟩⟩
  ·rw [if_neg c5] at H
   have wM:decide (a1 < 1) = false:=decide_eq_false c5
   clear c5
   (first | rw [wM] | (simp only [vv,vk];rw [wM]) | skip)
   by_cases c6:a1 > 1000
   ·rw [if_pos c6] at H
    have kD:decide (1000 < a1) = true:=decide_eq_true c6
    clear c6
    have H':=zx.mk H
    clear H
    go_wp2
    go_meet
    case rel=>exact ⟨_,(true),(by first | rfl | (simp;done) | (simp [*];done)),H',⟨by first | omega | exact Nat.le_refl _⟩,⟨zD HB.out⟩⟩
   ·rw [if_neg c6] at H
    have kD:decide (1000 < a1) = false:=decide_eq_false c6
    clear c6
    replace H:=Option.bind_eq_some_iff.mp H
    obtain ⟨zz7,eT,H⟩:=H
    replace H:(zY.j0 k l0 a1 l2 (!zz7)) = some (r1,r2):=H
    have A7:=zx.mk eT
    clear eT
    have H':=zx.mk H
    clear H
    go_wp2_with (first | (go_at_call 47;(with_reducible refine (qg.calls k _ _ l2 zz7 _ ?yh ?yD A7.out).mono ?_);(case yh=>exact qM (Kd.zh HR2.out HB.out));(case yD=>exact HC2.out);rintro e w8 ⟨rfl,hb⟩;have ze:=zx.mk (zu (zD HB.out) hb);clear HB;have HB:=ze;clear ze;(try clear hb);(try clear hk);(try clear hi)))
    go_meet
    case rel=>exact ⟨_,(!zz7),(by first | rfl | (simp;done) | (simp [*];done)),H',⟨by first | omega | exact Nat.le_refl _⟩,⟨zD HB.out⟩⟩
 case rest =>
  clear iQ
  try clear c2
  try clear c5
  try clear wM
  try clear c6
  try clear kD
  obtain ⟨kq,zky,rfl,HA,WA,HB⟩:=hcut
  cases kq with
  | zero=>exact absurd HA.out (by simp [zY.j0])
  | succ ZY =>
   have H:=HA.out
   clear HA
   simp only [zY.j0] at H
   by_cases c9:zky = true
   ·subst c9
    have H1:(some (([]:List (qV)),1)) = some (r1,r2):=by rw [if_pos rfl] at H;exact H
    clear H
    have H:=H1
    clear H1
    simp only [Option.some.injEq,Prod.mk.injEq] at H
    obtain ⟨rfl,rfl⟩:=H
    go_wp2
    go_ret2
    exact ⟨_,by first | rfl | (simp [zH,zI] <;> rfl) | (simp [*,zH,zI] <;> rfl),by first | exact Kd.Xo _ _ _ _ _ | exact Kd.WG _ _ _ _ _ | exact Kd.WH _ _ _ _ _ | exact Kd.WC _ _ _ _ _ | exact Kd.jC _ _ _ _ _,by repeat (first | (with_reducible first | exact HB.out | apply yJ | apply zC | apply yY) | exact HB.out)⟩
   ·replace c9:=Bool.eq_false_iff.mpr c9
    subst c9
    have H1:(zY.l0 ZY l0 a1 l2 ([]:List (qV)) 0) = some (r1,r2):=by rw [if_neg (show ¬ (false = true) by decide)] at H;exact H
    clear H
    have H:=H1
    clear H1
    have H':=zx.mk H
    clear H
    go_wp2
    go_loopg [8,9] ZY (fun kq v8 v9 w'=>∃ (uG:List (qV)) (zZ:Int),v9 = .int .i64 zZ ∧ zx (zY.l0 kq l0 a1 l2 uG zZ = some (r1,r2)) ∧ zx (kq ≤ ZY) ∧ zx (Kd.S uj 53 w' w.heap.size (fun _=>True) v8 uG) ∧ zx (Below w.heap.size w w'))
    case atStart=>exact ⟨(([]:List (qV))),(0),(by first | rfl | (simp;done) | (simp [*];done)),H',⟨Nat.le_refl _⟩,⟨by first | exact Kd.Xo _ _ _ _ _ | exact Kd.WG _ _ _ _ _ | exact Kd.WH _ _ _ _ _ | exact Kd.WC _ _ _ _ _ | exact Kd.jC _ _ _ _ _⟩,⟨zD HB.out⟩⟩
    case round =>
     clear H'
     try clear c2
     try clear c5
     try clear wM
     try clear c6
     try clear kD
     try clear c9
     obtain ⟨uG,zZ,rfl,HA,Qw,qN,HB⟩:=hrel
     cases gk with
     | zero=>exact absurd HA.out (by simp [zY.l0])
     | succ k2 =>
      have H:=HA.out
      clear HA
      simp only [zY.l0] at H
      by_cases c10:zZ < (l0.length:Int)
      ·rw [if_pos c10] at H
       have XY:decide (zZ < (l0.length:Int)) = true:=decide_eq_true c10
       clear c10
       by_cases c11:0 ≤ zZ
       ·rw [if_pos c11] at H
        have oz:decide (0 ≤ zZ) = true:=decide_eq_true c11
        clear c11
        have zWn:=zx.mk H
        clear H
        have zyA:0 ≤ (zZ:Int):=of_decide_eq_true yH
        have zyB:zZ < (l0.length:Int):=of_decide_eq_true yH
        obtain ⟨zup,xL,xM,zlC,sJ,sV,sK,sW,su,sD,sF,zXs,zXt⟩:=kQ jm.out zZ zyA zyB
        cases zlC
        replace sJ:=(HB.out.cell (World.block_lt_of_cell? w _ sJ)).trans sJ
        replace sV:=(HB.out.cell (World.block_lt_of_cell? w _ sV)).trans sV
        replace sK:=(HB.out.cell (World.block_lt_of_cell? w _ sK)).trans sK
        replace sW:=(HB.out.cell (World.block_lt_of_cell? w _ sW)).trans sW
        replace su:=(HB.out.cell (World.block_lt_of_cell? w _ su)).trans su
        replace sD:=(HB.out.cell (World.block_lt_of_cell? w _ sD)).trans sD
        replace sF:=(HB.out.cell (World.block_lt_of_cell? w _ sF)).trans sF
        have zvb:=zx.mk zXt
        have zoq:=zx.mk zXs
        clear zXt zXs
        replace zyA:=eq_true zyA
        replace zyB:=eq_true zyB
        go_upto_region 8 with (first | ((with_reducible refine qQ (N:=10) rfl ?_);(try (refine xO (by rfl) ?_;dsimp only));refine qC ?hg (N:=10) ?hd (cs:=#[.int .i64 0,.int .i64 0,.int .i64 0,.int .i64 0,.string (⟨#[]⟩:ByteArray),.string (⟨#[]⟩:ByteArray),.slice none 0 0]) (t:=53) ?hr ?_;(case hd=>rfl);(case hg=>rfl);(case hr=>first | (go_simp;done) | (go_simp;rfl));intro zf hg Zu qo hb;have ze:=zx.mk (Kd.jZ (Kd.zkb (fJ qN.out) zf (Nat.le_of_eq hg.symm)) hb);have zi:=zx.mk (zu (zD HB.out) hb);have zo:=zx.mk (qo);have zT:=zx.mk ((by rw [hg];exact (zm (zD HB.out)):w.heap.size ≤ zf));have qU:=zx.mk ((by rw [hg];exact (zm (zD HB.out)):w.heap.size ≤ zf));clear qN;clear HB;have qN:=ze;have HB:=zi;have zQ:=zo;have zur:=zT;have zJ5:=qU;clear ze zi zo zT qU;clear hb qo hg;have XA:Zu.cell? ⟨zf,0,none⟩ = some (.int .i64 0):=zK zQ 0;have Jf:Zu.cell? ⟨zf,1,none⟩ = some (.int .i64 0):=zK zQ 1;have Jg:Zu.cell? ⟨zf,2,none⟩ = some (.int .i64 0):=zK zQ 2;have Jh:Zu.cell? ⟨zf,3,none⟩ = some (.int .i64 0):=zK zQ 3;have Ji:Zu.cell? ⟨zf,4,none⟩ = some (.string (⟨#[]⟩:ByteArray)):=zK zQ 4;have Jl:Zu.cell? ⟨zf,5,none⟩ = some (.string (⟨#[]⟩:ByteArray)):=zK zQ 5;have nP:Zu.cell? ⟨zf,6,none⟩ = some (.slice none 0 0):=zK zQ 6;have XB:=zw zQ.out 0;have Jm:=zw zQ.out 1;have Jo:=zw zQ.out 2;have Jp:=zw zQ.out 3;have Jr:=zw zQ.out 4;have Js:=zw zQ.out 5;have nR:=zw zQ.out 6))
        (try simp only [Act.put,List.setIfInBounds_toArray,List.set_cons_zero,List.set_cons_succ])
        go_cut [41] (fun v41 wc=>∃ (kq:Nat) (zqR:Bool),v41 = .bool zqR ∧ zx (zY.j2 kq l0 a1 l2 uG zZ zqR ((zy l0 zZ).f0) ((zy l0 zZ).f1) ((zy l0 zZ).f2) ((zy l0 zZ).f3) ((zy l0 zZ).f4) ((zy l0 zZ).f5) ((zy l0 zZ).f6) = some (r1,r2)) ∧ zx (kq ≤ k2) ∧ zx (Kd.S uj 53 wc w.heap.size (fun k_=>k_ ≠ zf) u8 uG) ∧ zx (wc.heap[zf]? = some (.cells #[.int .i64 ((zy l0 zZ).f0),.int .i64 ((zy l0 zZ).f1),.int .i64 ((zy l0 zZ).f2),.int .i64 ((zy l0 zZ).f3),.string ((zy l0 zZ).f4),.string ((zy l0 zZ).f5),(.slice xL ((zy l0 zZ).f6).length xM)] 53 (0,0))) ∧ zx (Below w.heap.size w wc))
        case first =>
         have H:=zWn.out
         clear zWn
         by_cases c15:((zy l0 zZ).f0) = 0
         ·rw [if_pos c15] at H
          have WO:(((zy l0 zZ).f0) == 0) = true:=beq_iff_eq.mpr c15
          have zJ6:(((zy l0 zZ).f0) != 0) = false:=bne_eq_false_iff_eq.mpr c15
          clear c15
          (first | rw [WO] | (simp only [vv,vk];rw [WO]) | skip)
          have H':=zx.mk H
          clear H
          have Jt:Zu.cell? ⟨zf,0,none⟩ = some (.int .i64 0):=zK zQ 0
          have Ju:Zu.cell? ⟨zf,1,none⟩ = some (.int .i64 0):=zK zQ 1
          have JA:Zu.cell? ⟨zf,2,none⟩ = some (.int .i64 0):=zK zQ 2
          have JB:Zu.cell? ⟨zf,3,none⟩ = some (.int .i64 0):=zK zQ 3
          have JC:Zu.cell? ⟨zf,4,none⟩ = some (.string (⟨#[]⟩:ByteArray)):=zK zQ 4
          have JD:Zu.cell? ⟨zf,5,none⟩ = some (.string (⟨#[]⟩:ByteArray)):=zK zQ 5
          have nS:Zu.cell? ⟨zf,6,none⟩ = some (.slice none 0 0):=zK zQ 6
          have JE:=zw zQ.out 0
          have JF:=zw zQ.out 1
          have JG:=zw zQ.out 2
          have JH:=zw zQ.out 3
          have JI:=zw zQ.out 4
          have JL:=zw zQ.out 5
          have nT:=zw zQ.out 6
          go_wp2
          go_meet
          case rel=>exact ⟨_,(true),(by first | rfl | (simp;done) | (simp [*];done)),H',⟨by have:=WA.out;have:=Qw.out;first | omega | exact Nat.le_refl _⟩,⟨by (with_reducible repeat (first | apply Kd.xB | apply Kd.xC | apply Kd.xG));exact Kd.vJ (Kd.ji (p:=⟨zf,6,none⟩) (Kd.ji (p:=⟨zf,5,none⟩) (Kd.ji (p:=⟨zf,4,none⟩) (Kd.ji (p:=⟨zf,3,none⟩) (Kd.ji (p:=⟨zf,2,none⟩) (Kd.ji (p:=⟨zf,1,none⟩) (Kd.ji (p:=⟨zf,0,none⟩) (Kd.vJ qN.out (fun k_ hk=>(⟨hk,hk.2⟩:_ ∧ k_ ≠ zf))) (fun _ hk=>hk.2) (.int .i64 ((zy l0 zZ).f0))) (fun _ hk=>hk.2) (.int .i64 ((zy l0 zZ).f1))) (fun _ hk=>hk.2) (.int .i64 ((zy l0 zZ).f2))) (fun _ hk=>hk.2) (.int .i64 ((zy l0 zZ).f3))) (fun _ hk=>hk.2) (.string ((zy l0 zZ).f4))) (fun _ hk=>hk.2) (.string ((zy l0 zZ).f5))) (fun _ hk=>hk.2) (.slice xL ((zy l0 zZ).f6).length xM)) (fun _ hk=>hk.1.2)⟩,⟨by (with_reducible repeat (first | refine qj ?_ _ | refine y7 ?_ | refine yV ?_ _));refine qz (cs:=#[.int .i64 ((zy l0 zZ).f0),.int .i64 ((zy l0 zZ).f1),.int .i64 ((zy l0 zZ).f2),.int .i64 ((zy l0 zZ).f3),.string ((zy l0 zZ).f4),.string ((zy l0 zZ).f5),.slice none 0 0]) ?_ 6 _ rfl;(with_reducible repeat (first | refine qj ?_ _ | refine y7 ?_ | refine yV ?_ _));refine qz (cs:=#[.int .i64 ((zy l0 zZ).f0),.int .i64 ((zy l0 zZ).f1),.int .i64 ((zy l0 zZ).f2),.int .i64 ((zy l0 zZ).f3),.string ((zy l0 zZ).f4),.string (⟨#[]⟩:ByteArray),.slice none 0 0]) ?_ 5 _ rfl;(with_reducible repeat (first | refine qj ?_ _ | refine y7 ?_ | refine yV ?_ _));refine qz (cs:=#[.int .i64 ((zy l0 zZ).f0),.int .i64 ((zy l0 zZ).f1),.int .i64 ((zy l0 zZ).f2),.int .i64 ((zy l0 zZ).f3),.string (⟨#[]⟩:ByteArray),.string (⟨#[]⟩:ByteArray),.slice none 0 0]) ?_ 4 _ rfl;(with_reducible repeat (first | refine qj ?_ _ | refine y7 ?_ | refine yV ?_ _));refine qz (cs:=#[.int .i64 ((zy l0 zZ).f0),.int .i64 ((zy l0 zZ).f1),.int .i64 ((zy l0 zZ).f2),.int .i64 0,.string (⟨#[]⟩:ByteArray),.string (⟨#[]⟩:ByteArray),.slice none 0 0]) ?_ 3 _ rfl;(with_reducible repeat (first | refine qj ?_ _ | refine y7 ?_ | refine yV ?_ _));refine qz (cs:=#[.int .i64 ((zy l0 zZ).f0),.int .i64 ((zy l0 zZ).f1),.int .i64 0,.int .i64 0,.string (⟨#[]⟩:ByteArray),.string (⟨#[]⟩:ByteArray),.slice none 0 0]) ?_ 2 _ rfl;(with_reducible repeat (first | refine qj ?_ _ | refine y7 ?_ | refine yV ?_ _));refine qz (cs:=#[.int .i64 ((zy l0 zZ).f0),.int .i64 0,.int .i64 0,.int .i64 0,.string (⟨#[]⟩:ByteArray),.string (⟨#[]⟩:ByteArray),.slice none 0 0]) ?_ 1 _ rfl;(with_reducible repeat (first | refine qj ?_ _ | refine y7 ?_ | refine yV ?_ _));refine qz (cs:=#[.int .i64 0,.int .i64 0,.int .i64 0,.int .i64 0,.string (⟨#[]⟩:ByteArray),.string (⟨#[]⟩:ByteArray),.slice none 0 0]) ?_ 0 _ rfl;(with_reducible repeat (first | refine qj ?_ _ | refine y7 ?_ | refine yV ?_ _));exact zQ.out⟩,⟨zD HB.out⟩⟩
         ·rw [if_neg c15] at H
          have WO:(((zy l0 zZ).f0) == 0) = false:=beq_eq_false_iff_ne.mpr c15
          have zJ6:(((zy l0 zZ).f0) != 0) = true:=bne_iff_ne.mpr c15
          (first | rw [WO] | (simp only [vv,vk];rw [WO]) | skip)
          have H':=zx.mk H
          clear H
          have nU:Zu.cell? ⟨zf,0,none⟩ = some (.int .i64 0):=zK zQ 0
          have rz:Zu.cell? ⟨zf,1,none⟩ = some (.int .i64 0):=zK zQ 1
          have rZ:Zu.cell? ⟨zf,2,none⟩ = some (.int .i64 0):=zK zQ 2
          have rQ:Zu.cell? ⟨zf,3,none⟩ = some (.int .i64 0):=zK zQ 3
          have rX:Zu.cell? ⟨zf,4,none⟩ = some (.string (⟨#[]⟩:ByteArray)):=zK zQ 4
          have rJ:Zu.cell? ⟨zf,5,none⟩ = some (.string (⟨#[]⟩:ByteArray)):=zK zQ 5
          have rV:Zu.cell? ⟨zf,6,none⟩ = some (.slice none 0 0):=zK zQ 6
          have rY:=zw zQ.out 0
          have rW:=zw zQ.out 1
          have ru:=zw zQ.out 2
          have rA:=zw zQ.out 3
          have rD:=zw zQ.out 4
          have rE:=zw zQ.out 5
          have rF:=zw zQ.out 6
          go_wp2
          go_meet
          case rel=>exact ⟨_,((((zy l0 zZ).f0) == 1)),(by first | rfl | (simp;done) | (simp [*];done)),H',⟨by have:=WA.out;have:=Qw.out;first | omega | exact Nat.le_refl _⟩,⟨by (with_reducible repeat (first | apply Kd.xB | apply Kd.xC | apply Kd.xG));exact Kd.vJ (Kd.ji (p:=⟨zf,6,none⟩) (Kd.ji (p:=⟨zf,5,none⟩) (Kd.ji (p:=⟨zf,4,none⟩) (Kd.ji (p:=⟨zf,3,none⟩) (Kd.ji (p:=⟨zf,2,none⟩) (Kd.ji (p:=⟨zf,1,none⟩) (Kd.ji (p:=⟨zf,0,none⟩) (Kd.vJ qN.out (fun k_ hk=>(⟨hk,hk.2⟩:_ ∧ k_ ≠ zf))) (fun _ hk=>hk.2) (.int .i64 ((zy l0 zZ).f0))) (fun _ hk=>hk.2) (.int .i64 ((zy l0 zZ).f1))) (fun _ hk=>hk.2) (.int .i64 ((zy l0 zZ).f2))) (fun _ hk=>hk.2) (.int .i64 ((zy l0 zZ).f3))) (fun _ hk=>hk.2) (.string ((zy l0 zZ).f4))) (fun _ hk=>hk.2) (.string ((zy l0 zZ).f5))) (fun _ hk=>hk.2) (.slice xL ((zy l0 zZ).f6).length xM)) (fun _ hk=>hk.1.2)⟩,⟨by (with_reducible repeat (first | refine qj ?_ _ | refine y7 ?_ | refine yV ?_ _));refine qz (cs:=#[.int .i64 ((zy l0 zZ).f0),.int .i64 ((zy l0 zZ).f1),.int .i64 ((zy l0 zZ).f2),.int .i64 ((zy l0 zZ).f3),.string ((zy l0 zZ).f4),.string ((zy l0 zZ).f5),.slice none 0 0]) ?_ 6 _ rfl;(with_reducible repeat (first | refine qj ?_ _ | refine y7 ?_ | refine yV ?_ _));refine qz (cs:=#[.int .i64 ((zy l0 zZ).f0),.int .i64 ((zy l0 zZ).f1),.int .i64 ((zy l0 zZ).f2),.int .i64 ((zy l0 zZ).f3),.string ((zy l0 zZ).f4),.string (⟨#[]⟩:ByteArray),.slice none 0 0]) ?_ 5 _ rfl;(with_reducible repeat (first | refine qj ?_ _ | refine y7 ?_ | refine yV ?_ _));refine qz (cs:=#[.int .i64 ((zy l0 zZ).f0),.int .i64 ((zy l0 zZ).f1),.int .i64 ((zy l0 zZ).f2),.int .i64 ((zy l0 zZ).f3),.string (⟨#[]⟩:ByteArray),.string (⟨#[]⟩:ByteArray),.slice none 0 0]) ?_ 4 _ rfl;(with_reducible repeat (first | refine qj ?_ _ | refine y7 ?_ | refine yV ?_ _));refine qz (cs:=#[.int .i64 ((zy l0 zZ).f0),.int .i64 ((zy l0 zZ).f1),.int .i64 ((zy l0 zZ).f2),.int .i64 0,.string (⟨#[]⟩:ByteArray),.string (⟨#[]⟩:ByteArray),.slice none 0 0]) ?_ 3 _ rfl;(with_reducible repeat (first | refine qj ?_ _ | refine y7 ?_ | refine yV ?_ _));refine qz (cs:=#[.int .i64 ((zy l0 zZ).f0),.int .i64 ((zy l0 zZ).f1),.int .i64 0,.int .i64 0,.string (⟨#[]⟩:ByteArray),.string (⟨#[]⟩:ByteArray),.slice none 0 0]) ?_ 2 _ rfl;(with_reducible repeat (first | refine qj ?_ _ | refine y7 ?_ | refine yV ?_ _));refine qz (cs:=#[.int .i64 ((zy l0 zZ).f0),.int .i64 0,.int .i64 0,.int .i64 0,.string (⟨#[]⟩:ByteArray),.string (⟨#[]⟩:ByteArray),.slice none 0 0]) ?_ 1 _ rfl;(with_reducible repeat (first | refine qj ?_ _ | refine y7 ?_ | refine yV ?_ _));refine qz (cs:=#[.int .i64 0,.int .i64 0,.int .i64 0,.int .i64 0,.string (⟨#[]⟩:ByteArray),.string (⟨#[]⟩:ByteArray),.slice none 0 0]) ?_ 0 _ rfl;(with_reducible repeat (first | refine qj ?_ _ | refine y7 ?_ | refine yV ?_ _));exact zQ.out⟩,⟨zD HB.out⟩⟩
        case rest =>
         clear zWn
         try clear c2
         try clear c5
         try clear wM
         try clear c6
         try clear kD
         try clear c9
         try clear c10
         try clear XY
         try clear c11
         try clear oz
         try clear c15
         try clear WO
         try clear zJ6
         try clear XA
         try clear Jf
         try clear Jg
         try clear Jh
         try clear Ji
         try clear Jl
         try clear nP
         try clear Jt
         try clear Ju
         try clear JA
         try clear JB
         try clear JC
         try clear JD
         try clear nS
         try clear nU
         try clear rz
         try clear rZ
         try clear rQ
         try clear rX
         try clear rJ
         try clear rV
         try clear XB
         try clear Jm
         try clear Jo
         try clear Jp
         try clear Jr
         try clear Js
         try clear nR
         try clear JE
         try clear JF
         try clear JG
         try clear JH
         try clear JI
         try clear JL
         try clear nT
         try clear rY
         try clear rW
         try clear ru
         try clear rA
         try clear rD
         try clear rE
         try clear rF
         try clear sJ
         try clear sV
         try clear sK
         try clear sW
         try clear su
         try clear sD
         try clear sF
         try clear zyA
         try clear zyB
         obtain ⟨kq,zqR,rfl,HA,iR,qN,zQ,HB⟩:=hcut
         cases kq with
         | zero=>exact absurd HA.out (by simp [zY.j2])
         | succ iT =>
          have H:=HA.out
          clear HA
          simp only [zY.j2] at H
          by_cases c18:zqR = true
          ·subst c18
           have H1:(if ((zy l0 zZ).f2) < 0 then (zY.j3 iT l0 a1 l2 uG zZ true ((zy l0 zZ).f0) ((zy l0 zZ).f1) ((zy l0 zZ).f2) ((zy l0 zZ).f3) ((zy l0 zZ).f4) ((zy l0 zZ).f5) ((zy l0 zZ).f6)) else (zY.j3 iT l0 a1 l2 uG zZ (decide (((zy l0 zZ).f2) ≥ (l2.length:Int))) ((zy l0 zZ).f0) ((zy l0 zZ).f1) ((zy l0 zZ).f2) ((zy l0 zZ).f3) ((zy l0 zZ).f4) ((zy l0 zZ).f5) ((zy l0 zZ).f6))) = some (r1,r2):=by rw [if_pos rfl] at H;exact H
           clear H
           have H:=H1
           clear H1
           have zWo:=zx.mk H
           clear H
           go_upto_region 9 with (fail)
           go_cut [51] (fun v51 wc=>∃ (kq:Nat) (zqS:Bool),v51 = .bool zqS ∧ zx (zY.j3 kq l0 a1 l2 uG zZ zqS ((zy l0 zZ).f0) ((zy l0 zZ).f1) ((zy l0 zZ).f2) ((zy l0 zZ).f3) ((zy l0 zZ).f4) ((zy l0 zZ).f5) ((zy l0 zZ).f6) = some (r1,r2)) ∧ zx (kq ≤ iT) ∧ zx (Kd.S uj 53 wc w.heap.size (fun k_=>k_ ≠ zf) u8 uG) ∧ zx (wc.heap[zf]? = some (.cells #[.int .i64 ((zy l0 zZ).f0),.int .i64 ((zy l0 zZ).f1),.int .i64 ((zy l0 zZ).f2),.int .i64 ((zy l0 zZ).f3),.string ((zy l0 zZ).f4),.string ((zy l0 zZ).f5),(.slice xL ((zy l0 zZ).f6).length xM)] 53 (0,0))) ∧ zx (Below w.heap.size w wc))
           case first =>
            have H:=zWo.out
            clear zWo
            by_cases c20:((zy l0 zZ).f2) < 0
            ·rw [if_pos c20] at H
             have o8:decide (((zy l0 zZ).f2) < 0) = true:=decide_eq_true c20
             clear c20
             (first | rw [o8] | (simp only [vv,vk];rw [o8]) | skip)
             have H':=zx.mk H
             clear H
             have zcM:wc.cell? ⟨zf,0,none⟩ = some (.int .i64 ((zy l0 zZ).f0)):=zK zQ 0
             have zcN:wc.cell? ⟨zf,1,none⟩ = some (.int .i64 ((zy l0 zZ).f1)):=zK zQ 1
             have zcO:wc.cell? ⟨zf,2,none⟩ = some (.int .i64 ((zy l0 zZ).f2)):=zK zQ 2
             have zcP:wc.cell? ⟨zf,3,none⟩ = some (.int .i64 ((zy l0 zZ).f3)):=zK zQ 3
             have zcR:wc.cell? ⟨zf,4,none⟩ = some (.string ((zy l0 zZ).f4)):=zK zQ 4
             have zcS:wc.cell? ⟨zf,5,none⟩ = some (.string ((zy l0 zZ).f5)):=zK zQ 5
             have zcT:wc.cell? ⟨zf,6,none⟩ = some (.slice xL ((zy l0 zZ).f6).length xM):=zK zQ 6
             have zcU:=zw zQ.out 0
             have zc0:=zw zQ.out 1
             have zc1:=zw zQ.out 2
             have zc2:=zw zQ.out 3
             have zc3:=zw zQ.out 4
             have zc4:=zw zQ.out 5
             have zc5:=zw zQ.out 6
             go_wp2
             go_meet
             case rel=>exact ⟨_,(true),(by first | rfl | (simp;done) | (simp [*];done)),H',⟨by have:=WA.out;have:=Qw.out;have:=iR.out;first | omega | exact Nat.le_refl _⟩,⟨by (with_reducible repeat (first | apply Kd.xB | apply Kd.xC | apply Kd.xG));exact qN.out⟩,⟨qK zQ.out⟩,⟨zD HB.out⟩⟩
            ·rw [if_neg c20] at H
             have o8:decide (((zy l0 zZ).f2) < 0) = false:=decide_eq_false c20
             clear c20
             (first | rw [o8] | (simp only [vv,vk];rw [o8]) | skip)
             have H':=zx.mk H
             clear H
             have oq:wc.cell? ⟨zf,0,none⟩ = some (.int .i64 ((zy l0 zZ).f0)):=zK zQ 0
             have ow:wc.cell? ⟨zf,1,none⟩ = some (.int .i64 ((zy l0 zZ).f1)):=zK zQ 1
             have oZ:wc.cell? ⟨zf,2,none⟩ = some (.int .i64 ((zy l0 zZ).f2)):=zK zQ 2
             have oQ:wc.cell? ⟨zf,3,none⟩ = some (.int .i64 ((zy l0 zZ).f3)):=zK zQ 3
             have oJ:wc.cell? ⟨zf,4,none⟩ = some (.string ((zy l0 zZ).f4)):=zK zQ 4
             have oV:wc.cell? ⟨zf,5,none⟩ = some (.string ((zy l0 zZ).f5)):=zK zQ 5
             have oK:wc.cell? ⟨zf,6,none⟩ = some (.slice xL ((zy l0 zZ).f6).length xM):=zK zQ 6
             have oW:=zw zQ.out 0
             have oh:=zw zQ.out 1
             have om:=zw zQ.out 2
             have oo:=zw zQ.out 3
             have ou:=zw zQ.out 4
             have oC:=zw zQ.out 5
             have oD:=zw zQ.out 6
             go_wp2
             go_meet
             case rel=>exact ⟨_,(decide (((zy l0 zZ).f2) ≥ (l2.length:Int))),(by first | rfl | (simp;done) | (simp [*];done)),H',⟨by have:=WA.out;have:=Qw.out;have:=iR.out;first | omega | exact Nat.le_refl _⟩,⟨by (with_reducible repeat (first | apply Kd.xB | apply Kd.xC | apply Kd.xG));exact qN.out⟩,⟨qK zQ.out⟩,⟨zD HB.out⟩⟩
           case rest =>
            clear zWo
            try clear c2
            try clear c5
            try clear wM
            try clear c6
            try clear kD
            try clear c9
            try clear c10
            try clear XY
            try clear c11
            try clear oz
            try clear c15
            try clear WO
            try clear zJ6
            try clear c18
            try clear c20
            try clear o8
            try clear XA
            try clear Jf
            try clear Jg
            try clear Jh
            try clear Ji
            try clear Jl
            try clear nP
            try clear Jt
            try clear Ju
            try clear JA
            try clear JB
            try clear JC
            try clear JD
            try clear nS
            try clear nU
            try clear rz
            try clear rZ
            try clear rQ
            try clear rX
            try clear rJ
            try clear rV
            try clear zcM
            try clear zcN
            try clear zcO
            try clear zcP
            try clear zcR
            try clear zcS
            try clear zcT
            try clear oq
            try clear ow
            try clear oZ
            try clear oQ
            try clear oJ
            try clear oV
            try clear oK
            try clear XB
            try clear Jm
            try clear Jo
            try clear Jp
            try clear Jr
            try clear Js
            try clear nR
            try clear JE
            try clear JF
            try clear JG
            try clear JH
            try clear JI
            try clear JL
            try clear nT
            try clear rY
            try clear rW
            try clear ru
            try clear rA
            try clear rD
            try clear rE
            try clear rF
            try clear zcU
            try clear zc0
            try clear zc1
            try clear zc2
            try clear zc3
            try clear zc4
            try clear zc5
            try clear oW
            try clear oh
            try clear om
            try clear oo
            try clear ou
            try clear oC
            try clear oD
            try clear sJ
            try clear sV
            try clear sK
            try clear sW
            try clear su
            try clear sD
            try clear sF
            try clear zyA
            try clear zyB
            obtain ⟨kq,zqS,rfl,HA,zJ7,qN,zQ,HB⟩:=hcut
            cases kq with
            | zero=>exact absurd HA.out (by simp [zY.j3])
            | succ Xg =>
             have H:=HA.out
             clear HA
             simp only [zY.j3] at H
             by_cases c23:zqS = true
             ·subst c23
              have H1:(some (([]:List (qV)),1)) = some (r1,r2):=by rw [if_pos rfl] at H;exact H
              clear H
              have H:=H1
              clear H1
              simp only [Option.some.injEq,Prod.mk.injEq] at H
              obtain ⟨rfl,rfl⟩:=H
              go_wp2
              go_ret2
              exact ⟨_,by first | rfl | (simp [zH,zI] <;> rfl) | (simp [*,zH,zI] <;> rfl),by first | exact Kd.Xo _ _ _ _ _ | exact Kd.WG _ _ _ _ _ | exact Kd.WH _ _ _ _ _ | exact Kd.WC _ _ _ _ _ | exact Kd.jC _ _ _ _ _,by repeat (first | (with_reducible first | exact HB.out | apply yJ | apply zC | apply yY | refine qm ?_ zJ5.out) | exact HB.out)⟩
             ·replace c23:=Bool.eq_false_iff.mpr c23
              subst c23
              have H1:(if 0 ≤ ((zy l0 zZ).f2) then (if ((zy l0 zZ).f2) < (l2.length:Int) then ((vI.f ((zl l2 ((zy l0 zZ).f2)).f0) ((zl l2 ((zy l0 zZ).f2)).f1) ((zl l2 ((zy l0 zZ).f2)).f2) ((zl l2 ((zy l0 zZ).f2)).f3) ((zl l2 ((zy l0 zZ).f2)).f4) ((zl l2 ((zy l0 zZ).f2)).f5) a1).bind fun zqP=>(if ((zy l0 zZ).f0) = 0 then ((yL.f Xg ((zl l2 ((zy l0 zZ).f2)).f0) ((zl l2 ((zy l0 zZ).f2)).f1) ((zl l2 ((zy l0 zZ).f2)).f2) ((zl l2 ((zy l0 zZ).f2)).f3) ((zl l2 ((zy l0 zZ).f2)).f4) ((zl l2 ((zy l0 zZ).f2)).f5) ((zy l0 zZ).f4) a1).bind fun dR=>(if dR.2 = 0 then ((some (([]:List Int):List Int)).bind fun Xf=>(if Xf.length + ((zy l0 zZ).f6).length < 17592186044416 then (if uG.length < 1599289640401 then (zY.l0 Xg l0 a1 l2 (uG ++ [(⟨((zy l0 zZ).f0),dR.1,((zy l0 zZ).f2),a1,((zy l0 zZ).f4),((zy l0 zZ).f5),(Xf ++ ((zy l0 zZ).f6))⟩:qV)]) (wrap64 (zZ + 1))) else (none)) else (none))) else (some (([]:List (qV)),1)))) else (if zqP.2 = 0 then ((some (([]:List Int):List Int)).bind fun JQ=>(if JQ.length + ((zy l0 zZ).f6).length < 17592186044416 then (if uG.length < 1599289640401 then (zY.l0 Xg l0 a1 l2 (uG ++ [(⟨((zy l0 zZ).f0),zqP.1,((zy l0 zZ).f2),a1,((zy l0 zZ).f4),((zy l0 zZ).f5),(JQ ++ ((zy l0 zZ).f6))⟩:qV)]) (wrap64 (zZ + 1))) else (none)) else (none))) else (some (([]:List (qV)),1))))) else (none)) else (none)) = some (r1,r2):=by rw [if_neg (show ¬ (false = true) by decide)] at H;exact H
              clear H
              have H:=H1
              clear H1
              by_cases c24:0 ≤ ((zy l0 zZ).f2)
              ·rw [if_pos c24] at H
               have zkx:decide (0 ≤ ((zy l0 zZ).f2)) = true:=decide_eq_true c24
               clear c24
               by_cases c25:((zy l0 zZ).f2) < (l2.length:Int)
               ·rw [if_pos c25] at H
                have zus:decide (((zy l0 zZ).f2) < (l2.length:Int)) = true:=decide_eq_true c25
                clear c25
                replace H:=Option.bind_eq_some_iff.mp H
                obtain ⟨⟨Zh,gu⟩,zeP,H⟩:=H
                replace H:(if ((zy l0 zZ).f0) = 0 then ((yL.f Xg ((zl l2 ((zy l0 zZ).f2)).f0) ((zl l2 ((zy l0 zZ).f2)).f1) ((zl l2 ((zy l0 zZ).f2)).f2) ((zl l2 ((zy l0 zZ).f2)).f3) ((zl l2 ((zy l0 zZ).f2)).f4) ((zl l2 ((zy l0 zZ).f2)).f5) ((zy l0 zZ).f4) a1).bind fun dR=>(if dR.2 = 0 then ((some (([]:List Int):List Int)).bind fun Xf=>(if Xf.length + ((zy l0 zZ).f6).length < 17592186044416 then (if uG.length < 1599289640401 then (zY.l0 Xg l0 a1 l2 (uG ++ [(⟨((zy l0 zZ).f0),dR.1,((zy l0 zZ).f2),a1,((zy l0 zZ).f4),((zy l0 zZ).f5),(Xf ++ ((zy l0 zZ).f6))⟩:qV)]) (wrap64 (zZ + 1))) else (none)) else (none))) else (some (([]:List (qV)),1)))) else (if gu = 0 then ((some (([]:List Int):List Int)).bind fun JQ=>(if JQ.length + ((zy l0 zZ).f6).length < 17592186044416 then (if uG.length < 1599289640401 then (zY.l0 Xg l0 a1 l2 (uG ++ [(⟨((zy l0 zZ).f0),Zh,((zy l0 zZ).f2),a1,((zy l0 zZ).f4),((zy l0 zZ).f5),(JQ ++ ((zy l0 zZ).f6))⟩:qV)]) (wrap64 (zZ + 1))) else (none)) else (none))) else (some (([]:List (qV)),1)))) = some (r1,r2):=H
                have A26:=zx.mk zeP
                clear zeP
                by_cases c27:((zy l0 zZ).f0) = 0
                ·rw [if_pos c27] at H
                 have zhi:(((zy l0 zZ).f0) == 0) = true:=beq_iff_eq.mpr c27
                 have zhl:(((zy l0 zZ).f0) != 0) = false:=bne_eq_false_iff_eq.mpr c27
                 clear c27
                 replace H:=Option.bind_eq_some_iff.mp H
                 obtain ⟨⟨Yy,iU⟩,zeR,H⟩:=H
                 replace H:(if iU = 0 then ((some (([]:List Int):List Int)).bind fun Xf=>(if Xf.length + ((zy l0 zZ).f6).length < 17592186044416 then (if uG.length < 1599289640401 then (zY.l0 Xg l0 a1 l2 (uG ++ [(⟨((zy l0 zZ).f0),Yy,((zy l0 zZ).f2),a1,((zy l0 zZ).f4),((zy l0 zZ).f5),(Xf ++ ((zy l0 zZ).f6))⟩:qV)]) (wrap64 (zZ + 1))) else (none)) else (none))) else (some (([]:List (qV)),1))) = some (r1,r2):=H
                 have A28:=zx.mk zeR
                 clear zeR
                 by_cases c29:iU = 0
                 ·rw [if_pos c29] at H
                  have zhm:(iU == 0) = true:=beq_iff_eq.mpr c29
                  have zhn:(iU != 0) = false:=bne_eq_false_iff_eq.mpr c29
                  clear c29
                  obtain ⟨Xf,zqT⟩:∃ y_:List Int,y_ = (([]:List Int)):=⟨_,rfl⟩
                  replace H:(if Xf.length + ((zy l0 zZ).f6).length < 17592186044416 then (if uG.length < 1599289640401 then (zY.l0 Xg l0 a1 l2 (uG ++ [(⟨((zy l0 zZ).f0),Yy,((zy l0 zZ).f2),a1,((zy l0 zZ).f4),((zy l0 zZ).f5),(Xf ++ ((zy l0 zZ).f6))⟩:qV)]) (wrap64 (zZ + 1))) else (none)) else (none)) = some (r1,r2):=by first | (rw [zqT];with_reducible exact H) | (have uh:=(Option.bind_some _ _).symm.trans H;rw [zqT];with_reducible exact uh) | (have uh:=(Option.bind_some _ _).symm.trans H;with_reducible exact uh) | with_reducible exact H | (rw [zqT];exact H) | exact H
                  have zad:=zx.mk zqT
                  clear zqT
                  by_cases c30:Xf.length + ((zy l0 zZ).f6).length < 17592186044416
                  ·rw [if_pos c30] at H
                   have zho:=zx.mk c30
                   clear c30
                   obtain ⟨Qc,zqU⟩:∃ y_:List Int,y_ = (Xf ++ ((zy l0 zZ).f6)):=⟨_,rfl⟩
                   replace H:(if uG.length < 1599289640401 then (zY.l0 Xg l0 a1 l2 (uG ++ [(⟨((zy l0 zZ).f0),Yy,((zy l0 zZ).f2),a1,((zy l0 zZ).f4),((zy l0 zZ).f5),Qc⟩:qV)]) (wrap64 (zZ + 1))) else (none)) = some (r1,r2):=by first | (rw [zqU];with_reducible exact H) | (have uh:=(Option.bind_some _ _).symm.trans H;rw [zqU];with_reducible exact uh) | (have uh:=(Option.bind_some _ _).symm.trans H;with_reducible exact uh) | with_reducible exact H | (rw [zqU];exact H) | exact H
                   have zhp:=zx.mk zqU
                   clear zqU
                   by_cases c31:uG.length < 1599289640401
                   ·rw [if_pos c31] at H
                    have zhr:=zx.mk c31
                    clear c31
                    obtain ⟨zeS,zq0⟩:∃ y_:List (qV),y_ = (uG ++ [(⟨((zy l0 zZ).f0),Yy,((zy l0 zZ).f2),a1,((zy l0 zZ).f4),((zy l0 zZ).f5),Qc⟩:qV)]):=⟨_,rfl⟩
                    replace H:(zY.l0 Xg l0 a1 l2 zeS (wrap64 (zZ + 1))) = some (r1,r2):=by first | (rw [zq0];with_reducible exact H) | (have uh:=(Option.bind_some _ _).symm.trans H;rw [zq0];with_reducible exact uh) | (have uh:=(Option.bind_some _ _).symm.trans H;with_reducible exact uh) | with_reducible exact H | (rw [zq0];exact H) | exact H
                    have zhs:=zx.mk zq0
                    clear zq0
                    have H':=zx.mk H
                    clear H
                    have oF:wc.cell? ⟨zf,0,none⟩ = some (.int .i64 ((zy l0 zZ).f0)):=zK zQ 0
                    have zj3:wc.cell? ⟨zf,1,none⟩ = some (.int .i64 ((zy l0 zZ).f1)):=zK zQ 1
                    have zj4:wc.cell? ⟨zf,2,none⟩ = some (.int .i64 ((zy l0 zZ).f2)):=zK zQ 2
                    have zj5:wc.cell? ⟨zf,3,none⟩ = some (.int .i64 ((zy l0 zZ).f3)):=zK zQ 3
                    have zj6:wc.cell? ⟨zf,4,none⟩ = some (.string ((zy l0 zZ).f4)):=zK zQ 4
                    have zj7:wc.cell? ⟨zf,5,none⟩ = some (.string ((zy l0 zZ).f5)):=zK zQ 5
                    have zj8:wc.cell? ⟨zf,6,none⟩ = some (.slice xL ((zy l0 zZ).f6).length xM):=zK zQ 6
                    have oG:=zw zQ.out 0
                    have zj9:=zw zQ.out 1
                    have zvz:=zw zQ.out 2
                    have zvq:=zw zQ.out 3
                    have zvx:=zw zQ.out 4
                    have zvj:=zw zQ.out 5
                    have zvv:=zw zQ.out 6
                    have QH:0 ≤ (((zy l0 zZ).f2):Int):=of_decide_eq_true yH
                    have QI:((zy l0 zZ).f2) < (l2.length:Int):=of_decide_eq_true yH
                    obtain ⟨kZ,bG,bH,bI,bL,bM,bN,zz8,wN,wO,wP,wR,wS,wT,Yw,YZ,YQ,YX,YJ,YV⟩:=Q7 HR2.out ((zy l0 zZ).f2) QH QI
                    cases zz8
                    replace wN:=(HB.out.cell (World.block_lt_of_cell? w _ wN)).trans wN
                    replace wO:=(HB.out.cell (World.block_lt_of_cell? w _ wO)).trans wO
                    replace wP:=(HB.out.cell (World.block_lt_of_cell? w _ wP)).trans wP
                    replace wR:=(HB.out.cell (World.block_lt_of_cell? w _ wR)).trans wR
                    replace wS:=(HB.out.cell (World.block_lt_of_cell? w _ wS)).trans wS
                    replace wT:=(HB.out.cell (World.block_lt_of_cell? w _ wT)).trans wT
                    have KM:=zx.mk YZ
                    have KN:=zx.mk Yw
                    clear YZ Yw
                    have KO:=zx.mk YX
                    have KP:=zx.mk YQ
                    clear YX YQ
                    have KR:=zx.mk YV
                    have KS:=zx.mk YJ
                    clear YV YJ
                    replace QH:=eq_true QH
                    replace QI:=eq_true QI
                    try go_wp2_with (first | ((with_reducible refine yx (f:=70) rfl ?_);refine uD (some 59) Tryz.func70 #[.agg #[.string ((zl l2 ((zy l0 zZ).f2)).f0),.bool ((zl l2 ((zy l0 zZ).f2)).f1),.int .i64 ((zl l2 ((zy l0 zZ).f2)).f2),.slice bG ((zl l2 ((zy l0 zZ).f2)).f3).length bH,.slice bI ((zl l2 ((zy l0 zZ).f2)).f4).length bL,.slice bM ((zl l2 ((zy l0 zZ).f2)).f5).length bN],.int .i64 a1] ?_;(with_reducible refine (vI.calls ((zl l2 ((zy l0 zZ).f2)).f0) ((zl l2 ((zy l0 zZ).f2)).f1) ((zl l2 ((zy l0 zZ).f2)).f2) _ _ ((zl l2 ((zy l0 zZ).f2)).f3) _ _ ((zl l2 ((zy l0 zZ).f2)).f4) _ _ ((zl l2 ((zy l0 zZ).f2)).f5) a1 Zh gu _ ?yh ?yD ?qX ?qJ ?qR ?xg A26.out).mono ?_);(case yh=>exact qM (Kd.zh KM.out HB.out));(case yD=>exact KN.out);(case qX=>exact qM (Kd.zh KO.out HB.out));(case qJ=>exact KP.out);(case qR=>exact qM (Kd.zh KR.out HB.out));(case xg=>exact KS.out);rintro e w33 ⟨rfl,hb⟩;refine ⟨_,rfl,?_⟩;have ze:=zx.mk (Kd.jZ (fJ qN.out) hb);have zi:=zx.mk (zM (g:=zf) (o:=.cells #[.int .i64 ((zy l0 zZ).f0),.int .i64 ((zy l0 zZ).f1),.int .i64 ((zy l0 zZ).f2),.int .i64 ((zy l0 zZ).f3),.string ((zy l0 zZ).f4),.string ((zy l0 zZ).f5),.slice xL ((zy l0 zZ).f6).length xM] 53 (0,0)) (qK zQ.out) hb);have zo:=zx.mk (zu (zD HB.out) hb);clear qN;clear zQ;clear HB;have qN:=ze;have zQ:=zi;have HB:=zo;clear ze zi zo;(try clear hb);(try clear hk);have zox:w33.cell? ⟨zf,0,none⟩ = some (.int .i64 ((zy l0 zZ).f0)):=zK zQ 0;have zoj:w33.cell? ⟨zf,1,none⟩ = some (.int .i64 ((zy l0 zZ).f1)):=zK zQ 1;have zov:w33.cell? ⟨zf,2,none⟩ = some (.int .i64 ((zy l0 zZ).f2)):=zK zQ 2;have zok:w33.cell? ⟨zf,3,none⟩ = some (.int .i64 ((zy l0 zZ).f3)):=zK zQ 3;have zoy:w33.cell? ⟨zf,4,none⟩ = some (.string ((zy l0 zZ).f4)):=zK zQ 4;have zow:w33.cell? ⟨zf,5,none⟩ = some (.string ((zy l0 zZ).f5)):=zK zQ 5;have zoZ:w33.cell? ⟨zf,6,none⟩ = some (.slice xL ((zy l0 zZ).f6).length xM):=zK zQ 6;have zoQ:=zw zQ.out 0;have zoX:=zw zQ.out 1;have zoJ:=zw zQ.out 2;have zoV:=zw zQ.out 3;have zoK:=zw zQ.out 4;have zoY:=zw zQ.out 5;have zoW:=zw zQ.out 6))
                    have ze:=zx.mk (Kd.xG qN.out)
                    have zi:=zx.mk (y7 zQ.out)
                    have zo:=zx.mk (yY HB.out)
                    clear qN zQ HB
                    have qN:=ze
                    have zQ:=zi
                    have HB:=zo
                    clear ze zi zo
                    have zz9:0 ≤ (((zy l0 zZ).f2):Int):=of_decide_eq_true yH
                    have zqz:((zy l0 zZ).f2) < (l2.length:Int):=of_decide_eq_true yH
                    obtain ⟨zJ8,lq,lZ,lQ,lX,lJ,lV,zWp,YK,YW,Ya,Yb,Yc,Yd,sG,sH,sI,sM,sN,sO⟩:=Q7 HR2.out ((zy l0 zZ).f2) zz9 zqz
                    have Qz:=Yd
                    have Qq:=Yc
                    have Qx:=Yb
                    have Qj:=Ya
                    have Qv:=YW
                    have Qk:=YK
                    obtain rfl:kZ = zJ8:=(by injection zWp)
                    replace YK:=(HB.out.cell (World.block_lt_of_cell? w _ YK)).trans YK
                    replace YW:=(HB.out.cell (World.block_lt_of_cell? w _ YW)).trans YW
                    replace Ya:=(HB.out.cell (World.block_lt_of_cell? w _ Ya)).trans Ya
                    replace Yb:=(HB.out.cell (World.block_lt_of_cell? w _ Yb)).trans Yb
                    replace Yc:=(HB.out.cell (World.block_lt_of_cell? w _ Yc)).trans Yc
                    replace Yd:=(HB.out.cell (World.block_lt_of_cell? w _ Yd)).trans Yd
                    have sP:=zx.mk sH
                    have zvc:=zx.mk sG
                    clear sH sG
                    have sS:=zx.mk sM
                    have zvd:=zx.mk sI
                    clear sM sI
                    have sU:=zx.mk sO
                    have zve:=zx.mk sN
                    clear sO sN
                    replace zz9:=eq_true zz9
                    replace zqz:=eq_true zqz
                    refine Zq (n:=14) (S:=fun w'=>w'.cell? ⟨zf,0,none⟩ = some (.int .i64 ((zy l0 zZ).f0)) ∧ w'.cell? ⟨zf,1,none⟩ = some (.int .i64 ((zy l0 zZ).f1)) ∧ w'.cell? ⟨zf,2,none⟩ = some (.int .i64 ((zy l0 zZ).f2)) ∧ w'.cell? ⟨zf,3,none⟩ = some (.int .i64 ((zy l0 zZ).f3)) ∧ w'.cell? ⟨zf,4,none⟩ = some (.string ((zy l0 zZ).f4)) ∧ w'.cell? ⟨zf,5,none⟩ = some (.string ((zy l0 zZ).f5)) ∧ w'.cell? ⟨zf,6,none⟩ = some (.slice xL ((zy l0 zZ).f6).length xM) ∧ w'.cell? (kZ.add ((((zy l0 zZ).f2)).toNat * 6)) = some (.string ((zl l2 ((zy l0 zZ).f2)).f0)) ∧ w'.cell? ⟨(kZ.add ((((zy l0 zZ).f2)).toNat * 6)).block,(kZ.add ((((zy l0 zZ).f2)).toNat * 6)).off + 1,none⟩ = some (.bool ((zl l2 ((zy l0 zZ).f2)).f1)) ∧ w'.cell? ⟨(kZ.add ((((zy l0 zZ).f2)).toNat * 6)).block,(kZ.add ((((zy l0 zZ).f2)).toNat * 6)).off + 2,none⟩ = some (.int .i64 ((zl l2 ((zy l0 zZ).f2)).f2)) ∧ w'.cell? ⟨(kZ.add ((((zy l0 zZ).f2)).toNat * 6)).block,(kZ.add ((((zy l0 zZ).f2)).toNat * 6)).off + 3,none⟩ = some (.slice lq ((zl l2 ((zy l0 zZ).f2)).f3).length lZ) ∧ w'.cell? ⟨(kZ.add ((((zy l0 zZ).f2)).toNat * 6)).block,(kZ.add ((((zy l0 zZ).f2)).toNat * 6)).off + 4,none⟩ = some (.slice lQ ((zl l2 ((zy l0 zZ).f2)).f4).length lX) ∧ w'.cell? ⟨(kZ.add ((((zy l0 zZ).f2)).toNat * 6)).block,(kZ.add ((((zy l0 zZ).f2)).toNat * 6)).off + 5,none⟩ = some (.slice lJ ((zl l2 ((zy l0 zZ).f2)).f5).length lV)) (ds:=[]) #[false,false,false,false,false,false,false,false,false,false,false,false,false,false] (by kernel_rfl) rfl rfl ⟨zK zQ 0,zK zQ 1,zK zQ 2,zK zQ 3,zK zQ 4,zK zQ 5,zK zQ 6,((HB.out.cell (World.block_lt_of_cell? w _ Qk)).trans Qk),((HB.out.cell (World.block_lt_of_cell? w _ Qv)).trans Qv),((HB.out.cell (World.block_lt_of_cell? w _ Qj)).trans Qj),((HB.out.cell (World.block_lt_of_cell? w _ Qx)).trans Qx),((HB.out.cell (World.block_lt_of_cell? w _ Qq)).trans Qq),((HB.out.cell (World.block_lt_of_cell? w _ Qz)).trans Qz)⟩ (fun hHeld=>?_);refine Yh zY.Xy zY.Zr (fun yX wY=>?_)
                    generalize w33.drew = w35 at qN zQ HB sP sS sU YK YW Ya Yb Yc Yd hHeld ⊢
                    refine q9 0 (some 66) yX ?_
                    refine q9 1 (some 67) yX ?_
                    refine q9 5 (some 71) yX ?_
                    refine q9 7 (some 73) yX ?_
                    refine ZI 2 (some 68) yX wY hHeld ?_
                    refine q9 3 (some 69) yX ?_
                    refine ZI 4 (some 70) yX wY hHeld ?_
                    refine ZI 6 (some 72) yX wY hHeld ?_
                    refine onS 8 (some 74) yX (fun K hK=>?_)
                    refine tK Tryz.func71 (by kernel_rfl) rfl #[.agg #[.string ((zl l2 ((zy l0 zZ).f2)).f0),.bool ((zl l2 ((zy l0 zZ).f2)).f1),.int .i64 ((zl l2 ((zy l0 zZ).f2)).f2),.slice lq ((zl l2 ((zy l0 zZ).f2)).f3).length lZ,.slice lQ ((zl l2 ((zy l0 zZ).f2)).f4).length lX,.slice lJ ((zl l2 ((zy l0 zZ).f2)).f5).length lV],.string ((zy l0 zZ).f4),.int .i64 a1] (by rfl) rfl rfl (by (try simp only [List.map_toArray,List.map_cons,List.map_nil]);first | done | rfl | (simp only [List.length_drop,List.length_take];rfl)) ?_
                    with_reducible refine (yL.calls Xg ((zl l2 ((zy l0 zZ).f2)).f0) ((zl l2 ((zy l0 zZ).f2)).f1) ((zl l2 ((zy l0 zZ).f2)).f2) _ _ ((zl l2 ((zy l0 zZ).f2)).f3) _ _ ((zl l2 ((zy l0 zZ).f2)).f4) _ _ ((zl l2 ((zy l0 zZ).f2)).f5) ((zy l0 zZ).f4) a1 Yy iU _ ?yh ?yD ?qX ?qJ ?qR ?xg A28.out).mono ?_
                    (case yh=>exact qM (Kd.zh sP.out HB.out))
                    (case yD=>exact zvc.out)
                    (case qX=>exact qM (Kd.zh sS.out HB.out))
                    (case qJ=>exact zvd.out)
                    (case qR=>exact qM (Kd.zh sU.out HB.out))
                    (case xg=>exact zve.out)
                    rintro e w36 ⟨rfl,hb⟩
                    refine ⟨_,rfl,?_⟩
                    have ze:=zx.mk (Kd.jZ (fJ qN.out) hb)
                    have zi:=zx.mk (zM (g:=zf) (o:=.cells #[.int .i64 ((zy l0 zZ).f0),.int .i64 ((zy l0 zZ).f1),.int .i64 ((zy l0 zZ).f2),.int .i64 ((zy l0 zZ).f3),.string ((zy l0 zZ).f4),.string ((zy l0 zZ).f5),.slice xL ((zy l0 zZ).f6).length xM] 53 (0,0)) (qK zQ.out) hb)
                    have zo:=zx.mk (zu (zD HB.out) hb)
                    clear qN zQ HB
                    have qN:=ze
                    have zQ:=zi
                    have HB:=zo
                    clear ze zi zo
                    (try clear hb)
                    (try clear hk)
                    refine hK.out _ _ ⟨zK zQ 0,zK zQ 1,zK zQ 2,zK zQ 3,zK zQ 4,zK zQ 5,zK zQ 6,((HB.out.cell (World.block_lt_of_cell? w _ Qk)).trans Qk),((HB.out.cell (World.block_lt_of_cell? w _ Qv)).trans Qv),((HB.out.cell (World.block_lt_of_cell? w _ Qj)).trans Qj),((HB.out.cell (World.block_lt_of_cell? w _ Qx)).trans Qx),((HB.out.cell (World.block_lt_of_cell? w _ Qq)).trans Qq),((HB.out.cell (World.block_lt_of_cell? w _ Qz)).trans Qz)⟩ (fun hHeld=>?_)
                    clear hK K
                    refine noS (some 74) ?_
                    refine q9 9 (some 65) yX ?_
                    refine q9 10 (some 75) yX ?_
                    refine q9 11 (some 76) yX ?_
                    refine q9 12 (some 11) yX ?_
                    refine q9 13 (some 12) yX ?_
                    refine xE (qW yX.out (by kernel_rfl)) ?_
                    have zoa:w36.cell? ⟨zf,0,none⟩ = some (.int .i64 ((zy l0 zZ).f0)):=zK zQ 0
                    have zob:w36.cell? ⟨zf,1,none⟩ = some (.int .i64 ((zy l0 zZ).f1)):=zK zQ 1
                    have zoc:w36.cell? ⟨zf,2,none⟩ = some (.int .i64 ((zy l0 zZ).f2)):=zK zQ 2
                    have zod:w36.cell? ⟨zf,3,none⟩ = some (.int .i64 ((zy l0 zZ).f3)):=zK zQ 3
                    have zoe:w36.cell? ⟨zf,4,none⟩ = some (.string ((zy l0 zZ).f4)):=zK zQ 4
                    have zof:w36.cell? ⟨zf,5,none⟩ = some (.string ((zy l0 zZ).f5)):=zK zQ 5
                    have zog:w36.cell? ⟨zf,6,none⟩ = some (.slice xL ((zy l0 zZ).f6).length xM):=zK zQ 6
                    have zoh:=zw zQ.out 0
                    have zoi:=zw zQ.out 1
                    have zol:=zw zQ.out 2
                    have zom:=zw zQ.out 3
                    have zon:=zw zQ.out 4
                    have zoo:=zw zQ.out 5
                    have zop:=zw zQ.out 6
                    try go_wp2_with (first | ((with_reducible refine qQ (N:=83) rfl ?_);(try (refine xO (by rfl) ?_;dsimp only));refine Kd.U8 (Kd.int .i64) _ 3 ?hg (N:=83) ?hd (xs:=([]:List Int)) (inner:=[]) (ok:=fun _=>True) (vR:=fun _=>True) ?hr ?hp (fun _ hk=>hk) trivial (Below.refl _ _) (Nat.le_refl _) (by simp) ?_;(case hd=>rfl);(case hg=>rfl);(case hr=>first | (go_simp;done) | (go_simp;rfl));(case hp=>exact (qY.none _ _));intro zlD w38 zvf hb bX Yp;clear bX Yp;(first | rw [← zad.out] at zvf | (simp only [Int.reduceToNat] at zvf;rw [← zad.out] at zvf));have ze:=zx.mk (Kd.zzf (by (with_reducible repeat (first | apply Kd.xB | apply Kd.xC | apply Kd.xG));exact (Kd.vJ (Kd.ji (p:=⟨zf,3,none⟩) (Kd.ji (p:=⟨zf,1,none⟩) (Kd.vJ qN.out (fun k_ hk=>(⟨hk,hk⟩:_ ∧ k_ ≠ zf))) (fun _ hk=>hk.2) (.int .i64 Yy)) (fun _ hk=>hk.2) (.int .i64 a1)) (fun _ h_=>h_.1))) (Kd.Qg zvf) hb);have zi:=zx.mk (Kd.uT zvf (zm (zD HB.out)));have zo:=zx.mk (zM (g:=zf) (o:=.cells #[.int .i64 ((zy l0 zZ).f0),.int .i64 Yy,.int .i64 ((zy l0 zZ).f2),.int .i64 a1,.string ((zy l0 zZ).f4),.string ((zy l0 zZ).f5),.slice xL ((zy l0 zZ).f6).length xM] 53 (0,0)) (by (with_reducible repeat (first | refine qj ?_ _ | refine y7 ?_ | refine yV ?_ _));refine qz (cs:=#[.int .i64 ((zy l0 zZ).f0),.int .i64 Yy,.int .i64 ((zy l0 zZ).f2),.int .i64 ((zy l0 zZ).f3),.string ((zy l0 zZ).f4),.string ((zy l0 zZ).f5),.slice xL ((zy l0 zZ).f6).length xM]) ?_ 3 _ rfl;(with_reducible repeat (first | refine qj ?_ _ | refine y7 ?_ | refine yV ?_ _));refine qz (cs:=#[.int .i64 ((zy l0 zZ).f0),.int .i64 ((zy l0 zZ).f1),.int .i64 ((zy l0 zZ).f2),.int .i64 ((zy l0 zZ).f3),.string ((zy l0 zZ).f4),.string ((zy l0 zZ).f5),.slice xL ((zy l0 zZ).f6).length xM]) ?_ 1 _ rfl;(with_reducible repeat (first | refine qj ?_ _ | refine y7 ?_ | refine yV ?_ _));exact zQ.out) hb);have zT:=zx.mk (zu (zD HB.out) hb);clear qN;clear zQ;clear HB;have qN:=ze;have zJ9:=zi;have zQ:=zo;have HB:=zT;clear ze zi zo zT;clear hb zvf;have zZi:w38.cell? ⟨zf,0,none⟩ = some (.int .i64 ((zy l0 zZ).f0)):=zK zQ 0;have zZl:w38.cell? ⟨zf,1,none⟩ = some (.int .i64 Yy):=zK zQ 1;have zZm:w38.cell? ⟨zf,2,none⟩ = some (.int .i64 ((zy l0 zZ).f2)):=zK zQ 2;have zZn:w38.cell? ⟨zf,3,none⟩ = some (.int .i64 a1):=zK zQ 3;have zZo:w38.cell? ⟨zf,4,none⟩ = some (.string ((zy l0 zZ).f4)):=zK zQ 4;have zZp:w38.cell? ⟨zf,5,none⟩ = some (.string ((zy l0 zZ).f5)):=zK zQ 5;have zcv:w38.cell? ⟨zf,6,none⟩ = some (.slice xL ((zy l0 zZ).f6).length xM):=zK zQ 6;have zZr:=zw zQ.out 0;have zZs:=zw zQ.out 1;have zZt:=zw zQ.out 2;have zZu:=zw zQ.out 3;have zZA:=zw zQ.out 4;have zZB:=zw zQ.out 5;have zck:=zw zQ.out 6) | ((with_reducible refine jG (b:=.append) (xs:=#[.tmp 83,.tmp 85]) rfl ?_);(try (refine xO (by rfl) ?_;dsimp only));at_builtin;refine Kd.YE (Kd.int .i64) (w0:=w) w.heap.size rfl (.tmp 83) (.tmp 85) 51 3 (.int .i64 0) 8 rfl Tryz.underlying51 info3 rfl (by decide) (by omega) zlD Xf ((zy l0 zZ).f6) _ _ _ (fun _=>True) (fun _=>False) rfl rfl ?aO ?aR (fun _ _ h=>h) (fun _ h=>h.elim) ?aF ?aB ?aS ?aL ?_;(case aR=>repeat (first | exact (Kd.zh zvb.out HB.out) | (with_reducible refine Kd.lu ?_ _) | (with_reducible refine Kd.lC ?_ _) | (with_reducible refine Kd.zqw ?_)));(case aB=>exact (zD HB.out));(case aF=>exact (fun _ _=>trivial));(case aO=>exact (Yl zJ9.out));(case aS=>exact (zm (zD HB.out)));(case aL=>have:=zho.out;omega);intro zAQ w41 ho hb hg hat;rw [← zhp.out] at ho;have ze:=zx.mk (Kd.WT (ok:=(fun k_=>k_ ≠ zf)) (fJ qN.out) hg hat);have zi:=zx.mk (uK (g:=zf) (o:=.cells #[.int .i64 ((zy l0 zZ).f0),.int .i64 Yy,.int .i64 ((zy l0 zZ).f2),.int .i64 a1,.string ((zy l0 zZ).f4),.string ((zy l0 zZ).f5),.slice xL ((zy l0 zZ).f6).length xM] 53 (0,0)) (qK zQ.out) hg (Kd.Qu zJ9.out zQ.out (by decide)));have zo:=zx.mk (hb);have zT:=zx.mk (ho);clear qN;clear zQ;clear HB;clear zJ9;have qN:=ze;have zQ:=zi;have HB:=zo;have aC:=zT;clear ze zi zo zT;clear ho hb hg hat;obtain ⟨QY,QW,zYp⟩:=Kd.xA aC.out;subst zYp;have zcZ:w41.cell? ⟨zf,0,none⟩ = some (.int .i64 ((zy l0 zZ).f0)):=zK zQ 0;have zcQ:w41.cell? ⟨zf,1,none⟩ = some (.int .i64 Yy):=zK zQ 1;have zcX:w41.cell? ⟨zf,2,none⟩ = some (.int .i64 ((zy l0 zZ).f2)):=zK zQ 2;have zcJ:w41.cell? ⟨zf,3,none⟩ = some (.int .i64 a1):=zK zQ 3;have zcV:w41.cell? ⟨zf,4,none⟩ = some (.string ((zy l0 zZ).f4)):=zK zQ 4;have zcK:w41.cell? ⟨zf,5,none⟩ = some (.string ((zy l0 zZ).f5)):=zK zQ 5;have zcY:w41.cell? ⟨zf,6,none⟩ = some (.slice xL ((zy l0 zZ).f6).length xM):=zK zQ 6;have zcW:=zw zQ.out 0;have zca:=zw zQ.out 1;have zcb:=zw zQ.out 2;have zcc:=zw zQ.out 3;have zcd:=zw zQ.out 4;have zce:=zw zQ.out 5;have zcf:=zw zQ.out 6) | ((with_reducible refine tV (t:=51) (p:=87) rfl ?_);refine dU (t:=51) (p:=87) (v:=?ztu) (w1:=(w41.setCell ⟨zf,6,none⟩ (.slice QY Qc.length QW))) ?hg ?ho ?hn ?hr ?_;(case ho=>rfl);(case hg=>rfl);(case hn=>rfl);(case hr=>first | (go_simp;done) | (go_simp;rfl));intro lK hw;have ze:zx (Kd.S uj 53 lK w.heap.size (fun k_=>some k_ ≠ (.slice QY Qc.length QW:Value).ownBlock ∧ k_ ≠ zf) u8 uG):=⟨(by rw [hw];exact (by (with_reducible repeat (first | apply Kd.xB | apply Kd.xC | apply Kd.xG));exact Kd.vJ (Kd.ji (p:=⟨zf,6,none⟩) (Kd.vJ qN.out (fun k_ hk=>(⟨hk,hk.1⟩:_ ∧ k_ ≠ zf))) (fun _ hk=>hk.2) (.slice QY Qc.length QW)) (fun _ hk=>⟨hk.1.2,hk.1.1⟩)))⟩;have zi:zx (Kd.R (Kd.int .i64) 3 lK w.heap.size (fun _=>True) (.slice QY Qc.length QW) Qc):=⟨(by rw [hw];exact (Yl (Kd.qO (Kd.wC (p:=⟨zf,6,none⟩) (Kd.uM aC.out zQ.out (by decide)) (fun _ hk=>hk.2) (.slice QY Qc.length QW)) (fun _ hk=>trivial))))⟩;have zo:zx (lK.heap[zf]? = some (.cells #[.int .i64 ((zy l0 zZ).f0),.int .i64 Yy,.int .i64 ((zy l0 zZ).f2),.int .i64 a1,.string ((zy l0 zZ).f4),.string ((zy l0 zZ).f5),.slice QY Qc.length QW] 53 (0,0))):=⟨(by rw [hw];exact (by (with_reducible repeat (first | refine qj ?_ _ | refine y7 ?_ | refine yV ?_ _));refine qz (cs:=#[.int .i64 ((zy l0 zZ).f0),.int .i64 Yy,.int .i64 ((zy l0 zZ).f2),.int .i64 a1,.string ((zy l0 zZ).f4),.string ((zy l0 zZ).f5),.slice xL ((zy l0 zZ).f6).length xM]) ?_ 6 _ rfl;(with_reducible repeat (first | refine qj ?_ _ | refine y7 ?_ | refine yV ?_ _));exact zQ.out))⟩;have zT:zx (Below w.heap.size w lK):=⟨(by rw [hw];exact (zD HB.out))⟩;clear hw;clear qN;clear aC;clear zQ;clear HB;have qN:=ze;have aC:=zi;have zQ:=zo;have HB:=zT;clear ze zi zo zT;have zcg:lK.cell? ⟨zf,0,none⟩ = some (.int .i64 ((zy l0 zZ).f0)):=zK zQ 0;have zch:lK.cell? ⟨zf,1,none⟩ = some (.int .i64 Yy):=zK zQ 1;have zci:lK.cell? ⟨zf,2,none⟩ = some (.int .i64 ((zy l0 zZ).f2)):=zK zQ 2;have zcl:lK.cell? ⟨zf,3,none⟩ = some (.int .i64 a1):=zK zQ 3;have zcm:lK.cell? ⟨zf,4,none⟩ = some (.string ((zy l0 zZ).f4)):=zK zQ 4;have zcn:lK.cell? ⟨zf,5,none⟩ = some (.string ((zy l0 zZ).f5)):=zK zQ 5;have zco:lK.cell? ⟨zf,6,none⟩ = some (.slice QY Qc.length QW):=zK zQ 6;have zcp:=zw zQ.out 0;have zcr:=zw zQ.out 1;have zcs:=zw zQ.out 2;have zct:=zw zQ.out 3;have zcu:=zw zQ.out 4;have zcA:=zw zQ.out 5;have zcB:=zw zQ.out 6) | ((with_reducible refine jG (b:=.append) (xs:=#[.tmp 88,.tmp 90]) rfl ?_);(try (refine xO (by rfl) ?_;dsimp only));at_builtin;refine Kd.tu uj (w0:=w) w.heap.size rfl (.tmp 88) (.tmp 90) 34 53 (.agg #[(.int .i64 0),(.int .i64 0),(.int .i64 0),(.int .i64 0),(.string ⟨#[]⟩),(.string ⟨#[]⟩),(.slice none 0 0)]) 88 rfl Tryz.underlying34 gL rfl (by decide) (by omega) u8 uG (⟨((zy l0 zZ).f0),Yy,((zy l0 zZ).f2),a1,((zy l0 zZ).f4),((zy l0 zZ).f5),Qc⟩:qV) [.int .i64 ((zy l0 zZ).f0),.int .i64 Yy,.int .i64 ((zy l0 zZ).f2),.int .i64 a1,.string ((zy l0 zZ).f4),.string ((zy l0 zZ).f5),.slice QY Qc.length QW] (fun k_=>k_ ≠ zf) (fun k_=>some k_ = (.slice QY Qc.length QW:Value).ownBlock) rfl rfl ?aP (fun k_ vN=>((Kd.qO (ok':=fun k_=>((fun k_=>k_ ≠ zf)) k_ ∧ some k_ ≠ (u8:Value).ownBlock) (Kd.uM (Kd.pI (aC.out) (Kd.Zn qN.out) (by decide)) zQ.out (by decide)) (fun k_ hk=>⟨hk.2,hk.1.2⟩))).1 k_ vN.symm) ?aF ?aO ?aB ?aS ?aL ?_;(case aP=>exact Q6 _ _ _ (⟨((zy l0 zZ).f0),Yy,((zy l0 zZ).f2),a1,((zy l0 zZ).f4),((zy l0 zZ).f5),Qc⟩:qV) (Kd.qO (Kd.JK rfl (Kd.qO (ok':=fun k_=>((fun k_=>k_ ≠ zf)) k_ ∧ some k_ ≠ (u8:Value).ownBlock) (Kd.uM (Kd.pI (aC.out) (Kd.Zn qN.out) (by decide)) zQ.out (by decide)) (fun k_ hk=>⟨hk.2,hk.1.2⟩))) (fun _ h_=>h_)));(case aB=>exact (zD HB.out));(case aF=>exact (fun k_ hk=>Kd.kC (g:=zf) (o:=.cells #[.int .i64 ((zy l0 zZ).f0),.int .i64 Yy,.int .i64 ((zy l0 zZ).f2),.int .i64 a1,.string ((zy l0 zZ).f4),.string ((zy l0 zZ).f5),.slice QY Qc.length QW] 53 (0,0)) (qK zQ.out) k_ hk));(case aO=>exact (by (with_reducible repeat (first | apply Kd.xB | apply Kd.xC | apply Kd.xG));exact Kd.vJ qN.out (fun k_ hk=>⟨hk.2,fun e_=>hk.1 e_⟩)));(case aS=>exact (zm (zD HB.out)));(case aL=>have:=zhr.out;omega);intro zAX w46 ho hb hg hat;rw [← zhs.out] at ho;have ze:=zx.mk (uK (g:=zf) (o:=.cells #[.int .i64 ((zy l0 zZ).f0),.int .i64 Yy,.int .i64 ((zy l0 zZ).f2),.int .i64 a1,.string ((zy l0 zZ).f4),.string ((zy l0 zZ).f5),.slice QY Qc.length QW] 53 (0,0)) (qK zQ.out) hg (Kd.zqW qN.out (fun _ hk=>hk.2)));have zi:=zx.mk (hb);have zo:=zx.mk (ho);clear zQ;clear HB;clear qN;clear aC;have zQ:=ze;have HB:=zi;have zht:=zo;clear ze zi zo;clear ho hb hg hat))
                    go_roundg Xg
                    case measure=>have:=WA.out;have:=Qw.out;have:=iR.out;have:=zJ7.out;omega
                    case rel=>exact ⟨(zeS),(wrap64 (zZ + 1)),(by first | rfl | (simp;done) | (simp [*];done)),H',⟨by have:=WA.out;have:=Qw.out;have:=iR.out;have:=zJ7.out;omega⟩,⟨by (with_reducible repeat (first | apply Kd.xB | apply Kd.xC | apply Kd.xG));exact Kd.vJ zht.out (fun _ hk=>trivial)⟩,⟨zD HB.out⟩⟩
                   ·rw [if_neg c31] at H
                    exact absurd H (by simp)
                  ·rw [if_neg c30] at H
                   exact absurd H (by simp)
                 ·rw [if_neg c29] at H
                  have zhm:(iU == 0) = false:=beq_eq_false_iff_ne.mpr c29
                  have zhn:(iU != 0) = true:=bne_iff_ne.mpr c29
                  simp only [Option.some.injEq,Prod.mk.injEq] at H
                  obtain ⟨rfl,rfl⟩:=H
                  have zor:wc.cell? ⟨zf,0,none⟩ = some (.int .i64 ((zy l0 zZ).f0)):=zK zQ 0
                  have zos:wc.cell? ⟨zf,1,none⟩ = some (.int .i64 ((zy l0 zZ).f1)):=zK zQ 1
                  have zot:wc.cell? ⟨zf,2,none⟩ = some (.int .i64 ((zy l0 zZ).f2)):=zK zQ 2
                  have zou:wc.cell? ⟨zf,3,none⟩ = some (.int .i64 ((zy l0 zZ).f3)):=zK zQ 3
                  have zoA:wc.cell? ⟨zf,4,none⟩ = some (.string ((zy l0 zZ).f4)):=zK zQ 4
                  have zoB:wc.cell? ⟨zf,5,none⟩ = some (.string ((zy l0 zZ).f5)):=zK zQ 5
                  have zoC:wc.cell? ⟨zf,6,none⟩ = some (.slice xL ((zy l0 zZ).f6).length xM):=zK zQ 6
                  have zoD:=zw zQ.out 0
                  have zoE:=zw zQ.out 1
                  have zoF:=zw zQ.out 2
                  have zoG:=zw zQ.out 3
                  have zoH:=zw zQ.out 4
                  have zoI:=zw zQ.out 5
                  have zoL:=zw zQ.out 6
                  have QH:0 ≤ (((zy l0 zZ).f2):Int):=of_decide_eq_true yH
                  have QI:((zy l0 zZ).f2) < (l2.length:Int):=of_decide_eq_true yH
                  obtain ⟨kZ,bG,bH,bI,bL,bM,bN,zz8,wN,wO,wP,wR,wS,wT,Yw,YZ,YQ,YX,YJ,YV⟩:=Q7 HR2.out ((zy l0 zZ).f2) QH QI
                  cases zz8
                  replace wN:=(HB.out.cell (World.block_lt_of_cell? w _ wN)).trans wN
                  replace wO:=(HB.out.cell (World.block_lt_of_cell? w _ wO)).trans wO
                  replace wP:=(HB.out.cell (World.block_lt_of_cell? w _ wP)).trans wP
                  replace wR:=(HB.out.cell (World.block_lt_of_cell? w _ wR)).trans wR
                  replace wS:=(HB.out.cell (World.block_lt_of_cell? w _ wS)).trans wS
                  replace wT:=(HB.out.cell (World.block_lt_of_cell? w _ wT)).trans wT
                  have KM:=zx.mk YZ
                  have KN:=zx.mk Yw
                  clear YZ Yw
                  have KO:=zx.mk YX
                  have KP:=zx.mk YQ
                  clear YX YQ
                  have KR:=zx.mk YV
                  have KS:=zx.mk YJ
                  clear YV YJ
                  replace QH:=eq_true QH
                  replace QI:=eq_true QI
                  try go_wp2_with (first | ((with_reducible refine yx (f:=70) rfl ?_);refine uD (some 59) Tryz.func70 #[.agg #[.string ((zl l2 ((zy l0 zZ).f2)).f0),.bool ((zl l2 ((zy l0 zZ).f2)).f1),.int .i64 ((zl l2 ((zy l0 zZ).f2)).f2),.slice bG ((zl l2 ((zy l0 zZ).f2)).f3).length bH,.slice bI ((zl l2 ((zy l0 zZ).f2)).f4).length bL,.slice bM ((zl l2 ((zy l0 zZ).f2)).f5).length bN],.int .i64 a1] ?_;(with_reducible refine (vI.calls ((zl l2 ((zy l0 zZ).f2)).f0) ((zl l2 ((zy l0 zZ).f2)).f1) ((zl l2 ((zy l0 zZ).f2)).f2) _ _ ((zl l2 ((zy l0 zZ).f2)).f3) _ _ ((zl l2 ((zy l0 zZ).f2)).f4) _ _ ((zl l2 ((zy l0 zZ).f2)).f5) a1 Zh gu _ ?yh ?yD ?qX ?qJ ?qR ?xg A26.out).mono ?_);(case yh=>exact qM (Kd.zh KM.out HB.out));(case yD=>exact KN.out);(case qX=>exact qM (Kd.zh KO.out HB.out));(case qJ=>exact KP.out);(case qR=>exact qM (Kd.zh KR.out HB.out));(case xg=>exact KS.out);rintro e w48 ⟨rfl,hb⟩;refine ⟨_,rfl,?_⟩;have ze:=zx.mk (Kd.jZ (fJ qN.out) hb);have zi:=zx.mk (zM (g:=zf) (o:=.cells #[.int .i64 ((zy l0 zZ).f0),.int .i64 ((zy l0 zZ).f1),.int .i64 ((zy l0 zZ).f2),.int .i64 ((zy l0 zZ).f3),.string ((zy l0 zZ).f4),.string ((zy l0 zZ).f5),.slice xL ((zy l0 zZ).f6).length xM] 53 (0,0)) (qK zQ.out) hb);have zo:=zx.mk (zu (zD HB.out) hb);clear qN;clear zQ;clear HB;have qN:=ze;have zQ:=zi;have HB:=zo;clear ze zi zo;(try clear hb);(try clear hk);have zoM:w48.cell? ⟨zf,0,none⟩ = some (.int .i64 ((zy l0 zZ).f0)):=zK zQ 0;have zoN:w48.cell? ⟨zf,1,none⟩ = some (.int .i64 ((zy l0 zZ).f1)):=zK zQ 1;have zoO:w48.cell? ⟨zf,2,none⟩ = some (.int .i64 ((zy l0 zZ).f2)):=zK zQ 2;have zoP:w48.cell? ⟨zf,3,none⟩ = some (.int .i64 ((zy l0 zZ).f3)):=zK zQ 3;have zoR:w48.cell? ⟨zf,4,none⟩ = some (.string ((zy l0 zZ).f4)):=zK zQ 4;have zoS:w48.cell? ⟨zf,5,none⟩ = some (.string ((zy l0 zZ).f5)):=zK zQ 5;have zoT:w48.cell? ⟨zf,6,none⟩ = some (.slice xL ((zy l0 zZ).f6).length xM):=zK zQ 6;have zoU:=zw zQ.out 0;have zo0:=zw zQ.out 1;have zo1:=zw zQ.out 2;have zo2:=zw zQ.out 3;have zo3:=zw zQ.out 4;have zo4:=zw zQ.out 5;have zo5:=zw zQ.out 6))
                  have ze:=zx.mk (Kd.xG qN.out)
                  have zi:=zx.mk (y7 zQ.out)
                  have zo:=zx.mk (yY HB.out)
                  clear qN zQ HB
                  have qN:=ze
                  have zQ:=zi
                  have HB:=zo
                  clear ze zi zo
                  have zz9:0 ≤ (((zy l0 zZ).f2):Int):=of_decide_eq_true yH
                  have zqz:((zy l0 zZ).f2) < (l2.length:Int):=of_decide_eq_true yH
                  obtain ⟨zJ8,lq,lZ,lQ,lX,lJ,lV,zWp,YK,YW,Ya,Yb,Yc,Yd,sG,sH,sI,sM,sN,sO⟩:=Q7 HR2.out ((zy l0 zZ).f2) zz9 zqz
                  have Qz:=Yd
                  have Qq:=Yc
                  have Qx:=Yb
                  have Qj:=Ya
                  have Qv:=YW
                  have Qk:=YK
                  obtain rfl:kZ = zJ8:=(by injection zWp)
                  replace YK:=(HB.out.cell (World.block_lt_of_cell? w _ YK)).trans YK
                  replace YW:=(HB.out.cell (World.block_lt_of_cell? w _ YW)).trans YW
                  replace Ya:=(HB.out.cell (World.block_lt_of_cell? w _ Ya)).trans Ya
                  replace Yb:=(HB.out.cell (World.block_lt_of_cell? w _ Yb)).trans Yb
                  replace Yc:=(HB.out.cell (World.block_lt_of_cell? w _ Yc)).trans Yc
                  replace Yd:=(HB.out.cell (World.block_lt_of_cell? w _ Yd)).trans Yd
                  have sP:=zx.mk sH
                  have zvc:=zx.mk sG
                  clear sH sG
                  have sS:=zx.mk sM
                  have zvd:=zx.mk sI
                  clear sM sI
                  have sU:=zx.mk sO
                  have zve:=zx.mk sN
                  clear sO sN
                  replace zz9:=eq_true zz9
                  replace zqz:=eq_true zqz
                  refine Zq (n:=14) (S:=fun w'=>w'.cell? ⟨zf,0,none⟩ = some (.int .i64 ((zy l0 zZ).f0)) ∧ w'.cell? ⟨zf,1,none⟩ = some (.int .i64 ((zy l0 zZ).f1)) ∧ w'.cell? ⟨zf,2,none⟩ = some (.int .i64 ((zy l0 zZ).f2)) ∧ w'.cell? ⟨zf,3,none⟩ = some (.int .i64 ((zy l0 zZ).f3)) ∧ w'.cell? ⟨zf,4,none⟩ = some (.string ((zy l0 zZ).f4)) ∧ w'.cell? ⟨zf,5,none⟩ = some (.string ((zy l0 zZ).f5)) ∧ w'.cell? ⟨zf,6,none⟩ = some (.slice xL ((zy l0 zZ).f6).length xM) ∧ w'.cell? (kZ.add ((((zy l0 zZ).f2)).toNat * 6)) = some (.string ((zl l2 ((zy l0 zZ).f2)).f0)) ∧ w'.cell? ⟨(kZ.add ((((zy l0 zZ).f2)).toNat * 6)).block,(kZ.add ((((zy l0 zZ).f2)).toNat * 6)).off + 1,none⟩ = some (.bool ((zl l2 ((zy l0 zZ).f2)).f1)) ∧ w'.cell? ⟨(kZ.add ((((zy l0 zZ).f2)).toNat * 6)).block,(kZ.add ((((zy l0 zZ).f2)).toNat * 6)).off + 2,none⟩ = some (.int .i64 ((zl l2 ((zy l0 zZ).f2)).f2)) ∧ w'.cell? ⟨(kZ.add ((((zy l0 zZ).f2)).toNat * 6)).block,(kZ.add ((((zy l0 zZ).f2)).toNat * 6)).off + 3,none⟩ = some (.slice lq ((zl l2 ((zy l0 zZ).f2)).f3).length lZ) ∧ w'.cell? ⟨(kZ.add ((((zy l0 zZ).f2)).toNat * 6)).block,(kZ.add ((((zy l0 zZ).f2)).toNat * 6)).off + 4,none⟩ = some (.slice lQ ((zl l2 ((zy l0 zZ).f2)).f4).length lX) ∧ w'.cell? ⟨(kZ.add ((((zy l0 zZ).f2)).toNat * 6)).block,(kZ.add ((((zy l0 zZ).f2)).toNat * 6)).off + 5,none⟩ = some (.slice lJ ((zl l2 ((zy l0 zZ).f2)).f5).length lV)) (ds:=[]) #[false,false,false,false,false,false,false,false,false,false,false,false,false,false] (by kernel_rfl) rfl rfl ⟨zK zQ 0,zK zQ 1,zK zQ 2,zK zQ 3,zK zQ 4,zK zQ 5,zK zQ 6,((HB.out.cell (World.block_lt_of_cell? w _ Qk)).trans Qk),((HB.out.cell (World.block_lt_of_cell? w _ Qv)).trans Qv),((HB.out.cell (World.block_lt_of_cell? w _ Qj)).trans Qj),((HB.out.cell (World.block_lt_of_cell? w _ Qx)).trans Qx),((HB.out.cell (World.block_lt_of_cell? w _ Qq)).trans Qq),((HB.out.cell (World.block_lt_of_cell? w _ Qz)).trans Qz)⟩ (fun hHeld=>?_);refine Yh zY.Xy zY.Zr (fun yX wY=>?_)
                  generalize w48.drew = w50 at qN zQ HB sP sS sU YK YW Ya Yb Yc Yd hHeld ⊢
                  refine q9 0 (some 66) yX ?_
                  refine q9 1 (some 67) yX ?_
                  refine q9 5 (some 71) yX ?_
                  refine q9 7 (some 73) yX ?_
                  refine ZI 2 (some 68) yX wY hHeld ?_
                  refine q9 3 (some 69) yX ?_
                  refine ZI 4 (some 70) yX wY hHeld ?_
                  refine ZI 6 (some 72) yX wY hHeld ?_
                  refine onS 8 (some 74) yX (fun K hK=>?_)
                  refine tK Tryz.func71 (by kernel_rfl) rfl #[.agg #[.string ((zl l2 ((zy l0 zZ).f2)).f0),.bool ((zl l2 ((zy l0 zZ).f2)).f1),.int .i64 ((zl l2 ((zy l0 zZ).f2)).f2),.slice lq ((zl l2 ((zy l0 zZ).f2)).f3).length lZ,.slice lQ ((zl l2 ((zy l0 zZ).f2)).f4).length lX,.slice lJ ((zl l2 ((zy l0 zZ).f2)).f5).length lV],.string ((zy l0 zZ).f4),.int .i64 a1] (by rfl) rfl rfl (by (try simp only [List.map_toArray,List.map_cons,List.map_nil]);first | done | rfl | (simp only [List.length_drop,List.length_take];rfl)) ?_
                  with_reducible refine (yL.calls Xg ((zl l2 ((zy l0 zZ).f2)).f0) ((zl l2 ((zy l0 zZ).f2)).f1) ((zl l2 ((zy l0 zZ).f2)).f2) _ _ ((zl l2 ((zy l0 zZ).f2)).f3) _ _ ((zl l2 ((zy l0 zZ).f2)).f4) _ _ ((zl l2 ((zy l0 zZ).f2)).f5) ((zy l0 zZ).f4) a1 Yy iU _ ?yh ?yD ?qX ?qJ ?qR ?xg A28.out).mono ?_
                  (case yh=>exact qM (Kd.zh sP.out HB.out))
                  (case yD=>exact zvc.out)
                  (case qX=>exact qM (Kd.zh sS.out HB.out))
                  (case qJ=>exact zvd.out)
                  (case qR=>exact qM (Kd.zh sU.out HB.out))
                  (case xg=>exact zve.out)
                  rintro e w51 ⟨rfl,hb⟩
                  refine ⟨_,rfl,?_⟩
                  have ze:=zx.mk (Kd.jZ (fJ qN.out) hb)
                  have zi:=zx.mk (zM (g:=zf) (o:=.cells #[.int .i64 ((zy l0 zZ).f0),.int .i64 ((zy l0 zZ).f1),.int .i64 ((zy l0 zZ).f2),.int .i64 ((zy l0 zZ).f3),.string ((zy l0 zZ).f4),.string ((zy l0 zZ).f5),.slice xL ((zy l0 zZ).f6).length xM] 53 (0,0)) (qK zQ.out) hb)
                  have zo:=zx.mk (zu (zD HB.out) hb)
                  clear qN zQ HB
                  have qN:=ze
                  have zQ:=zi
                  have HB:=zo
                  clear ze zi zo
                  (try clear hb)
                  (try clear hk)
                  refine hK.out _ _ ⟨zK zQ 0,zK zQ 1,zK zQ 2,zK zQ 3,zK zQ 4,zK zQ 5,zK zQ 6,((HB.out.cell (World.block_lt_of_cell? w _ Qk)).trans Qk),((HB.out.cell (World.block_lt_of_cell? w _ Qv)).trans Qv),((HB.out.cell (World.block_lt_of_cell? w _ Qj)).trans Qj),((HB.out.cell (World.block_lt_of_cell? w _ Qx)).trans Qx),((HB.out.cell (World.block_lt_of_cell? w _ Qq)).trans Qq),((HB.out.cell (World.block_lt_of_cell? w _ Qz)).trans Qz)⟩ (fun hHeld=>?_)
                  clear hK K
                  refine noS (some 74) ?_
                  refine q9 9 (some 65) yX ?_
                  refine q9 10 (some 75) yX ?_
                  refine q9 11 (some 76) yX ?_
                  refine q9 12 (some 11) yX ?_
                  refine q9 13 (some 12) yX ?_
                  refine xE (qW yX.out (by kernel_rfl)) ?_
                  try go_wp2
                  go_ret2
                  exact ⟨_,by first | rfl | (simp [zH,zI] <;> rfl) | (simp [*,zH,zI] <;> rfl),by first | exact Kd.Xo _ _ _ _ _ | exact Kd.WG _ _ _ _ _ | exact Kd.WH _ _ _ _ _ | exact Kd.WC _ _ _ _ _ | exact Kd.jC _ _ _ _ _,by repeat (first | (with_reducible first | exact HB.out | apply yJ | apply zC | apply yY | refine qm ?_ zJ5.out) | exact HB.out)⟩
                ·rw [if_neg c27] at H
                 have zhi:(((zy l0 zZ).f0) == 0) = false:=beq_eq_false_iff_ne.mpr c27
                 have zhl:(((zy l0 zZ).f0) != 0) = true:=bne_iff_ne.mpr c27
                 by_cases c52:gu = 0
                 ·rw [if_pos c52] at H
                  have zhu:(gu == 0) = true:=beq_iff_eq.mpr c52
                  have zhA:(gu != 0) = false:=bne_eq_false_iff_eq.mpr c52
                  clear c52
                  obtain ⟨JQ,zq1⟩:∃ y_:List Int,y_ = (([]:List Int)):=⟨_,rfl⟩
                  replace H:(if JQ.length + ((zy l0 zZ).f6).length < 17592186044416 then (if uG.length < 1599289640401 then (zY.l0 Xg l0 a1 l2 (uG ++ [(⟨((zy l0 zZ).f0),Zh,((zy l0 zZ).f2),a1,((zy l0 zZ).f4),((zy l0 zZ).f5),(JQ ++ ((zy l0 zZ).f6))⟩:qV)]) (wrap64 (zZ + 1))) else (none)) else (none)) = some (r1,r2):=by first | (rw [zq1];with_reducible exact H) | (have uh:=(Option.bind_some _ _).symm.trans H;rw [zq1];with_reducible exact uh) | (have uh:=(Option.bind_some _ _).symm.trans H;with_reducible exact uh) | with_reducible exact H | (rw [zq1];exact H) | exact H
                  have zae:=zx.mk zq1
                  clear zq1
                  by_cases c53:JQ.length + ((zy l0 zZ).f6).length < 17592186044416
                  ·rw [if_pos c53] at H
                   have zhB:=zx.mk c53
                   clear c53
                   obtain ⟨Qd,zq2⟩:∃ y_:List Int,y_ = (JQ ++ ((zy l0 zZ).f6)):=⟨_,rfl⟩
                   replace H:(if uG.length < 1599289640401 then (zY.l0 Xg l0 a1 l2 (uG ++ [(⟨((zy l0 zZ).f0),Zh,((zy l0 zZ).f2),a1,((zy l0 zZ).f4),((zy l0 zZ).f5),Qd⟩:qV)]) (wrap64 (zZ + 1))) else (none)) = some (r1,r2):=by first | (rw [zq2];with_reducible exact H) | (have uh:=(Option.bind_some _ _).symm.trans H;rw [zq2];with_reducible exact uh) | (have uh:=(Option.bind_some _ _).symm.trans H;with_reducible exact uh) | with_reducible exact H | (rw [zq2];exact H) | exact H
                   have zhC:=zx.mk zq2
                   clear zq2
                   by_cases c54:uG.length < 1599289640401
                   ·rw [if_pos c54] at H
                    have zhD:=zx.mk c54
                    clear c54
                    obtain ⟨zeT,zq3⟩:∃ y_:List (qV),y_ = (uG ++ [(⟨((zy l0 zZ).f0),Zh,((zy l0 zZ).f2),a1,((zy l0 zZ).f4),((zy l0 zZ).f5),Qd⟩:qV)]):=⟨_,rfl⟩
                    replace H:(zY.l0 Xg l0 a1 l2 zeT (wrap64 (zZ + 1))) = some (r1,r2):=by first | (rw [zq3];with_reducible exact H) | (have uh:=(Option.bind_some _ _).symm.trans H;rw [zq3];with_reducible exact uh) | (have uh:=(Option.bind_some _ _).symm.trans H;with_reducible exact uh) | with_reducible exact H | (rw [zq3];exact H) | exact H
                    have zhE:=zx.mk zq3
                    clear zq3
                    have H':=zx.mk H
                    clear H
                    have zc6:wc.cell? ⟨zf,0,none⟩ = some (.int .i64 ((zy l0 zZ).f0)):=zK zQ 0
                    have zo6:wc.cell? ⟨zf,1,none⟩ = some (.int .i64 ((zy l0 zZ).f1)):=zK zQ 1
                    have zo7:wc.cell? ⟨zf,2,none⟩ = some (.int .i64 ((zy l0 zZ).f2)):=zK zQ 2
                    have zo8:wc.cell? ⟨zf,3,none⟩ = some (.int .i64 ((zy l0 zZ).f3)):=zK zQ 3
                    have zo9:wc.cell? ⟨zf,4,none⟩ = some (.string ((zy l0 zZ).f4)):=zK zQ 4
                    have zpz:wc.cell? ⟨zf,5,none⟩ = some (.string ((zy l0 zZ).f5)):=zK zQ 5
                    have zpq:wc.cell? ⟨zf,6,none⟩ = some (.slice xL ((zy l0 zZ).f6).length xM):=zK zQ 6
                    have zc7:=zw zQ.out 0
                    have zpx:=zw zQ.out 1
                    have zpj:=zw zQ.out 2
                    have zpv:=zw zQ.out 3
                    have zpk:=zw zQ.out 4
                    have zpy:=zw zQ.out 5
                    have zpw:=zw zQ.out 6
                    have QH:0 ≤ (((zy l0 zZ).f2):Int):=of_decide_eq_true yH
                    have QI:((zy l0 zZ).f2) < (l2.length:Int):=of_decide_eq_true yH
                    obtain ⟨kZ,bG,bH,bI,bL,bM,bN,zz8,wN,wO,wP,wR,wS,wT,Yw,YZ,YQ,YX,YJ,YV⟩:=Q7 HR2.out ((zy l0 zZ).f2) QH QI
                    cases zz8
                    replace wN:=(HB.out.cell (World.block_lt_of_cell? w _ wN)).trans wN
                    replace wO:=(HB.out.cell (World.block_lt_of_cell? w _ wO)).trans wO
                    replace wP:=(HB.out.cell (World.block_lt_of_cell? w _ wP)).trans wP
                    replace wR:=(HB.out.cell (World.block_lt_of_cell? w _ wR)).trans wR
                    replace wS:=(HB.out.cell (World.block_lt_of_cell? w _ wS)).trans wS
                    replace wT:=(HB.out.cell (World.block_lt_of_cell? w _ wT)).trans wT
                    have KM:=zx.mk YZ
                    have KN:=zx.mk Yw
                    clear YZ Yw
                    have KO:=zx.mk YX
                    have KP:=zx.mk YQ
                    clear YX YQ
                    have KR:=zx.mk YV
                    have KS:=zx.mk YJ
                    clear YV YJ
                    replace QH:=eq_true QH
                    replace QI:=eq_true QI
                    go_wp2_with (first | ((with_reducible refine yx (f:=70) rfl ?_);refine uD (some 59) Tryz.func70 #[.agg #[.string ((zl l2 ((zy l0 zZ).f2)).f0),.bool ((zl l2 ((zy l0 zZ).f2)).f1),.int .i64 ((zl l2 ((zy l0 zZ).f2)).f2),.slice bG ((zl l2 ((zy l0 zZ).f2)).f3).length bH,.slice bI ((zl l2 ((zy l0 zZ).f2)).f4).length bL,.slice bM ((zl l2 ((zy l0 zZ).f2)).f5).length bN],.int .i64 a1] ?_;(with_reducible refine (vI.calls ((zl l2 ((zy l0 zZ).f2)).f0) ((zl l2 ((zy l0 zZ).f2)).f1) ((zl l2 ((zy l0 zZ).f2)).f2) _ _ ((zl l2 ((zy l0 zZ).f2)).f3) _ _ ((zl l2 ((zy l0 zZ).f2)).f4) _ _ ((zl l2 ((zy l0 zZ).f2)).f5) a1 Zh gu _ ?yh ?yD ?qX ?qJ ?qR ?xg A26.out).mono ?_);(case yh=>exact qM (Kd.zh KM.out HB.out));(case yD=>exact KN.out);(case qX=>exact qM (Kd.zh KO.out HB.out));(case qJ=>exact KP.out);(case qR=>exact qM (Kd.zh KR.out HB.out));(case xg=>exact KS.out);rintro e w56 ⟨rfl,hb⟩;refine ⟨_,rfl,?_⟩;have ze:=zx.mk (Kd.jZ (fJ qN.out) hb);have zi:=zx.mk (zM (g:=zf) (o:=.cells #[.int .i64 ((zy l0 zZ).f0),.int .i64 ((zy l0 zZ).f1),.int .i64 ((zy l0 zZ).f2),.int .i64 ((zy l0 zZ).f3),.string ((zy l0 zZ).f4),.string ((zy l0 zZ).f5),.slice xL ((zy l0 zZ).f6).length xM] 53 (0,0)) (qK zQ.out) hb);have zo:=zx.mk (zu (zD HB.out) hb);clear qN;clear zQ;clear HB;have qN:=ze;have zQ:=zi;have HB:=zo;clear ze zi zo;(try clear hb);(try clear hk);have zpZ:w56.cell? ⟨zf,0,none⟩ = some (.int .i64 ((zy l0 zZ).f0)):=zK zQ 0;have zpQ:w56.cell? ⟨zf,1,none⟩ = some (.int .i64 ((zy l0 zZ).f1)):=zK zQ 1;have zpX:w56.cell? ⟨zf,2,none⟩ = some (.int .i64 ((zy l0 zZ).f2)):=zK zQ 2;have zpJ:w56.cell? ⟨zf,3,none⟩ = some (.int .i64 ((zy l0 zZ).f3)):=zK zQ 3;have zpV:w56.cell? ⟨zf,4,none⟩ = some (.string ((zy l0 zZ).f4)):=zK zQ 4;have zpK:w56.cell? ⟨zf,5,none⟩ = some (.string ((zy l0 zZ).f5)):=zK zQ 5;have zpY:w56.cell? ⟨zf,6,none⟩ = some (.slice xL ((zy l0 zZ).f6).length xM):=zK zQ 6;have zpW:=zw zQ.out 0;have zpa:=zw zQ.out 1;have zpb:=zw zQ.out 2;have zpc:=zw zQ.out 3;have zpd:=zw zQ.out 4;have zpe:=zw zQ.out 5;have zpf:=zw zQ.out 6) | ((with_reducible refine qQ (N:=83) rfl ?_);(try (refine xO (by rfl) ?_;dsimp only));refine Kd.U8 (Kd.int .i64) _ 3 ?hg (N:=83) ?hd (xs:=([]:List Int)) (inner:=[]) (ok:=fun _=>True) (vR:=fun _=>True) ?hr ?hp (fun _ hk=>hk) trivial (Below.refl _ _) (Nat.le_refl _) (by simp) ?_;(case hd=>rfl);(case hg=>rfl);(case hr=>first | (go_simp;done) | (go_simp;rfl));(case hp=>exact (qY.none _ _));intro zlE w58 zvg hb bX Yp;clear bX Yp;(first | rw [← zae.out] at zvg | (simp only [Int.reduceToNat] at zvg;rw [← zae.out] at zvg));have ze:=zx.mk (Kd.zzf (by (with_reducible repeat (first | apply Kd.xB | apply Kd.xC | apply Kd.xG));exact (Kd.vJ (Kd.ji (p:=⟨zf,3,none⟩) (Kd.ji (p:=⟨zf,1,none⟩) (Kd.vJ qN.out (fun k_ hk=>(⟨hk,hk⟩:_ ∧ k_ ≠ zf))) (fun _ hk=>hk.2) (.int .i64 Zh)) (fun _ hk=>hk.2) (.int .i64 a1)) (fun _ h_=>h_.1))) (Kd.Qg zvg) hb);have zi:=zx.mk (Kd.uT zvg (zm (zD HB.out)));have zo:=zx.mk (zM (g:=zf) (o:=.cells #[.int .i64 ((zy l0 zZ).f0),.int .i64 Zh,.int .i64 ((zy l0 zZ).f2),.int .i64 a1,.string ((zy l0 zZ).f4),.string ((zy l0 zZ).f5),.slice xL ((zy l0 zZ).f6).length xM] 53 (0,0)) (by (with_reducible repeat (first | refine qj ?_ _ | refine y7 ?_ | refine yV ?_ _));refine qz (cs:=#[.int .i64 ((zy l0 zZ).f0),.int .i64 Zh,.int .i64 ((zy l0 zZ).f2),.int .i64 ((zy l0 zZ).f3),.string ((zy l0 zZ).f4),.string ((zy l0 zZ).f5),.slice xL ((zy l0 zZ).f6).length xM]) ?_ 3 _ rfl;(with_reducible repeat (first | refine qj ?_ _ | refine y7 ?_ | refine yV ?_ _));refine qz (cs:=#[.int .i64 ((zy l0 zZ).f0),.int .i64 ((zy l0 zZ).f1),.int .i64 ((zy l0 zZ).f2),.int .i64 ((zy l0 zZ).f3),.string ((zy l0 zZ).f4),.string ((zy l0 zZ).f5),.slice xL ((zy l0 zZ).f6).length xM]) ?_ 1 _ rfl;(with_reducible repeat (first | refine qj ?_ _ | refine y7 ?_ | refine yV ?_ _));exact zQ.out) hb);have zT:=zx.mk (zu (zD HB.out) hb);clear qN;clear zQ;clear HB;have qN:=ze;have zVz:=zi;have zQ:=zo;have HB:=zT;clear ze zi zo zT;clear hb zvg;have zpg:w58.cell? ⟨zf,0,none⟩ = some (.int .i64 ((zy l0 zZ).f0)):=zK zQ 0;have zph:w58.cell? ⟨zf,1,none⟩ = some (.int .i64 Zh):=zK zQ 1;have zpi:w58.cell? ⟨zf,2,none⟩ = some (.int .i64 ((zy l0 zZ).f2)):=zK zQ 2;have zpl:w58.cell? ⟨zf,3,none⟩ = some (.int .i64 a1):=zK zQ 3;have zpm:w58.cell? ⟨zf,4,none⟩ = some (.string ((zy l0 zZ).f4)):=zK zQ 4;have zpn:w58.cell? ⟨zf,5,none⟩ = some (.string ((zy l0 zZ).f5)):=zK zQ 5;have zpo:w58.cell? ⟨zf,6,none⟩ = some (.slice xL ((zy l0 zZ).f6).length xM):=zK zQ 6;have zpp:=zw zQ.out 0;have zpr:=zw zQ.out 1;have zps:=zw zQ.out 2;have zpt:=zw zQ.out 3;have zpu:=zw zQ.out 4;have zpA:=zw zQ.out 5;have zpB:=zw zQ.out 6) | ((with_reducible refine jG (b:=.append) (xs:=#[.tmp 83,.tmp 85]) rfl ?_);(try (refine xO (by rfl) ?_;dsimp only));at_builtin;refine Kd.YE (Kd.int .i64) (w0:=w) w.heap.size rfl (.tmp 83) (.tmp 85) 51 3 (.int .i64 0) 8 rfl Tryz.underlying51 info3 rfl (by decide) (by omega) zlE JQ ((zy l0 zZ).f6) _ _ _ (fun _=>True) (fun _=>False) rfl rfl ?aO ?aR (fun _ _ h=>h) (fun _ h=>h.elim) ?aF ?aB ?aS ?aL ?_;(case aR=>repeat (first | exact (Kd.zh zvb.out HB.out) | (with_reducible refine Kd.lu ?_ _) | (with_reducible refine Kd.lC ?_ _) | (with_reducible refine Kd.zqw ?_)));(case aB=>exact (zD HB.out));(case aF=>exact (fun _ _=>trivial));(case aO=>exact (Yl zVz.out));(case aS=>exact (zm (zD HB.out)));(case aL=>have:=zhB.out;omega);intro zAJ w61 ho hb hg hat;rw [← zhC.out] at ho;have ze:=zx.mk (Kd.WT (ok:=(fun k_=>k_ ≠ zf)) (fJ qN.out) hg hat);have zi:=zx.mk (uK (g:=zf) (o:=.cells #[.int .i64 ((zy l0 zZ).f0),.int .i64 Zh,.int .i64 ((zy l0 zZ).f2),.int .i64 a1,.string ((zy l0 zZ).f4),.string ((zy l0 zZ).f5),.slice xL ((zy l0 zZ).f6).length xM] 53 (0,0)) (qK zQ.out) hg (Kd.Qu zVz.out zQ.out (by decide)));have zo:=zx.mk (hb);have zT:=zx.mk (ho);clear qN;clear zQ;clear HB;clear zVz;have qN:=ze;have zQ:=zi;have HB:=zo;have aD:=zT;clear ze zi zo zT;clear ho hb hg hat;obtain ⟨bO,bP,zlF⟩:=Kd.xA aD.out;subst zlF;have zpC:w61.cell? ⟨zf,0,none⟩ = some (.int .i64 ((zy l0 zZ).f0)):=zK zQ 0;have zpD:w61.cell? ⟨zf,1,none⟩ = some (.int .i64 Zh):=zK zQ 1;have zpE:w61.cell? ⟨zf,2,none⟩ = some (.int .i64 ((zy l0 zZ).f2)):=zK zQ 2;have zpF:w61.cell? ⟨zf,3,none⟩ = some (.int .i64 a1):=zK zQ 3;have zpG:w61.cell? ⟨zf,4,none⟩ = some (.string ((zy l0 zZ).f4)):=zK zQ 4;have zpH:w61.cell? ⟨zf,5,none⟩ = some (.string ((zy l0 zZ).f5)):=zK zQ 5;have zpI:w61.cell? ⟨zf,6,none⟩ = some (.slice xL ((zy l0 zZ).f6).length xM):=zK zQ 6;have zpL:=zw zQ.out 0;have zpM:=zw zQ.out 1;have zpN:=zw zQ.out 2;have zpO:=zw zQ.out 3;have zpP:=zw zQ.out 4;have zpR:=zw zQ.out 5;have zpS:=zw zQ.out 6) | ((with_reducible refine tV (t:=51) (p:=87) rfl ?_);refine dU (t:=51) (p:=87) (v:=?ztA) (w1:=(w61.setCell ⟨zf,6,none⟩ (.slice bO Qd.length bP))) ?hg ?ho ?hn ?hr ?_;(case ho=>rfl);(case hg=>rfl);(case hn=>rfl);(case hr=>first | (go_simp;done) | (go_simp;rfl));intro jA hw;have ze:zx (Kd.S uj 53 jA w.heap.size (fun k_=>some k_ ≠ (.slice bO Qd.length bP:Value).ownBlock ∧ k_ ≠ zf) u8 uG):=⟨(by rw [hw];exact (by (with_reducible repeat (first | apply Kd.xB | apply Kd.xC | apply Kd.xG));exact Kd.vJ (Kd.ji (p:=⟨zf,6,none⟩) (Kd.vJ qN.out (fun k_ hk=>(⟨hk,hk.1⟩:_ ∧ k_ ≠ zf))) (fun _ hk=>hk.2) (.slice bO Qd.length bP)) (fun _ hk=>⟨hk.1.2,hk.1.1⟩)))⟩;have zi:zx (Kd.R (Kd.int .i64) 3 jA w.heap.size (fun _=>True) (.slice bO Qd.length bP) Qd):=⟨(by rw [hw];exact (Yl (Kd.qO (Kd.wC (p:=⟨zf,6,none⟩) (Kd.uM aD.out zQ.out (by decide)) (fun _ hk=>hk.2) (.slice bO Qd.length bP)) (fun _ hk=>trivial))))⟩;have zo:zx (jA.heap[zf]? = some (.cells #[.int .i64 ((zy l0 zZ).f0),.int .i64 Zh,.int .i64 ((zy l0 zZ).f2),.int .i64 a1,.string ((zy l0 zZ).f4),.string ((zy l0 zZ).f5),.slice bO Qd.length bP] 53 (0,0))):=⟨(by rw [hw];exact (by (with_reducible repeat (first | refine qj ?_ _ | refine y7 ?_ | refine yV ?_ _));refine qz (cs:=#[.int .i64 ((zy l0 zZ).f0),.int .i64 Zh,.int .i64 ((zy l0 zZ).f2),.int .i64 a1,.string ((zy l0 zZ).f4),.string ((zy l0 zZ).f5),.slice xL ((zy l0 zZ).f6).length xM]) ?_ 6 _ rfl;(with_reducible repeat (first | refine qj ?_ _ | refine y7 ?_ | refine yV ?_ _));exact zQ.out))⟩;have zT:zx (Below w.heap.size w jA):=⟨(by rw [hw];exact (zD HB.out))⟩;clear hw;clear qN;clear aD;clear zQ;clear HB;have qN:=ze;have aD:=zi;have zQ:=zo;have HB:=zT;clear ze zi zo zT;have zpT:jA.cell? ⟨zf,0,none⟩ = some (.int .i64 ((zy l0 zZ).f0)):=zK zQ 0;have zpU:jA.cell? ⟨zf,1,none⟩ = some (.int .i64 Zh):=zK zQ 1;have zp0:jA.cell? ⟨zf,2,none⟩ = some (.int .i64 ((zy l0 zZ).f2)):=zK zQ 2;have zp1:jA.cell? ⟨zf,3,none⟩ = some (.int .i64 a1):=zK zQ 3;have zp2:jA.cell? ⟨zf,4,none⟩ = some (.string ((zy l0 zZ).f4)):=zK zQ 4;have zp3:jA.cell? ⟨zf,5,none⟩ = some (.string ((zy l0 zZ).f5)):=zK zQ 5;have zp4:jA.cell? ⟨zf,6,none⟩ = some (.slice bO Qd.length bP):=zK zQ 6;have zp5:=zw zQ.out 0;have zp6:=zw zQ.out 1;have zp7:=zw zQ.out 2;have zp8:=zw zQ.out 3;have zp9:=zw zQ.out 4;have zrz:=zw zQ.out 5;have zrq:=zw zQ.out 6) | ((with_reducible refine jG (b:=.append) (xs:=#[.tmp 88,.tmp 90]) rfl ?_);(try (refine xO (by rfl) ?_;dsimp only));at_builtin;refine Kd.tu uj (w0:=w) w.heap.size rfl (.tmp 88) (.tmp 90) 34 53 (.agg #[(.int .i64 0),(.int .i64 0),(.int .i64 0),(.int .i64 0),(.string ⟨#[]⟩),(.string ⟨#[]⟩),(.slice none 0 0)]) 88 rfl Tryz.underlying34 gL rfl (by decide) (by omega) u8 uG (⟨((zy l0 zZ).f0),Zh,((zy l0 zZ).f2),a1,((zy l0 zZ).f4),((zy l0 zZ).f5),Qd⟩:qV) [.int .i64 ((zy l0 zZ).f0),.int .i64 Zh,.int .i64 ((zy l0 zZ).f2),.int .i64 a1,.string ((zy l0 zZ).f4),.string ((zy l0 zZ).f5),.slice bO Qd.length bP] (fun k_=>k_ ≠ zf) (fun k_=>some k_ = (.slice bO Qd.length bP:Value).ownBlock) rfl rfl ?aP (fun k_ vN=>((Kd.qO (ok':=fun k_=>((fun k_=>k_ ≠ zf)) k_ ∧ some k_ ≠ (u8:Value).ownBlock) (Kd.uM (Kd.pI (aD.out) (Kd.Zn qN.out) (by decide)) zQ.out (by decide)) (fun k_ hk=>⟨hk.2,hk.1.2⟩))).1 k_ vN.symm) ?aF ?aO ?aB ?aS ?aL ?_;(case aP=>exact Q6 _ _ _ (⟨((zy l0 zZ).f0),Zh,((zy l0 zZ).f2),a1,((zy l0 zZ).f4),((zy l0 zZ).f5),Qd⟩:qV) (Kd.qO (Kd.JK rfl (Kd.qO (ok':=fun k_=>((fun k_=>k_ ≠ zf)) k_ ∧ some k_ ≠ (u8:Value).ownBlock) (Kd.uM (Kd.pI (aD.out) (Kd.Zn qN.out) (by decide)) zQ.out (by decide)) (fun k_ hk=>⟨hk.2,hk.1.2⟩))) (fun _ h_=>h_)));(case aB=>exact (zD HB.out));(case aF=>exact (fun k_ hk=>Kd.kC (g:=zf) (o:=.cells #[.int .i64 ((zy l0 zZ).f0),.int .i64 Zh,.int .i64 ((zy l0 zZ).f2),.int .i64 a1,.string ((zy l0 zZ).f4),.string ((zy l0 zZ).f5),.slice bO Qd.length bP] 53 (0,0)) (qK zQ.out) k_ hk));(case aO=>exact (by (with_reducible repeat (first | apply Kd.xB | apply Kd.xC | apply Kd.xG));exact Kd.vJ qN.out (fun k_ hk=>⟨hk.2,fun e_=>hk.1 e_⟩)));(case aS=>exact (zm (zD HB.out)));(case aL=>have:=zhD.out;omega);intro zAV w66 ho hb hg hat;rw [← zhE.out] at ho;have ze:=zx.mk (uK (g:=zf) (o:=.cells #[.int .i64 ((zy l0 zZ).f0),.int .i64 Zh,.int .i64 ((zy l0 zZ).f2),.int .i64 a1,.string ((zy l0 zZ).f4),.string ((zy l0 zZ).f5),.slice bO Qd.length bP] 53 (0,0)) (qK zQ.out) hg (Kd.zqW qN.out (fun _ hk=>hk.2)));have zi:=zx.mk (hb);have zo:=zx.mk (ho);clear zQ;clear HB;clear qN;clear aD;have zQ:=ze;have HB:=zi;have zhF:=zo;clear ze zi zo;clear ho hb hg hat))
                    go_roundg Xg
                    case measure=>have:=WA.out;have:=Qw.out;have:=iR.out;have:=zJ7.out;omega
                    case rel=>exact ⟨(zeT),(wrap64 (zZ + 1)),(by first | rfl | (simp;done) | (simp [*];done)),H',⟨by have:=WA.out;have:=Qw.out;have:=iR.out;have:=zJ7.out;omega⟩,⟨by (with_reducible repeat (first | apply Kd.xB | apply Kd.xC | apply Kd.xG));exact Kd.vJ zhF.out (fun _ hk=>trivial)⟩,⟨zD HB.out⟩⟩
                   ·rw [if_neg c54] at H
                    exact absurd H (by simp)
                  ·rw [if_neg c53] at H
                   exact absurd H (by simp)
                 ·rw [if_neg c52] at H
                  have zhu:(gu == 0) = false:=beq_eq_false_iff_ne.mpr c52
                  have zhA:(gu != 0) = true:=bne_iff_ne.mpr c52
                  simp only [Option.some.injEq,Prod.mk.injEq] at H
                  obtain ⟨rfl,rfl⟩:=H
                  have zrx:wc.cell? ⟨zf,0,none⟩ = some (.int .i64 ((zy l0 zZ).f0)):=zK zQ 0
                  have zrj:wc.cell? ⟨zf,1,none⟩ = some (.int .i64 ((zy l0 zZ).f1)):=zK zQ 1
                  have zrv:wc.cell? ⟨zf,2,none⟩ = some (.int .i64 ((zy l0 zZ).f2)):=zK zQ 2
                  have zrk:wc.cell? ⟨zf,3,none⟩ = some (.int .i64 ((zy l0 zZ).f3)):=zK zQ 3
                  have zry:wc.cell? ⟨zf,4,none⟩ = some (.string ((zy l0 zZ).f4)):=zK zQ 4
                  have zrw:wc.cell? ⟨zf,5,none⟩ = some (.string ((zy l0 zZ).f5)):=zK zQ 5
                  have zrZ:wc.cell? ⟨zf,6,none⟩ = some (.slice xL ((zy l0 zZ).f6).length xM):=zK zQ 6
                  have zrQ:=zw zQ.out 0
                  have zrX:=zw zQ.out 1
                  have zrJ:=zw zQ.out 2
                  have zrV:=zw zQ.out 3
                  have zrK:=zw zQ.out 4
                  have zrY:=zw zQ.out 5
                  have zrW:=zw zQ.out 6
                  have QH:0 ≤ (((zy l0 zZ).f2):Int):=of_decide_eq_true yH
                  have QI:((zy l0 zZ).f2) < (l2.length:Int):=of_decide_eq_true yH
                  obtain ⟨kZ,bG,bH,bI,bL,bM,bN,zz8,wN,wO,wP,wR,wS,wT,Yw,YZ,YQ,YX,YJ,YV⟩:=Q7 HR2.out ((zy l0 zZ).f2) QH QI
                  cases zz8
                  replace wN:=(HB.out.cell (World.block_lt_of_cell? w _ wN)).trans wN
                  replace wO:=(HB.out.cell (World.block_lt_of_cell? w _ wO)).trans wO
                  replace wP:=(HB.out.cell (World.block_lt_of_cell? w _ wP)).trans wP
                  replace wR:=(HB.out.cell (World.block_lt_of_cell? w _ wR)).trans wR
                  replace wS:=(HB.out.cell (World.block_lt_of_cell? w _ wS)).trans wS
                  replace wT:=(HB.out.cell (World.block_lt_of_cell? w _ wT)).trans wT
                  have KM:=zx.mk YZ
                  have KN:=zx.mk Yw
                  clear YZ Yw
                  have KO:=zx.mk YX
                  have KP:=zx.mk YQ
                  clear YX YQ
                  have KR:=zx.mk YV
                  have KS:=zx.mk YJ
                  clear YV YJ
                  replace QH:=eq_true QH
                  replace QI:=eq_true QI
                  go_wp2_with (first | ((with_reducible refine yx (f:=70) rfl ?_);refine uD (some 59) Tryz.func70 #[.agg #[.string ((zl l2 ((zy l0 zZ).f2)).f0),.bool ((zl l2 ((zy l0 zZ).f2)).f1),.int .i64 ((zl l2 ((zy l0 zZ).f2)).f2),.slice bG ((zl l2 ((zy l0 zZ).f2)).f3).length bH,.slice bI ((zl l2 ((zy l0 zZ).f2)).f4).length bL,.slice bM ((zl l2 ((zy l0 zZ).f2)).f5).length bN],.int .i64 a1] ?_;(with_reducible refine (vI.calls ((zl l2 ((zy l0 zZ).f2)).f0) ((zl l2 ((zy l0 zZ).f2)).f1) ((zl l2 ((zy l0 zZ).f2)).f2) _ _ ((zl l2 ((zy l0 zZ).f2)).f3) _ _ ((zl l2 ((zy l0 zZ).f2)).f4) _ _ ((zl l2 ((zy l0 zZ).f2)).f5) a1 Zh gu _ ?yh ?yD ?qX ?qJ ?qR ?xg A26.out).mono ?_);(case yh=>exact qM (Kd.zh KM.out HB.out));(case yD=>exact KN.out);(case qX=>exact qM (Kd.zh KO.out HB.out));(case qJ=>exact KP.out);(case qR=>exact qM (Kd.zh KR.out HB.out));(case xg=>exact KS.out);rintro e w68 ⟨rfl,hb⟩;refine ⟨_,rfl,?_⟩;have ze:=zx.mk (Kd.jZ (fJ qN.out) hb);have zi:=zx.mk (zM (g:=zf) (o:=.cells #[.int .i64 ((zy l0 zZ).f0),.int .i64 ((zy l0 zZ).f1),.int .i64 ((zy l0 zZ).f2),.int .i64 ((zy l0 zZ).f3),.string ((zy l0 zZ).f4),.string ((zy l0 zZ).f5),.slice xL ((zy l0 zZ).f6).length xM] 53 (0,0)) (qK zQ.out) hb);have zo:=zx.mk (zu (zD HB.out) hb);clear qN;clear zQ;clear HB;have qN:=ze;have zQ:=zi;have HB:=zo;clear ze zi zo;(try clear hb);(try clear hk);have zra:w68.cell? ⟨zf,0,none⟩ = some (.int .i64 ((zy l0 zZ).f0)):=zK zQ 0;have zrb:w68.cell? ⟨zf,1,none⟩ = some (.int .i64 ((zy l0 zZ).f1)):=zK zQ 1;have zrc:w68.cell? ⟨zf,2,none⟩ = some (.int .i64 ((zy l0 zZ).f2)):=zK zQ 2;have zrd:w68.cell? ⟨zf,3,none⟩ = some (.int .i64 ((zy l0 zZ).f3)):=zK zQ 3;have zre:w68.cell? ⟨zf,4,none⟩ = some (.string ((zy l0 zZ).f4)):=zK zQ 4;have zrf:w68.cell? ⟨zf,5,none⟩ = some (.string ((zy l0 zZ).f5)):=zK zQ 5;have zrg:w68.cell? ⟨zf,6,none⟩ = some (.slice xL ((zy l0 zZ).f6).length xM):=zK zQ 6;have zrh:=zw zQ.out 0;have zri:=zw zQ.out 1;have zrl:=zw zQ.out 2;have zrm:=zw zQ.out 3;have zrn:=zw zQ.out 4;have zro:=zw zQ.out 5;have zrp:=zw zQ.out 6))
                  go_ret2
                  exact ⟨_,by first | rfl | (simp [zH,zI] <;> rfl) | (simp [*,zH,zI] <;> rfl),by first | exact Kd.Xo _ _ _ _ _ | exact Kd.WG _ _ _ _ _ | exact Kd.WH _ _ _ _ _ | exact Kd.WC _ _ _ _ _ | exact Kd.jC _ _ _ _ _,by repeat (first | (with_reducible first | exact HB.out | apply yJ | apply zC | apply yY | refine qm ?_ zJ5.out) | exact HB.out)⟩
               ·rw [if_neg c25] at H
                exact absurd H (by simp)
              ·rw [if_neg c24] at H
               exact absurd H (by simp)
          ·replace c18:=Bool.eq_false_iff.mpr c18
           subst c18
           have H1:((some (([]:List Int):List Int)).bind fun bF=>(if bF.length + ((zy l0 zZ).f6).length < 17592186044416 then (if uG.length < 1599289640401 then (zY.l0 iT l0 a1 l2 (uG ++ [(⟨((zy l0 zZ).f0),((zy l0 zZ).f1),((zy l0 zZ).f2),((zy l0 zZ).f3),((zy l0 zZ).f4),((zy l0 zZ).f5),(bF ++ ((zy l0 zZ).f6))⟩:qV)]) (wrap64 (zZ + 1))) else (none)) else (none))) = some (r1,r2):=by rw [if_neg (show ¬ (false = true) by decide)] at H;exact H
           clear H
           have H:=H1
           clear H1
           obtain ⟨bF,zq4⟩:∃ y_:List Int,y_ = (([]:List Int)):=⟨_,rfl⟩
           replace H:(if bF.length + ((zy l0 zZ).f6).length < 17592186044416 then (if uG.length < 1599289640401 then (zY.l0 iT l0 a1 l2 (uG ++ [(⟨((zy l0 zZ).f0),((zy l0 zZ).f1),((zy l0 zZ).f2),((zy l0 zZ).f3),((zy l0 zZ).f4),((zy l0 zZ).f5),(bF ++ ((zy l0 zZ).f6))⟩:qV)]) (wrap64 (zZ + 1))) else (none)) else (none)) = some (r1,r2):=by first | (rw [zq4];with_reducible exact H) | (have uh:=(Option.bind_some _ _).symm.trans H;rw [zq4];with_reducible exact uh) | (have uh:=(Option.bind_some _ _).symm.trans H;with_reducible exact uh) | with_reducible exact H | (rw [zq4];exact H) | exact H
           have zaf:=zx.mk zq4
           clear zq4
           by_cases c70:bF.length + ((zy l0 zZ).f6).length < 17592186044416
           ·rw [if_pos c70] at H
            have zhG:=zx.mk c70
            clear c70
            obtain ⟨Qe,zq5⟩:∃ y_:List Int,y_ = (bF ++ ((zy l0 zZ).f6)):=⟨_,rfl⟩
            replace H:(if uG.length < 1599289640401 then (zY.l0 iT l0 a1 l2 (uG ++ [(⟨((zy l0 zZ).f0),((zy l0 zZ).f1),((zy l0 zZ).f2),((zy l0 zZ).f3),((zy l0 zZ).f4),((zy l0 zZ).f5),Qe⟩:qV)]) (wrap64 (zZ + 1))) else (none)) = some (r1,r2):=by first | (rw [zq5];with_reducible exact H) | (have uh:=(Option.bind_some _ _).symm.trans H;rw [zq5];with_reducible exact uh) | (have uh:=(Option.bind_some _ _).symm.trans H;with_reducible exact uh) | with_reducible exact H | (rw [zq5];exact H) | exact H
            have zhH:=zx.mk zq5
            clear zq5
            by_cases c71:uG.length < 1599289640401
            ·rw [if_pos c71] at H
             have zhI:=zx.mk c71
             clear c71
             obtain ⟨zeU,zq6⟩:∃ y_:List (qV),y_ = (uG ++ [(⟨((zy l0 zZ).f0),((zy l0 zZ).f1),((zy l0 zZ).f2),((zy l0 zZ).f3),((zy l0 zZ).f4),((zy l0 zZ).f5),Qe⟩:qV)]):=⟨_,rfl⟩
             replace H:(zY.l0 iT l0 a1 l2 zeU (wrap64 (zZ + 1))) = some (r1,r2):=by first | (rw [zq6];with_reducible exact H) | (have uh:=(Option.bind_some _ _).symm.trans H;rw [zq6];with_reducible exact uh) | (have uh:=(Option.bind_some _ _).symm.trans H;with_reducible exact uh) | with_reducible exact H | (rw [zq6];exact H) | exact H
             have zhL:=zx.mk zq6
             clear zq6
             have H':=zx.mk H
             clear H
             go_wp2_with (first | ((with_reducible refine qQ (N:=83) rfl ?_);(try (refine xO (by rfl) ?_;dsimp only));refine Kd.U8 (Kd.int .i64) _ 3 ?hg (N:=83) ?hd (xs:=([]:List Int)) (inner:=[]) (ok:=fun _=>True) (vR:=fun _=>True) ?hr ?hp (fun _ hk=>hk) trivial (Below.refl _ _) (Nat.le_refl _) (by simp) ?_;(case hd=>rfl);(case hg=>rfl);(case hr=>first | (go_simp;done) | (go_simp;rfl));(case hp=>exact (qY.none _ _));intro zlG w72 zvh hb bX Yp;clear bX Yp;(first | rw [← zaf.out] at zvh | (simp only [Int.reduceToNat] at zvh;rw [← zaf.out] at zvh));have ze:=zx.mk (Kd.zzf (fJ qN.out) (Kd.Qg zvh) hb);have zi:=zx.mk (Kd.uT zvh (zm (zD HB.out)));have zo:=zx.mk (zM (g:=zf) (o:=.cells #[.int .i64 ((zy l0 zZ).f0),.int .i64 ((zy l0 zZ).f1),.int .i64 ((zy l0 zZ).f2),.int .i64 ((zy l0 zZ).f3),.string ((zy l0 zZ).f4),.string ((zy l0 zZ).f5),.slice xL ((zy l0 zZ).f6).length xM] 53 (0,0)) (qK zQ.out) hb);have zT:=zx.mk (zu (zD HB.out) hb);clear qN;clear zQ;clear HB;have qN:=ze;have zVq:=zi;have zQ:=zo;have HB:=zT;clear ze zi zo zT;clear hb zvh;have zrr:w72.cell? ⟨zf,0,none⟩ = some (.int .i64 ((zy l0 zZ).f0)):=zK zQ 0;have zrs:w72.cell? ⟨zf,1,none⟩ = some (.int .i64 ((zy l0 zZ).f1)):=zK zQ 1;have zrt:w72.cell? ⟨zf,2,none⟩ = some (.int .i64 ((zy l0 zZ).f2)):=zK zQ 2;have zru:w72.cell? ⟨zf,3,none⟩ = some (.int .i64 ((zy l0 zZ).f3)):=zK zQ 3;have zrA:w72.cell? ⟨zf,4,none⟩ = some (.string ((zy l0 zZ).f4)):=zK zQ 4;have zrB:w72.cell? ⟨zf,5,none⟩ = some (.string ((zy l0 zZ).f5)):=zK zQ 5;have zrC:w72.cell? ⟨zf,6,none⟩ = some (.slice xL ((zy l0 zZ).f6).length xM):=zK zQ 6;have zrD:=zw zQ.out 0;have zrE:=zw zQ.out 1;have zrF:=zw zQ.out 2;have zrG:=zw zQ.out 3;have zrH:=zw zQ.out 4;have zrI:=zw zQ.out 5;have zrL:=zw zQ.out 6) | ((with_reducible refine jG (b:=.append) (xs:=#[.tmp 83,.tmp 85]) rfl ?_);(try (refine xO (by rfl) ?_;dsimp only));at_builtin;refine Kd.YE (Kd.int .i64) (w0:=w) w.heap.size rfl (.tmp 83) (.tmp 85) 51 3 (.int .i64 0) 8 rfl Tryz.underlying51 info3 rfl (by decide) (by omega) zlG bF ((zy l0 zZ).f6) _ _ _ (fun _=>True) (fun _=>False) rfl rfl ?aO ?aR (fun _ _ h=>h) (fun _ h=>h.elim) ?aF ?aB ?aS ?aL ?_;(case aR=>repeat (first | exact (Kd.zh zvb.out HB.out) | (with_reducible refine Kd.lu ?_ _) | (with_reducible refine Kd.lC ?_ _) | (with_reducible refine Kd.zqw ?_)));(case aB=>exact (zD HB.out));(case aF=>exact (fun _ _=>trivial));(case aO=>exact (Yl zVq.out));(case aS=>exact (zm (zD HB.out)));(case aL=>have:=zhG.out;omega);intro zAK w75 ho hb hg hat;rw [← zhH.out] at ho;have ze:=zx.mk (Kd.WT (ok:=(fun k_=>k_ ≠ zf)) (fJ qN.out) hg hat);have zi:=zx.mk (uK (g:=zf) (o:=.cells #[.int .i64 ((zy l0 zZ).f0),.int .i64 ((zy l0 zZ).f1),.int .i64 ((zy l0 zZ).f2),.int .i64 ((zy l0 zZ).f3),.string ((zy l0 zZ).f4),.string ((zy l0 zZ).f5),.slice xL ((zy l0 zZ).f6).length xM] 53 (0,0)) (qK zQ.out) hg (Kd.Qu zVq.out zQ.out (by decide)));have zo:=zx.mk (hb);have zT:=zx.mk (ho);clear qN;clear zQ;clear HB;clear zVq;have qN:=ze;have zQ:=zi;have HB:=zo;have aG:=zT;clear ze zi zo zT;clear ho hb hg hat;obtain ⟨bR,bS,zlH⟩:=Kd.xA aG.out;subst zlH;have zrM:w75.cell? ⟨zf,0,none⟩ = some (.int .i64 ((zy l0 zZ).f0)):=zK zQ 0;have zrN:w75.cell? ⟨zf,1,none⟩ = some (.int .i64 ((zy l0 zZ).f1)):=zK zQ 1;have zrO:w75.cell? ⟨zf,2,none⟩ = some (.int .i64 ((zy l0 zZ).f2)):=zK zQ 2;have zrP:w75.cell? ⟨zf,3,none⟩ = some (.int .i64 ((zy l0 zZ).f3)):=zK zQ 3;have zrR:w75.cell? ⟨zf,4,none⟩ = some (.string ((zy l0 zZ).f4)):=zK zQ 4;have zrS:w75.cell? ⟨zf,5,none⟩ = some (.string ((zy l0 zZ).f5)):=zK zQ 5;have zrT:w75.cell? ⟨zf,6,none⟩ = some (.slice xL ((zy l0 zZ).f6).length xM):=zK zQ 6;have zrU:=zw zQ.out 0;have zr0:=zw zQ.out 1;have zr1:=zw zQ.out 2;have zr2:=zw zQ.out 3;have zr3:=zw zQ.out 4;have zr4:=zw zQ.out 5;have zr5:=zw zQ.out 6) | ((with_reducible refine tV (t:=51) (p:=87) rfl ?_);refine dU (t:=51) (p:=87) (v:=?ztB) (w1:=(w75.setCell ⟨zf,6,none⟩ (.slice bR Qe.length bS))) ?hg ?ho ?hn ?hr ?_;(case ho=>rfl);(case hg=>rfl);(case hn=>rfl);(case hr=>first | (go_simp;done) | (go_simp;rfl));intro lY hw;have ze:zx (Kd.S uj 53 lY w.heap.size (fun k_=>some k_ ≠ (.slice bR Qe.length bS:Value).ownBlock ∧ k_ ≠ zf) u8 uG):=⟨(by rw [hw];exact (by (with_reducible repeat (first | apply Kd.xB | apply Kd.xC | apply Kd.xG));exact Kd.vJ (Kd.ji (p:=⟨zf,6,none⟩) (Kd.vJ qN.out (fun k_ hk=>(⟨hk,hk.1⟩:_ ∧ k_ ≠ zf))) (fun _ hk=>hk.2) (.slice bR Qe.length bS)) (fun _ hk=>⟨hk.1.2,hk.1.1⟩)))⟩;have zi:zx (Kd.R (Kd.int .i64) 3 lY w.heap.size (fun _=>True) (.slice bR Qe.length bS) Qe):=⟨(by rw [hw];exact (Yl (Kd.qO (Kd.wC (p:=⟨zf,6,none⟩) (Kd.uM aG.out zQ.out (by decide)) (fun _ hk=>hk.2) (.slice bR Qe.length bS)) (fun _ hk=>trivial))))⟩;have zo:zx (lY.heap[zf]? = some (.cells #[.int .i64 ((zy l0 zZ).f0),.int .i64 ((zy l0 zZ).f1),.int .i64 ((zy l0 zZ).f2),.int .i64 ((zy l0 zZ).f3),.string ((zy l0 zZ).f4),.string ((zy l0 zZ).f5),.slice bR Qe.length bS] 53 (0,0))):=⟨(by rw [hw];exact (by (with_reducible repeat (first | refine qj ?_ _ | refine y7 ?_ | refine yV ?_ _));refine qz (cs:=#[.int .i64 ((zy l0 zZ).f0),.int .i64 ((zy l0 zZ).f1),.int .i64 ((zy l0 zZ).f2),.int .i64 ((zy l0 zZ).f3),.string ((zy l0 zZ).f4),.string ((zy l0 zZ).f5),.slice xL ((zy l0 zZ).f6).length xM]) ?_ 6 _ rfl;(with_reducible repeat (first | refine qj ?_ _ | refine y7 ?_ | refine yV ?_ _));exact zQ.out))⟩;have zT:zx (Below w.heap.size w lY):=⟨(by rw [hw];exact (zD HB.out))⟩;clear hw;clear qN;clear aG;clear zQ;clear HB;have qN:=ze;have aG:=zi;have zQ:=zo;have HB:=zT;clear ze zi zo zT;have zr6:lY.cell? ⟨zf,0,none⟩ = some (.int .i64 ((zy l0 zZ).f0)):=zK zQ 0;have zr7:lY.cell? ⟨zf,1,none⟩ = some (.int .i64 ((zy l0 zZ).f1)):=zK zQ 1;have zr8:lY.cell? ⟨zf,2,none⟩ = some (.int .i64 ((zy l0 zZ).f2)):=zK zQ 2;have zr9:lY.cell? ⟨zf,3,none⟩ = some (.int .i64 ((zy l0 zZ).f3)):=zK zQ 3;have zsz:lY.cell? ⟨zf,4,none⟩ = some (.string ((zy l0 zZ).f4)):=zK zQ 4;have zsq:lY.cell? ⟨zf,5,none⟩ = some (.string ((zy l0 zZ).f5)):=zK zQ 5;have zsx:lY.cell? ⟨zf,6,none⟩ = some (.slice bR Qe.length bS):=zK zQ 6;have zsj:=zw zQ.out 0;have zsv:=zw zQ.out 1;have zsk:=zw zQ.out 2;have zsy:=zw zQ.out 3;have zsw:=zw zQ.out 4;have zsZ:=zw zQ.out 5;have zsQ:=zw zQ.out 6) | ((with_reducible refine jG (b:=.append) (xs:=#[.tmp 88,.tmp 90]) rfl ?_);(try (refine xO (by rfl) ?_;dsimp only));at_builtin;refine Kd.tu uj (w0:=w) w.heap.size rfl (.tmp 88) (.tmp 90) 34 53 (.agg #[(.int .i64 0),(.int .i64 0),(.int .i64 0),(.int .i64 0),(.string ⟨#[]⟩),(.string ⟨#[]⟩),(.slice none 0 0)]) 88 rfl Tryz.underlying34 gL rfl (by decide) (by omega) u8 uG (⟨((zy l0 zZ).f0),((zy l0 zZ).f1),((zy l0 zZ).f2),((zy l0 zZ).f3),((zy l0 zZ).f4),((zy l0 zZ).f5),Qe⟩:qV) [.int .i64 ((zy l0 zZ).f0),.int .i64 ((zy l0 zZ).f1),.int .i64 ((zy l0 zZ).f2),.int .i64 ((zy l0 zZ).f3),.string ((zy l0 zZ).f4),.string ((zy l0 zZ).f5),.slice bR Qe.length bS] (fun k_=>k_ ≠ zf) (fun k_=>some k_ = (.slice bR Qe.length bS:Value).ownBlock) rfl rfl ?aP (fun k_ vN=>((Kd.qO (ok':=fun k_=>((fun k_=>k_ ≠ zf)) k_ ∧ some k_ ≠ (u8:Value).ownBlock) (Kd.uM (Kd.pI (aG.out) (Kd.Zn qN.out) (by decide)) zQ.out (by decide)) (fun k_ hk=>⟨hk.2,hk.1.2⟩))).1 k_ vN.symm) ?aF ?aO ?aB ?aS ?aL ?_;(case aP=>exact Q6 _ _ _ (⟨((zy l0 zZ).f0),((zy l0 zZ).f1),((zy l0 zZ).f2),((zy l0 zZ).f3),((zy l0 zZ).f4),((zy l0 zZ).f5),Qe⟩:qV) (Kd.qO (Kd.JK rfl (Kd.qO (ok':=fun k_=>((fun k_=>k_ ≠ zf)) k_ ∧ some k_ ≠ (u8:Value).ownBlock) (Kd.uM (Kd.pI (aG.out) (Kd.Zn qN.out) (by decide)) zQ.out (by decide)) (fun k_ hk=>⟨hk.2,hk.1.2⟩))) (fun _ h_=>h_)));(case aB=>exact (zD HB.out));(case aF=>exact (fun k_ hk=>Kd.kC (g:=zf) (o:=.cells #[.int .i64 ((zy l0 zZ).f0),.int .i64 ((zy l0 zZ).f1),.int .i64 ((zy l0 zZ).f2),.int .i64 ((zy l0 zZ).f3),.string ((zy l0 zZ).f4),.string ((zy l0 zZ).f5),.slice bR Qe.length bS] 53 (0,0)) (qK zQ.out) k_ hk));(case aO=>exact (by (with_reducible repeat (first | apply Kd.xB | apply Kd.xC | apply Kd.xG));exact Kd.vJ qN.out (fun k_ hk=>⟨hk.2,fun e_=>hk.1 e_⟩)));(case aS=>exact (zm (zD HB.out)));(case aL=>have:=zhI.out;omega);intro zAY w80 ho hb hg hat;rw [← zhL.out] at ho;have ze:=zx.mk (uK (g:=zf) (o:=.cells #[.int .i64 ((zy l0 zZ).f0),.int .i64 ((zy l0 zZ).f1),.int .i64 ((zy l0 zZ).f2),.int .i64 ((zy l0 zZ).f3),.string ((zy l0 zZ).f4),.string ((zy l0 zZ).f5),.slice bR Qe.length bS] 53 (0,0)) (qK zQ.out) hg (Kd.zqW qN.out (fun _ hk=>hk.2)));have zi:=zx.mk (hb);have zo:=zx.mk (ho);clear zQ;clear HB;clear qN;clear aG;have zQ:=ze;have HB:=zi;have zhM:=zo;clear ze zi zo;clear ho hb hg hat))
             go_roundg iT
             case measure=>have:=WA.out;have:=Qw.out;have:=iR.out;omega
             case rel=>exact ⟨(zeU),(wrap64 (zZ + 1)),(by first | rfl | (simp;done) | (simp [*];done)),H',⟨by have:=WA.out;have:=Qw.out;have:=iR.out;omega⟩,⟨by (with_reducible repeat (first | apply Kd.xB | apply Kd.xC | apply Kd.xG));exact Kd.vJ zhM.out (fun _ hk=>trivial)⟩,⟨zD HB.out⟩⟩
            ·rw [if_neg c71] at H
             exact absurd H (by simp)
           ·rw [if_neg c70] at H
            exact absurd H (by simp)
       ·rw [if_neg c11] at H
        exact absurd H (by simp)
      ·rw [if_neg c10] at H
       have XY:decide (zZ < (l0.length:Int)) = false:=decide_eq_false c10
       clear c10
       simp only [Option.some.injEq,Prod.mk.injEq] at H
       obtain ⟨rfl,rfl⟩:=H
       go_wp2
       go_ret2
       exact ⟨_,by first | rfl | (simp [zH,zI] <;> rfl) | (simp [*,zH,zI] <;> rfl),by (with_reducible repeat (first | apply Kd.xB | apply Kd.xC | apply Kd.xG));exact qN.out,by repeat (first | (with_reducible first | exact HB.out | apply yJ | apply zC | apply yY) | exact HB.out)⟩
end Go.Proofs.YtggifbbiiickmaaGreatDoor.PX
namespace Go.Proofs.YtggifbbiiickmaaGreatDoor.PX
open Go.RowKit Go.Proofs.zk.za Go.Proofs.zk.zS Go.Proofs.zk.zR
attribute [local go_sem] qD qE xJ xV qc qd qF qG   -- for this text's walks alone
set_option linter.unusedVariables false
set_option linter.unusedSimpArgs false
def qL.l0:Nat → List (qV) → Int → Option (Bool)
 | 0,_,_=>none
 | k + 1,x0,x3=>if x3 < (x0.length:Int) then (if 0 ≤ x3 then (if ((zy x0 x3).f1) > 1099511627776 then (some true) else (if ((zy x0 x3).f1) < (-1099511627776) then (some true) else (if (((zy x0 x3).f6).length:Int) > 100 then (some true) else (if (((zy x0 x3).f4).size:Int) > 100 then (some true) else (qL.l0 k x0 (wrap64 (x3 + 1))))))) else (none)) else (some false)
def qL.f (k:Nat) (l0:List (qV)):Option (Bool):=qL.l0 k l0 0
set_option maxHeartbeats 8000000 in
set_option maxRecDepth 100000 in
theorem qL.calls (k:Nat) (A0:Option Addr) (c0:Nat) (l0:List (qV)) (r:Bool) (w:World) (hr0:Kd.C uj w A0 l0.length l0) (hc0:l0.length ≤ c0) (h:qL.f k l0 = some r) :
  Calls Tryz.prog 24 #[.slice A0 l0.length c0] w fun e w'=>e = .returned (.bool r) ∧ yc w w':=by
 have jm:=zx.mk hr0
 have HC0:=zx.mk hc0
 clear hr0 hc0
 have H:(qL.l0 k l0 0) = some r:=h
 clear h
 have H':=zx.mk H
 clear H
 go_enter Tryz.func24,Tryz.ntmps24
 go_wp2
 go_loopg [3] k (fun kq v3 w'=>∃ (yQ:Int),v3 = .int .i64 yQ ∧ zx (qL.l0 kq l0 yQ = some r) ∧ zx (kq ≤ k) ∧ yc w w')
 case atStart=>exact ⟨(0),(by first | rfl | (simp;done) | (simp [*];done)),H',⟨Nat.le_refl _⟩,by repeat (first | exact yc.refl _ | apply yc.step)⟩
 case round =>
  clear H'
  obtain ⟨yQ,rfl,HA,wo,⟨m1,rfl⟩⟩:=hrel
  cases gk with
  | zero=>exact absurd HA.out (by simp [qL.l0])
  | succ k1 =>
   have H:=HA.out
   clear HA
   simp only [qL.l0] at H
   by_cases c2:yQ < (l0.length:Int)
   ·rw [if_pos c2] at H
    have bQ:decide (yQ < (l0.length:Int)) = true:=decide_eq_true c2
    clear c2
    by_cases c3:0 ≤ yQ
    ·rw [if_pos c3] at H
     have ZN:decide (0 ≤ yQ) = true:=decide_eq_true c3
     clear c3
     by_cases c4:((zy l0 yQ).f1) > 1099511627776
     ·rw [if_pos c4] at H
      have QX:decide (1099511627776 < ((zy l0 yQ).f1)) = true:=decide_eq_true c4
      clear c4
      obtain rfl:=Option.some.inj H
      have YC:0 ≤ (yQ:Int):=of_decide_eq_true yH
      have YD:yQ < (l0.length:Int):=of_decide_eq_true yH
      obtain ⟨Qy,zq7,zq8,aH,o9,zzq,zzx,zzj,zzv,zzk,ZX,pF,pG⟩:=kQ jm.out yQ YC YD
      cases aH
      have zzy:=zx.mk pG
      have zzw:=zx.mk pF
      clear pG pF
      replace YC:=eq_true YC
      replace YD:=eq_true YD
      go_wp2
      go_ret
      exact ⟨by first | rfl | (simp;done) | (simp [*];done),by repeat (first | exact yc.refl _ | apply yc.step)⟩
     ·rw [if_neg c4] at H
      have QX:decide (1099511627776 < ((zy l0 yQ).f1)) = false:=decide_eq_false c4
      clear c4
      by_cases c5:((zy l0 yQ).f1) < (-1099511627776)
      ·rw [if_pos c5] at H
       have wM:decide (((zy l0 yQ).f1) < (-1099511627776)) = true:=decide_eq_true c5
       clear c5
       obtain rfl:=Option.some.inj H
       have YC:0 ≤ (yQ:Int):=of_decide_eq_true yH
       have YD:yQ < (l0.length:Int):=of_decide_eq_true yH
       obtain ⟨Qy,zq7,zq8,aH,o9,zzq,zzx,zzj,zzv,zzk,ZX,pF,pG⟩:=kQ jm.out yQ YC YD
       cases aH
       have zzy:=zx.mk pG
       have zzw:=zx.mk pF
       clear pG pF
       replace YC:=eq_true YC
       replace YD:=eq_true YD
       have QL:0 ≤ (yQ:Int):=of_decide_eq_true yH
       have QM:yQ < (l0.length:Int):=of_decide_eq_true yH
       obtain ⟨aI,zyC,zyD,zqq,zvi,zvl,zvm,zvn,zvo,zvp,KT,Ye,Yf⟩:=kQ jm.out yQ QL QM
       obtain rfl:Qy = aI:=(by injection zqq)
       have zvr:=zx.mk Yf
       have zvs:=zx.mk Ye
       clear Yf Ye
       replace QL:=eq_true QL
       replace QM:=eq_true QM
       have yO:=Option.some.inj (ZX.symm.trans KT)
       injection yO with yO vL vM
       subst yO
       subst vM
       clear vL
       go_wp2
       go_ret
       exact ⟨by first | rfl | (simp;done) | (simp [*];done),by repeat (first | exact yc.refl _ | apply yc.step)⟩
      ·rw [if_neg c5] at H
       have wM:decide (((zy l0 yQ).f1) < (-1099511627776)) = false:=decide_eq_false c5
       clear c5
       by_cases c6:(((zy l0 yQ).f6).length:Int) > 100
       ·rw [if_pos c6] at H
        have kD:decide (100 < (((zy l0 yQ).f6).length:Int)) = true:=decide_eq_true c6
        have gq:decide (100 < ((zy l0 yQ).f6).length) = true:=decide_eq_true (by omega)
        clear c6
        obtain rfl:=Option.some.inj H
        have YC:0 ≤ (yQ:Int):=of_decide_eq_true yH
        have YD:yQ < (l0.length:Int):=of_decide_eq_true yH
        obtain ⟨Qy,zq7,zq8,aH,o9,zzq,zzx,zzj,zzv,zzk,ZX,pF,pG⟩:=kQ jm.out yQ YC YD
        cases aH
        have zzy:=zx.mk pG
        have zzw:=zx.mk pF
        clear pG pF
        replace YC:=eq_true YC
        replace YD:=eq_true YD
        have QL:0 ≤ (yQ:Int):=of_decide_eq_true yH
        have QM:yQ < (l0.length:Int):=of_decide_eq_true yH
        obtain ⟨aI,zyC,zyD,zqq,zvi,zvl,zvm,zvn,zvo,zvp,KT,Ye,Yf⟩:=kQ jm.out yQ QL QM
        obtain rfl:Qy = aI:=(by injection zqq)
        have zvr:=zx.mk Yf
        have zvs:=zx.mk Ye
        clear Yf Ye
        replace QL:=eq_true QL
        replace QM:=eq_true QM
        have yO:=Option.some.inj (ZX.symm.trans KT)
        injection yO with yO vL vM
        subst yO
        subst vM
        clear vL
        have bT:0 ≤ (yQ:Int):=of_decide_eq_true yH
        have bU:yQ < (l0.length:Int):=of_decide_eq_true yH
        obtain ⟨zq9,zKo,zKp,zyE,zXu,zXA,zXB,zXC,zXD,zXE,tq,U5,U6⟩:=kQ jm.out yQ bT bU
        obtain rfl:Qy = zq9:=(by injection zyE)
        have zXF:=zx.mk U6
        have zXG:=zx.mk U5
        clear U6 U5
        replace bT:=eq_true bT
        replace bU:=eq_true bU
        have yO:=Option.some.inj (ZX.symm.trans tq)
        injection yO with yO vL vM
        subst yO
        subst vM
        clear vL
        go_wp2
        go_ret
        exact ⟨by first | rfl | (simp;done) | (simp [*];done),by repeat (first | exact yc.refl _ | apply yc.step)⟩
       ·rw [if_neg c6] at H
        have kD:decide (100 < (((zy l0 yQ).f6).length:Int)) = false:=decide_eq_false c6
        have gq:decide (100 < ((zy l0 yQ).f6).length) = false:=decide_eq_false (by omega)
        clear c6
        by_cases c7:(((zy l0 yQ).f4).size:Int) > 100
        ·rw [if_pos c7] at H
         have Wn:decide (100 < (((zy l0 yQ).f4).size:Int)) = true:=decide_eq_true c7
         have zzB:decide (100 < ((zy l0 yQ).f4).size) = true:=decide_eq_true (by omega)
         clear c7
         obtain rfl:=Option.some.inj H
         have YC:0 ≤ (yQ:Int):=of_decide_eq_true yH
         have YD:yQ < (l0.length:Int):=of_decide_eq_true yH
         obtain ⟨Qy,zq7,zq8,aH,o9,zzq,zzx,zzj,zzv,zzk,ZX,pF,pG⟩:=kQ jm.out yQ YC YD
         cases aH
         have zzy:=zx.mk pG
         have zzw:=zx.mk pF
         clear pG pF
         replace YC:=eq_true YC
         replace YD:=eq_true YD
         have QL:0 ≤ (yQ:Int):=of_decide_eq_true yH
         have QM:yQ < (l0.length:Int):=of_decide_eq_true yH
         obtain ⟨aI,zyC,zyD,zqq,zvi,zvl,zvm,zvn,zvo,zvp,KT,Ye,Yf⟩:=kQ jm.out yQ QL QM
         obtain rfl:Qy = aI:=(by injection zqq)
         have zvr:=zx.mk Yf
         have zvs:=zx.mk Ye
         clear Yf Ye
         replace QL:=eq_true QL
         replace QM:=eq_true QM
         have yO:=Option.some.inj (ZX.symm.trans KT)
         injection yO with yO vL vM
         subst yO
         subst vM
         clear vL
         have bT:0 ≤ (yQ:Int):=of_decide_eq_true yH
         have bU:yQ < (l0.length:Int):=of_decide_eq_true yH
         obtain ⟨zq9,zKo,zKp,zyE,zXu,zXA,zXB,zXC,zXD,zXE,tq,U5,U6⟩:=kQ jm.out yQ bT bU
         obtain rfl:Qy = zq9:=(by injection zyE)
         have zXF:=zx.mk U6
         have zXG:=zx.mk U5
         clear U6 U5
         replace bT:=eq_true bT
         replace bU:=eq_true bU
         have yO:=Option.some.inj (ZX.symm.trans tq)
         injection yO with yO vL vM
         subst yO
         subst vM
         clear vL
         have zqx:0 ≤ (yQ:Int):=of_decide_eq_true yH
         have zqj:yQ < (l0.length:Int):=of_decide_eq_true yH
         obtain ⟨zVx,ze0,ze1,zWr,zc8,zc9,zdz,zdq,zdx,zdj,zvt,tZ,tQ⟩:=kQ jm.out yQ zqx zqj
         obtain rfl:Qy = zVx:=(by injection zWr)
         have zdv:=zx.mk tQ
         have zdk:=zx.mk tZ
         clear tQ tZ
         replace zqx:=eq_true zqx
         replace zqj:=eq_true zqj
         have yO:=Option.some.inj (ZX.symm.trans zvt)
         injection yO with yO vL vM
         subst yO
         subst vM
         clear vL
         go_wp2
         go_ret
         exact ⟨by first | rfl | (simp;done) | (simp [*];done),by repeat (first | exact yc.refl _ | apply yc.step)⟩
        ·rw [if_neg c7] at H
         have Wn:decide (100 < (((zy l0 yQ).f4).size:Int)) = false:=decide_eq_false c7
         have zzB:decide (100 < ((zy l0 yQ).f4).size) = false:=decide_eq_false (by omega)
         clear c7
         have H':=zx.mk H
         clear H
         have YC:0 ≤ (yQ:Int):=of_decide_eq_true yH
         have YD:yQ < (l0.length:Int):=of_decide_eq_true yH
         obtain ⟨Qy,zq7,zq8,aH,o9,zzq,zzx,zzj,zzv,zzk,ZX,pF,pG⟩:=kQ jm.out yQ YC YD
         cases aH
         have zzy:=zx.mk pG
         have zzw:=zx.mk pF
         clear pG pF
         replace YC:=eq_true YC
         replace YD:=eq_true YD
         have QL:0 ≤ (yQ:Int):=of_decide_eq_true yH
         have QM:yQ < (l0.length:Int):=of_decide_eq_true yH
         obtain ⟨aI,zyC,zyD,zqq,zvi,zvl,zvm,zvn,zvo,zvp,KT,Ye,Yf⟩:=kQ jm.out yQ QL QM
         obtain rfl:Qy = aI:=(by injection zqq)
         have zvr:=zx.mk Yf
         have zvs:=zx.mk Ye
         clear Yf Ye
         replace QL:=eq_true QL
         replace QM:=eq_true QM
         have yO:=Option.some.inj (ZX.symm.trans KT)
         injection yO with yO vL vM
         subst yO
         subst vM
         clear vL
         have bT:0 ≤ (yQ:Int):=of_decide_eq_true yH
         have bU:yQ < (l0.length:Int):=of_decide_eq_true yH
         obtain ⟨zq9,zKo,zKp,zyE,zXu,zXA,zXB,zXC,zXD,zXE,tq,U5,U6⟩:=kQ jm.out yQ bT bU
         obtain rfl:Qy = zq9:=(by injection zyE)
         have zXF:=zx.mk U6
         have zXG:=zx.mk U5
         clear U6 U5
         replace bT:=eq_true bT
         replace bU:=eq_true bU
         have yO:=Option.some.inj (ZX.symm.trans tq)
         injection yO with yO vL vM
         subst yO
         subst vM
         clear vL
         have zqx:0 ≤ (yQ:Int):=of_decide_eq_true yH
         have zqj:yQ < (l0.length:Int):=of_decide_eq_true yH
         obtain ⟨zVx,ze0,ze1,zWr,zc8,zc9,zdz,zdq,zdx,zdj,zvt,tZ,tQ⟩:=kQ jm.out yQ zqx zqj
         obtain rfl:Qy = zVx:=(by injection zWr)
         have zdv:=zx.mk tQ
         have zdk:=zx.mk tZ
         clear tQ tZ
         replace zqx:=eq_true zqx
         replace zqj:=eq_true zqj
         have yO:=Option.some.inj (ZX.symm.trans zvt)
         injection yO with yO vL vM
         subst yO
         subst vM
         clear vL
         go_wp2
         go_roundg k1
         case measure=>have:=wo.out;omega
         case rel=>exact ⟨(wrap64 (yQ + 1)),(by first | rfl | (simp;done) | (simp [*];done)),H',⟨by have:=wo.out;omega⟩,by repeat (first | exact yc.refl _ | apply yc.step)⟩
    ·rw [if_neg c3] at H
     exact absurd H (by simp)
   ·rw [if_neg c2] at H
    have bQ:decide (yQ < (l0.length:Int)) = false:=decide_eq_false c2
    clear c2
    obtain rfl:=Option.some.inj H
    go_wp2
    go_ret
    exact ⟨by first | rfl | (simp;done) | (simp [*];done),by repeat (first | exact yc.refl _ | apply yc.step)⟩
end Go.Proofs.YtggifbbiiickmaaGreatDoor.PX
namespace Go.Proofs.YtggifbbiiickmaaGreatDoor.PX
open Go.RowKit Go.Proofs.zk.za Go.Proofs.zk.zS Go.Proofs.zk.zR
attribute [local go_sem] qD qE xJ xV qc qd qF qG   -- for this text's walks alone
set_option linter.unusedVariables false
set_option linter.unusedSimpArgs false
def yg.j0:Nat → List (qV) → Int → Bool → List (jd) → Option (Bool)
 | 0,_,_,_,_=>none
 | k + 1,x1,x2,x21,zXH=>if x21 = true then ((xk.f).bind fun zvu=>(some zvu)) else ((xY.f zXH).bind fun pK=>((kF.f x1 x2 pK).bind fun dS=>((xY.f zXH).bind fun Zy=>((zW.f k Zy).bind fun Zd=>((zY.f k x1 x2 Zd).bind fun ZC=>(if dS.2 = ZC.2 then ((yK.f k dS.1 ZC.1).bind fun Qf=>(if Qf = true then ((xk.f).bind fun Yg=>(some Yg)) else (some false))) else (some false)))))))
def yg.f (k:Nat) (yt:List (jd)) (l1:List (qV)) (a2:Int):Option (Bool):=(qZ.f k yt).bind fun zvA=>(if zvA = true then (yg.j0 k l1 a2 true yt) else (if (l1.length:Int) > 200 then (yg.j0 k l1 a2 true yt) else ((qL.f k l1).bind fun cZ=>(yg.j0 k l1 a2 cZ yt))))
set_option maxHeartbeats 8000000 in
set_option maxRecDepth 100000 in
theorem yg.calls (k:Nat) (qH:Option Addr) (qI:Nat) (yt:List (jd)) (A1:Option Addr) (c1:Nat) (l1:List (qV)) (a2:Int) (r:Bool) (w:World) (zqL:Kd.C kP w qH yt.length yt) (zqM:yt.length ≤ qI) (hr1:Kd.C uj w A1 l1.length l1) (hc1:l1.length ≤ c1) (hG:GW w) (h:yg.f k yt l1 a2 = some r) :
  Calls Tryz.prog 7 #[.agg #[.slice qH yt.length qI],.slice A1 l1.length c1,.int .i64 a2] w fun e w'=>e = .returned (.bool r) ∧ Below w.heap.size w w':=by
 have zeI:=Tryz.underlying24
 have HG:=zx.mk hG
 clear hG
 have X7:=zx.mk zqL
 have Wy:=zx.mk zqM
 clear zqL zqM
 have HR1:=zx.mk hr1
 have HC1:=zx.mk hc1
 clear hr1 hc1
 have HB:=zx.mk (Below.refl w.heap.size w)
 have H:((qZ.f k yt).bind fun zvA=>(if zvA = true then (yg.j0 k l1 a2 true yt) else (if (l1.length:Int) > 200 then (yg.j0 k l1 a2 true yt) else ((qL.f k l1).bind fun cZ=>(yg.j0 k l1 a2 cZ yt))))) = some r:=h
 clear h
 have iQ:=zx.mk H
 clear H
 go_enter Tryz.func7,Tryz.ntmps7
 go_upto_region 1 with (first | ((with_reducible refine qQ (N:=3) rfl ?_);(try (refine xO (by rfl) ?_;dsimp only));refine qC ?hg (N:=3) ?hd (cs:=#[.slice qH yt.length qI]) (t:=24) ?hr ?_;(case hd=>rfl);(case hg=>rfl);(case hr=>first | (go_simp;done) | (go_simp;rfl));intro qB hg w5 qo hb;have ze:=zx.mk (zu (zD HB.out) hb);have zi:=zx.mk (qo);have zo:=zx.mk ((by rw [hg];exact (zm (zD HB.out)):w.heap.size ≤ qB));have zT:=zx.mk ((by rw [hg];exact (zm (zD HB.out)):w.heap.size ≤ qB));clear HB;have HB:=ze;have yC:=zi;have zzZ:=zo;have zkw:=zT;clear ze zi zo zT;clear hb qo hg))
 (try simp only [Act.put,List.setIfInBounds_toArray,List.set_cons_zero,List.set_cons_succ])
 go_cut [21] (fun v21 wc=>∃ (kq:Nat) (zkZ:Bool),v21 = .bool zkZ ∧ zx (yg.j0 kq l1 a2 zkZ yt = some r) ∧ zx (kq ≤ k) ∧ zx (wc.heap[qB]? = some (.cells #[(.slice qH yt.length qI)] 24 (0,0))) ∧ zx (Below w.heap.size w wc))
 case first =>
  have H:=iQ.out
  clear iQ
  replace H:=Option.bind_eq_some_iff.mp H
  obtain ⟨zvA,A60,H⟩:=H
  replace H:(if zvA = true then (yg.j0 k l1 a2 true yt) else (if (l1.length:Int) > 200 then (yg.j0 k l1 a2 true yt) else ((qL.f k l1).bind fun cZ=>(yg.j0 k l1 a2 cZ yt)))) = some r:=H
  have A6:=zx.mk A60
  clear A60
  by_cases c7:zvA = true
  ·subst c7
   have H1:(yg.j0 k l1 a2 true yt) = some r:=by rw [if_pos rfl] at H;exact H
   clear H
   have H:=H1
   clear H1
   have H':=zx.mk H
   clear H
   have zko:w5.cell? ⟨qB,0,none⟩ = some (.slice qH yt.length qI):=zK yC 0
   have zkp:=zw yC.out 0
   go_wp2_with (first | ((with_reducible refine yx (f:=10) rfl ?_);refine uD (some 12) Tryz.func10 #[.agg #[.slice qH yt.length qI]] ?_;(with_reducible refine (qZ.calls k _ _ yt true _ ?yh ?yD A6.out).mono ?_);(case yh=>exact qM (Kd.zh X7.out HB.out));(case yD=>exact Wy.out);rintro e w9 ⟨rfl,hb⟩;refine ⟨_,rfl,?_⟩;have ze:=zx.mk (zM (g:=qB) (o:=.cells #[.slice qH yt.length qI] 24 (0,0)) (qK yC.out) hb);have zi:=zx.mk (zu (zD HB.out) hb);clear yC;clear HB;have yC:=ze;have HB:=zi;clear ze zi;(try clear hb);(try clear hi)))
   go_meet
   case rel=>exact ⟨_,(true),(by first | rfl | (simp;done) | (simp [*];done)),H',⟨by first | omega | exact Nat.le_refl _⟩,⟨qK yC.out⟩,⟨zD HB.out⟩⟩
  ·replace c7:=Bool.eq_false_iff.mpr c7
   subst c7
   have H1:(if (l1.length:Int) > 200 then (yg.j0 k l1 a2 true yt) else ((qL.f k l1).bind fun cZ=>(yg.j0 k l1 a2 cZ yt))) = some r:=by rw [if_neg (show ¬ (false = true) by decide)] at H;exact H
   clear H
   have H:=H1
   clear H1
   by_cases c10:(l1.length:Int) > 200
   ·rw [if_pos c10] at H
    have XY:decide (200 < (l1.length:Int)) = true:=decide_eq_true c10
    have l9:decide (200 < l1.length) = true:=decide_eq_true (by omega)
    clear c10
    (first | rw [XY] | (simp only [vv,vk];rw [XY]) | skip)
    have H':=zx.mk H
    clear H
    have gN:w5.cell? ⟨qB,0,none⟩ = some (.slice qH yt.length qI):=zK yC 0
    have gP:=zw yC.out 0
    go_wp2_with (first | ((with_reducible refine yx (f:=10) rfl ?_);refine uD (some 12) Tryz.func10 #[.agg #[.slice qH yt.length qI]] ?_;(with_reducible refine (qZ.calls k _ _ yt false _ ?yh ?yD A6.out).mono ?_);(case yh=>exact qM (Kd.zh X7.out HB.out));(case yD=>exact Wy.out);rintro e dK ⟨rfl,hb⟩;refine ⟨_,rfl,?_⟩;have ze:=zx.mk (zM (g:=qB) (o:=.cells #[.slice qH yt.length qI] 24 (0,0)) (qK yC.out) hb);have zi:=zx.mk (zu (zD HB.out) hb);clear yC;clear HB;have yC:=ze;have HB:=zi;clear ze zi;(try clear hb);(try clear hi)))
    go_meet
    case rel=>exact ⟨_,(true),(by first | rfl | (simp;done) | (simp [*];done)),H',⟨by first | omega | exact Nat.le_refl _⟩,⟨qK yC.out⟩,⟨zD HB.out⟩⟩
   ·rw [if_neg c10] at H
    have XY:decide (200 < (l1.length:Int)) = false:=decide_eq_false c10
    have l9:decide (200 < l1.length) = false:=decide_eq_false (by omega)
    clear c10
    (first | rw [XY] | (simp only [vv,vk];rw [XY]) | skip)
    replace H:=Option.bind_eq_some_iff.mp H
    obtain ⟨cZ,ze2,H⟩:=H
    replace H:(yg.j0 k l1 a2 cZ yt) = some r:=H
    have A13:=zx.mk ze2
    clear ze2
    have H':=zx.mk H
    clear H
    have XA:w5.cell? ⟨qB,0,none⟩ = some (.slice qH yt.length qI):=zK yC 0
    have XB:=zw yC.out 0
    go_wp2_with (first | ((with_reducible refine yx (f:=10) rfl ?_);refine uD (some 12) Tryz.func10 #[.agg #[.slice qH yt.length qI]] ?_;(with_reducible refine (qZ.calls k _ _ yt false _ ?yh ?yD A6.out).mono ?_);(case yh=>exact qM (Kd.zh X7.out HB.out));(case yD=>exact Wy.out);rintro e WW ⟨rfl,hb⟩;refine ⟨_,rfl,?_⟩;have ze:=zx.mk (zM (g:=qB) (o:=.cells #[.slice qH yt.length qI] 24 (0,0)) (qK yC.out) hb);have zi:=zx.mk (zu (zD HB.out) hb);clear yC;clear HB;have yC:=ze;have HB:=zi;clear ze zi;(try clear hb);(try clear hi)) | (go_at_call 24;(with_reducible refine (qL.calls k _ _ l1 cZ _ ?yh ?yD A13.out).mono ?_);(case yh=>exact qM (Kd.zh HR1.out HB.out));(case yD=>exact HC1.out);rintro e w' ⟨rfl,⟨nd,rfl⟩⟩))
    go_meet
    case rel=>exact ⟨_,(cZ),(by first | rfl | (simp;done) | (simp [*];done)),H',⟨by first | omega | exact Nat.le_refl _⟩,⟨qK yC.out⟩,⟨zD HB.out⟩⟩
 case rest =>
  clear iQ
  try clear c1
  try clear c7
  try clear c10
  try clear XY
  try clear l9
  try clear gN
  try clear XA
  try clear zko
  try clear gP
  try clear XB
  try clear zkp
  obtain ⟨kq,zkZ,rfl,HA,WA,yC,HB⟩:=hcut
  cases kq with
  | zero=>exact absurd HA.out (by simp [yg.j0])
  | succ ZY =>
   have H:=HA.out
   clear HA
   simp only [yg.j0] at H
   by_cases c16:zkZ = true
   ·subst c16
    have H1:((xk.f).bind fun zvu=>(some zvu)) = some r:=by rw [if_pos rfl] at H;exact H
    clear H
    have H:=H1
    clear H1
    replace H:=Option.bind_eq_some_iff.mp H
    obtain ⟨zvu,ze3,H⟩:=H
    replace H:(some zvu) = some r:=H
    have A17:=zx.mk ze3
    clear ze3
    obtain rfl:=Option.some.inj H
    go_wp2_with (first | ((with_reducible refine yx (f:=11) rfl ?_);refine uD (some 22) Tryz.func11 #[] ?_;(with_reducible refine (xk.calls  zvu _ ?yh A17.out).mono ?_);(case yh=>exact GW.under HG.out (zD HB.out));rintro e w18 ⟨rfl,hb⟩;refine ⟨_,rfl,?_⟩;have ze:=zx.mk (zM (g:=qB) (o:=.cells #[.slice qH yt.length qI] 24 (0,0)) (qK yC.out) hb);have zi:=zx.mk (zu (zD HB.out) hb);clear yC;clear HB;have yC:=ze;have HB:=zi;clear ze zi;(try clear hb);(try clear hi)))
    go_ret
    exact ⟨by first | rfl | (simp [zH,zI] <;> rfl) | (simp [*,zH,zI] <;> rfl),by repeat (first | (with_reducible first | exact HB.out | apply yJ | apply zC | apply yY | refine qm ?_ zkw.out) | exact HB.out)⟩
   ·replace c16:=Bool.eq_false_iff.mpr c16
    subst c16
    have H1:((xY.f yt).bind fun pK=>((kF.f l1 a2 pK).bind fun dS=>((xY.f yt).bind fun Zy=>((zW.f ZY Zy).bind fun Zd=>((zY.f ZY l1 a2 Zd).bind fun ZC=>(if dS.2 = ZC.2 then ((yK.f ZY dS.1 ZC.1).bind fun Qf=>(if Qf = true then ((xk.f).bind fun Yg=>(some Yg)) else (some false))) else (some false))))))) = some r:=by rw [if_neg (show ¬ (false = true) by decide)] at H;exact H
    clear H
    have H:=H1
    clear H1
    replace H:=Option.bind_eq_some_iff.mp H
    obtain ⟨pK,ze4,H⟩:=H
    replace H:((kF.f l1 a2 pK).bind fun dS=>((xY.f yt).bind fun Zy=>((zW.f ZY Zy).bind fun Zd=>((zY.f ZY l1 a2 Zd).bind fun ZC=>(if dS.2 = ZC.2 then ((yK.f ZY dS.1 ZC.1).bind fun Qf=>(if Qf = true then ((xk.f).bind fun Yg=>(some Yg)) else (some false))) else (some false)))))) = some r:=H
    have A19:=zx.mk ze4
    clear ze4
    replace H:=Option.bind_eq_some_iff.mp H
    obtain ⟨⟨aT,Wt⟩,ze5,H⟩:=H
    replace H:((xY.f yt).bind fun Zy=>((zW.f ZY Zy).bind fun Zd=>((zY.f ZY l1 a2 Zd).bind fun ZC=>(if Wt = ZC.2 then ((yK.f ZY aT ZC.1).bind fun Qf=>(if Qf = true then ((xk.f).bind fun Yg=>(some Yg)) else (some false))) else (some false))))) = some r:=H
    have A20:=zx.mk ze5
    clear ze5
    replace H:=Option.bind_eq_some_iff.mp H
    obtain ⟨Zy,ze6,H⟩:=H
    replace H:((zW.f ZY Zy).bind fun Zd=>((zY.f ZY l1 a2 Zd).bind fun ZC=>(if Wt = ZC.2 then ((yK.f ZY aT ZC.1).bind fun Qf=>(if Qf = true then ((xk.f).bind fun Yg=>(some Yg)) else (some false))) else (some false)))) = some r:=H
    have A21:=zx.mk ze6
    clear ze6
    replace H:=Option.bind_eq_some_iff.mp H
    obtain ⟨Zd,ze7,H⟩:=H
    replace H:((zY.f ZY l1 a2 Zd).bind fun ZC=>(if Wt = ZC.2 then ((yK.f ZY aT ZC.1).bind fun Qf=>(if Qf = true then ((xk.f).bind fun Yg=>(some Yg)) else (some false))) else (some false))) = some r:=H
    have A22:=zx.mk ze7
    clear ze7
    replace H:=Option.bind_eq_some_iff.mp H
    obtain ⟨⟨zvB,aU⟩,ze8,H⟩:=H
    replace H:(if Wt = aU then ((yK.f ZY aT zvB).bind fun Qf=>(if Qf = true then ((xk.f).bind fun Yg=>(some Yg)) else (some false))) else (some false)) = some r:=H
    have A23:=zx.mk ze8
    clear ze8
    by_cases c24:Wt = aU
    ·rw [if_pos c24] at H
     have zkx:(Wt == aU) = true:=beq_iff_eq.mpr c24
     have zhN:(Wt != aU) = false:=bne_eq_false_iff_eq.mpr c24
     clear c24
     replace H:=Option.bind_eq_some_iff.mp H
     obtain ⟨Qf,ze9,H⟩:=H
     replace H:(if Qf = true then ((xk.f).bind fun Yg=>(some Yg)) else (some false)) = some r:=H
     have A25:=zx.mk ze9
     clear ze9
     by_cases c26:Qf = true
     ·subst c26
      have H1:((xk.f).bind fun Yg=>(some Yg)) = some r:=by rw [if_pos rfl] at H;exact H
      clear H
      have H:=H1
      clear H1
      replace H:=Option.bind_eq_some_iff.mp H
      obtain ⟨Yg,zfz,H⟩:=H
      replace H:(some Yg) = some r:=H
      have A27:=zx.mk zfz
      clear zfz
      obtain rfl:=Option.some.inj H
      have zj1:wc.cell? ⟨qB,0,none⟩ = some (.slice qH yt.length qI):=zK yC 0
      have zj2:=zw yC.out 0
      go_wp2_with (first | ((with_reducible refine yx (f:=12) rfl ?_);refine uD (some 27) Tryz.func12 #[.agg #[.slice qH yt.length qI]] ?_;(with_reducible refine (xY.calls (fun k_=>k_ < w.heap.size) _ _ yt pK _ ?yh ?yD A19.out).mono ?_);(case yh=>exact Kd.zxJ Wy.out (Kd.YM (Kd.C_F Ja X7.out) (zD HB.out)));(case yD=>exact GW.under HG.out (zD HB.out));rintro e w29 ⟨zfq,rfl,ho0,hb⟩;refine ⟨_,rfl,?_⟩;have ze:=zx.mk (Kd.wh (Kd.wL (ok':=fun k_=>k_ ≠ qB) ho0 (fun k_ vN=>Or.elim vN (fun hs_=>fun e_=>Nat.not_le.2 hs_ (by rw [e_];exact zzZ.out)) (fun Xh=>(Kd.kC (g:=qB) (o:=.cells #[.slice qH yt.length qI] 24 (0,0)) (qK yC.out) k_ Xh)))) (zm (zD HB.out)));have zi:=zx.mk (zM (g:=qB) (o:=.cells #[.slice qH yt.length qI] 24 (0,0)) (qK yC.out) hb);have zo:=zx.mk (zu (zD HB.out) hb);clear yC;clear HB;have qh:=ze;have yC:=zi;have HB:=zo;clear ze zi zo;(try clear hb);(try clear ho0);obtain ⟨zyF,zyG,zlI⟩:=Kd.ZQ qh.out;subst zlI) | ((with_reducible refine yx (f:=25) rfl ?_);refine uD (some 28) Tryz.func25 #[.slice A1 l1.length c1,.int .i64 a2,.slice zyF pK.length zyG] ?_;(with_reducible refine (kF.calls _ _ l1 a2 _ _ pK aT Wt _ ?yh ?yD ?qX ?qJ ?qR A20.out).mono ?_);(case yh=>exact qM (Kd.zh HR1.out HB.out));(case yD=>exact HC1.out);(case qX=>exact qM ((Kd.vF qh.out).2.2));(case qJ=>exact (Kd.vF qh.out).2.1);(case qR=>exact GW.under HG.out (zD HB.out));rintro e w31 ⟨cB,rfl,ho0,hb⟩;refine ⟨_,rfl,?_⟩;have ze:=zx.mk (Kd.xS (vK qh.out) (Kd.jf ho0) hb);have zi:=zx.mk (Kd.wh (Kd.wL (ok':=fun k_=>some k_ ≠ (.slice zyF pK.length zyG:Value).ownBlock ∧ k_ ≠ qB) (Kd.S_N (Kd.Zm ho0)) (fun k_ vN=>⟨(Kd.fresh' (Kd.kR (vK qh.out)) k_ vN.2.1),(Kd.kC (g:=qB) (o:=.cells #[.slice qH yt.length qI] 24 (0,0)) (qK yC.out) k_ vN.2.1)⟩)) (zm (zD HB.out)));have zo:=zx.mk (zM (g:=qB) (o:=.cells #[.slice qH yt.length qI] 24 (0,0)) (qK yC.out) hb);have zT:=zx.mk (zu (zD HB.out) hb);clear qh;clear yC;clear HB;have qh:=ze;have xX:=zi;have yC:=zo;have HB:=zT;clear ze zi zo zT;(try clear hb);(try clear ho0);have oF:w31.cell? ⟨qB,0,none⟩ = some (.slice qH yt.length qI):=zK yC 0;have oG:=zw yC.out 0) | ((with_reducible refine yx (f:=12) rfl ?_);refine uD (some 35) Tryz.func12 #[.agg #[.slice qH yt.length qI]] ?_;(with_reducible refine (xY.calls (fun k_=>k_ < w.heap.size) _ _ yt Zy _ ?yh ?yD A21.out).mono ?_);(case yh=>exact Kd.zxJ Wy.out (Kd.YM (Kd.C_F Ja X7.out) (zD HB.out)));(case yD=>exact GW.under HG.out (zD HB.out));rintro e w33 ⟨zfx,rfl,ho0,hb⟩;refine ⟨_,rfl,?_⟩;have ze:=zx.mk (Kd.xS (vK qh.out) (Kd.YG ho0) hb);have zi:=zx.mk (Kd.xS (vK xX.out) (Kd.YG ho0) hb);have zo:=zx.mk (Kd.wh (Kd.wL (ok':=fun k_=>some k_ ≠ (.slice zyF pK.length zyG:Value).ownBlock ∧ some k_ ≠ (cB:Value).ownBlock ∧ k_ ≠ qB) ho0 (fun k_ vN=>⟨Or.elim vN (fun hs_=>fun e_=>Nat.not_le.2 hs_ (Kd.YG qh.out k_ e_.symm)) (fun Xh=>(Kd.fresh' (Kd.kR (vK qh.out)) k_ Xh)),Or.elim vN (fun hs_=>fun e_=>Nat.not_le.2 hs_ (Kd.YG xX.out k_ e_.symm)) (fun Xh=>(Kd.fresh' (Kd.kR (vK xX.out)) k_ Xh)),Or.elim vN (fun hs_=>fun e_=>Nat.not_le.2 hs_ (by rw [e_];exact zzZ.out)) (fun Xh=>(Kd.kC (g:=qB) (o:=.cells #[.slice qH yt.length qI] 24 (0,0)) (qK yC.out) k_ Xh))⟩)) (zm (zD HB.out)));have zT:=zx.mk (zM (g:=qB) (o:=.cells #[.slice qH yt.length qI] 24 (0,0)) (qK yC.out) hb);have qU:=zx.mk (zu (zD HB.out) hb);clear qh;clear xX;clear yC;clear HB;have qh:=ze;have xX:=zi;have vY:=zo;have yC:=zT;have HB:=qU;clear ze zi zo zT qU;(try clear hb);(try clear ho0);obtain ⟨zym,zyn,zWJ⟩:=Kd.ZQ vY.out;subst zWJ) | ((with_reducible refine yx (f:=15) rfl ?_);refine uD (some 36) Tryz.func15 #[.slice zym Zy.length zyn] ?_;(with_reducible refine (zW.calls ZY _ _ Zy Zd _ ?yh ?yD A22.out).mono ?_);(case yh=>exact qM ((Kd.vF vY.out).2.2));(case yD=>exact (Kd.vF vY.out).2.1);rintro e w35 ⟨zfj,rfl,ho0,hb⟩;refine ⟨_,rfl,?_⟩;have ze:=zx.mk (Kd.xS (vK qh.out) (Kd.jf ho0) hb);have zi:=zx.mk (Kd.xS (vK xX.out) (Kd.jf ho0) hb);have zo:=zx.mk (Kd.xS (vK vY.out) (Kd.jf ho0) hb);have zT:=zx.mk (Kd.wh (Kd.wL (ok':=fun k_=>some k_ ≠ (.slice zyF pK.length zyG:Value).ownBlock ∧ some k_ ≠ (cB:Value).ownBlock ∧ some k_ ≠ (.slice zym Zy.length zyn:Value).ownBlock ∧ k_ ≠ qB) (Kd.S_N (Kd.Zm ho0)) (fun k_ vN=>⟨(Kd.fresh' (Kd.kR (vK qh.out)) k_ vN.2.1),(Kd.fresh' (Kd.kR (vK xX.out)) k_ vN.2.1),(Kd.fresh' (Kd.kR (vK vY.out)) k_ vN.2.1),(Kd.kC (g:=qB) (o:=.cells #[.slice qH yt.length qI] 24 (0,0)) (qK yC.out) k_ vN.2.1)⟩)) (zm (zD HB.out)));have qU:=zx.mk (zM (g:=qB) (o:=.cells #[.slice qH yt.length qI] 24 (0,0)) (qK yC.out) hb);have jI:=zx.mk (zu (zD HB.out) hb);clear qh;clear xX;clear vY;clear yC;clear HB;have qh:=ze;have xX:=zi;have vY:=zo;have jy:=zT;have yC:=qU;have HB:=jI;clear ze zi zo zT qU jI;(try clear hb);(try clear ho0);obtain ⟨zfv,zfk,zlL⟩:=Kd.ZQ jy.out;subst zlL) | ((with_reducible refine yx (f:=26) rfl ?_);refine uD (some 37) Tryz.func26 #[.slice A1 l1.length c1,.int .i64 a2,.slice zfv Zd.length zfk] ?_;(with_reducible refine (zY.calls ZY _ _ l1 a2 _ _ Zd zvB aU _ ?yh ?yD ?qX ?qJ A23.out).mono ?_);(case yh=>exact qM (Kd.zh HR1.out HB.out));(case yD=>exact HC1.out);(case qX=>exact qM ((Kd.vF jy.out).2.2));(case qJ=>exact (Kd.vF jy.out).2.1);rintro e w37 ⟨zfy,rfl,ho0,hb⟩;refine ⟨_,rfl,?_⟩;have ze:=zx.mk (Kd.xS (vK qh.out) (Kd.jf ho0) hb);have zi:=zx.mk (Kd.xS (vK xX.out) (Kd.jf ho0) hb);have zo:=zx.mk (Kd.xS (vK vY.out) (Kd.jf ho0) hb);have zT:=zx.mk (Kd.xS (vK jy.out) (Kd.jf ho0) hb);have qU:=zx.mk (Kd.wh (Kd.wL (ok':=fun k_=>some k_ ≠ (.slice zyF pK.length zyG:Value).ownBlock ∧ some k_ ≠ (cB:Value).ownBlock ∧ some k_ ≠ (.slice zym Zy.length zyn:Value).ownBlock ∧ some k_ ≠ (.slice zfv Zd.length zfk:Value).ownBlock ∧ k_ ≠ qB) (Kd.S_N (Kd.Zm ho0)) (fun k_ vN=>⟨(Kd.fresh' (Kd.kR (vK qh.out)) k_ vN.2.1),(Kd.fresh' (Kd.kR (vK xX.out)) k_ vN.2.1),(Kd.fresh' (Kd.kR (vK vY.out)) k_ vN.2.1),(Kd.fresh' (Kd.kR (vK jy.out)) k_ vN.2.1),(Kd.kC (g:=qB) (o:=.cells #[.slice qH yt.length qI] 24 (0,0)) (qK yC.out) k_ vN.2.1)⟩)) (zm (zD HB.out)));have jI:=zx.mk (zM (g:=qB) (o:=.cells #[.slice qH yt.length qI] 24 (0,0)) (qK yC.out) hb);have Ym:=zx.mk (zu (zD HB.out) hb);clear qh;clear xX;clear vY;clear jy;clear yC;clear HB;have qh:=ze;have xX:=zi;have vY:=zo;have jy:=zT;have ZE:=qU;have yC:=jI;have HB:=Ym;clear ze zi zo zT qU jI Ym;(try clear hb);(try clear ho0);obtain ⟨zAW,zAa,zlM⟩:=Kd.ZQ xX.out;subst zlM;obtain ⟨zAb,zAc,zlN⟩:=Kd.ZQ ZE.out;subst zlN) | (go_at_call 18;(with_reducible refine (yK.calls ZY _ _ aT _ _ zvB true _ ?yh ?yD ?qX ?qJ A25.out).mono ?_);(case yh=>exact qM ((Kd.vF xX.out).2.2));(case yD=>exact (Kd.vF xX.out).2.1);(case qX=>exact qM ((Kd.vF ZE.out).2.2));(case qJ=>exact (Kd.vF ZE.out).2.1);rintro e w40 ⟨rfl,hb⟩;have ze:=zx.mk (Kd.jN (vK qh.out) hb);have zi:=zx.mk (Kd.jN (vK xX.out) hb);have zo:=zx.mk (Kd.jN (vK vY.out) hb);have zT:=zx.mk (Kd.jN (vK jy.out) hb);have qU:=zx.mk (Kd.jN (vK ZE.out) hb);have jI:=zx.mk (zM (g:=qB) (o:=.cells #[.slice qH yt.length qI] 24 (0,0)) (qK yC.out) hb);have Ym:=zx.mk (zu (zD HB.out) hb);clear qh;clear xX;clear vY;clear jy;clear ZE;clear yC;clear HB;have qh:=ze;have xX:=zi;have vY:=zo;have jy:=zT;have ZE:=qU;have yC:=jI;have HB:=Ym;clear ze zi zo zT qU jI Ym;(try clear hb);(try clear hi)) | (go_at_call 11;(with_reducible refine (xk.calls  Yg _ ?yh A27.out).mono ?_);(case yh=>exact GW.under HG.out (zD HB.out));rintro e w41 ⟨rfl,hb⟩;have ze:=zx.mk (Kd.jN (vK qh.out) hb);have zi:=zx.mk (Kd.jN (vK xX.out) hb);have zo:=zx.mk (Kd.jN (vK vY.out) hb);have zT:=zx.mk (Kd.jN (vK jy.out) hb);have qU:=zx.mk (Kd.jN (vK ZE.out) hb);have jI:=zx.mk (zM (g:=qB) (o:=.cells #[.slice qH yt.length qI] 24 (0,0)) (qK yC.out) hb);have Ym:=zx.mk (zu (zD HB.out) hb);clear qh;clear xX;clear vY;clear jy;clear ZE;clear yC;clear HB;have qh:=ze;have xX:=zi;have vY:=zo;have jy:=zT;have ZE:=qU;have yC:=jI;have HB:=Ym;clear ze zi zo zT qU jI Ym;(try clear hb);(try clear hi)))
      go_ret
      exact ⟨by first | rfl | (simp [zH,zI] <;> rfl) | (simp [*,zH,zI] <;> rfl),by repeat (first | (with_reducible first | exact HB.out | apply yJ | apply zC | apply yY | refine qm ?_ zkw.out) | exact HB.out)⟩
     ·replace c26:=Bool.eq_false_iff.mpr c26
      subst c26
      have H1:(some false) = some r:=by rw [if_neg (show ¬ (false = true) by decide)] at H;exact H
      clear H
      have H:=H1
      clear H1
      obtain rfl:=Option.some.inj H
      have zcy:wc.cell? ⟨qB,0,none⟩ = some (.slice qH yt.length qI):=zK yC 0
      have zcw:=zw yC.out 0
      go_wp2_with (first | ((with_reducible refine yx (f:=12) rfl ?_);refine uD (some 27) Tryz.func12 #[.agg #[.slice qH yt.length qI]] ?_;(with_reducible refine (xY.calls (fun k_=>k_ < w.heap.size) _ _ yt pK _ ?yh ?yD A19.out).mono ?_);(case yh=>exact Kd.zxJ Wy.out (Kd.YM (Kd.C_F Ja X7.out) (zD HB.out)));(case yD=>exact GW.under HG.out (zD HB.out));rintro e w43 ⟨zfq,rfl,ho0,hb⟩;refine ⟨_,rfl,?_⟩;have ze:=zx.mk (Kd.wh (Kd.wL (ok':=fun k_=>k_ ≠ qB) ho0 (fun k_ vN=>Or.elim vN (fun hs_=>fun e_=>Nat.not_le.2 hs_ (by rw [e_];exact zzZ.out)) (fun Xh=>(Kd.kC (g:=qB) (o:=.cells #[.slice qH yt.length qI] 24 (0,0)) (qK yC.out) k_ Xh)))) (zm (zD HB.out)));have zi:=zx.mk (zM (g:=qB) (o:=.cells #[.slice qH yt.length qI] 24 (0,0)) (qK yC.out) hb);have zo:=zx.mk (zu (zD HB.out) hb);clear yC;clear HB;have qh:=ze;have yC:=zi;have HB:=zo;clear ze zi zo;(try clear hb);(try clear ho0);obtain ⟨gK,gY,zYr⟩:=Kd.ZQ qh.out;subst zYr) | ((with_reducible refine yx (f:=25) rfl ?_);refine uD (some 28) Tryz.func25 #[.slice A1 l1.length c1,.int .i64 a2,.slice gK pK.length gY] ?_;(with_reducible refine (kF.calls _ _ l1 a2 _ _ pK aT Wt _ ?yh ?yD ?qX ?qJ ?qR A20.out).mono ?_);(case yh=>exact qM (Kd.zh HR1.out HB.out));(case yD=>exact HC1.out);(case qX=>exact qM ((Kd.vF qh.out).2.2));(case qJ=>exact (Kd.vF qh.out).2.1);(case qR=>exact GW.under HG.out (zD HB.out));rintro e w45 ⟨cB,rfl,ho0,hb⟩;refine ⟨_,rfl,?_⟩;have ze:=zx.mk (Kd.xS (vK qh.out) (Kd.jf ho0) hb);have zi:=zx.mk (Kd.wh (Kd.wL (ok':=fun k_=>some k_ ≠ (.slice gK pK.length gY:Value).ownBlock ∧ k_ ≠ qB) (Kd.S_N (Kd.Zm ho0)) (fun k_ vN=>⟨(Kd.fresh' (Kd.kR (vK qh.out)) k_ vN.2.1),(Kd.kC (g:=qB) (o:=.cells #[.slice qH yt.length qI] 24 (0,0)) (qK yC.out) k_ vN.2.1)⟩)) (zm (zD HB.out)));have zo:=zx.mk (zM (g:=qB) (o:=.cells #[.slice qH yt.length qI] 24 (0,0)) (qK yC.out) hb);have zT:=zx.mk (zu (zD HB.out) hb);clear qh;clear yC;clear HB;have qh:=ze;have xX:=zi;have yC:=zo;have HB:=zT;clear ze zi zo zT;(try clear hb);(try clear ho0);have zsX:w45.cell? ⟨qB,0,none⟩ = some (.slice qH yt.length qI):=zK yC 0;have zsJ:=zw yC.out 0) | ((with_reducible refine yx (f:=12) rfl ?_);refine uD (some 35) Tryz.func12 #[.agg #[.slice qH yt.length qI]] ?_;(with_reducible refine (xY.calls (fun k_=>k_ < w.heap.size) _ _ yt Zy _ ?yh ?yD A21.out).mono ?_);(case yh=>exact Kd.zxJ Wy.out (Kd.YM (Kd.C_F Ja X7.out) (zD HB.out)));(case yD=>exact GW.under HG.out (zD HB.out));rintro e w47 ⟨zfx,rfl,ho0,hb⟩;refine ⟨_,rfl,?_⟩;have ze:=zx.mk (Kd.xS (vK qh.out) (Kd.YG ho0) hb);have zi:=zx.mk (Kd.xS (vK xX.out) (Kd.YG ho0) hb);have zo:=zx.mk (Kd.wh (Kd.wL (ok':=fun k_=>some k_ ≠ (.slice gK pK.length gY:Value).ownBlock ∧ some k_ ≠ (cB:Value).ownBlock ∧ k_ ≠ qB) ho0 (fun k_ vN=>⟨Or.elim vN (fun hs_=>fun e_=>Nat.not_le.2 hs_ (Kd.YG qh.out k_ e_.symm)) (fun Xh=>(Kd.fresh' (Kd.kR (vK qh.out)) k_ Xh)),Or.elim vN (fun hs_=>fun e_=>Nat.not_le.2 hs_ (Kd.YG xX.out k_ e_.symm)) (fun Xh=>(Kd.fresh' (Kd.kR (vK xX.out)) k_ Xh)),Or.elim vN (fun hs_=>fun e_=>Nat.not_le.2 hs_ (by rw [e_];exact zzZ.out)) (fun Xh=>(Kd.kC (g:=qB) (o:=.cells #[.slice qH yt.length qI] 24 (0,0)) (qK yC.out) k_ Xh))⟩)) (zm (zD HB.out)));have zT:=zx.mk (zM (g:=qB) (o:=.cells #[.slice qH yt.length qI] 24 (0,0)) (qK yC.out) hb);have qU:=zx.mk (zu (zD HB.out) hb);clear qh;clear xX;clear yC;clear HB;have qh:=ze;have xX:=zi;have vY:=zo;have yC:=zT;have HB:=qU;clear ze zi zo zT qU;(try clear hb);(try clear ho0);obtain ⟨zWs,zWt,zlO⟩:=Kd.ZQ vY.out;subst zlO) | ((with_reducible refine yx (f:=15) rfl ?_);refine uD (some 36) Tryz.func15 #[.slice zWs Zy.length zWt] ?_;(with_reducible refine (zW.calls ZY _ _ Zy Zd _ ?yh ?yD A22.out).mono ?_);(case yh=>exact qM ((Kd.vF vY.out).2.2));(case yD=>exact (Kd.vF vY.out).2.1);rintro e w49 ⟨zfj,rfl,ho0,hb⟩;refine ⟨_,rfl,?_⟩;have ze:=zx.mk (Kd.xS (vK qh.out) (Kd.jf ho0) hb);have zi:=zx.mk (Kd.xS (vK xX.out) (Kd.jf ho0) hb);have zo:=zx.mk (Kd.xS (vK vY.out) (Kd.jf ho0) hb);have zT:=zx.mk (Kd.wh (Kd.wL (ok':=fun k_=>some k_ ≠ (.slice gK pK.length gY:Value).ownBlock ∧ some k_ ≠ (cB:Value).ownBlock ∧ some k_ ≠ (.slice zWs Zy.length zWt:Value).ownBlock ∧ k_ ≠ qB) (Kd.S_N (Kd.Zm ho0)) (fun k_ vN=>⟨(Kd.fresh' (Kd.kR (vK qh.out)) k_ vN.2.1),(Kd.fresh' (Kd.kR (vK xX.out)) k_ vN.2.1),(Kd.fresh' (Kd.kR (vK vY.out)) k_ vN.2.1),(Kd.kC (g:=qB) (o:=.cells #[.slice qH yt.length qI] 24 (0,0)) (qK yC.out) k_ vN.2.1)⟩)) (zm (zD HB.out)));have qU:=zx.mk (zM (g:=qB) (o:=.cells #[.slice qH yt.length qI] 24 (0,0)) (qK yC.out) hb);have jI:=zx.mk (zu (zD HB.out) hb);clear qh;clear xX;clear vY;clear yC;clear HB;have qh:=ze;have xX:=zi;have vY:=zo;have jy:=zT;have yC:=qU;have HB:=jI;clear ze zi zo zT qU jI;(try clear hb);(try clear ho0);obtain ⟨zfw,zfZ,zlP⟩:=Kd.ZQ jy.out;subst zlP) | ((with_reducible refine yx (f:=26) rfl ?_);refine uD (some 37) Tryz.func26 #[.slice A1 l1.length c1,.int .i64 a2,.slice zfw Zd.length zfZ] ?_;(with_reducible refine (zY.calls ZY _ _ l1 a2 _ _ Zd zvB aU _ ?yh ?yD ?qX ?qJ A23.out).mono ?_);(case yh=>exact qM (Kd.zh HR1.out HB.out));(case yD=>exact HC1.out);(case qX=>exact qM ((Kd.vF jy.out).2.2));(case qJ=>exact (Kd.vF jy.out).2.1);rintro e w51 ⟨zfy,rfl,ho0,hb⟩;refine ⟨_,rfl,?_⟩;have ze:=zx.mk (Kd.xS (vK qh.out) (Kd.jf ho0) hb);have zi:=zx.mk (Kd.xS (vK xX.out) (Kd.jf ho0) hb);have zo:=zx.mk (Kd.xS (vK vY.out) (Kd.jf ho0) hb);have zT:=zx.mk (Kd.xS (vK jy.out) (Kd.jf ho0) hb);have qU:=zx.mk (Kd.wh (Kd.wL (ok':=fun k_=>some k_ ≠ (.slice gK pK.length gY:Value).ownBlock ∧ some k_ ≠ (cB:Value).ownBlock ∧ some k_ ≠ (.slice zWs Zy.length zWt:Value).ownBlock ∧ some k_ ≠ (.slice zfw Zd.length zfZ:Value).ownBlock ∧ k_ ≠ qB) (Kd.S_N (Kd.Zm ho0)) (fun k_ vN=>⟨(Kd.fresh' (Kd.kR (vK qh.out)) k_ vN.2.1),(Kd.fresh' (Kd.kR (vK xX.out)) k_ vN.2.1),(Kd.fresh' (Kd.kR (vK vY.out)) k_ vN.2.1),(Kd.fresh' (Kd.kR (vK jy.out)) k_ vN.2.1),(Kd.kC (g:=qB) (o:=.cells #[.slice qH yt.length qI] 24 (0,0)) (qK yC.out) k_ vN.2.1)⟩)) (zm (zD HB.out)));have jI:=zx.mk (zM (g:=qB) (o:=.cells #[.slice qH yt.length qI] 24 (0,0)) (qK yC.out) hb);have Ym:=zx.mk (zu (zD HB.out) hb);clear qh;clear xX;clear vY;clear jy;clear yC;clear HB;have qh:=ze;have xX:=zi;have vY:=zo;have jy:=zT;have ZE:=qU;have yC:=jI;have HB:=Ym;clear ze zi zo zT qU jI Ym;(try clear hb);(try clear ho0);obtain ⟨zAd,zAe,zlR⟩:=Kd.ZQ xX.out;subst zlR;obtain ⟨zAf,zAg,zlS⟩:=Kd.ZQ ZE.out;subst zlS) | (go_at_call 18;(with_reducible refine (yK.calls ZY _ _ aT _ _ zvB false _ ?yh ?yD ?qX ?qJ A25.out).mono ?_);(case yh=>exact qM ((Kd.vF xX.out).2.2));(case yD=>exact (Kd.vF xX.out).2.1);(case qX=>exact qM ((Kd.vF ZE.out).2.2));(case qJ=>exact (Kd.vF ZE.out).2.1);rintro e w54 ⟨rfl,hb⟩;have ze:=zx.mk (Kd.jN (vK qh.out) hb);have zi:=zx.mk (Kd.jN (vK xX.out) hb);have zo:=zx.mk (Kd.jN (vK vY.out) hb);have zT:=zx.mk (Kd.jN (vK jy.out) hb);have qU:=zx.mk (Kd.jN (vK ZE.out) hb);have jI:=zx.mk (zM (g:=qB) (o:=.cells #[.slice qH yt.length qI] 24 (0,0)) (qK yC.out) hb);have Ym:=zx.mk (zu (zD HB.out) hb);clear qh;clear xX;clear vY;clear jy;clear ZE;clear yC;clear HB;have qh:=ze;have xX:=zi;have vY:=zo;have jy:=zT;have ZE:=qU;have yC:=jI;have HB:=Ym;clear ze zi zo zT qU jI Ym;(try clear hb);(try clear hi)))
      go_ret
      exact ⟨by first | rfl | (simp [zH,zI] <;> rfl) | (simp [*,zH,zI] <;> rfl),by repeat (first | (with_reducible first | exact HB.out | apply yJ | apply zC | apply yY | refine qm ?_ zkw.out) | exact HB.out)⟩
    ·rw [if_neg c24] at H
     have zkx:(Wt == aU) = false:=beq_eq_false_iff_ne.mpr c24
     have zhN:(Wt != aU) = true:=bne_iff_ne.mpr c24
     obtain rfl:=Option.some.inj H
     have zc6:wc.cell? ⟨qB,0,none⟩ = some (.slice qH yt.length qI):=zK yC 0
     have zc7:=zw yC.out 0
     go_wp2_with (first | ((with_reducible refine yx (f:=12) rfl ?_);refine uD (some 27) Tryz.func12 #[.agg #[.slice qH yt.length qI]] ?_;(with_reducible refine (xY.calls (fun k_=>k_ < w.heap.size) _ _ yt pK _ ?yh ?yD A19.out).mono ?_);(case yh=>exact Kd.zxJ Wy.out (Kd.YM (Kd.C_F Ja X7.out) (zD HB.out)));(case yD=>exact GW.under HG.out (zD HB.out));rintro e w56 ⟨zfq,rfl,ho0,hb⟩;refine ⟨_,rfl,?_⟩;have ze:=zx.mk (Kd.wh (Kd.wL (ok':=fun k_=>k_ ≠ qB) ho0 (fun k_ vN=>Or.elim vN (fun hs_=>fun e_=>Nat.not_le.2 hs_ (by rw [e_];exact zzZ.out)) (fun Xh=>(Kd.kC (g:=qB) (o:=.cells #[.slice qH yt.length qI] 24 (0,0)) (qK yC.out) k_ Xh)))) (zm (zD HB.out)));have zi:=zx.mk (zM (g:=qB) (o:=.cells #[.slice qH yt.length qI] 24 (0,0)) (qK yC.out) hb);have zo:=zx.mk (zu (zD HB.out) hb);clear yC;clear HB;have qh:=ze;have yC:=zi;have HB:=zo;clear ze zi zo;(try clear hb);(try clear ho0);obtain ⟨zyH,zyI,zlT⟩:=Kd.ZQ qh.out;subst zlT) | ((with_reducible refine yx (f:=25) rfl ?_);refine uD (some 28) Tryz.func25 #[.slice A1 l1.length c1,.int .i64 a2,.slice zyH pK.length zyI] ?_;(with_reducible refine (kF.calls _ _ l1 a2 _ _ pK aT Wt _ ?yh ?yD ?qX ?qJ ?qR A20.out).mono ?_);(case yh=>exact qM (Kd.zh HR1.out HB.out));(case yD=>exact HC1.out);(case qX=>exact qM ((Kd.vF qh.out).2.2));(case qJ=>exact (Kd.vF qh.out).2.1);(case qR=>exact GW.under HG.out (zD HB.out));rintro e w58 ⟨cB,rfl,ho0,hb⟩;refine ⟨_,rfl,?_⟩;have ze:=zx.mk (Kd.xS (vK qh.out) (Kd.jf ho0) hb);have zi:=zx.mk (Kd.wh (Kd.wL (ok':=fun k_=>some k_ ≠ (.slice zyH pK.length zyI:Value).ownBlock ∧ k_ ≠ qB) (Kd.S_N (Kd.Zm ho0)) (fun k_ vN=>⟨(Kd.fresh' (Kd.kR (vK qh.out)) k_ vN.2.1),(Kd.kC (g:=qB) (o:=.cells #[.slice qH yt.length qI] 24 (0,0)) (qK yC.out) k_ vN.2.1)⟩)) (zm (zD HB.out)));have zo:=zx.mk (zM (g:=qB) (o:=.cells #[.slice qH yt.length qI] 24 (0,0)) (qK yC.out) hb);have zT:=zx.mk (zu (zD HB.out) hb);clear qh;clear yC;clear HB;have qh:=ze;have xX:=zi;have yC:=zo;have HB:=zT;clear ze zi zo zT;(try clear hb);(try clear ho0);have zsV:w58.cell? ⟨qB,0,none⟩ = some (.slice qH yt.length qI):=zK yC 0;have zsK:=zw yC.out 0) | ((with_reducible refine yx (f:=12) rfl ?_);refine uD (some 35) Tryz.func12 #[.agg #[.slice qH yt.length qI]] ?_;(with_reducible refine (xY.calls (fun k_=>k_ < w.heap.size) _ _ yt Zy _ ?yh ?yD A21.out).mono ?_);(case yh=>exact Kd.zxJ Wy.out (Kd.YM (Kd.C_F Ja X7.out) (zD HB.out)));(case yD=>exact GW.under HG.out (zD HB.out));rintro e w60 ⟨zfx,rfl,ho0,hb⟩;refine ⟨_,rfl,?_⟩;have ze:=zx.mk (Kd.xS (vK qh.out) (Kd.YG ho0) hb);have zi:=zx.mk (Kd.xS (vK xX.out) (Kd.YG ho0) hb);have zo:=zx.mk (Kd.wh (Kd.wL (ok':=fun k_=>some k_ ≠ (.slice zyH pK.length zyI:Value).ownBlock ∧ some k_ ≠ (cB:Value).ownBlock ∧ k_ ≠ qB) ho0 (fun k_ vN=>⟨Or.elim vN (fun hs_=>fun e_=>Nat.not_le.2 hs_ (Kd.YG qh.out k_ e_.symm)) (fun Xh=>(Kd.fresh' (Kd.kR (vK qh.out)) k_ Xh)),Or.elim vN (fun hs_=>fun e_=>Nat.not_le.2 hs_ (Kd.YG xX.out k_ e_.symm)) (fun Xh=>(Kd.fresh' (Kd.kR (vK xX.out)) k_ Xh)),Or.elim vN (fun hs_=>fun e_=>Nat.not_le.2 hs_ (by rw [e_];exact zzZ.out)) (fun Xh=>(Kd.kC (g:=qB) (o:=.cells #[.slice qH yt.length qI] 24 (0,0)) (qK yC.out) k_ Xh))⟩)) (zm (zD HB.out)));have zT:=zx.mk (zM (g:=qB) (o:=.cells #[.slice qH yt.length qI] 24 (0,0)) (qK yC.out) hb);have qU:=zx.mk (zu (zD HB.out) hb);clear qh;clear xX;clear yC;clear HB;have qh:=ze;have xX:=zi;have vY:=zo;have yC:=zT;have HB:=qU;clear ze zi zo zT qU;(try clear hb);(try clear ho0);obtain ⟨zWu,zWA,zlU⟩:=Kd.ZQ vY.out;subst zlU) | ((with_reducible refine yx (f:=15) rfl ?_);refine uD (some 36) Tryz.func15 #[.slice zWu Zy.length zWA] ?_;(with_reducible refine (zW.calls ZY _ _ Zy Zd _ ?yh ?yD A22.out).mono ?_);(case yh=>exact qM ((Kd.vF vY.out).2.2));(case yD=>exact (Kd.vF vY.out).2.1);rintro e w62 ⟨zfj,rfl,ho0,hb⟩;refine ⟨_,rfl,?_⟩;have ze:=zx.mk (Kd.xS (vK qh.out) (Kd.jf ho0) hb);have zi:=zx.mk (Kd.xS (vK xX.out) (Kd.jf ho0) hb);have zo:=zx.mk (Kd.xS (vK vY.out) (Kd.jf ho0) hb);have zT:=zx.mk (Kd.wh (Kd.wL (ok':=fun k_=>some k_ ≠ (.slice zyH pK.length zyI:Value).ownBlock ∧ some k_ ≠ (cB:Value).ownBlock ∧ some k_ ≠ (.slice zWu Zy.length zWA:Value).ownBlock ∧ k_ ≠ qB) (Kd.S_N (Kd.Zm ho0)) (fun k_ vN=>⟨(Kd.fresh' (Kd.kR (vK qh.out)) k_ vN.2.1),(Kd.fresh' (Kd.kR (vK xX.out)) k_ vN.2.1),(Kd.fresh' (Kd.kR (vK vY.out)) k_ vN.2.1),(Kd.kC (g:=qB) (o:=.cells #[.slice qH yt.length qI] 24 (0,0)) (qK yC.out) k_ vN.2.1)⟩)) (zm (zD HB.out)));have qU:=zx.mk (zM (g:=qB) (o:=.cells #[.slice qH yt.length qI] 24 (0,0)) (qK yC.out) hb);have jI:=zx.mk (zu (zD HB.out) hb);clear qh;clear xX;clear vY;clear yC;clear HB;have qh:=ze;have xX:=zi;have vY:=zo;have jy:=zT;have yC:=qU;have HB:=jI;clear ze zi zo zT qU jI;(try clear hb);(try clear ho0);obtain ⟨zfQ,zfX,zl0⟩:=Kd.ZQ jy.out;subst zl0) | ((with_reducible refine yx (f:=26) rfl ?_);refine uD (some 37) Tryz.func26 #[.slice A1 l1.length c1,.int .i64 a2,.slice zfQ Zd.length zfX] ?_;(with_reducible refine (zY.calls ZY _ _ l1 a2 _ _ Zd zvB aU _ ?yh ?yD ?qX ?qJ A23.out).mono ?_);(case yh=>exact qM (Kd.zh HR1.out HB.out));(case yD=>exact HC1.out);(case qX=>exact qM ((Kd.vF jy.out).2.2));(case qJ=>exact (Kd.vF jy.out).2.1);rintro e jA ⟨zfy,rfl,ho0,hb⟩;refine ⟨_,rfl,?_⟩;have ze:=zx.mk (Kd.xS (vK qh.out) (Kd.jf ho0) hb);have zi:=zx.mk (Kd.xS (vK xX.out) (Kd.jf ho0) hb);have zo:=zx.mk (Kd.xS (vK vY.out) (Kd.jf ho0) hb);have zT:=zx.mk (Kd.xS (vK jy.out) (Kd.jf ho0) hb);have qU:=zx.mk (Kd.wh (Kd.wL (ok':=fun k_=>some k_ ≠ (.slice zyH pK.length zyI:Value).ownBlock ∧ some k_ ≠ (cB:Value).ownBlock ∧ some k_ ≠ (.slice zWu Zy.length zWA:Value).ownBlock ∧ some k_ ≠ (.slice zfQ Zd.length zfX:Value).ownBlock ∧ k_ ≠ qB) (Kd.S_N (Kd.Zm ho0)) (fun k_ vN=>⟨(Kd.fresh' (Kd.kR (vK qh.out)) k_ vN.2.1),(Kd.fresh' (Kd.kR (vK xX.out)) k_ vN.2.1),(Kd.fresh' (Kd.kR (vK vY.out)) k_ vN.2.1),(Kd.fresh' (Kd.kR (vK jy.out)) k_ vN.2.1),(Kd.kC (g:=qB) (o:=.cells #[.slice qH yt.length qI] 24 (0,0)) (qK yC.out) k_ vN.2.1)⟩)) (zm (zD HB.out)));have jI:=zx.mk (zM (g:=qB) (o:=.cells #[.slice qH yt.length qI] 24 (0,0)) (qK yC.out) hb);have Ym:=zx.mk (zu (zD HB.out) hb);clear qh;clear xX;clear vY;clear jy;clear yC;clear HB;have qh:=ze;have xX:=zi;have vY:=zo;have jy:=zT;have ZE:=qU;have yC:=jI;have HB:=Ym;clear ze zi zo zT qU jI Ym;(try clear hb);(try clear ho0)))
     go_ret
     exact ⟨by first | rfl | (simp [zH,zI] <;> rfl) | (simp [*,zH,zI] <;> rfl),by repeat (first | (with_reducible first | exact HB.out | apply yJ | apply zC | apply yY | refine qm ?_ zkw.out) | exact HB.out)⟩
end Go.Proofs.YtggifbbiiickmaaGreatDoor.PX
namespace Go.Proofs.YtggifbbiiickmaaGreatDoor
open Go.RowKit Go.Proofs.zk.za Go.Proofs.zk.zS Go.Proofs.zk.zR Go.Proofs.YtggifbbiiickmaaGreatDoor.PX
set_option linter.unusedSimpArgs false
set_option linter.unusedVariables false
def zvC (b:jR):Bool:=decide (b.f1 > 1099511627776) || (decide (b.f1 < -1099511627776) || (decide (100 < b.f6.length) || decide (100 < b.f4.size)))
theorem zhO (bs:List jR) (hl:bs.length ≤ 1000000):∀ d i,i + d = bs.length → Ev (fun k=>qL.l0 k bs (i:Int)) ((bs.drop i).any zvC):=by
 intro d
 induction d with
 | zero =>
  intro i h
  refine Ev.step (fun k=>by rw [qL.l0]) (vw (by omega) (Xv ?_ (Ev.now _)))
  rw [List.drop_eq_nil_of_le (by omega)];rfl
 | succ d ih =>
  intro i h
  have hi:i < bs.length:=by omega
  have hw:wrap64 ((i:Int) + 1) = ((i + 1:Nat):Int):=(jA (by omega) (by omega)).trans (by omega)
  have q1:(i:Int) < (bs.length:Int):=by omega
  have q2:(0:Int) ≤ (i:Int):=by omega
  have hd:zy bs (i:Int) = bs[i]:=rdB bs i _ (List.getElem?_eq_getElem hi)
  have hr:=ih (i + 1) (by omega)
  rw [List.drop_eq_getElem_cons hi,List.any_cons]
  generalize bs[i] = b at hd ⊢
  refine Ev.step (fun k=>by rw [qL.l0,hw,hd]) (yB q1 (yB q2 ?_))
  unfold zvC
  by_cases h1:b.f1 > 1099511627776
  ·rw [decide_eq_true h1];exact yB h1 (Ev.now _)
  ·rw [decide_eq_false h1]
   refine vw h1 ?_
   by_cases h2:b.f1 < -1099511627776
   ·rw [decide_eq_true h2];exact yB h2 (Ev.now _)
   ·rw [decide_eq_false h2]
    refine vw h2 ?_
    by_cases h3:100 < b.f6.length
    ·rw [decide_eq_true h3];exact yB (by omega) (Ev.now _)
    ·rw [decide_eq_false h3]
     refine vw (by omega) ?_
     by_cases h4:100 < b.f4.size
     ·rw [decide_eq_true h4];exact yB (by omega) (Ev.now _)
     ·rw [decide_eq_false h4]
      exact vw (by omega) hr
theorem zfJ (bs:List jR) (hl:bs.length ≤ 1000000):Ev (fun k=>qL.f k bs) (bs.any zvC):=by
 have h:=zhO bs hl bs.length 0 (by omega)
 rw [List.drop_zero] at h
 exact Ev.congr (fun k=>by rw [qL.f];rfl) h
theorem zfV {bs:List jR} (h:bs.any zvC = false):∀ b ∈ bs,b.f6.length ≤ 100 ∧ b.f4.size ≤ 100 ∧ b.f1 ≤ 1099511627776 ∧ -1099511627776 ≤ b.f1:=fun b hb=>by
 have h1:=List.any_eq_false.1 h b hb
 unfold zvC at h1
 simp only [Bool.or_eq_true,decide_eq_true_eq,not_or] at h1
 omega
theorem zWB (x:y8) (hx:Jk x) (s:Int):vI.f (kJ x).f0 (kJ x).f1 (kJ x).f2 (kJ x).f3 (kJ x).f4 (kJ x).f5 s = some (YN x s) :=
 zdR x.f0 x.f1 x.f2 x.f3 x.f4 x.f5 s hx.1 hx.2.1 hx.2.2.1 hx.2.2.2.1 hx.2.2.2.2
theorem zWC (l:List y8) (hl:l.length ≤ 1000000) (hF:∀ x ∈ l,Jk x) (s:Int) (bs:List jR) (hb:bs.length ≤ 1000000) (hn:∀ b ∈ bs,b.f6.length ≤ 1000000) :
  ∀ d i,i + d = bs.length → Ev (fun k=>zY.l0 k bs s (l.map kJ) ((bs.take i).map (Zg l s)) (i:Int)) (if (bs.drop i).any (j6 l s) then ([],1) else (bs.map (Zg l s),0)):=by
 intro d
 induction d with
 | zero =>
  intro i h
  refine Ev.step (fun k=>by rw [zY.l0]) (vw (by omega) (Xv ?_ (Ev.now _)))
  rw [List.drop_eq_nil_of_le (by omega),List.take_of_length_le (by omega)];rfl
 | succ d ih =>
  intro i h
  have hi:i < bs.length:=by omega
  have hw:wrap64 ((i:Int) + 1) = ((i + 1:Nat):Int):=(jA (by omega) (by omega)).trans (by omega)
  have q1:(i:Int) < (bs.length:Int):=by omega
  have q2:(0:Int) ≤ (i:Int):=by omega
  have hd:zy bs (i:Int) = bs[i]:=rdB bs i _ (List.getElem?_eq_getElem hi)
  have hr:=ih (i + 1) (by omega)
  have hnx:=hn _ (List.getElem_mem hi)
  rw [List.take_succ_eq_append_getElem hi,List.map_append] at hr
  rw [zyr bs (j6 l s) i hi]
  have hal:((bs.take i).map (Zg l s)).length < 1599289640401:=by rw [List.length_map,List.length_take];omega
  generalize (bs.take i).map (Zg l s) = acc at hr hal ⊢
  have hone:[bs[i]].map (Zg l s) = [Zg l s bs[i]]:=rfl
  rw [hone] at hr
  generalize bs[i] = b at hd hr hnx ⊢
  have hyl:([]:List Int).length + b.f6.length < 17592186044416:=by simp;omega
  have other:Zg l s b = b → j6 l s b = false → Ev (fun k=>zY.j2 k bs s (l.map kJ) acc (i:Int) false b.f0 b.f1 b.f2 b.f3 b.f4 b.f5 b.f6) (if (j6 l s b || (bs.drop (i + 1)).any (j6 l s)) = true then ([],1) else (bs.map (Zg l s),0)):=fun e1 e2=>by
   rw [e1] at hr
   rw [e2,Bool.false_or]
   refine Ev.step (fun k=>by rw [zY.j2,hw]) (vw Bool.false_ne_true (zv7 ?_))
   exact yB hyl (yB hal hr)
  have asks:(b.f0 = 0 ∨ b.f0 = 1) → Ev (fun k=>zY.j2 k bs s (l.map kJ) acc (i:Int) true b.f0 b.f1 b.f2 b.f3 b.f4 b.f5 b.f6) (if (j6 l s b || (bs.drop (i + 1)).any (j6 l s)) = true then ([],1) else (bs.map (Zg l s),0)):=fun h0=>by
   have hbd:j6 l s b = (decide (b.f2 < 0) || (decide ((l.length:Int) ≤ b.f2) || !decide ((QG l s b).2 = 0))):=by
    unfold j6
    rcases h0 with h0 | h0
    ·rw [decide_eq_true h0,Bool.true_or,Bool.true_and]
    ·rw [decide_eq_true h0,Bool.or_true,Bool.true_and]
   have hsh:Zg l s b = ⟨b.f0,(QG l s b).1,b.f2,s,b.f4,b.f5,b.f6⟩:=by unfold Zg;rw [if_pos h0]
   rw [hsh] at hr
   have e2:QG l s b = if b.f0 = 0 then YB (vS l b.f2) b.f4 s else YN (vS l b.f2) s:=rfl
   have done:j6 l s b = true → Ev (fun k=>zY.j3 k bs s (l.map kJ) acc (i:Int) true b.f0 b.f1 b.f2 b.f3 b.f4 b.f5 b.f6) (if (j6 l s b || (bs.drop (i + 1)).any (j6 l s)) = true then ([],1) else (bs.map (Zg l s),0)):=fun e=>by
    rw [e,Bool.true_or,if_pos rfl]
    exact Ev.step (fun k=>by rw [zY.j3]) (yB rfl (Ev.now _))
   refine Ev.step (fun k=>by rw [zY.j2,List.length_map]) (yB rfl ?_)
   by_cases h1:b.f2 < 0
   ·exact yB h1 (done (by rw [hbd,decide_eq_true h1];rfl))
   ·refine vw h1 ?_
    by_cases h2:b.f2 ≥ (l.length:Int)
    ·rw [decide_eq_true h2]
     exact done (by rw [hbd,decide_eq_true (show (l.length:Int) ≤ b.f2 from h2),Bool.true_or,Bool.or_true])
    ·rw [decide_eq_false h2]
     obtain ⟨a,ha⟩:∃ a:Nat,b.f2 = (a:Int):=⟨b.f2.toNat,by omega⟩
     have zWD:a < l.length:=by omega
     have q3:(0:Int) ≤ b.f2:=by omega
     have q4:b.f2 < ((l.map kJ).length:Int):=by rw [List.length_map];omega
     have hfa:vS l b.f2 = l[a]:=by rw [ha];exact zeJ l a zWD
     have hrd:zl (l.map kJ) b.f2 = kJ l[a]:=by rw [ha];exact zeX l a zWD
     have hfx:=hF _ (List.getElem_mem zWD)
     rw [hfa] at e2
     have hsp:=zWB l[a] hfx s
     have hwd:=zYu l[a] hfx b.f4 s
     rw [hbd,decide_eq_false h1,decide_eq_false (show ¬ (l.length:Int) ≤ b.f2 by omega),Bool.false_or,Bool.false_or]
     refine Ev.step (fun k=>by rw [zY.j3,hw,hrd]) (vw Bool.false_ne_true (yB q3 (yB q4 (WI hsp ?_))))
     by_cases hk:b.f0 = 0
     ·rw [if_pos hk] at e2
      rw [e2] at hr ⊢
      refine yB hk (Ev.bind hwd ?_)
      by_cases he:(YB l[a] b.f4 s).2 = 0
      ·rw [decide_eq_true he]
       exact yB he (zv7 (yB hyl (yB hal hr)))
      ·rw [decide_eq_false he,Bool.not_false,Bool.true_or,if_pos rfl]
       exact vw he (Ev.now _)
     ·rw [if_neg hk] at e2
      rw [e2] at hr ⊢
      refine vw hk ?_
      by_cases he:(YN l[a] s).2 = 0
      ·rw [decide_eq_true he]
       exact yB he (zv7 (yB hyl (yB hal hr)))
      ·rw [decide_eq_false he,Bool.not_false,Bool.true_or,if_pos rfl]
       exact vw he (Ev.now _)
  refine Ev.step (fun k=>by rw [zY.l0,hd]) (yB q1 (yB q2 ?_))
  by_cases h0:b.f0 = 0
  ·exact yB h0 (asks (Or.inl h0))
  ·refine vw h0 ?_
   by_cases h1:b.f0 = 1
   ·have e:(b.f0 == 1) = true:=beq_iff_eq.2 h1
    rw [e];exact asks (Or.inr h1)
   ·have e:(b.f0 == 1) = false:=beq_eq_false_iff_ne.2 h1
    rw [e]
    exact other (by unfold Zg;rw [if_neg (fun h=>h.elim h0 h1)]) (by unfold j6;rw [decide_eq_false h0,decide_eq_false h1];rfl)
theorem zKr (l:List y8) (hl:l.length ≤ 1000000) (hF:∀ x ∈ l,Jk x) (s:Int) (bs:List jR) (hb:bs.length ≤ 1000000) (hn:∀ b ∈ bs,b.f6.length ≤ 1000000):Ev (fun k=>zY.f k bs s (l.map kJ)) (Wh l s bs):=by
 have h:=zWC l hl hF s bs hb hn bs.length 0 (by omega)
 rw [List.drop_zero] at h
 have hf:=zYt l (by omega) hF
 have hany:(l.any fun x=>!xu x) = !l.all xu:=by rw [List.not_all_eq_any_not]
 unfold Wh WR
 rw [hany]
 have bad:Ev (fun k=>zY.j0 k bs s (l.map kJ) true) ([],1):=Ev.step (fun k=>by rw [zY.j0]) (yB rfl (Ev.now _))
 refine Ev.congr (fun k=>by rw [zY.f]) ?_
 by_cases h1:s < 1
 ·rw [decide_eq_true h1,Bool.true_or,if_pos rfl];exact yB h1 bad
 ·rw [decide_eq_false h1,Bool.false_or]
  refine vw h1 ?_
  by_cases h2:1000 < s
  ·rw [decide_eq_true h2,Bool.true_or,if_pos rfl];exact yB h2 bad
  ·rw [decide_eq_false h2,Bool.false_or]
   refine vw h2 (Ev.bind hf ?_)
   cases l.all xu with
   | false=>rw [Bool.not_false,if_pos rfl];exact bad
   | true =>
    rw [Bool.not_true,if_neg Bool.false_ne_true]
    refine Ev.step (fun k=>by rw [zY.j0]) (vw Bool.false_ne_true ?_)
    exact h
theorem zfK (l:List y8) (s:Int) (b:jR):(Zg l s b).f6 = b.f6:=by
 unfold Zg;split <;> rfl
theorem zKs (l:List y8) (hl:l.length ≤ 2000000000000) (hM:∀ x ∈ l,okM x) (hS:∀ x ∈ l,x.f0.size ≤ 140737488355328 ∧ ∀ g ∈ x.f3,g.f0.size ≤ 140737488355328) (bs:List jR) (s:Int):Ev (fun k=>yg.f k l bs s) true:=by
 have zVj:Ev (fun k=>yg.j0 k bs s true l) true:=Ev.step (fun k=>by rw [yg.j0]) (yB rfl (WI zKe (Ev.now _)))
 obtain ⟨b,hb,hbf⟩:=zWf l hl hM
 refine Ev.congr (fun k=>by rw [yg.f]) (Ev.bind hb ?_)
 cases b with
 | true=>exact yB rfl zVj
 | false =>
  obtain ⟨h10,hok⟩:=hbf rfl
  refine vw Bool.false_ne_true ?_
  by_cases hc:(bs.length:Int) > 200
  ·exact yB hc zVj
  ·refine vw hc (Ev.bind (zfJ bs (by omega)) ?_)
   cases zkV:bs.any zvC with
   | true=>exact zVj
   | false =>
    have hno:=zfV zkV
    have hFl:∀ x ∈ l,Jk x:=fun x hx=>by
     obtain ⟨g3,g4,g5⟩:=hok x hx
     exact ⟨by omega,by omega,by omega,hS x hx⟩
    have hFF:∀ x ∈ ZH ++ l,Jk x:=fun x hx=>by
     rcases List.mem_append.1 hx with h | h
     ·exact zWg x h
     ·exact hFl x h
    have hlen:(ZH ++ l).length ≤ 1000000:=by rw [List.length_append,zZO];omega
    have hall:=zhf l (by omega)
    have hsz:zJ4 bs (ZH ++ l) = true:=by
     unfold zJ4
     have e1:(ZH.all fun x=>decide (x.f3.length ≤ 1000000) && (decide (x.f4.length ≤ 1000000) && decide (x.f5.length ≤ 1000000))) = true:=by decide +kernel
     have e2:(l.all fun x=>decide (x.f3.length ≤ 1000000) && (decide (x.f4.length ≤ 1000000) && decide (x.f5.length ≤ 1000000))) = true:=List.all_eq_true.2 fun x hx=>by
      obtain ⟨g3,g4,g5⟩:=hok x hx
      simp only [Bool.and_eq_true,decide_eq_true_eq]
      omega
     have e3:(bs.all fun b=>decide (b.f6.length ≤ 1000000)) = true:=List.all_eq_true.2 fun b hb=>by
      have:=(hno b hb).1
      exact decide_eq_true (by omega)
     rw [List.all_append,e1,e2,e3,decide_eq_true hlen,decide_eq_true (by omega:bs.length ≤ 1000000)];rfl
    have hsh:kF.f bs s (ZH ++ l) = some (Wh (ZH ++ l) s bs):=by unfold kF.f;rw [if_pos hsz]
    have has:=zgv (ZH ++ l) (by omega) hFF
    have hrs:=zKr (ZH ++ l) hlen hFF s bs (by omega) (fun b hb=>by have:=(hno b hb).1;omega)
    have hsame:Ev (fun k=>yK.f k (Wh (ZH ++ l) s bs).1 (Wh (ZH ++ l) s bs).1) true:=by
     unfold Wh
     split
     ·exact iP [] (Nat.zero_le _) (fun b hb=>by cases hb)
     ·split
      ·exact iP [] (Nat.zero_le _) (fun b hb=>by cases hb)
      ·refine iP _ (by rw [List.length_map];omega) (fun b hb=>?_)
       obtain ⟨y,hy,rfl⟩:=List.mem_map.1 hb
       rw [zfK]
       have:=(hno y hy).1
       omega
    refine Ev.step (fun k=>by rw [yg.j0]) (vw Bool.false_ne_true (WI hall (WI hsh (WI hall (Ev.bind has (Ev.bind hrs (yB rfl (Ev.bind hsame (yB rfl (WI zKe (Ev.now _)))))))))))
theorem zyL (A0:Option Addr) (c0:Nat) (l:List y8) (A1:Option Addr) (c1:Nat) (bs:List jR) (s:Int) (w:World) (hG:GW w) (q0:l.length ≤ c0) (r0:Kd.C kP w A0 l.length l) (q1:bs.length ≤ c1) (r1:Kd.C uj w A1 bs.length bs)
  (hl:l.length ≤ 2000000000000) (hS:∀ x ∈ l,okM x ∧ x.f0.size ≤ 140737488355328 ∧ ∀ g ∈ x.f3,g.f0.size ≤ 140737488355328) :
  Calls Tryz.prog 7 #[.agg #[.slice A0 l.length c0],.slice A1 bs.length c1,.int .i64 s] w fun e w'=>e = .returned (.bool true) ∧ Below w.heap.size w w':=by
 obtain ⟨k,hk⟩:=(zKs l hl (fun x hx=>(hS x hx).1) (fun x hx=>(hS x hx).2) bs s).rounds
 exact yg.calls k A0 c0 l A1 c1 bs s true w r0 q0 r1 q1 hG hk
end Go.Proofs.YtggifbbiiickmaaGreatDoor
namespace Go.Proofs.YtggifbbiiickmaaGreatDoor
open Go.ChangeShapes Go.WideShapes Go.RowKit Go.Deep Go.Proofs.zk.za
section
variable {H:Type} {enc:TypeId × Value → H} {P:Program} {w:World} {sp:Nat → Bool} {held:Bool} {α:Type}
theorem zKt [Inhabited α] (d:Kd α) {t e:TypeId} (Good:α → DataW H → Prop) {r:Reach} {b0:Nat} {v:Value} {d0:DataW H} {ps:List MemPlace} (ht:P.underlying t = some (.slice e)) (hc:P.cellsOf e = d.sz)
  (dec:∀ n cs x,DataW.trod enc P w 0 sp held n e cs = some x → ∃ y:α,d.K w y cs ∧ Good y x.1)
  (hval:Value.okWide P w r b0 t v) (h:DataW.Trod enc P w 0 sp held t v d0 ps) :
  ∃ A c l,v = .slice A l.length c ∧ l.length ≤ c ∧ Kd.C d w A l.length l ∧ (l = [] ∨ ∃ elems spare,d0 = .slice elems spare ∧ elems.length = l.length ∧ ∀ x ∈ l,∃ D ∈ elems,Good x D):=by
 obtain ⟨a0,zVv,cap0,rfl⟩:=okWide_slice ht hval
 obtain ⟨fuel,hf⟩:=h
 rcases open_slice ht hf with ⟨hcs,_⟩ | ⟨a,len,cap,m,n,D,Pl,hcs,_,hl,hm,hmm,hx,hel⟩
 ·simp [Value.cells] at hcs
  obtain ⟨rfl,rfl,rfl⟩:=hcs
  exact ⟨none,0,[],rfl,Nat.le_refl _,⟨rfl,by simp,fun h=>by simp at h⟩,.inl rfl⟩
 ·simp [Value.cells] at hcs
  obtain ⟨rfl,rfl,rfl⟩:=hcs
  have hlm:zVv ≤ m:=by rw [hmm];split <;> omega
  obtain ⟨F,hF⟩:=choose_lt (α:=α) (p:=fun i y=>∃ cs',w.cells? 0 (a.add (i * d.sz)) d.sz = some cs' ∧ d.K w y cs' ∧ Good y (D i)) (n:=m) (fun i hi=>by
   obtain ⟨cs',h1,h2⟩:=hel i hi
   rw [hc] at h1
   obtain ⟨y,hy,hg⟩:=dec _ _ _ h2
   exact ⟨y,cs',h1,hy,hg⟩)
  refine ⟨some a,cap0,(List.range zVv).map F,by simp,by simpa using hl,⟨rfl,?_,fun _=>⟨a,rfl,fun j p hj=>?_⟩⟩,.inr ⟨_,_,(Prod.mk.inj hx).1,by simp,fun x hx=>?_⟩⟩
  ·have:maxLen = 9223372036854775807:=rfl
   simp;omega
  ·have hj2:j < zVv:=by
    rcases Nat.lt_or_ge j zVv with h1 | h1
    ·exact h1
    ·rw [List.getElem?_eq_none (by simpa using h1)] at hj;cases hj
   rw [List.getElem?_map,List.getElem?_range hj2] at hj
   cases hj
   obtain ⟨cs',h1,h2,_⟩:=hF j (by omega)
   obtain ⟨_,h3,h4⟩:=World.cells?_some h1
   refine ⟨cs',h3,h2,fun i u hu=>?_⟩
   have hi:i < d.sz:=by
    rw [← h3]
    rcases Nat.lt_or_ge i cs'.length with h1 | h1
    ·exact h1
    ·rw [List.getElem?_eq_none h1] at hu;cases hu
   have:=h4 i hi
   rw [Go.Deep.add_add] at this
   rw [this,hu]
  ·obtain ⟨i,hi,rfl⟩:=List.mem_map.1 hx
   have hi2:=List.mem_range.1 hi
   obtain ⟨_,_,_,hg⟩:=hF i (by omega)
   exact ⟨D i,List.mem_map.2 ⟨i,hi,rfl⟩,hg⟩
end
theorem tX {H:Type} {P:Program} {e:TypeId}:∀ {elems:List (DataW H)} {D:DataW H},D ∈ elems → ∀ n ∈ D.weights P e,n ∈ DataW.weightsAll P e elems
 | d0 :: r,D,h,n,hn=>by
  simp only [DataW.weightsAll,List.mem_append]
  rcases List.mem_cons.1 h with rfl | h
  ·exact .inl hn
  ·exact .inr (tX h n hn)
end Go.Proofs.YtggifbbiiickmaaGreatDoor
namespace Go.Proofs.YtggifbbiiickmaaGreatDoor
open Go.ChangeShapes Go.WideShapes Go.RowKit Go.Deep Go.Proofs.zk.za Go.Proofs.YtggifbbiiickmaaGreatDoor.PX
section
variable {H:Type} {enc:TypeId × Value → H} {w:World} {sp:Nat → Bool} {held:Bool}
set_option maxRecDepth 100000 in
theorem zl1 (n:Nat) (cs:List Value) (x:DataW H × List MemPlace) (h:DataW.trod enc Tryz.prog w 0 sp held n 108 cs = some x):∃ y:qb,jX.K w y cs:=by
 obtain ⟨xs,k,hk,hxy,hcl,hxl,hf⟩:=DataW.trod_struct Tryz.underlying108 h
 have c0:Tryz.prog.cellsOf 108 = 3:=by kernel_rfl
 have c9:Tryz.prog.cellsOf 9 = 1:=by kernel_rfl
 rw [c0] at hcl
 match xs,hxl,cs,hcl with
 | [y0,y1,y2],_,[v0,v1,v2],_ =>
  have g0:=hf 0 _ rfl
  have g1:=hf 1 _ rfl
  have g2:=hf 2 _ rfl
  simp [c9] at g0 g1 g2
  obtain ⟨n0,e0,_⟩:=DataW.trod_string Tryz.underlying9 g0
  obtain ⟨n1,e1,_⟩:=DataW.trod_string Tryz.underlying9 g1
  obtain ⟨n2,e2,_⟩:=DataW.trod_string Tryz.underlying9 g2
  cases e0;cases e1;cases e2
  exact ⟨⟨n0,n1,n2⟩,zaO w ⟨n0,n1,n2⟩⟩
set_option maxRecDepth 100000 in
theorem zl2 (n:Nat) (cs:List Value) (x:DataW H × List MemPlace) (h:DataW.trod enc Tryz.prog w 0 sp held n 111 cs = some x):∃ y:qP,jg.K w y cs:=by
 obtain ⟨xs,k,hk,hxy,hcl,hxl,hf⟩:=DataW.trod_struct Tryz.underlying111 h
 have c0:Tryz.prog.cellsOf 111 = 3:=by kernel_rfl
 have c3:Tryz.prog.cellsOf 3 = 1:=by kernel_rfl
 have c9:Tryz.prog.cellsOf 9 = 1:=by kernel_rfl
 rw [c0] at hcl
 match xs,hxl,cs,hcl with
 | [y0,y1,y2],_,[v0,v1,v2],_ =>
  have g0:=hf 0 _ rfl
  have g1:=hf 1 _ rfl
  have g2:=hf 2 _ rfl
  simp [c3,c9] at g0 g1 g2
  obtain ⟨n0,e0,_⟩:=DataW.trod_string Tryz.underlying9 g0
  obtain ⟨n1,e1,_⟩:=DataW.trod_string Tryz.underlying9 g1
  obtain ⟨n2,e2,_⟩:=DataW.trod_int Tryz.underlying3 g2
  cases e0;cases e1;cases e2
  exact ⟨⟨n0,n1,n2⟩,zaP w ⟨n0,n1,n2⟩⟩
end
end Go.Proofs.YtggifbbiiickmaaGreatDoor
namespace Go.Proofs.YtggifbbiiickmaaGreatDoor
open Go.ChangeShapes Go.WideShapes Go.RowKit Go.Deep Go.Proofs.zk.za Go.Proofs.YtggifbbiiickmaaGreatDoor.PX
set_option linter.unusedSimpArgs false
set_option linter.unusedVariables false
section
variable {H:Type} {enc:TypeId × Value → H} {w:World} {sp:Nat → Bool} {held:Bool}
theorem Wi {α:Type} [Inhabited α] (d:Kd α) {P:Program} {t e:TypeId} (Good:α → DataW H → Prop) {fuel:Nat} {cs:List Value} {x:DataW H × List MemPlace} (ht:P.underlying t = some (.slice e)) (hc:P.cellsOf e = d.sz)
  (dec:∀ n cs x,DataW.trod enc P w 0 sp held n e cs = some x → ∃ y:α,d.K w y cs ∧ Good y x.1) (h:DataW.trod enc P w 0 sp held fuel t cs = some x) :
  ∃ A c l,cs = [.slice A l.length c] ∧ l.length ≤ c ∧ Kd.C d w A l.length l ∧ (l = [] ∨ ∃ elems spare,x.1 = .slice elems spare ∧ elems.length = l.length ∧ ∀ y ∈ l,∃ D ∈ elems,Good y D):=by
 rcases open_slice ht h with ⟨hcs,_⟩ | ⟨a,len,cap,m,n,D,Pl,hcs,_,hl,hm,hmm,hx,hel⟩
 ·exact ⟨none,0,[],hcs,Nat.le_refl _,⟨rfl,by simp,fun h=>by simp at h⟩,.inl rfl⟩
 ·have hlm:len ≤ m:=by rw [hmm];split <;> omega
  obtain ⟨F,hF⟩:=choose_lt (α:=α) (p:=fun i y=>∃ cs',w.cells? 0 (a.add (i * d.sz)) d.sz = some cs' ∧ d.K w y cs' ∧ Good y (D i)) (n:=m) (fun i hi=>by
   obtain ⟨cs',h1,h2⟩:=hel i hi
   rw [hc] at h1
   obtain ⟨y,hy,hg⟩:=dec _ _ _ h2
   exact ⟨y,cs',h1,hy,hg⟩)
  refine ⟨some a,cap,(List.range len).map F,by simp [hcs],by simpa using hl,⟨rfl,?_,fun _=>⟨a,rfl,fun j p hj=>?_⟩⟩,.inr ⟨_,_,by rw [hx],by simp,fun y hy=>?_⟩⟩
  ·have:maxLen = 9223372036854775807:=rfl
   simp;omega
  ·have hj2:j < len:=by
    rcases Nat.lt_or_ge j len with h1 | h1
    ·exact h1
    ·rw [List.getElem?_eq_none (by simpa using h1)] at hj;cases hj
   rw [List.getElem?_map,List.getElem?_range hj2] at hj
   cases hj
   obtain ⟨cs',h1,h2,_⟩:=hF j (by omega)
   obtain ⟨_,h3,h4⟩:=World.cells?_some h1
   refine ⟨cs',h3,h2,fun i u hu=>?_⟩
   have hi:i < d.sz:=by
    rw [← h3]
    rcases Nat.lt_or_ge i cs'.length with h1 | h1
    ·exact h1
    ·rw [List.getElem?_eq_none h1] at hu;cases hu
   have:=h4 i hi
   rw [Go.Deep.add_add] at this
   rw [this,hu]
  ·obtain ⟨i,hi,rfl⟩:=List.mem_map.1 hy
   have hi2:=List.mem_range.1 hi
   obtain ⟨_,_,_,hg⟩:=hF i (by omega)
   exact ⟨D i,List.mem_map.2 ⟨i,hi,rfl⟩,hg⟩
instance:Inhabited jd:=⟨z60⟩
end
end Go.Proofs.YtggifbbiiickmaaGreatDoor
namespace Go.Proofs.YtggifbbiiickmaaGreatDoor
open Go.ChangeShapes Go.WideShapes Go.RowKit Go.Deep Go.Proofs.zk.za Go.Proofs.YtggifbbiiickmaaGreatDoor.PX
set_option linter.unusedSimpArgs false
set_option linter.unusedVariables false
section
variable {H:Type} {enc:TypeId × Value → H} {w:World} {sp:Nat → Bool} {held:Bool}
instance:Inhabited Yi:=⟨z80⟩
def fC (t:TypeId) (D:DataW H):Prop:=∀ n ∈ D.weights Tryz.prog t,n ≤ reachBytes
theorem KU {t:TypeId} {fs:List TypeId} {xs:List (DataW H)} (e0:DataW.weights Tryz.prog t (.agg xs) = DataW.weightsEach Tryz.prog fs xs) (h:fC t (.agg xs)) {i:Nat} {u:TypeId} {x:DataW H} (hf:fs[i]? = some u) (hx:xs[i]? = some x):fC u x:=fun n hn=>h n (by rw [e0];exact DataW.weights_mem_each hf hx n hn)
theorem fq {α:Type} {Q:α → Prop} {t e:TypeId} {l:List α} {D:DataW H} (hu:Tryz.prog.underlying t = some (.slice e)) (g:l = [] ∨ ∃ elems spare,D = .slice elems spare ∧ elems.length = l.length ∧ ∀ y ∈ l,∃ D' ∈ elems,(fC e D' → Q y)) (hw:fC t D):l.length * Tryz.prog.bytesOf e ≤ 140737488355328 ∧ ∀ y ∈ l,Q y:=by
 rcases g with rfl | ⟨elems,spare,rfl,hlen,hg⟩
 ·exact ⟨by simp,fun y hy=>by cases hy⟩
 ·refine ⟨?_,fun y hy=>?_⟩
  ·have h1:=hw ((elems.length + spare.length) * Tryz.prog.bytesOf e) (by simp [DataW.weights,hu])
   have h2:l.length * Tryz.prog.bytesOf e ≤ (elems.length + spare.length) * Tryz.prog.bytesOf e:=Nat.mul_le_mul_right _ (by omega)
   have hB:=reachBytes_lt
   omega
  ·obtain ⟨D',hD',hq⟩:=hg y hy
   refine hq fun n hn=>hw n ?_
   simp only [DataW.weights,hu,List.mem_cons,List.mem_append]
   exact .inr (.inl (tX hD' n hn))
theorem zXI {t:TypeId} {s:ByteArray} (h:fC t (.lit (.string s.data.toList):DataW H)):s.size ≤ 140737488355328:=by
 have h1:=h s.data.toList.length (by simp [DataW.weights])
 have hB:=reachBytes_lt
 rw [Array.length_toList] at h1
 show s.data.size ≤ _
 omega
set_option maxRecDepth 100000 in
theorem zhP (n:Nat) (cs:List Value) (x:DataW H × List MemPlace) (h:DataW.trod enc Tryz.prog w 0 sp held n 105 cs = some x):∃ y:yG,vO.K w y cs ∧ (fC 105 x.1 → y.f0.size ≤ 140737488355328):=by
 obtain ⟨xs,k,hk,hxy,hcl,hxl,hf⟩:=DataW.trod_struct Tryz.underlying105 h
 have c0:Tryz.prog.cellsOf 105 = 2:=by kernel_rfl
 have c3:Tryz.prog.cellsOf 3 = 1:=by kernel_rfl
 have c9:Tryz.prog.cellsOf 9 = 1:=by kernel_rfl
 rw [c0] at hcl
 match xs,hxl,cs,hcl with
 | [y0,y1],_,[v0,v1],_ =>
  have g0:=hf 0 _ rfl
  have g1:=hf 1 _ rfl
  simp [c3,c9] at g0 g1
  obtain ⟨n0,e0,x0,_⟩:=DataW.trod_string Tryz.underlying9 g0
  obtain ⟨n1,e1,_⟩:=DataW.trod_int Tryz.underlying3 g1
  cases e0;cases e1
  refine ⟨⟨n0,n1⟩,zaN w ⟨n0,n1⟩,fun hb=>?_⟩
  have hx:x.1 = .agg [y0.1,y1.1]:=(Prod.mk.inj hxy).1
  rw [hx,x0] at hb
  have e0:DataW.weights Tryz.prog 105 (.agg [.lit (.string n0.data.toList),y1.1]:DataW H) = DataW.weightsEach Tryz.prog [9,3] [.lit (.string n0.data.toList),y1.1]:=by
   simp only [DataW.weights,Tryz.underlying105]
   rfl
  exact zXI (KU e0 hb (i:=0) rfl rfl)
set_option maxRecDepth 100000 in
theorem zhR (n:Nat) (cs:List Value) (x:DataW H × List MemPlace) (h:DataW.trod enc Tryz.prog w 0 sp held n 60 cs = some x):∃ y:jd,kP.K w y cs ∧ (fC 60 x.1 → okM y ∧ y.f0.size ≤ 140737488355328 ∧ ∀ g ∈ y.f3,g.f0.size ≤ 140737488355328):=by
 obtain ⟨xs,k,hk,hxy,hcl,hxl,hf⟩:=DataW.trod_struct Tryz.underlying60 h
 have c0:Tryz.prog.cellsOf 60 = 6:=by kernel_rfl
 have c3:Tryz.prog.cellsOf 3 = 1:=by kernel_rfl
 have c9:Tryz.prog.cellsOf 9 = 1:=by kernel_rfl
 have c4:Tryz.prog.cellsOf 4 = 1:=by kernel_rfl
 have cG:Tryz.prog.cellsOf 56 = 1:=by kernel_rfl
 have cL:Tryz.prog.cellsOf 57 = 1:=by kernel_rfl
 have cK:Tryz.prog.cellsOf 58 = 1:=by kernel_rfl
 rw [c0] at hcl
 match xs,hxl,cs,hcl with
 | [y0,y1,y2,y3,y4,y5],_,[v0,v1,v2,v3,v4,v5],_ =>
  have g0:=hf 0 _ rfl
  have g1:=hf 1 _ rfl
  have g2:=hf 2 _ rfl
  have g3:=hf 3 _ rfl
  have g4:=hf 4 _ rfl
  have g5:=hf 5 _ rfl
  simp [c3,c9,c4,cG,cL,cK] at g0 g1 g2 g3 g4 g5
  obtain ⟨n0,e0,x0,_⟩:=DataW.trod_string Tryz.underlying9 g0
  obtain ⟨n1,e1,_⟩:=DataW.trod_bool Tryz.underlying4 g1
  obtain ⟨n2,e2,_⟩:=DataW.trod_int Tryz.underlying3 g2
  obtain ⟨A3,c3',l3,e3,q3,r3,s3⟩:=Wi vO (fun (y:yG) (D:DataW H)=>fC 105 D → y.f0.size ≤ 140737488355328) Tryz.underlying56 (by kernel_rfl) zhP g3
  obtain ⟨A4,c4',l4,e4,q4,r4,s4⟩:=Wi jX (fun (_:qb) (D:DataW H)=>fC 108 D → True) Tryz.underlying57 (by kernel_rfl) (fun n cs x h=>by obtain ⟨y,hy⟩:=zl1 n cs x h;exact ⟨y,hy,fun _=>trivial⟩) g4
  obtain ⟨A5,c5',l5,e5,q5,r5,s5⟩:=Wi jg (fun (_:qP) (D:DataW H)=>fC 111 D → True) Tryz.underlying58 (by kernel_rfl) (fun n cs x h=>by obtain ⟨y,hy⟩:=zl2 n cs x h;exact ⟨y,hy,fun _=>trivial⟩) g5
  cases e0;cases e1;cases e2;cases e3;cases e4;cases e5
  refine ⟨⟨n0,n1,n2,l3,l4,l5⟩,zdp w ⟨n0,n1,n2,l3,l4,l5⟩ q3 r3 q4 r4 q5 r5,fun hb=>?_⟩
  have hx:x.1 = .agg [y0.1,y1.1,y2.1,y3.1,y4.1,y5.1]:=(Prod.mk.inj hxy).1
  rw [hx] at hb
  have e0:DataW.weights Tryz.prog 60 (.agg [y0.1,y1.1,y2.1,y3.1,y4.1,y5.1]:DataW H) = DataW.weightsEach Tryz.prog [9,4,3,56,57,58] [y0.1,y1.1,y2.1,y3.1,y4.1,y5.1]:=by
   simp only [DataW.weights,Tryz.underlying60]
   rfl
  have b0:=KU e0 hb (i:=0) rfl rfl
  rw [x0] at b0
  obtain ⟨z3,w3⟩:=fq Tryz.underlying56 s3 (KU e0 hb (i:=3) rfl rfl)
  obtain ⟨z4,_⟩:=fq Tryz.underlying57 s4 (KU e0 hb (i:=4) rfl rfl)
  obtain ⟨z5,_⟩:=fq Tryz.underlying58 s5 (KU e0 hb (i:=5) rfl rfl)
  have k3:1 ≤ Tryz.prog.bytesOf 105:=of_decide_eq_true (by kernel_rfl)
  have k4:1 ≤ Tryz.prog.bytesOf 108:=of_decide_eq_true (by kernel_rfl)
  have k5:1 ≤ Tryz.prog.bytesOf 111:=of_decide_eq_true (by kernel_rfl)
  exact ⟨⟨Nat.le_trans (Nat.le_mul_of_pos_right _ k3) z3,Nat.le_trans (Nat.le_mul_of_pos_right _ k4) z4,Nat.le_trans (Nat.le_mul_of_pos_right _ k5) z5⟩,zXI b0,w3⟩
end
end Go.Proofs.YtggifbbiiickmaaGreatDoor
namespace Go.Proofs.YtggifbbiiickmaaGreatDoor
open Go.ChangeShapes Go.WideShapes Go.RowKit Go.Deep Go.Proofs.zk.za Go.Proofs.YtggifbbiiickmaaGreatDoor.PX
set_option linter.unusedSimpArgs false
set_option linter.unusedVariables false
section
variable {H:Type} {enc:TypeId × Value → H} {w:World} {sp:Nat → Bool} {held:Bool}
instance:Inhabited qV:=⟨z53⟩
theorem zl3 (n:Nat) (cs:List Value) (x:DataW H × List MemPlace) (h:DataW.trod enc Tryz.prog w 0 sp held n 3 cs = some x):∃ y:Int,(Kd.int .i64).K w y cs ∧ True:=by
 obtain ⟨n0,e0,_⟩:=DataW.trod_int Tryz.underlying3 h
 exact ⟨n0,e0,trivial⟩
set_option maxRecDepth 100000 in
theorem zl4 (n:Nat) (cs:List Value) (x:DataW H × List MemPlace) (h:DataW.trod enc Tryz.prog w 0 sp held n 53 cs = some x):∃ y:qV,uj.K w y cs ∧ True:=by
 obtain ⟨xs,k,hk,hxy,hcl,hxl,hf⟩:=DataW.trod_struct Tryz.underlying53 h
 have c0:Tryz.prog.cellsOf 53 = 7:=by kernel_rfl
 have c3:Tryz.prog.cellsOf 3 = 1:=by kernel_rfl
 have c9:Tryz.prog.cellsOf 9 = 1:=by kernel_rfl
 have cG:Tryz.prog.cellsOf 51 = 1:=by kernel_rfl
 rw [c0] at hcl
 match xs,hxl,cs,hcl with
 | [y0,y1,y2,y3,y4,y5,y6],_,[v0,v1,v2,v3,v4,v5,v6],_ =>
  have g0:=hf 0 _ rfl
  have g1:=hf 1 _ rfl
  have g2:=hf 2 _ rfl
  have g3:=hf 3 _ rfl
  have g4:=hf 4 _ rfl
  have g5:=hf 5 _ rfl
  have g6:=hf 6 _ rfl
  simp [c3,c9,cG] at g0 g1 g2 g3 g4 g5 g6
  obtain ⟨n0,e0,_⟩:=DataW.trod_int Tryz.underlying3 g0
  obtain ⟨n1,e1,_⟩:=DataW.trod_int Tryz.underlying3 g1
  obtain ⟨n2,e2,_⟩:=DataW.trod_int Tryz.underlying3 g2
  obtain ⟨n3,e3,_⟩:=DataW.trod_int Tryz.underlying3 g3
  obtain ⟨n4,e4,_⟩:=DataW.trod_string Tryz.underlying9 g4
  obtain ⟨n5,e5,_⟩:=DataW.trod_string Tryz.underlying9 g5
  obtain ⟨A6,c6,l6,e6,q6,r6,_⟩:=Wi (Kd.int .i64) (fun (_:Int) (_:DataW H)=>True) Tryz.underlying51 (by kernel_rfl) zl3 g6
  cases e0;cases e1;cases e2;cases e3;cases e4;cases e5;cases e6
  exact ⟨⟨n0,n1,n2,n3,n4,n5,l6⟩,zdr w ⟨n0,n1,n2,n3,n4,n5,l6⟩ q6 r6,trivial⟩
set_option maxRecDepth 100000 in
theorem zVk {r:Reach} {b0:Nat} {v:Value} {d0:DataW H} {ps:List MemPlace} (hval:Value.okWide Tryz.prog w r b0 34 v) (h:DataW.Trod enc Tryz.prog w 0 sp held 34 v d0 ps) :
  ∃ A c l,v = .slice A l.length c ∧ l.length ≤ c ∧ Kd.C uj w A l.length l:=by
 obtain ⟨A,c,l,e,h1,h2,_⟩:=zKt uj (fun (_:qV) (_:DataW H)=>True) Tryz.underlying34 (by kernel_rfl) zl4 hval h
 exact ⟨A,c,l,e,h1,h2⟩
set_option maxRecDepth 100000 in
theorem zVy {r:Reach} {b0:Nat} {v:Value} {d0:DataW H} {ps:List MemPlace} {ts:List TypeId} {ds:List (DataW H)} {j:Nat} (hwt:(DataW.weightsEach Tryz.prog ts ds).all (· ≤ reachBytes) = true) (ht:ts[j]? = some 24) (hd:ds[j]? = some d0)
  (hval:Value.okWide Tryz.prog w r b0 24 v) (h:DataW.Trod enc Tryz.prog w 0 sp held 24 v d0 ps) :
  ∃ A c l,v = .agg #[.slice A l.length c] ∧ l.length ≤ c ∧ Kd.C kP w A l.length l ∧ l.length ≤ 2000000000000 ∧ (∀ x ∈ l,okM x ∧ x.f0.size ≤ 140737488355328 ∧ ∀ g ∈ x.f3,g.f0.size ≤ 140737488355328):=by
 have hB0:fC 24 d0:=fun n hn=>by
  have:=List.all_eq_true.1 hwt _ (DataW.weights_mem_each ht hd n hn)
  simpa using this
 obtain ⟨cs,rfl,hsz⟩:=okWide_struct Tryz.underlying24 hval
 obtain ⟨fuel,hf0⟩:=h
 obtain ⟨xs,k,hk,hxy,hcl,hxl,hf⟩:=DataW.trod_struct Tryz.underlying24 hf0
 have c50:Tryz.prog.cellsOf 24 = 1:=by kernel_rfl
 have cG:Tryz.prog.cellsOf 22 = 1:=by kernel_rfl
 have hcs:(Value.agg cs).cells.toList = cs.toList:=by simp [Value.cells]
 rw [hcs] at hf hcl
 rw [c50] at hcl
 have hcc:cs = ⟨cs.toList⟩:=rfl
 generalize cs.toList = L at hf hcl hcc
 subst hcc
 match xs,hxl,L,hcl with
 | [y0],_,[v0],_ =>
  have f0:=hf 0 _ rfl
  simp [cG] at f0
  obtain ⟨A,c,l,e0,q0,r0,g0⟩:=Wi kP (fun (y:jd) (D:DataW H)=>fC 60 D → okM y ∧ y.f0.size ≤ 140737488355328 ∧ ∀ g ∈ y.f3,g.f0.size ≤ 140737488355328) Tryz.underlying22 (by kernel_rfl) zhR f0
  cases e0
  have hd0:d0 = .agg [y0.1]:=(Prod.mk.inj hxy).1
  subst hd0
  have e0:DataW.weights Tryz.prog 24 (.agg [y0.1]:DataW H) = DataW.weightsEach Tryz.prog [22] [y0.1]:=by
   simp only [DataW.weights,Tryz.underlying24]
   rfl
  obtain ⟨z1,z2⟩:=fq Tryz.underlying22 g0 (KU e0 hB0 (i:=0) rfl rfl)
  have hby:Tryz.prog.bytesOf 60 = 104:=by kernel_rfl
  rw [hby] at z1
  exact ⟨A,c,l,rfl,q0,r0,by omega,z2⟩
end
end Go.Proofs.YtggifbbiiickmaaGreatDoor
namespace Go.Proofs.YtggifbbiiickmaaGreatDoor
open Go.RowKit Go.ChangeShapes Go.WideShapes Go.Proofs.zk.za
theorem fD {P:Program} {w:World} {l:List (String × DataW Unit)} {n nm:String} {d:DataW Unit} {g:Nat} {t:TypeId} {ms:Array (String × TypeId)} (h:laidMet P l w) (hm:(n,.iface nm d) ∈ l)
  (hg:P.globalNamed n = some g) (ht:(P.globals[g]?).map (·.type) = some t) (hu:P.underlying t = some (.interface ms)):∃ tp p,w.var? P n = some #[.iface tp p]:=by
 obtain ⟨g',t',cs,fuel,p,e1,e2,e3,e4⟩:=Lib.laidMet.reads h hm
 obtain rfl:g' = g:=Option.some.inj (e1.symm.trans hg)
 obtain rfl:t' = t:=Option.some.inj (e2.symm.trans ht)
 cases fuel with
 | zero=>simp [DataW.trod] at e4
 | succ k =>
  unfold DataW.trod at e4
  rw [hu] at e4
  obtain ⟨cl⟩:=cs
  rw [e3]
  match cl,e4 with
  | [],e4=>simp at e4
  | [v],e4 =>
   cases v <;> simp at e4
   exact ⟨_,_,rfl⟩
  | _ :: _ :: _,e4=>simp at e4
theorem zhS {W:World} {l:List (String × DataW Unit)} {ds:DataW Unit} {dr:DataW Unit} {n1 n2:String} (h:laidMet Tryz.prog l W) (hsh:W.ShapedOpen Tryz.prog) (h1:("internal/strconv.uint64pow10",Lib.tabData .u64 Lib.pow10Tab) ∈ l) (h2:("strconv.ErrSyntax",.iface n1 ds) ∈ l) (h3:("strconv.ErrRange",.iface n2 dr) ∈ l) (h4:("strings.asciiSpace",Lib.tabData .u8 Lib.asciiSpaceTab) ∈ l):GW W:=by
 have htab:Lib.TabIs Tryz.prog W "internal/strconv.uint64pow10" .u64 Lib.pow10Tab:=fV (g:=7) (t:=270) (e:=214) (n:=20) (by kernel_rfl) (by kernel_rfl) Tryz.underlying270 Tryz.underlying214 (by kernel_rfl) (by kernel_rfl) h h1
 have zl5:Lib.TabIs Tryz.prog W "strings.asciiSpace" .u8 Lib.asciiSpaceTab:=fV (g:=0) (t:=169) (e:=5) (n:=256) (by kernel_rfl) (by kernel_rfl) Tryz.underlying169 Tryz.underlying5 (by kernel_rfl) (by kernel_rfl) h h4
 refine ⟨htab,fD (g:=3) h h2 (by kernel_rfl) (t:=133) (by kernel_rfl) Tryz.underlying133,fD (g:=4) h h3 (by kernel_rfl) (t:=133) (by kernel_rfl) Tryz.underlying133,zl5,
  cell_of_shapedOpen_int (t:=3) (zero:=#[.int .i64 0]) hsh (of_decide_eq_true (by kernel_rfl)) (by kernel_rfl) rfl (by kernel_rfl) (by kernel_rfl) Tryz.underlying3,?_⟩
 obtain ⟨o,_,h4,_⟩:=hsh.2 11 (of_decide_eq_true (by kernel_rfl)) (of_decide_eq_true (by kernel_rfl))
 rcases Nat.lt_or_ge 11 W.heap.size with h5 | h5
 ·omega
 ·rw [Array.getElem?_eq_none h5] at h4;cases h4
end Go.Proofs.YtggifbbiiickmaaGreatDoor
