/-
  Texts that lean on one another, laid in one file. No condition.
-/
import Derived.Test.YtggifbbiiickmaaGreatDoorGTX1
import Derived.Test.YtggifbbiiickmaaGreatDoorGTX2
namespace Go.Proofs.YtggifbbiiickmaaGreatDoor.PX
open Go.RowKit Go.Proofs.zk.zA Go.Proofs.zk.yB Go.Proofs.zk.yA
attribute [local go_sem] xR xS vM vN xB xC xU vv   -- for this text's walks alone
set_option linter.unusedVariables false
set_option linter.unusedSimpArgs false
def qI.l0:Nat → ByteArray → ByteArray → Int → Int → ByteArray → Bool → Int → List (uX) → List (uo) → List (uG) → Option (Int)
 | 0,_,_,_,_,_,_,_,_,_,_=>none
 | k + 1,x1,x2,x3,x9,zw4,zw5,zw6,zw7,zw8,bn=>if x9 < (bn.length:Int) then (if 0 ≤ x9 then (if ((xQ bn x9).f0).toList = x1.toList then (if ((xQ bn x9).f1).toList = x2.toList then ((kK.f ((xQ bn x9).f2) x3).bind fun zVr=>(some zVr)) else (qI.l0 k x1 x2 x3 (wrap64 (x9 + 1)) zw4 zw5 zw6 zw7 zw8 bn)) else (qI.l0 k x1 x2 x3 (wrap64 (x9 + 1)) zw4 zw5 zw6 zw7 zw8 bn)) else (none)) else (some 0)
def qI.f (k:Nat) (zB:ByteArray) (zD:Bool) (zC:Int) (zn:List (uX)) (zG:List (uo)) (zF:List (uG)) (a1:ByteArray) (a2:ByteArray) (a3:Int):Option (Int):=qI.l0 k a1 a2 a3 0 zB zD zC zn zG zF
set_option maxHeartbeats 8000000 in
set_option maxRecDepth 100000 in
theorem qI.calls (k:Nat) (zB:ByteArray) (zD:Bool) (zC:Int) (yO:Option Addr) (yP:Nat) (zn:List (uX)) (yR:Option Addr) (yS:Nat) (zG:List (uo)) (yT:Option Addr) (yU:Nat) (zF:List (uG)) (a1:ByteArray) (a2:ByteArray) (a3:Int) (r:Int) (w:World) (uS:Kd.C YK w yO zn.length zn) (jF:zn.length ≤ yP) (jG:Kd.C Yo w yR zG.length zG) (jH:zG.length ≤ yS) (jI:Kd.C Yu w yT zF.length zF) (jL:zF.length ≤ yU) (h:qI.f k zB zD zC zn zG zF a1 a2 a3 = some r) :
  Calls Tryz.prog 142 #[.agg #[.string zB,.bool zD,.int .i64 zC,.slice yO zn.length yP,.slice yR zG.length yS,.slice yT zF.length yU],.string a1,.string a2,.int .i64 a3] w fun e w'=>e = .returned (.int .i64 r) ∧ Below w.heap.size w w':=by
 have VW:=Tryz.underlying101
 have jr:=zx.mk uS
 have kM:=zx.mk jF
 clear uS jF
 have jA:=zx.mk jG
 have kN:=zx.mk jH
 clear jG jH
 have jB:=zx.mk jI
 have kP:=zx.mk jL
 clear jI jL
 have HB:=zx.mk (Below.refl w.heap.size w)
 have H:(qI.l0 k a1 a2 a3 0 zB zD zC zn zG zF) = some r:=h
 clear h
 have H':=zx.mk H
 clear H
 go_enter Tryz.func142,Tryz.ntmps142
 go_wp2_with (first | ((with_reducible refine qC (N:=4) rfl ?_);refine qM ?hg (N:=4) ?hd (cs:=#[.string zB,.bool zD,.int .i64 zC,.slice yO zn.length yP,.slice yR zG.length yS,.slice yT zF.length yU]) (t:=101) ?hr ?_;(case hd=>rfl);(case hg=>rfl);(case hr=>first | (go_simp;done) | (go_simp;rfl));intro wo hg w5 qc hb;have zJ:=zx.mk (zo (zH HB.out) hb);have zK:=zx.mk (qc);have zi:=zx.mk ((by rw [hg];exact (ze (zH HB.out)):w.heap.size ≤ wo));have zL:=zx.mk ((by rw [hg];exact (ze (zH HB.out)):w.heap.size ≤ wo));clear HB;have HB:=zJ;have vH:=zK;have ztR:=zi;have zch:=zL;clear zJ zK zi zL;clear hb qc hg))
 go_loopg [9] k (fun kq v9 w'=>∃ (xO:Int),v9 = .int .i64 xO ∧ zx (qI.l0 kq a1 a2 a3 xO zB zD zC zn zG zF = some r) ∧ zx (kq ≤ k) ∧ zx (w'.heap[wo]? = some (.cells #[.string zB,.bool zD,.int .i64 zC,(.slice yO zn.length yP),(.slice yR zG.length yS),(.slice yT zF.length yU)] 101 (0,0))) ∧ zx (Below w.heap.size w w'))
 case atStart=>exact ⟨(0),(by first | rfl | (simp;done) | (simp [*];done)),H',⟨Nat.le_refl _⟩,⟨qh vH.out⟩,⟨zH HB.out⟩⟩
 case round =>
  clear H'
  obtain ⟨xO,rfl,HA,uK,vH,HB⟩:=hrel
  cases gk with
  | zero=>exact absurd HA.out (by simp [qI.l0])
  | succ k1 =>
   have H:=HA.out
   clear HA
   simp only [qI.l0] at H
   by_cases c6:xO < (zF.length:Int)
   ·rw [if_pos c6] at H
    have pq:decide (xO < (zF.length:Int)) = true:=decide_eq_true c6
    clear c6
    by_cases c7:0 ≤ xO
    ·rw [if_pos c7] at H
     have XJ:decide (0 ≤ xO) = true:=decide_eq_true c7
     clear c7
     by_cases c8:((xQ zF xO).f0).toList = a1.toList
     ·rw [if_pos c8] at H
      have X6:(((xQ zF xO).f0).toList == a1.toList) = true:=beq_iff_eq.mpr c8
      have dP:(((xQ zF xO).f0).toList != a1.toList) = false:=bne_eq_false_iff_eq.mpr c8
      clear c8
      by_cases c9:((xQ zF xO).f1).toList = a2.toList
      ·rw [if_pos c9] at H
       have oC:(((xQ zF xO).f1).toList == a2.toList) = true:=beq_iff_eq.mpr c9
       have zk9:(((xQ zF xO).f1).toList != a2.toList) = false:=bne_eq_false_iff_eq.mpr c9
       clear c9
       replace H:=Option.bind_eq_some_iff.mp H
       obtain ⟨zVr,oG,H⟩:=H
       replace H:(some zVr) = some r:=H
       have oH:=zx.mk oG
       clear oG
       obtain rfl:=Option.some.inj H
       have zzr:wr.cell? ⟨wo,0,none⟩ = some (.string zB):=zZ vH 0
       have zzs:wr.cell? ⟨wo,1,none⟩ = some (.bool zD):=zZ vH 1
       have zzt:wr.cell? ⟨wo,2,none⟩ = some (.int .i64 zC):=zZ vH 2
       have zzu:wr.cell? ⟨wo,3,none⟩ = some (.slice yO zn.length yP):=zZ vH 3
       have zjc:wr.cell? ⟨wo,4,none⟩ = some (.slice yR zG.length yS):=zZ vH 4
       have zjd:wr.cell? ⟨wo,5,none⟩ = some (.slice yT zF.length yU):=zZ vH 5
       have zzA:=zy vH.out 0
       have zzB:=zy vH.out 1
       have zzC:=zy vH.out 2
       have zzD:=zy vH.out 3
       have zje:=zy vH.out 4
       have zjf:=zy vH.out 5
       have gQ:0 ≤ (xO:Int):=of_decide_eq_true yE
       have gX:xO < (zF.length:Int):=of_decide_eq_true yE
       obtain ⟨zxC,zyz,YB,YC,YD⟩:=Vs jB.out xO gQ gX
       cases zyz
       replace YB:=(HB.out.cell (World.block_lt_of_cell? w _ YB)).trans YB
       replace YC:=(HB.out.cell (World.block_lt_of_cell? w _ YC)).trans YC
       replace YD:=(HB.out.cell (World.block_lt_of_cell? w _ YD)).trans YD
       replace gQ:=eq_true gQ
       replace gX:=eq_true gX
       have zqB:0 ≤ (xO:Int):=of_decide_eq_true yE
       have zqC:xO < (zF.length:Int):=of_decide_eq_true yE
       obtain ⟨zVs,zae,KH,KI,KL⟩:=Vs jB.out xO zqB zqC
       obtain rfl:zxC = zVs:=(by injection zae)
       replace KH:=(HB.out.cell (World.block_lt_of_cell? w _ KH)).trans KH
       replace KI:=(HB.out.cell (World.block_lt_of_cell? w _ KI)).trans KI
       replace KL:=(HB.out.cell (World.block_lt_of_cell? w _ KL)).trans KL
       replace zqB:=eq_true zqB
       replace zqC:=eq_true zqC
       have zaf:0 ≤ (xO:Int):=of_decide_eq_true yE
       have zah:xO < (zF.length:Int):=of_decide_eq_true yE
       obtain ⟨ziu,zne,zjT,zjU,zj0⟩:=Vs jB.out xO zaf zah
       obtain rfl:zxC = ziu:=(by injection zne)
       replace zjT:=(HB.out.cell (World.block_lt_of_cell? w _ zjT)).trans zjT
       replace zjU:=(HB.out.cell (World.block_lt_of_cell? w _ zjU)).trans zjU
       replace zj0:=(HB.out.cell (World.block_lt_of_cell? w _ zj0)).trans zj0
       replace zaf:=eq_true zaf
       replace zah:=eq_true zah
       go_wp2_with (first | ((with_reducible refine yG (f:=122) rfl ?_);refine jm (some 42) Tryz.func122 #[.int .i64 ((xQ zF xO).f2),.int .i64 a3] ?_;(with_reducible refine (kK.calls ((xQ zF xO).f2) a3 zVr _ oH.out).mono ?_);rintro e w' ⟨rfl,⟨nd,rfl⟩⟩;refine ⟨_,rfl,?_⟩))
       go_ret
       exact ⟨by first | rfl | (simp [zM,zN] <;> rfl) | (simp [*,zM,zN] <;> rfl),by repeat (first | (with_reducible first | exact HB.out | apply yV | apply zP | apply zT | refine qb ?_ zch.out) | exact HB.out)⟩
      ·rw [if_neg c9] at H
       have oC:(((xQ zF xO).f1).toList == a2.toList) = false:=beq_eq_false_iff_ne.mpr c9
       have zk9:(((xQ zF xO).f1).toList != a2.toList) = true:=bne_iff_ne.mpr c9
       have H':=zx.mk H
       clear H
       have zwr:wr.cell? ⟨wo,0,none⟩ = some (.string zB):=zZ vH 0
       have zws:wr.cell? ⟨wo,1,none⟩ = some (.bool zD):=zZ vH 1
       have zwt:wr.cell? ⟨wo,2,none⟩ = some (.int .i64 zC):=zZ vH 2
       have zwu:wr.cell? ⟨wo,3,none⟩ = some (.slice yO zn.length yP):=zZ vH 3
       have zwA:wr.cell? ⟨wo,4,none⟩ = some (.slice yR zG.length yS):=zZ vH 4
       have zwB:wr.cell? ⟨wo,5,none⟩ = some (.slice yT zF.length yU):=zZ vH 5
       have zwC:=zy vH.out 0
       have zwD:=zy vH.out 1
       have zwE:=zy vH.out 2
       have zwF:=zy vH.out 3
       have zwG:=zy vH.out 4
       have zwH:=zy vH.out 5
       have gQ:0 ≤ (xO:Int):=of_decide_eq_true yE
       have gX:xO < (zF.length:Int):=of_decide_eq_true yE
       obtain ⟨zxC,zyz,YB,YC,YD⟩:=Vs jB.out xO gQ gX
       cases zyz
       replace YB:=(HB.out.cell (World.block_lt_of_cell? w _ YB)).trans YB
       replace YC:=(HB.out.cell (World.block_lt_of_cell? w _ YC)).trans YC
       replace YD:=(HB.out.cell (World.block_lt_of_cell? w _ YD)).trans YD
       replace gQ:=eq_true gQ
       replace gX:=eq_true gX
       have zqB:0 ≤ (xO:Int):=of_decide_eq_true yE
       have zqC:xO < (zF.length:Int):=of_decide_eq_true yE
       obtain ⟨zVs,zae,KH,KI,KL⟩:=Vs jB.out xO zqB zqC
       obtain rfl:zxC = zVs:=(by injection zae)
       replace KH:=(HB.out.cell (World.block_lt_of_cell? w _ KH)).trans KH
       replace KI:=(HB.out.cell (World.block_lt_of_cell? w _ KI)).trans KI
       replace KL:=(HB.out.cell (World.block_lt_of_cell? w _ KL)).trans KL
       replace zqB:=eq_true zqB
       replace zqC:=eq_true zqC
       go_wp2
       go_roundg k1
       case measure=>have:=uK.out;omega
       case rel=>exact ⟨(wrap64 (xO + 1)),(by first | rfl | (simp;done) | (simp [*];done)),H',⟨by have:=uK.out;omega⟩,⟨qh vH.out⟩,⟨zH HB.out⟩⟩
     ·rw [if_neg c8] at H
      have X6:(((xQ zF xO).f0).toList == a1.toList) = false:=beq_eq_false_iff_ne.mpr c8
      have dP:(((xQ zF xO).f0).toList != a1.toList) = true:=bne_iff_ne.mpr c8
      have H':=zx.mk H
      clear H
      have Xm:wr.cell? ⟨wo,0,none⟩ = some (.string zB):=zZ vH 0
      have Xn:wr.cell? ⟨wo,1,none⟩ = some (.bool zD):=zZ vH 1
      have Xo:wr.cell? ⟨wo,2,none⟩ = some (.int .i64 zC):=zZ vH 2
      have Xp:wr.cell? ⟨wo,3,none⟩ = some (.slice yO zn.length yP):=zZ vH 3
      have rF:wr.cell? ⟨wo,4,none⟩ = some (.slice yR zG.length yS):=zZ vH 4
      have rG:wr.cell? ⟨wo,5,none⟩ = some (.slice yT zF.length yU):=zZ vH 5
      have Xr:=zy vH.out 0
      have Xt:=zy vH.out 1
      have Xu:=zy vH.out 2
      have XA:=zy vH.out 3
      have rH:=zy vH.out 4
      have rM:=zy vH.out 5
      have gQ:0 ≤ (xO:Int):=of_decide_eq_true yE
      have gX:xO < (zF.length:Int):=of_decide_eq_true yE
      obtain ⟨zxC,zyz,YB,YC,YD⟩:=Vs jB.out xO gQ gX
      cases zyz
      replace YB:=(HB.out.cell (World.block_lt_of_cell? w _ YB)).trans YB
      replace YC:=(HB.out.cell (World.block_lt_of_cell? w _ YC)).trans YC
      replace YD:=(HB.out.cell (World.block_lt_of_cell? w _ YD)).trans YD
      replace gQ:=eq_true gQ
      replace gX:=eq_true gX
      go_wp2
      go_roundg k1
      case measure=>have:=uK.out;omega
      case rel=>exact ⟨(wrap64 (xO + 1)),(by first | rfl | (simp;done) | (simp [*];done)),H',⟨by have:=uK.out;omega⟩,⟨qh vH.out⟩,⟨zH HB.out⟩⟩
    ·rw [if_neg c7] at H
     exact absurd H (by simp)
   ·rw [if_neg c6] at H
    have pq:decide (xO < (zF.length:Int)) = false:=decide_eq_false c6
    clear c6
    obtain rfl:=Option.some.inj H
    have nM:wr.cell? ⟨wo,0,none⟩ = some (.string zB):=zZ vH 0
    have nN:wr.cell? ⟨wo,1,none⟩ = some (.bool zD):=zZ vH 1
    have nO:wr.cell? ⟨wo,2,none⟩ = some (.int .i64 zC):=zZ vH 2
    have nP:wr.cell? ⟨wo,3,none⟩ = some (.slice yO zn.length yP):=zZ vH 3
    have nR:wr.cell? ⟨wo,4,none⟩ = some (.slice yR zG.length yS):=zZ vH 4
    have nS:wr.cell? ⟨wo,5,none⟩ = some (.slice yT zF.length yU):=zZ vH 5
    have nT:=zy vH.out 0
    have nU:=zy vH.out 1
    have rz:=zy vH.out 2
    have rZ:=zy vH.out 3
    have rQ:=zy vH.out 4
    have rX:=zy vH.out 5
    go_wp2
    go_ret
    exact ⟨by first | rfl | (simp [zM,zN] <;> rfl) | (simp [*,zM,zN] <;> rfl),by repeat (first | (with_reducible first | exact HB.out | apply yV | apply zP | apply zT | refine qb ?_ zch.out) | exact HB.out)⟩
end Go.Proofs.YtggifbbiiickmaaGreatDoor.PX
namespace Go.Proofs.YtggifbbiiickmaaGreatDoor.PX
open Go.RowKit Go.Proofs.zk.zA Go.Proofs.zk.yB Go.Proofs.zk.yA
attribute [local go_sem] xR xS vM vN xB xC xU vv   -- for this text's walks alone
set_option linter.unusedVariables false
set_option linter.unusedSimpArgs false
def uD.f (k:Nat) (zB:ByteArray) (zD:Bool) (zC:Int) (zn:List (uX)) (zG:List (uo)) (zF:List (uG)) (a1:ByteArray) (a2:ByteArray) (a3:Int):Option (Int × Int):=if a3 < 1 then (some (0,1)) else (if a3 > 1000 then (some (0,1)) else ((xJ.f zB zD zC zn zG zF).bind fun zj1=>(if zj1 = true then ((qI.f k zB zD zC zn zG zF a1 a2 a3).bind fun nk=>(some (nk,0))) else (some (0,1)))))
set_option maxHeartbeats 8000000 in
set_option maxRecDepth 100000 in
theorem uD.calls (k:Nat) (zB:ByteArray) (zD:Bool) (zC:Int) (yO:Option Addr) (yP:Nat) (zn:List (uX)) (yR:Option Addr) (yS:Nat) (zG:List (uo)) (yT:Option Addr) (yU:Nat) (zF:List (uG)) (a1:ByteArray) (a2:ByteArray) (a3:Int) (r1:Int) (r2:Int) (w:World) (uS:Kd.C YK w yO zn.length zn) (jF:zn.length ≤ yP) (jG:Kd.C Yo w yR zG.length zG) (jH:zG.length ≤ yS) (jI:Kd.C Yu w yT zF.length zF) (jL:zF.length ≤ yU) (h:uD.f k zB zD zC zn zG zF a1 a2 a3 = some (r1,r2)) :
  Calls Tryz.prog 109 #[.agg #[.string zB,.bool zD,.int .i64 zC,.slice yO zn.length yP,.slice yR zG.length yS,.slice yT zF.length yU],.string a1,.string a2,.int .i64 a3] w fun e w'=>e = .returned (.tuple #[.int .i64 r1,.int .i64 r2]) ∧ Below w.heap.size w w':=by
 have VW:=Tryz.underlying101
 have jr:=zx.mk uS
 have kM:=zx.mk jF
 clear uS jF
 have jA:=zx.mk jG
 have kN:=zx.mk jH
 clear jG jH
 have jB:=zx.mk jI
 have kP:=zx.mk jL
 clear jI jL
 have HB:=zx.mk (Below.refl w.heap.size w)
 have H:(if a3 < 1 then (some (0,1)) else (if a3 > 1000 then (some (0,1)) else ((xJ.f zB zD zC zn zG zF).bind fun zj1=>(if zj1 = true then ((qI.f k zB zD zC zn zG zF a1 a2 a3).bind fun nk=>(some (nk,0))) else (some (0,1)))))) = some (r1,r2):=h
 clear h
 by_cases c5:a3 < 1
 ·rw [if_pos c5] at H
  have wR:decide (a3 < 1) = true:=decide_eq_true c5
  clear c5
  simp only [Option.some.injEq,Prod.mk.injEq] at H
  obtain ⟨rfl,rfl⟩:=H
  go_enter Tryz.func109,Tryz.ntmps109
  go_wp2_with (first | ((with_reducible refine qC (N:=4) rfl ?_);refine qM ?hg (N:=4) ?hd (cs:=#[.string zB,.bool zD,.int .i64 zC,.slice yO zn.length yP,.slice yR zG.length yS,.slice yT zF.length yU]) (t:=101) ?hr ?_;(case hd=>rfl);(case hg=>rfl);(case hr=>first | (go_simp;done) | (go_simp;rfl));intro kX hg w6 qc hb;have zJ:=zx.mk (zo (zH HB.out) hb);have zK:=zx.mk (qc);have zi:=zx.mk ((by rw [hg];exact (ze (zH HB.out)):w.heap.size ≤ kX));have zL:=zx.mk ((by rw [hg];exact (ze (zH HB.out)):w.heap.size ≤ kX));clear HB;have HB:=zJ;have uj:=zK;have zVt:=zi;have lQ:=zL;clear zJ zK zi zL;clear hb qc hg))
  go_ret2
  exact ⟨by first | rfl | (simp [zM,zN] <;> rfl) | (simp [*,zM,zN] <;> rfl),by repeat (first | (with_reducible first | exact HB.out | apply yV | apply zP | apply zT | refine qb ?_ lQ.out) | exact HB.out)⟩
 ·rw [if_neg c5] at H
  have wR:decide (a3 < 1) = false:=decide_eq_false c5
  clear c5
  by_cases c7:a3 > 1000
  ·rw [if_pos c7] at H
   have XJ:decide (1000 < a3) = true:=decide_eq_true c7
   clear c7
   simp only [Option.some.injEq,Prod.mk.injEq] at H
   obtain ⟨rfl,rfl⟩:=H
   go_enter Tryz.func109,Tryz.ntmps109
   go_wp2_with (first | ((with_reducible refine qC (N:=4) rfl ?_);refine qM ?hg (N:=4) ?hd (cs:=#[.string zB,.bool zD,.int .i64 zC,.slice yO zn.length yP,.slice yR zG.length yS,.slice yT zF.length yU]) (t:=101) ?hr ?_;(case hd=>rfl);(case hg=>rfl);(case hr=>first | (go_simp;done) | (go_simp;rfl));intro kX hg w8 qc hb;have zJ:=zx.mk (zo (zH HB.out) hb);have zK:=zx.mk (qc);have zi:=zx.mk ((by rw [hg];exact (ze (zH HB.out)):w.heap.size ≤ kX));have zL:=zx.mk ((by rw [hg];exact (ze (zH HB.out)):w.heap.size ≤ kX));clear HB;have HB:=zJ;have uj:=zK;have zVt:=zi;have lQ:=zL;clear zJ zK zi zL;clear hb qc hg))
   go_ret2
   exact ⟨by first | rfl | (simp [zM,zN] <;> rfl) | (simp [*,zM,zN] <;> rfl),by repeat (first | (with_reducible first | exact HB.out | apply yV | apply zP | apply zT | refine qb ?_ lQ.out) | exact HB.out)⟩
  ·rw [if_neg c7] at H
   have XJ:decide (1000 < a3) = false:=decide_eq_false c7
   clear c7
   replace H:=Option.bind_eq_some_iff.mp H
   obtain ⟨zj1,oM,H⟩:=H
   replace H:(if zj1 = true then ((qI.f k zB zD zC zn zG zF a1 a2 a3).bind fun nk=>(some (nk,0))) else (some (0,1))) = some (r1,r2):=H
   have A9:=zx.mk oM
   clear oM
   by_cases c10:zj1 = true
   ·subst c10
    have H1:((qI.f k zB zD zC zn zG zF a1 a2 a3).bind fun nk=>(some (nk,0))) = some (r1,r2):=by rw [if_pos rfl] at H;exact H
    clear H
    have H:=H1
    clear H1
    replace H:=Option.bind_eq_some_iff.mp H
    obtain ⟨nk,zyq,H⟩:=H
    replace H:(some (nk,0)) = some (r1,r2):=H
    have A11:=zx.mk zyq
    clear zyq
    simp only [Option.some.injEq,Prod.mk.injEq] at H
    obtain ⟨rfl,rfl⟩:=H
    go_enter Tryz.func109,Tryz.ntmps109
    go_wp2_with (first | ((with_reducible refine qC (N:=4) rfl ?_);refine qM ?hg (N:=4) ?hd (cs:=#[.string zB,.bool zD,.int .i64 zC,.slice yO zn.length yP,.slice yR zG.length yS,.slice yT zF.length yU]) (t:=101) ?hr ?_;(case hd=>rfl);(case hg=>rfl);(case hr=>first | (go_simp;done) | (go_simp;rfl));intro kX hg Yq qc hb;have zJ:=zx.mk (zo (zH HB.out) hb);have zK:=zx.mk (qc);have zi:=zx.mk ((by rw [hg];exact (ze (zH HB.out)):w.heap.size ≤ kX));have zL:=zx.mk ((by rw [hg];exact (ze (zH HB.out)):w.heap.size ≤ kX));clear HB;have HB:=zJ;have uj:=zK;have zVt:=zi;have lQ:=zL;clear zJ zK zi zL;clear hb qc hg;have Xm:Yq.cell? ⟨kX,0,none⟩ = some (.string zB):=zZ uj 0;have Xn:Yq.cell? ⟨kX,1,none⟩ = some (.bool zD):=zZ uj 1;have Xo:Yq.cell? ⟨kX,2,none⟩ = some (.int .i64 zC):=zZ uj 2;have Xp:Yq.cell? ⟨kX,3,none⟩ = some (.slice yO zn.length yP):=zZ uj 3;have rF:Yq.cell? ⟨kX,4,none⟩ = some (.slice yR zG.length yS):=zZ uj 4;have rG:Yq.cell? ⟨kX,5,none⟩ = some (.slice yT zF.length yU):=zZ uj 5;have Xr:=zy uj.out 0;have Xt:=zy uj.out 1;have Xu:=zy uj.out 2;have XA:=zy uj.out 3;have rH:=zy uj.out 4;have rM:=zy uj.out 5) | (go_at_call 106;(with_reducible refine (xJ.calls zB zD zC _ _ zn _ _ zG _ _ zF true _ ?yc ?yI ?qy ?qw ?qD ?qE A9.out).mono ?_);(case yc=>exact ql (Kd.zu jr.out HB.out));(case yI=>exact kM.out);(case qy=>exact ql (Kd.zu jA.out HB.out));(case qw=>exact kN.out);(case qD=>exact ql (Kd.zu jB.out HB.out));(case qE=>exact kP.out);rintro e Kg ⟨rfl,hb⟩;have zJ:=zx.mk (zU (g:=kX) (o:=.cells #[.string zB,.bool zD,.int .i64 zC,.slice yO zn.length yP,.slice yR zG.length yS,.slice yT zF.length yU] 101 (0,0)) (qh uj.out) hb);have zK:=zx.mk (zo (zH HB.out) hb);clear uj;clear HB;have uj:=zJ;have HB:=zK;clear zJ zK;(try clear hb);have zpV:Kg.cell? ⟨kX,0,none⟩ = some (.string zB):=zZ uj 0;have zpK:Kg.cell? ⟨kX,1,none⟩ = some (.bool zD):=zZ uj 1;have zpY:Kg.cell? ⟨kX,2,none⟩ = some (.int .i64 zC):=zZ uj 2;have zpW:Kg.cell? ⟨kX,3,none⟩ = some (.slice yO zn.length yP):=zZ uj 3;have zpa:Kg.cell? ⟨kX,4,none⟩ = some (.slice yR zG.length yS):=zZ uj 4;have zpb:Kg.cell? ⟨kX,5,none⟩ = some (.slice yT zF.length yU):=zZ uj 5;have zpc:=zy uj.out 0;have zpd:=zy uj.out 1;have zpe:=zy uj.out 2;have zpf:=zy uj.out 3;have zpg:=zy uj.out 4;have zph:=zy uj.out 5) | ((with_reducible refine yG (f:=142) rfl ?_);refine jm (some 25) Tryz.func142 #[.agg #[.string zB,.bool zD,.int .i64 zC,.slice yO zn.length yP,.slice yR zG.length yS,.slice yT zF.length yU],.string a1,.string a2,.int .i64 a3] ?_;(with_reducible refine (qI.calls k zB zD zC _ _ zn _ _ zG _ _ zF a1 a2 a3 nk _ ?yc ?yI ?qy ?qw ?qD ?qE A11.out).mono ?_);(case yc=>exact ql (Kd.zu jr.out HB.out));(case yI=>exact kM.out);(case qy=>exact ql (Kd.zu jA.out HB.out));(case qw=>exact kN.out);(case qD=>exact ql (Kd.zu jB.out HB.out));(case qE=>exact kP.out);rintro e w16 ⟨rfl,hb⟩;refine ⟨_,rfl,?_⟩;have zJ:=zx.mk (zU (g:=kX) (o:=.cells #[.string zB,.bool zD,.int .i64 zC,.slice yO zn.length yP,.slice yR zG.length yS,.slice yT zF.length yU] 101 (0,0)) (qh uj.out) hb);have zK:=zx.mk (zo (zH HB.out) hb);clear uj;clear HB;have uj:=zJ;have HB:=zK;clear zJ zK;(try clear hb);(try clear hi)))
    go_ret2
    exact ⟨by first | rfl | (simp [zM,zN] <;> rfl) | (simp [*,zM,zN] <;> rfl),by repeat (first | (with_reducible first | exact HB.out | apply yV | apply zP | apply zT | refine qb ?_ lQ.out) | exact HB.out)⟩
   ·replace c10:=Bool.eq_false_iff.mpr c10
    subst c10
    have H1:(some (0,1)) = some (r1,r2):=by rw [if_neg (show ¬ (false = true) by decide)] at H;exact H
    clear H
    have H:=H1
    clear H1
    simp only [Option.some.injEq,Prod.mk.injEq] at H
    obtain ⟨rfl,rfl⟩:=H
    go_enter Tryz.func109,Tryz.ntmps109
    go_wp2_with (first | ((with_reducible refine qC (N:=4) rfl ?_);refine qM ?hg (N:=4) ?hd (cs:=#[.string zB,.bool zD,.int .i64 zC,.slice yO zn.length yP,.slice yR zG.length yS,.slice yT zF.length yU]) (t:=101) ?hr ?_;(case hd=>rfl);(case hg=>rfl);(case hr=>first | (go_simp;done) | (go_simp;rfl));intro kX hg VQ qc hb;have zJ:=zx.mk (zo (zH HB.out) hb);have zK:=zx.mk (qc);have zi:=zx.mk ((by rw [hg];exact (ze (zH HB.out)):w.heap.size ≤ kX));have zL:=zx.mk ((by rw [hg];exact (ze (zH HB.out)):w.heap.size ≤ kX));clear HB;have HB:=zJ;have uj:=zK;have zVt:=zi;have lQ:=zL;clear zJ zK zi zL;clear hb qc hg;have zda:VQ.cell? ⟨kX,0,none⟩ = some (.string zB):=zZ uj 0;have zdb:VQ.cell? ⟨kX,1,none⟩ = some (.bool zD):=zZ uj 1;have zdc:VQ.cell? ⟨kX,2,none⟩ = some (.int .i64 zC):=zZ uj 2;have zdd:VQ.cell? ⟨kX,3,none⟩ = some (.slice yO zn.length yP):=zZ uj 3;have zde:VQ.cell? ⟨kX,4,none⟩ = some (.slice yR zG.length yS):=zZ uj 4;have zdf:VQ.cell? ⟨kX,5,none⟩ = some (.slice yT zF.length yU):=zZ uj 5;have zdg:=zy uj.out 0;have zdh:=zy uj.out 1;have zdi:=zy uj.out 2;have zdl:=zy uj.out 3;have zdm:=zy uj.out 4;have zdn:=zy uj.out 5) | (go_at_call 106;(with_reducible refine (xJ.calls zB zD zC _ _ zn _ _ zG _ _ zF false _ ?yc ?yI ?qy ?qw ?qD ?qE A9.out).mono ?_);(case yc=>exact ql (Kd.zu jr.out HB.out));(case yI=>exact kM.out);(case qy=>exact ql (Kd.zu jA.out HB.out));(case qw=>exact kN.out);(case qD=>exact ql (Kd.zu jB.out HB.out));(case qE=>exact kP.out);rintro e w19 ⟨rfl,hb⟩;have zJ:=zx.mk (zU (g:=kX) (o:=.cells #[.string zB,.bool zD,.int .i64 zC,.slice yO zn.length yP,.slice yR zG.length yS,.slice yT zF.length yU] 101 (0,0)) (qh uj.out) hb);have zK:=zx.mk (zo (zH HB.out) hb);clear uj;clear HB;have uj:=zJ;have HB:=zK;clear zJ zK;(try clear hb);(try clear hi)))
    go_ret2
    exact ⟨by first | rfl | (simp [zM,zN] <;> rfl) | (simp [*,zM,zN] <;> rfl),by repeat (first | (with_reducible first | exact HB.out | apply yV | apply zP | apply zT | refine qb ?_ lQ.out) | exact HB.out)⟩
end Go.Proofs.YtggifbbiiickmaaGreatDoor.PX
namespace Go.Proofs.YtggifbbiiickmaaGreatDoor.PX
open Go.RowKit Go.Proofs.zk.zA Go.Proofs.zk.yB Go.Proofs.zk.yA
attribute [local go_sem] xR xS vM vN xB xC xU vv   -- for this text's walks alone
set_option linter.unusedVariables false
set_option linter.unusedSimpArgs false
def qL.l0:Nat → ByteArray → ByteArray → Int → ByteArray → Bool → Int → List (uX) → List (uo) → List (uG) → Option (ByteArray × Bool)
 | 0,_,_,_,_,_,_,_,_,_=>none
 | k + 1,x1,x2,x8,zw9,zZz,zZq,zZx,bA,zZj=>if x8 < (bA.length:Int) then (if 0 ≤ x8 then (if ((xL bA x8).f0).toList = x1.toList then (if ((xL bA x8).f1).toList = x2.toList then (some ((xL bA x8).f2,true)) else (qL.l0 k x1 x2 (wrap64 (x8 + 1)) zw9 zZz zZq zZx bA zZj)) else (qL.l0 k x1 x2 (wrap64 (x8 + 1)) zw9 zZz zZq zZx bA zZj)) else (none)) else (some ((⟨#[]⟩:ByteArray),false))
def qL.f (k:Nat) (zB:ByteArray) (zD:Bool) (zC:Int) (zn:List (uX)) (zG:List (uo)) (zF:List (uG)) (a1:ByteArray) (a2:ByteArray):Option (ByteArray × Bool):=qL.l0 k a1 a2 0 zB zD zC zn zG zF
set_option maxHeartbeats 8000000 in
set_option maxRecDepth 100000 in
theorem qL.calls (k:Nat) (zB:ByteArray) (zD:Bool) (zC:Int) (yO:Option Addr) (yP:Nat) (zn:List (uX)) (yR:Option Addr) (yS:Nat) (zG:List (uo)) (yT:Option Addr) (yU:Nat) (zF:List (uG)) (a1:ByteArray) (a2:ByteArray) (r1:ByteArray) (r2:Bool) (w:World) (uS:Kd.C YK w yO zn.length zn) (jF:zn.length ≤ yP) (jG:Kd.C Yo w yR zG.length zG) (jH:zG.length ≤ yS) (jI:Kd.C Yu w yT zF.length zF) (jL:zF.length ≤ yU) (h:qL.f k zB zD zC zn zG zF a1 a2 = some (r1,r2)) :
  Calls Tryz.prog 141 #[.agg #[.string zB,.bool zD,.int .i64 zC,.slice yO zn.length yP,.slice yR zG.length yS,.slice yT zF.length yU],.string a1,.string a2] w fun e w'=>e = .returned (.tuple #[.string r1,.bool r2]) ∧ Below w.heap.size w w':=by
 have VW:=Tryz.underlying101
 have jr:=zx.mk uS
 have kM:=zx.mk jF
 clear uS jF
 have jA:=zx.mk jG
 have kN:=zx.mk jH
 clear jG jH
 have jB:=zx.mk jI
 have kP:=zx.mk jL
 clear jI jL
 have HB:=zx.mk (Below.refl w.heap.size w)
 have H:(qL.l0 k a1 a2 0 zB zD zC zn zG zF) = some (r1,r2):=h
 clear h
 have H':=zx.mk H
 clear H
 go_enter Tryz.func141,Tryz.ntmps141
 go_wp2_with (first | ((with_reducible refine qC (N:=3) rfl ?_);refine qM ?hg (N:=3) ?hd (cs:=#[.string zB,.bool zD,.int .i64 zC,.slice yO zn.length yP,.slice yR zG.length yS,.slice yT zF.length yU]) (t:=101) ?hr ?_;(case hd=>rfl);(case hg=>rfl);(case hr=>first | (go_simp;done) | (go_simp;rfl));intro wu hg w4 qc hb;have zJ:=zx.mk (zo (zH HB.out) hb);have zK:=zx.mk (qc);have zi:=zx.mk ((by rw [hg];exact (ze (zH HB.out)):w.heap.size ≤ wu));have zL:=zx.mk ((by rw [hg];exact (ze (zH HB.out)):w.heap.size ≤ wu));clear HB;have HB:=zJ;have vI:=zK;have ztS:=zi;have zci:=zL;clear zJ zK zi zL;clear hb qc hg))
 go_loopg [8] k (fun kq v8 w'=>∃ (yX:Int),v8 = .int .i64 yX ∧ zx (qL.l0 kq a1 a2 yX zB zD zC zn zG zF = some (r1,r2)) ∧ zx (kq ≤ k) ∧ zx (w'.heap[wu]? = some (.cells #[.string zB,.bool zD,.int .i64 zC,(.slice yO zn.length yP),(.slice yR zG.length yS),(.slice yT zF.length yU)] 101 (0,0))) ∧ zx (Below w.heap.size w w'))
 case atStart=>exact ⟨(0),(by first | rfl | (simp;done) | (simp [*];done)),H',⟨Nat.le_refl _⟩,⟨qh vI.out⟩,⟨zH HB.out⟩⟩
 case round =>
  clear H'
  obtain ⟨yX,rfl,HA,uK,vI,HB⟩:=hrel
  cases gk with
  | zero=>exact absurd HA.out (by simp [qL.l0])
  | succ k1 =>
   have H:=HA.out
   clear HA
   simp only [qL.l0] at H
   by_cases c5:yX < (zG.length:Int)
   ·rw [if_pos c5] at H
    have wR:decide (yX < (zG.length:Int)) = true:=decide_eq_true c5
    clear c5
    by_cases c6:0 ≤ yX
    ·rw [if_pos c6] at H
     have pq:decide (0 ≤ yX) = true:=decide_eq_true c6
     clear c6
     by_cases c7:((xL zG yX).f0).toList = a1.toList
     ·rw [if_pos c7] at H
      have XJ:(((xL zG yX).f0).toList == a1.toList) = true:=beq_iff_eq.mpr c7
      have lZ:(((xL zG yX).f0).toList != a1.toList) = false:=bne_eq_false_iff_eq.mpr c7
      clear c7
      by_cases c8:((xL zG yX).f1).toList = a2.toList
      ·rw [if_pos c8] at H
       have X6:(((xL zG yX).f1).toList == a2.toList) = true:=beq_iff_eq.mpr c8
       have dP:(((xL zG yX).f1).toList != a2.toList) = false:=bne_eq_false_iff_eq.mpr c8
       clear c8
       simp only [Option.some.injEq,Prod.mk.injEq] at H
       obtain ⟨rfl,rfl⟩:=H
       have ni:wr.cell? ⟨wu,0,none⟩ = some (.string zB):=zZ vI 0
       have nA:wr.cell? ⟨wu,1,none⟩ = some (.bool zD):=zZ vI 1
       have nC:wr.cell? ⟨wu,2,none⟩ = some (.int .i64 zC):=zZ vI 2
       have nD:wr.cell? ⟨wu,3,none⟩ = some (.slice yO zn.length yP):=zZ vI 3
       have oh:wr.cell? ⟨wu,4,none⟩ = some (.slice yR zG.length yS):=zZ vI 4
       have om:wr.cell? ⟨wu,5,none⟩ = some (.slice yT zF.length yU):=zZ vI 5
       have nE:=zy vI.out 0
       have nG:=zy vI.out 1
       have nH:=zy vI.out 2
       have nI:=zy vI.out 3
       have oo:=zy vI.out 4
       have ou:=zy vI.out 5
       have gJ:0 ≤ (yX:Int):=of_decide_eq_true yE
       have gV:yX < (zG.length:Int):=of_decide_eq_true yE
       obtain ⟨zxD,e138,YE,YF,YG⟩:=Vr jA.out yX gJ gV
       cases e138
       replace YE:=(HB.out.cell (World.block_lt_of_cell? w _ YE)).trans YE
       replace YF:=(HB.out.cell (World.block_lt_of_cell? w _ YF)).trans YF
       replace YG:=(HB.out.cell (World.block_lt_of_cell? w _ YG)).trans YG
       replace gJ:=eq_true gJ
       replace gV:=eq_true gV
       have zqD:0 ≤ (yX:Int):=of_decide_eq_true yE
       have zqE:yX < (zG.length:Int):=of_decide_eq_true yE
       obtain ⟨zVu,zai,KM,KN,KO⟩:=Vr jA.out yX zqD zqE
       obtain rfl:zxD = zVu:=(by injection zai)
       replace KM:=(HB.out.cell (World.block_lt_of_cell? w _ KM)).trans KM
       replace KN:=(HB.out.cell (World.block_lt_of_cell? w _ KN)).trans KN
       replace KO:=(HB.out.cell (World.block_lt_of_cell? w _ KO)).trans KO
       replace zqD:=eq_true zqD
       replace zqE:=eq_true zqE
       have zal:0 ≤ (yX:Int):=of_decide_eq_true yE
       have zam:yX < (zG.length:Int):=of_decide_eq_true yE
       obtain ⟨ziA,znf,zj2,zj3,zj4⟩:=Vr jA.out yX zal zam
       obtain rfl:zxD = ziA:=(by injection znf)
       replace zj2:=(HB.out.cell (World.block_lt_of_cell? w _ zj2)).trans zj2
       replace zj3:=(HB.out.cell (World.block_lt_of_cell? w _ zj3)).trans zj3
       replace zj4:=(HB.out.cell (World.block_lt_of_cell? w _ zj4)).trans zj4
       replace zal:=eq_true zal
       replace zam:=eq_true zam
       go_wp2
       go_ret2
       exact ⟨by first | rfl | (simp [zM,zN] <;> rfl) | (simp [*,zM,zN] <;> rfl),by repeat (first | (with_reducible first | exact HB.out | apply yV | apply zP | apply zT | refine qb ?_ zci.out) | exact HB.out)⟩
      ·rw [if_neg c8] at H
       have X6:(((xL zG yX).f1).toList == a2.toList) = false:=beq_eq_false_iff_ne.mpr c8
       have dP:(((xL zG yX).f1).toList != a2.toList) = true:=bne_iff_ne.mpr c8
       have H':=zx.mk H
       clear H
       have zwM:wr.cell? ⟨wu,0,none⟩ = some (.string zB):=zZ vI 0
       have zwN:wr.cell? ⟨wu,1,none⟩ = some (.bool zD):=zZ vI 1
       have zwO:wr.cell? ⟨wu,2,none⟩ = some (.int .i64 zC):=zZ vI 2
       have zwP:wr.cell? ⟨wu,3,none⟩ = some (.slice yO zn.length yP):=zZ vI 3
       have zwR:wr.cell? ⟨wu,4,none⟩ = some (.slice yR zG.length yS):=zZ vI 4
       have zwS:wr.cell? ⟨wu,5,none⟩ = some (.slice yT zF.length yU):=zZ vI 5
       have zwT:=zy vI.out 0
       have zwU:=zy vI.out 1
       have zw0:=zy vI.out 2
       have zw1:=zy vI.out 3
       have zw2:=zy vI.out 4
       have zw3:=zy vI.out 5
       have gJ:0 ≤ (yX:Int):=of_decide_eq_true yE
       have gV:yX < (zG.length:Int):=of_decide_eq_true yE
       obtain ⟨zxD,e138,YE,YF,YG⟩:=Vr jA.out yX gJ gV
       cases e138
       replace YE:=(HB.out.cell (World.block_lt_of_cell? w _ YE)).trans YE
       replace YF:=(HB.out.cell (World.block_lt_of_cell? w _ YF)).trans YF
       replace YG:=(HB.out.cell (World.block_lt_of_cell? w _ YG)).trans YG
       replace gJ:=eq_true gJ
       replace gV:=eq_true gV
       have zqD:0 ≤ (yX:Int):=of_decide_eq_true yE
       have zqE:yX < (zG.length:Int):=of_decide_eq_true yE
       obtain ⟨zVu,zai,KM,KN,KO⟩:=Vr jA.out yX zqD zqE
       obtain rfl:zxD = zVu:=(by injection zai)
       replace KM:=(HB.out.cell (World.block_lt_of_cell? w _ KM)).trans KM
       replace KN:=(HB.out.cell (World.block_lt_of_cell? w _ KN)).trans KN
       replace KO:=(HB.out.cell (World.block_lt_of_cell? w _ KO)).trans KO
       replace zqD:=eq_true zqD
       replace zqE:=eq_true zqE
       go_wp2
       go_roundg k1
       case measure=>have:=uK.out;omega
       case rel=>exact ⟨(wrap64 (yX + 1)),(by first | rfl | (simp;done) | (simp [*];done)),H',⟨by have:=uK.out;omega⟩,⟨qh vI.out⟩,⟨zH HB.out⟩⟩
     ·rw [if_neg c7] at H
      have XJ:(((xL zG yX).f0).toList == a1.toList) = false:=beq_eq_false_iff_ne.mpr c7
      have lZ:(((xL zG yX).f0).toList != a1.toList) = true:=bne_iff_ne.mpr c7
      have H':=zx.mk H
      clear H
      have zzr:wr.cell? ⟨wu,0,none⟩ = some (.string zB):=zZ vI 0
      have zzs:wr.cell? ⟨wu,1,none⟩ = some (.bool zD):=zZ vI 1
      have zzt:wr.cell? ⟨wu,2,none⟩ = some (.int .i64 zC):=zZ vI 2
      have zzu:wr.cell? ⟨wu,3,none⟩ = some (.slice yO zn.length yP):=zZ vI 3
      have zjc:wr.cell? ⟨wu,4,none⟩ = some (.slice yR zG.length yS):=zZ vI 4
      have zjd:wr.cell? ⟨wu,5,none⟩ = some (.slice yT zF.length yU):=zZ vI 5
      have zzA:=zy vI.out 0
      have zzB:=zy vI.out 1
      have zzC:=zy vI.out 2
      have zzD:=zy vI.out 3
      have zje:=zy vI.out 4
      have zjf:=zy vI.out 5
      have gJ:0 ≤ (yX:Int):=of_decide_eq_true yE
      have gV:yX < (zG.length:Int):=of_decide_eq_true yE
      obtain ⟨zxD,e138,YE,YF,YG⟩:=Vr jA.out yX gJ gV
      cases e138
      replace YE:=(HB.out.cell (World.block_lt_of_cell? w _ YE)).trans YE
      replace YF:=(HB.out.cell (World.block_lt_of_cell? w _ YF)).trans YF
      replace YG:=(HB.out.cell (World.block_lt_of_cell? w _ YG)).trans YG
      replace gJ:=eq_true gJ
      replace gV:=eq_true gV
      go_wp2
      go_roundg k1
      case measure=>have:=uK.out;omega
      case rel=>exact ⟨(wrap64 (yX + 1)),(by first | rfl | (simp;done) | (simp [*];done)),H',⟨by have:=uK.out;omega⟩,⟨qh vI.out⟩,⟨zH HB.out⟩⟩
    ·rw [if_neg c6] at H
     exact absurd H (by simp)
   ·rw [if_neg c5] at H
    have wR:decide (yX < (zG.length:Int)) = false:=decide_eq_false c5
    clear c5
    simp only [Option.some.injEq,Prod.mk.injEq] at H
    obtain ⟨rfl,rfl⟩:=H
    have zwr:wr.cell? ⟨wu,0,none⟩ = some (.string zB):=zZ vI 0
    have zws:wr.cell? ⟨wu,1,none⟩ = some (.bool zD):=zZ vI 1
    have zwt:wr.cell? ⟨wu,2,none⟩ = some (.int .i64 zC):=zZ vI 2
    have zwu:wr.cell? ⟨wu,3,none⟩ = some (.slice yO zn.length yP):=zZ vI 3
    have zwA:wr.cell? ⟨wu,4,none⟩ = some (.slice yR zG.length yS):=zZ vI 4
    have zwB:wr.cell? ⟨wu,5,none⟩ = some (.slice yT zF.length yU):=zZ vI 5
    have zwC:=zy vI.out 0
    have zwD:=zy vI.out 1
    have zwE:=zy vI.out 2
    have zwF:=zy vI.out 3
    have zwG:=zy vI.out 4
    have zwH:=zy vI.out 5
    go_wp2
    go_ret2
    exact ⟨by first | rfl | (simp [zM,zN] <;> rfl) | (simp [*,zM,zN] <;> rfl),by repeat (first | (with_reducible first | exact HB.out | apply yV | apply zP | apply zT | refine qb ?_ zci.out) | exact HB.out)⟩
end Go.Proofs.YtggifbbiiickmaaGreatDoor.PX
namespace Go.Proofs.YtggifbbiiickmaaGreatDoor.PX
open Go.RowKit Go.Proofs.zk.zA Go.Proofs.zk.yB Go.Proofs.zk.yA
attribute [local go_sem] xR xS vM vN xB xC xU vv   -- for this text's walks alone
set_option linter.unusedVariables false
set_option linter.unusedSimpArgs false
def kH.f (k:Nat) (zB:ByteArray) (zD:Bool) (zC:Int) (zn:List (uX)) (zG:List (uo)) (zF:List (uG)) (a1:ByteArray) (a2:ByteArray):Option (ByteArray × Bool):=(xJ.f zB zD zC zn zG zF).bind fun zj5=>(if zj5 = true then ((qL.f k zB zD zC zn zG zF a1 a2).bind fun Kk=>(some (Kk.1,Kk.2))) else (some ((⟨#[]⟩:ByteArray),false)))
set_option maxHeartbeats 8000000 in
set_option maxRecDepth 100000 in
theorem kH.calls (k:Nat) (zB:ByteArray) (zD:Bool) (zC:Int) (yO:Option Addr) (yP:Nat) (zn:List (uX)) (yR:Option Addr) (yS:Nat) (zG:List (uo)) (yT:Option Addr) (yU:Nat) (zF:List (uG)) (a1:ByteArray) (a2:ByteArray) (r1:ByteArray) (r2:Bool) (w:World) (uS:Kd.C YK w yO zn.length zn) (jF:zn.length ≤ yP) (jG:Kd.C Yo w yR zG.length zG) (jH:zG.length ≤ yS) (jI:Kd.C Yu w yT zF.length zF) (jL:zF.length ≤ yU) (h:kH.f k zB zD zC zn zG zF a1 a2 = some (r1,r2)) :
    Calls Tryz.prog 107 #[.agg #[.string zB,.bool zD,.int .i64 zC,.slice yO zn.length yP,.slice yR zG.length yS,.slice yT zF.length yU],.string a1,.string a2] w fun e w'=>e = .returned (.tuple #[.string r1,.bool r2]) ∧ Below w.heap.size w w':=by
  have VW:=Tryz.underlying101
  have jr:=zx.mk uS
  have kM:=zx.mk jF
  clear uS jF
  have jA:=zx.mk jG
  have kN:=zx.mk jH
  clear jG jH
  have jB:=zx.mk jI
  have kP:=zx.mk jL
  clear jI jL
  have HB:=zx.mk (Below.refl w.heap.size w)
  have H:((xJ.f zB zD zC zn zG zF).bind fun zj5=>(if zj5 = true then ((qL.f k zB zD zC zn zG zF a1 a2).bind fun Kk=>(some (Kk.1,Kk.2))) else (some ((⟨#[]⟩:ByteArray),false)))) = some (r1,r2):=h
  clear h
  replace H:=Option.bind_eq_some_iff.mp H
  obtain ⟨zj5,P6,H⟩:=H
  replace H:(if zj5 = true then ((qL.f k zB zD zC zn zG zF a1 a2).bind fun Kk=>(some (Kk.1,Kk.2))) else (some ((⟨#[]⟩:ByteArray),false))) = some (r1,r2):=H
  have A4:=zx.mk P6
  clear P6
  by_cases c5:zj5 = true
  · subst c5
    have H1:((qL.f k zB zD zC zn zG zF a1 a2).bind fun Kk=>(some (Kk.1,Kk.2))) = some (r1,r2):=by rw [if_pos rfl] at H;exact H
    clear H
    have H:=H1
    clear H1
    replace H:=Option.bind_eq_some_iff.mp H
    obtain ⟨⟨t143,zgh⟩,A60,H⟩:=H
    replace H:(some (t143,zgh)) = some (r1,r2):=H
    have A6:=zx.mk A60
    clear A60
    simp only [Option.some.injEq,Prod.mk.injEq] at H
    obtain ⟨rfl,rfl⟩:=H
    go_enter Tryz.func107,Tryz.ntmps107
    go_wp2_with (first | ((with_reducible refine qC (N:=3) rfl ?_);refine qM ?hg (N:=3) ?hd (cs:=#[.string zB,.bool zD,.int .i64 zC,.slice yO zn.length yP,.slice yR zG.length yS,.slice yT zF.length yU]) (t:=101) ?hr ?_;(case hd=>rfl);(case hg=>rfl);(case hr=>first | (go_simp;done) | (go_simp;rfl));intro wM hg w7 qc hb;have zJ:=zx.mk (zo (zH HB.out) hb);have zK:=zx.mk (qc);have zi:=zx.mk ((by rw [hg];exact (ze (zH HB.out)):w.heap.size ≤ wM));have zL:=zx.mk ((by rw [hg];exact (ze (zH HB.out)):w.heap.size ≤ wM));clear HB;have HB:=zJ;have uY:=zK;have ziB:=zi;have zVA:=zL;clear zJ zK zi zL;clear hb qc hg;have zgx:w7.cell? ⟨wM,0,none⟩ = some (.string zB):=zZ uY 0;have zgj:w7.cell? ⟨wM,1,none⟩ = some (.bool zD):=zZ uY 1;have zgv:w7.cell? ⟨wM,2,none⟩ = some (.int .i64 zC):=zZ uY 2;have zgk:w7.cell? ⟨wM,3,none⟩ = some (.slice yO zn.length yP):=zZ uY 3;have zgy:w7.cell? ⟨wM,4,none⟩ = some (.slice yR zG.length yS):=zZ uY 4;have zgw:w7.cell? ⟨wM,5,none⟩ = some (.slice yT zF.length yU):=zZ uY 5;have zgZ:=zy uY.out 0;have zgQ:=zy uY.out 1;have zgX:=zy uY.out 2;have zgJ:=zy uY.out 3;have zgV:=zy uY.out 4;have zgK:=zy uY.out 5) | ((with_reducible refine yG (f:=106) rfl ?_);refine jm (some 9) Tryz.func106 #[.agg #[.string zB,.bool zD,.int .i64 zC,.slice yO zn.length yP,.slice yR zG.length yS,.slice yT zF.length yU]] ?_;(with_reducible refine (xJ.calls zB zD zC _ _ zn _ _ zG _ _ zF true _ ?yc ?yI ?qy ?qw ?qD ?qE A4.out).mono ?_);(case yc=>exact ql (Kd.zu jr.out HB.out));(case yI=>exact kM.out);(case qy=>exact ql (Kd.zu jA.out HB.out));(case qw=>exact kN.out);(case qD=>exact ql (Kd.zu jB.out HB.out));(case qE=>exact kP.out);rintro e w9 ⟨rfl,hb⟩;refine ⟨_,rfl,?_⟩;have zJ:=zx.mk (zU (g:=wM) (o:=.cells #[.string zB,.bool zD,.int .i64 zC,.slice yO zn.length yP,.slice yR zG.length yS,.slice yT zF.length yU] 101 (0,0)) (qh uY.out) hb);have zK:=zx.mk (zo (zH HB.out) hb);clear uY;clear HB;have uY:=zJ;have HB:=zK;clear zJ zK;(try clear hb);have zwM:w9.cell? ⟨wM,0,none⟩ = some (.string zB):=zZ uY 0;have zwN:w9.cell? ⟨wM,1,none⟩ = some (.bool zD):=zZ uY 1;have zwO:w9.cell? ⟨wM,2,none⟩ = some (.int .i64 zC):=zZ uY 2;have zwP:w9.cell? ⟨wM,3,none⟩ = some (.slice yO zn.length yP):=zZ uY 3;have zwR:w9.cell? ⟨wM,4,none⟩ = some (.slice yR zG.length yS):=zZ uY 4;have zwS:w9.cell? ⟨wM,5,none⟩ = some (.slice yT zF.length yU):=zZ uY 5;have zwT:=zy uY.out 0;have zwU:=zy uY.out 1;have zw0:=zy uY.out 2;have zw1:=zy uY.out 3;have zw2:=zy uY.out 4;have zw3:=zy uY.out 5) | ((with_reducible refine yG (f:=141) rfl ?_);refine jm (some 14) Tryz.func141 #[.agg #[.string zB,.bool zD,.int .i64 zC,.slice yO zn.length yP,.slice yR zG.length yS,.slice yT zF.length yU],.string a1,.string a2] ?_;(with_reducible refine (qL.calls k zB zD zC _ _ zn _ _ zG _ _ zF a1 a2 t143 zgh _ ?yc ?yI ?qy ?qw ?qD ?qE A6.out).mono ?_);(case yc=>exact ql (Kd.zu jr.out HB.out));(case yI=>exact kM.out);(case qy=>exact ql (Kd.zu jA.out HB.out));(case qw=>exact kN.out);(case qD=>exact ql (Kd.zu jB.out HB.out));(case qE=>exact kP.out);rintro e oq ⟨rfl,hb⟩;refine ⟨_,rfl,?_⟩;have zJ:=zx.mk (zU (g:=wM) (o:=.cells #[.string zB,.bool zD,.int .i64 zC,.slice yO zn.length yP,.slice yR zG.length yS,.slice yT zF.length yU] 101 (0,0)) (qh uY.out) hb);have zK:=zx.mk (zo (zH HB.out) hb);clear uY;clear HB;have uY:=zJ;have HB:=zK;clear zJ zK;(try clear hb);(try clear hi)))
    go_ret2
    exact ⟨by first | rfl | (simp [zM,zN] <;> rfl) | (simp [*,zM,zN] <;> rfl),by repeat (first | (with_reducible first | exact HB.out | apply yV | apply zP | apply zT | refine qb ?_ zVA.out) | exact HB.out)⟩
  · replace c5:=Bool.eq_false_iff.mpr c5
    subst c5
    have H1:(some ((⟨#[]⟩:ByteArray),false)) = some (r1,r2):=by rw [if_neg (show ¬ (false = true) by decide)] at H;exact H
    clear H
    have H:=H1
    clear H1
    simp only [Option.some.injEq,Prod.mk.injEq] at H
    obtain ⟨rfl,rfl⟩:=H
    go_enter Tryz.func107,Tryz.ntmps107
    go_wp2_with (first | ((with_reducible refine qC (N:=3) rfl ?_);refine qM ?hg (N:=3) ?hd (cs:=#[.string zB,.bool zD,.int .i64 zC,.slice yO zn.length yP,.slice yR zG.length yS,.slice yT zF.length yU]) (t:=101) ?hr ?_;(case hd=>rfl);(case hg=>rfl);(case hr=>first | (go_simp;done) | (go_simp;rfl));intro wM hg Yq qc hb;have zJ:=zx.mk (zo (zH HB.out) hb);have zK:=zx.mk (qc);have zi:=zx.mk ((by rw [hg];exact (ze (zH HB.out)):w.heap.size ≤ wM));have zL:=zx.mk ((by rw [hg];exact (ze (zH HB.out)):w.heap.size ≤ wM));clear HB;have HB:=zJ;have uY:=zK;have ziB:=zi;have zVA:=zL;clear zJ zK zi zL;clear hb qc hg;have Xm:Yq.cell? ⟨wM,0,none⟩ = some (.string zB):=zZ uY 0;have Xn:Yq.cell? ⟨wM,1,none⟩ = some (.bool zD):=zZ uY 1;have Xo:Yq.cell? ⟨wM,2,none⟩ = some (.int .i64 zC):=zZ uY 2;have Xp:Yq.cell? ⟨wM,3,none⟩ = some (.slice yO zn.length yP):=zZ uY 3;have rF:Yq.cell? ⟨wM,4,none⟩ = some (.slice yR zG.length yS):=zZ uY 4;have rG:Yq.cell? ⟨wM,5,none⟩ = some (.slice yT zF.length yU):=zZ uY 5;have Xr:=zy uY.out 0;have Xt:=zy uY.out 1;have Xu:=zy uY.out 2;have XA:=zy uY.out 3;have rH:=zy uY.out 4;have rM:=zy uY.out 5) | ((with_reducible refine yG (f:=106) rfl ?_);refine jm (some 9) Tryz.func106 #[.agg #[.string zB,.bool zD,.int .i64 zC,.slice yO zn.length yP,.slice yR zG.length yS,.slice yT zF.length yU]] ?_;(with_reducible refine (xJ.calls zB zD zC _ _ zn _ _ zG _ _ zF false _ ?yc ?yI ?qy ?qw ?qD ?qE A4.out).mono ?_);(case yc=>exact ql (Kd.zu jr.out HB.out));(case yI=>exact kM.out);(case qy=>exact ql (Kd.zu jA.out HB.out));(case qw=>exact kN.out);(case qD=>exact ql (Kd.zu jB.out HB.out));(case qE=>exact kP.out);rintro e Kg ⟨rfl,hb⟩;refine ⟨_,rfl,?_⟩;have zJ:=zx.mk (zU (g:=wM) (o:=.cells #[.string zB,.bool zD,.int .i64 zC,.slice yO zn.length yP,.slice yR zG.length yS,.slice yT zF.length yU] 101 (0,0)) (qh uY.out) hb);have zK:=zx.mk (zo (zH HB.out) hb);clear uY;clear HB;have uY:=zJ;have HB:=zK;clear zJ zK;(try clear hb);(try clear hi)))
    go_ret2
    exact ⟨by first | rfl | (simp [zM,zN] <;> rfl) | (simp [*,zM,zN] <;> rfl),by repeat (first | (with_reducible first | exact HB.out | apply yV | apply zP | apply zT | refine qb ?_ zVA.out) | exact HB.out)⟩
end Go.Proofs.YtggifbbiiickmaaGreatDoor.PX
namespace Go.Proofs.YtggifbbiiickmaaGreatDoor
open Go.RowKit Go.Proofs.zk.zA Go.Proofs.zk.yB Go.Proofs.zk.yA Go.Proofs.YtggifbbiiickmaaGreatDoor.PX
set_option linter.unusedSimpArgs false
set_option linter.unusedVariables false
theorem zYG (n s:Int) (hs:1 ≤ s) (hs1:s ≤ 1000) (h0:-3000 ≤ n) (h1:n ≤ 3000):kK.f n s = some (flr s n):=by
 have hr:=zkc s n hs hs1 h0 h1
 have e:10 * s * n = 10 * (s * n):=Int.mul_assoc _ _ _
 unfold kK.f flr
 rw [kQ (x:=10 * s) (by omega) (by omega),e]
 generalize s * n = p at hr
 rw [kQ (x:=10 * p) (by omega) (by omega)]
 unfold pJ.f
 rw [if_neg (by omega)]
 by_cases hp:10 * p < 0
 ·obtain ⟨q,hq⟩:∃ q:Int,10 * p = -q:=⟨-(10 * p),by omega⟩
  rw [hq,Int.neg_tmod,Int.neg_tdiv,Int.tmod_eq_emod_of_nonneg (by omega),Int.tdiv_eq_ediv_of_nonneg (by omega)]
  by_cases hm:-(q % 1000) < 0
  ·rw [if_pos hm,kQ (x:=-(q / 1000)) (by omega) (by omega),kQ (by omega) (by omega)]
   simp only [Option.bind_some]
   congr 1
   omega
  ·rw [if_neg hm,kQ (by omega) (by omega)]
   simp only [Option.bind_some]
   congr 1
   omega
 ·rw [Int.tmod_eq_emod_of_nonneg (by omega),if_neg (by omega),Int.tdiv_eq_ediv_of_nonneg (by omega),kQ (by omega) (by omega)]
  rfl
theorem lX (a:ByteArray) (b:Bool) (c:Int) (l3:List qo) (l4:List xY) (l5:List vk) (h3:l3.length ≤ 1000000000) (h4:l4.length ≤ 1000000000) (h5:l5.length ≤ 1000000000) (ha:a.size ≤ 140737488355328) (hz:∀ x ∈ l3,x.f0.size ≤ 140737488355328) :
  xJ.f a b c (l3.map kJ) (l4.map wX) (l5.map wJ) = some (vL a c l3 l4 l5):=by
 unfold xJ.f
 rw [if_pos ⟨by rw [List.length_map];exact h3,by rw [List.length_map];exact h4,by rw [List.length_map];exact h5,ha,List.all_eq_true.2 (fun x hx=>by
  obtain ⟨y,hy,rfl⟩:=List.mem_map.1 hx
  exact decide_eq_true (hz y hy))⟩,zVn]
theorem zYH (a:ByteArray) (b:Bool) (c:Int) (l:List qo) (l4:List uo) (l5:List uG) (n:ByteArray) (s:Int) (hs:1 ≤ s) (hs1:s ≤ 1000) (hl:l.length ≤ 1000000000) (hw:∀ x ∈ l,0 ≤ x.f1 ∧ x.f1 ≤ 3000):∀ d i,l.length - i = d → i ≤ l.length → Ev (fun k=>xq.l0 k n s (i:Int) a b c (l.map kJ) l4 l5) (match (l.drop i).find? (fun x=>decide (x.f0 = n)) with | some x=>(flr s x.f1,true) | none=>(0,false)):=by
 intro d
 induction d with
 | zero =>
  intro i hd hi
  rw [List.drop_eq_nil_of_le (by omega)]
  refine jo (r:=(0,false)) rfl (Ev.step (fun k=>by rw [xq.l0,List.length_map]) (xW (by omega) (Ev.now _)))
 | succ d ih =>
  intro i hd hi
  have h1:i < l.length:=by omega
  have q0:(0:Int) ≤ (i:Int):=by omega
  have q1:(i:Int) < (l.length:Int):=by omega
  have hw2:wrap64 ((i:Int) + 1) = ((i + 1:Nat):Int):=(kQ (by omega) (by omega)).trans (by omega)
  have hr:=ih (i + 1) (by omega) (by omega)
  have hx:=hw _ (List.getElem_mem h1)
  rw [List.drop_eq_getElem_cons h1,List.find?_cons]
  refine Ev.step (fun k=>by rw [xq.l0,List.length_map,hw2,zjM l i h1]) (yJ q1 (yJ q0 ?_))
  by_cases he:l[i].f0 = n
  ·refine yJ (YA.2 he) (J9 (zYG _ s hs hs1 (by show -3000 ≤ l[i].f1;omega) (by show l[i].f1 ≤ 3000;omega)) (jo ?_ (Ev.now _)))
   rw [decide_eq_true he];rfl
  ·refine xW (fun e=>he (YA.1 e)) (jo ?_ hr)
   rw [decide_eq_false he]
theorem zgi (a:ByteArray) (b:Bool) (c:Int) (l3:List qo) (l4:List xY) (l5:List vk) (n:ByteArray) (s:Int) (h3:l3.length ≤ 1000000000) (h4:l4.length ≤ 1000000000) (h5:l5.length ≤ 1000000000) (ha:a.size ≤ 140737488355328) (hz:∀ x ∈ l3,x.f0.size ≤ 140737488355328):Ev (fun k=>yM.f k a b c (l3.map kJ) (l4.map wX) (l5.map wJ) n s) (oI (vL a c l3 l4 l5) l3 n s):=by
 unfold oI Qb
 refine Ev.congr (fun k=>by rw [yM.f,lX a b c l3 l4 l5 h3 h4 h5 ha hz]) ?_
 have bad:∀ x:Bool,x = true → Ev (fun k=>yM.j0 k n s x a b c (l3.map kJ) (l4.map wX) (l5.map wJ)) (0,1):=fun x hx=>Ev.step (fun k=>by rw [yM.j0]) (yJ hx (Ev.now _))
 by_cases h1:s < 1
 ·refine yJ h1 (jo ?_ (bad true rfl))
  rw [decide_eq_false (by omega:¬ 1 ≤ s)];rfl
 ·refine xW h1 ?_
  rw [decide_eq_true (by omega:1 ≤ s)]
  by_cases h2:s > 1000
  ·refine yJ h2 (jo ?_ (bad true rfl))
   rw [decide_eq_false (by omega:¬ s ≤ 1000)];rfl
  ·refine xW h2 (zkr ?_)
   rw [decide_eq_true (by omega:s ≤ 1000)]
   cases hv:vL a c l3 l4 l5 with
   | false=>exact bad _ rfl
   | true =>
    have hq:Ev (fun k=>xq.l0 k n s 0 a b c (l3.map kJ) (l4.map wX) (l5.map wJ)) _:=zYH a b c l3 (l4.map wX) (l5.map wJ) n s (by omega) (by omega) h3 (zxu hv) _ 0 rfl (Nat.zero_le _)
    rw [List.drop_zero] at hq
    refine Ev.step (fun k=>by rw [yM.j0,xq.f]) (xW (by simp) (Ev.bind hq ?_))
    cases l3.find? (fun x=>decide (x.f0 = n)) with
    | none=>exact xW (by simp) (Ev.now _)
    | some x=>exact yJ rfl (Ev.now _)
theorem zan (a:ByteArray) (b:Bool) (c:Int) (l3:List uX) (l4:List uo) (l:List vk) (n m:ByteArray) (s:Int) (hs:1 ≤ s) (hs1:s ≤ 1000) (hl:l.length ≤ 1000000000) (hw:∀ x ∈ l,-500 ≤ x.f2 ∧ x.f2 ≤ 500):∀ d i,l.length - i = d → i ≤ l.length → Ev (fun k=>qI.l0 k n m s (i:Int) a b c l3 l4 (l.map wJ)) (match (l.drop i).find? (fun x=>decide (x.f0 = n) && decide (x.f1 = m)) with | some x=>flr s x.f2 | none=>0):=by
 intro d
 induction d with
 | zero =>
  intro i hd hi
  rw [List.drop_eq_nil_of_le (by omega)]
  refine jo (r:=0) rfl (Ev.step (fun k=>by rw [qI.l0,List.length_map]) (xW (by omega) (Ev.now _)))
 | succ d ih =>
  intro i hd hi
  have h1:i < l.length:=by omega
  have q0:(0:Int) ≤ (i:Int):=by omega
  have q1:(i:Int) < (l.length:Int):=by omega
  have hw2:wrap64 ((i:Int) + 1) = ((i + 1:Nat):Int):=(kQ (by omega) (by omega)).trans (by omega)
  have hr:=ih (i + 1) (by omega) (by omega)
  have hx:=hw _ (List.getElem_mem h1)
  rw [List.drop_eq_getElem_cons h1,List.find?_cons]
  refine Ev.step (fun k=>by rw [qI.l0,List.length_map,hw2,zjO l i h1]) (yJ q1 (yJ q0 ?_))
  by_cases he:l[i].f0 = n
  ·refine yJ (YA.2 he) ?_
   by_cases he2:l[i].f1 = m
   ·refine yJ (YA.2 he2) (J9 (zYG _ s hs hs1 (by show -3000 ≤ l[i].f2;omega) (by show l[i].f2 ≤ 3000;omega)) (jo ?_ (Ev.now _)))
    rw [decide_eq_true he,decide_eq_true he2];rfl
   ·refine xW (fun e=>he2 (YA.1 e)) (jo ?_ hr)
    rw [decide_eq_false he2,Bool.and_false]
  ·refine xW (fun e=>he (YA.1 e)) (jo ?_ hr)
   rw [decide_eq_false he,Bool.false_and]
theorem ziC (a:ByteArray) (b:Bool) (c:Int) (l3:List qo) (l4:List xY) (l5:List vk) (n m:ByteArray) (s:Int) (h3:l3.length ≤ 1000000000) (h4:l4.length ≤ 1000000000) (h5:l5.length ≤ 1000000000) (ha:a.size ≤ 140737488355328) (hz:∀ x ∈ l3,x.f0.size ≤ 140737488355328):Ev (fun k=>uD.f k a b c (l3.map kJ) (l4.map wX) (l5.map wJ) n m s) (lq (vL a c l3 l4 l5) l5 n m s):=by
 unfold lq Qb
 refine Ev.congr (fun k=>by rw [uD.f,lX a b c l3 l4 l5 h3 h4 h5 ha hz]) ?_
 by_cases h1:s < 1
 ·refine yJ h1 (jo ?_ (Ev.now _))
  rw [decide_eq_false (by omega:¬ 1 ≤ s)];rfl
 ·refine xW h1 ?_
  rw [decide_eq_true (by omega:1 ≤ s)]
  by_cases h2:s > 1000
  ·refine yJ h2 (jo ?_ (Ev.now _))
   rw [decide_eq_false (by omega:¬ s ≤ 1000)];rfl
  ·refine xW h2 (zkr ?_)
   rw [decide_eq_true (by omega:s ≤ 1000)]
   cases hv:vL a c l3 l4 l5 with
   | false=>exact xW (by simp) (Ev.now _)
   | true =>
    have hq:Ev (fun k=>qI.l0 k n m s 0 a b c (l3.map kJ) (l4.map wX) (l5.map wJ)) _:=zan a b c (l3.map kJ) (l4.map wX) l5 n m s (by omega) (by omega) h5 (zxA hv).2 _ 0 rfl (Nat.zero_le _)
    rw [List.drop_zero] at hq
    have hq2:Ev (fun k=>qI.f k a b c (l3.map kJ) (l4.map wX) (l5.map wJ) n m s) _:=Ev.congr (fun k=>by rw [qI.f]) hq
    exact yJ rfl (Ev.bind hq2 (Ev.now _))
theorem zao (a:ByteArray) (b:Bool) (c:Int) (l3:List uX) (l:List xY) (l5:List uG) (n m:ByteArray) (hl:l.length ≤ 1000000000):∀ d i,l.length - i = d → i ≤ l.length → Ev (fun k=>qL.l0 k n m (i:Int) a b c l3 (l.map wX) l5) (match (l.drop i).find? (fun x=>decide (x.f0 = n) && decide (x.f1 = m)) with | some x=>(x.f2,true) | none=>((⟨#[]⟩:ByteArray),false)):=by
 intro d
 induction d with
 | zero =>
  intro i hd hi
  rw [List.drop_eq_nil_of_le (by omega)]
  refine jo (r:=((⟨#[]⟩:ByteArray),false)) rfl (Ev.step (fun k=>by rw [qL.l0,List.length_map]) (xW (by omega) (Ev.now _)))
 | succ d ih =>
  intro i hd hi
  have h1:i < l.length:=by omega
  have q0:(0:Int) ≤ (i:Int):=by omega
  have q1:(i:Int) < (l.length:Int):=by omega
  have hw2:wrap64 ((i:Int) + 1) = ((i + 1:Nat):Int):=(kQ (by omega) (by omega)).trans (by omega)
  have hr:=ih (i + 1) (by omega) (by omega)
  rw [List.drop_eq_getElem_cons h1,List.find?_cons]
  refine Ev.step (fun k=>by rw [qL.l0,List.length_map,hw2,zjN l i h1]) (yJ q1 (yJ q0 ?_))
  by_cases he:l[i].f0 = n
  ·refine yJ (YA.2 he) ?_
   by_cases he2:l[i].f1 = m
   ·refine yJ (YA.2 he2) (jo ?_ (Ev.now _))
    rw [decide_eq_true he,decide_eq_true he2];rfl
   ·refine xW (fun e=>he2 (YA.1 e)) (jo ?_ hr)
    rw [decide_eq_false he2,Bool.and_false]
  ·refine xW (fun e=>he (YA.1 e)) (jo ?_ hr)
   rw [decide_eq_false he,Bool.false_and]
theorem ziD (a:ByteArray) (b:Bool) (c:Int) (l3:List qo) (l4:List xY) (l5:List vk) (n m:ByteArray) (h3:l3.length ≤ 1000000000) (h4:l4.length ≤ 1000000000) (h5:l5.length ≤ 1000000000) (ha:a.size ≤ 140737488355328) (hz:∀ x ∈ l3,x.f0.size ≤ 140737488355328):Ev (fun k=>kH.f k a b c (l3.map kJ) (l4.map wX) (l5.map wJ) n m) (mK (vL a c l3 l4 l5) l4 n m):=by
 unfold mK
 refine Ev.congr (fun k=>by rw [kH.f,lX a b c l3 l4 l5 h3 h4 h5 ha hz]) (zkr ?_)
 cases hv:vL a c l3 l4 l5 with
 | false=>exact xW (by simp) (Ev.now _)
 | true =>
  have hq:Ev (fun k=>qL.l0 k n m 0 a b c (l3.map kJ) (l4.map wX) (l5.map wJ)) _:=zao a b c (l3.map kJ) l4 (l5.map wJ) n m h4 _ 0 rfl (Nat.zero_le _)
  rw [List.drop_zero] at hq
  have hq2:Ev (fun k=>qL.f k a b c (l3.map kJ) (l4.map wX) (l5.map wJ) n m) _:=Ev.congr (fun k=>by rw [qL.f]) hq
  refine yJ rfl (Ev.bind hq2 (jo ?_ (Ev.now _)))
  rw [if_pos rfl]
  cases l4.find? (fun x=>decide (x.f0 = n) && decide (x.f1 = m)) <;> rfl
end Go.Proofs.YtggifbbiiickmaaGreatDoor
namespace Go.Proofs.YtggifbbiiickmaaGreatDoor
open Go.RowKit Go.Proofs.zk.zA Go.Proofs.zk.yA Go.Proofs.YtggifbbiiickmaaGreatDoor.PX
set_option linter.unusedSimpArgs false
set_option linter.unusedVariables false
abbrev qO:=Zg
abbrev wV:=vP
abbrev wB:=kV
def jY (x:qO):Bool:=vL x.f0 x.f2 x.f3 x.f4 x.f5
def PO (x:qO) (n:ByteArray):Bool:=Yj x.f3 n
def fjoin (x:qO) (n m:ByteArray):ByteArray × Bool:=mK (jY x) x.f4 n m
def Qc (x:qO) (n m:ByteArray) (s:Int):Int × Int:=lq (jY x) x.f5 n m s
def lJ (x:qO) (n:ByteArray) (s:Int):Int × Int:=oI (jY x) x.f3 n s
def j5 (l:List qO) (i:Int):qO:=zY l i
def X9 (n:ByteArray):List qO → Nat → Int
 | [],_=>-1
 | x :: r,i=>if x.f1 && PO x n then (i:Int) else X9 n r (i + 1)
def kR (l:List qO) (f:Int) (n:ByteArray):Int:=if PO (j5 l f) n then f else X9 n l 0
def lV (by_:Int):wV:=⟨2,by_,0,0,⟨#[]⟩,⟨#[]⟩,[]⟩
def zqF (w f s:Int) (n:ByteArray):wV:=⟨0,w,f,s,n,⟨#[]⟩,[]⟩
def Zn (l:List qO) (s:Int) (yt:Bool) (out:List wV) (a:Int) (n:ByteArray):List wV :=
 match out.getLast? with
 | none=>[]
 | some b=>if yt && decide (b.f2 = a) then (if (Qc (j5 l a) b.f4 n s).1 = 0 then [] else [lV (Qc (j5 l a) b.f4 n s).1]) else []
def Yp (l:List qO) (f s:Int) (yt:Bool) (st:List wV × List ByteArray) (n:ByteArray):List wV × List ByteArray :=
 if kR l f n < 0 then (st.1,st.2 ++ [n])
 else (st.1 ++ Zn l s yt st.1 (kR l f n) n ++ [zqF (lJ (j5 l (kR l f n)) n s).1 (kR l f n) s n],st.2)
def YH (J:ByteArray → ByteArray → ByteArray × Bool) (c:ByteArray):List ByteArray → ByteArray × List ByteArray
 | []=>(c,[])
 | d :: r=>if (J c d).2 then YH J (J c d).1 r else (c,d :: r)
theorem zj6 (J:ByteArray → ByteArray → ByteArray × Bool):∀ (r:List ByteArray) (c:ByteArray),(YH J c r).2.length ≤ r.length
 | [],_=>Nat.le_refl _
 | d :: r,c=>by
  unfold YH
  split
  ·exact Nat.le_succ_of_le (zj6 J r _)
  ·exact Nat.le_refl _
def kU (J:ByteArray → ByteArray → ByteArray × Bool):List ByteArray → List ByteArray
 | []=>[]
 | c :: r=>(YH J c r).1 :: kU J (YH J c r).2
termination_by l=>l.length
decreasing_by have:=zj6 J r c;simp;omega
def mg (pairs:List wB) (c:ByteArray):ByteArray:=match pairs.find? (fun p=>decide (p.f0 = c)) with | some p=>p.f1 | none=>c
def Vj (l:List qO) (f s:Int) (yt:Bool) (ns:List ByteArray):List wV × List ByteArray:=ns.foldl (Yp l f s yt) ([],[])
def YI (l:List qO) (f:Int) (qZ:Bool) (chars:List ByteArray) (pairs:List wB):List ByteArray :=
 if qZ then kU (fjoin (j5 l f)) (chars.map (mg pairs)) else chars.map (mg pairs)
def ZN (s:ByteArray):Bool:=!Zc s.data.toList
def PU (p:wB):Bool:=ZN p.f0 || ZN p.f1
def ZW (l:List qO) (f s:Int) (chars:List ByteArray) (pairs:List wB):Bool :=
 l.any (fun x=>!jY x) || (decide (f < 0) || decide ((l.length:Int) ≤ f) || decide (s < 1) || decide (1000 < s)) || (decide (2000 < chars.length) || decide (100 < pairs.length)) || chars.any ZN || pairs.any PU
def pV (l:List qO) (f s:Int) (qZ yt:Bool) (chars:List ByteArray) (pairs:List wB):List wV × List ByteArray × Int :=
 if ZW l f s chars pairs then ([],[],1)
 else ((Vj l f s yt (YI l f qZ chars pairs)).1,(Vj l f s yt (YI l f qZ chars pairs)).2,0)
end Go.Proofs.YtggifbbiiickmaaGreatDoor
namespace Go.Proofs.YtggifbbiiickmaaGreatDoor.PX
open Go.RowKit Go.Proofs.zk.zA Go.Proofs.zk.yB Go.Proofs.zk.yA
attribute [local go_sem] xR xS vM vN xB xC xU vv   -- for this text's walks alone
set_option linter.unusedVariables false
set_option linter.unusedSimpArgs false
namespace zgl
theorem wb (w:World) (a:Addr) {u:Value} (h:w.cell? a = some u):a.block < w.heap.size:=World.block_lt_of_cell? w a h
end zgl
open zgl
mutual
def zh.l0:Nat → List (Zg) → List (ji) → Int → Option ((List (ji)))
 | 0,_,_,_=>none
 | k + 1,x0,x3,x4=>if x4 < (x0.length:Int) then (if 0 ≤ x4 then (zh.l1 k x0 x3 x4 0 ((zY x0 x4).f0) ((zY x0 x4).f1) ((zY x0 x4).f2) ([]:List (uX))) else (none)) else (some x3)
def zh.l1:Nat → List (Zg) → List (ji) → Int → Int → ByteArray → Bool → Int → List (uX) → Option ((List (ji)))
 | 0,_,_,_,_,_,_,_,_=>none
 | k + 1,x0,x3,x4,x6,VP,VR,VT,Qd=>if 0 ≤ x4 then (if x4 < (x0.length:Int) then (if x6 < (((zY x0 x4).f3).length:Int) then (if 0 ≤ x6 then (if Qd.length < 5864062014805 then (zh.l1 k x0 x3 x4 (wrap64 (x6 + 1)) VP VR VT (Qd ++ [(⟨(qF ((zY x0 x4).f3) x6).f0,(qF ((zY x0 x4).f3) x6).f1⟩:uX)])) else (none)) else (none)) else (zh.l2 k x0 x3 x4 0 VP VR VT Qd ([]:List (uo)))) else (none)) else (none)
def zh.l2:Nat → List (Zg) → List (ji) → Int → Int → ByteArray → Bool → Int → List (uX) → List (uo) → Option ((List (ji)))
 | 0,_,_,_,_,_,_,_,_,_=>none
 | k + 1,x0,x3,x4,x7,VP,VR,VT,Qd,bB=>if 0 ≤ x4 then (if x4 < (x0.length:Int) then (if x7 < (((zY x0 x4).f4).length:Int) then (if 0 ≤ x7 then (if bB.length < 2932031007402 then (zh.l2 k x0 x3 x4 (wrap64 (x7 + 1)) VP VR VT Qd (bB ++ [(⟨(q9 ((zY x0 x4).f4) x7).f0,(q9 ((zY x0 x4).f4) x7).f1,(q9 ((zY x0 x4).f4) x7).f2⟩:uo)])) else (none)) else (none)) else (zh.l3 k x0 x3 x4 0 VP VR VT Qd bB ([]:List (uG)))) else (none)) else (none)
def zh.l3:Nat → List (Zg) → List (ji) → Int → Int → ByteArray → Bool → Int → List (uX) → List (uo) → List (uG) → Option ((List (ji)))
 | 0,_,_,_,_,_,_,_,_,_,_=>none
 | k + 1,x0,x3,x4,x8,VP,VR,VT,Qd,bB,zj7=>if 0 ≤ x4 then (if x4 < (x0.length:Int) then (if x8 < (((zY x0 x4).f5).length:Int) then (if 0 ≤ x8 then (if zj7.length < 3518437208883 then (zh.l3 k x0 x3 x4 (wrap64 (x8 + 1)) VP VR VT Qd bB (zj7 ++ [(⟨(xk ((zY x0 x4).f5) x8).f0,(xk ((zY x0 x4).f5) x8).f1,(xk ((zY x0 x4).f5) x8).f2⟩:uG)])) else (none)) else (none)) else (if x3.length < 1353245080339 then (zh.l0 k x0 (x3 ++ [(⟨VP,VR,VT,Qd,bB,zj7⟩:ji)]) (wrap64 (x4 + 1))) else (none))) else (none)) else (none)
end
def zh.f (k:Nat) (l0:List (Zg)):Option ((List (ji))):=zh.l0 k l0 ([]:List (ji)) 0
def zh.T5:Bool × List (List Nat × List Nat):=(true,[([],[]),([],[]),([0,1],[0,1]),([2],[2]),([3],[3]),([],[]),([],[]),([5,6],[5,6]),([7],[7]),([8],[8]),([],[]),([],[]),([10,11],[10,11]),([12],[12]),([13],[13]),([4,9,14],[4,9,14]),([],[]),([16,15,0,1,2,3,4,5,6,7,8,9,10,11,12,13,14,15,16],[15,16])])
def zh.B5:List Nat:=[0,0,3,7,15,0,0,96,224,480,0,0,3072,7168,15360,32767,0,131071]
theorem zh.zyx:vR .any (opsOf Tryz.f15 5) = zh.T5:=by kernel_rfl
theorem zh.zVB:uV zh.T5.2 zh.B5 = true:=by kernel_rfl
def zh.T9:Bool × List (List Nat × List Nat):=(true,[([],[]),([0],[0]),([],[]),([],[]),([2,3],[2,3]),([4],[4]),([5],[5]),([],[]),([6,7],[6,7]),([8],[8]),([9],[9]),([],[]),([],[]),([11,12],[11,12]),([13],[13]),([14],[14]),([],[]),([15,16],[15,16]),([17],[17]),([18],[18]),([10,19],[10,19]),([20],[20]),([1,21],[1,21]),([0,1,2,3,4,5,6,7,8,9,10,11,12,13,14,15,16,17,18,19,20,21,22],[]),([23,22,22,0,1,2,3,4,5,6,7,8,9,10,11,12,13,14,15,16,17,18,19,20,21,22],[22,23])])
def zh.B9:List Nat:=[0,1,0,0,12,28,60,0,252,508,1020,0,0,6144,14336,30720,0,129024,260096,522240,1048572,2097148,4194303,8388607,16777215]
theorem zh.zar:vR .any (opsOf Tryz.f15 9) = zh.T9:=by kernel_rfl
theorem zh.zVC:uV zh.T9.2 zh.B9 = true:=by kernel_rfl
def zh.T13:Bool × List (List Nat × List Nat):=(true,[([],[]),([0],[0]),([],[]),([],[]),([2,3],[2,3]),([4],[4]),([5],[5]),([],[]),([6,7],[6,7]),([8],[8]),([9],[9]),([],[]),([],[]),([11,12],[11,12]),([13],[13]),([14],[14]),([],[]),([15,16],[15,16]),([17],[17]),([18],[18]),([],[]),([],[]),([20,21],[20,21]),([22],[22]),([23],[23]),([],[]),([24,25],[24,25]),([26],[26]),([27],[27]),([10,19,28],[10,19,28]),([29],[29]),([1,30],[1,30]),([0,1,2,3,4,5,6,7,8,9,10,11,12,13,14,15,16,17,18,19,20,21,22,23,24,25,26,27,28,29,30,31],[]),([32,31,31,0,1,2,3,4,5,6,7,8,9,10,11,12,13,14,15,16,17,18,19,20,21,22,23,24,25,26,27,28,29,30,31],[31,32])])
def zh.B13:List Nat:=[0,1,0,0,12,28,60,0,252,508,1020,0,0,6144,14336,30720,0,129024,260096,522240,0,0,3145728,7340032,15728640,0,66060288,133169152,267386880,536870908,1073741820,2147483647,4294967295,8589934591]
theorem zh.Kz:vR .any (opsOf Tryz.f15 13) = zh.T13:=by kernel_rfl
theorem zh.QZ:uV zh.T13.2 zh.B13 = true:=by kernel_rfl
def zh.T17:Bool × List (List Nat × List Nat):=(true,[([],[]),([0],[0]),([],[]),([],[]),([2,3],[2,3]),([4],[4]),([5],[5]),([],[]),([6,7],[6,7]),([8],[8]),([9],[9]),([],[]),([],[]),([11,12],[11,12]),([13],[13]),([14],[14]),([],[]),([15,16],[15,16]),([17],[17]),([18],[18]),([],[]),([],[]),([20,21],[20,21]),([22],[22]),([23],[23]),([],[]),([24,25],[24,25]),([26],[26]),([27],[27]),([10,19,28],[10,19,28]),([29],[29]),([1,30],[1,30]),([0,1,2,3,4,5,6,7,8,9,10,11,12,13,14,15,16,17,18,19,20,21,22,23,24,25,26,27,28,29,30,31],[]),([32,31,31,0,1,2,3,4,5,6,7,8,9,10,11,12,13,14,15,16,17,18,19,20,21,22,23,24,25,26,27,28,29,30,31],[31,32])])
def zh.B17:List Nat:=[0,1,0,0,12,28,60,0,252,508,1020,0,0,6144,14336,30720,0,129024,260096,522240,0,0,3145728,7340032,15728640,0,66060288,133169152,267386880,536870908,1073741820,2147483647,4294967295,8589934591]
theorem zh.ziE:vR .any (opsOf Tryz.f15 17) = zh.T17:=by kernel_rfl
theorem zh.zgm:uV zh.T17.2 zh.B17 = true:=by kernel_rfl
set_option maxHeartbeats 8000000 in
set_option maxRecDepth 100000 in
theorem zh.calls (k:Nat) (A0:Option Addr) (c0:Nat) (l0:List (Zg)) (r:List (ji)) (w:World) (hr0:Kd.C Ye w A0 l0.length l0) (hc0:l0.length ≤ c0) (h:zh.f k l0 = some r) :
  Calls Tryz.prog 15 #[.slice A0 l0.length c0] w fun e w'=>∃ Qw:Value,e = .returned (Qw) ∧ Kd.S J8 101 w' w.heap.size (fun _=>True) Qw r ∧ Below w.heap.size w w':=by
 have VW:=Tryz.underlying101
 have ztT:=Tryz.underlying106
 have ztU:=Tryz.underlying109
 have zt0:=Tryz.underlying112
 have jW:=zx.mk hr0
 have Q9:=zx.mk hc0
 clear hr0 hc0
 have HB:=zx.mk (Below.refl w.heap.size w)
 have H:(zh.l0 k l0 ([]:List (ji)) 0) = some r:=h
 clear h
 have H':=zx.mk H
 clear H
 go_enter Tryz.func15,Tryz.ntmps15
 go_wp2
 go_loopg [3,4] k (fun kq v3 v4 w'=>∃ (qQ:List (ji)) (zX:Int),v4 = .int .i64 zX ∧ zx (zh.l0 kq l0 qQ zX = some r) ∧ zx (kq ≤ k) ∧ zx (Kd.S J8 101 w' w.heap.size (fun _=>True) v3 qQ) ∧ zx (Below w.heap.size w w'))
 case atStart=>exact ⟨(([]:List (ji))),(0),(by first | rfl | (simp;done) | (simp [*];done)),H',⟨Nat.le_refl _⟩,⟨by first | exact Kd.YQ _ _ _ _ _ | exact Kd.Yc _ _ _ _ _ | exact Kd.Yd _ _ _ _ _ | exact Kd.Ya _ _ _ _ _ | exact Kd.jw _ _ _ _ _⟩,⟨zH HB.out⟩⟩
 case round =>
  clear H'
  obtain ⟨qQ,zX,rfl,HA,uK,uI,HB⟩:=hrel
  cases gk with
  | zero=>exact absurd HA.out (by simp [zh.l0])
  | succ k1 =>
   have H:=HA.out
   clear HA
   simp only [zh.l0] at H
   by_cases c2:zX < (l0.length:Int)
   ·rw [if_pos c2] at H
    have Ku:decide (zX < (l0.length:Int)) = true:=decide_eq_true c2
    clear c2
    by_cases c3:0 ≤ zX
    ·rw [if_pos c3] at H
     have Zh:decide (0 ≤ zX) = true:=decide_eq_true c3
     clear c3
     have H':=zx.mk H
     clear H
     try go_wp2
     have zJ:=zx.mk (Kd.qR uI.out)
     have zK:=zx.mk (zT HB.out)
     clear uI HB
     have uI:=zJ
     have HB:=zK
     clear zJ zK
     have zj8:0 ≤ (zX:Int):=of_decide_eq_true yE
     have zj9:zX < (l0.length:Int):=of_decide_eq_true yE
     obtain ⟨yF,zyj,zyv,zyk,zyy,zyw,zyZ,e250,KP,KR,KS,Qe,Qf,Qg,zZv,zZk,zZy,zZw,zZZ,zZQ⟩:=wP jW.out zX zj8 zj9
     have XB:=Qg
     have XC:=Qf
     have XD:=Qe
     have XE:=KS
     have XF:=KR
     have XG:=KP
     cases e250
     replace KP:=(HB.out.cell (wb w _ KP)).trans KP
     replace KR:=(HB.out.cell (wb w _ KR)).trans KR
     replace KS:=(HB.out.cell (wb w _ KS)).trans KS
     replace Qe:=(HB.out.cell (wb w _ Qe)).trans Qe
     replace Qf:=(HB.out.cell (wb w _ Qf)).trans Qf
     replace Qg:=(HB.out.cell (wb w _ Qg)).trans Qg
     have zdH:=zx.mk zZk
     have zpi:=zx.mk zZv
     clear zZk zZv
     have zdI:=zx.mk zZw
     have zpl:=zx.mk zZy
     clear zZw zZy
     have zdL:=zx.mk zZQ
     have zpm:=zx.mk zZZ
     clear zZQ zZZ
     replace zj8:=eq_true zj8
     replace zj9:=eq_true zj9
     have zvz:0 ≤ (zX:Int):=of_decide_eq_true yE
     have zvq:zX < (l0.length:Int):=of_decide_eq_true yE
     obtain ⟨ziF,zsu,zsA,zsB,zsC,zsD,zsE,e251,KT,KU,K8,VU,V3,V4,zZX,zZJ,zZV,zZK,zZY,zZW⟩:=wP jW.out zX zvz zvq
     have XH:=V4
     have XI:=V3
     have XL:=VU
     have XM:=K8
     have XO:=KU
     have XP:=KT
     obtain rfl:yF = ziF:=(by injection e251)
     replace KT:=(HB.out.cell (wb w _ KT)).trans KT
     replace KU:=(HB.out.cell (wb w _ KU)).trans KU
     replace K8:=(HB.out.cell (wb w _ K8)).trans K8
     replace VU:=(HB.out.cell (wb w _ VU)).trans VU
     replace V3:=(HB.out.cell (wb w _ V3)).trans V3
     replace V4:=(HB.out.cell (wb w _ V4)).trans V4
     have zdM:=zx.mk zZJ
     have zpn:=zx.mk zZX
     clear zZJ zZX
     have zdN:=zx.mk zZK
     have zpo:=zx.mk zZV
     clear zZK zZV
     have zdO:=zx.mk zZW
     have zpp:=zx.mk zZY
     clear zZW zZY
     replace zvz:=eq_true zvz
     replace zvq:=eq_true zvq
     have xH:=Option.some.inj (Qe.symm.trans VU)
     injection xH with xH kY kW
     subst xH
     subst kW
     clear kY
     have xH:=Option.some.inj (Qf.symm.trans V3)
     injection xH with xH kY kW
     subst xH
     subst kW
     clear kY
     have xH:=Option.some.inj (Qg.symm.trans V4)
     injection xH with xH kY kW
     subst xH
     subst kW
     clear kY
     have zvx:0 ≤ (zX:Int):=of_decide_eq_true yE
     have zvj:zX < (l0.length:Int):=of_decide_eq_true yE
     obtain ⟨ziG,zsF,zsG,zsH,zsI,zsL,zsM,e252,Wz,Wq,Wx,V5,V6,V7,zZa,zZb,zZc,zZd,zZe,zZf⟩:=wP jW.out zX zvx zvj
     have XR:=V7
     have XT:=V6
     have XU:=V5
     have X0:=Wx
     have X3:=Wq
     have X4:=Wz
     obtain rfl:yF = ziG:=(by injection e252)
     replace Wz:=(HB.out.cell (wb w _ Wz)).trans Wz
     replace Wq:=(HB.out.cell (wb w _ Wq)).trans Wq
     replace Wx:=(HB.out.cell (wb w _ Wx)).trans Wx
     replace V5:=(HB.out.cell (wb w _ V5)).trans V5
     replace V6:=(HB.out.cell (wb w _ V6)).trans V6
     replace V7:=(HB.out.cell (wb w _ V7)).trans V7
     have zdP:=zx.mk zZb
     have zpr:=zx.mk zZa
     clear zZb zZa
     have zdR:=zx.mk zZd
     have zps:=zx.mk zZc
     clear zZd zZc
     have zdS:=zx.mk zZf
     have zpt:=zx.mk zZe
     clear zZf zZe
     replace zvx:=eq_true zvx
     replace zvj:=eq_true zvj
     have xH:=Option.some.inj (Qe.symm.trans V5)
     injection xH with xH kY kW
     subst xH
     subst kW
     clear kY
     have xH:=Option.some.inj (Qf.symm.trans V6)
     injection xH with xH kY kW
     subst xH
     subst kW
     clear kY
     have xH:=Option.some.inj (Qg.symm.trans V7)
     injection xH with xH kY kW
     subst xH
     subst kW
     clear kY
     refine jy (n:=18) (S:=fun w'=>w'.cell? (yF.add ((zX).toNat * 6)) = some (.string ((zY l0 zX).f0)) ∧ w'.cell? ⟨(yF.add ((zX).toNat * 6)).block,(yF.add ((zX).toNat * 6)).off + 1,none⟩ = some (.bool ((zY l0 zX).f1)) ∧ w'.cell? ⟨(yF.add ((zX).toNat * 6)).block,(yF.add ((zX).toNat * 6)).off + 2,none⟩ = some (.int .i64 ((zY l0 zX).f2)) ∧ w'.cell? ⟨(yF.add ((zX).toNat * 6)).block,(yF.add ((zX).toNat * 6)).off + 3,none⟩ = some (.slice zyj ((zY l0 zX).f3).length zyv) ∧ w'.cell? ⟨(yF.add ((zX).toNat * 6)).block,(yF.add ((zX).toNat * 6)).off + 4,none⟩ = some (.slice zyk ((zY l0 zX).f4).length zyy) ∧ w'.cell? ⟨(yF.add ((zX).toNat * 6)).block,(yF.add ((zX).toNat * 6)).off + 5,none⟩ = some (.slice zyw ((zY l0 zX).f5).length zyZ) ∧ w'.cell? (yF.add ((zX).toNat * 6)) = some (.string ((zY l0 zX).f0)) ∧ w'.cell? ⟨(yF.add ((zX).toNat * 6)).block,(yF.add ((zX).toNat * 6)).off + 1,none⟩ = some (.bool ((zY l0 zX).f1)) ∧ w'.cell? ⟨(yF.add ((zX).toNat * 6)).block,(yF.add ((zX).toNat * 6)).off + 2,none⟩ = some (.int .i64 ((zY l0 zX).f2)) ∧ w'.cell? ⟨(yF.add ((zX).toNat * 6)).block,(yF.add ((zX).toNat * 6)).off + 3,none⟩ = some (.slice zyj ((zY l0 zX).f3).length zyv) ∧ w'.cell? ⟨(yF.add ((zX).toNat * 6)).block,(yF.add ((zX).toNat * 6)).off + 4,none⟩ = some (.slice zyk ((zY l0 zX).f4).length zyy) ∧ w'.cell? ⟨(yF.add ((zX).toNat * 6)).block,(yF.add ((zX).toNat * 6)).off + 5,none⟩ = some (.slice zyw ((zY l0 zX).f5).length zyZ) ∧ w'.cell? (yF.add ((zX).toNat * 6)) = some (.string ((zY l0 zX).f0)) ∧ w'.cell? ⟨(yF.add ((zX).toNat * 6)).block,(yF.add ((zX).toNat * 6)).off + 1,none⟩ = some (.bool ((zY l0 zX).f1)) ∧ w'.cell? ⟨(yF.add ((zX).toNat * 6)).block,(yF.add ((zX).toNat * 6)).off + 2,none⟩ = some (.int .i64 ((zY l0 zX).f2)) ∧ w'.cell? ⟨(yF.add ((zX).toNat * 6)).block,(yF.add ((zX).toNat * 6)).off + 3,none⟩ = some (.slice zyj ((zY l0 zX).f3).length zyv) ∧ w'.cell? ⟨(yF.add ((zX).toNat * 6)).block,(yF.add ((zX).toNat * 6)).off + 4,none⟩ = some (.slice zyk ((zY l0 zX).f4).length zyy) ∧ w'.cell? ⟨(yF.add ((zX).toNat * 6)).block,(yF.add ((zX).toNat * 6)).off + 5,none⟩ = some (.slice zyw ((zY l0 zX).f5).length zyZ)) (ds:=[]) #[false,false,false,false,false,false,false,false,false,false,false,false,false,false,false,false,false,false] (by kernel_rfl) rfl rfl ⟨((HB.out.cell (wb w _ XG)).trans XG),((HB.out.cell (wb w _ XF)).trans XF),((HB.out.cell (wb w _ XE)).trans XE),((HB.out.cell (wb w _ XD)).trans XD),((HB.out.cell (wb w _ XC)).trans XC),((HB.out.cell (wb w _ XB)).trans XB),((HB.out.cell (wb w _ XP)).trans XP),((HB.out.cell (wb w _ XO)).trans XO),((HB.out.cell (wb w _ XM)).trans XM),((HB.out.cell (wb w _ XL)).trans XL),((HB.out.cell (wb w _ XI)).trans XI),((HB.out.cell (wb w _ XH)).trans XH),((HB.out.cell (wb w _ X4)).trans X4),((HB.out.cell (wb w _ X3)).trans X3),((HB.out.cell (wb w _ X0)).trans X0),((HB.out.cell (wb w _ XU)).trans XU),((HB.out.cell (wb w _ XT)).trans XT),((HB.out.cell (wb w _ XR)).trans XR)⟩ (fun hHeld=>?_);refine uZ zh.zyx zh.zVB (fun za vC=>?_)
     generalize wr.drew = w4 at uI HB zdH zdI zdL zdM zdN zdO zdP zdR zdS KP KR KS Qe Qf Qg KT KU K8 VU V3 V4 Wz Wq Wx V5 V6 V7 hHeld ⊢
     refine yQ 0 (some 15) za ?_
     refine yQ 1 (some 16) za ?_
     refine yQ 2 (some 17) za ?_
     refine yQ 3 (some 18) za ?_
     refine yQ 5 (some 20) za ?_
     refine yQ 6 (some 21) za ?_
     refine yQ 7 (some 22) za ?_
     refine yQ 8 (some 23) za ?_
     refine yQ 10 (some 25) za ?_
     refine yQ 11 (some 26) za ?_
     refine yQ 12 (some 27) za ?_
     refine yQ 13 (some 28) za ?_
     refine jg 4 (some 19) za vC hHeld ?_
     refine jg 9 (some 24) za vC hHeld ?_
     refine jg 14 (some 29) za vC hHeld ?_
     refine yQ 15 (some 30) za ?_
     refine wZ 16 (some 5) za (fun K hK=>?_)
     refine zWM ?hg (N:=5) ?hd (cs:=#[.string (⟨#[]⟩:ByteArray),.bool false,.int .i64 0,.slice none 0 0,.slice none 0 0,.slice none 0 0]) (t:=101) ?hr ?_;(case hd=>rfl);(case hg=>rfl);(case hr=>first | (go_simp;done) | (go_simp;rfl))
     intro yx hg w5 qc hb
     have zJ:=zx.mk (Kd.y8 (Kd.zWN (uq uI.out) yx (Nat.le_of_eq hg.symm)) hb)
     have zK:=zx.mk (zo (zH HB.out) hb)
     have zi:=zx.mk (qc)
     have zL:=zx.mk ((by rw [hg];exact (ze (zH HB.out)):w.heap.size ≤ yx))
     have qz:=zx.mk ((by rw [hg];exact (ze (zH HB.out)):w.heap.size ≤ yx))
     clear uI HB
     have uI:=zJ
     have HB:=zK
     have yH:=zi
     have y9:=zL
     have zt1:=qz
     clear zJ zK zi zL qz hb qc hg
     refine hK.out _ _ ⟨((HB.out.cell (wb w _ XG)).trans XG),((HB.out.cell (wb w _ XF)).trans XF),((HB.out.cell (wb w _ XE)).trans XE),((HB.out.cell (wb w _ XD)).trans XD),((HB.out.cell (wb w _ XC)).trans XC),((HB.out.cell (wb w _ XB)).trans XB),((HB.out.cell (wb w _ XP)).trans XP),((HB.out.cell (wb w _ XO)).trans XO),((HB.out.cell (wb w _ XM)).trans XM),((HB.out.cell (wb w _ XL)).trans XL),((HB.out.cell (wb w _ XI)).trans XI),((HB.out.cell (wb w _ XH)).trans XH),((HB.out.cell (wb w _ X4)).trans X4),((HB.out.cell (wb w _ X3)).trans X3),((HB.out.cell (wb w _ X0)).trans X0),((HB.out.cell (wb w _ XU)).trans XU),((HB.out.cell (wb w _ XT)).trans XT),((HB.out.cell (wb w _ XR)).trans XR)⟩ (fun hHeld=>?_)
     clear hK K
     refine wY (some 5) ?_
     refine wZ 17 (none) za (fun K hK=>?_)
     have hs6:w5.cell? ⟨yx,0,none⟩ = some (.string (⟨#[]⟩:ByteArray)):=zZ yH 0
     have zu1:=zy yH.out 0
     have hs7:w5.cell? ⟨yx,1,none⟩ = some (.bool false):=zZ yH 1
     have zu3:=zy yH.out 1
     have hs8:w5.cell? ⟨yx,2,none⟩ = some (.int .i64 0):=zZ yH 2
     have zu4:=zy yH.out 2
     have hs9:w5.cell? ⟨yx,3,none⟩ = some (.slice none 0 0):=zZ yH 3
     have zu5:=zy yH.out 3
     have zu6:w5.cell? ⟨yx,4,none⟩ = some (.slice none 0 0):=zZ yH 4
     have zt2:=zy yH.out 4
     have zu7:w5.cell? ⟨yx,5,none⟩ = some (.slice none 0 0):=zZ yH 5
     have zt3:=zy yH.out 5
     refine iN (w1:=?_) (by rfl) rfl ?_ ?_
     rotate_left
     ·go_simp
      rfl
     refine hK.out _ _ ⟨((xG yx XG y9.out _).trans (((xG yx XG y9.out _).trans (((xG yx XG y9.out _).trans (((xG yx XG y9.out _).trans (((xG yx XG y9.out _).trans (((xG yx XG y9.out _).trans (hHeld.1)))))))))))),((xG yx XF y9.out _).trans (((xG yx XF y9.out _).trans (((xG yx XF y9.out _).trans (((xG yx XF y9.out _).trans (((xG yx XF y9.out _).trans (((xG yx XF y9.out _).trans (hHeld.2.1)))))))))))),((xG yx XE y9.out _).trans (((xG yx XE y9.out _).trans (((xG yx XE y9.out _).trans (((xG yx XE y9.out _).trans (((xG yx XE y9.out _).trans (((xG yx XE y9.out _).trans (hHeld.2.2.1)))))))))))),((xG yx XD y9.out _).trans (((xG yx XD y9.out _).trans (((xG yx XD y9.out _).trans (((xG yx XD y9.out _).trans (((xG yx XD y9.out _).trans (((xG yx XD y9.out _).trans (hHeld.2.2.2.1)))))))))))),((xG yx XC y9.out _).trans (((xG yx XC y9.out _).trans (((xG yx XC y9.out _).trans (((xG yx XC y9.out _).trans (((xG yx XC y9.out _).trans (((xG yx XC y9.out _).trans (hHeld.2.2.2.2.1)))))))))))),((xG yx XB y9.out _).trans (((xG yx XB y9.out _).trans (((xG yx XB y9.out _).trans (((xG yx XB y9.out _).trans (((xG yx XB y9.out _).trans (((xG yx XB y9.out _).trans (hHeld.2.2.2.2.2.1)))))))))))),((xG yx XP y9.out _).trans (((xG yx XP y9.out _).trans (((xG yx XP y9.out _).trans (((xG yx XP y9.out _).trans (((xG yx XP y9.out _).trans (((xG yx XP y9.out _).trans (hHeld.2.2.2.2.2.2.1)))))))))))),((xG yx XO y9.out _).trans (((xG yx XO y9.out _).trans (((xG yx XO y9.out _).trans (((xG yx XO y9.out _).trans (((xG yx XO y9.out _).trans (((xG yx XO y9.out _).trans (hHeld.2.2.2.2.2.2.2.1)))))))))))),((xG yx XM y9.out _).trans (((xG yx XM y9.out _).trans (((xG yx XM y9.out _).trans (((xG yx XM y9.out _).trans (((xG yx XM y9.out _).trans (((xG yx XM y9.out _).trans (hHeld.2.2.2.2.2.2.2.2.1)))))))))))),((xG yx XL y9.out _).trans (((xG yx XL y9.out _).trans (((xG yx XL y9.out _).trans (((xG yx XL y9.out _).trans (((xG yx XL y9.out _).trans (((xG yx XL y9.out _).trans (hHeld.2.2.2.2.2.2.2.2.2.1)))))))))))),((xG yx XI y9.out _).trans (((xG yx XI y9.out _).trans (((xG yx XI y9.out _).trans (((xG yx XI y9.out _).trans (((xG yx XI y9.out _).trans (((xG yx XI y9.out _).trans (hHeld.2.2.2.2.2.2.2.2.2.2.1)))))))))))),((xG yx XH y9.out _).trans (((xG yx XH y9.out _).trans (((xG yx XH y9.out _).trans (((xG yx XH y9.out _).trans (((xG yx XH y9.out _).trans (((xG yx XH y9.out _).trans (hHeld.2.2.2.2.2.2.2.2.2.2.2.1)))))))))))),((xG yx X4 y9.out _).trans (((xG yx X4 y9.out _).trans (((xG yx X4 y9.out _).trans (((xG yx X4 y9.out _).trans (((xG yx X4 y9.out _).trans (((xG yx X4 y9.out _).trans (hHeld.2.2.2.2.2.2.2.2.2.2.2.2.1)))))))))))),((xG yx X3 y9.out _).trans (((xG yx X3 y9.out _).trans (((xG yx X3 y9.out _).trans (((xG yx X3 y9.out _).trans (((xG yx X3 y9.out _).trans (((xG yx X3 y9.out _).trans (hHeld.2.2.2.2.2.2.2.2.2.2.2.2.2.1)))))))))))),((xG yx X0 y9.out _).trans (((xG yx X0 y9.out _).trans (((xG yx X0 y9.out _).trans (((xG yx X0 y9.out _).trans (((xG yx X0 y9.out _).trans (((xG yx X0 y9.out _).trans (hHeld.2.2.2.2.2.2.2.2.2.2.2.2.2.2.1)))))))))))),((xG yx XU y9.out _).trans (((xG yx XU y9.out _).trans (((xG yx XU y9.out _).trans (((xG yx XU y9.out _).trans (((xG yx XU y9.out _).trans (((xG yx XU y9.out _).trans (hHeld.2.2.2.2.2.2.2.2.2.2.2.2.2.2.2.1)))))))))))),((xG yx XT y9.out _).trans (((xG yx XT y9.out _).trans (((xG yx XT y9.out _).trans (((xG yx XT y9.out _).trans (((xG yx XT y9.out _).trans (((xG yx XT y9.out _).trans (hHeld.2.2.2.2.2.2.2.2.2.2.2.2.2.2.2.2.1)))))))))))),((xG yx XR y9.out _).trans (((xG yx XR y9.out _).trans (((xG yx XR y9.out _).trans (((xG yx XR y9.out _).trans (((xG yx XR y9.out _).trans (((xG yx XR y9.out _).trans (hHeld.2.2.2.2.2.2.2.2.2.2.2.2.2.2.2.2.2))))))))))))⟩ (fun hHeld=>?_)
     clear hK K
     refine xP (qH za.out (by kernel_rfl)) ?_
     try go_wp2
     go_loopg [6] k1 (fun kq v6 w'=>∃ (jl:Int) (jD:List (uX)) (jM:Value),v6 = .int .i64 jl ∧ zx (zh.l1 kq l0 qQ zX jl ((zY l0 zX).f0) ((zY l0 zX).f1) ((zY l0 zX).f2) jD = some r) ∧ zx (kq ≤ k1) ∧ zx (Kd.S J8 101 w' w.heap.size (fun k_=>some k_ ≠ (jM:Value).ownBlock ∧ k_ ≠ yx) u3 qQ) ∧ zx (Kd.R YK 106 w' w.heap.size (fun _=>True) jM jD) ∧ zx (w'.heap[yx]? = some (.cells #[.string ((zY l0 zX).f0),.bool ((zY l0 zX).f1),.int .i64 ((zY l0 zX).f2),jM,(.slice none 0 0),(.slice none 0 0)] 101 (0,0))) ∧ zx (Below w.heap.size w w'))
     case atStart=>exact ⟨(0),(([]:List (uX))),(.slice none 0 0),(by first | rfl | (simp;done) | (simp [*];done)),H',⟨Nat.le_refl _⟩,⟨by (with_reducible repeat (first | apply Kd.vK | apply Kd.vY | apply Kd.qR));exact Kd.kD (Kd.Yb (p:=⟨yx,5,none⟩) (Kd.Yb (p:=⟨yx,4,none⟩) (Kd.Yb (p:=⟨yx,3,none⟩) (Kd.Yb (p:=⟨yx,2,none⟩) (Kd.Yb (p:=⟨yx,1,none⟩) (Kd.Yb (p:=⟨yx,0,none⟩) (Kd.kD uI.out (fun k_ hk=>(⟨hk,hk.2⟩:_ ∧ k_ ≠ yx))) (fun _ hk=>hk.2) (.string ((zY l0 zX).f0))) (fun _ hk=>hk.2) (.bool ((zY l0 zX).f1))) (fun _ hk=>hk.2) (.int .i64 ((zY l0 zX).f2))) (fun _ hk=>hk.2) (.slice none 0 0)) (fun _ hk=>hk.2) (.slice none 0 0)) (fun _ hk=>hk.2) (.slice none 0 0)) (fun _ hk=>⟨(by simp [Value.ownBlock]),hk.1.2⟩)⟩,⟨by first | exact Kd.jw _ _ _ _ _ | exact Kd.Yc _ _ _ _ _ | exact Kd.Yd _ _ _ _ _ | exact Kd.Ya _ _ _ _ _ | exact Kd.YQ _ _ _ _ _⟩,⟨by (with_reducible repeat (first | refine vQ ?_ _ | refine qK ?_ | refine yL ?_ _));refine xD (cs:=#[.string ((zY l0 zX).f0),.bool ((zY l0 zX).f1),.int .i64 ((zY l0 zX).f2),.slice none 0 0,.slice none 0 0,.slice none 0 0]) ?_ 5 _ rfl;(with_reducible repeat (first | refine vQ ?_ _ | refine qK ?_ | refine yL ?_ _));refine xD (cs:=#[.string ((zY l0 zX).f0),.bool ((zY l0 zX).f1),.int .i64 ((zY l0 zX).f2),.slice none 0 0,.slice none 0 0,.slice none 0 0]) ?_ 4 _ rfl;(with_reducible repeat (first | refine vQ ?_ _ | refine qK ?_ | refine yL ?_ _));refine xD (cs:=#[.string ((zY l0 zX).f0),.bool ((zY l0 zX).f1),.int .i64 ((zY l0 zX).f2),.slice none 0 0,.slice none 0 0,.slice none 0 0]) ?_ 3 _ rfl;(with_reducible repeat (first | refine vQ ?_ _ | refine qK ?_ | refine yL ?_ _));refine xD (cs:=#[.string ((zY l0 zX).f0),.bool ((zY l0 zX).f1),.int .i64 0,.slice none 0 0,.slice none 0 0,.slice none 0 0]) ?_ 2 _ rfl;(with_reducible repeat (first | refine vQ ?_ _ | refine qK ?_ | refine yL ?_ _));refine xD (cs:=#[.string ((zY l0 zX).f0),.bool false,.int .i64 0,.slice none 0 0,.slice none 0 0,.slice none 0 0]) ?_ 1 _ rfl;(with_reducible repeat (first | refine vQ ?_ _ | refine qK ?_ | refine yL ?_ _));refine xD (cs:=#[.string (⟨#[]⟩:ByteArray),.bool false,.int .i64 0,.slice none 0 0,.slice none 0 0,.slice none 0 0]) ?_ 0 _ rfl;(with_reducible repeat (first | refine vQ ?_ _ | refine qK ?_ | refine yL ?_ _));exact yH.out⟩,⟨zH HB.out⟩⟩
     case round =>
      clear H'
      try clear c2
      try clear Ku
      try clear c3
      try clear Zh
      try clear KP
      try clear KR
      try clear KS
      try clear Qe
      try clear Qf
      try clear Qg
      try clear KT
      try clear KU
      try clear K8
      try clear VU
      try clear V3
      try clear V4
      try clear Wz
      try clear Wq
      try clear Wx
      try clear V5
      try clear V6
      try clear V7
      try clear zj8
      try clear zvz
      try clear zvx
      try clear zj9
      try clear zvq
      try clear zvj
      obtain ⟨jl,jD,jM,rfl,HA,QJ,uI,vX,yH,HB⟩:=hrel
      cases gk with
      | zero=>exact absurd HA.out (by simp [zh.l1])
      | succ k2 =>
       have H:=HA.out
       clear HA
       simp only [zh.l1] at H
       by_cases c12:0 ≤ zX
       ·rw [if_pos c12] at H
        have ziH:decide (0 ≤ zX) = true:=decide_eq_true c12
        clear c12
        by_cases c13:zX < (l0.length:Int)
        ·rw [if_pos c13] at H
         have ziI:decide (zX < (l0.length:Int)) = true:=decide_eq_true c13
         clear c13
         by_cases c14:jl < (((zY l0 zX).f3).length:Int)
         ·rw [if_pos c14] at H
          have zkA:decide (jl < (((zY l0 zX).f3).length:Int)) = true:=decide_eq_true c14
          clear c14
          by_cases c15:0 ≤ jl
          ·rw [if_pos c15] at H
           have ziL:decide (0 ≤ jl) = true:=decide_eq_true c15
           clear c15
           by_cases c16:jD.length < 5864062014805
           ·rw [if_pos c16] at H
            have ziM:=zx.mk c16
            clear c16
            obtain ⟨zyQ,zxE⟩:∃ y_:List (uX),y_ = (jD ++ [(⟨(qF ((zY l0 zX).f3) jl).f0,(qF ((zY l0 zX).f3) jl).f1⟩:uX)]):=⟨_,rfl⟩
            replace H:(zh.l1 k2 l0 qQ zX (wrap64 (jl + 1)) ((zY l0 zX).f0) ((zY l0 zX).f1) ((zY l0 zX).f2) zyQ) = some r:=by first | (rw [zxE];with_reducible exact H) | (have jC:=(Option.bind_some _ _).symm.trans H;rw [zxE];with_reducible exact jC) | (have jC:=(Option.bind_some _ _).symm.trans H;with_reducible exact jC) | with_reducible exact H | (rw [zxE];exact H) | exact H
            have ziN:=zx.mk zxE
            clear zxE
            have H':=zx.mk H
            clear H
            have lK:0 ≤ (zX:Int):=of_decide_eq_true yE
            have lY:zX < (l0.length:Int):=of_decide_eq_true yE
            obtain ⟨zVD,zgn,zgo,zgp,zgr,zgs,zgt,e254,V8,V9,Uz,Uq,Ux,Uj,rO,rR,r9,sj,sw,sZ⟩:=wP jW.out zX lK lY
            obtain rfl:yF = zVD:=(by injection e254)
            replace V8:=(HB.out.cell (wb w _ V8)).trans V8
            replace V9:=(HB.out.cell (wb w _ V9)).trans V9
            replace Uz:=(HB.out.cell (wb w _ Uz)).trans Uz
            replace Uq:=(HB.out.cell (wb w _ Uq)).trans Uq
            replace Ux:=(HB.out.cell (wb w _ Ux)).trans Ux
            replace Uj:=(HB.out.cell (wb w _ Uj)).trans Uj
            have zdT:=zx.mk rR
            have zdU:=zx.mk rO
            clear rR rO
            have zd0:=zx.mk sj
            have zd1:=zx.mk r9
            clear sj r9
            have zd2:=zx.mk sZ
            have zd3:=zx.mk sw
            clear sZ sw
            replace lK:=eq_true lK
            replace lY:=eq_true lY
            try go_wp2
            have zJ:=zx.mk (Kd.qR uI.out)
            have zK:=zx.mk (Kd.vB vX.out)
            have zi:=zx.mk (qK yH.out)
            have zL:=zx.mk (zT HB.out)
            clear uI vX yH HB
            have uI:=zJ
            have vX:=zK
            have yH:=zi
            have HB:=zL
            clear zJ zK zi zL
            have zyX:0 ≤ (zX:Int):=of_decide_eq_true yE
            have zyJ:zX < (l0.length:Int):=of_decide_eq_true yE
            obtain ⟨ziO,zsN,zYI,zYL,zYM,zYN,zYO,zng,bC,Wj,Wv,Uv,Uk,Uy,zZg,zZh,zZi,zZl,zZm,zZn⟩:=wP jW.out zX zyX zyJ
            have Uw:=Uy
            have UZ:=Uk
            have UQ:=Uv
            have UJ:=Wv
            have UK:=Wj
            have UY:=bC
            obtain rfl:yF = ziO:=(by injection zng)
            replace bC:=(HB.out.cell (wb w _ bC)).trans bC
            replace Wj:=(HB.out.cell (wb w _ Wj)).trans Wj
            replace Wv:=(HB.out.cell (wb w _ Wv)).trans Wv
            replace Uv:=(HB.out.cell (wb w _ Uv)).trans Uv
            replace Uk:=(HB.out.cell (wb w _ Uk)).trans Uk
            replace Uy:=(HB.out.cell (wb w _ Uy)).trans Uy
            have zZo:=zx.mk zZh
            have zpu:=zx.mk zZg
            clear zZh zZg
            have zd4:=zx.mk zZl
            have zpA:=zx.mk zZi
            clear zZl zZi
            have zd5:=zx.mk zZn
            have zpB:=zx.mk zZm
            clear zZn zZm
            replace zyX:=eq_true zyX
            replace zyJ:=eq_true zyJ
            have zyV:0 ≤ (jl:Int):=of_decide_eq_true yE
            have zyK:jl < (((zY l0 zX).f3).length:Int):=of_decide_eq_true yE
            obtain ⟨mh,znh,Wy,Ww⟩:=Ko zZo.out jl zyV zyK
            have UW:=Ww
            have Ua:=Wy
            cases znh
            replace Wy:=(HB.out.cell (wb w _ Wy)).trans Wy
            replace Ww:=(HB.out.cell (wb w _ Ww)).trans Ww
            replace zyV:=eq_true zyV
            replace zyK:=eq_true zyK
            have zyY:0 ≤ (zX:Int):=of_decide_eq_true yE
            have zyW:zX < (l0.length:Int):=of_decide_eq_true yE
            obtain ⟨ziP,zsO,zsP,zsR,zsS,zsU,zs3,e257,WZ,WQ,WX,Ub,Uc,Ud,zZp,zZr,zZs,zZt,zZu,zZA⟩:=wP jW.out zX zyY zyW
            have Ue:=Ud
            have Uf:=Uc
            have Ug:=Ub
            have Uh:=WX
            have Ui:=WQ
            have Ul:=WZ
            obtain rfl:yF = ziP:=(by injection e257)
            replace WZ:=(HB.out.cell (wb w _ WZ)).trans WZ
            replace WQ:=(HB.out.cell (wb w _ WQ)).trans WQ
            replace WX:=(HB.out.cell (wb w _ WX)).trans WX
            replace Ub:=(HB.out.cell (wb w _ Ub)).trans Ub
            replace Uc:=(HB.out.cell (wb w _ Uc)).trans Uc
            replace Ud:=(HB.out.cell (wb w _ Ud)).trans Ud
            have zZB:=zx.mk zZr
            have zpC:=zx.mk zZp
            clear zZr zZp
            have zd6:=zx.mk zZt
            have zpD:=zx.mk zZs
            clear zZt zZs
            have zd7:=zx.mk zZA
            have zpE:=zx.mk zZu
            clear zZA zZu
            replace zyY:=eq_true zyY
            replace zyW:=eq_true zyW
            have xH:=Option.some.inj (Uv.symm.trans Ub)
            injection xH with xH kY kW
            subst xH
            subst kW
            clear kY
            have xH:=Option.some.inj (Uk.symm.trans Uc)
            injection xH with xH kY kW
            subst xH
            subst kW
            clear kY
            have xH:=Option.some.inj (Uy.symm.trans Ud)
            injection xH with xH kY kW
            subst xH
            subst kW
            clear kY
            have zya:0 ≤ (jl:Int):=of_decide_eq_true yE
            have zyb:jl < (((zY l0 zX).f3).length:Int):=of_decide_eq_true yE
            obtain ⟨zt4,e258,WJ,WV⟩:=Ko zZB.out jl zya zyb
            have Um:=WV
            have Un:=WJ
            cases e258
            replace WJ:=(HB.out.cell (wb w _ WJ)).trans WJ
            replace WV:=(HB.out.cell (wb w _ WV)).trans WV
            replace zya:=eq_true zya
            replace zyb:=eq_true zyb
            refine jy (n:=25) (S:=fun w'=>w'.cell? ⟨yx,0,none⟩ = some (.string ((zY l0 zX).f0)) ∧ w'.cell? ⟨yx,1,none⟩ = some (.bool ((zY l0 zX).f1)) ∧ w'.cell? ⟨yx,2,none⟩ = some (.int .i64 ((zY l0 zX).f2)) ∧ w'.cell? ⟨yx,3,none⟩ = some (jM) ∧ w'.cell? ⟨yx,4,none⟩ = some (.slice none 0 0) ∧ w'.cell? ⟨yx,5,none⟩ = some (.slice none 0 0) ∧ w'.cell? (yF.add ((zX).toNat * 6)) = some (.string ((zY l0 zX).f0)) ∧ w'.cell? ⟨(yF.add ((zX).toNat * 6)).block,(yF.add ((zX).toNat * 6)).off + 1,none⟩ = some (.bool ((zY l0 zX).f1)) ∧ w'.cell? ⟨(yF.add ((zX).toNat * 6)).block,(yF.add ((zX).toNat * 6)).off + 2,none⟩ = some (.int .i64 ((zY l0 zX).f2)) ∧ w'.cell? ⟨(yF.add ((zX).toNat * 6)).block,(yF.add ((zX).toNat * 6)).off + 3,none⟩ = some (.slice (some mh) ((zY l0 zX).f3).length zYI) ∧ w'.cell? ⟨(yF.add ((zX).toNat * 6)).block,(yF.add ((zX).toNat * 6)).off + 4,none⟩ = some (.slice zYL ((zY l0 zX).f4).length zYM) ∧ w'.cell? ⟨(yF.add ((zX).toNat * 6)).block,(yF.add ((zX).toNat * 6)).off + 5,none⟩ = some (.slice zYN ((zY l0 zX).f5).length zYO) ∧ w'.cell? (mh.add ((jl).toNat * 2)) = some (.string ((qF ((zY l0 zX).f3) jl).f0)) ∧ w'.cell? ⟨(mh.add ((jl).toNat * 2)).block,(mh.add ((jl).toNat * 2)).off + 1,none⟩ = some (.int .i64 ((qF ((zY l0 zX).f3) jl).f1)) ∧ w'.cell? (yF.add ((zX).toNat * 6)) = some (.string ((zY l0 zX).f0)) ∧ w'.cell? ⟨(yF.add ((zX).toNat * 6)).block,(yF.add ((zX).toNat * 6)).off + 1,none⟩ = some (.bool ((zY l0 zX).f1)) ∧ w'.cell? ⟨(yF.add ((zX).toNat * 6)).block,(yF.add ((zX).toNat * 6)).off + 2,none⟩ = some (.int .i64 ((zY l0 zX).f2)) ∧ w'.cell? ⟨(yF.add ((zX).toNat * 6)).block,(yF.add ((zX).toNat * 6)).off + 3,none⟩ = some (.slice (some mh) ((zY l0 zX).f3).length zYI) ∧ w'.cell? ⟨(yF.add ((zX).toNat * 6)).block,(yF.add ((zX).toNat * 6)).off + 4,none⟩ = some (.slice zYL ((zY l0 zX).f4).length zYM) ∧ w'.cell? ⟨(yF.add ((zX).toNat * 6)).block,(yF.add ((zX).toNat * 6)).off + 5,none⟩ = some (.slice zYN ((zY l0 zX).f5).length zYO) ∧ w'.cell? (mh.add ((jl).toNat * 2)) = some (.string ((qF ((zY l0 zX).f3) jl).f0)) ∧ w'.cell? ⟨(mh.add ((jl).toNat * 2)).block,(mh.add ((jl).toNat * 2)).off + 1,none⟩ = some (.int .i64 ((qF ((zY l0 zX).f3) jl).f1))) (ds:=[24]) #[false,false,false,false,false,false,false,false,false,false,false,false,false,false,false,false,false,false,false,false,false,false,false,false,false] (by kernel_rfl) rfl rfl ⟨zZ yH 0,zZ yH 1,zZ yH 2,zZ yH 3,zZ yH 4,zZ yH 5,((HB.out.cell (wb w _ UY)).trans UY),((HB.out.cell (wb w _ UK)).trans UK),((HB.out.cell (wb w _ UJ)).trans UJ),((HB.out.cell (wb w _ UQ)).trans UQ),((HB.out.cell (wb w _ UZ)).trans UZ),((HB.out.cell (wb w _ Uw)).trans Uw),((HB.out.cell (wb w _ Ua)).trans Ua),((HB.out.cell (wb w _ UW)).trans UW),((HB.out.cell (wb w _ Ul)).trans Ul),((HB.out.cell (wb w _ Ui)).trans Ui),((HB.out.cell (wb w _ Uh)).trans Uh),((HB.out.cell (wb w _ Ug)).trans Ug),((HB.out.cell (wb w _ Uf)).trans Uf),((HB.out.cell (wb w _ Ue)).trans Ue),((HB.out.cell (wb w _ Un)).trans Un),((HB.out.cell (wb w _ Um)).trans Um)⟩ (fun hHeld=>?_);refine uZ zh.zar zh.zVC (fun za vC=>?_)
            generalize wr.drew = VQ at uI vX yH HB zZo zd4 zd5 zZB zd6 zd7 bC Wj Wv Uv Uk Uy Wy Ww WZ WQ WX Ub Uc Ud WJ WV hHeld ⊢
            refine yQ 0 (some 41) za ?_
            refine yQ 2 (some 43) za ?_
            refine yQ 3 (some 44) za ?_
            refine yQ 4 (some 45) za ?_
            refine yQ 5 (some 46) za ?_
            refine yQ 7 (some 48) za ?_
            refine yQ 11 (some 52) za ?_
            refine yQ 12 (some 53) za ?_
            refine yQ 13 (some 54) za ?_
            refine yQ 14 (some 55) za ?_
            refine yQ 16 (some 57) za ?_
            refine jg 1 (some 42) za vC hHeld ?_
            refine jg 6 (some 47) za vC hHeld ?_
            refine yQ 8 (some 49) za ?_
            refine yQ 9 (some 50) za ?_
            refine jg 10 (some 51) za vC hHeld ?_
            refine jg 15 (some 56) za vC hHeld ?_
            refine yQ 17 (some 58) za ?_
            refine yQ 18 (some 59) za ?_
            refine jg 19 (some 60) za vC hHeld ?_
            refine yQ 20 (some 61) za ?_
            refine wZ 21 (some 62) za (fun K hK=>?_)
            refine vaS ?_
            refine hK.out _ _ ⟨(zQ (yL yH.out _) 0).trans rfl,(zQ (yL yH.out _) 1).trans rfl,(zQ (yL yH.out _) 2).trans rfl,(zQ (yL yH.out _) 3).trans rfl,(zQ (yL yH.out _) 4).trans rfl,(zQ (yL yH.out _) 5).trans rfl,(World.cell?_alloc_lt _ _ _ (wb _ _ (((HB.out.cell (wb w _ UY)).trans UY)))).trans (((HB.out.cell (wb w _ UY)).trans UY)),(World.cell?_alloc_lt _ _ _ (wb _ _ (((HB.out.cell (wb w _ UK)).trans UK)))).trans (((HB.out.cell (wb w _ UK)).trans UK)),(World.cell?_alloc_lt _ _ _ (wb _ _ (((HB.out.cell (wb w _ UJ)).trans UJ)))).trans (((HB.out.cell (wb w _ UJ)).trans UJ)),(World.cell?_alloc_lt _ _ _ (wb _ _ (((HB.out.cell (wb w _ UQ)).trans UQ)))).trans (((HB.out.cell (wb w _ UQ)).trans UQ)),(World.cell?_alloc_lt _ _ _ (wb _ _ (((HB.out.cell (wb w _ UZ)).trans UZ)))).trans (((HB.out.cell (wb w _ UZ)).trans UZ)),(World.cell?_alloc_lt _ _ _ (wb _ _ (((HB.out.cell (wb w _ Uw)).trans Uw)))).trans (((HB.out.cell (wb w _ Uw)).trans Uw)),(World.cell?_alloc_lt _ _ _ (wb _ _ (((HB.out.cell (wb w _ Ua)).trans Ua)))).trans (((HB.out.cell (wb w _ Ua)).trans Ua)),(World.cell?_alloc_lt _ _ _ (wb _ _ (((HB.out.cell (wb w _ UW)).trans UW)))).trans (((HB.out.cell (wb w _ UW)).trans UW)),(World.cell?_alloc_lt _ _ _ (wb _ _ (((HB.out.cell (wb w _ Ul)).trans Ul)))).trans (((HB.out.cell (wb w _ Ul)).trans Ul)),(World.cell?_alloc_lt _ _ _ (wb _ _ (((HB.out.cell (wb w _ Ui)).trans Ui)))).trans (((HB.out.cell (wb w _ Ui)).trans Ui)),(World.cell?_alloc_lt _ _ _ (wb _ _ (((HB.out.cell (wb w _ Uh)).trans Uh)))).trans (((HB.out.cell (wb w _ Uh)).trans Uh)),(World.cell?_alloc_lt _ _ _ (wb _ _ (((HB.out.cell (wb w _ Ug)).trans Ug)))).trans (((HB.out.cell (wb w _ Ug)).trans Ug)),(World.cell?_alloc_lt _ _ _ (wb _ _ (((HB.out.cell (wb w _ Uf)).trans Uf)))).trans (((HB.out.cell (wb w _ Uf)).trans Uf)),(World.cell?_alloc_lt _ _ _ (wb _ _ (((HB.out.cell (wb w _ Ue)).trans Ue)))).trans (((HB.out.cell (wb w _ Ue)).trans Ue)),(World.cell?_alloc_lt _ _ _ (wb _ _ (((HB.out.cell (wb w _ Un)).trans Un)))).trans (((HB.out.cell (wb w _ Un)).trans Un)),(World.cell?_alloc_lt _ _ _ (wb _ _ (((HB.out.cell (wb w _ Um)).trans Um)))).trans (((HB.out.cell (wb w _ Um)).trans Um))⟩ (fun hHeld=>?_)
            clear hK K
            refine wY (some 62) ?_
            refine wZ 22 (some 63) za (fun K hK=>?_)
            refine Kd.Zu YK (w0:=w) w.heap.size (by rfl) (.tmp 42) (.tmp 62) 97 106 (.agg #[(.string ⟨#[]⟩),(.int .i64 0)]) 24 rfl Tryz.underlying97 zdj rfl (by decide) (by omega) jM jD (⟨(qF ((zY l0 zX).f3) jl).f0,(qF ((zY l0 zX).f3) jl).f1⟩:uX) [.string ((qF ((zY l0 zX).f3) jl).f0),.int .i64 ((qF ((zY l0 zX).f3) jl).f1)] (fun _=>True) (fun _=>False) rfl rfl ?aP (fun _ hk=>hk.elim) ?aF ?aO ?aB ?aS ?aL ?_
            (case aP=>exact zWU _ _ _ (⟨(qF ((zY l0 zX).f3) jl).f0,(qF ((zY l0 zX).f3) jl).f1⟩:uX))
            (case aB=>exact (zH HB.out))
            (case aF=>exact (fun _ _=>trivial))
            (case aO=>exact (qp vX.out))
            (case aS=>exact (ze (zH HB.out)))
            (case aL=>have:=ziM.out;omega)
            intro zu8 gK ho hb hg hat
            rw [← ziN.out] at ho
            have zJ:=zx.mk (Kd.zjY (ok:=(fun k_=>k_ ≠ yx)) (by (with_reducible repeat (first | apply Kd.vK | apply Kd.vY | apply Kd.qR));exact Kd.kD uI.out (fun _ hk=>⟨hk.2,hk.1⟩)) hg hat)
            have zK:=zx.mk (uO (g:=yx) (o:=.cells #[.string ((zY l0 zX).f0),.bool ((zY l0 zX).f1),.int .i64 ((zY l0 zX).f2),jM,.slice none 0 0,.slice none 0 0] 101 (0,0)) (qh yH.out) hg (Kd.Vz vX.out yH.out (by decide)))
            have zi:=zx.mk (hb)
            have zL:=zx.mk (ho)
            clear uI yH HB vX
            have uI:=zJ
            have yH:=zK
            have HB:=zi
            have zcl:=zL
            clear zJ zK zi zL ho hb hg hat
            obtain ⟨zyc,zyd,zVE⟩:=Kd.xK zcl.out
            (first | subst zVE | (injection zVE with jP ZJ jR;have ZV:=jP.symm;have ZK:=jR.symm;clear jP ZJ jR;subst ZV;subst ZK))
            refine hK.out _ _ ⟨zZ yH 0,zZ yH 1,zZ yH 2,zZ yH 3,zZ yH 4,zZ yH 5,((HB.out.cell (wb w _ UY)).trans UY),((HB.out.cell (wb w _ UK)).trans UK),((HB.out.cell (wb w _ UJ)).trans UJ),((HB.out.cell (wb w _ UQ)).trans UQ),((HB.out.cell (wb w _ UZ)).trans UZ),((HB.out.cell (wb w _ Uw)).trans Uw),((HB.out.cell (wb w _ Ua)).trans Ua),((HB.out.cell (wb w _ UW)).trans UW),((HB.out.cell (wb w _ Ul)).trans Ul),((HB.out.cell (wb w _ Ui)).trans Ui),((HB.out.cell (wb w _ Uh)).trans Uh),((HB.out.cell (wb w _ Ug)).trans Ug),((HB.out.cell (wb w _ Uf)).trans Uf),((HB.out.cell (wb w _ Ue)).trans Ue),((HB.out.cell (wb w _ Un)).trans Un),((HB.out.cell (wb w _ Um)).trans Um)⟩ (fun hHeld=>?_)
            clear hK K
            refine wY (some 63) ?_
            refine yQ 23 (some 64) za ?_
            refine zzi (i:=24) (N:=none) #[true,true,true,true,true,true,true,true,true,true,true,true,true,true,true,true,true,true,true,true,true,true,true,true,true] rfl rfl (pO za.out (by kernel_rfl)) (by decide) (fun K hK=>?_)
            have zu9:gK.cell? ⟨yx,3,none⟩ = some (jM):=zZ yH 3
            have zt5:=zy yH.out 3
            refine iN (w1:=?_) (by rfl) rfl ?_ ?_
            rotate_left
            ·go_simp
             rfl
            refine hK.out _ _ ?_
            clear hK K
            refine xP (qH za.out (by kernel_rfl)) ?_
            try go_wp2
            go_roundg k2
            case measure=>have:=uK.out;have:=QJ.out;omega
            case rel=>exact ⟨(wrap64 (jl + 1)),(zyQ),(.slice zyc zyQ.length zyd),(by first | rfl | (simp;done) | (simp [*];done)),H',⟨by have:=uK.out;have:=QJ.out;omega⟩,⟨by (with_reducible repeat (first | apply Kd.vK | apply Kd.vY | apply Kd.qR));exact Kd.kD (Kd.Yb (p:=⟨yx,3,none⟩) (Kd.kD uI.out (fun k_ hk=>(⟨hk,hk.1⟩:_ ∧ k_ ≠ yx))) (fun _ hk=>hk.2) (.slice zyc zyQ.length zyd)) (fun _ hk=>⟨hk.1.2,hk.1.1⟩)⟩,⟨by (with_reducible repeat (first | apply Kd.Z5 | apply Kd.Z6 | apply Kd.vB));exact Kd.uW (Kd.ZH (p:=⟨yx,3,none⟩) (Kd.Zj zcl.out yH.out (by decide)) (fun _ hk=>hk.2) (.slice zyc zyQ.length zyd)) (fun _ hk=>trivial)⟩,⟨by (with_reducible repeat (first | refine vQ ?_ _ | refine qK ?_ | refine yL ?_ _));refine xD (cs:=#[.string ((zY l0 zX).f0),.bool ((zY l0 zX).f1),.int .i64 ((zY l0 zX).f2),jM,.slice none 0 0,.slice none 0 0]) ?_ 3 _ rfl;(with_reducible repeat (first | refine vQ ?_ _ | refine qK ?_ | refine yL ?_ _));exact yH.out⟩,⟨zH HB.out⟩⟩
           ·rw [if_neg c16] at H
            exact absurd H (by simp)
          ·rw [if_neg c15] at H
           exact absurd H (by simp)
         ·rw [if_neg c14] at H
          have zkA:decide (jl < (((zY l0 zX).f3).length:Int)) = false:=decide_eq_false c14
          clear c14
          have H':=zx.mk H
          clear H
          have lK:0 ≤ (zX:Int):=of_decide_eq_true yE
          have lY:zX < (l0.length:Int):=of_decide_eq_true yE
          obtain ⟨zVD,zgn,zgo,zgp,zgr,zgs,zgt,e254,V8,V9,Uz,Uq,Ux,Uj,rO,rR,r9,sj,sw,sZ⟩:=wP jW.out zX lK lY
          obtain rfl:yF = zVD:=(by injection e254)
          replace V8:=(HB.out.cell (wb w _ V8)).trans V8
          replace V9:=(HB.out.cell (wb w _ V9)).trans V9
          replace Uz:=(HB.out.cell (wb w _ Uz)).trans Uz
          replace Uq:=(HB.out.cell (wb w _ Uq)).trans Uq
          replace Ux:=(HB.out.cell (wb w _ Ux)).trans Ux
          replace Uj:=(HB.out.cell (wb w _ Uj)).trans Uj
          have zdT:=zx.mk rR
          have zdU:=zx.mk rO
          clear rR rO
          have zd0:=zx.mk sj
          have zd1:=zx.mk r9
          clear sj r9
          have zd2:=zx.mk sZ
          have zd3:=zx.mk sw
          clear sZ sw
          replace lK:=eq_true lK
          replace lY:=eq_true lY
          go_wp2
          go_loopg [7] k2 (fun kq v7 w'=>∃ (uh:Int) (kI:List (uo)) (pK:Value),v7 = .int .i64 uh ∧ zx (zh.l2 kq l0 qQ zX uh ((zY l0 zX).f0) ((zY l0 zX).f1) ((zY l0 zX).f2) jD kI = some r) ∧ zx (kq ≤ k2) ∧ zx (Kd.S J8 101 w' w.heap.size (fun k_=>some k_ ≠ (jM:Value).ownBlock ∧ some k_ ≠ (pK:Value).ownBlock ∧ k_ ≠ yx) u3 qQ) ∧ zx (Kd.R YK 106 w' w.heap.size (fun _=>True) jM jD) ∧ zx (Kd.R Yo 109 w' w.heap.size (fun _=>True) pK kI) ∧ zx (w'.heap[yx]? = some (.cells #[.string ((zY l0 zX).f0),.bool ((zY l0 zX).f1),.int .i64 ((zY l0 zX).f2),jM,pK,(.slice none 0 0)] 101 (0,0))) ∧ zx (Below w.heap.size w w'))
          case atStart=>exact ⟨(0),(([]:List (uo))),(.slice none 0 0),(by first | rfl | (simp;done) | (simp [*];done)),H',⟨Nat.le_refl _⟩,⟨by (with_reducible repeat (first | apply Kd.vK | apply Kd.vY | apply Kd.qR));exact Kd.kD uI.out (fun _ hk=>⟨hk.1,⟨(by simp [Value.ownBlock]),hk.2⟩⟩)⟩,⟨qp vX.out⟩,⟨by first | exact Kd.jw _ _ _ _ _ | exact Kd.Yc _ _ _ _ _ | exact Kd.Yd _ _ _ _ _ | exact Kd.Ya _ _ _ _ _ | exact Kd.YQ _ _ _ _ _⟩,⟨qh yH.out⟩,⟨zH HB.out⟩⟩
          case round =>
           clear H'
           try clear c2
           try clear Ku
           try clear c3
           try clear Zh
           try clear c12
           try clear ziH
           try clear c13
           try clear ziI
           try clear c14
           try clear zkA
           try clear c15
           try clear ziL
           try clear c16
           try clear KP
           try clear KR
           try clear KS
           try clear Qe
           try clear Qf
           try clear Qg
           try clear KT
           try clear KU
           try clear K8
           try clear VU
           try clear V3
           try clear V4
           try clear Wz
           try clear Wq
           try clear Wx
           try clear V5
           try clear V6
           try clear V7
           try clear V8
           try clear V9
           try clear Uz
           try clear Uq
           try clear Ux
           try clear Uj
           try clear bC
           try clear Wj
           try clear Wv
           try clear Uv
           try clear Uk
           try clear Uy
           try clear Wy
           try clear Ww
           try clear WZ
           try clear WQ
           try clear WX
           try clear Ub
           try clear Uc
           try clear Ud
           try clear WJ
           try clear WV
           try clear zj8
           try clear zvz
           try clear zvx
           try clear lK
           try clear zyX
           try clear zyV
           try clear zyY
           try clear zya
           try clear zj9
           try clear zvq
           try clear zvj
           try clear lY
           try clear zyJ
           try clear zyK
           try clear zyW
           try clear zyb
           obtain ⟨uh,kI,pK,rfl,HA,dR,uI,vX,uP,yH,HB⟩:=hrel
           cases gk with
           | zero=>exact absurd HA.out (by simp [zh.l2])
           | succ k3 =>
            have H:=HA.out
            clear HA
            simp only [zh.l2] at H
            by_cases c21:0 ≤ zX
            ·rw [if_pos c21] at H
             have zVF:decide (0 ≤ zX) = true:=decide_eq_true c21
             clear c21
             by_cases ow:zX < (l0.length:Int)
             ·rw [if_pos ow] at H
              have ziR:decide (zX < (l0.length:Int)) = true:=decide_eq_true ow
              clear ow
              by_cases c23:uh < (((zY l0 zX).f4).length:Int)
              ·rw [if_pos c23] at H
               have zxF:decide (uh < (((zY l0 zX).f4).length:Int)) = true:=decide_eq_true c23
               clear c23
               by_cases c24:0 ≤ uh
               ·rw [if_pos c24] at H
                have zVG:decide (0 ≤ uh) = true:=decide_eq_true c24
                clear c24
                by_cases c25:kI.length < 2932031007402
                ·rw [if_pos c25] at H
                 have ziS:=zx.mk c25
                 clear c25
                 obtain ⟨zvv,zxG⟩:∃ y_:List (uo),y_ = (kI ++ [(⟨(q9 ((zY l0 zX).f4) uh).f0,(q9 ((zY l0 zX).f4) uh).f1,(q9 ((zY l0 zX).f4) uh).f2⟩:uo)]):=⟨_,rfl⟩
                 replace H:(zh.l2 k3 l0 qQ zX (wrap64 (uh + 1)) ((zY l0 zX).f0) ((zY l0 zX).f1) ((zY l0 zX).f2) jD zvv) = some r:=by first | (rw [zxG];with_reducible exact H) | (have jC:=(Option.bind_some _ _).symm.trans H;rw [zxG];with_reducible exact jC) | (have jC:=(Option.bind_some _ _).symm.trans H;with_reducible exact jC) | with_reducible exact H | (rw [zxG];exact H) | exact H
                 have ziT:=zx.mk zxG
                 clear zxG
                 have H':=zx.mk H
                 clear H
                 have oN:0 ≤ (zX:Int):=of_decide_eq_true yE
                 have oO:zX < (l0.length:Int):=of_decide_eq_true yE
                 obtain ⟨zVH,zgu,zgA,zgB,zgC,zgD,zgE,e262,Uo,Ur,Us,Ut,Uu,UA,sQ,sJ,sV,sK,sW,su⟩:=wP jW.out zX oN oO
                 obtain rfl:yF = zVH:=(by injection e262)
                 replace Uo:=(HB.out.cell (wb w _ Uo)).trans Uo
                 replace Ur:=(HB.out.cell (wb w _ Ur)).trans Ur
                 replace Us:=(HB.out.cell (wb w _ Us)).trans Us
                 replace Ut:=(HB.out.cell (wb w _ Ut)).trans Ut
                 replace Uu:=(HB.out.cell (wb w _ Uu)).trans Uu
                 replace UA:=(HB.out.cell (wb w _ UA)).trans UA
                 have zd8:=zx.mk sJ
                 have zd9:=zx.mk sQ
                 clear sJ sQ
                 have zez:=zx.mk sK
                 have zeq:=zx.mk sV
                 clear sK sV
                 have zex:=zx.mk su
                 have zej:=zx.mk sW
                 clear su sW
                 replace oN:=eq_true oN
                 replace oO:=eq_true oO
                 try go_wp2
                 have zJ:=zx.mk (Kd.qR uI.out)
                 have zK:=zx.mk (Kd.vB vX.out)
                 have zi:=zx.mk (Kd.vB uP.out)
                 have zL:=zx.mk (qK yH.out)
                 have qz:=zx.mk (zT HB.out)
                 clear uI vX uP yH HB
                 have uI:=zJ
                 have vX:=zK
                 have uP:=zi
                 have yH:=zL
                 have HB:=qz
                 clear zJ zK zi zL qz
                 have zVI:0 ≤ (zX:Int):=of_decide_eq_true yE
                 have zVL:zX < (l0.length:Int):=of_decide_eq_true yE
                 obtain ⟨ziU,zye,zyf,zs4,zyg,zyh,zyi,zni,bD,bE,bF,UC,UD,UE,zZC,zZD,zZE,zZF,zZG,zZH⟩:=wP jW.out zX zVI zVL
                 have UF:=UE
                 have UG:=UD
                 have UH:=UC
                 have UL:=bF
                 have UM:=bE
                 have UN:=bD
                 obtain rfl:yF = ziU:=(by injection zni)
                 replace bD:=(HB.out.cell (wb w _ bD)).trans bD
                 replace bE:=(HB.out.cell (wb w _ bE)).trans bE
                 replace bF:=(HB.out.cell (wb w _ bF)).trans bF
                 replace UC:=(HB.out.cell (wb w _ UC)).trans UC
                 replace UD:=(HB.out.cell (wb w _ UD)).trans UD
                 replace UE:=(HB.out.cell (wb w _ UE)).trans UE
                 have zev:=zx.mk zZD
                 have zpF:=zx.mk zZC
                 clear zZD zZC
                 have zZI:=zx.mk zZF
                 have zpG:=zx.mk zZE
                 clear zZF zZE
                 have zek:=zx.mk zZH
                 have zpH:=zx.mk zZG
                 clear zZH zZG
                 replace zVI:=eq_true zVI
                 replace zVL:=eq_true zVL
                 have zVM:0 ≤ (uh:Int):=of_decide_eq_true yE
                 have zVN:uh < (((zY l0 zX).f4).length:Int):=of_decide_eq_true yE
                 obtain ⟨YX,e264,bG,bH,bI⟩:=bK zZI.out uh zVM zVN
                 have UO:=bI
                 have UR:=bH
                 have UU:=bG
                 cases e264
                 replace bG:=(HB.out.cell (wb w _ bG)).trans bG
                 replace bH:=(HB.out.cell (wb w _ bH)).trans bH
                 replace bI:=(HB.out.cell (wb w _ bI)).trans bI
                 replace zVM:=eq_true zVM
                 replace zVN:=eq_true zVN
                 have zVO:0 ≤ (zX:Int):=of_decide_eq_true yE
                 have zVP:zX < (l0.length:Int):=of_decide_eq_true yE
                 obtain ⟨zi0,zs5,zs6,zs7,zs8,zs9,ztz,znl,bL,bM,bN,WK,WY,WW,zZL,zZM,zZN,zZO,zZP,zZR⟩:=wP jW.out zX zVO zVP
                 have U0:=WW
                 have U1:=WY
                 have U2:=WK
                 have U3:=bN
                 have U4:=bM
                 have U5:=bL
                 obtain rfl:yF = zi0:=(by injection znl)
                 replace bL:=(HB.out.cell (wb w _ bL)).trans bL
                 replace bM:=(HB.out.cell (wb w _ bM)).trans bM
                 replace bN:=(HB.out.cell (wb w _ bN)).trans bN
                 replace WK:=(HB.out.cell (wb w _ WK)).trans WK
                 replace WY:=(HB.out.cell (wb w _ WY)).trans WY
                 replace WW:=(HB.out.cell (wb w _ WW)).trans WW
                 have zey:=zx.mk zZM
                 have zpI:=zx.mk zZL
                 clear zZM zZL
                 have zZS:=zx.mk zZO
                 have zpL:=zx.mk zZN
                 clear zZO zZN
                 have zew:=zx.mk zZR
                 have zpM:=zx.mk zZP
                 clear zZR zZP
                 replace zVO:=eq_true zVO
                 replace zVP:=eq_true zVP
                 have xH:=Option.some.inj (UC.symm.trans WK)
                 injection xH with xH kY kW
                 subst xH
                 subst kW
                 clear kY
                 have xH:=Option.some.inj (UD.symm.trans WY)
                 injection xH with xH kY kW
                 subst xH
                 subst kW
                 clear kY
                 have xH:=Option.some.inj (UE.symm.trans WW)
                 injection xH with xH kY kW
                 subst xH
                 subst kW
                 clear kY
                 have zVR:0 ≤ (uh:Int):=of_decide_eq_true yE
                 have zVS:uh < (((zY l0 zX).f4).length:Int):=of_decide_eq_true yE
                 obtain ⟨zt6,znm,bO,bP,bR⟩:=bK zZS.out uh zVR zVS
                 have U6:=bR
                 have U7:=bP
                 have U8:=bO
                 cases znm
                 replace bO:=(HB.out.cell (wb w _ bO)).trans bO
                 replace bP:=(HB.out.cell (wb w _ bP)).trans bP
                 replace bR:=(HB.out.cell (wb w _ bR)).trans bR
                 replace zVR:=eq_true zVR
                 replace zVS:=eq_true zVS
                 have zVT:0 ≤ (zX:Int):=of_decide_eq_true yE
                 have zVU:zX < (l0.length:Int):=of_decide_eq_true yE
                 obtain ⟨zi1,ztq,ztx,ztj,ztv,ztk,zty,e267,bS,bT,bU,Wd,Wh,Wi,zZT,zZU,zZ0,zZ1,zZ2,zZ3⟩:=wP jW.out zX zVT zVU
                 have U9:=Wi
                 have Jz:=Wh
                 have Jq:=Wd
                 have Jj:=bU
                 have Jv:=bT
                 have Jk:=bS
                 obtain rfl:yF = zi1:=(by injection e267)
                 replace bS:=(HB.out.cell (wb w _ bS)).trans bS
                 replace bT:=(HB.out.cell (wb w _ bT)).trans bT
                 replace bU:=(HB.out.cell (wb w _ bU)).trans bU
                 replace Wd:=(HB.out.cell (wb w _ Wd)).trans Wd
                 replace Wh:=(HB.out.cell (wb w _ Wh)).trans Wh
                 replace Wi:=(HB.out.cell (wb w _ Wi)).trans Wi
                 have zeZ:=zx.mk zZU
                 have zpN:=zx.mk zZT
                 clear zZU zZT
                 have zZ4:=zx.mk zZ1
                 have zpO:=zx.mk zZ0
                 clear zZ1 zZ0
                 have zeQ:=zx.mk zZ3
                 have zpP:=zx.mk zZ2
                 clear zZ3 zZ2
                 replace zVT:=eq_true zVT
                 replace zVU:=eq_true zVU
                 have xH:=Option.some.inj (UC.symm.trans Wd)
                 injection xH with xH kY kW
                 subst xH
                 subst kW
                 clear kY
                 have xH:=Option.some.inj (UD.symm.trans Wh)
                 injection xH with xH kY kW
                 subst xH
                 subst kW
                 clear kY
                 have xH:=Option.some.inj (UE.symm.trans Wi)
                 injection xH with xH kY kW
                 subst xH
                 subst kW
                 clear kY
                 have zV0:0 ≤ (uh:Int):=of_decide_eq_true yE
                 have zV1:uh < (((zY l0 zX).f4).length:Int):=of_decide_eq_true yE
                 obtain ⟨zt7,e268,cZ,cK,cB⟩:=bK zZ4.out uh zV0 zV1
                 have Jy:=cB
                 have Jw:=cK
                 have JZ:=cZ
                 cases e268
                 replace cZ:=(HB.out.cell (wb w _ cZ)).trans cZ
                 replace cK:=(HB.out.cell (wb w _ cK)).trans cK
                 replace cB:=(HB.out.cell (wb w _ cB)).trans cB
                 replace zV0:=eq_true zV0
                 replace zV1:=eq_true zV1
                 refine jy (n:=34) (S:=fun w'=>w'.cell? ⟨yx,0,none⟩ = some (.string ((zY l0 zX).f0)) ∧ w'.cell? ⟨yx,1,none⟩ = some (.bool ((zY l0 zX).f1)) ∧ w'.cell? ⟨yx,2,none⟩ = some (.int .i64 ((zY l0 zX).f2)) ∧ w'.cell? ⟨yx,3,none⟩ = some (jM) ∧ w'.cell? ⟨yx,4,none⟩ = some (pK) ∧ w'.cell? ⟨yx,5,none⟩ = some (.slice none 0 0) ∧ w'.cell? (yF.add ((zX).toNat * 6)) = some (.string ((zY l0 zX).f0)) ∧ w'.cell? ⟨(yF.add ((zX).toNat * 6)).block,(yF.add ((zX).toNat * 6)).off + 1,none⟩ = some (.bool ((zY l0 zX).f1)) ∧ w'.cell? ⟨(yF.add ((zX).toNat * 6)).block,(yF.add ((zX).toNat * 6)).off + 2,none⟩ = some (.int .i64 ((zY l0 zX).f2)) ∧ w'.cell? ⟨(yF.add ((zX).toNat * 6)).block,(yF.add ((zX).toNat * 6)).off + 3,none⟩ = some (.slice zye ((zY l0 zX).f3).length zyf) ∧ w'.cell? ⟨(yF.add ((zX).toNat * 6)).block,(yF.add ((zX).toNat * 6)).off + 4,none⟩ = some (.slice (some YX) ((zY l0 zX).f4).length zyg) ∧ w'.cell? ⟨(yF.add ((zX).toNat * 6)).block,(yF.add ((zX).toNat * 6)).off + 5,none⟩ = some (.slice zyh ((zY l0 zX).f5).length zyi) ∧ w'.cell? (YX.add ((uh).toNat * 3)) = some (.string ((q9 ((zY l0 zX).f4) uh).f0)) ∧ w'.cell? ⟨(YX.add ((uh).toNat * 3)).block,(YX.add ((uh).toNat * 3)).off + 1,none⟩ = some (.string ((q9 ((zY l0 zX).f4) uh).f1)) ∧ w'.cell? ⟨(YX.add ((uh).toNat * 3)).block,(YX.add ((uh).toNat * 3)).off + 2,none⟩ = some (.string ((q9 ((zY l0 zX).f4) uh).f2)) ∧ w'.cell? (yF.add ((zX).toNat * 6)) = some (.string ((zY l0 zX).f0)) ∧ w'.cell? ⟨(yF.add ((zX).toNat * 6)).block,(yF.add ((zX).toNat * 6)).off + 1,none⟩ = some (.bool ((zY l0 zX).f1)) ∧ w'.cell? ⟨(yF.add ((zX).toNat * 6)).block,(yF.add ((zX).toNat * 6)).off + 2,none⟩ = some (.int .i64 ((zY l0 zX).f2)) ∧ w'.cell? ⟨(yF.add ((zX).toNat * 6)).block,(yF.add ((zX).toNat * 6)).off + 3,none⟩ = some (.slice zye ((zY l0 zX).f3).length zyf) ∧ w'.cell? ⟨(yF.add ((zX).toNat * 6)).block,(yF.add ((zX).toNat * 6)).off + 4,none⟩ = some (.slice (some YX) ((zY l0 zX).f4).length zyg) ∧ w'.cell? ⟨(yF.add ((zX).toNat * 6)).block,(yF.add ((zX).toNat * 6)).off + 5,none⟩ = some (.slice zyh ((zY l0 zX).f5).length zyi) ∧ w'.cell? (YX.add ((uh).toNat * 3)) = some (.string ((q9 ((zY l0 zX).f4) uh).f0)) ∧ w'.cell? ⟨(YX.add ((uh).toNat * 3)).block,(YX.add ((uh).toNat * 3)).off + 1,none⟩ = some (.string ((q9 ((zY l0 zX).f4) uh).f1)) ∧ w'.cell? ⟨(YX.add ((uh).toNat * 3)).block,(YX.add ((uh).toNat * 3)).off + 2,none⟩ = some (.string ((q9 ((zY l0 zX).f4) uh).f2)) ∧ w'.cell? (yF.add ((zX).toNat * 6)) = some (.string ((zY l0 zX).f0)) ∧ w'.cell? ⟨(yF.add ((zX).toNat * 6)).block,(yF.add ((zX).toNat * 6)).off + 1,none⟩ = some (.bool ((zY l0 zX).f1)) ∧ w'.cell? ⟨(yF.add ((zX).toNat * 6)).block,(yF.add ((zX).toNat * 6)).off + 2,none⟩ = some (.int .i64 ((zY l0 zX).f2)) ∧ w'.cell? ⟨(yF.add ((zX).toNat * 6)).block,(yF.add ((zX).toNat * 6)).off + 3,none⟩ = some (.slice zye ((zY l0 zX).f3).length zyf) ∧ w'.cell? ⟨(yF.add ((zX).toNat * 6)).block,(yF.add ((zX).toNat * 6)).off + 4,none⟩ = some (.slice (some YX) ((zY l0 zX).f4).length zyg) ∧ w'.cell? ⟨(yF.add ((zX).toNat * 6)).block,(yF.add ((zX).toNat * 6)).off + 5,none⟩ = some (.slice zyh ((zY l0 zX).f5).length zyi) ∧ w'.cell? (YX.add ((uh).toNat * 3)) = some (.string ((q9 ((zY l0 zX).f4) uh).f0)) ∧ w'.cell? ⟨(YX.add ((uh).toNat * 3)).block,(YX.add ((uh).toNat * 3)).off + 1,none⟩ = some (.string ((q9 ((zY l0 zX).f4) uh).f1)) ∧ w'.cell? ⟨(YX.add ((uh).toNat * 3)).block,(YX.add ((uh).toNat * 3)).off + 2,none⟩ = some (.string ((q9 ((zY l0 zX).f4) uh).f2))) (ds:=[33]) #[false,false,false,false,false,false,false,false,false,false,false,false,false,false,false,false,false,false,false,false,false,false,false,false,false,false,false,false,false,false,false,false,false,false] (by kernel_rfl) rfl rfl ⟨zZ yH 0,zZ yH 1,zZ yH 2,zZ yH 3,zZ yH 4,zZ yH 5,((HB.out.cell (wb w _ UN)).trans UN),((HB.out.cell (wb w _ UM)).trans UM),((HB.out.cell (wb w _ UL)).trans UL),((HB.out.cell (wb w _ UH)).trans UH),((HB.out.cell (wb w _ UG)).trans UG),((HB.out.cell (wb w _ UF)).trans UF),((HB.out.cell (wb w _ UU)).trans UU),((HB.out.cell (wb w _ UR)).trans UR),((HB.out.cell (wb w _ UO)).trans UO),((HB.out.cell (wb w _ U5)).trans U5),((HB.out.cell (wb w _ U4)).trans U4),((HB.out.cell (wb w _ U3)).trans U3),((HB.out.cell (wb w _ U2)).trans U2),((HB.out.cell (wb w _ U1)).trans U1),((HB.out.cell (wb w _ U0)).trans U0),((HB.out.cell (wb w _ U8)).trans U8),((HB.out.cell (wb w _ U7)).trans U7),((HB.out.cell (wb w _ U6)).trans U6),((HB.out.cell (wb w _ Jk)).trans Jk),((HB.out.cell (wb w _ Jv)).trans Jv),((HB.out.cell (wb w _ Jj)).trans Jj),((HB.out.cell (wb w _ Jq)).trans Jq),((HB.out.cell (wb w _ Jz)).trans Jz),((HB.out.cell (wb w _ U9)).trans U9),((HB.out.cell (wb w _ JZ)).trans JZ),((HB.out.cell (wb w _ Jw)).trans Jw),((HB.out.cell (wb w _ Jy)).trans Jy)⟩ (fun hHeld=>?_);refine uZ zh.Kz zh.QZ (fun za vC=>?_)
                 generalize wr.drew = w26 at uI vX uP yH HB zev zZI zek zey zZS zew zeZ zZ4 zeQ bD bE bF UC UD UE bG bH bI bL bM bN WK WY WW bO bP bR bS bT bU Wd Wh Wi cZ cK cB hHeld ⊢
                 refine yQ 0 (some 75) za ?_
                 refine yQ 2 (some 77) za ?_
                 refine yQ 3 (some 78) za ?_
                 refine yQ 4 (some 79) za ?_
                 refine yQ 5 (some 80) za ?_
                 refine yQ 7 (some 82) za ?_
                 refine yQ 11 (some 86) za ?_
                 refine yQ 12 (some 87) za ?_
                 refine yQ 13 (some 88) za ?_
                 refine yQ 14 (some 89) za ?_
                 refine yQ 16 (some 91) za ?_
                 refine yQ 20 (some 95) za ?_
                 refine yQ 21 (some 96) za ?_
                 refine yQ 22 (some 97) za ?_
                 refine yQ 23 (some 98) za ?_
                 refine yQ 25 (some 100) za ?_
                 refine jg 1 (some 76) za vC hHeld ?_
                 refine jg 6 (some 81) za vC hHeld ?_
                 refine yQ 8 (some 83) za ?_
                 refine yQ 9 (some 84) za ?_
                 refine jg 10 (some 85) za vC hHeld ?_
                 refine jg 15 (some 90) za vC hHeld ?_
                 refine yQ 17 (some 92) za ?_
                 refine yQ 18 (some 93) za ?_
                 refine jg 19 (some 94) za vC hHeld ?_
                 refine jg 24 (some 99) za vC hHeld ?_
                 refine yQ 26 (some 101) za ?_
                 refine yQ 27 (some 102) za ?_
                 refine jg 28 (some 103) za vC hHeld ?_
                 refine yQ 29 (some 104) za ?_
                 refine wZ 30 (some 105) za (fun K hK=>?_)
                 refine vaS ?_
                 refine hK.out _ _ ⟨(zQ (yL yH.out _) 0).trans rfl,(zQ (yL yH.out _) 1).trans rfl,(zQ (yL yH.out _) 2).trans rfl,(zQ (yL yH.out _) 3).trans rfl,(zQ (yL yH.out _) 4).trans rfl,(zQ (yL yH.out _) 5).trans rfl,(World.cell?_alloc_lt _ _ _ (wb _ _ (((HB.out.cell (wb w _ UN)).trans UN)))).trans (((HB.out.cell (wb w _ UN)).trans UN)),(World.cell?_alloc_lt _ _ _ (wb _ _ (((HB.out.cell (wb w _ UM)).trans UM)))).trans (((HB.out.cell (wb w _ UM)).trans UM)),(World.cell?_alloc_lt _ _ _ (wb _ _ (((HB.out.cell (wb w _ UL)).trans UL)))).trans (((HB.out.cell (wb w _ UL)).trans UL)),(World.cell?_alloc_lt _ _ _ (wb _ _ (((HB.out.cell (wb w _ UH)).trans UH)))).trans (((HB.out.cell (wb w _ UH)).trans UH)),(World.cell?_alloc_lt _ _ _ (wb _ _ (((HB.out.cell (wb w _ UG)).trans UG)))).trans (((HB.out.cell (wb w _ UG)).trans UG)),(World.cell?_alloc_lt _ _ _ (wb _ _ (((HB.out.cell (wb w _ UF)).trans UF)))).trans (((HB.out.cell (wb w _ UF)).trans UF)),(World.cell?_alloc_lt _ _ _ (wb _ _ (((HB.out.cell (wb w _ UU)).trans UU)))).trans (((HB.out.cell (wb w _ UU)).trans UU)),(World.cell?_alloc_lt _ _ _ (wb _ _ (((HB.out.cell (wb w _ UR)).trans UR)))).trans (((HB.out.cell (wb w _ UR)).trans UR)),(World.cell?_alloc_lt _ _ _ (wb _ _ (((HB.out.cell (wb w _ UO)).trans UO)))).trans (((HB.out.cell (wb w _ UO)).trans UO)),(World.cell?_alloc_lt _ _ _ (wb _ _ (((HB.out.cell (wb w _ U5)).trans U5)))).trans (((HB.out.cell (wb w _ U5)).trans U5)),(World.cell?_alloc_lt _ _ _ (wb _ _ (((HB.out.cell (wb w _ U4)).trans U4)))).trans (((HB.out.cell (wb w _ U4)).trans U4)),(World.cell?_alloc_lt _ _ _ (wb _ _ (((HB.out.cell (wb w _ U3)).trans U3)))).trans (((HB.out.cell (wb w _ U3)).trans U3)),(World.cell?_alloc_lt _ _ _ (wb _ _ (((HB.out.cell (wb w _ U2)).trans U2)))).trans (((HB.out.cell (wb w _ U2)).trans U2)),(World.cell?_alloc_lt _ _ _ (wb _ _ (((HB.out.cell (wb w _ U1)).trans U1)))).trans (((HB.out.cell (wb w _ U1)).trans U1)),(World.cell?_alloc_lt _ _ _ (wb _ _ (((HB.out.cell (wb w _ U0)).trans U0)))).trans (((HB.out.cell (wb w _ U0)).trans U0)),(World.cell?_alloc_lt _ _ _ (wb _ _ (((HB.out.cell (wb w _ U8)).trans U8)))).trans (((HB.out.cell (wb w _ U8)).trans U8)),(World.cell?_alloc_lt _ _ _ (wb _ _ (((HB.out.cell (wb w _ U7)).trans U7)))).trans (((HB.out.cell (wb w _ U7)).trans U7)),(World.cell?_alloc_lt _ _ _ (wb _ _ (((HB.out.cell (wb w _ U6)).trans U6)))).trans (((HB.out.cell (wb w _ U6)).trans U6)),(World.cell?_alloc_lt _ _ _ (wb _ _ (((HB.out.cell (wb w _ Jk)).trans Jk)))).trans (((HB.out.cell (wb w _ Jk)).trans Jk)),(World.cell?_alloc_lt _ _ _ (wb _ _ (((HB.out.cell (wb w _ Jv)).trans Jv)))).trans (((HB.out.cell (wb w _ Jv)).trans Jv)),(World.cell?_alloc_lt _ _ _ (wb _ _ (((HB.out.cell (wb w _ Jj)).trans Jj)))).trans (((HB.out.cell (wb w _ Jj)).trans Jj)),(World.cell?_alloc_lt _ _ _ (wb _ _ (((HB.out.cell (wb w _ Jq)).trans Jq)))).trans (((HB.out.cell (wb w _ Jq)).trans Jq)),(World.cell?_alloc_lt _ _ _ (wb _ _ (((HB.out.cell (wb w _ Jz)).trans Jz)))).trans (((HB.out.cell (wb w _ Jz)).trans Jz)),(World.cell?_alloc_lt _ _ _ (wb _ _ (((HB.out.cell (wb w _ U9)).trans U9)))).trans (((HB.out.cell (wb w _ U9)).trans U9)),(World.cell?_alloc_lt _ _ _ (wb _ _ (((HB.out.cell (wb w _ JZ)).trans JZ)))).trans (((HB.out.cell (wb w _ JZ)).trans JZ)),(World.cell?_alloc_lt _ _ _ (wb _ _ (((HB.out.cell (wb w _ Jw)).trans Jw)))).trans (((HB.out.cell (wb w _ Jw)).trans Jw)),(World.cell?_alloc_lt _ _ _ (wb _ _ (((HB.out.cell (wb w _ Jy)).trans Jy)))).trans (((HB.out.cell (wb w _ Jy)).trans Jy))⟩ (fun hHeld=>?_)
                 clear hK K
                 refine wY (some 105) ?_
                 refine wZ 31 (some 106) za (fun K hK=>?_)
                 refine Kd.Zu Yo (w0:=w) w.heap.size (by rfl) (.tmp 76) (.tmp 105) 98 109 (.agg #[(.string ⟨#[]⟩),(.string ⟨#[]⟩),(.string ⟨#[]⟩)]) 48 rfl Tryz.underlying98 zdv rfl (by decide) (by omega) pK kI (⟨(q9 ((zY l0 zX).f4) uh).f0,(q9 ((zY l0 zX).f4) uh).f1,(q9 ((zY l0 zX).f4) uh).f2⟩:uo) [.string ((q9 ((zY l0 zX).f4) uh).f0),.string ((q9 ((zY l0 zX).f4) uh).f1),.string ((q9 ((zY l0 zX).f4) uh).f2)] (fun _=>True) (fun _=>False) rfl rfl ?aP (fun _ hk=>hk.elim) ?aF ?aO ?aB ?aS ?aL ?_
                 (case aP=>exact zW0 _ _ _ (⟨(q9 ((zY l0 zX).f4) uh).f0,(q9 ((zY l0 zX).f4) uh).f1,(q9 ((zY l0 zX).f4) uh).f2⟩:uo))
                 (case aB=>exact (zH HB.out))
                 (case aF=>exact (fun _ _=>trivial))
                 (case aO=>exact (qp uP.out))
                 (case aS=>exact (ze (zH HB.out)))
                 (case aL=>have:=ziS.out;omega)
                 intro zAz w27 ho hb hg hat
                 rw [← ziT.out] at ho
                 have zJ:=zx.mk (Kd.zjY (ok:=(fun k_=>some k_ ≠ (jM:Value).ownBlock ∧ k_ ≠ yx)) (by (with_reducible repeat (first | apply Kd.vK | apply Kd.vY | apply Kd.qR));exact Kd.kD uI.out (fun _ hk=>⟨⟨hk.1,hk.2.2⟩,hk.2.1⟩)) hg hat)
                 have zK:=zx.mk (Kd.Vo (qp vX.out) (Kd.nV (qp uP.out)) (by decide) hg)
                 have zi:=zx.mk (uO (g:=yx) (o:=.cells #[.string ((zY l0 zX).f0),.bool ((zY l0 zX).f1),.int .i64 ((zY l0 zX).f2),jM,pK,.slice none 0 0] 101 (0,0)) (qh yH.out) hg (Kd.Vz uP.out yH.out (by decide)))
                 have zL:=zx.mk (hb)
                 have qz:=zx.mk (ho)
                 clear uI vX yH HB uP
                 have uI:=zJ
                 have vX:=zK
                 have yH:=zi
                 have HB:=zL
                 have zcm:=qz
                 clear zJ zK zi zL qz ho hb hg hat
                 obtain ⟨zV2,zV3,zgF⟩:=Kd.xK zcm.out
                 (first | subst zgF | (injection zgF with jP ZJ jR;have ZV:=jP.symm;have ZK:=jR.symm;clear jP ZJ jR;subst ZV;subst ZK))
                 refine hK.out _ _ ⟨zZ yH 0,zZ yH 1,zZ yH 2,zZ yH 3,zZ yH 4,zZ yH 5,((HB.out.cell (wb w _ UN)).trans UN),((HB.out.cell (wb w _ UM)).trans UM),((HB.out.cell (wb w _ UL)).trans UL),((HB.out.cell (wb w _ UH)).trans UH),((HB.out.cell (wb w _ UG)).trans UG),((HB.out.cell (wb w _ UF)).trans UF),((HB.out.cell (wb w _ UU)).trans UU),((HB.out.cell (wb w _ UR)).trans UR),((HB.out.cell (wb w _ UO)).trans UO),((HB.out.cell (wb w _ U5)).trans U5),((HB.out.cell (wb w _ U4)).trans U4),((HB.out.cell (wb w _ U3)).trans U3),((HB.out.cell (wb w _ U2)).trans U2),((HB.out.cell (wb w _ U1)).trans U1),((HB.out.cell (wb w _ U0)).trans U0),((HB.out.cell (wb w _ U8)).trans U8),((HB.out.cell (wb w _ U7)).trans U7),((HB.out.cell (wb w _ U6)).trans U6),((HB.out.cell (wb w _ Jk)).trans Jk),((HB.out.cell (wb w _ Jv)).trans Jv),((HB.out.cell (wb w _ Jj)).trans Jj),((HB.out.cell (wb w _ Jq)).trans Jq),((HB.out.cell (wb w _ Jz)).trans Jz),((HB.out.cell (wb w _ U9)).trans U9),((HB.out.cell (wb w _ JZ)).trans JZ),((HB.out.cell (wb w _ Jw)).trans Jw),((HB.out.cell (wb w _ Jy)).trans Jy)⟩ (fun hHeld=>?_)
                 clear hK K
                 refine wY (some 106) ?_
                 refine yQ 32 (some 107) za ?_
                 refine zzi (i:=33) (N:=none) #[true,true,true,true,true,true,true,true,true,true,true,true,true,true,true,true,true,true,true,true,true,true,true,true,true,true,true,true,true,true,true,true,true,true] rfl rfl (pO za.out (by kernel_rfl)) (by decide) (fun K hK=>?_)
                 have zAq:w27.cell? ⟨yx,4,none⟩ = some (pK):=zZ yH 4
                 have zt8:=zy yH.out 4
                 refine iN (w1:=?_) (by rfl) rfl ?_ ?_
                 rotate_left
                 ·go_simp
                  rfl
                 refine hK.out _ _ ?_
                 clear hK K
                 refine xP (qH za.out (by kernel_rfl)) ?_
                 try go_wp2
                 go_roundg k3
                 case measure=>have:=uK.out;have:=QJ.out;have:=dR.out;omega
                 case rel=>exact ⟨(wrap64 (uh + 1)),(zvv),(.slice zV2 zvv.length zV3),(by first | rfl | (simp;done) | (simp [*];done)),H',⟨by have:=uK.out;have:=QJ.out;have:=dR.out;omega⟩,⟨by (with_reducible repeat (first | apply Kd.vK | apply Kd.vY | apply Kd.qR));exact Kd.kD (Kd.Yb (p:=⟨yx,4,none⟩) (Kd.kD uI.out (fun k_ hk=>(⟨hk,hk.1.2⟩:_ ∧ k_ ≠ yx))) (fun _ hk=>hk.2) (.slice zV2 zvv.length zV3)) (fun _ hk=>⟨hk.1.1.1,⟨hk.1.2,hk.1.1.2⟩⟩)⟩,⟨by (with_reducible repeat (first | apply Kd.Z5 | apply Kd.Z6 | apply Kd.vB));exact Kd.uW (Kd.ZH (p:=⟨yx,4,none⟩) (Kd.Zj vX.out yH.out (by decide)) (fun _ hk=>hk.2) (.slice zV2 zvv.length zV3)) (fun _ hk=>trivial)⟩,⟨by (with_reducible repeat (first | apply Kd.Z5 | apply Kd.Z6 | apply Kd.vB));exact Kd.uW (Kd.ZH (p:=⟨yx,4,none⟩) (Kd.Zj zcm.out yH.out (by decide)) (fun _ hk=>hk.2) (.slice zV2 zvv.length zV3)) (fun _ hk=>trivial)⟩,⟨by (with_reducible repeat (first | refine vQ ?_ _ | refine qK ?_ | refine yL ?_ _));refine xD (cs:=#[.string ((zY l0 zX).f0),.bool ((zY l0 zX).f1),.int .i64 ((zY l0 zX).f2),jM,pK,.slice none 0 0]) ?_ 4 _ rfl;(with_reducible repeat (first | refine vQ ?_ _ | refine qK ?_ | refine yL ?_ _));exact yH.out⟩,⟨zH HB.out⟩⟩
                ·rw [if_neg c25] at H
                 exact absurd H (by simp)
               ·rw [if_neg c24] at H
                exact absurd H (by simp)
              ·rw [if_neg c23] at H
               have zxF:decide (uh < (((zY l0 zX).f4).length:Int)) = false:=decide_eq_false c23
               clear c23
               have H':=zx.mk H
               clear H
               have oN:0 ≤ (zX:Int):=of_decide_eq_true yE
               have oO:zX < (l0.length:Int):=of_decide_eq_true yE
               obtain ⟨zVH,zgu,zgA,zgB,zgC,zgD,zgE,e262,Uo,Ur,Us,Ut,Uu,UA,sQ,sJ,sV,sK,sW,su⟩:=wP jW.out zX oN oO
               obtain rfl:yF = zVH:=(by injection e262)
               replace Uo:=(HB.out.cell (wb w _ Uo)).trans Uo
               replace Ur:=(HB.out.cell (wb w _ Ur)).trans Ur
               replace Us:=(HB.out.cell (wb w _ Us)).trans Us
               replace Ut:=(HB.out.cell (wb w _ Ut)).trans Ut
               replace Uu:=(HB.out.cell (wb w _ Uu)).trans Uu
               replace UA:=(HB.out.cell (wb w _ UA)).trans UA
               have zd8:=zx.mk sJ
               have zd9:=zx.mk sQ
               clear sJ sQ
               have zez:=zx.mk sK
               have zeq:=zx.mk sV
               clear sK sV
               have zex:=zx.mk su
               have zej:=zx.mk sW
               clear su sW
               replace oN:=eq_true oN
               replace oO:=eq_true oO
               go_wp2
               go_loopg [8] k3 (fun kq v8 w'=>∃ (um:Int) (pY:List (uG)) (X5:Value),v8 = .int .i64 um ∧ zx (zh.l3 kq l0 qQ zX um ((zY l0 zX).f0) ((zY l0 zX).f1) ((zY l0 zX).f2) jD kI pY = some r) ∧ zx (kq ≤ k3) ∧ zx (Kd.S J8 101 w' w.heap.size (fun k_=>some k_ ≠ (jM:Value).ownBlock ∧ some k_ ≠ (pK:Value).ownBlock ∧ some k_ ≠ (X5:Value).ownBlock ∧ k_ ≠ yx) u3 qQ) ∧ zx (Kd.R YK 106 w' w.heap.size (fun _=>True) jM jD) ∧ zx (Kd.R Yo 109 w' w.heap.size (fun _=>True) pK kI) ∧ zx (Kd.R Yu 112 w' w.heap.size (fun _=>True) X5 pY) ∧ zx (w'.heap[yx]? = some (.cells #[.string ((zY l0 zX).f0),.bool ((zY l0 zX).f1),.int .i64 ((zY l0 zX).f2),jM,pK,X5] 101 (0,0))) ∧ zx (Below w.heap.size w w'))
               case atStart=>exact ⟨(0),(([]:List (uG))),(.slice none 0 0),(by first | rfl | (simp;done) | (simp [*];done)),H',⟨Nat.le_refl _⟩,⟨by (with_reducible repeat (first | apply Kd.vK | apply Kd.vY | apply Kd.qR));exact Kd.kD uI.out (fun _ hk=>⟨hk.1,⟨hk.2.1,⟨(by simp [Value.ownBlock]),hk.2.2⟩⟩⟩)⟩,⟨qp vX.out⟩,⟨qp uP.out⟩,⟨by first | exact Kd.jw _ _ _ _ _ | exact Kd.Yc _ _ _ _ _ | exact Kd.Yd _ _ _ _ _ | exact Kd.Ya _ _ _ _ _ | exact Kd.YQ _ _ _ _ _⟩,⟨qh yH.out⟩,⟨zH HB.out⟩⟩
               case round =>
                clear H'
                try clear c2
                try clear c21
                try clear zVF
                try clear ow
                try clear ziR
                try clear c23
                try clear zxF
                try clear c24
                try clear zVG
                try clear c25
                try clear Wj
                try clear Wv
                try clear Uv
                try clear Uk
                try clear Uy
                try clear Wy
                try clear Ww
                try clear WZ
                try clear WQ
                try clear WX
                try clear Ub
                try clear Uc
                try clear Ud
                try clear WJ
                try clear WV
                try clear Uo
                try clear Ur
                try clear Us
                try clear Ut
                try clear Uu
                try clear UA
                try clear bD
                try clear bE
                try clear bF
                try clear UC
                try clear UD
                try clear UE
                try clear bG
                try clear bH
                try clear bI
                try clear bL
                try clear bM
                try clear bN
                try clear WK
                try clear WY
                try clear WW
                try clear bO
                try clear bP
                try clear bR
                try clear bS
                try clear bT
                try clear bU
                try clear Wd
                try clear Wh
                try clear Wi
                try clear cZ
                try clear cK
                try clear cB
                try clear zj8
                try clear zvz
                try clear zvx
                try clear lK
                try clear zyX
                try clear zyV
                try clear zyY
                try clear zya
                try clear oN
                try clear zVI
                try clear zVM
                try clear zVO
                try clear zVR
                try clear zVT
                try clear zV0
                try clear zj9
                try clear zvq
                try clear zvj
                try clear lY
                try clear zyJ
                try clear zyK
                try clear zyW
                try clear zyb
                try clear oO
                try clear zVL
                try clear zVN
                try clear zVP
                try clear zVS
                try clear zVU
                try clear zV1
                obtain ⟨um,pY,X5,rfl,HA,HK4,uI,vX,uP,pW,yH,HB⟩:=hrel
                cases gk with
                | zero=>exact absurd HA.out (by simp [zh.l3])
                | succ k4 =>
                 have H:=HA.out
                 clear HA
                 simp only [zh.l3] at H
                 by_cases P8:0 ≤ zX
                 ·rw [if_pos P8] at H
                  have zV4:decide (0 ≤ zX) = true:=decide_eq_true P8
                  clear P8
                  by_cases c31:zX < (l0.length:Int)
                  ·rw [if_pos c31] at H
                   have zcn:decide (zX < (l0.length:Int)) = true:=decide_eq_true c31
                   clear c31
                   by_cases c32:um < (((zY l0 zX).f5).length:Int)
                   ·rw [if_pos c32] at H
                    have zco:decide (um < (((zY l0 zX).f5).length:Int)) = true:=decide_eq_true c32
                    clear c32
                    by_cases gY:0 ≤ um
                    ·rw [if_pos gY] at H
                     have zt9:decide (0 ≤ um) = true:=decide_eq_true gY
                     clear gY
                     by_cases c34:pY.length < 3518437208883
                     ·rw [if_pos c34] at H
                      have zi2:=zx.mk c34
                      clear c34
                      obtain ⟨zqG,zxH⟩:∃ y_:List (uG),y_ = (pY ++ [(⟨(xk ((zY l0 zX).f5) um).f0,(xk ((zY l0 zX).f5) um).f1,(xk ((zY l0 zX).f5) um).f2⟩:uG)]):=⟨_,rfl⟩
                      replace H:(zh.l3 k4 l0 qQ zX (wrap64 (um + 1)) ((zY l0 zX).f0) ((zY l0 zX).f1) ((zY l0 zX).f2) jD kI zqG) = some r:=by first | (rw [zxH];with_reducible exact H) | (have jC:=(Option.bind_some _ _).symm.trans H;rw [zxH];with_reducible exact jC) | (have jC:=(Option.bind_some _ _).symm.trans H;with_reducible exact jC) | with_reducible exact H | (rw [zxH];exact H) | exact H
                      have zi3:=zx.mk zxH
                      clear zxH
                      have H':=zx.mk H
                      clear H
                      have zqH:0 ≤ (zX:Int):=of_decide_eq_true yE
                      have zqI:zX < (l0.length:Int):=of_decide_eq_true yE
                      obtain ⟨zV5,zgG,zgH,zgI,zgL,zgM,zgN,e272,Wm,Wn,Wo,Wp,Ws,Wt,sD,sF,sG,sH,sI,sM⟩:=wP jW.out zX zqH zqI
                      obtain rfl:yF = zV5:=(by injection e272)
                      replace Wm:=(HB.out.cell (wb w _ Wm)).trans Wm
                      replace Wn:=(HB.out.cell (wb w _ Wn)).trans Wn
                      replace Wo:=(HB.out.cell (wb w _ Wo)).trans Wo
                      replace Wp:=(HB.out.cell (wb w _ Wp)).trans Wp
                      replace Ws:=(HB.out.cell (wb w _ Ws)).trans Ws
                      replace Wt:=(HB.out.cell (wb w _ Wt)).trans Wt
                      have zeX:=zx.mk sF
                      have zeJ:=zx.mk sD
                      clear sF sD
                      have zeV:=zx.mk sH
                      have zeK:=zx.mk sG
                      clear sH sG
                      have zeY:=zx.mk sM
                      have zeW:=zx.mk sI
                      clear sM sI
                      replace zqH:=eq_true zqH
                      replace zqI:=eq_true zqI
                      try go_wp2
                      have zJ:=zx.mk (Kd.qR uI.out)
                      have zK:=zx.mk (Kd.vB vX.out)
                      have zi:=zx.mk (Kd.vB uP.out)
                      have zL:=zx.mk (Kd.vB pW.out)
                      have qz:=zx.mk (qK yH.out)
                      have xX:=zx.mk (zT HB.out)
                      clear uI vX uP pW yH HB
                      have uI:=zJ
                      have vX:=zK
                      have uP:=zi
                      have pW:=zL
                      have yH:=qz
                      have HB:=xX
                      clear zJ zK zi zL qz xX
                      have zas:0 ≤ (zX:Int):=of_decide_eq_true yE
                      have zat:zX < (l0.length:Int):=of_decide_eq_true yE
                      obtain ⟨zi4,zyl,zym,zyn,zyo,ztw,zyp,e273,sN,sO,sP,Wu,WA,WB,zZ5,zZ6,zZ7,zZ8,zZ9,zQz⟩:=wP jW.out zX zas zat
                      have JQ:=WB
                      have JX:=WA
                      have JJ:=Wu
                      have JV:=sP
                      have JK:=sO
                      have JY:=sN
                      obtain rfl:yF = zi4:=(by injection e273)
                      replace sN:=(HB.out.cell (wb w _ sN)).trans sN
                      replace sO:=(HB.out.cell (wb w _ sO)).trans sO
                      replace sP:=(HB.out.cell (wb w _ sP)).trans sP
                      replace Wu:=(HB.out.cell (wb w _ Wu)).trans Wu
                      replace WA:=(HB.out.cell (wb w _ WA)).trans WA
                      replace WB:=(HB.out.cell (wb w _ WB)).trans WB
                      have zea:=zx.mk zZ6
                      have zpR:=zx.mk zZ5
                      clear zZ6 zZ5
                      have zeb:=zx.mk zZ8
                      have zpS:=zx.mk zZ7
                      clear zZ8 zZ7
                      have zQq:=zx.mk zQz
                      have zpT:=zx.mk zZ9
                      clear zQz zZ9
                      replace zas:=eq_true zas
                      replace zat:=eq_true zat
                      have zau:0 ≤ (um:Int):=of_decide_eq_true yE
                      have zaA:um < (((zY l0 zX).f5).length:Int):=of_decide_eq_true yE
                      obtain ⟨YJ,e274,sS,sU,tq⟩:=bY zQq.out um zau zaA
                      have JW:=tq
                      have Ja:=sU
                      have Jb:=sS
                      cases e274
                      replace sS:=(HB.out.cell (wb w _ sS)).trans sS
                      replace sU:=(HB.out.cell (wb w _ sU)).trans sU
                      replace tq:=(HB.out.cell (wb w _ tq)).trans tq
                      replace zau:=eq_true zau
                      replace zaA:=eq_true zaA
                      have zaB:0 ≤ (zX:Int):=of_decide_eq_true yE
                      have zaC:zX < (l0.length:Int):=of_decide_eq_true yE
                      obtain ⟨zi5,ztZ,ztQ,ztX,ztJ,ztV,ztK,e275,tZ,tQ,tX,cO,dw,dZ,zQx,zQj,zQv,zQk,zQy,zQw⟩:=wP jW.out zX zaB zaC
                      have Jc:=dZ
                      have Jd:=dw
                      have Je:=cO
                      have Jf:=tX
                      have Jg:=tQ
                      have Jh:=tZ
                      obtain rfl:yF = zi5:=(by injection e275)
                      replace tZ:=(HB.out.cell (wb w _ tZ)).trans tZ
                      replace tQ:=(HB.out.cell (wb w _ tQ)).trans tQ
                      replace tX:=(HB.out.cell (wb w _ tX)).trans tX
                      replace cO:=(HB.out.cell (wb w _ cO)).trans cO
                      replace dw:=(HB.out.cell (wb w _ dw)).trans dw
                      replace dZ:=(HB.out.cell (wb w _ dZ)).trans dZ
                      have zec:=zx.mk zQj
                      have zpU:=zx.mk zQx
                      clear zQj zQx
                      have zed:=zx.mk zQk
                      have zp0:=zx.mk zQv
                      clear zQk zQv
                      have zQZ:=zx.mk zQw
                      have zp1:=zx.mk zQy
                      clear zQw zQy
                      replace zaB:=eq_true zaB
                      replace zaC:=eq_true zaC
                      have xH:=Option.some.inj (Wu.symm.trans cO)
                      injection xH with xH kY kW
                      subst xH
                      subst kW
                      clear kY
                      have xH:=Option.some.inj (WA.symm.trans dw)
                      injection xH with xH kY kW
                      subst xH
                      subst kW
                      clear kY
                      have xH:=Option.some.inj (WB.symm.trans dZ)
                      injection xH with xH kY kW
                      subst xH
                      subst kW
                      clear kY
                      have zaD:0 ≤ (um:Int):=of_decide_eq_true yE
                      have zaE:um < (((zY l0 zX).f5).length:Int):=of_decide_eq_true yE
                      obtain ⟨zuz,znn,tJ,tV,tK⟩:=bY zQZ.out um zaD zaE
                      have Ji:=tK
                      have Jl:=tV
                      have Jm:=tJ
                      cases znn
                      replace tJ:=(HB.out.cell (wb w _ tJ)).trans tJ
                      replace tV:=(HB.out.cell (wb w _ tV)).trans tV
                      replace tK:=(HB.out.cell (wb w _ tK)).trans tK
                      replace zaD:=eq_true zaD
                      replace zaE:=eq_true zaE
                      have zaF:0 ≤ (zX:Int):=of_decide_eq_true yE
                      have zaG:zX < (l0.length:Int):=of_decide_eq_true yE
                      obtain ⟨zi6,ztY,ztW,zta,ztb,ztc,ztd,zno,tY,tu,tC,dQ,dX,dJ,zQQ,zQX,zQJ,zQV,zQK,zQY⟩:=wP jW.out zX zaF zaG
                      have Jo:=dJ
                      have Jp:=dX
                      have Jr:=dQ
                      have Js:=tC
                      have Jt:=tu
                      have Ju:=tY
                      obtain rfl:yF = zi6:=(by injection zno)
                      replace tY:=(HB.out.cell (wb w _ tY)).trans tY
                      replace tu:=(HB.out.cell (wb w _ tu)).trans tu
                      replace tC:=(HB.out.cell (wb w _ tC)).trans tC
                      replace dQ:=(HB.out.cell (wb w _ dQ)).trans dQ
                      replace dX:=(HB.out.cell (wb w _ dX)).trans dX
                      replace dJ:=(HB.out.cell (wb w _ dJ)).trans dJ
                      have zee:=zx.mk zQX
                      have zp2:=zx.mk zQQ
                      clear zQX zQQ
                      have zef:=zx.mk zQV
                      have zp3:=zx.mk zQJ
                      clear zQV zQJ
                      have zQW:=zx.mk zQY
                      have zp4:=zx.mk zQK
                      clear zQY zQK
                      replace zaF:=eq_true zaF
                      replace zaG:=eq_true zaG
                      have xH:=Option.some.inj (Wu.symm.trans dQ)
                      injection xH with xH kY kW
                      subst xH
                      subst kW
                      clear kY
                      have xH:=Option.some.inj (WA.symm.trans dX)
                      injection xH with xH kY kW
                      subst xH
                      subst kW
                      clear kY
                      have xH:=Option.some.inj (WB.symm.trans dJ)
                      injection xH with xH kY kW
                      subst xH
                      subst kW
                      clear kY
                      have zaH:0 ≤ (um:Int):=of_decide_eq_true yE
                      have zaI:um < (((zY l0 zX).f5).length:Int):=of_decide_eq_true yE
                      obtain ⟨zuq,e278,tF,tH,tL⟩:=bY zQW.out um zaH zaI
                      have JA:=tL
                      have JB:=tH
                      have JC:=tF
                      cases e278
                      replace tF:=(HB.out.cell (wb w _ tF)).trans tF
                      replace tH:=(HB.out.cell (wb w _ tH)).trans tH
                      replace tL:=(HB.out.cell (wb w _ tL)).trans tL
                      replace zaH:=eq_true zaH
                      replace zaI:=eq_true zaI
                      refine jy (n:=34) (S:=fun w'=>w'.cell? ⟨yx,0,none⟩ = some (.string ((zY l0 zX).f0)) ∧ w'.cell? ⟨yx,1,none⟩ = some (.bool ((zY l0 zX).f1)) ∧ w'.cell? ⟨yx,2,none⟩ = some (.int .i64 ((zY l0 zX).f2)) ∧ w'.cell? ⟨yx,3,none⟩ = some (jM) ∧ w'.cell? ⟨yx,4,none⟩ = some (pK) ∧ w'.cell? ⟨yx,5,none⟩ = some (X5) ∧ w'.cell? (yF.add ((zX).toNat * 6)) = some (.string ((zY l0 zX).f0)) ∧ w'.cell? ⟨(yF.add ((zX).toNat * 6)).block,(yF.add ((zX).toNat * 6)).off + 1,none⟩ = some (.bool ((zY l0 zX).f1)) ∧ w'.cell? ⟨(yF.add ((zX).toNat * 6)).block,(yF.add ((zX).toNat * 6)).off + 2,none⟩ = some (.int .i64 ((zY l0 zX).f2)) ∧ w'.cell? ⟨(yF.add ((zX).toNat * 6)).block,(yF.add ((zX).toNat * 6)).off + 3,none⟩ = some (.slice zyl ((zY l0 zX).f3).length zym) ∧ w'.cell? ⟨(yF.add ((zX).toNat * 6)).block,(yF.add ((zX).toNat * 6)).off + 4,none⟩ = some (.slice zyn ((zY l0 zX).f4).length zyo) ∧ w'.cell? ⟨(yF.add ((zX).toNat * 6)).block,(yF.add ((zX).toNat * 6)).off + 5,none⟩ = some (.slice (some YJ) ((zY l0 zX).f5).length zyp) ∧ w'.cell? (YJ.add ((um).toNat * 3)) = some (.string ((xk ((zY l0 zX).f5) um).f0)) ∧ w'.cell? ⟨(YJ.add ((um).toNat * 3)).block,(YJ.add ((um).toNat * 3)).off + 1,none⟩ = some (.string ((xk ((zY l0 zX).f5) um).f1)) ∧ w'.cell? ⟨(YJ.add ((um).toNat * 3)).block,(YJ.add ((um).toNat * 3)).off + 2,none⟩ = some (.int .i64 ((xk ((zY l0 zX).f5) um).f2)) ∧ w'.cell? (yF.add ((zX).toNat * 6)) = some (.string ((zY l0 zX).f0)) ∧ w'.cell? ⟨(yF.add ((zX).toNat * 6)).block,(yF.add ((zX).toNat * 6)).off + 1,none⟩ = some (.bool ((zY l0 zX).f1)) ∧ w'.cell? ⟨(yF.add ((zX).toNat * 6)).block,(yF.add ((zX).toNat * 6)).off + 2,none⟩ = some (.int .i64 ((zY l0 zX).f2)) ∧ w'.cell? ⟨(yF.add ((zX).toNat * 6)).block,(yF.add ((zX).toNat * 6)).off + 3,none⟩ = some (.slice zyl ((zY l0 zX).f3).length zym) ∧ w'.cell? ⟨(yF.add ((zX).toNat * 6)).block,(yF.add ((zX).toNat * 6)).off + 4,none⟩ = some (.slice zyn ((zY l0 zX).f4).length zyo) ∧ w'.cell? ⟨(yF.add ((zX).toNat * 6)).block,(yF.add ((zX).toNat * 6)).off + 5,none⟩ = some (.slice (some YJ) ((zY l0 zX).f5).length zyp) ∧ w'.cell? (YJ.add ((um).toNat * 3)) = some (.string ((xk ((zY l0 zX).f5) um).f0)) ∧ w'.cell? ⟨(YJ.add ((um).toNat * 3)).block,(YJ.add ((um).toNat * 3)).off + 1,none⟩ = some (.string ((xk ((zY l0 zX).f5) um).f1)) ∧ w'.cell? ⟨(YJ.add ((um).toNat * 3)).block,(YJ.add ((um).toNat * 3)).off + 2,none⟩ = some (.int .i64 ((xk ((zY l0 zX).f5) um).f2)) ∧ w'.cell? (yF.add ((zX).toNat * 6)) = some (.string ((zY l0 zX).f0)) ∧ w'.cell? ⟨(yF.add ((zX).toNat * 6)).block,(yF.add ((zX).toNat * 6)).off + 1,none⟩ = some (.bool ((zY l0 zX).f1)) ∧ w'.cell? ⟨(yF.add ((zX).toNat * 6)).block,(yF.add ((zX).toNat * 6)).off + 2,none⟩ = some (.int .i64 ((zY l0 zX).f2)) ∧ w'.cell? ⟨(yF.add ((zX).toNat * 6)).block,(yF.add ((zX).toNat * 6)).off + 3,none⟩ = some (.slice zyl ((zY l0 zX).f3).length zym) ∧ w'.cell? ⟨(yF.add ((zX).toNat * 6)).block,(yF.add ((zX).toNat * 6)).off + 4,none⟩ = some (.slice zyn ((zY l0 zX).f4).length zyo) ∧ w'.cell? ⟨(yF.add ((zX).toNat * 6)).block,(yF.add ((zX).toNat * 6)).off + 5,none⟩ = some (.slice (some YJ) ((zY l0 zX).f5).length zyp) ∧ w'.cell? (YJ.add ((um).toNat * 3)) = some (.string ((xk ((zY l0 zX).f5) um).f0)) ∧ w'.cell? ⟨(YJ.add ((um).toNat * 3)).block,(YJ.add ((um).toNat * 3)).off + 1,none⟩ = some (.string ((xk ((zY l0 zX).f5) um).f1)) ∧ w'.cell? ⟨(YJ.add ((um).toNat * 3)).block,(YJ.add ((um).toNat * 3)).off + 2,none⟩ = some (.int .i64 ((xk ((zY l0 zX).f5) um).f2))) (ds:=[33]) #[false,false,false,false,false,false,false,false,false,false,false,false,false,false,false,false,false,false,false,false,false,false,false,false,false,false,false,false,false,false,false,false,false,false] (by kernel_rfl) rfl rfl ⟨zZ yH 0,zZ yH 1,zZ yH 2,zZ yH 3,zZ yH 4,zZ yH 5,((HB.out.cell (wb w _ JY)).trans JY),((HB.out.cell (wb w _ JK)).trans JK),((HB.out.cell (wb w _ JV)).trans JV),((HB.out.cell (wb w _ JJ)).trans JJ),((HB.out.cell (wb w _ JX)).trans JX),((HB.out.cell (wb w _ JQ)).trans JQ),((HB.out.cell (wb w _ Jb)).trans Jb),((HB.out.cell (wb w _ Ja)).trans Ja),((HB.out.cell (wb w _ JW)).trans JW),((HB.out.cell (wb w _ Jh)).trans Jh),((HB.out.cell (wb w _ Jg)).trans Jg),((HB.out.cell (wb w _ Jf)).trans Jf),((HB.out.cell (wb w _ Je)).trans Je),((HB.out.cell (wb w _ Jd)).trans Jd),((HB.out.cell (wb w _ Jc)).trans Jc),((HB.out.cell (wb w _ Jm)).trans Jm),((HB.out.cell (wb w _ Jl)).trans Jl),((HB.out.cell (wb w _ Ji)).trans Ji),((HB.out.cell (wb w _ Ju)).trans Ju),((HB.out.cell (wb w _ Jt)).trans Jt),((HB.out.cell (wb w _ Js)).trans Js),((HB.out.cell (wb w _ Jr)).trans Jr),((HB.out.cell (wb w _ Jp)).trans Jp),((HB.out.cell (wb w _ Jo)).trans Jo),((HB.out.cell (wb w _ JC)).trans JC),((HB.out.cell (wb w _ JB)).trans JB),((HB.out.cell (wb w _ JA)).trans JA)⟩ (fun hHeld=>?_);refine uZ zh.ziE zh.zgm (fun za vC=>?_)
                      generalize wr.drew = w35 at uI vX uP pW yH HB zea zeb zQq zec zed zQZ zee zef zQW sN sO sP Wu WA WB sS sU tq tZ tQ tX cO dw dZ tJ tV tK tY tu tC dQ dX dJ tF tH tL hHeld ⊢
                      refine yQ 0 (some 118) za ?_
                      refine yQ 2 (some 120) za ?_
                      refine yQ 3 (some 121) za ?_
                      refine yQ 4 (some 122) za ?_
                      refine yQ 5 (some 123) za ?_
                      refine yQ 7 (some 125) za ?_
                      refine yQ 11 (some 129) za ?_
                      refine yQ 12 (some 130) za ?_
                      refine yQ 13 (some 131) za ?_
                      refine yQ 14 (some 132) za ?_
                      refine yQ 16 (some 134) za ?_
                      refine yQ 20 (some 138) za ?_
                      refine yQ 21 (some 139) za ?_
                      refine yQ 22 (some 140) za ?_
                      refine yQ 23 (some 141) za ?_
                      refine yQ 25 (some 143) za ?_
                      refine jg 1 (some 119) za vC hHeld ?_
                      refine jg 6 (some 124) za vC hHeld ?_
                      refine yQ 8 (some 126) za ?_
                      refine yQ 9 (some 127) za ?_
                      refine jg 10 (some 128) za vC hHeld ?_
                      refine jg 15 (some 133) za vC hHeld ?_
                      refine yQ 17 (some 135) za ?_
                      refine yQ 18 (some 136) za ?_
                      refine jg 19 (some 137) za vC hHeld ?_
                      refine jg 24 (some 142) za vC hHeld ?_
                      refine yQ 26 (some 144) za ?_
                      refine yQ 27 (some 145) za ?_
                      refine jg 28 (some 146) za vC hHeld ?_
                      refine yQ 29 (some 147) za ?_
                      refine wZ 30 (some 148) za (fun K hK=>?_)
                      refine vaS ?_
                      refine hK.out _ _ ⟨(zQ (yL yH.out _) 0).trans rfl,(zQ (yL yH.out _) 1).trans rfl,(zQ (yL yH.out _) 2).trans rfl,(zQ (yL yH.out _) 3).trans rfl,(zQ (yL yH.out _) 4).trans rfl,(zQ (yL yH.out _) 5).trans rfl,(World.cell?_alloc_lt _ _ _ (wb _ _ (((HB.out.cell (wb w _ JY)).trans JY)))).trans (((HB.out.cell (wb w _ JY)).trans JY)),(World.cell?_alloc_lt _ _ _ (wb _ _ (((HB.out.cell (wb w _ JK)).trans JK)))).trans (((HB.out.cell (wb w _ JK)).trans JK)),(World.cell?_alloc_lt _ _ _ (wb _ _ (((HB.out.cell (wb w _ JV)).trans JV)))).trans (((HB.out.cell (wb w _ JV)).trans JV)),(World.cell?_alloc_lt _ _ _ (wb _ _ (((HB.out.cell (wb w _ JJ)).trans JJ)))).trans (((HB.out.cell (wb w _ JJ)).trans JJ)),(World.cell?_alloc_lt _ _ _ (wb _ _ (((HB.out.cell (wb w _ JX)).trans JX)))).trans (((HB.out.cell (wb w _ JX)).trans JX)),(World.cell?_alloc_lt _ _ _ (wb _ _ (((HB.out.cell (wb w _ JQ)).trans JQ)))).trans (((HB.out.cell (wb w _ JQ)).trans JQ)),(World.cell?_alloc_lt _ _ _ (wb _ _ (((HB.out.cell (wb w _ Jb)).trans Jb)))).trans (((HB.out.cell (wb w _ Jb)).trans Jb)),(World.cell?_alloc_lt _ _ _ (wb _ _ (((HB.out.cell (wb w _ Ja)).trans Ja)))).trans (((HB.out.cell (wb w _ Ja)).trans Ja)),(World.cell?_alloc_lt _ _ _ (wb _ _ (((HB.out.cell (wb w _ JW)).trans JW)))).trans (((HB.out.cell (wb w _ JW)).trans JW)),(World.cell?_alloc_lt _ _ _ (wb _ _ (((HB.out.cell (wb w _ Jh)).trans Jh)))).trans (((HB.out.cell (wb w _ Jh)).trans Jh)),(World.cell?_alloc_lt _ _ _ (wb _ _ (((HB.out.cell (wb w _ Jg)).trans Jg)))).trans (((HB.out.cell (wb w _ Jg)).trans Jg)),(World.cell?_alloc_lt _ _ _ (wb _ _ (((HB.out.cell (wb w _ Jf)).trans Jf)))).trans (((HB.out.cell (wb w _ Jf)).trans Jf)),(World.cell?_alloc_lt _ _ _ (wb _ _ (((HB.out.cell (wb w _ Je)).trans Je)))).trans (((HB.out.cell (wb w _ Je)).trans Je)),(World.cell?_alloc_lt _ _ _ (wb _ _ (((HB.out.cell (wb w _ Jd)).trans Jd)))).trans (((HB.out.cell (wb w _ Jd)).trans Jd)),(World.cell?_alloc_lt _ _ _ (wb _ _ (((HB.out.cell (wb w _ Jc)).trans Jc)))).trans (((HB.out.cell (wb w _ Jc)).trans Jc)),(World.cell?_alloc_lt _ _ _ (wb _ _ (((HB.out.cell (wb w _ Jm)).trans Jm)))).trans (((HB.out.cell (wb w _ Jm)).trans Jm)),(World.cell?_alloc_lt _ _ _ (wb _ _ (((HB.out.cell (wb w _ Jl)).trans Jl)))).trans (((HB.out.cell (wb w _ Jl)).trans Jl)),(World.cell?_alloc_lt _ _ _ (wb _ _ (((HB.out.cell (wb w _ Ji)).trans Ji)))).trans (((HB.out.cell (wb w _ Ji)).trans Ji)),(World.cell?_alloc_lt _ _ _ (wb _ _ (((HB.out.cell (wb w _ Ju)).trans Ju)))).trans (((HB.out.cell (wb w _ Ju)).trans Ju)),(World.cell?_alloc_lt _ _ _ (wb _ _ (((HB.out.cell (wb w _ Jt)).trans Jt)))).trans (((HB.out.cell (wb w _ Jt)).trans Jt)),(World.cell?_alloc_lt _ _ _ (wb _ _ (((HB.out.cell (wb w _ Js)).trans Js)))).trans (((HB.out.cell (wb w _ Js)).trans Js)),(World.cell?_alloc_lt _ _ _ (wb _ _ (((HB.out.cell (wb w _ Jr)).trans Jr)))).trans (((HB.out.cell (wb w _ Jr)).trans Jr)),(World.cell?_alloc_lt _ _ _ (wb _ _ (((HB.out.cell (wb w _ Jp)).trans Jp)))).trans (((HB.out.cell (wb w _ Jp)).trans Jp)),(World.cell?_alloc_lt _ _ _ (wb _ _ (((HB.out.cell (wb w _ Jo)).trans Jo)))).trans (((HB.out.cell (wb w _ Jo)).trans Jo)),(World.cell?_alloc_lt _ _ _ (wb _ _ (((HB.out.cell (wb w _ JC)).trans JC)))).trans (((HB.out.cell (wb w _ JC)).trans JC)),(World.cell?_alloc_lt _ _ _ (wb _ _ (((HB.out.cell (wb w _ JB)).trans JB)))).trans (((HB.out.cell (wb w _ JB)).trans JB)),(World.cell?_alloc_lt _ _ _ (wb _ _ (((HB.out.cell (wb w _ JA)).trans JA)))).trans (((HB.out.cell (wb w _ JA)).trans JA))⟩ (fun hHeld=>?_)
                      clear hK K
                      refine wY (some 148) ?_
                      refine wZ 31 (some 149) za (fun K hK=>?_)
                      refine Kd.Zu Yu (w0:=w) w.heap.size (by rfl) (.tmp 119) (.tmp 148) 99 112 (.agg #[(.string ⟨#[]⟩),(.string ⟨#[]⟩),(.int .i64 0)]) 40 rfl Tryz.underlying99 zdk rfl (by decide) (by omega) X5 pY (⟨(xk ((zY l0 zX).f5) um).f0,(xk ((zY l0 zX).f5) um).f1,(xk ((zY l0 zX).f5) um).f2⟩:uG) [.string ((xk ((zY l0 zX).f5) um).f0),.string ((xk ((zY l0 zX).f5) um).f1),.int .i64 ((xk ((zY l0 zX).f5) um).f2)] (fun _=>True) (fun _=>False) rfl rfl ?aP (fun _ hk=>hk.elim) ?aF ?aO ?aB ?aS ?aL ?_
                      (case aP=>exact zW1 _ _ _ (⟨(xk ((zY l0 zX).f5) um).f0,(xk ((zY l0 zX).f5) um).f1,(xk ((zY l0 zX).f5) um).f2⟩:uG))
                      (case aB=>exact (zH HB.out))
                      (case aF=>exact (fun _ _=>trivial))
                      (case aO=>exact (qp pW.out))
                      (case aS=>exact (ze (zH HB.out)))
                      (case aL=>have:=zi2.out;omega)
                      intro zAx w36 ho hb hg hat
                      rw [← zi3.out] at ho
                      have zJ:=zx.mk (Kd.zjY (ok:=(fun k_=>some k_ ≠ (jM:Value).ownBlock ∧ some k_ ≠ (pK:Value).ownBlock ∧ k_ ≠ yx)) (by (with_reducible repeat (first | apply Kd.vK | apply Kd.vY | apply Kd.qR));exact Kd.kD uI.out (fun _ hk=>⟨⟨hk.1,⟨hk.2.1,hk.2.2.2⟩⟩,hk.2.2.1⟩)) hg hat)
                      have zK:=zx.mk (Kd.Vo (qp vX.out) (Kd.nV (qp pW.out)) (by decide) hg)
                      have zi:=zx.mk (Kd.Vo (qp uP.out) (Kd.nV (qp pW.out)) (by decide) hg)
                      have zL:=zx.mk (uO (g:=yx) (o:=.cells #[.string ((zY l0 zX).f0),.bool ((zY l0 zX).f1),.int .i64 ((zY l0 zX).f2),jM,pK,X5] 101 (0,0)) (qh yH.out) hg (Kd.Vz pW.out yH.out (by decide)))
                      have qz:=zx.mk (hb)
                      have xX:=zx.mk (ho)
                      clear uI vX uP yH HB pW
                      have uI:=zJ
                      have vX:=zK
                      have uP:=zi
                      have yH:=zL
                      have HB:=qz
                      have zcp:=xX
                      clear zJ zK zi zL qz xX ho hb hg hat
                      obtain ⟨zvk,zvy,zV6⟩:=Kd.xK zcp.out
                      (first | subst zV6 | (injection zV6 with jP ZJ jR;have ZV:=jP.symm;have ZK:=jR.symm;clear jP ZJ jR;subst ZV;subst ZK))
                      refine hK.out _ _ ⟨zZ yH 0,zZ yH 1,zZ yH 2,zZ yH 3,zZ yH 4,zZ yH 5,((HB.out.cell (wb w _ JY)).trans JY),((HB.out.cell (wb w _ JK)).trans JK),((HB.out.cell (wb w _ JV)).trans JV),((HB.out.cell (wb w _ JJ)).trans JJ),((HB.out.cell (wb w _ JX)).trans JX),((HB.out.cell (wb w _ JQ)).trans JQ),((HB.out.cell (wb w _ Jb)).trans Jb),((HB.out.cell (wb w _ Ja)).trans Ja),((HB.out.cell (wb w _ JW)).trans JW),((HB.out.cell (wb w _ Jh)).trans Jh),((HB.out.cell (wb w _ Jg)).trans Jg),((HB.out.cell (wb w _ Jf)).trans Jf),((HB.out.cell (wb w _ Je)).trans Je),((HB.out.cell (wb w _ Jd)).trans Jd),((HB.out.cell (wb w _ Jc)).trans Jc),((HB.out.cell (wb w _ Jm)).trans Jm),((HB.out.cell (wb w _ Jl)).trans Jl),((HB.out.cell (wb w _ Ji)).trans Ji),((HB.out.cell (wb w _ Ju)).trans Ju),((HB.out.cell (wb w _ Jt)).trans Jt),((HB.out.cell (wb w _ Js)).trans Js),((HB.out.cell (wb w _ Jr)).trans Jr),((HB.out.cell (wb w _ Jp)).trans Jp),((HB.out.cell (wb w _ Jo)).trans Jo),((HB.out.cell (wb w _ JC)).trans JC),((HB.out.cell (wb w _ JB)).trans JB),((HB.out.cell (wb w _ JA)).trans JA)⟩ (fun hHeld=>?_)
                      clear hK K
                      refine wY (some 149) ?_
                      refine yQ 32 (some 150) za ?_
                      refine zzi (i:=33) (N:=none) #[true,true,true,true,true,true,true,true,true,true,true,true,true,true,true,true,true,true,true,true,true,true,true,true,true,true,true,true,true,true,true,true,true,true] rfl rfl (pO za.out (by kernel_rfl)) (by decide) (fun K hK=>?_)
                      have zAj:w36.cell? ⟨yx,5,none⟩ = some (X5):=zZ yH 5
                      have zux:=zy yH.out 5
                      refine iN (w1:=?_) (by rfl) rfl ?_ ?_
                      rotate_left
                      ·go_simp
                       rfl
                      refine hK.out _ _ ?_
                      clear hK K
                      refine xP (qH za.out (by kernel_rfl)) ?_
                      try go_wp2
                      go_roundg k4
                      case measure=>have:=uK.out;have:=QJ.out;have:=dR.out;have:=HK4.out;omega
                      case rel=>exact ⟨(wrap64 (um + 1)),(zqG),(.slice zvk zqG.length zvy),(by first | rfl | (simp;done) | (simp [*];done)),H',⟨by have:=uK.out;have:=QJ.out;have:=dR.out;have:=HK4.out;omega⟩,⟨by (with_reducible repeat (first | apply Kd.vK | apply Kd.vY | apply Kd.qR));exact Kd.kD (Kd.Yb (p:=⟨yx,5,none⟩) (Kd.kD uI.out (fun k_ hk=>(⟨hk,hk.1.2.2⟩:_ ∧ k_ ≠ yx))) (fun _ hk=>hk.2) (.slice zvk zqG.length zvy)) (fun _ hk=>⟨hk.1.1.1,⟨hk.1.1.2.1,⟨hk.1.2,hk.1.1.2.2⟩⟩⟩)⟩,⟨by (with_reducible repeat (first | apply Kd.Z5 | apply Kd.Z6 | apply Kd.vB));exact Kd.uW (Kd.ZH (p:=⟨yx,5,none⟩) (Kd.Zj vX.out yH.out (by decide)) (fun _ hk=>hk.2) (.slice zvk zqG.length zvy)) (fun _ hk=>trivial)⟩,⟨by (with_reducible repeat (first | apply Kd.Z5 | apply Kd.Z6 | apply Kd.vB));exact Kd.uW (Kd.ZH (p:=⟨yx,5,none⟩) (Kd.Zj uP.out yH.out (by decide)) (fun _ hk=>hk.2) (.slice zvk zqG.length zvy)) (fun _ hk=>trivial)⟩,⟨by (with_reducible repeat (first | apply Kd.Z5 | apply Kd.Z6 | apply Kd.vB));exact Kd.uW (Kd.ZH (p:=⟨yx,5,none⟩) (Kd.Zj zcp.out yH.out (by decide)) (fun _ hk=>hk.2) (.slice zvk zqG.length zvy)) (fun _ hk=>trivial)⟩,⟨by (with_reducible repeat (first | refine vQ ?_ _ | refine qK ?_ | refine yL ?_ _));refine xD (cs:=#[.string ((zY l0 zX).f0),.bool ((zY l0 zX).f1),.int .i64 ((zY l0 zX).f2),jM,pK,X5]) ?_ 5 _ rfl;(with_reducible repeat (first | refine vQ ?_ _ | refine qK ?_ | refine yL ?_ _));exact yH.out⟩,⟨zH HB.out⟩⟩
                     ·rw [if_neg c34] at H
                      exact absurd H (by simp)
                    ·rw [if_neg gY] at H
                     exact absurd H (by simp)
                   ·rw [if_neg c32] at H
                    have zco:decide (um < (((zY l0 zX).f5).length:Int)) = false:=decide_eq_false c32
                    clear c32
                    by_cases c39:qQ.length < 1353245080339
                    ·rw [if_pos c39] at H
                     have zi7:=zx.mk c39
                     clear c39
                     obtain ⟨zgO,zxI⟩:∃ y_:List (ji),y_ = (qQ ++ [(⟨((zY l0 zX).f0),((zY l0 zX).f1),((zY l0 zX).f2),jD,kI,pY⟩:ji)]):=⟨_,rfl⟩
                     replace H:(zh.l0 k4 l0 zgO (wrap64 (zX + 1))) = some r:=by first | (rw [zxI];with_reducible exact H) | (have jC:=(Option.bind_some _ _).symm.trans H;rw [zxI];with_reducible exact jC) | (have jC:=(Option.bind_some _ _).symm.trans H;with_reducible exact jC) | with_reducible exact H | (rw [zxI];exact H) | exact H
                     have zi8:=zx.mk zxI
                     clear zxI
                     have H':=zx.mk H
                     clear H
                     have zqH:0 ≤ (zX:Int):=of_decide_eq_true yE
                     have zqI:zX < (l0.length:Int):=of_decide_eq_true yE
                     obtain ⟨zV5,zgG,zgH,zgI,zgL,zgM,zgN,e272,Wm,Wn,Wo,Wp,Ws,Wt,sD,sF,sG,sH,sI,sM⟩:=wP jW.out zX zqH zqI
                     obtain rfl:yF = zV5:=(by injection e272)
                     replace Wm:=(HB.out.cell (wb w _ Wm)).trans Wm
                     replace Wn:=(HB.out.cell (wb w _ Wn)).trans Wn
                     replace Wo:=(HB.out.cell (wb w _ Wo)).trans Wo
                     replace Wp:=(HB.out.cell (wb w _ Wp)).trans Wp
                     replace Ws:=(HB.out.cell (wb w _ Ws)).trans Ws
                     replace Wt:=(HB.out.cell (wb w _ Wt)).trans Wt
                     have zeX:=zx.mk sF
                     have zeJ:=zx.mk sD
                     clear sF sD
                     have zeV:=zx.mk sH
                     have zeK:=zx.mk sG
                     clear sH sG
                     have zeY:=zx.mk sM
                     have zeW:=zx.mk sI
                     clear sM sI
                     replace zqH:=eq_true zqH
                     replace zqI:=eq_true zqI
                     have zeg:wr.cell? ⟨yx,0,none⟩ = some (.string ((zY l0 zX).f0)):=zZ yH 0
                     have zeh:wr.cell? ⟨yx,1,none⟩ = some (.bool ((zY l0 zX).f1)):=zZ yH 1
                     have zei:wr.cell? ⟨yx,2,none⟩ = some (.int .i64 ((zY l0 zX).f2)):=zZ yH 2
                     have zel:wr.cell? ⟨yx,3,none⟩ = some (jM):=zZ yH 3
                     have zem:wr.cell? ⟨yx,4,none⟩ = some (pK):=zZ yH 4
                     have zen:wr.cell? ⟨yx,5,none⟩ = some (X5):=zZ yH 5
                     have zeo:=zy yH.out 0
                     have zep:=zy yH.out 1
                     have zer:=zy yH.out 2
                     have zes:=zy yH.out 3
                     have zet:=zy yH.out 4
                     have zeu:=zy yH.out 5
                     obtain ⟨zvw,zvZ,zaL⟩:=Kd.xK vX.out
                     subst zaL
                     obtain ⟨zV7,zV8,znp⟩:=Kd.xK uP.out
                     subst znp
                     obtain ⟨zV9,zKz,znr⟩:=Kd.xK pW.out
                     subst znr
                     go_wp2_with (first | ((with_reducible refine pR (b:=.append) (xs:=#[.tmp 151,.tmp 153]) rfl ?_);at_builtin;refine Kd.zkP J8 (w0:=w) w.heap.size rfl (.tmp 151) (.tmp 153) 39 101 (.agg #[(.string ⟨#[]⟩),(.bool false),(.int .i64 0),(.slice none 0 0),(.slice none 0 0),(.slice none 0 0)]) 104 rfl Tryz.underlying39 zdx rfl (by decide) (by omega) u3 qQ (⟨((zY l0 zX).f0),((zY l0 zX).f1),((zY l0 zX).f2),jD,kI,pY⟩:ji) [.string ((zY l0 zX).f0),.bool ((zY l0 zX).f1),.int .i64 ((zY l0 zX).f2),.slice zvw jD.length zvZ,.slice zV7 kI.length zV8,.slice zV9 pY.length zKz] (fun k_=>k_ ≠ yx) (fun k_=>some k_ = (.slice zvw jD.length zvZ:Value).ownBlock ∨ some k_ = (.slice zV7 kI.length zV8:Value).ownBlock ∨ some k_ = (.slice zV9 pY.length zKz:Value).ownBlock) rfl rfl ?aP (fun k_ hk_=>hk_.elim (fun h_=>((Kd.uW (ok':=fun k_=>((fun k_=>k_ ≠ yx)) k_ ∧ some k_ ≠ (u3:Value).ownBlock) (Kd.Zj (Kd.Kl (vX.out) (Kd.Xl uI.out) (by decide)) yH.out (by decide)) (fun k_ hk=>⟨hk.2,hk.1.2⟩))).1 k_ h_.symm) (fun h_=>h_.elim (fun h_=>((Kd.uW (ok':=fun k_=>((fun k_=>k_ ≠ yx)) k_ ∧ some k_ ≠ (u3:Value).ownBlock) (Kd.Zj (Kd.Kl (uP.out) (Kd.Xl uI.out) (by decide)) yH.out (by decide)) (fun k_ hk=>⟨hk.2,hk.1.2⟩))).1 k_ h_.symm) (fun h_=>((Kd.uW (ok':=fun k_=>((fun k_=>k_ ≠ yx)) k_ ∧ some k_ ≠ (u3:Value).ownBlock) (Kd.Zj (Kd.Kl (pW.out) (Kd.Xl uI.out) (by decide)) yH.out (by decide)) (fun k_ hk=>⟨hk.2,hk.1.2⟩))).1 k_ h_.symm))) ?aF ?aO ?aB ?aS ?aL ?_;(case aP=>exact zW2 _ _ _ (⟨((zY l0 zX).f0),((zY l0 zX).f1),((zY l0 zX).f2),jD,kI,pY⟩:ji) (Kd.uW (Kd.zjK rfl (Kd.uW (ok':=fun k_=>((fun k_=>k_ ≠ yx)) k_ ∧ some k_ ≠ (u3:Value).ownBlock) (Kd.Zj (Kd.Kl (vX.out) (Kd.Xl uI.out) (by decide)) yH.out (by decide)) (fun k_ hk=>⟨hk.2,hk.1.2⟩))) (fun _ h_=>Or.inl h_)) (Kd.uW (Kd.zjK rfl (Kd.uW (ok':=fun k_=>((fun k_=>k_ ≠ yx)) k_ ∧ some k_ ≠ (u3:Value).ownBlock) (Kd.Zj (Kd.Kl (uP.out) (Kd.Xl uI.out) (by decide)) yH.out (by decide)) (fun k_ hk=>⟨hk.2,hk.1.2⟩))) (fun _ h_=>Or.inr (Or.inl h_))) (Kd.uW (Kd.zjK rfl (Kd.uW (ok':=fun k_=>((fun k_=>k_ ≠ yx)) k_ ∧ some k_ ≠ (u3:Value).ownBlock) (Kd.Zj (Kd.Kl (pW.out) (Kd.Xl uI.out) (by decide)) yH.out (by decide)) (fun k_ hk=>⟨hk.2,hk.1.2⟩))) (fun _ h_=>Or.inr (Or.inr (h_)))));(case aB=>exact (zH HB.out));(case aF=>exact (fun k_ hk=>Kd.zfO (g:=yx) (o:=.cells #[.string ((zY l0 zX).f0),.bool ((zY l0 zX).f1),.int .i64 ((zY l0 zX).f2),.slice zvw jD.length zvZ,.slice zV7 kI.length zV8,.slice zV9 pY.length zKz] 101 (0,0)) (qh yH.out) k_ hk));(case aO=>exact (by (with_reducible repeat (first | apply Kd.vK | apply Kd.vY | apply Kd.qR));exact Kd.kD uI.out (fun k_ hk=>⟨hk.2.2.2,fun e_=>e_.elim (fun h_=>hk.1 h_) (fun h_=>h_.elim (fun h_=>hk.2.1 h_) (fun h_=>hk.2.2.1 h_))⟩)));(case aS=>exact (ze (zH HB.out)));(case aL=>have:=zi7.out;omega);intro zAv w41 ho hb hg hat;rw [← zi8.out] at ho;have zJ:=zx.mk (uO (g:=yx) (o:=.cells #[.string ((zY l0 zX).f0),.bool ((zY l0 zX).f1),.int .i64 ((zY l0 zX).f2),.slice zvw jD.length zvZ,.slice zV7 kI.length zV8,.slice zV9 pY.length zKz] 101 (0,0)) (qh yH.out) hg (Kd.zf1 uI.out (fun _ hk=>hk.2.2.2)));have zK:=zx.mk (hb);have zi:=zx.mk (ho);clear yH;clear HB;clear uI;clear vX;clear uP;clear pW;have yH:=zJ;have HB:=zK;have zi9:=zi;clear zJ zK zi;clear ho hb hg hat))
                     go_roundg k4
                     case measure=>have:=uK.out;have:=QJ.out;have:=dR.out;have:=HK4.out;omega
                     case rel=>exact ⟨(zgO),(wrap64 (zX + 1)),(by first | rfl | (simp;done) | (simp [*];done)),H',⟨by have:=uK.out;have:=QJ.out;have:=dR.out;have:=HK4.out;omega⟩,⟨by (with_reducible repeat (first | apply Kd.vK | apply Kd.vY | apply Kd.qR));exact Kd.kD zi9.out (fun _ hk=>trivial)⟩,⟨zH HB.out⟩⟩
                    ·rw [if_neg c39] at H
                     exact absurd H (by simp)
                  ·rw [if_neg c31] at H
                   exact absurd H (by simp)
                 ·rw [if_neg P8] at H
                  exact absurd H (by simp)
             ·rw [if_neg ow] at H
              exact absurd H (by simp)
            ·rw [if_neg c21] at H
             exact absurd H (by simp)
        ·rw [if_neg c13] at H
         exact absurd H (by simp)
       ·rw [if_neg c12] at H
        exact absurd H (by simp)
    ·rw [if_neg c3] at H
     exact absurd H (by simp)
   ·rw [if_neg c2] at H
    have Ku:decide (zX < (l0.length:Int)) = false:=decide_eq_false c2
    clear c2
    obtain rfl:=Option.some.inj H
    go_wp2
    go_ret
    exact ⟨_,by first | rfl | (simp [zM,zN] <;> rfl) | (simp [*,zM,zN] <;> rfl),by (with_reducible repeat (first | apply Kd.vK | apply Kd.vY | apply Kd.qR));exact uI.out,by repeat (first | (with_reducible first | exact HB.out | apply yV | apply zP | apply zT) | exact HB.out)⟩
end Go.Proofs.YtggifbbiiickmaaGreatDoor.PX
namespace Go.Proofs.YtggifbbiiickmaaGreatDoor.PX
open Go.RowKit Go.Proofs.zk.zA Go.Proofs.zk.yB Go.Proofs.zk.yA
attribute [local go_sem] xR xS vM vN xB xC xU vv   -- for this text's walks alone
set_option linter.unusedVariables false
set_option linter.unusedSimpArgs false
def qN.l0:Nat → List (ji) → Int → Option (Bool)
 | 0,_,_=>none
 | k + 1,x0,x3=>if x3 < (x0.length:Int) then (if 0 ≤ x3 then ((xJ.f ((zw x0 x3).f0) ((zw x0 x3).f1) ((zw x0 x3).f2) ((zw x0 x3).f3) ((zw x0 x3).f4) ((zw x0 x3).f5)).bind fun zKq=>(if zKq = true then (qN.l0 k x0 (wrap64 (x3 + 1))) else (some false))) else (none)) else (some true)
def qN.f (k:Nat) (l0:List (ji)):Option (Bool):=qN.l0 k l0 0
set_option maxHeartbeats 8000000 in
set_option maxRecDepth 100000 in
theorem qN.calls (k:Nat) (A0:Option Addr) (c0:Nat) (l0:List (ji)) (r:Bool) (w:World) (hr0:Kd.C J8 w A0 l0.length l0) (hc0:l0.length ≤ c0) (h:qN.f k l0 = some r) :
  Calls Tryz.prog 47 #[.slice A0 l0.length c0] w fun e w'=>e = .returned (.bool r) ∧ Below w.heap.size w w':=by
 have VW:=Tryz.underlying101
 have jW:=zx.mk hr0
 have Q9:=zx.mk hc0
 clear hr0 hc0
 have HB:=zx.mk (Below.refl w.heap.size w)
 have H:(qN.l0 k l0 0) = some r:=h
 clear h
 have H':=zx.mk H
 clear H
 go_enter Tryz.func47,Tryz.ntmps47
 go_wp2
 go_loopg [3] k (fun kq v3 w'=>∃ (qQ:Int),v3 = .int .i64 qQ ∧ zx (qN.l0 kq l0 qQ = some r) ∧ zx (kq ≤ k) ∧ zx (Below w.heap.size w w'))
 case atStart=>exact ⟨(0),(by first | rfl | (simp;done) | (simp [*];done)),H',⟨Nat.le_refl _⟩,⟨zH HB.out⟩⟩
 case round =>
  clear H'
  obtain ⟨qQ,rfl,HA,uK,HB⟩:=hrel
  cases gk with
  | zero=>exact absurd HA.out (by simp [qN.l0])
  | succ k1 =>
   have H:=HA.out
   clear HA
   simp only [qN.l0] at H
   by_cases c2:qQ < (l0.length:Int)
   ·rw [if_pos c2] at H
    have Ku:decide (qQ < (l0.length:Int)) = true:=decide_eq_true c2
    clear c2
    by_cases c3:0 ≤ qQ
    ·rw [if_pos c3] at H
     have Zh:decide (0 ≤ qQ) = true:=decide_eq_true c3
     clear c3
     replace H:=Option.bind_eq_some_iff.mp H
     obtain ⟨zKq,P6,H⟩:=H
     replace H:(if zKq = true then (qN.l0 k1 l0 (wrap64 (qQ + 1))) else (some false)) = some r:=H
     have A4:=zx.mk P6
     clear P6
     by_cases c5:zKq = true
     ·subst c5
      have H1:(qN.l0 k1 l0 (wrap64 (qQ + 1))) = some r:=by rw [if_pos rfl] at H;exact H
      clear H
      have H:=H1
      clear H1
      have H':=zx.mk H
      clear H
      have zqL:0 ≤ (qQ:Int):=of_decide_eq_true yE
      have zqM:qQ < (l0.length:Int):=of_decide_eq_true yE
      obtain ⟨zlz,zyr,zys,zyt,zyu,zyA,zyB,zaM,WC,WE,WG,WH,WI,WL,tN,tO,tT,aj,av,ak⟩:=ZY jW.out qQ zqL zqM
      cases zaM
      replace WC:=(HB.out.cell (World.block_lt_of_cell? w _ WC)).trans WC
      replace WE:=(HB.out.cell (World.block_lt_of_cell? w _ WE)).trans WE
      replace WG:=(HB.out.cell (World.block_lt_of_cell? w _ WG)).trans WG
      replace WH:=(HB.out.cell (World.block_lt_of_cell? w _ WH)).trans WH
      replace WI:=(HB.out.cell (World.block_lt_of_cell? w _ WI)).trans WI
      replace WL:=(HB.out.cell (World.block_lt_of_cell? w _ WL)).trans WL
      have zvQ:=zx.mk tO
      have zvX:=zx.mk tN
      clear tO tN
      have zvJ:=zx.mk aj
      have zvV:=zx.mk tT
      clear aj tT
      have zvK:=zx.mk ak
      have zvY:=zx.mk av
      clear ak av
      replace zqL:=eq_true zqL
      replace zqM:=eq_true zqM
      go_wp2_with (first | ((with_reducible refine yG (f:=106) rfl ?_);refine jm (some 14) Tryz.func106 #[.agg #[.string ((zw l0 qQ).f0),.bool ((zw l0 qQ).f1),.int .i64 ((zw l0 qQ).f2),.slice zyr ((zw l0 qQ).f3).length zys,.slice zyt ((zw l0 qQ).f4).length zyu,.slice zyA ((zw l0 qQ).f5).length zyB]] ?_;(with_reducible refine (xJ.calls ((zw l0 qQ).f0) ((zw l0 qQ).f1) ((zw l0 qQ).f2) _ _ ((zw l0 qQ).f3) _ _ ((zw l0 qQ).f4) _ _ ((zw l0 qQ).f5) true _ ?yc ?yI ?qy ?qw ?qD ?qE A4.out).mono ?_);(case yc=>exact ql (Kd.zu zvQ.out HB.out));(case yI=>exact zvX.out);(case qy=>exact ql (Kd.zu zvJ.out HB.out));(case qw=>exact zvV.out);(case qD=>exact ql (Kd.zu zvK.out HB.out));(case qE=>exact zvY.out);rintro e w6 ⟨rfl,hb⟩;refine ⟨_,rfl,?_⟩;have zJ:=zx.mk (zo (zH HB.out) hb);clear HB;have HB:=zJ;clear zJ;(try clear hb);(try clear hi)))
      go_roundg k1
      case measure=>have:=uK.out;omega
      case rel=>exact ⟨(wrap64 (qQ + 1)),(by first | rfl | (simp;done) | (simp [*];done)),H',⟨by have:=uK.out;omega⟩,⟨zH HB.out⟩⟩
     ·replace c5:=Bool.eq_false_iff.mpr c5
      subst c5
      have H1:(some false) = some r:=by rw [if_neg (show ¬ (false = true) by decide)] at H;exact H
      clear H
      have H:=H1
      clear H1
      obtain rfl:=Option.some.inj H
      have zqL:0 ≤ (qQ:Int):=of_decide_eq_true yE
      have zqM:qQ < (l0.length:Int):=of_decide_eq_true yE
      obtain ⟨zlz,zyr,zys,zyt,zyu,zyA,zyB,zaM,WC,WE,WG,WH,WI,WL,tN,tO,tT,aj,av,ak⟩:=ZY jW.out qQ zqL zqM
      cases zaM
      replace WC:=(HB.out.cell (World.block_lt_of_cell? w _ WC)).trans WC
      replace WE:=(HB.out.cell (World.block_lt_of_cell? w _ WE)).trans WE
      replace WG:=(HB.out.cell (World.block_lt_of_cell? w _ WG)).trans WG
      replace WH:=(HB.out.cell (World.block_lt_of_cell? w _ WH)).trans WH
      replace WI:=(HB.out.cell (World.block_lt_of_cell? w _ WI)).trans WI
      replace WL:=(HB.out.cell (World.block_lt_of_cell? w _ WL)).trans WL
      have zvQ:=zx.mk tO
      have zvX:=zx.mk tN
      clear tO tN
      have zvJ:=zx.mk aj
      have zvV:=zx.mk tT
      clear aj tT
      have zvK:=zx.mk ak
      have zvY:=zx.mk av
      clear ak av
      replace zqL:=eq_true zqL
      replace zqM:=eq_true zqM
      go_wp2_with (first | ((with_reducible refine yG (f:=106) rfl ?_);refine jm (some 14) Tryz.func106 #[.agg #[.string ((zw l0 qQ).f0),.bool ((zw l0 qQ).f1),.int .i64 ((zw l0 qQ).f2),.slice zyr ((zw l0 qQ).f3).length zys,.slice zyt ((zw l0 qQ).f4).length zyu,.slice zyA ((zw l0 qQ).f5).length zyB]] ?_;(with_reducible refine (xJ.calls ((zw l0 qQ).f0) ((zw l0 qQ).f1) ((zw l0 qQ).f2) _ _ ((zw l0 qQ).f3) _ _ ((zw l0 qQ).f4) _ _ ((zw l0 qQ).f5) false _ ?yc ?yI ?qy ?qw ?qD ?qE A4.out).mono ?_);(case yc=>exact ql (Kd.zu zvQ.out HB.out));(case yI=>exact zvX.out);(case qy=>exact ql (Kd.zu zvJ.out HB.out));(case qw=>exact zvV.out);(case qD=>exact ql (Kd.zu zvK.out HB.out));(case qE=>exact zvY.out);rintro e w7 ⟨rfl,hb⟩;refine ⟨_,rfl,?_⟩;have zJ:=zx.mk (zo (zH HB.out) hb);clear HB;have HB:=zJ;clear zJ;(try clear hb);(try clear hi)))
      go_ret
      exact ⟨by first | rfl | (simp [zM,zN] <;> rfl) | (simp [*,zM,zN] <;> rfl),by repeat (first | (with_reducible first | exact HB.out | apply yV | apply zP | apply zT) | exact HB.out)⟩
    ·rw [if_neg c3] at H
     exact absurd H (by simp)
   ·rw [if_neg c2] at H
    have Ku:decide (qQ < (l0.length:Int)) = false:=decide_eq_false c2
    clear c2
    obtain rfl:=Option.some.inj H
    go_wp2
    go_ret
    exact ⟨by first | rfl | (simp [zM,zN] <;> rfl) | (simp [*,zM,zN] <;> rfl),by repeat (first | (with_reducible first | exact HB.out | apply yV | apply zP | apply zT) | exact HB.out)⟩
end Go.Proofs.YtggifbbiiickmaaGreatDoor.PX
namespace Go.Proofs.YtggifbbiiickmaaGreatDoor.PX
open Go.RowKit Go.Proofs.zk.zA Go.Proofs.zk.yB Go.Proofs.zk.yA
attribute [local go_sem] xR xS vM vN xB xC xU vv   -- for this text's walks alone
set_option linter.unusedVariables false
set_option linter.unusedSimpArgs false
def qj.l0:Nat → ByteArray → Int → Option (Bool)
 | 0,_,_=>none
 | k + 1,x0,x3=>if x3 < (x0.size:Int) then (if 0 ≤ x3 then (if (bt x0 x3) < 33 then (some false) else (if (bt x0 x3) > 126 then (some false) else (qj.l0 k x0 (wrap64 (x3 + 1))))) else (none)) else (if (x0.size:Int) ≥ 1 then (some (decide ((x0.size:Int) ≤ 10))) else (some false))
def qj.f (k:Nat) (a0:ByteArray):Option (Bool):=qj.l0 k a0 0
set_option maxHeartbeats 8000000 in
set_option maxRecDepth 100000 in
theorem qj.calls (k:Nat) (a0:ByteArray) (r:Bool) (w:World) (h:qj.f k a0 = some r) :
  Calls Tryz.prog 49 #[.string a0] w fun e w'=>e = .returned (.bool r) ∧ yg w w':=by
 have H:(qj.l0 k a0 0) = some r:=h
 clear h
 have H':=zx.mk H
 clear H
 go_enter Tryz.func49,Tryz.ntmps49
 go_wp2
 go_loopg [3] k (fun kq v3 w'=>∃ (qQ:Int),v3 = .int .i64 qQ ∧ zx (qj.l0 kq a0 qQ = some r) ∧ zx (kq ≤ k) ∧ yg w w')
 case atStart=>exact ⟨(0),(by first | rfl | (simp;done) | (simp [*];done)),H',⟨Nat.le_refl _⟩,by repeat (first | exact yg.refl _ | apply yg.step)⟩
 case round =>
  clear H'
  obtain ⟨qQ,rfl,HA,uK,⟨m1,rfl⟩⟩:=hrel
  cases gk with
  | zero=>exact absurd HA.out (by simp [qj.l0])
  | succ k1 =>
   have H:=HA.out
   clear HA
   simp only [qj.l0] at H
   by_cases c2:qQ < (a0.size:Int)
   ·rw [if_pos c2] at H
    have Ku:decide (qQ < (a0.size:Int)) = true:=decide_eq_true c2
    clear c2
    by_cases c3:0 ≤ qQ
    ·rw [if_pos c3] at H
     have Zh:decide (0 ≤ qQ) = true:=decide_eq_true c3
     clear c3
     by_cases c5:(bt a0 qQ) < 33
     ·rw [if_pos c5] at H
      have wR:decide ((bt a0 qQ) < 33) = true:=decide_eq_true c5
      clear c5
      obtain rfl:=Option.some.inj H
      have p4:0 ≤ (qQ:Int):=of_decide_eq_true yE
      have q4:qQ < (a0.size:Int):=of_decide_eq_true yE
      have hx4:=J6 a0 qQ
      replace p4:=eq_true p4
      replace q4:=eq_true q4
      go_wp2
      go_ret
      exact ⟨by first | rfl | (simp;done) | (simp [*];done),by repeat (first | exact yg.refl _ | apply yg.step)⟩
     ·rw [if_neg c5] at H
      have wR:decide ((bt a0 qQ) < 33) = false:=decide_eq_false c5
      clear c5
      by_cases c7:(bt a0 qQ) > 126
      ·rw [if_pos c7] at H
       have XJ:decide (126 < (bt a0 qQ)) = true:=decide_eq_true c7
       clear c7
       obtain rfl:=Option.some.inj H
       have p4:0 ≤ (qQ:Int):=of_decide_eq_true yE
       have q4:qQ < (a0.size:Int):=of_decide_eq_true yE
       have hx4:=J6 a0 qQ
       replace p4:=eq_true p4
       replace q4:=eq_true q4
       have p6:0 ≤ (qQ:Int):=of_decide_eq_true yE
       have q6:qQ < (a0.size:Int):=of_decide_eq_true yE
       have hx6:=J6 a0 qQ
       replace p6:=eq_true p6
       replace q6:=eq_true q6
       go_wp2
       go_ret
       exact ⟨by first | rfl | (simp;done) | (simp [*];done),by repeat (first | exact yg.refl _ | apply yg.step)⟩
      ·rw [if_neg c7] at H
       have XJ:decide (126 < (bt a0 qQ)) = false:=decide_eq_false c7
       clear c7
       have H':=zx.mk H
       clear H
       have p4:0 ≤ (qQ:Int):=of_decide_eq_true yE
       have q4:qQ < (a0.size:Int):=of_decide_eq_true yE
       have hx4:=J6 a0 qQ
       replace p4:=eq_true p4
       replace q4:=eq_true q4
       have p6:0 ≤ (qQ:Int):=of_decide_eq_true yE
       have q6:qQ < (a0.size:Int):=of_decide_eq_true yE
       have hx6:=J6 a0 qQ
       replace p6:=eq_true p6
       replace q6:=eq_true q6
       go_wp2
       go_roundg k1
       case measure=>have:=uK.out;omega
       case rel=>exact ⟨(wrap64 (qQ + 1)),(by first | rfl | (simp;done) | (simp [*];done)),H',⟨by have:=uK.out;omega⟩,by repeat (first | exact yg.refl _ | apply yg.step)⟩
    ·rw [if_neg c3] at H
     exact absurd H (by simp)
   ·rw [if_neg c2] at H
    have Ku:decide (qQ < (a0.size:Int)) = false:=decide_eq_false c2
    clear c2
    by_cases c8:(a0.size:Int) ≥ 1
    ·rw [if_pos c8] at H
     have X6:decide (1 ≤ (a0.size:Int)) = true:=decide_eq_true c8
     have dP:decide (1 ≤ a0.size) = true:=decide_eq_true (by omega)
     clear c8
     obtain rfl:=Option.some.inj H
     go_wp2
     go_ret
     exact ⟨by first | rfl | (simp;done) | (simp [*];done),by repeat (first | exact yg.refl _ | apply yg.step)⟩
    ·rw [if_neg c8] at H
     have X6:decide (1 ≤ (a0.size:Int)) = false:=decide_eq_false c8
     have dP:decide (1 ≤ a0.size) = false:=decide_eq_false (by omega)
     clear c8
     obtain rfl:=Option.some.inj H
     go_wp2
     go_ret
     exact ⟨by first | rfl | (simp;done) | (simp [*];done),by repeat (first | exact yg.refl _ | apply yg.step)⟩
end Go.Proofs.YtggifbbiiickmaaGreatDoor.PX
namespace Go.Proofs.YtggifbbiiickmaaGreatDoor.PX
open Go.RowKit Go.Proofs.zk.zA Go.Proofs.zk.yB Go.Proofs.zk.yA
attribute [local go_sem] xR xS vM vN xB xC xU vv   -- for this text's walks alone
set_option linter.unusedVariables false
set_option linter.unusedSimpArgs false
def qA.l0:Nat → ByteArray → List (kV) → Int → Option (ByteArray)
 | 0,_,_,_=>none
 | k + 1,x0,x1,x5=>if x5 < (x1.length:Int) then (if 0 ≤ x5 then (if ((j4 x1 x5).f0).toList = x0.toList then (some ((j4 x1 x5).f1)) else (qA.l0 k x0 x1 (wrap64 (x5 + 1)))) else (none)) else (some x0)
def qA.f (k:Nat) (a0:ByteArray) (l1:List (kV)):Option (ByteArray):=qA.l0 k a0 l1 0
set_option maxHeartbeats 8000000 in
set_option maxRecDepth 100000 in
theorem qA.calls (k:Nat) (a0:ByteArray) (A1:Option Addr) (c1:Nat) (l1:List (kV)) (r:ByteArray) (w:World) (hr1:Kd.C Vt w A1 l1.length l1) (hc1:l1.length ≤ c1) (h:qA.f k a0 l1 = some r) :
  Calls Tryz.prog 50 #[.string a0,.slice A1 l1.length c1] w fun e w'=>e = .returned (.string r) ∧ yg w w':=by
 have HR1:=zx.mk hr1
 have HC1:=zx.mk hc1
 clear hr1 hc1
 have H:(qA.l0 k a0 l1 0) = some r:=h
 clear h
 have H':=zx.mk H
 clear H
 go_enter Tryz.func50,Tryz.ntmps50
 go_wp2
 go_loopg [5] k (fun kq v5 w'=>∃ (zR:Int),v5 = .int .i64 zR ∧ zx (qA.l0 kq a0 l1 zR = some r) ∧ zx (kq ≤ k) ∧ yg w w')
 case atStart=>exact ⟨(0),(by first | rfl | (simp;done) | (simp [*];done)),H',⟨Nat.le_refl _⟩,by repeat (first | exact yg.refl _ | apply yg.step)⟩
 case round =>
  clear H'
  try clear c1
  obtain ⟨zR,rfl,HA,uK,⟨m1,rfl⟩⟩:=hrel
  cases gk with
  | zero=>exact absurd HA.out (by simp [qA.l0])
  | succ k1 =>
   have H:=HA.out
   clear HA
   simp only [qA.l0] at H
   by_cases c3:zR < (l1.length:Int)
   ·rw [if_pos c3] at H
    have Zh:decide (zR < (l1.length:Int)) = true:=decide_eq_true c3
    clear c3
    by_cases c4:0 ≤ zR
    ·rw [if_pos c4] at H
     have ZI:decide (0 ≤ zR) = true:=decide_eq_true c4
     clear c4
     by_cases c5:((j4 l1 zR).f0).toList = a0.toList
     ·rw [if_pos c5] at H
      have wR:(((j4 l1 zR).f0).toList == a0.toList) = true:=beq_iff_eq.mpr c5
      have zqm:(((j4 l1 zR).f0).toList != a0.toList) = false:=bne_eq_false_iff_eq.mpr c5
      clear c5
      obtain rfl:=Option.some.inj H
      have zqN:0 ≤ (zR:Int):=of_decide_eq_true yE
      have zqO:zR < (l1.length:Int):=of_decide_eq_true yE
      obtain ⟨zcr,zaN,zeA,zeB⟩:=Vw HR1.out zR zqN zqO
      cases zaN
      replace zqN:=eq_true zqN
      replace zqO:=eq_true zqO
      have zaO:0 ≤ (zR:Int):=of_decide_eq_true yE
      have zaP:zR < (l1.length:Int):=of_decide_eq_true yE
      obtain ⟨zlq,zns,zp5,zp6⟩:=Vw HR1.out zR zaO zaP
      obtain rfl:zcr = zlq:=(by injection zns)
      replace zaO:=eq_true zaO
      replace zaP:=eq_true zaP
      go_wp2
      go_ret
      exact ⟨by first | rfl | (simp;done) | (simp [*];done),by repeat (first | exact yg.refl _ | apply yg.step)⟩
     ·rw [if_neg c5] at H
      have wR:(((j4 l1 zR).f0).toList == a0.toList) = false:=beq_eq_false_iff_ne.mpr c5
      have zqm:(((j4 l1 zR).f0).toList != a0.toList) = true:=bne_iff_ne.mpr c5
      have H':=zx.mk H
      clear H
      have zqN:0 ≤ (zR:Int):=of_decide_eq_true yE
      have zqO:zR < (l1.length:Int):=of_decide_eq_true yE
      obtain ⟨zcr,zaN,zeA,zeB⟩:=Vw HR1.out zR zqN zqO
      cases zaN
      replace zqN:=eq_true zqN
      replace zqO:=eq_true zqO
      go_wp2
      go_roundg k1
      case measure=>have:=uK.out;omega
      case rel=>exact ⟨(wrap64 (zR + 1)),(by first | rfl | (simp;done) | (simp [*];done)),H',⟨by have:=uK.out;omega⟩,by repeat (first | exact yg.refl _ | apply yg.step)⟩
    ·rw [if_neg c4] at H
     exact absurd H (by simp)
   ·rw [if_neg c3] at H
    have Zh:decide (zR < (l1.length:Int)) = false:=decide_eq_false c3
    clear c3
    obtain rfl:=Option.some.inj H
    go_wp2
    go_ret
    exact ⟨by first | rfl | (simp;done) | (simp [*];done),by repeat (first | exact yg.refl _ | apply yg.step)⟩
end Go.Proofs.YtggifbbiiickmaaGreatDoor.PX
namespace Go.Proofs.YtggifbbiiickmaaGreatDoor.PX
open Go.RowKit Go.Proofs.zk.zA Go.Proofs.zk.yB Go.Proofs.zk.yA
attribute [local go_sem] xR xS vM vN xB xC xU vv   -- for this text's walks alone
set_option linter.unusedVariables false
set_option linter.unusedSimpArgs false
mutual
def z8.l0:Nat → List ByteArray → List ByteArray → Int → ByteArray → Bool → Int → List (uX) → List (uo) → List (uG) → Option (List ByteArray)
 | 0,_,_,_,_,_,_,_,_,_=>none
 | k + 1,x1,x5,x6,dV,dK,dY,dW,dh,dn=>if x6 < (x1.length:Int) then (if 0 ≤ x6 then (z8.l1 k x1 x5 x6 (qJ ByteArray.empty x1 x6) dV dK dY dW dh dn) else (none)) else (some x5)
def z8.l1:Nat → List ByteArray → List ByteArray → Int → ByteArray → ByteArray → Bool → Int → List (uX) → List (uo) → List (uG) → Option (List ByteArray)
 | 0,_,_,_,_,_,_,_,_,_,_=>none
 | k + 1,x1,x5,x6,x7,dV,dK,dY,dW,dh,dn=>if (wrap64 (x6 + 1)) < (x1.length:Int) then (if 0 ≤ (wrap64 (x6 + 1)) then ((kH.f k dV dK dY dW dh dn x7 (qJ ByteArray.empty x1 (wrap64 (x6 + 1)))).bind fun zxL=>(if zxL.2 = true then (z8.l1 k x1 x5 (wrap64 (x6 + 1)) zxL.1 dV dK dY dW dh dn) else (if x5.length < 8796093022208 then (z8.l0 k x1 (x5 ++ [x7]) (wrap64 (x6 + 1)) dV dK dY dW dh dn) else (none)))) else (none)) else (if x5.length < 8796093022208 then (z8.l0 k x1 (x5 ++ [x7]) (wrap64 (x6 + 1)) dV dK dY dW dh dn) else (none))
end
def z8.f (k:Nat) (zB:ByteArray) (zD:Bool) (zC:Int) (zn:List (uX)) (zG:List (uo)) (zF:List (uG)) (l1:List ByteArray):Option (List ByteArray):=z8.l0 k l1 ([]:List ByteArray) 0 zB zD zC zn zG zF
def z8.T7:Bool × List (List Nat × List Nat):=(true,[([],[]),([],[]),([],[]),([],[]),([3],[3]),([2,4],[2,4]),([5],[5]),([0,1,6],[0,1,6]),([7],[7]),([8],[8]),([8],[8]),([9,7,0,1,2,3,4,5,6,7,8,9],[9]),([10,11,0,1,2,3,4,5,6,7,8,9,10,11],[10])])
def z8.B7:List Nat:=[0,0,0,0,8,28,60,127,255,511,511,1023,4095]
theorem z8.zqP:vR .any (opsOf Tryz.f51 7) = z8.T7:=by kernel_rfl
theorem z8.lW:uV z8.T7.2 z8.B7 = true:=by kernel_rfl
set_option maxHeartbeats 8000000 in
set_option maxRecDepth 100000 in
theorem z8.calls (k:Nat) (zB:ByteArray) (zD:Bool) (zC:Int) (yO:Option Addr) (yP:Nat) (zn:List (uX)) (yR:Option Addr) (yS:Nat) (zG:List (uo)) (yT:Option Addr) (yU:Nat) (zF:List (uG)) (A1:Option Addr) (c1:Nat) (l1:List ByteArray) (r:List ByteArray) (w:World) (uS:Kd.C YK w yO zn.length zn) (jF:zn.length ≤ yP) (jG:Kd.C Yo w yR zG.length zG) (jH:zG.length ≤ yS) (jI:Kd.C Yu w yT zF.length zF) (jL:zF.length ≤ yU) (hr1:Kd.C Kd.string w A1 l1.length l1) (hc1:l1.length ≤ c1) (h:z8.f k zB zD zC zn zG zF l1 = some r) :
  Calls Tryz.prog 51 #[.agg #[.string zB,.bool zD,.int .i64 zC,.slice yO zn.length yP,.slice yR zG.length yS,.slice yT zF.length yU],.slice A1 l1.length c1] w fun e w'=>∃ Qw:Value,e = .returned (Qw) ∧ Kd.R Kd.string 9 w' w.heap.size (fun _=>True) Qw r ∧ Below w.heap.size w w':=by
 have VW:=Tryz.underlying101
 have jr:=zx.mk uS
 have kM:=zx.mk jF
 clear uS jF
 have jA:=zx.mk jG
 have kN:=zx.mk jH
 clear jG jH
 have jB:=zx.mk jI
 have kP:=zx.mk jL
 clear jI jL
 have HR1:=zx.mk hr1
 have HC1:=zx.mk hc1
 clear hr1 hc1
 have HB:=zx.mk (Below.refl w.heap.size w)
 have H:(z8.l0 k l1 ([]:List ByteArray) 0 zB zD zC zn zG zF) = some r:=h
 clear h
 have H':=zx.mk H
 clear H
 go_enter Tryz.func51,Tryz.ntmps51
 go_wp2_with (first | ((with_reducible refine qC (N:=2) rfl ?_);refine qM ?hg (N:=2) ?hd (cs:=#[.string zB,.bool zD,.int .i64 zC,.slice yO zn.length yP,.slice yR zG.length yS,.slice yT zF.length yU]) (t:=101) ?hr ?_;(case hd=>rfl);(case hg=>rfl);(case hr=>first | (go_simp;done) | (go_simp;rfl));intro Zo hg w3 qc hb;have zJ:=zx.mk (zo (zH HB.out) hb);have zK:=zx.mk (qc);have zi:=zx.mk ((by rw [hg];exact (ze (zH HB.out)):w.heap.size ≤ Zo));have zL:=zx.mk ((by rw [hg];exact (ze (zH HB.out)):w.heap.size ≤ Zo));clear HB;have HB:=zJ;have vF:=zK;have zuj:=zi;have zlx:=zL;clear zJ zK zi zL;clear hb qc hg))
 go_loopg [5,6] k (fun kq v5 v6 w'=>∃ (zR:List ByteArray) (WM:Int),v6 = .int .i64 WM ∧ zx (z8.l0 kq l1 zR WM zB zD zC zn zG zF = some r) ∧ zx (kq ≤ k) ∧ zx (Kd.R Kd.string 9 w' w.heap.size (fun _=>True) v5 zR) ∧ zx (w'.heap[Zo]? = some (.cells #[.string zB,.bool zD,.int .i64 zC,(.slice yO zn.length yP),(.slice yR zG.length yS),(.slice yT zF.length yU)] 101 (0,0))) ∧ zx (Below w.heap.size w w'))
 case atStart=>exact ⟨(([]:List ByteArray)),(0),(by first | rfl | (simp;done) | (simp [*];done)),H',⟨Nat.le_refl _⟩,⟨by first | exact Kd.jw _ _ _ _ _ | exact Kd.Yc _ _ _ _ _ | exact Kd.Yd _ _ _ _ _ | exact Kd.Ya _ _ _ _ _ | exact Kd.YQ _ _ _ _ _⟩,⟨qh vF.out⟩,⟨zH HB.out⟩⟩
 case round =>
  clear H'
  try clear c1
  obtain ⟨zR,WM,rfl,HA,uK,ZO,vF,HB⟩:=hrel
  cases gk with
  | zero=>exact absurd HA.out (by simp [z8.l0])
  | succ k1 =>
   have H:=HA.out
   clear HA
   simp only [z8.l0] at H
   by_cases c4:WM < (l1.length:Int)
   ·rw [if_pos c4] at H
    have ZI:decide (WM < (l1.length:Int)) = true:=decide_eq_true c4
    clear c4
    by_cases c5:0 ≤ WM
    ·rw [if_pos c5] at H
     have wR:decide (0 ≤ WM) = true:=decide_eq_true c5
     clear c5
     have H':=zx.mk H
     clear H
     have zKx:0 ≤ (WM:Int):=of_decide_eq_true yE
     have zKj:WM < (l1.length:Int):=of_decide_eq_true yE
     obtain ⟨zkB,znt,zzL⟩:=Kd.uw HR1.out WM zKx zKj
     cases znt
     replace zzL:=(HB.out.cell (World.block_lt_of_cell? w _ zzL)).trans zzL
     replace zKx:=eq_true zKx
     replace zKj:=eq_true zKj
     go_wp2
     go_loopg [6,7] k1 (fun kq v6 v7 w'=>∃ (jl:Int) (QV:ByteArray),v6 = .int .i64 jl ∧ v7 = .string QV ∧ zx (z8.l1 kq l1 zR jl QV zB zD zC zn zG zF = some r) ∧ zx (kq ≤ k1) ∧ zx (Kd.R Kd.string 9 w' w.heap.size (fun _=>True) u5 zR) ∧ zx (w'.heap[Zo]? = some (.cells #[.string zB,.bool zD,.int .i64 zC,(.slice yO zn.length yP),(.slice yR zG.length yS),(.slice yT zF.length yU)] 101 (0,0))) ∧ zx (Below w.heap.size w w'))
     case atStart=>exact ⟨(WM),(qJ ByteArray.empty l1 WM),(by first | rfl | (simp;done) | (simp [*];done)),(by first | rfl | (simp;done) | (simp [*];done)),H',⟨Nat.le_refl _⟩,⟨qp ZO.out⟩,⟨qh vF.out⟩,⟨zH HB.out⟩⟩
     case round =>
      clear H'
      try clear c1
      try clear c4
      try clear ZI
      try clear c5
      try clear wR
      try clear zzL
      try clear zKx
      try clear zKj
      obtain ⟨jl,QV,rfl,rfl,HA,QJ,ZO,vF,HB⟩:=hrel
      cases gk with
      | zero=>exact absurd HA.out (by simp [z8.l1])
      | succ k2 =>
       have H:=HA.out
       clear HA
       simp only [z8.l1] at H
       by_cases c6:(wrap64 (jl + 1)) < (l1.length:Int)
       ·rw [if_pos c6] at H
        have pq:decide ((wrap64 (jl + 1)) < (l1.length:Int)) = true:=decide_eq_true c6
        clear c6
        obtain ⟨Yr,oP⟩:∃ j_:Int,(wrap64 (jl + 1)) = j_:=⟨_,rfl⟩
        replace H:(if 0 ≤ (Yr) then ((kH.f k2 zB zD zC zn zG zF QV (qJ ByteArray.empty l1 (Yr))).bind fun zxL=>(if zxL.2 = true then (z8.l1 k2 l1 zR Yr zxL.1 zB zD zC zn zG zF) else (if zR.length < 8796093022208 then (z8.l0 k2 l1 (zR ++ [QV]) Yr zB zD zC zn zG zF) else (none)))) else (none)) = some r:=by first | (rw [oP] at H;exact H) | (simp only [oP] at H ⊢;exact H)
        (try rw [oP] at pq)
        have zuv:(IntKind.i64.wrap (jl + 1)) = Yr:=(uF _).trans oP
        by_cases c8:0 ≤ (Yr)
        ·rw [if_pos c8] at H
         have X6:decide (0 ≤ (Yr)) = true:=decide_eq_true c8
         clear c8
         replace H:=Option.bind_eq_some_iff.mp H
         obtain ⟨⟨t148,zgP⟩,oM,H⟩:=H
         replace H:(if zgP = true then (z8.l1 k2 l1 zR Yr t148 zB zD zC zn zG zF) else (if zR.length < 8796093022208 then (z8.l0 k2 l1 (zR ++ [QV]) Yr zB zD zC zn zG zF) else (none))) = some r:=H
         have A9:=zx.mk oM
         clear oM
         by_cases c10:zgP = true
         ·subst c10
          have H1:(z8.l1 k2 l1 zR Yr t148 zB zD zC zn zG zF) = some r:=by rw [if_pos rfl] at H;exact H
          clear H
          have H:=H1
          clear H1
          have H':=zx.mk H
          clear H
          try go_wp2
          have zJ:=zx.mk (Kd.vB ZO.out)
          have zK:=zx.mk (qK vF.out)
          have zi:=zx.mk (zT HB.out)
          clear ZO vF HB
          have ZO:=zJ
          have vF:=zK
          have HB:=zi
          clear zJ zK zi
          have zqR:0 ≤ ((Yr):Int):=of_decide_eq_true yE
          have zqS:(Yr) < (l1.length:Int):=of_decide_eq_true yE
          obtain ⟨zKv,zaR,YL⟩:=Kd.uw HR1.out (Yr) zqR zqS
          have Qh:=YL
          obtain rfl:zkB = zKv:=(by injection zaR)
          replace YL:=(HB.out.cell (World.block_lt_of_cell? w _ YL)).trans YL
          replace zqR:=eq_true zqR
          replace zqS:=eq_true zqS
          refine jy (n:=13) (S:=fun w'=>w'.cell? ⟨Zo,0,none⟩ = some (.string zB) ∧ w'.cell? ⟨Zo,1,none⟩ = some (.bool zD) ∧ w'.cell? ⟨Zo,2,none⟩ = some (.int .i64 zC) ∧ w'.cell? ⟨Zo,3,none⟩ = some (.slice yO zn.length yP) ∧ w'.cell? ⟨Zo,4,none⟩ = some (.slice yR zG.length yS) ∧ w'.cell? ⟨Zo,5,none⟩ = some (.slice yT zF.length yU) ∧ w'.cell? (zkB.add ((Yr)).toNat) = some (.string (qJ ByteArray.empty l1 (Yr)))) (ds:=[]) #[false,false,false,false,false,false,false,false,false,false,false,false,false] (by kernel_rfl) rfl rfl ⟨zZ vF 0,zZ vF 1,zZ vF 2,zZ vF 3,zZ vF 4,zZ vF 5,((HB.out.cell (World.block_lt_of_cell? w _ Qh)).trans Qh)⟩ (fun hHeld=>?_);refine uZ z8.zqP z8.lW (fun za vC=>?_)
          generalize wr.drew = oq at ZO vF HB YL hHeld ⊢
          refine yQ 1 (some 27) za ?_
          refine yQ 2 (some 28) za ?_
          refine yQ 3 (some 29) za ?_
          refine yQ 4 (some 30) za ?_
          refine yQ 5 (some 31) za ?_
          refine jg 0 (some 26) za vC hHeld ?_
          refine jg 6 (some 32) za vC hHeld ?_
          refine wZ 7 (some 33) za (fun K hK=>?_)
          refine je Tryz.func107 (by kernel_rfl) rfl #[.agg #[.string zB,.bool zD,.int .i64 zC,.slice yO zn.length yP,.slice yR zG.length yS,.slice yT zF.length yU],.string QV,.string (qJ ByteArray.empty l1 (Yr))] (by rfl) rfl rfl (by (try simp only [List.map_toArray,List.map_cons,List.map_nil]);first | done | (simp only [oP];rfl) | rfl | (simp only [List.length_drop,List.length_take];rfl)) ?_
          with_reducible refine (kH.calls k2 zB zD zC _ _ zn _ _ zG _ _ zF QV (qJ ByteArray.empty l1 (Yr)) t148 true _ ?yc ?yI ?qy ?qw ?qD ?qE A9.out).mono ?_
          (case yc=>exact ql (Kd.zu jr.out HB.out))
          (case yI=>exact kM.out)
          (case qy=>exact ql (Kd.zu jA.out HB.out))
          (case qw=>exact kN.out)
          (case qD=>exact ql (Kd.zu jB.out HB.out))
          (case qE=>exact kP.out)
          rintro e Yq ⟨rfl,hb⟩
          refine ⟨_,rfl,?_⟩
          have zJ:=zx.mk (Kd.qG (qp ZO.out) hb)
          have zK:=zx.mk (zU (g:=Zo) (o:=.cells #[.string zB,.bool zD,.int .i64 zC,.slice yO zn.length yP,.slice yR zG.length yS,.slice yT zF.length yU] 101 (0,0)) (qh vF.out) hb)
          have zi:=zx.mk (zo (zH HB.out) hb)
          clear ZO vF HB
          have ZO:=zJ
          have vF:=zK
          have HB:=zi
          clear zJ zK zi
          (try clear hb)
          (try clear hk)
          refine hK.out _ _ ⟨zZ vF 0,zZ vF 1,zZ vF 2,zZ vF 3,zZ vF 4,zZ vF 5,((HB.out.cell (World.block_lt_of_cell? w _ Qh)).trans Qh)⟩ (fun hHeld=>?_)
          clear hK K
          refine wY (some 33) ?_
          refine yQ 8 (some 25) za ?_
          refine yQ 9 (some 34) za ?_
          refine yQ 10 (some 35) za ?_
          refine yQ 11 (some 8) za ?_
          refine yQ 12 (some 9) za ?_
          refine xP (qH za.out (by kernel_rfl)) ?_
          try go_wp2
          go_roundg k2
          case measure=>have:=uK.out;have:=QJ.out;omega
          case rel=>exact ⟨(Yr),(t148),(by first | rfl | (simp;done) | (simp only [← oP] <;> (first | rfl | simp)) | (simp [*];done)),(by first | rfl | (simp;done) | (simp [*];done)),H',⟨by have:=uK.out;have:=QJ.out;omega⟩,⟨qp ZO.out⟩,⟨qh vF.out⟩,⟨zH HB.out⟩⟩
         ·replace c10:=Bool.eq_false_iff.mpr c10
          subst c10
          have H1:(if zR.length < 8796093022208 then (z8.l0 k2 l1 (zR ++ [QV]) Yr zB zD zC zn zG zF) else (none)) = some r:=by rw [if_neg (show ¬ (false = true) by decide)] at H;exact H
          clear H
          have H:=H1
          clear H1
          by_cases c13:zR.length < 8796093022208
          ·rw [if_pos c13] at H
           have zlj:=zx.mk c13
           clear c13
           obtain ⟨y150,hy150⟩:∃ y_:List ByteArray,y_ = (zR ++ [QV]):=⟨_,rfl⟩
           replace H:(z8.l0 k2 l1 y150 Yr zB zD zC zn zG zF) = some r:=by first | (rw [hy150];with_reducible exact H) | (have jC:=(Option.bind_some _ _).symm.trans H;rw [hy150];with_reducible exact jC) | (have jC:=(Option.bind_some _ _).symm.trans H;with_reducible exact jC) | with_reducible exact H | (rw [hy150];exact H) | exact H
           have zlv:=zx.mk hy150
           clear hy150
           have H':=zx.mk H
           clear H
           try go_wp2
           have zJ:=zx.mk (Kd.vB ZO.out)
           have zK:=zx.mk (qK vF.out)
           have zi:=zx.mk (zT HB.out)
           clear ZO vF HB
           have ZO:=zJ
           have vF:=zK
           have HB:=zi
           clear zJ zK zi
           have zqR:0 ≤ ((Yr):Int):=of_decide_eq_true yE
           have zqS:(Yr) < (l1.length:Int):=of_decide_eq_true yE
           obtain ⟨zKv,zaR,YL⟩:=Kd.uw HR1.out (Yr) zqR zqS
           have Qh:=YL
           obtain rfl:zkB = zKv:=(by injection zaR)
           replace YL:=(HB.out.cell (World.block_lt_of_cell? w _ YL)).trans YL
           replace zqR:=eq_true zqR
           replace zqS:=eq_true zqS
           refine jy (n:=13) (S:=fun w'=>w'.cell? ⟨Zo,0,none⟩ = some (.string zB) ∧ w'.cell? ⟨Zo,1,none⟩ = some (.bool zD) ∧ w'.cell? ⟨Zo,2,none⟩ = some (.int .i64 zC) ∧ w'.cell? ⟨Zo,3,none⟩ = some (.slice yO zn.length yP) ∧ w'.cell? ⟨Zo,4,none⟩ = some (.slice yR zG.length yS) ∧ w'.cell? ⟨Zo,5,none⟩ = some (.slice yT zF.length yU) ∧ w'.cell? (zkB.add ((Yr)).toNat) = some (.string (qJ ByteArray.empty l1 (Yr)))) (ds:=[]) #[false,false,false,false,false,false,false,false,false,false,false,false,false] (by kernel_rfl) rfl rfl ⟨zZ vF 0,zZ vF 1,zZ vF 2,zZ vF 3,zZ vF 4,zZ vF 5,((HB.out.cell (World.block_lt_of_cell? w _ Qh)).trans Qh)⟩ (fun hHeld=>?_);refine uZ z8.zqP z8.lW (fun za vC=>?_)
           generalize wr.drew = Kg at ZO vF HB YL hHeld ⊢
           refine yQ 1 (some 27) za ?_
           refine yQ 2 (some 28) za ?_
           refine yQ 3 (some 29) za ?_
           refine yQ 4 (some 30) za ?_
           refine yQ 5 (some 31) za ?_
           refine jg 0 (some 26) za vC hHeld ?_
           refine jg 6 (some 32) za vC hHeld ?_
           refine wZ 7 (some 33) za (fun K hK=>?_)
           refine je Tryz.func107 (by kernel_rfl) rfl #[.agg #[.string zB,.bool zD,.int .i64 zC,.slice yO zn.length yP,.slice yR zG.length yS,.slice yT zF.length yU],.string QV,.string (qJ ByteArray.empty l1 (Yr))] (by rfl) rfl rfl (by (try simp only [List.map_toArray,List.map_cons,List.map_nil]);first | done | (simp only [oP];rfl) | rfl | (simp only [List.length_drop,List.length_take];rfl)) ?_
           with_reducible refine (kH.calls k2 zB zD zC _ _ zn _ _ zG _ _ zF QV (qJ ByteArray.empty l1 (Yr)) t148 false _ ?yc ?yI ?qy ?qw ?qD ?qE A9.out).mono ?_
           (case yc=>exact ql (Kd.zu jr.out HB.out))
           (case yI=>exact kM.out)
           (case qy=>exact ql (Kd.zu jA.out HB.out))
           (case qw=>exact kN.out)
           (case qD=>exact ql (Kd.zu jB.out HB.out))
           (case qE=>exact kP.out)
           rintro e Zi ⟨rfl,hb⟩
           refine ⟨_,rfl,?_⟩
           have zJ:=zx.mk (Kd.qG (qp ZO.out) hb)
           have zK:=zx.mk (zU (g:=Zo) (o:=.cells #[.string zB,.bool zD,.int .i64 zC,.slice yO zn.length yP,.slice yR zG.length yS,.slice yT zF.length yU] 101 (0,0)) (qh vF.out) hb)
           have zi:=zx.mk (zo (zH HB.out) hb)
           clear ZO vF HB
           have ZO:=zJ
           have vF:=zK
           have HB:=zi
           clear zJ zK zi
           (try clear hb)
           (try clear hk)
           refine hK.out _ _ ⟨zZ vF 0,zZ vF 1,zZ vF 2,zZ vF 3,zZ vF 4,zZ vF 5,((HB.out.cell (World.block_lt_of_cell? w _ Qh)).trans Qh)⟩ (fun hHeld=>?_)
           clear hK K
           refine wY (some 33) ?_
           refine yQ 8 (some 25) za ?_
           refine yQ 9 (some 34) za ?_
           refine yQ 10 (some 35) za ?_
           refine yQ 11 (some 8) za ?_
           refine yQ 12 (some 9) za ?_
           refine xP (qH za.out (by kernel_rfl)) ?_
           try go_wp2_with (first | ((with_reducible refine pR (b:=.append) (xs:=#[.tmp 41,.tmp 43]) rfl ?_);at_builtin;refine Kd.Qy Kd.string (w0:=w) w.heap.size rfl (.tmp 41) (.tmp 43) 27 9 (.string ⟨#[]⟩) 16 rfl Tryz.underlying27 zzo rfl (by decide) (by omega) u5 zR QV [.string QV] (fun _=>True) (fun _=>False) rfl rfl ?aP (fun _ hk=>hk.elim) ?aF ?aO ?aB ?aS ?aL ?_;(case aP=>exact rfl);(case aB=>exact (zH HB.out));(case aF=>exact (fun _ _=>trivial));(case aO=>exact (qp ZO.out));(case aS=>exact (ze (zH HB.out)));(case aL=>have:=zlj.out;omega);intro zAk w16 ho hb hg hat;rw [← zlv.out] at ho;have zJ:=zx.mk (uO (g:=Zo) (o:=.cells #[.string zB,.bool zD,.int .i64 zC,.slice yO zn.length yP,.slice yR zG.length yS,.slice yT zF.length yU] 101 (0,0)) (qh vF.out) hg (Kd.Vz ZO.out vF.out (by decide)));have zK:=zx.mk (hb);have zi:=zx.mk (ho);clear vF;clear HB;clear ZO;have vF:=zJ;have HB:=zK;have zlk:=zi;clear zJ zK zi;clear ho hb hg hat))
           go_roundg k2
           case measure=>have:=uK.out;have:=QJ.out;omega
           case rel=>exact ⟨(y150),(Yr),(by first | rfl | (simp;done) | (simp only [← oP] <;> (first | rfl | simp)) | (simp [*];done)),H',⟨by have:=uK.out;have:=QJ.out;omega⟩,⟨qp zlk.out⟩,⟨qh vF.out⟩,⟨zH HB.out⟩⟩
          ·rw [if_neg c13] at H
           exact absurd H (by simp)
        ·rw [if_neg c8] at H
         exact absurd H (by simp)
       ·rw [if_neg c6] at H
        have pq:decide ((wrap64 (jl + 1)) < (l1.length:Int)) = false:=decide_eq_false c6
        clear c6
        by_cases c17:zR.length < 8796093022208
        ·rw [if_pos c17] at H
         have zly:=zx.mk c17
         clear c17
         obtain ⟨y153,hy153⟩:∃ y_:List ByteArray,y_ = (zR ++ [QV]):=⟨_,rfl⟩
         replace H:(z8.l0 k2 l1 y153 (wrap64 (jl + 1)) zB zD zC zn zG zF) = some r:=by first | (rw [hy153];with_reducible exact H) | (have jC:=(Option.bind_some _ _).symm.trans H;rw [hy153];with_reducible exact jC) | (have jC:=(Option.bind_some _ _).symm.trans H;with_reducible exact jC) | with_reducible exact H | (rw [hy153];exact H) | exact H
         have zlw:=zx.mk hy153
         clear hy153
         have H':=zx.mk H
         clear H
         go_wp2_with (first | ((with_reducible refine pR (b:=.append) (xs:=#[.tmp 41,.tmp 43]) rfl ?_);at_builtin;refine Kd.Qy Kd.string (w0:=w) w.heap.size rfl (.tmp 41) (.tmp 43) 27 9 (.string ⟨#[]⟩) 16 rfl Tryz.underlying27 zzo rfl (by decide) (by omega) u5 zR QV [.string QV] (fun _=>True) (fun _=>False) rfl rfl ?aP (fun _ hk=>hk.elim) ?aF ?aO ?aB ?aS ?aL ?_;(case aP=>exact rfl);(case aB=>exact (zH HB.out));(case aF=>exact (fun _ _=>trivial));(case aO=>exact (qp ZO.out));(case aS=>exact (ze (zH HB.out)));(case aL=>have:=zly.out;omega);intro v154 gK ho hb hg hat;rw [← zlw.out] at ho;have zJ:=zx.mk (uO (g:=Zo) (o:=.cells #[.string zB,.bool zD,.int .i64 zC,.slice yO zn.length yP,.slice yR zG.length yS,.slice yT zF.length yU] 101 (0,0)) (qh vF.out) hg (Kd.Vz ZO.out vF.out (by decide)));have zK:=zx.mk (hb);have zi:=zx.mk (ho);clear vF;clear HB;clear ZO;have vF:=zJ;have HB:=zK;have zlZ:=zi;clear zJ zK zi;clear ho hb hg hat))
         go_roundg k2
         case measure=>have:=uK.out;have:=QJ.out;omega
         case rel=>exact ⟨(y153),(wrap64 (jl + 1)),(by first | rfl | (simp;done) | (simp [*];done)),H',⟨by have:=uK.out;have:=QJ.out;omega⟩,⟨qp zlZ.out⟩,⟨qh vF.out⟩,⟨zH HB.out⟩⟩
        ·rw [if_neg c17] at H
         exact absurd H (by simp)
    ·rw [if_neg c5] at H
     exact absurd H (by simp)
   ·rw [if_neg c4] at H
    have ZI:decide (WM < (l1.length:Int)) = false:=decide_eq_false c4
    clear c4
    obtain rfl:=Option.some.inj H
    go_wp2
    go_ret
    exact ⟨_,by first | rfl | (simp [zM,zN] <;> rfl) | (simp [*,zM,zN] <;> rfl),by (with_reducible repeat (first | apply Kd.Z5 | apply Kd.Z6 | apply Kd.vB));exact ZO.out,by repeat (first | (with_reducible first | exact HB.out | apply yV | apply zP | apply zT | refine qb ?_ zlx.out) | exact HB.out)⟩
end Go.Proofs.YtggifbbiiickmaaGreatDoor.PX
namespace Go.Proofs.YtggifbbiiickmaaGreatDoor.PX
open Go.RowKit Go.Proofs.zk.zA Go.Proofs.zk.yB Go.Proofs.zk.yA
attribute [local go_sem] xR xS vM vN xB xC xU vv   -- for this text's walks alone
set_option linter.unusedVariables false
set_option linter.unusedSimpArgs false
def qg.l0:Nat → List (ji) → ByteArray → Int → Option (Int)
 | 0,_,_,_=>none
 | k + 1,x0,x2,x7=>if x7 < (x0.length:Int) then (if 0 ≤ x7 then (if (zw x0 x7).f1 = true then ((qd.f k ((zw x0 x7).f0) ((zw x0 x7).f1) ((zw x0 x7).f2) ((zw x0 x7).f3) ((zw x0 x7).f4) ((zw x0 x7).f5) x2).bind fun t171=>(if t171 = true then (some x7) else (qg.l0 k x0 x2 (wrap64 (x7 + 1))))) else (qg.l0 k x0 x2 (wrap64 (x7 + 1)))) else (none)) else (some (-1))
def qg.f (k:Nat) (l0:List (ji)) (a1:Int) (a2:ByteArray):Option (Int):=if 0 ≤ a1 then (if a1 < (l0.length:Int) then ((qd.f k ((zw l0 a1).f0) ((zw l0 a1).f1) ((zw l0 a1).f2) ((zw l0 a1).f3) ((zw l0 a1).f4) ((zw l0 a1).f5) a2).bind fun t168=>(if t168 = true then (some a1) else (qg.l0 k l0 a2 0))) else (none)) else (none)
set_option maxHeartbeats 8000000 in
set_option maxRecDepth 100000 in
theorem qg.calls (k:Nat) (A0:Option Addr) (c0:Nat) (l0:List (ji)) (a1:Int) (a2:ByteArray) (r:Int) (w:World) (hr0:Kd.C J8 w A0 l0.length l0) (hc0:l0.length ≤ c0) (h:qg.f k l0 a1 a2 = some r) :
  Calls Tryz.prog 108 #[.slice A0 l0.length c0,.int .i64 a1,.string a2] w fun e w'=>e = .returned (.int .i64 r) ∧ Below w.heap.size w w':=by
 have VW:=Tryz.underlying101
 have jW:=zx.mk hr0
 have Q9:=zx.mk hc0
 clear hr0 hc0
 have HB:=zx.mk (Below.refl w.heap.size w)
 have H:(if 0 ≤ a1 then (if a1 < (l0.length:Int) then ((qd.f k ((zw l0 a1).f0) ((zw l0 a1).f1) ((zw l0 a1).f2) ((zw l0 a1).f3) ((zw l0 a1).f4) ((zw l0 a1).f5) a2).bind fun t168=>(if t168 = true then (some a1) else (qg.l0 k l0 a2 0))) else (none)) else (none)) = some r:=h
 clear h
 by_cases c4:0 ≤ a1
 ·rw [if_pos c4] at H
  have ZI:decide (0 ≤ a1) = true:=decide_eq_true c4
  clear c4
  by_cases c5:a1 < (l0.length:Int)
  ·rw [if_pos c5] at H
   have wR:decide (a1 < (l0.length:Int)) = true:=decide_eq_true c5
   clear c5
   replace H:=Option.bind_eq_some_iff.mp H
   obtain ⟨t168,A60,H⟩:=H
   replace H:(if t168 = true then (some a1) else (qg.l0 k l0 a2 0)) = some r:=H
   have A6:=zx.mk A60
   clear A60
   by_cases c7:t168 = true
   ·subst c7
    have H1:(some a1) = some r:=by rw [if_pos rfl] at H;exact H
    clear H
    have H:=H1
    clear H1
    obtain rfl:=Option.some.inj H
    have oU:0 ≤ (a1:Int):=of_decide_eq_true yE
    have o7:a1 < (l0.length:Int):=of_decide_eq_true yE
    obtain ⟨zzM,zyC,zyD,zyE,zyF,zyG,zyH,e167,zQa,zQb,zQc,zQd,zQe,zQf,ay,aZ,aQ,aX,aJ,aV⟩:=ZY jW.out a1 oU o7
    cases e167
    have zvW:=zx.mk aZ
    have zva:=zx.mk ay
    clear aZ ay
    have zvb:=zx.mk aX
    have zvc:=zx.mk aQ
    clear aX aQ
    have zvd:=zx.mk aV
    have zve:=zx.mk aJ
    clear aV aJ
    replace oU:=eq_true oU
    replace o7:=eq_true o7
    go_enter Tryz.func108,Tryz.ntmps108
    go_wp2_with (first | ((with_reducible refine yG (f:=139) rfl ?_);refine jm (some 13) Tryz.func139 #[.agg #[.string ((zw l0 a1).f0),.bool ((zw l0 a1).f1),.int .i64 ((zw l0 a1).f2),.slice zyC ((zw l0 a1).f3).length zyD,.slice zyE ((zw l0 a1).f4).length zyF,.slice zyG ((zw l0 a1).f5).length zyH],.string a2] ?_;(with_reducible refine (qd.calls k ((zw l0 a1).f0) ((zw l0 a1).f1) ((zw l0 a1).f2) _ _ ((zw l0 a1).f3) _ _ ((zw l0 a1).f4) _ _ ((zw l0 a1).f5) a2 true _ ?yc ?yI ?qy ?qw ?qD ?qE A6.out).mono ?_);(case yc=>exact ql zvW.out);(case yI=>exact zva.out);(case qy=>exact ql zvb.out);(case qw=>exact zvc.out);(case qD=>exact ql zvd.out);(case qE=>exact zve.out);rintro e w8 ⟨rfl,hb⟩;refine ⟨_,rfl,?_⟩;have zJ:=zx.mk (zo (zH HB.out) hb);clear HB;have HB:=zJ;clear zJ;(try clear hb);(try clear hi)))
    go_ret
    exact ⟨by first | rfl | (simp [zM,zN] <;> rfl) | (simp [*,zM,zN] <;> rfl),by repeat (first | (with_reducible first | exact HB.out | apply yV | apply zP | apply zT) | exact HB.out)⟩
   ·replace c7:=Bool.eq_false_iff.mpr c7
    subst c7
    have H1:(qg.l0 k l0 a2 0) = some r:=by rw [if_neg (show ¬ (false = true) by decide)] at H;exact H
    clear H
    have H:=H1
    clear H1
    have H':=zx.mk H
    clear H
    have oU:0 ≤ (a1:Int):=of_decide_eq_true yE
    have o7:a1 < (l0.length:Int):=of_decide_eq_true yE
    obtain ⟨zzM,zyC,zyD,zyE,zyF,zyG,zyH,e167,zQa,zQb,zQc,zQd,zQe,zQf,ay,aZ,aQ,aX,aJ,aV⟩:=ZY jW.out a1 oU o7
    cases e167
    have zvW:=zx.mk aZ
    have zva:=zx.mk ay
    clear aZ ay
    have zvb:=zx.mk aX
    have zvc:=zx.mk aQ
    clear aX aQ
    have zvd:=zx.mk aV
    have zve:=zx.mk aJ
    clear aV aJ
    replace oU:=eq_true oU
    replace o7:=eq_true o7
    go_enter Tryz.func108,Tryz.ntmps108
    go_wp2_with (first | ((with_reducible refine yG (f:=139) rfl ?_);refine jm (some 13) Tryz.func139 #[.agg #[.string ((zw l0 a1).f0),.bool ((zw l0 a1).f1),.int .i64 ((zw l0 a1).f2),.slice zyC ((zw l0 a1).f3).length zyD,.slice zyE ((zw l0 a1).f4).length zyF,.slice zyG ((zw l0 a1).f5).length zyH],.string a2] ?_;(with_reducible refine (qd.calls k ((zw l0 a1).f0) ((zw l0 a1).f1) ((zw l0 a1).f2) _ _ ((zw l0 a1).f3) _ _ ((zw l0 a1).f4) _ _ ((zw l0 a1).f5) a2 false _ ?yc ?yI ?qy ?qw ?qD ?qE A6.out).mono ?_);(case yc=>exact ql zvW.out);(case yI=>exact zva.out);(case qy=>exact ql zvb.out);(case qw=>exact zvc.out);(case qD=>exact ql zvd.out);(case qE=>exact zve.out);rintro e w9 ⟨rfl,hb⟩;refine ⟨_,rfl,?_⟩;have zJ:=zx.mk (zo (zH HB.out) hb);clear HB;have HB:=zJ;clear zJ;(try clear hb);(try clear hi)))
    go_loopg [7] k (fun kq v7 w'=>∃ (uf:Int),v7 = .int .i64 uf ∧ zx (qg.l0 kq l0 a2 uf = some r) ∧ zx (kq ≤ k) ∧ zx (Below w.heap.size w w'))
    case atStart=>exact ⟨(0),(by first | rfl | (simp;done) | (simp [*];done)),H',⟨Nat.le_refl _⟩,⟨zH HB.out⟩⟩
    case round =>
     clear H'
     try clear c4
     try clear ZI
     try clear c5
     try clear wR
     try clear c7
     try clear zQa
     try clear zQb
     try clear zQc
     try clear zQd
     try clear zQe
     try clear zQf
     try clear oU
     try clear o7
     obtain ⟨uf,rfl,HA,uK,HB⟩:=hrel
     cases gk with
     | zero=>exact absurd HA.out (by simp [qg.l0])
     | succ k1 =>
      have H:=HA.out
      clear HA
      simp only [qg.l0] at H
      by_cases c10:uf < (l0.length:Int)
      ·rw [if_pos c10] at H
       have zxM:decide (uf < (l0.length:Int)) = true:=decide_eq_true c10
       clear c10
       by_cases c11:0 ≤ uf
       ·rw [if_pos c11] at H
        have Qi:decide (0 ≤ uf) = true:=decide_eq_true c11
        clear c11
        obtain ⟨zaS,zKk⟩:∃ b_:Bool,b_ = ((zw l0 uf).f1):=⟨_,rfl⟩
        replace H:(if zaS = true then ((qd.f k1 ((zw l0 uf).f0) (zaS) ((zw l0 uf).f2) ((zw l0 uf).f3) ((zw l0 uf).f4) ((zw l0 uf).f5) a2).bind fun t171=>(if t171 = true then (some uf) else (qg.l0 k1 l0 a2 (wrap64 (uf + 1))))) else (qg.l0 k1 l0 a2 (wrap64 (uf + 1)))) = some r:=by rw [← zKk] at H;exact H
        have zxN:=zx.mk zKk
        clear zKk
        by_cases c13:zaS = true
        ·subst c13
         have H1:((qd.f k1 ((zw l0 uf).f0) (true) ((zw l0 uf).f2) ((zw l0 uf).f3) ((zw l0 uf).f4) ((zw l0 uf).f5) a2).bind fun t171=>(if t171 = true then (some uf) else (qg.l0 k1 l0 a2 (wrap64 (uf + 1))))) = some r:=by rw [if_pos rfl] at H;exact H
         clear H
         have H:=H1
         clear H1
         replace H:=Option.bind_eq_some_iff.mp H
         obtain ⟨t171,zgR,H⟩:=H
         replace H:(if t171 = true then (some uf) else (qg.l0 k1 l0 a2 (wrap64 (uf + 1)))) = some r:=H
         have A14:=zx.mk zgR
         clear zgR
         by_cases c15:t171 = true
         ·subst c15
          have H1:(some uf) = some r:=by rw [if_pos rfl] at H;exact H
          clear H
          have H:=H1
          clear H1
          obtain rfl:=Option.some.inj H
          have gW:0 ≤ (uf:Int):=of_decide_eq_true yE
          have gu:uf < (l0.length:Int):=of_decide_eq_true yE
          obtain ⟨zxO,zYP,zYR,zYS,zYT,zYU,zY0,e169,YM,Zp,YN,Z7,Z8,Z9,JD,JE,JF,JG,JH,JI⟩:=ZY jW.out uf gW gu
          (try rw [← zxN.out] at Zp)
          obtain rfl:zzM = zxO:=(by injection e169)
          replace YM:=(HB.out.cell (World.block_lt_of_cell? w _ YM)).trans YM
          replace Zp:=(HB.out.cell (World.block_lt_of_cell? w _ Zp)).trans Zp
          replace YN:=(HB.out.cell (World.block_lt_of_cell? w _ YN)).trans YN
          replace Z7:=(HB.out.cell (World.block_lt_of_cell? w _ Z7)).trans Z7
          replace Z8:=(HB.out.cell (World.block_lt_of_cell? w _ Z8)).trans Z8
          replace Z9:=(HB.out.cell (World.block_lt_of_cell? w _ Z9)).trans Z9
          have zQg:=zx.mk JE
          have zQh:=zx.mk JD
          clear JE JD
          have zQi:=zx.mk JG
          have zQl:=zx.mk JF
          clear JG JF
          have zQm:=zx.mk JI
          have zQn:=zx.mk JH
          clear JI JH
          replace gW:=eq_true gW
          replace gu:=eq_true gu
          have zqT:0 ≤ (uf:Int):=of_decide_eq_true yE
          have zqU:uf < (l0.length:Int):=of_decide_eq_true yE
          obtain ⟨zKy,zgS,zgT,zgU,zg0,zg1,zg2,e170,WO,Ql,WR,Qm,Qn,Qo,aK,aY,aW,ah,au,aA⟩:=ZY jW.out uf zqT zqU
          (try rw [← zxN.out] at Ql)
          obtain rfl:zzM = zKy:=(by injection e170)
          replace WO:=(HB.out.cell (World.block_lt_of_cell? w _ WO)).trans WO
          replace Ql:=(HB.out.cell (World.block_lt_of_cell? w _ Ql)).trans Ql
          replace WR:=(HB.out.cell (World.block_lt_of_cell? w _ WR)).trans WR
          replace Qm:=(HB.out.cell (World.block_lt_of_cell? w _ Qm)).trans Qm
          replace Qn:=(HB.out.cell (World.block_lt_of_cell? w _ Qn)).trans Qn
          replace Qo:=(HB.out.cell (World.block_lt_of_cell? w _ Qo)).trans Qo
          have zvf:=zx.mk aY
          have zvg:=zx.mk aK
          clear aY aK
          have zvh:=zx.mk ah
          have zvi:=zx.mk aW
          clear ah aW
          have zvl:=zx.mk aA
          have zvm:=zx.mk au
          clear aA au
          replace zqT:=eq_true zqT
          replace zqU:=eq_true zqU
          have xH:=Option.some.inj (Z7.symm.trans Qm)
          injection xH with xH kY kW
          subst xH
          subst kW
          clear kY
          have xH:=Option.some.inj (Z8.symm.trans Qn)
          injection xH with xH kY kW
          subst xH
          subst kW
          clear kY
          have xH:=Option.some.inj (Z9.symm.trans Qo)
          injection xH with xH kY kW
          subst xH
          subst kW
          clear kY
          go_wp2_with (first | (go_at_call 139;(with_reducible refine (qd.calls k1 ((zw l0 uf).f0) true ((zw l0 uf).f2) _ _ ((zw l0 uf).f3) _ _ ((zw l0 uf).f4) _ _ ((zw l0 uf).f5) a2 true _ ?yc ?yI ?qy ?qw ?qD ?qE A14.out).mono ?_);(case yc=>exact ql (Kd.zu zvf.out HB.out));(case yI=>exact zvg.out);(case qy=>exact ql (Kd.zu zvh.out HB.out));(case qw=>exact zvi.out);(case qD=>exact ql (Kd.zu zvl.out HB.out));(case qE=>exact zvm.out);rintro e w16 ⟨rfl,hb⟩;have zJ:=zx.mk (zo (zH HB.out) hb);clear HB;have HB:=zJ;clear zJ;(try clear hb);(try clear hi)))
          go_ret
          exact ⟨by first | rfl | (simp [zM,zN] <;> rfl) | (simp [*,zM,zN] <;> rfl),by repeat (first | (with_reducible first | exact HB.out | apply yV | apply zP | apply zT) | exact HB.out)⟩
         ·replace c15:=Bool.eq_false_iff.mpr c15
          subst c15
          have H1:(qg.l0 k1 l0 a2 (wrap64 (uf + 1))) = some r:=by rw [if_neg (show ¬ (false = true) by decide)] at H;exact H
          clear H
          have H:=H1
          clear H1
          have H':=zx.mk H
          clear H
          have gW:0 ≤ (uf:Int):=of_decide_eq_true yE
          have gu:uf < (l0.length:Int):=of_decide_eq_true yE
          obtain ⟨zxO,zYP,zYR,zYS,zYT,zYU,zY0,e169,YM,Zp,YN,Z7,Z8,Z9,JD,JE,JF,JG,JH,JI⟩:=ZY jW.out uf gW gu
          (try rw [← zxN.out] at Zp)
          obtain rfl:zzM = zxO:=(by injection e169)
          replace YM:=(HB.out.cell (World.block_lt_of_cell? w _ YM)).trans YM
          replace Zp:=(HB.out.cell (World.block_lt_of_cell? w _ Zp)).trans Zp
          replace YN:=(HB.out.cell (World.block_lt_of_cell? w _ YN)).trans YN
          replace Z7:=(HB.out.cell (World.block_lt_of_cell? w _ Z7)).trans Z7
          replace Z8:=(HB.out.cell (World.block_lt_of_cell? w _ Z8)).trans Z8
          replace Z9:=(HB.out.cell (World.block_lt_of_cell? w _ Z9)).trans Z9
          have zQg:=zx.mk JE
          have zQh:=zx.mk JD
          clear JE JD
          have zQi:=zx.mk JG
          have zQl:=zx.mk JF
          clear JG JF
          have zQm:=zx.mk JI
          have zQn:=zx.mk JH
          clear JI JH
          replace gW:=eq_true gW
          replace gu:=eq_true gu
          have zqT:0 ≤ (uf:Int):=of_decide_eq_true yE
          have zqU:uf < (l0.length:Int):=of_decide_eq_true yE
          obtain ⟨zKy,zgS,zgT,zgU,zg0,zg1,zg2,e170,WO,Ql,WR,Qm,Qn,Qo,aK,aY,aW,ah,au,aA⟩:=ZY jW.out uf zqT zqU
          (try rw [← zxN.out] at Ql)
          obtain rfl:zzM = zKy:=(by injection e170)
          replace WO:=(HB.out.cell (World.block_lt_of_cell? w _ WO)).trans WO
          replace Ql:=(HB.out.cell (World.block_lt_of_cell? w _ Ql)).trans Ql
          replace WR:=(HB.out.cell (World.block_lt_of_cell? w _ WR)).trans WR
          replace Qm:=(HB.out.cell (World.block_lt_of_cell? w _ Qm)).trans Qm
          replace Qn:=(HB.out.cell (World.block_lt_of_cell? w _ Qn)).trans Qn
          replace Qo:=(HB.out.cell (World.block_lt_of_cell? w _ Qo)).trans Qo
          have zvf:=zx.mk aY
          have zvg:=zx.mk aK
          clear aY aK
          have zvh:=zx.mk ah
          have zvi:=zx.mk aW
          clear ah aW
          have zvl:=zx.mk aA
          have zvm:=zx.mk au
          clear aA au
          replace zqT:=eq_true zqT
          replace zqU:=eq_true zqU
          have xH:=Option.some.inj (Z7.symm.trans Qm)
          injection xH with xH kY kW
          subst xH
          subst kW
          clear kY
          have xH:=Option.some.inj (Z8.symm.trans Qn)
          injection xH with xH kY kW
          subst xH
          subst kW
          clear kY
          have xH:=Option.some.inj (Z9.symm.trans Qo)
          injection xH with xH kY kW
          subst xH
          subst kW
          clear kY
          go_wp2_with (first | (go_at_call 139;(with_reducible refine (qd.calls k1 ((zw l0 uf).f0) true ((zw l0 uf).f2) _ _ ((zw l0 uf).f3) _ _ ((zw l0 uf).f4) _ _ ((zw l0 uf).f5) a2 false _ ?yc ?yI ?qy ?qw ?qD ?qE A14.out).mono ?_);(case yc=>exact ql (Kd.zu zvf.out HB.out));(case yI=>exact zvg.out);(case qy=>exact ql (Kd.zu zvh.out HB.out));(case qw=>exact zvi.out);(case qD=>exact ql (Kd.zu zvl.out HB.out));(case qE=>exact zvm.out);rintro e VQ ⟨rfl,hb⟩;have zJ:=zx.mk (zo (zH HB.out) hb);clear HB;have HB:=zJ;clear zJ;(try clear hb);(try clear hi)))
          go_roundg k1
          case measure=>have:=uK.out;omega
          case rel=>exact ⟨(wrap64 (uf + 1)),(by first | rfl | (simp;done) | (simp [*];done)),H',⟨by have:=uK.out;omega⟩,⟨zH HB.out⟩⟩
        ·replace c13:=Bool.eq_false_iff.mpr c13
         subst c13
         have H1:(qg.l0 k1 l0 a2 (wrap64 (uf + 1))) = some r:=by rw [if_neg (show ¬ (false = true) by decide)] at H;exact H
         clear H
         have H:=H1
         clear H1
         have H':=zx.mk H
         clear H
         have gW:0 ≤ (uf:Int):=of_decide_eq_true yE
         have gu:uf < (l0.length:Int):=of_decide_eq_true yE
         obtain ⟨zxO,zYP,zYR,zYS,zYT,zYU,zY0,e169,YM,Zp,YN,Z7,Z8,Z9,JD,JE,JF,JG,JH,JI⟩:=ZY jW.out uf gW gu
         (try rw [← zxN.out] at Zp)
         obtain rfl:zzM = zxO:=(by injection e169)
         replace YM:=(HB.out.cell (World.block_lt_of_cell? w _ YM)).trans YM
         replace Zp:=(HB.out.cell (World.block_lt_of_cell? w _ Zp)).trans Zp
         replace YN:=(HB.out.cell (World.block_lt_of_cell? w _ YN)).trans YN
         replace Z7:=(HB.out.cell (World.block_lt_of_cell? w _ Z7)).trans Z7
         replace Z8:=(HB.out.cell (World.block_lt_of_cell? w _ Z8)).trans Z8
         replace Z9:=(HB.out.cell (World.block_lt_of_cell? w _ Z9)).trans Z9
         have zQg:=zx.mk JE
         have zQh:=zx.mk JD
         clear JE JD
         have zQi:=zx.mk JG
         have zQl:=zx.mk JF
         clear JG JF
         have zQm:=zx.mk JI
         have zQn:=zx.mk JH
         clear JI JH
         replace gW:=eq_true gW
         replace gu:=eq_true gu
         go_wp2
         go_roundg k1
         case measure=>have:=uK.out;omega
         case rel=>exact ⟨(wrap64 (uf + 1)),(by first | rfl | (simp;done) | (simp [*];done)),H',⟨by have:=uK.out;omega⟩,⟨zH HB.out⟩⟩
       ·rw [if_neg c11] at H
        exact absurd H (by simp)
      ·rw [if_neg c10] at H
       have zxM:decide (uf < (l0.length:Int)) = false:=decide_eq_false c10
       clear c10
       obtain rfl:=Option.some.inj H
       go_wp2
       go_ret
       exact ⟨by first | rfl | (simp [zM,zN] <;> rfl) | (simp [*,zM,zN] <;> rfl),by repeat (first | (with_reducible first | exact HB.out | apply yV | apply zP | apply zT) | exact HB.out)⟩
  ·rw [if_neg c5] at H
   exact absurd H (by simp)
 ·rw [if_neg c4] at H
  exact absurd H (by simp)
end Go.Proofs.YtggifbbiiickmaaGreatDoor.PX
