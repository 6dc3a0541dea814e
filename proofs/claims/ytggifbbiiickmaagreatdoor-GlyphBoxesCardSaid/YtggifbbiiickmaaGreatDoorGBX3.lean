/-
  Texts that lean on one another, laid in one file. No condition.
-/
import Derived.Test.YtggifbbiiickmaaGreatDoorGBX1
import Derived.Test.YtggifbbiiickmaaGreatDoorGBX2
namespace Go.Proofs.YtggifbbiiickmaaGreatDoor.PX
open Go.RowKit Go.Proofs.zk.zu Go.Proofs.zk.yD Go.Proofs.zk.yA
attribute [local go_sem] xP xR vG vH xB xC xS xU   -- for this text's walks alone
set_option linter.unusedVariables false
set_option linter.unusedSimpArgs false
def qU.l0:Nat → ByteArray → Int → Int → ByteArray → Bool → Int → List (uX) → List (uG) → List (uN) → Option (Int × Bool)
 | 0,_,_,_,_,_,_,_,_,_=>none
 | k + 1,x1,x2,x8,zgJ,zgV,zgK,zxw,zgY,zgW=>if x8 < (zxw.length:Int) then (if 0 ≤ x8 then (if ((vK zxw x8).f0).toList = x1.toList then ((kY.f ((vK zxw x8).f1) x2).bind fun t160=>(some (t160,true))) else (qU.l0 k x1 x2 (wrap64 (x8 + 1)) zgJ zgV zgK zxw zgY zgW)) else (none)) else (some (0,false))
def qU.f (k:Nat) (zD:ByteArray) (ze:Bool) (za:Int) (zn:List (uX)) (zF:List (uG)) (zY:List (uN)) (a1:ByteArray) (a2:Int):Option (Int × Bool):=qU.l0 k a1 a2 0 zD ze za zn zF zY
set_option maxHeartbeats 8000000 in
set_option maxRecDepth 100000 in
theorem qU.calls (k:Nat) (zD:ByteArray) (ze:Bool) (za:Int) (yT:Option Addr) (yU:Nat) (zn:List (uX)) (y7:Option Addr) (y8:Nat) (zF:List (uG)) (yZ:Option Addr) (yQ:Nat) (zY:List (uN)) (a1:ByteArray) (a2:Int) (r1:Int) (r2:Bool) (w:World) (jq:Kd.C Yi w yT zn.length zn) (jN:zn.length ≤ yU) (jO:Kd.C YE w y7 zF.length zF) (jP:zF.length ≤ y8) (jm:Kd.C YP w yZ zY.length zY) (jo:zY.length ≤ yQ) (h:qU.f k zD ze za zn zF zY a1 a2 = some (r1,r2)) :
  Calls Tryz.prog 123 #[.agg #[.string zD,.bool ze,.int .i64 za,.slice yT zn.length yU,.slice y7 zF.length y8,.slice yZ zY.length yQ],.string a1,.int .i64 a2] w fun e w'=>e = .returned (.tuple #[.int .i64 r1,.bool r2]) ∧ Below w.heap.size w w':=by
 have VH:=Tryz.underlying101
 have jF:=zx.mk jq
 have kU:=zx.mk jN
 clear jq jN
 have jG:=zx.mk jO
 have wz:=zx.mk jP
 clear jO jP
 have uD:=zx.mk jm
 have jh:=zx.mk jo
 clear jm jo
 have HB:=zx.mk (Below.refl w.heap.size w)
 have H:(qU.l0 k a1 a2 0 zD ze za zn zF zY) = some (r1,r2):=h
 clear h
 have H':=zx.mk H
 clear H
 go_enter Tryz.func123,Tryz.ntmps123
 go_wp2_with (first | ((with_reducible refine qA (N:=3) rfl ?_);refine qH ?hg (N:=3) ?hd (cs:=#[.string zD,.bool ze,.int .i64 za,.slice yT zn.length yU,.slice y7 zF.length y8,.slice yZ zY.length yQ]) (t:=101) ?hr ?_;(case hd=>rfl);(case hg=>rfl);(case hr=>first | (go_simp;done) | (go_simp;rfl));intro Zm hg w4 qd hb;have zW:=zx.mk (zC (zG HB.out) hb);have zh:=zx.mk (qd);have zo:=zx.mk ((by rw [hg];exact (zf (zG HB.out)):w.heap.size ≤ Zm));have zM:=zx.mk ((by rw [hg];exact (zf (zG HB.out)):w.heap.size ≤ Zm));clear HB;have HB:=zW;have jZ:=zh;have zDW:=zo;have ze2:=zM;clear zW zh zo zM;clear hb qd hg))
 go_loopg [8] k (fun kq v8 w'=>∃ (yV:Int),v8 = .int .i64 yV ∧ zx (qU.l0 kq a1 a2 yV zD ze za zn zF zY = some (r1,r2)) ∧ zx (kq ≤ k) ∧ zx (w'.heap[Zm]? = some (.cells #[.string zD,.bool ze,.int .i64 za,(.slice yT zn.length yU),(.slice y7 zF.length y8),(.slice yZ zY.length yQ)] 101 (0,0))) ∧ zx (Below w.heap.size w w'))
 case atStart=>exact ⟨(0),(by first | rfl | (simp;done) | (simp [*];done)),H',⟨Nat.le_refl _⟩,⟨qV jZ.out⟩,⟨zG HB.out⟩⟩
 case round =>
  clear H'
  obtain ⟨yV,rfl,HA,uK,jZ,HB⟩:=hrel
  cases gk with
  | zero=>exact absurd HA.out (by simp [qU.l0])
  | succ k1 =>
   have H:=HA.out
   clear HA
   simp only [qU.l0] at H
   by_cases c5:yV < (zn.length:Int)
   ·rw [if_pos c5] at H
    have pY:decide (yV < (zn.length:Int)) = true:=decide_eq_true c5
    clear c5
    by_cases c6:0 ≤ yV
    ·rw [if_pos c6] at H
     have wP:decide (0 ≤ yV) = true:=decide_eq_true c6
     clear c6
     by_cases c7:((vK zn yV).f0).toList = a1.toList
     ·rw [if_pos c7] at H
      have Xn:(((vK zn yV).f0).toList == a1.toList) = true:=beq_iff_eq.mpr c7
      have zz1:(((vK zn yV).f0).toList != a1.toList) = false:=bne_eq_false_iff_eq.mpr c7
      clear c7
      replace H:=Option.bind_eq_some_iff.mp H
      obtain ⟨t160,A80,H⟩:=H
      replace H:(some (t160,true)) = some (r1,r2):=H
      have A8:=zx.mk A80
      clear A80
      simp only [Option.some.injEq,Prod.mk.injEq] at H
      obtain ⟨rfl,rfl⟩:=H
      have Wy:wr.cell? ⟨Zm,0,none⟩ = some (.string zD):=zw jZ 0
      have Ww:wr.cell? ⟨Zm,1,none⟩ = some (.bool ze):=zw jZ 1
      have WZ:wr.cell? ⟨Zm,2,none⟩ = some (.int .i64 za):=zw jZ 2
      have WQ:wr.cell? ⟨Zm,3,none⟩ = some (.slice yT zn.length yU):=zw jZ 3
      have dI:wr.cell? ⟨Zm,4,none⟩ = some (.slice y7 zF.length y8):=zw jZ 4
      have dL:wr.cell? ⟨Zm,5,none⟩ = some (.slice yZ zY.length yQ):=zw jZ 5
      have WX:=zy jZ.out 0
      have WJ:=zy jZ.out 1
      have WV:=zy jZ.out 2
      have WK:=zy jZ.out 3
      have dM:=zy jZ.out 4
      have dN:=zy jZ.out 5
      have zjK:0 ≤ (yV:Int):=of_decide_eq_true yF
      have zjY:yV < (zn.length:Int):=of_decide_eq_true yF
      obtain ⟨ze3,zc1,Pw,PZ⟩:=WM jF.out yV zjK zjY
      cases zc1
      replace Pw:=(HB.out.cell (World.block_lt_of_cell? w _ Pw)).trans Pw
      replace PZ:=(HB.out.cell (World.block_lt_of_cell? w _ PZ)).trans PZ
      replace zjK:=eq_true zjK
      replace zjY:=eq_true zjY
      have zc2:0 ≤ (yV:Int):=of_decide_eq_true yF
      have zc3:yV < (zn.length:Int):=of_decide_eq_true yF
      obtain ⟨znl,zrg,zkc,zkd⟩:=WM jF.out yV zc2 zc3
      obtain rfl:ze3 = znl:=(by injection zrg)
      replace zkc:=(HB.out.cell (World.block_lt_of_cell? w _ zkc)).trans zkc
      replace zkd:=(HB.out.cell (World.block_lt_of_cell? w _ zkd)).trans zkd
      replace zc2:=eq_true zc2
      replace zc3:=eq_true zc3
      go_wp2_with (first | ((with_reducible refine yE (f:=122) rfl ?_);refine jg (some 31) Tryz.func122 #[.int .i64 ((vK zn yV).f1),.int .i64 a2] ?_;(with_reducible refine (kY.calls ((vK zn yV).f1) a2 t160 _ A8.out).mono ?_);rintro e w' ⟨rfl,⟨nd,rfl⟩⟩;refine ⟨_,rfl,?_⟩))
      go_ret2
      exact ⟨by first | rfl | (simp [zH,zI] <;> rfl) | (simp [*,zH,zI] <;> rfl),by repeat (first | (with_reducible first | exact HB.out | apply yX | apply zL | apply zR | refine qK ?_ ze2.out) | exact HB.out)⟩
     ·rw [if_neg c7] at H
      have Xn:(((vK zn yV).f0).toList == a1.toList) = false:=beq_eq_false_iff_ne.mpr c7
      have zz1:(((vK zn yV).f0).toList != a1.toList) = true:=bne_iff_ne.mpr c7
      have H':=zx.mk H
      clear H
      have zQI:wr.cell? ⟨Zm,0,none⟩ = some (.string zD):=zw jZ 0
      have zQL:wr.cell? ⟨Zm,1,none⟩ = some (.bool ze):=zw jZ 1
      have zQM:wr.cell? ⟨Zm,2,none⟩ = some (.int .i64 za):=zw jZ 2
      have zQN:wr.cell? ⟨Zm,3,none⟩ = some (.slice yT zn.length yU):=zw jZ 3
      have zQO:wr.cell? ⟨Zm,4,none⟩ = some (.slice y7 zF.length y8):=zw jZ 4
      have zQP:wr.cell? ⟨Zm,5,none⟩ = some (.slice yZ zY.length yQ):=zw jZ 5
      have zQR:=zy jZ.out 0
      have zQS:=zy jZ.out 1
      have zQT:=zy jZ.out 2
      have zQU:=zy jZ.out 3
      have zQ0:=zy jZ.out 4
      have zQ1:=zy jZ.out 5
      have zjK:0 ≤ (yV:Int):=of_decide_eq_true yF
      have zjY:yV < (zn.length:Int):=of_decide_eq_true yF
      obtain ⟨ze3,zc1,Pw,PZ⟩:=WM jF.out yV zjK zjY
      cases zc1
      replace Pw:=(HB.out.cell (World.block_lt_of_cell? w _ Pw)).trans Pw
      replace PZ:=(HB.out.cell (World.block_lt_of_cell? w _ PZ)).trans PZ
      replace zjK:=eq_true zjK
      replace zjY:=eq_true zjY
      go_wp2
      go_roundg k1
      case measure=>have:=uK.out;omega
      case rel=>exact ⟨(wrap64 (yV + 1)),(by first | rfl | (simp;done) | (simp [*];done)),H',⟨by have:=uK.out;omega⟩,⟨qV jZ.out⟩,⟨zG HB.out⟩⟩
    ·rw [if_neg c6] at H
     exact absurd H (by simp)
   ·rw [if_neg c5] at H
    have pY:decide (yV < (zn.length:Int)) = false:=decide_eq_false c5
    clear c5
    simp only [Option.some.injEq,Prod.mk.injEq] at H
    obtain ⟨rfl,rfl⟩:=H
    have WU:wr.cell? ⟨Zm,0,none⟩ = some (.string zD):=zw jZ 0
    have Pz:wr.cell? ⟨Zm,1,none⟩ = some (.bool ze):=zw jZ 1
    have Pq:wr.cell? ⟨Zm,2,none⟩ = some (.int .i64 za):=zw jZ 2
    have Px:wr.cell? ⟨Zm,3,none⟩ = some (.slice yT zn.length yU):=zw jZ 3
    have mX:wr.cell? ⟨Zm,4,none⟩ = some (.slice y7 zF.length y8):=zw jZ 4
    have mJ:wr.cell? ⟨Zm,5,none⟩ = some (.slice yZ zY.length yQ):=zw jZ 5
    have Pj:=zy jZ.out 0
    have Pv:=zy jZ.out 1
    have Pk:=zy jZ.out 2
    have Py:=zy jZ.out 3
    have mV:=zy jZ.out 4
    have mK:=zy jZ.out 5
    go_wp2
    go_ret2
    exact ⟨by first | rfl | (simp [zH,zI] <;> rfl) | (simp [*,zH,zI] <;> rfl),by repeat (first | (with_reducible first | exact HB.out | apply yX | apply zL | apply zR | refine qK ?_ ze2.out) | exact HB.out)⟩
end Go.Proofs.YtggifbbiiickmaaGreatDoor.PX
namespace Go.Proofs.YtggifbbiiickmaaGreatDoor.PX
open Go.RowKit Go.Proofs.zk.zu Go.Proofs.zk.yD Go.Proofs.zk.yA
attribute [local go_sem] xP xR vG vH xB xC xS xU   -- for this text's walks alone
set_option linter.unusedVariables false
set_option linter.unusedSimpArgs false
def yP.j0:Nat → ByteArray → Int → Bool → ByteArray → Bool → Int → List (uX) → List (uG) → List (uN) → Option (Int × Int)
 | 0,_,_,_,_,_,_,_,_,_=>none
 | k + 1,x1,x2,x20,zga,zgb,zgc,zgd,zge,zgf=>if x20 = true then (some (0,1)) else ((qU.f k zga zgb zgc zgd zge zgf x1 x2).bind fun zvW=>(if zvW.2 = true then (some (zvW.1,0)) else (some (0,3))))
def yP.f (k:Nat) (zD:ByteArray) (ze:Bool) (za:Int) (zn:List (uX)) (zF:List (uG)) (zY:List (uN)) (a1:ByteArray) (a2:Int):Option (Int × Int):=if a2 < 1 then (yP.j0 k a1 a2 true zD ze za zn zF zY) else (if a2 > 1000 then (yP.j0 k a1 a2 true zD ze za zn zF zY) else ((xJ.f zD ze za zn zF zY).bind fun t162=>(yP.j0 k a1 a2 (!t162) zD ze za zn zF zY)))
set_option maxHeartbeats 8000000 in
set_option maxRecDepth 100000 in
theorem yP.calls (k:Nat) (zD:ByteArray) (ze:Bool) (za:Int) (yT:Option Addr) (yU:Nat) (zn:List (uX)) (y7:Option Addr) (y8:Nat) (zF:List (uG)) (yZ:Option Addr) (yQ:Nat) (zY:List (uN)) (a1:ByteArray) (a2:Int) (r1:Int) (r2:Int) (w:World) (jq:Kd.C Yi w yT zn.length zn) (jN:zn.length ≤ yU) (jO:Kd.C YE w y7 zF.length zF) (jP:zF.length ≤ y8) (jm:Kd.C YP w yZ zY.length zY) (jo:zY.length ≤ yQ) (h:yP.f k zD ze za zn zF zY a1 a2 = some (r1,r2)) :
  Calls Tryz.prog 71 #[.agg #[.string zD,.bool ze,.int .i64 za,.slice yT zn.length yU,.slice y7 zF.length y8,.slice yZ zY.length yQ],.string a1,.int .i64 a2] w fun e w'=>e = .returned (.tuple #[.int .i64 r1,.int .i64 r2]) ∧ Below w.heap.size w w':=by
 have VH:=Tryz.underlying101
 have jF:=zx.mk jq
 have kU:=zx.mk jN
 clear jq jN
 have jG:=zx.mk jO
 have wz:=zx.mk jP
 clear jO jP
 have uD:=zx.mk jm
 have jh:=zx.mk jo
 clear jm jo
 have HB:=zx.mk (Below.refl w.heap.size w)
 have H:(if a2 < 1 then (yP.j0 k a1 a2 true zD ze za zn zF zY) else (if a2 > 1000 then (yP.j0 k a1 a2 true zD ze za zn zF zY) else ((xJ.f zD ze za zn zF zY).bind fun t162=>(yP.j0 k a1 a2 (!t162) zD ze za zn zF zY)))) = some (r1,r2):=h
 clear h
 have HC4:=zx.mk H
 clear H
 go_enter Tryz.func71,Tryz.ntmps71
 go_upto_region 1 with (first | ((with_reducible refine qA (N:=3) rfl ?_);refine qH ?hg (N:=3) ?hd (cs:=#[.string zD,.bool ze,.int .i64 za,.slice yT zn.length yU,.slice y7 zF.length y8,.slice yZ zY.length yQ]) (t:=101) ?hr ?_;(case hd=>rfl);(case hg=>rfl);(case hr=>first | (go_simp;done) | (go_simp;rfl));intro p9 hg w5 qd hb;have zW:=zx.mk (zC (zG HB.out) hb);have zh:=zx.mk (qd);have zo:=zx.mk ((by rw [hg];exact (zf (zG HB.out)):w.heap.size ≤ p9));have zM:=zx.mk ((by rw [hg];exact (zf (zG HB.out)):w.heap.size ≤ p9));clear HB;have HB:=zW;have uq:=zh;have zDa:=zo;have zYN:=zM;clear zW zh zo zM;clear hb qd hg))
 (try simp only [Act.put,List.setIfInBounds_toArray,List.set_cons_zero,List.set_cons_succ])
 go_cut [20] (fun v20 wc=>∃ (kq:Nat) (zwc:Bool),v20 = .bool zwc ∧ zx (yP.j0 kq a1 a2 zwc zD ze za zn zF zY = some (r1,r2)) ∧ zx (kq ≤ k) ∧ zx (wc.heap[p9]? = some (.cells #[.string zD,.bool ze,.int .i64 za,(.slice yT zn.length yU),(.slice y7 zF.length y8),(.slice yZ zY.length yQ)] 101 (0,0))) ∧ zx (Below w.heap.size w wc))
 case first =>
  have H:=HC4.out
  clear HC4
  by_cases c6:a2 < 1
  ·rw [if_pos c6] at H
   have wP:decide (a2 < 1) = true:=decide_eq_true c6
   clear c6
   (first | rw [wP] | (simp only [vU,uW];rw [wP]) | skip)
   have H':=zx.mk H
   clear H
   go_wp2
   go_meet
   case rel=>exact ⟨_,(true),(by first | rfl | (simp;done) | (simp [*];done)),H',⟨by first | omega | exact Nat.le_refl _⟩,⟨qV uq.out⟩,⟨zG HB.out⟩⟩
  ·rw [if_neg c6] at H
   have wP:decide (a2 < 1) = false:=decide_eq_false c6
   clear c6
   (first | rw [wP] | (simp only [vU,uW];rw [wP]) | skip)
   by_cases c7:a2 > 1000
   ·rw [if_pos c7] at H
    have Xn:decide (1000 < a2) = true:=decide_eq_true c7
    clear c7
    have H':=zx.mk H
    clear H
    go_wp2
    go_meet
    case rel=>exact ⟨_,(true),(by first | rfl | (simp;done) | (simp [*];done)),H',⟨by first | omega | exact Nat.le_refl _⟩,⟨qV uq.out⟩,⟨zG HB.out⟩⟩
   ·rw [if_neg c7] at H
    have Xn:decide (1000 < a2) = false:=decide_eq_false c7
    clear c7
    replace H:=Option.bind_eq_some_iff.mp H
    obtain ⟨t162,A80,H⟩:=H
    replace H:(yP.j0 k a1 a2 (!t162) zD ze za zn zF zY) = some (r1,r2):=H
    have A8:=zx.mk A80
    clear A80
    have H':=zx.mk H
    clear H
    have Wy:w5.cell? ⟨p9,0,none⟩ = some (.string zD):=zw uq 0
    have Ww:w5.cell? ⟨p9,1,none⟩ = some (.bool ze):=zw uq 1
    have WZ:w5.cell? ⟨p9,2,none⟩ = some (.int .i64 za):=zw uq 2
    have WQ:w5.cell? ⟨p9,3,none⟩ = some (.slice yT zn.length yU):=zw uq 3
    have dI:w5.cell? ⟨p9,4,none⟩ = some (.slice y7 zF.length y8):=zw uq 4
    have dL:w5.cell? ⟨p9,5,none⟩ = some (.slice yZ zY.length yQ):=zw uq 5
    have WX:=zy uq.out 0
    have WJ:=zy uq.out 1
    have WV:=zy uq.out 2
    have WK:=zy uq.out 3
    have dM:=zy uq.out 4
    have dN:=zy uq.out 5
    go_wp2_with (first | (go_at_call 106;(with_reducible refine (xJ.calls zD ze za _ _ zn _ _ zF _ _ zY t162 _ ?yc ?yG ?qZ ?qQ ?qB ?qC A8.out).mono ?_);(case yc=>exact qY (Kd.zm jF.out HB.out));(case yG=>exact kU.out);(case qZ=>exact qY (Kd.zm jG.out HB.out));(case qQ=>exact wz.out);(case qB=>exact qY (Kd.zm uD.out HB.out));(case qC=>exact jh.out);rintro e Xm ⟨rfl,hb⟩;have zW:=zx.mk (yj (g:=p9) (o:=.cells #[.string zD,.bool ze,.int .i64 za,.slice yT zn.length yU,.slice y7 zF.length y8,.slice yZ zY.length yQ] 101 (0,0)) (qV uq.out) hb);have zh:=zx.mk (zC (zG HB.out) hb);clear uq;clear HB;have uq:=zW;have HB:=zh;clear zW zh;(try clear hb);(try clear hi)))
    go_meet
    case rel=>exact ⟨_,(!t162),(by first | rfl | (simp;done) | (simp [*];done)),H',⟨by first | omega | exact Nat.le_refl _⟩,⟨qV uq.out⟩,⟨zG HB.out⟩⟩
 case rest =>
  clear HC4
  try clear c6
  try clear wP
  try clear c7
  try clear Xn
  try clear Wy
  try clear Ww
  try clear WZ
  try clear WQ
  try clear dI
  try clear dL
  try clear WX
  try clear WJ
  try clear WV
  try clear WK
  try clear dM
  try clear dN
  obtain ⟨kq,zwc,rfl,HA,HJ3,uq,HB⟩:=hcut
  cases kq with
  | zero=>exact absurd HA.out (by simp [yP.j0])
  | succ kj3 =>
   have H:=HA.out
   clear HA
   simp only [yP.j0] at H
   by_cases c11:zwc = true
   ·subst c11
    have H1:(some (0,1)) = some (r1,r2):=by rw [if_pos rfl] at H;exact H
    clear H
    have H:=H1
    clear H1
    simp only [Option.some.injEq,Prod.mk.injEq] at H
    obtain ⟨rfl,rfl⟩:=H
    go_wp2
    go_ret2
    exact ⟨by first | rfl | (simp [zH,zI] <;> rfl) | (simp [*,zH,zI] <;> rfl),by repeat (first | (with_reducible first | exact HB.out | apply yX | apply zL | apply zR | refine qK ?_ zYN.out) | exact HB.out)⟩
   ·replace c11:=Bool.eq_false_iff.mpr c11
    subst c11
    have H1:((qU.f kj3 zD ze za zn zF zY a1 a2).bind fun zvW=>(if zvW.2 = true then (some (zvW.1,0)) else (some (0,3)))) = some (r1,r2):=by rw [if_neg (show ¬ (false = true) by decide)] at H;exact H
    clear H
    have H:=H1
    clear H1
    replace H:=Option.bind_eq_some_iff.mp H
    obtain ⟨⟨zYO,t164⟩,zlQ,H⟩:=H
    replace H:(if t164 = true then (some (zYO,0)) else (some (0,3))) = some (r1,r2):=H
    have A12:=zx.mk zlQ
    clear zlQ
    by_cases c13:t164 = true
    ·subst c13
     have H1:(some (zYO,0)) = some (r1,r2):=by rw [if_pos rfl] at H;exact H
     clear H
     have H:=H1
     clear H1
     simp only [Option.some.injEq,Prod.mk.injEq] at H
     obtain ⟨rfl,rfl⟩:=H
     have UY:wc.cell? ⟨p9,0,none⟩ = some (.string zD):=zw uq 0
     have UW:wc.cell? ⟨p9,1,none⟩ = some (.bool ze):=zw uq 1
     have Ua:wc.cell? ⟨p9,2,none⟩ = some (.int .i64 za):=zw uq 2
     have Ub:wc.cell? ⟨p9,3,none⟩ = some (.slice yT zn.length yU):=zw uq 3
     have Uc:wc.cell? ⟨p9,4,none⟩ = some (.slice y7 zF.length y8):=zw uq 4
     have Ud:wc.cell? ⟨p9,5,none⟩ = some (.slice yZ zY.length yQ):=zw uq 5
     have Ue:=zy uq.out 0
     have Uf:=zy uq.out 1
     have Ug:=zy uq.out 2
     have Uh:=zy uq.out 3
     have Ui:=zy uq.out 4
     have Ul:=zy uq.out 5
     go_wp2_with (first | ((with_reducible refine yE (f:=123) rfl ?_);refine jg (some 25) Tryz.func123 #[.agg #[.string zD,.bool ze,.int .i64 za,.slice yT zn.length yU,.slice y7 zF.length y8,.slice yZ zY.length yQ],.string a1,.int .i64 a2] ?_;(with_reducible refine (qU.calls kj3 zD ze za _ _ zn _ _ zF _ _ zY a1 a2 zYO true _ ?yc ?yG ?qZ ?qQ ?qB ?qC A12.out).mono ?_);(case yc=>exact qY (Kd.zm jF.out HB.out));(case yG=>exact kU.out);(case qZ=>exact qY (Kd.zm jG.out HB.out));(case qQ=>exact wz.out);(case qB=>exact qY (Kd.zm uD.out HB.out));(case qC=>exact jh.out);rintro e Zu ⟨rfl,hb⟩;refine ⟨_,rfl,?_⟩;have zW:=zx.mk (yj (g:=p9) (o:=.cells #[.string zD,.bool ze,.int .i64 za,.slice yT zn.length yU,.slice y7 zF.length y8,.slice yZ zY.length yQ] 101 (0,0)) (qV uq.out) hb);have zh:=zx.mk (zC (zG HB.out) hb);clear uq;clear HB;have uq:=zW;have HB:=zh;clear zW zh;(try clear hb);(try clear hi)))
     go_ret2
     exact ⟨by first | rfl | (simp [zH,zI] <;> rfl) | (simp [*,zH,zI] <;> rfl),by repeat (first | (with_reducible first | exact HB.out | apply yX | apply zL | apply zR | refine qK ?_ zYN.out) | exact HB.out)⟩
    ·replace c13:=Bool.eq_false_iff.mpr c13
     subst c13
     have H1:(some (0,3)) = some (r1,r2):=by rw [if_neg (show ¬ (false = true) by decide)] at H;exact H
     clear H
     have H:=H1
     clear H1
     simp only [Option.some.injEq,Prod.mk.injEq] at H
     obtain ⟨rfl,rfl⟩:=H
     have Um:wc.cell? ⟨p9,0,none⟩ = some (.string zD):=zw uq 0
     have Un:wc.cell? ⟨p9,1,none⟩ = some (.bool ze):=zw uq 1
     have Uo:wc.cell? ⟨p9,2,none⟩ = some (.int .i64 za):=zw uq 2
     have Ur:wc.cell? ⟨p9,3,none⟩ = some (.slice yT zn.length yU):=zw uq 3
     have zxj:wc.cell? ⟨p9,4,none⟩ = some (.slice y7 zF.length y8):=zw uq 4
     have zxv:wc.cell? ⟨p9,5,none⟩ = some (.slice yZ zY.length yQ):=zw uq 5
     have Us:=zy uq.out 0
     have Ut:=zy uq.out 1
     have Uu:=zy uq.out 2
     have UA:=zy uq.out 3
     have zxk:=zy uq.out 4
     have zxy:=zy uq.out 5
     go_wp2_with (first | ((with_reducible refine yE (f:=123) rfl ?_);refine jg (some 25) Tryz.func123 #[.agg #[.string zD,.bool ze,.int .i64 za,.slice yT zn.length yU,.slice y7 zF.length y8,.slice yZ zY.length yQ],.string a1,.int .i64 a2] ?_;(with_reducible refine (qU.calls kj3 zD ze za _ _ zn _ _ zF _ _ zY a1 a2 zYO false _ ?yc ?yG ?qZ ?qQ ?qB ?qC A12.out).mono ?_);(case yc=>exact qY (Kd.zm jF.out HB.out));(case yG=>exact kU.out);(case qZ=>exact qY (Kd.zm jG.out HB.out));(case qQ=>exact wz.out);(case qB=>exact qY (Kd.zm uD.out HB.out));(case qC=>exact jh.out);rintro e Vn ⟨rfl,hb⟩;refine ⟨_,rfl,?_⟩;have zW:=zx.mk (yj (g:=p9) (o:=.cells #[.string zD,.bool ze,.int .i64 za,.slice yT zn.length yU,.slice y7 zF.length y8,.slice yZ zY.length yQ] 101 (0,0)) (qV uq.out) hb);have zh:=zx.mk (zC (zG HB.out) hb);clear uq;clear HB;have uq:=zW;have HB:=zh;clear zW zh;(try clear hb);(try clear hi)))
     go_ret2
     exact ⟨by first | rfl | (simp [zH,zI] <;> rfl) | (simp [*,zH,zI] <;> rfl),by repeat (first | (with_reducible first | exact HB.out | apply yX | apply zL | apply zR | refine qK ?_ zYN.out) | exact HB.out)⟩
end Go.Proofs.YtggifbbiiickmaaGreatDoor.PX
namespace Go.Proofs.YtggifbbiiickmaaGreatDoor.PX
open Go.RowKit Go.Proofs.zk.zu Go.Proofs.zk.yD Go.Proofs.zk.yA
attribute [local go_sem] xP xR vG vH xB xC xS xU   -- for this text's walks alone
set_option linter.unusedVariables false
set_option linter.unusedSimpArgs false
end Go.Proofs.YtggifbbiiickmaaGreatDoor.PX
namespace Go.Proofs.YtggifbbiiickmaaGreatDoor.PX
open Go.RowKit Go.Proofs.zk.zu Go.Proofs.zk.yD Go.Proofs.zk.yA
attribute [local go_sem] xP xR vG vH xB xC xS xU   -- for this text's walks alone
set_option linter.unusedVariables false
set_option linter.unusedSimpArgs false
def qF.l0:Nat → ByteArray → ByteArray → Int → Int → ByteArray → Bool → Int → List (uX) → List (uG) → List (uN) → Option (Int)
 | 0,_,_,_,_,_,_,_,_,_,_=>none
 | k + 1,x1,x2,x3,x9,zQ2,zQ3,zQ4,zQ5,zQ6,mW=>if x9 < (mW.length:Int) then (if 0 ≤ x9 then (if ((xZ mW x9).f0).toList = x1.toList then (if ((xZ mW x9).f1).toList = x2.toList then ((kY.f ((xZ mW x9).f2) x3).bind fun zYP=>(some zYP)) else (qF.l0 k x1 x2 x3 (wrap64 (x9 + 1)) zQ2 zQ3 zQ4 zQ5 zQ6 mW)) else (qF.l0 k x1 x2 x3 (wrap64 (x9 + 1)) zQ2 zQ3 zQ4 zQ5 zQ6 mW)) else (none)) else (some 0)
def qF.f (k:Nat) (zD:ByteArray) (ze:Bool) (za:Int) (zn:List (uX)) (zF:List (uG)) (zY:List (uN)) (a1:ByteArray) (a2:ByteArray) (a3:Int):Option (Int):=qF.l0 k a1 a2 a3 0 zD ze za zn zF zY
set_option maxHeartbeats 8000000 in
set_option maxRecDepth 100000 in
theorem qF.calls (k:Nat) (zD:ByteArray) (ze:Bool) (za:Int) (yT:Option Addr) (yU:Nat) (zn:List (uX)) (y7:Option Addr) (y8:Nat) (zF:List (uG)) (yZ:Option Addr) (yQ:Nat) (zY:List (uN)) (a1:ByteArray) (a2:ByteArray) (a3:Int) (r:Int) (w:World) (jq:Kd.C Yi w yT zn.length zn) (jN:zn.length ≤ yU) (jO:Kd.C YE w y7 zF.length zF) (jP:zF.length ≤ y8) (jm:Kd.C YP w yZ zY.length zY) (jo:zY.length ≤ yQ) (h:qF.f k zD ze za zn zF zY a1 a2 a3 = some r) :
  Calls Tryz.prog 142 #[.agg #[.string zD,.bool ze,.int .i64 za,.slice yT zn.length yU,.slice y7 zF.length y8,.slice yZ zY.length yQ],.string a1,.string a2,.int .i64 a3] w fun e w'=>e = .returned (.int .i64 r) ∧ Below w.heap.size w w':=by
 have VH:=Tryz.underlying101
 have jF:=zx.mk jq
 have kU:=zx.mk jN
 clear jq jN
 have jG:=zx.mk jO
 have wz:=zx.mk jP
 clear jO jP
 have uD:=zx.mk jm
 have jh:=zx.mk jo
 clear jm jo
 have HB:=zx.mk (Below.refl w.heap.size w)
 have H:(qF.l0 k a1 a2 a3 0 zD ze za zn zF zY) = some r:=h
 clear h
 have H':=zx.mk H
 clear H
 go_enter Tryz.func142,Tryz.ntmps142
 go_wp2_with (first | ((with_reducible refine qA (N:=4) rfl ?_);refine qH ?hg (N:=4) ?hd (cs:=#[.string zD,.bool ze,.int .i64 za,.slice yT zn.length yU,.slice y7 zF.length y8,.slice yZ zY.length yQ]) (t:=101) ?hr ?_;(case hd=>rfl);(case hg=>rfl);(case hr=>first | (go_simp;done) | (go_simp;rfl));intro wE hg w5 qd hb;have zW:=zx.mk (zC (zG HB.out) hb);have zh:=zx.mk (qd);have zo:=zx.mk ((by rw [hg];exact (zf (zG HB.out)):w.heap.size ≤ wE));have zM:=zx.mk ((by rw [hg];exact (zf (zG HB.out)):w.heap.size ≤ wE));clear HB;have HB:=zW;have vI:=zh;have zDb:=zo;have ze4:=zM;clear zW zh zo zM;clear hb qd hg))
 go_loopg [9] k (fun kq v9 w'=>∃ (vk:Int),v9 = .int .i64 vk ∧ zx (qF.l0 kq a1 a2 a3 vk zD ze za zn zF zY = some r) ∧ zx (kq ≤ k) ∧ zx (w'.heap[wE]? = some (.cells #[.string zD,.bool ze,.int .i64 za,(.slice yT zn.length yU),(.slice y7 zF.length y8),(.slice yZ zY.length yQ)] 101 (0,0))) ∧ zx (Below w.heap.size w w'))
 case atStart=>exact ⟨(0),(by first | rfl | (simp;done) | (simp [*];done)),H',⟨Nat.le_refl _⟩,⟨qV vI.out⟩,⟨zG HB.out⟩⟩
 case round =>
  clear H'
  obtain ⟨vk,rfl,HA,uK,vI,HB⟩:=hrel
  cases gk with
  | zero=>exact absurd HA.out (by simp [qF.l0])
  | succ k1 =>
   have H:=HA.out
   clear HA
   simp only [qF.l0] at H
   by_cases c6:vk < (zY.length:Int)
   ·rw [if_pos c6] at H
    have wP:decide (vk < (zY.length:Int)) = true:=decide_eq_true c6
    clear c6
    by_cases c7:0 ≤ vk
    ·rw [if_pos c7] at H
     have Xn:decide (0 ≤ vk) = true:=decide_eq_true c7
     clear c7
     by_cases c8:((xZ zY vk).f0).toList = a1.toList
     ·rw [if_pos c8] at H
      have Zt:(((xZ zY vk).f0).toList == a1.toList) = true:=beq_iff_eq.mpr c8
      have V6:(((xZ zY vk).f0).toList != a1.toList) = false:=bne_eq_false_iff_eq.mpr c8
      clear c8
      by_cases c9:((xZ zY vk).f1).toList = a2.toList
      ·rw [if_pos c9] at H
       have zqf:(((xZ zY vk).f1).toList == a2.toList) = true:=beq_iff_eq.mpr c9
       have zwU:(((xZ zY vk).f1).toList != a2.toList) = false:=bne_eq_false_iff_eq.mpr c9
       clear c9
       replace H:=Option.bind_eq_some_iff.mp H
       obtain ⟨zYP,zwP,H⟩:=H
       replace H:(some zYP) = some r:=H
       have A10:=zx.mk zwP
       clear zwP
       obtain rfl:=Option.some.inj H
       have WU:wr.cell? ⟨wE,0,none⟩ = some (.string zD):=zw vI 0
       have Pz:wr.cell? ⟨wE,1,none⟩ = some (.bool ze):=zw vI 1
       have Pq:wr.cell? ⟨wE,2,none⟩ = some (.int .i64 za):=zw vI 2
       have Px:wr.cell? ⟨wE,3,none⟩ = some (.slice yT zn.length yU):=zw vI 3
       have mX:wr.cell? ⟨wE,4,none⟩ = some (.slice y7 zF.length y8):=zw vI 4
       have mJ:wr.cell? ⟨wE,5,none⟩ = some (.slice yZ zY.length yQ):=zw vI 5
       have Pj:=zy vI.out 0
       have Pv:=zy vI.out 1
       have Pk:=zy vI.out 2
       have Py:=zy vI.out 3
       have mV:=zy vI.out 4
       have mK:=zy vI.out 5
       have rR:0 ≤ (vk:Int):=of_decide_eq_true yF
       have r9:vk < (zY.length:Int):=of_decide_eq_true yF
       obtain ⟨zva,zw0,YS,YT,YU⟩:=UZ uD.out vk rR r9
       cases zw0
       replace YS:=(HB.out.cell (World.block_lt_of_cell? w _ YS)).trans YS
       replace YT:=(HB.out.cell (World.block_lt_of_cell? w _ YT)).trans YT
       replace YU:=(HB.out.cell (World.block_lt_of_cell? w _ YU)).trans YU
       replace rR:=eq_true rR
       replace r9:=eq_true r9
       have zjW:0 ≤ (vk:Int):=of_decide_eq_true yF
       have zja:vk < (zY.length:Int):=of_decide_eq_true yF
       obtain ⟨zYR,zc4,PV,PK,PY⟩:=UZ uD.out vk zjW zja
       obtain rfl:zva = zYR:=(by injection zc4)
       replace PV:=(HB.out.cell (World.block_lt_of_cell? w _ PV)).trans PV
       replace PK:=(HB.out.cell (World.block_lt_of_cell? w _ PK)).trans PK
       replace PY:=(HB.out.cell (World.block_lt_of_cell? w _ PY)).trans PY
       replace zjW:=eq_true zjW
       replace zja:=eq_true zja
       have zc5:0 ≤ (vk:Int):=of_decide_eq_true yF
       have zc6:vk < (zY.length:Int):=of_decide_eq_true yF
       obtain ⟨znm,zrh,zke,zkf,zkg⟩:=UZ uD.out vk zc5 zc6
       obtain rfl:zva = znm:=(by injection zrh)
       replace zke:=(HB.out.cell (World.block_lt_of_cell? w _ zke)).trans zke
       replace zkf:=(HB.out.cell (World.block_lt_of_cell? w _ zkf)).trans zkf
       replace zkg:=(HB.out.cell (World.block_lt_of_cell? w _ zkg)).trans zkg
       replace zc5:=eq_true zc5
       replace zc6:=eq_true zc6
       go_wp2_with (first | ((with_reducible refine yE (f:=122) rfl ?_);refine jg (some 42) Tryz.func122 #[.int .i64 ((xZ zY vk).f2),.int .i64 a3] ?_;(with_reducible refine (kY.calls ((xZ zY vk).f2) a3 zYP _ A10.out).mono ?_);rintro e w' ⟨rfl,⟨nd,rfl⟩⟩;refine ⟨_,rfl,?_⟩))
       go_ret
       exact ⟨by first | rfl | (simp [zH,zI] <;> rfl) | (simp [*,zH,zI] <;> rfl),by repeat (first | (with_reducible first | exact HB.out | apply yX | apply zL | apply zR | refine qK ?_ ze4.out) | exact HB.out)⟩
      ·rw [if_neg c9] at H
       have zqf:(((xZ zY vk).f1).toList == a2.toList) = false:=beq_eq_false_iff_ne.mpr c9
       have zwU:(((xZ zY vk).f1).toList != a2.toList) = true:=bne_iff_ne.mpr c9
       have H':=zx.mk H
       clear H
       have aI:wr.cell? ⟨wE,0,none⟩ = some (.string zD):=zw vI 0
       have aM:wr.cell? ⟨wE,1,none⟩ = some (.bool ze):=zw vI 1
       have aN:wr.cell? ⟨wE,2,none⟩ = some (.int .i64 za):=zw vI 2
       have aT:wr.cell? ⟨wE,3,none⟩ = some (.slice yT zn.length yU):=zw vI 3
       have aU:wr.cell? ⟨wE,4,none⟩ = some (.slice y7 zF.length y8):=zw vI 4
       have fq:wr.cell? ⟨wE,5,none⟩ = some (.slice yZ zY.length yQ):=zw vI 5
       have fZ:=zy vI.out 0
       have fQ:=zy vI.out 1
       have fJ:=zy vI.out 2
       have fV:=zy vI.out 3
       have fK:=zy vI.out 4
       have fu:=zy vI.out 5
       have rR:0 ≤ (vk:Int):=of_decide_eq_true yF
       have r9:vk < (zY.length:Int):=of_decide_eq_true yF
       obtain ⟨zva,zw0,YS,YT,YU⟩:=UZ uD.out vk rR r9
       cases zw0
       replace YS:=(HB.out.cell (World.block_lt_of_cell? w _ YS)).trans YS
       replace YT:=(HB.out.cell (World.block_lt_of_cell? w _ YT)).trans YT
       replace YU:=(HB.out.cell (World.block_lt_of_cell? w _ YU)).trans YU
       replace rR:=eq_true rR
       replace r9:=eq_true r9
       have zjW:0 ≤ (vk:Int):=of_decide_eq_true yF
       have zja:vk < (zY.length:Int):=of_decide_eq_true yF
       obtain ⟨zYR,zc4,PV,PK,PY⟩:=UZ uD.out vk zjW zja
       obtain rfl:zva = zYR:=(by injection zc4)
       replace PV:=(HB.out.cell (World.block_lt_of_cell? w _ PV)).trans PV
       replace PK:=(HB.out.cell (World.block_lt_of_cell? w _ PK)).trans PK
       replace PY:=(HB.out.cell (World.block_lt_of_cell? w _ PY)).trans PY
       replace zjW:=eq_true zjW
       replace zja:=eq_true zja
       go_wp2
       go_roundg k1
       case measure=>have:=uK.out;omega
       case rel=>exact ⟨(wrap64 (vk + 1)),(by first | rfl | (simp;done) | (simp [*];done)),H',⟨by have:=uK.out;omega⟩,⟨qV vI.out⟩,⟨zG HB.out⟩⟩
     ·rw [if_neg c8] at H
      have Zt:(((xZ zY vk).f0).toList == a1.toList) = false:=beq_eq_false_iff_ne.mpr c8
      have V6:(((xZ zY vk).f0).toList != a1.toList) = true:=bne_iff_ne.mpr c8
      have H':=zx.mk H
      clear H
      have XP:wr.cell? ⟨wE,0,none⟩ = some (.string zD):=zw vI 0
      have XR:wr.cell? ⟨wE,1,none⟩ = some (.bool ze):=zw vI 1
      have XT:wr.cell? ⟨wE,2,none⟩ = some (.int .i64 za):=zw vI 2
      have XU:wr.cell? ⟨wE,3,none⟩ = some (.slice yT zn.length yU):=zw vI 3
      have eH:wr.cell? ⟨wE,4,none⟩ = some (.slice y7 zF.length y8):=zw vI 4
      have eO:wr.cell? ⟨wE,5,none⟩ = some (.slice yZ zY.length yQ):=zw vI 5
      have X0:=zy vI.out 0
      have X3:=zy vI.out 1
      have X4:=zy vI.out 2
      have X5:=zy vI.out 3
      have eP:=zy vI.out 4
      have eT:=zy vI.out 5
      have rR:0 ≤ (vk:Int):=of_decide_eq_true yF
      have r9:vk < (zY.length:Int):=of_decide_eq_true yF
      obtain ⟨zva,zw0,YS,YT,YU⟩:=UZ uD.out vk rR r9
      cases zw0
      replace YS:=(HB.out.cell (World.block_lt_of_cell? w _ YS)).trans YS
      replace YT:=(HB.out.cell (World.block_lt_of_cell? w _ YT)).trans YT
      replace YU:=(HB.out.cell (World.block_lt_of_cell? w _ YU)).trans YU
      replace rR:=eq_true rR
      replace r9:=eq_true r9
      go_wp2
      go_roundg k1
      case measure=>have:=uK.out;omega
      case rel=>exact ⟨(wrap64 (vk + 1)),(by first | rfl | (simp;done) | (simp [*];done)),H',⟨by have:=uK.out;omega⟩,⟨qV vI.out⟩,⟨zG HB.out⟩⟩
    ·rw [if_neg c7] at H
     exact absurd H (by simp)
   ·rw [if_neg c6] at H
    have wP:decide (vk < (zY.length:Int)) = false:=decide_eq_false c6
    clear c6
    obtain rfl:=Option.some.inj H
    have UY:wr.cell? ⟨wE,0,none⟩ = some (.string zD):=zw vI 0
    have UW:wr.cell? ⟨wE,1,none⟩ = some (.bool ze):=zw vI 1
    have Ua:wr.cell? ⟨wE,2,none⟩ = some (.int .i64 za):=zw vI 2
    have Ub:wr.cell? ⟨wE,3,none⟩ = some (.slice yT zn.length yU):=zw vI 3
    have Uc:wr.cell? ⟨wE,4,none⟩ = some (.slice y7 zF.length y8):=zw vI 4
    have Ud:wr.cell? ⟨wE,5,none⟩ = some (.slice yZ zY.length yQ):=zw vI 5
    have Ue:=zy vI.out 0
    have Uf:=zy vI.out 1
    have Ug:=zy vI.out 2
    have Uh:=zy vI.out 3
    have Ui:=zy vI.out 4
    have Ul:=zy vI.out 5
    go_wp2
    go_ret
    exact ⟨by first | rfl | (simp [zH,zI] <;> rfl) | (simp [*,zH,zI] <;> rfl),by repeat (first | (with_reducible first | exact HB.out | apply yX | apply zL | apply zR | refine qK ?_ ze4.out) | exact HB.out)⟩
end Go.Proofs.YtggifbbiiickmaaGreatDoor.PX
namespace Go.Proofs.YtggifbbiiickmaaGreatDoor.PX
open Go.RowKit Go.Proofs.zk.zu Go.Proofs.zk.yD Go.Proofs.zk.yA
attribute [local go_sem] xP xR vG vH xB xC xS xU   -- for this text's walks alone
set_option linter.unusedVariables false
set_option linter.unusedSimpArgs false
def uH.f (k:Nat) (zD:ByteArray) (ze:Bool) (za:Int) (zn:List (uX)) (zF:List (uG)) (zY:List (uN)) (a1:ByteArray) (a2:ByteArray) (a3:Int):Option (Int × Int):=if a3 < 1 then (some (0,1)) else (if a3 > 1000 then (some (0,1)) else ((xJ.f zD ze za zn zF zY).bind fun zkh=>(if zkh = true then ((qF.f k zD ze za zn zF zY a1 a2 a3).bind fun aX=>(some (aX,0))) else (some (0,1)))))
set_option maxHeartbeats 8000000 in
set_option maxRecDepth 100000 in
theorem uH.calls (k:Nat) (zD:ByteArray) (ze:Bool) (za:Int) (yT:Option Addr) (yU:Nat) (zn:List (uX)) (y7:Option Addr) (y8:Nat) (zF:List (uG)) (yZ:Option Addr) (yQ:Nat) (zY:List (uN)) (a1:ByteArray) (a2:ByteArray) (a3:Int) (r1:Int) (r2:Int) (w:World) (jq:Kd.C Yi w yT zn.length zn) (jN:zn.length ≤ yU) (jO:Kd.C YE w y7 zF.length zF) (jP:zF.length ≤ y8) (jm:Kd.C YP w yZ zY.length zY) (jo:zY.length ≤ yQ) (h:uH.f k zD ze za zn zF zY a1 a2 a3 = some (r1,r2)) :
  Calls Tryz.prog 109 #[.agg #[.string zD,.bool ze,.int .i64 za,.slice yT zn.length yU,.slice y7 zF.length y8,.slice yZ zY.length yQ],.string a1,.string a2,.int .i64 a3] w fun e w'=>e = .returned (.tuple #[.int .i64 r1,.int .i64 r2]) ∧ Below w.heap.size w w':=by
 have VH:=Tryz.underlying101
 have jF:=zx.mk jq
 have kU:=zx.mk jN
 clear jq jN
 have jG:=zx.mk jO
 have wz:=zx.mk jP
 clear jO jP
 have uD:=zx.mk jm
 have jh:=zx.mk jo
 clear jm jo
 have HB:=zx.mk (Below.refl w.heap.size w)
 have H:(if a3 < 1 then (some (0,1)) else (if a3 > 1000 then (some (0,1)) else ((xJ.f zD ze za zn zF zY).bind fun zkh=>(if zkh = true then ((qF.f k zD ze za zn zF zY a1 a2 a3).bind fun aX=>(some (aX,0))) else (some (0,1)))))) = some (r1,r2):=h
 clear h
 by_cases c5:a3 < 1
 ·rw [if_pos c5] at H
  have pY:decide (a3 < 1) = true:=decide_eq_true c5
  clear c5
  simp only [Option.some.injEq,Prod.mk.injEq] at H
  obtain ⟨rfl,rfl⟩:=H
  go_enter Tryz.func109,Tryz.ntmps109
  go_wp2_with (first | ((with_reducible refine qA (N:=4) rfl ?_);refine qH ?hg (N:=4) ?hd (cs:=#[.string zD,.bool ze,.int .i64 za,.slice yT zn.length yU,.slice y7 zF.length y8,.slice yZ zY.length yQ]) (t:=101) ?hr ?_;(case hd=>rfl);(case hg=>rfl);(case hr=>first | (go_simp;done) | (go_simp;rfl));intro kJ hg w6 qd hb;have zW:=zx.mk (zC (zG HB.out) hb);have zh:=zx.mk (qd);have zo:=zx.mk ((by rw [hg];exact (zf (zG HB.out)):w.heap.size ≤ kJ));have zM:=zx.mk ((by rw [hg];exact (zf (zG HB.out)):w.heap.size ≤ kJ));clear HB;have HB:=zW;have uZ:=zh;have zYS:=zo;have zz2:=zM;clear zW zh zo zM;clear hb qd hg))
  go_ret2
  exact ⟨by first | rfl | (simp [zH,zI] <;> rfl) | (simp [*,zH,zI] <;> rfl),by repeat (first | (with_reducible first | exact HB.out | apply yX | apply zL | apply zR | refine qK ?_ zz2.out) | exact HB.out)⟩
 ·rw [if_neg c5] at H
  have pY:decide (a3 < 1) = false:=decide_eq_false c5
  clear c5
  by_cases c7:a3 > 1000
  ·rw [if_pos c7] at H
   have Xn:decide (1000 < a3) = true:=decide_eq_true c7
   clear c7
   simp only [Option.some.injEq,Prod.mk.injEq] at H
   obtain ⟨rfl,rfl⟩:=H
   go_enter Tryz.func109,Tryz.ntmps109
   go_wp2_with (first | ((with_reducible refine qA (N:=4) rfl ?_);refine qH ?hg (N:=4) ?hd (cs:=#[.string zD,.bool ze,.int .i64 za,.slice yT zn.length yU,.slice y7 zF.length y8,.slice yZ zY.length yQ]) (t:=101) ?hr ?_;(case hd=>rfl);(case hg=>rfl);(case hr=>first | (go_simp;done) | (go_simp;rfl));intro kJ hg w8 qd hb;have zW:=zx.mk (zC (zG HB.out) hb);have zh:=zx.mk (qd);have zo:=zx.mk ((by rw [hg];exact (zf (zG HB.out)):w.heap.size ≤ kJ));have zM:=zx.mk ((by rw [hg];exact (zf (zG HB.out)):w.heap.size ≤ kJ));clear HB;have HB:=zW;have uZ:=zh;have zYS:=zo;have zz2:=zM;clear zW zh zo zM;clear hb qd hg))
   go_ret2
   exact ⟨by first | rfl | (simp [zH,zI] <;> rfl) | (simp [*,zH,zI] <;> rfl),by repeat (first | (with_reducible first | exact HB.out | apply yX | apply zL | apply zR | refine qK ?_ zz2.out) | exact HB.out)⟩
  ·rw [if_neg c7] at H
   have Xn:decide (1000 < a3) = false:=decide_eq_false c7
   clear c7
   replace H:=Option.bind_eq_some_iff.mp H
   obtain ⟨zkh,A90,H⟩:=H
   replace H:(if zkh = true then ((qF.f k zD ze za zn zF zY a1 a2 a3).bind fun aX=>(some (aX,0))) else (some (0,1))) = some (r1,r2):=H
   have A9:=zx.mk A90
   clear A90
   by_cases c10:zkh = true
   ·subst c10
    have H1:((qF.f k zD ze za zn zF zY a1 a2 a3).bind fun aX=>(some (aX,0))) = some (r1,r2):=by rw [if_pos rfl] at H;exact H
    clear H
    have H:=H1
    clear H1
    replace H:=Option.bind_eq_some_iff.mp H
    obtain ⟨aX,zlX,H⟩:=H
    replace H:(some (aX,0)) = some (r1,r2):=H
    have A11:=zx.mk zlX
    clear zlX
    simp only [Option.some.injEq,Prod.mk.injEq] at H
    obtain ⟨rfl,rfl⟩:=H
    go_enter Tryz.func109,Tryz.ntmps109
    go_wp2_with (first | ((with_reducible refine qA (N:=4) rfl ?_);refine qH ?hg (N:=4) ?hd (cs:=#[.string zD,.bool ze,.int .i64 za,.slice yT zn.length yU,.slice y7 zF.length y8,.slice yZ zY.length yQ]) (t:=101) ?hr ?_;(case hd=>rfl);(case hg=>rfl);(case hr=>first | (go_simp;done) | (go_simp;rfl));intro kJ hg YK qd hb;have zW:=zx.mk (zC (zG HB.out) hb);have zh:=zx.mk (qd);have zo:=zx.mk ((by rw [hg];exact (zf (zG HB.out)):w.heap.size ≤ kJ));have zM:=zx.mk ((by rw [hg];exact (zf (zG HB.out)):w.heap.size ≤ kJ));clear HB;have HB:=zW;have uZ:=zh;have zYS:=zo;have zz2:=zM;clear zW zh zo zM;clear hb qd hg;have XP:YK.cell? ⟨kJ,0,none⟩ = some (.string zD):=zw uZ 0;have XR:YK.cell? ⟨kJ,1,none⟩ = some (.bool ze):=zw uZ 1;have XT:YK.cell? ⟨kJ,2,none⟩ = some (.int .i64 za):=zw uZ 2;have XU:YK.cell? ⟨kJ,3,none⟩ = some (.slice yT zn.length yU):=zw uZ 3;have eH:YK.cell? ⟨kJ,4,none⟩ = some (.slice y7 zF.length y8):=zw uZ 4;have eO:YK.cell? ⟨kJ,5,none⟩ = some (.slice yZ zY.length yQ):=zw uZ 5;have X0:=zy uZ.out 0;have X3:=zy uZ.out 1;have X4:=zy uZ.out 2;have X5:=zy uZ.out 3;have eP:=zy uZ.out 4;have eT:=zy uZ.out 5) | (go_at_call 106;(with_reducible refine (xJ.calls zD ze za _ _ zn _ _ zF _ _ zY true _ ?yc ?yG ?qZ ?qQ ?qB ?qC A9.out).mono ?_);(case yc=>exact qY (Kd.zm jF.out HB.out));(case yG=>exact kU.out);(case qZ=>exact qY (Kd.zm jG.out HB.out));(case qQ=>exact wz.out);(case qB=>exact qY (Kd.zm uD.out HB.out));(case qC=>exact jh.out);rintro e WC ⟨rfl,hb⟩;have zW:=zx.mk (yj (g:=kJ) (o:=.cells #[.string zD,.bool ze,.int .i64 za,.slice yT zn.length yU,.slice y7 zF.length y8,.slice yZ zY.length yQ] 101 (0,0)) (qV uZ.out) hb);have zh:=zx.mk (zC (zG HB.out) hb);clear uZ;clear HB;have uZ:=zW;have HB:=zh;clear zW zh;(try clear hb);have zth:WC.cell? ⟨kJ,0,none⟩ = some (.string zD):=zw uZ 0;have zti:WC.cell? ⟨kJ,1,none⟩ = some (.bool ze):=zw uZ 1;have ztl:WC.cell? ⟨kJ,2,none⟩ = some (.int .i64 za):=zw uZ 2;have ztm:WC.cell? ⟨kJ,3,none⟩ = some (.slice yT zn.length yU):=zw uZ 3;have ztn:WC.cell? ⟨kJ,4,none⟩ = some (.slice y7 zF.length y8):=zw uZ 4;have zto:WC.cell? ⟨kJ,5,none⟩ = some (.slice yZ zY.length yQ):=zw uZ 5;have ztp:=zy uZ.out 0;have ztr:=zy uZ.out 1;have zts:=zy uZ.out 2;have ztt:=zy uZ.out 3;have ztu:=zy uZ.out 4;have ztA:=zy uZ.out 5) | ((with_reducible refine yE (f:=142) rfl ?_);refine jg (some 25) Tryz.func142 #[.agg #[.string zD,.bool ze,.int .i64 za,.slice yT zn.length yU,.slice y7 zF.length y8,.slice yZ zY.length yQ],.string a1,.string a2,.int .i64 a3] ?_;(with_reducible refine (qF.calls k zD ze za _ _ zn _ _ zF _ _ zY a1 a2 a3 aX _ ?yc ?yG ?qZ ?qQ ?qB ?qC A11.out).mono ?_);(case yc=>exact qY (Kd.zm jF.out HB.out));(case yG=>exact kU.out);(case qZ=>exact qY (Kd.zm jG.out HB.out));(case qQ=>exact wz.out);(case qB=>exact qY (Kd.zm uD.out HB.out));(case qC=>exact jh.out);rintro e w16 ⟨rfl,hb⟩;refine ⟨_,rfl,?_⟩;have zW:=zx.mk (yj (g:=kJ) (o:=.cells #[.string zD,.bool ze,.int .i64 za,.slice yT zn.length yU,.slice y7 zF.length y8,.slice yZ zY.length yQ] 101 (0,0)) (qV uZ.out) hb);have zh:=zx.mk (zC (zG HB.out) hb);clear uZ;clear HB;have uZ:=zW;have HB:=zh;clear zW zh;(try clear hb);(try clear hi)))
    go_ret2
    exact ⟨by first | rfl | (simp [zH,zI] <;> rfl) | (simp [*,zH,zI] <;> rfl),by repeat (first | (with_reducible first | exact HB.out | apply yX | apply zL | apply zR | refine qK ?_ zz2.out) | exact HB.out)⟩
   ·replace c10:=Bool.eq_false_iff.mpr c10
    subst c10
    have H1:(some (0,1)) = some (r1,r2):=by rw [if_neg (show ¬ (false = true) by decide)] at H;exact H
    clear H
    have H:=H1
    clear H1
    simp only [Option.some.injEq,Prod.mk.injEq] at H
    obtain ⟨rfl,rfl⟩:=H
    go_enter Tryz.func109,Tryz.ntmps109
    go_wp2_with (first | ((with_reducible refine qA (N:=4) rfl ?_);refine qH ?hg (N:=4) ?hd (cs:=#[.string zD,.bool ze,.int .i64 za,.slice yT zn.length yU,.slice y7 zF.length y8,.slice yZ zY.length yQ]) (t:=101) ?hr ?_;(case hd=>rfl);(case hg=>rfl);(case hr=>first | (go_simp;done) | (go_simp;rfl));intro kJ hg Vn qd hb;have zW:=zx.mk (zC (zG HB.out) hb);have zh:=zx.mk (qd);have zo:=zx.mk ((by rw [hg];exact (zf (zG HB.out)):w.heap.size ≤ kJ));have zM:=zx.mk ((by rw [hg];exact (zf (zG HB.out)):w.heap.size ≤ kJ));clear HB;have HB:=zW;have uZ:=zh;have zYS:=zo;have zz2:=zM;clear zW zh zo zM;clear hb qd hg;have zf8:Vn.cell? ⟨kJ,0,none⟩ = some (.string zD):=zw uZ 0;have zf9:Vn.cell? ⟨kJ,1,none⟩ = some (.bool ze):=zw uZ 1;have zgz:Vn.cell? ⟨kJ,2,none⟩ = some (.int .i64 za):=zw uZ 2;have zgq:Vn.cell? ⟨kJ,3,none⟩ = some (.slice yT zn.length yU):=zw uZ 3;have zgx:Vn.cell? ⟨kJ,4,none⟩ = some (.slice y7 zF.length y8):=zw uZ 4;have zgj:Vn.cell? ⟨kJ,5,none⟩ = some (.slice yZ zY.length yQ):=zw uZ 5;have zgv:=zy uZ.out 0;have zgk:=zy uZ.out 1;have zgy:=zy uZ.out 2;have zgw:=zy uZ.out 3;have zgZ:=zy uZ.out 4;have zgQ:=zy uZ.out 5) | (go_at_call 106;(with_reducible refine (xJ.calls zD ze za _ _ zn _ _ zF _ _ zY false _ ?yc ?yG ?qZ ?qQ ?qB ?qC A9.out).mono ?_);(case yc=>exact qY (Kd.zm jF.out HB.out));(case yG=>exact kU.out);(case qZ=>exact qY (Kd.zm jG.out HB.out));(case qQ=>exact wz.out);(case qB=>exact qY (Kd.zm uD.out HB.out));(case qC=>exact jh.out);rintro e w19 ⟨rfl,hb⟩;have zW:=zx.mk (yj (g:=kJ) (o:=.cells #[.string zD,.bool ze,.int .i64 za,.slice yT zn.length yU,.slice y7 zF.length y8,.slice yZ zY.length yQ] 101 (0,0)) (qV uZ.out) hb);have zh:=zx.mk (zC (zG HB.out) hb);clear uZ;clear HB;have uZ:=zW;have HB:=zh;clear zW zh;(try clear hb);(try clear hi)))
    go_ret2
    exact ⟨by first | rfl | (simp [zH,zI] <;> rfl) | (simp [*,zH,zI] <;> rfl),by repeat (first | (with_reducible first | exact HB.out | apply yX | apply zL | apply zR | refine qK ?_ zz2.out) | exact HB.out)⟩
end Go.Proofs.YtggifbbiiickmaaGreatDoor.PX
namespace Go.Proofs.YtggifbbiiickmaaGreatDoor.PX
open Go.RowKit Go.Proofs.zk.zu Go.Proofs.zk.yD Go.Proofs.zk.yA
attribute [local go_sem] xP xR vG vH xB xC xS xU   -- for this text's walks alone
set_option linter.unusedVariables false
set_option linter.unusedSimpArgs false
def qG.l0:Nat → ByteArray → ByteArray → Int → ByteArray → Bool → Int → List (uX) → List (uG) → List (uN) → Option (ByteArray × Bool)
 | 0,_,_,_,_,_,_,_,_,_=>none
 | k + 1,x1,x2,x8,zQ7,zQ8,zQ9,zXz,mg,zXq=>if x8 < (mg.length:Int) then (if 0 ≤ x8 then (if ((xM mg x8).f0).toList = x1.toList then (if ((xM mg x8).f1).toList = x2.toList then (some ((xM mg x8).f2,true)) else (qG.l0 k x1 x2 (wrap64 (x8 + 1)) zQ7 zQ8 zQ9 zXz mg zXq)) else (qG.l0 k x1 x2 (wrap64 (x8 + 1)) zQ7 zQ8 zQ9 zXz mg zXq)) else (none)) else (some ((⟨#[]⟩:ByteArray),false))
def qG.f (k:Nat) (zD:ByteArray) (ze:Bool) (za:Int) (zn:List (uX)) (zF:List (uG)) (zY:List (uN)) (a1:ByteArray) (a2:ByteArray):Option (ByteArray × Bool):=qG.l0 k a1 a2 0 zD ze za zn zF zY
set_option maxHeartbeats 8000000 in
set_option maxRecDepth 100000 in
theorem qG.calls (k:Nat) (zD:ByteArray) (ze:Bool) (za:Int) (yT:Option Addr) (yU:Nat) (zn:List (uX)) (y7:Option Addr) (y8:Nat) (zF:List (uG)) (yZ:Option Addr) (yQ:Nat) (zY:List (uN)) (a1:ByteArray) (a2:ByteArray) (r1:ByteArray) (r2:Bool) (w:World) (jq:Kd.C Yi w yT zn.length zn) (jN:zn.length ≤ yU) (jO:Kd.C YE w y7 zF.length zF) (jP:zF.length ≤ y8) (jm:Kd.C YP w yZ zY.length zY) (jo:zY.length ≤ yQ) (h:qG.f k zD ze za zn zF zY a1 a2 = some (r1,r2)) :
  Calls Tryz.prog 141 #[.agg #[.string zD,.bool ze,.int .i64 za,.slice yT zn.length yU,.slice y7 zF.length y8,.slice yZ zY.length yQ],.string a1,.string a2] w fun e w'=>e = .returned (.tuple #[.string r1,.bool r2]) ∧ Below w.heap.size w w':=by
 have VH:=Tryz.underlying101
 have jF:=zx.mk jq
 have kU:=zx.mk jN
 clear jq jN
 have jG:=zx.mk jO
 have wz:=zx.mk jP
 clear jO jP
 have uD:=zx.mk jm
 have jh:=zx.mk jo
 clear jm jo
 have HB:=zx.mk (Below.refl w.heap.size w)
 have H:(qG.l0 k a1 a2 0 zD ze za zn zF zY) = some (r1,r2):=h
 clear h
 have H':=zx.mk H
 clear H
 go_enter Tryz.func141,Tryz.ntmps141
 go_wp2_with (first | ((with_reducible refine qA (N:=3) rfl ?_);refine qH ?hg (N:=3) ?hd (cs:=#[.string zD,.bool ze,.int .i64 za,.slice yT zn.length yU,.slice y7 zF.length y8,.slice yZ zY.length yQ]) (t:=101) ?hr ?_;(case hd=>rfl);(case hg=>rfl);(case hr=>first | (go_simp;done) | (go_simp;rfl));intro wF hg w4 qd hb;have zW:=zx.mk (zC (zG HB.out) hb);have zh:=zx.mk (qd);have zo:=zx.mk ((by rw [hg];exact (zf (zG HB.out)):w.heap.size ≤ wF));have zM:=zx.mk ((by rw [hg];exact (zf (zG HB.out)):w.heap.size ≤ wF));clear HB;have HB:=zW;have vL:=zh;have zDc:=zo;have ze5:=zM;clear zW zh zo zM;clear hb qd hg))
 go_loopg [8] k (fun kq v8 w'=>∃ (yV:Int),v8 = .int .i64 yV ∧ zx (qG.l0 kq a1 a2 yV zD ze za zn zF zY = some (r1,r2)) ∧ zx (kq ≤ k) ∧ zx (w'.heap[wF]? = some (.cells #[.string zD,.bool ze,.int .i64 za,(.slice yT zn.length yU),(.slice y7 zF.length y8),(.slice yZ zY.length yQ)] 101 (0,0))) ∧ zx (Below w.heap.size w w'))
 case atStart=>exact ⟨(0),(by first | rfl | (simp;done) | (simp [*];done)),H',⟨Nat.le_refl _⟩,⟨qV vL.out⟩,⟨zG HB.out⟩⟩
 case round =>
  clear H'
  obtain ⟨yV,rfl,HA,uK,vL,HB⟩:=hrel
  cases gk with
  | zero=>exact absurd HA.out (by simp [qG.l0])
  | succ k1 =>
   have H:=HA.out
   clear HA
   simp only [qG.l0] at H
   by_cases c5:yV < (zF.length:Int)
   ·rw [if_pos c5] at H
    have pY:decide (yV < (zF.length:Int)) = true:=decide_eq_true c5
    clear c5
    by_cases c6:0 ≤ yV
    ·rw [if_pos c6] at H
     have wP:decide (0 ≤ yV) = true:=decide_eq_true c6
     clear c6
     by_cases c7:((xM zF yV).f0).toList = a1.toList
     ·rw [if_pos c7] at H
      have Xn:(((xM zF yV).f0).toList == a1.toList) = true:=beq_iff_eq.mpr c7
      have zz1:(((xM zF yV).f0).toList != a1.toList) = false:=bne_eq_false_iff_eq.mpr c7
      clear c7
      by_cases c8:((xM zF yV).f1).toList = a2.toList
      ·rw [if_pos c8] at H
       have Zt:(((xM zF yV).f1).toList == a2.toList) = true:=beq_iff_eq.mpr c8
       have V6:(((xM zF yV).f1).toList != a2.toList) = false:=bne_eq_false_iff_eq.mpr c8
       clear c8
       simp only [Option.some.injEq,Prod.mk.injEq] at H
       obtain ⟨rfl,rfl⟩:=H
       have Wy:wr.cell? ⟨wF,0,none⟩ = some (.string zD):=zw vL 0
       have Ww:wr.cell? ⟨wF,1,none⟩ = some (.bool ze):=zw vL 1
       have WZ:wr.cell? ⟨wF,2,none⟩ = some (.int .i64 za):=zw vL 2
       have WQ:wr.cell? ⟨wF,3,none⟩ = some (.slice yT zn.length yU):=zw vL 3
       have dI:wr.cell? ⟨wF,4,none⟩ = some (.slice y7 zF.length y8):=zw vL 4
       have dL:wr.cell? ⟨wF,5,none⟩ = some (.slice yZ zY.length yQ):=zw vL 5
       have WX:=zy vL.out 0
       have WJ:=zy vL.out 1
       have WV:=zy vL.out 2
       have WK:=zy vL.out 3
       have dM:=zy vL.out 4
       have dN:=zy vL.out 5
       have sj:0 ≤ (yV:Int):=of_decide_eq_true yF
       have sw:yV < (zF.length:Int):=of_decide_eq_true yF
       obtain ⟨zvb,e138,Y0,Y1,Y2⟩:=Uw jG.out yV sj sw
       cases e138
       replace Y0:=(HB.out.cell (World.block_lt_of_cell? w _ Y0)).trans Y0
       replace Y1:=(HB.out.cell (World.block_lt_of_cell? w _ Y1)).trans Y1
       replace Y2:=(HB.out.cell (World.block_lt_of_cell? w _ Y2)).trans Y2
       replace sj:=eq_true sj
       replace sw:=eq_true sw
       have zjb:0 ≤ (yV:Int):=of_decide_eq_true yF
       have zjc:yV < (zF.length:Int):=of_decide_eq_true yF
       obtain ⟨zYT,zc7,PW,Pb,Pf⟩:=Uw jG.out yV zjb zjc
       obtain rfl:zvb = zYT:=(by injection zc7)
       replace PW:=(HB.out.cell (World.block_lt_of_cell? w _ PW)).trans PW
       replace Pb:=(HB.out.cell (World.block_lt_of_cell? w _ Pb)).trans Pb
       replace Pf:=(HB.out.cell (World.block_lt_of_cell? w _ Pf)).trans Pf
       replace zjb:=eq_true zjb
       replace zjc:=eq_true zjc
       have zc8:0 ≤ (yV:Int):=of_decide_eq_true yF
       have zc9:yV < (zF.length:Int):=of_decide_eq_true yF
       obtain ⟨znn,zri,zki,zkl,zkm⟩:=Uw jG.out yV zc8 zc9
       obtain rfl:zvb = znn:=(by injection zri)
       replace zki:=(HB.out.cell (World.block_lt_of_cell? w _ zki)).trans zki
       replace zkl:=(HB.out.cell (World.block_lt_of_cell? w _ zkl)).trans zkl
       replace zkm:=(HB.out.cell (World.block_lt_of_cell? w _ zkm)).trans zkm
       replace zc8:=eq_true zc8
       replace zc9:=eq_true zc9
       go_wp2
       go_ret2
       exact ⟨by first | rfl | (simp [zH,zI] <;> rfl) | (simp [*,zH,zI] <;> rfl),by repeat (first | (with_reducible first | exact HB.out | apply yX | apply zL | apply zR | refine qK ?_ ze5.out) | exact HB.out)⟩
      ·rw [if_neg c8] at H
       have Zt:(((xM zF yV).f1).toList == a2.toList) = false:=beq_eq_false_iff_ne.mpr c8
       have V6:(((xM zF yV).f1).toList != a2.toList) = true:=bne_iff_ne.mpr c8
       have H':=zx.mk H
       clear H
       have zQI:wr.cell? ⟨wF,0,none⟩ = some (.string zD):=zw vL 0
       have zQL:wr.cell? ⟨wF,1,none⟩ = some (.bool ze):=zw vL 1
       have zQM:wr.cell? ⟨wF,2,none⟩ = some (.int .i64 za):=zw vL 2
       have zQN:wr.cell? ⟨wF,3,none⟩ = some (.slice yT zn.length yU):=zw vL 3
       have zQO:wr.cell? ⟨wF,4,none⟩ = some (.slice y7 zF.length y8):=zw vL 4
       have zQP:wr.cell? ⟨wF,5,none⟩ = some (.slice yZ zY.length yQ):=zw vL 5
       have zQR:=zy vL.out 0
       have zQS:=zy vL.out 1
       have zQT:=zy vL.out 2
       have zQU:=zy vL.out 3
       have zQ0:=zy vL.out 4
       have zQ1:=zy vL.out 5
       have sj:0 ≤ (yV:Int):=of_decide_eq_true yF
       have sw:yV < (zF.length:Int):=of_decide_eq_true yF
       obtain ⟨zvb,e138,Y0,Y1,Y2⟩:=Uw jG.out yV sj sw
       cases e138
       replace Y0:=(HB.out.cell (World.block_lt_of_cell? w _ Y0)).trans Y0
       replace Y1:=(HB.out.cell (World.block_lt_of_cell? w _ Y1)).trans Y1
       replace Y2:=(HB.out.cell (World.block_lt_of_cell? w _ Y2)).trans Y2
       replace sj:=eq_true sj
       replace sw:=eq_true sw
       have zjb:0 ≤ (yV:Int):=of_decide_eq_true yF
       have zjc:yV < (zF.length:Int):=of_decide_eq_true yF
       obtain ⟨zYT,zc7,PW,Pb,Pf⟩:=Uw jG.out yV zjb zjc
       obtain rfl:zvb = zYT:=(by injection zc7)
       replace PW:=(HB.out.cell (World.block_lt_of_cell? w _ PW)).trans PW
       replace Pb:=(HB.out.cell (World.block_lt_of_cell? w _ Pb)).trans Pb
       replace Pf:=(HB.out.cell (World.block_lt_of_cell? w _ Pf)).trans Pf
       replace zjb:=eq_true zjb
       replace zjc:=eq_true zjc
       go_wp2
       go_roundg k1
       case measure=>have:=uK.out;omega
       case rel=>exact ⟨(wrap64 (yV + 1)),(by first | rfl | (simp;done) | (simp [*];done)),H',⟨by have:=uK.out;omega⟩,⟨qV vL.out⟩,⟨zG HB.out⟩⟩
     ·rw [if_neg c7] at H
      have Xn:(((xM zF yV).f0).toList == a1.toList) = false:=beq_eq_false_iff_ne.mpr c7
      have zz1:(((xM zF yV).f0).toList != a1.toList) = true:=bne_iff_ne.mpr c7
      have H':=zx.mk H
      clear H
      have WU:wr.cell? ⟨wF,0,none⟩ = some (.string zD):=zw vL 0
      have Pz:wr.cell? ⟨wF,1,none⟩ = some (.bool ze):=zw vL 1
      have Pq:wr.cell? ⟨wF,2,none⟩ = some (.int .i64 za):=zw vL 2
      have Px:wr.cell? ⟨wF,3,none⟩ = some (.slice yT zn.length yU):=zw vL 3
      have mX:wr.cell? ⟨wF,4,none⟩ = some (.slice y7 zF.length y8):=zw vL 4
      have mJ:wr.cell? ⟨wF,5,none⟩ = some (.slice yZ zY.length yQ):=zw vL 5
      have Pj:=zy vL.out 0
      have Pv:=zy vL.out 1
      have Pk:=zy vL.out 2
      have Py:=zy vL.out 3
      have mV:=zy vL.out 4
      have mK:=zy vL.out 5
      have sj:0 ≤ (yV:Int):=of_decide_eq_true yF
      have sw:yV < (zF.length:Int):=of_decide_eq_true yF
      obtain ⟨zvb,e138,Y0,Y1,Y2⟩:=Uw jG.out yV sj sw
      cases e138
      replace Y0:=(HB.out.cell (World.block_lt_of_cell? w _ Y0)).trans Y0
      replace Y1:=(HB.out.cell (World.block_lt_of_cell? w _ Y1)).trans Y1
      replace Y2:=(HB.out.cell (World.block_lt_of_cell? w _ Y2)).trans Y2
      replace sj:=eq_true sj
      replace sw:=eq_true sw
      go_wp2
      go_roundg k1
      case measure=>have:=uK.out;omega
      case rel=>exact ⟨(wrap64 (yV + 1)),(by first | rfl | (simp;done) | (simp [*];done)),H',⟨by have:=uK.out;omega⟩,⟨qV vL.out⟩,⟨zG HB.out⟩⟩
    ·rw [if_neg c6] at H
     exact absurd H (by simp)
   ·rw [if_neg c5] at H
    have pY:decide (yV < (zF.length:Int)) = false:=decide_eq_false c5
    clear c5
    simp only [Option.some.injEq,Prod.mk.injEq] at H
    obtain ⟨rfl,rfl⟩:=H
    have aI:wr.cell? ⟨wF,0,none⟩ = some (.string zD):=zw vL 0
    have aM:wr.cell? ⟨wF,1,none⟩ = some (.bool ze):=zw vL 1
    have aN:wr.cell? ⟨wF,2,none⟩ = some (.int .i64 za):=zw vL 2
    have aT:wr.cell? ⟨wF,3,none⟩ = some (.slice yT zn.length yU):=zw vL 3
    have aU:wr.cell? ⟨wF,4,none⟩ = some (.slice y7 zF.length y8):=zw vL 4
    have fq:wr.cell? ⟨wF,5,none⟩ = some (.slice yZ zY.length yQ):=zw vL 5
    have fZ:=zy vL.out 0
    have fQ:=zy vL.out 1
    have fJ:=zy vL.out 2
    have fV:=zy vL.out 3
    have fK:=zy vL.out 4
    have fu:=zy vL.out 5
    go_wp2
    go_ret2
    exact ⟨by first | rfl | (simp [zH,zI] <;> rfl) | (simp [*,zH,zI] <;> rfl),by repeat (first | (with_reducible first | exact HB.out | apply yX | apply zL | apply zR | refine qK ?_ ze5.out) | exact HB.out)⟩
end Go.Proofs.YtggifbbiiickmaaGreatDoor.PX
namespace Go.Proofs.YtggifbbiiickmaaGreatDoor.PX
open Go.RowKit Go.Proofs.zk.zu Go.Proofs.zk.yD Go.Proofs.zk.yA
attribute [local go_sem] xP xR vG vH xB xC xS xU   -- for this text's walks alone
set_option linter.unusedVariables false
set_option linter.unusedSimpArgs false
def kM.f (k:Nat) (zD:ByteArray) (ze:Bool) (za:Int) (zn:List (uX)) (zF:List (uG)) (zY:List (uN)) (a1:ByteArray) (a2:ByteArray):Option (ByteArray × Bool):=(xJ.f zD ze za zn zF zY).bind fun zkn=>(if zkn = true then ((qG.f k zD ze za zn zF zY a1 a2).bind fun Wi=>(some (Wi.1,Wi.2))) else (some ((⟨#[]⟩:ByteArray),false)))
set_option maxHeartbeats 8000000 in
set_option maxRecDepth 100000 in
theorem kM.calls (k:Nat) (zD:ByteArray) (ze:Bool) (za:Int) (yT:Option Addr) (yU:Nat) (zn:List (uX)) (y7:Option Addr) (y8:Nat) (zF:List (uG)) (yZ:Option Addr) (yQ:Nat) (zY:List (uN)) (a1:ByteArray) (a2:ByteArray) (r1:ByteArray) (r2:Bool) (w:World) (jq:Kd.C Yi w yT zn.length zn) (jN:zn.length ≤ yU) (jO:Kd.C YE w y7 zF.length zF) (jP:zF.length ≤ y8) (jm:Kd.C YP w yZ zY.length zY) (jo:zY.length ≤ yQ) (h:kM.f k zD ze za zn zF zY a1 a2 = some (r1,r2)) :
    Calls Tryz.prog 107 #[.agg #[.string zD,.bool ze,.int .i64 za,.slice yT zn.length yU,.slice y7 zF.length y8,.slice yZ zY.length yQ],.string a1,.string a2] w fun e w'=>e = .returned (.tuple #[.string r1,.bool r2]) ∧ Below w.heap.size w w':=by
  have VH:=Tryz.underlying101
  have jF:=zx.mk jq
  have kU:=zx.mk jN
  clear jq jN
  have jG:=zx.mk jO
  have wz:=zx.mk jP
  clear jO jP
  have uD:=zx.mk jm
  have jh:=zx.mk jo
  clear jm jo
  have HB:=zx.mk (Below.refl w.heap.size w)
  have H:((xJ.f zD ze za zn zF zY).bind fun zkn=>(if zkn = true then ((qG.f k zD ze za zn zF zY a1 a2).bind fun Wi=>(some (Wi.1,Wi.2))) else (some ((⟨#[]⟩:ByteArray),false)))) = some (r1,r2):=h
  clear h
  replace H:=Option.bind_eq_some_iff.mp H
  obtain ⟨zkn,gW,H⟩:=H
  replace H:(if zkn = true then ((qG.f k zD ze za zn zF zY a1 a2).bind fun Wi=>(some (Wi.1,Wi.2))) else (some ((⟨#[]⟩:ByteArray),false))) = some (r1,r2):=H
  have A4:=zx.mk gW
  clear gW
  by_cases c5:zkn = true
  · subst c5
    have H1:((qG.f k zD ze za zn zF zY a1 a2).bind fun Wi=>(some (Wi.1,Wi.2))) = some (r1,r2):=by rw [if_pos rfl] at H;exact H
    clear H
    have H:=H1
    clear H1
    replace H:=Option.bind_eq_some_iff.mp H
    obtain ⟨⟨t143,zlJ⟩,A60,H⟩:=H
    replace H:(some (t143,zlJ)) = some (r1,r2):=H
    have A6:=zx.mk A60
    clear A60
    simp only [Option.some.injEq,Prod.mk.injEq] at H
    obtain ⟨rfl,rfl⟩:=H
    go_enter Tryz.func107,Tryz.ntmps107
    go_wp2_with (first | ((with_reducible refine qA (N:=3) rfl ?_);refine qH ?hg (N:=3) ?hd (cs:=#[.string zD,.bool ze,.int .i64 za,.slice yT zn.length yU,.slice y7 zF.length y8,.slice yZ zY.length yQ]) (t:=101) ?hr ?_;(case hd=>rfl);(case hg=>rfl);(case hr=>first | (go_simp;done) | (go_simp;rfl));intro pz hg w7 qd hb;have zW:=zx.mk (zC (zG HB.out) hb);have zh:=zx.mk (qd);have zo:=zx.mk ((by rw [hg];exact (zf (zG HB.out)):w.heap.size ≤ pz));have zM:=zx.mk ((by rw [hg];exact (zf (zG HB.out)):w.heap.size ≤ pz));clear HB;have HB:=zW;have uf:=zh;have zno:=zo;have zYU:=zM;clear zW zh zo zM;clear hb qd hg;have zaP:w7.cell? ⟨pz,0,none⟩ = some (.string zD):=zw uf 0;have ziU:w7.cell? ⟨pz,1,none⟩ = some (.bool ze):=zw uf 1;have zi0:w7.cell? ⟨pz,2,none⟩ = some (.int .i64 za):=zw uf 2;have zi1:w7.cell? ⟨pz,3,none⟩ = some (.slice yT zn.length yU):=zw uf 3;have zi2:w7.cell? ⟨pz,4,none⟩ = some (.slice y7 zF.length y8):=zw uf 4;have zi3:w7.cell? ⟨pz,5,none⟩ = some (.slice yZ zY.length yQ):=zw uf 5;have zaR:=zy uf.out 0;have zi4:=zy uf.out 1;have zi5:=zy uf.out 2;have zi6:=zy uf.out 3;have zi7:=zy uf.out 4;have zi8:=zy uf.out 5) | ((with_reducible refine yE (f:=106) rfl ?_);refine jg (some 9) Tryz.func106 #[.agg #[.string zD,.bool ze,.int .i64 za,.slice yT zn.length yU,.slice y7 zF.length y8,.slice yZ zY.length yQ]] ?_;(with_reducible refine (xJ.calls zD ze za _ _ zn _ _ zF _ _ zY true _ ?yc ?yG ?qZ ?qQ ?qB ?qC A4.out).mono ?_);(case yc=>exact qY (Kd.zm jF.out HB.out));(case yG=>exact kU.out);(case qZ=>exact qY (Kd.zm jG.out HB.out));(case qQ=>exact wz.out);(case qB=>exact qY (Kd.zm uD.out HB.out));(case qC=>exact jh.out);rintro e w9 ⟨rfl,hb⟩;refine ⟨_,rfl,?_⟩;have zW:=zx.mk (yj (g:=pz) (o:=.cells #[.string zD,.bool ze,.int .i64 za,.slice yT zn.length yU,.slice y7 zF.length y8,.slice yZ zY.length yQ] 101 (0,0)) (qV uf.out) hb);have zh:=zx.mk (zC (zG HB.out) hb);clear uf;clear HB;have uf:=zW;have HB:=zh;clear zW zh;(try clear hb);have zQI:w9.cell? ⟨pz,0,none⟩ = some (.string zD):=zw uf 0;have zQL:w9.cell? ⟨pz,1,none⟩ = some (.bool ze):=zw uf 1;have zQM:w9.cell? ⟨pz,2,none⟩ = some (.int .i64 za):=zw uf 2;have zQN:w9.cell? ⟨pz,3,none⟩ = some (.slice yT zn.length yU):=zw uf 3;have zQO:w9.cell? ⟨pz,4,none⟩ = some (.slice y7 zF.length y8):=zw uf 4;have zQP:w9.cell? ⟨pz,5,none⟩ = some (.slice yZ zY.length yQ):=zw uf 5;have zQR:=zy uf.out 0;have zQS:=zy uf.out 1;have zQT:=zy uf.out 2;have zQU:=zy uf.out 3;have zQ0:=zy uf.out 4;have zQ1:=zy uf.out 5) | ((with_reducible refine yE (f:=141) rfl ?_);refine jg (some 14) Tryz.func141 #[.agg #[.string zD,.bool ze,.int .i64 za,.slice yT zn.length yU,.slice y7 zF.length y8,.slice yZ zY.length yQ],.string a1,.string a2] ?_;(with_reducible refine (qG.calls k zD ze za _ _ zn _ _ zF _ _ zY a1 a2 t143 zlJ _ ?yc ?yG ?qZ ?qQ ?qB ?qC A6.out).mono ?_);(case yc=>exact qY (Kd.zm jF.out HB.out));(case yG=>exact kU.out);(case qZ=>exact qY (Kd.zm jG.out HB.out));(case qQ=>exact wz.out);(case qB=>exact qY (Kd.zm uD.out HB.out));(case qC=>exact jh.out);rintro e w11 ⟨rfl,hb⟩;refine ⟨_,rfl,?_⟩;have zW:=zx.mk (yj (g:=pz) (o:=.cells #[.string zD,.bool ze,.int .i64 za,.slice yT zn.length yU,.slice y7 zF.length y8,.slice yZ zY.length yQ] 101 (0,0)) (qV uf.out) hb);have zh:=zx.mk (zC (zG HB.out) hb);clear uf;clear HB;have uf:=zW;have HB:=zh;clear zW zh;(try clear hb);(try clear hi)))
    go_ret2
    exact ⟨by first | rfl | (simp [zH,zI] <;> rfl) | (simp [*,zH,zI] <;> rfl),by repeat (first | (with_reducible first | exact HB.out | apply yX | apply zL | apply zR | refine qK ?_ zYU.out) | exact HB.out)⟩
  · replace c5:=Bool.eq_false_iff.mpr c5
    subst c5
    have H1:(some ((⟨#[]⟩:ByteArray),false)) = some (r1,r2):=by rw [if_neg (show ¬ (false = true) by decide)] at H;exact H
    clear H
    have H:=H1
    clear H1
    simp only [Option.some.injEq,Prod.mk.injEq] at H
    obtain ⟨rfl,rfl⟩:=H
    go_enter Tryz.func107,Tryz.ntmps107
    go_wp2_with (first | ((with_reducible refine qA (N:=3) rfl ?_);refine qH ?hg (N:=3) ?hd (cs:=#[.string zD,.bool ze,.int .i64 za,.slice yT zn.length yU,.slice y7 zF.length y8,.slice yZ zY.length yQ]) (t:=101) ?hr ?_;(case hd=>rfl);(case hg=>rfl);(case hr=>first | (go_simp;done) | (go_simp;rfl));intro pz hg YK qd hb;have zW:=zx.mk (zC (zG HB.out) hb);have zh:=zx.mk (qd);have zo:=zx.mk ((by rw [hg];exact (zf (zG HB.out)):w.heap.size ≤ pz));have zM:=zx.mk ((by rw [hg];exact (zf (zG HB.out)):w.heap.size ≤ pz));clear HB;have HB:=zW;have uf:=zh;have zno:=zo;have zYU:=zM;clear zW zh zo zM;clear hb qd hg;have XP:YK.cell? ⟨pz,0,none⟩ = some (.string zD):=zw uf 0;have XR:YK.cell? ⟨pz,1,none⟩ = some (.bool ze):=zw uf 1;have XT:YK.cell? ⟨pz,2,none⟩ = some (.int .i64 za):=zw uf 2;have XU:YK.cell? ⟨pz,3,none⟩ = some (.slice yT zn.length yU):=zw uf 3;have eH:YK.cell? ⟨pz,4,none⟩ = some (.slice y7 zF.length y8):=zw uf 4;have eO:YK.cell? ⟨pz,5,none⟩ = some (.slice yZ zY.length yQ):=zw uf 5;have X0:=zy uf.out 0;have X3:=zy uf.out 1;have X4:=zy uf.out 2;have X5:=zy uf.out 3;have eP:=zy uf.out 4;have eT:=zy uf.out 5) | ((with_reducible refine yE (f:=106) rfl ?_);refine jg (some 9) Tryz.func106 #[.agg #[.string zD,.bool ze,.int .i64 za,.slice yT zn.length yU,.slice y7 zF.length y8,.slice yZ zY.length yQ]] ?_;(with_reducible refine (xJ.calls zD ze za _ _ zn _ _ zF _ _ zY false _ ?yc ?yG ?qZ ?qQ ?qB ?qC A4.out).mono ?_);(case yc=>exact qY (Kd.zm jF.out HB.out));(case yG=>exact kU.out);(case qZ=>exact qY (Kd.zm jG.out HB.out));(case qQ=>exact wz.out);(case qB=>exact qY (Kd.zm uD.out HB.out));(case qC=>exact jh.out);rintro e WC ⟨rfl,hb⟩;refine ⟨_,rfl,?_⟩;have zW:=zx.mk (yj (g:=pz) (o:=.cells #[.string zD,.bool ze,.int .i64 za,.slice yT zn.length yU,.slice y7 zF.length y8,.slice yZ zY.length yQ] 101 (0,0)) (qV uf.out) hb);have zh:=zx.mk (zC (zG HB.out) hb);clear uf;clear HB;have uf:=zW;have HB:=zh;clear zW zh;(try clear hb);(try clear hi)))
    go_ret2
    exact ⟨by first | rfl | (simp [zH,zI] <;> rfl) | (simp [*,zH,zI] <;> rfl),by repeat (first | (with_reducible first | exact HB.out | apply yX | apply zL | apply zR | refine qK ?_ zYU.out) | exact HB.out)⟩
end Go.Proofs.YtggifbbiiickmaaGreatDoor.PX
namespace Go.Proofs.YtggifbbiiickmaaGreatDoor
open Go.RowKit Go.Proofs.zk.zu Go.Proofs.zk.yD Go.Proofs.zk.yA Go.Proofs.YtggifbbiiickmaaGreatDoor.PX
set_option linter.unusedSimpArgs false
set_option linter.unusedVariables false
theorem za8 (n s:Int) (hs:1 ≤ s) (hs1:s ≤ 1000) (h0:-3000 ≤ n) (h1:n ≤ 3000):kY.f n s = some (flr s n):=by
 have hr:=zwj s n hs hs1 h0 h1
 have e:10 * s * n = 10 * (s * n):=Int.mul_assoc _ _ _
 unfold kY.f flr
 rw [wK (x:=10 * s) (by omega) (by omega),e]
 generalize s * n = p at hr
 rw [wK (x:=10 * p) (by omega) (by omega)]
 unfold pI.f
 rw [if_neg (by omega)]
 by_cases hp:10 * p < 0
 ·obtain ⟨q,hq⟩:∃ q:Int,10 * p = -q:=⟨-(10 * p),by omega⟩
  rw [hq,Int.neg_tmod,Int.neg_tdiv,Int.tmod_eq_emod_of_nonneg (by omega),Int.tdiv_eq_ediv_of_nonneg (by omega)]
  by_cases hm:-(q % 1000) < 0
  ·rw [if_pos hm,wK (x:=-(q / 1000)) (by omega) (by omega),wK (by omega) (by omega)]
   simp only [Option.bind_some]
   congr 1
   omega
  ·rw [if_neg hm,wK (by omega) (by omega)]
   simp only [Option.bind_some]
   congr 1
   omega
 ·rw [Int.tmod_eq_emod_of_nonneg (by omega),if_neg (by omega),Int.tdiv_eq_ediv_of_nonneg (by omega),wK (by omega) (by omega)]
  rfl
theorem zz3 (a:ByteArray) (b:Bool) (c:Int) (l3:List ql) (l4:List xX) (l5:List vv) (h3:l3.length ≤ 1000000000) (h4:l4.length ≤ 1000000000) (h5:l5.length ≤ 1000000000) (ha:a.size ≤ 140737488355328) (hz:∀ x ∈ l3,x.f0.size ≤ 140737488355328) :
  xJ.f a b c (l3.map kV) (l4.map wo) (l5.map wu) = some (vN a c l3 l4 l5):=by
 unfold xJ.f
 rw [if_pos ⟨by rw [List.length_map];exact h3,by rw [List.length_map];exact h4,by rw [List.length_map];exact h5,ha,List.all_eq_true.2 (fun x hx=>by
  obtain ⟨y,hy,rfl⟩:=List.mem_map.1 hx
  exact decide_eq_true (hz y hy))⟩,zYM]
theorem za9 (a:ByteArray) (b:Bool) (c:Int) (l:List ql) (l4:List uG) (l5:List uN) (n:ByteArray) (s:Int) (hs:1 ≤ s) (hs1:s ≤ 1000) (hl:l.length ≤ 1000000000) (hw:∀ x ∈ l,0 ≤ x.f1 ∧ x.f1 ≤ 3000):∀ d i,l.length - i = d → i ≤ l.length → Ev (fun k=>qU.l0 k n s (i:Int) a b c (l.map kV) l4 l5) (match (l.drop i).find? (fun x=>decide (x.f0 = n)) with | some x=>(flr s x.f1,true) | none=>(0,false)):=by
 intro d
 induction d with
 | zero =>
  intro i hd hi
  rw [List.drop_eq_nil_of_le (by omega)]
  refine jM (r:=(0,false)) rfl (Ev.step (fun k=>by rw [qU.l0,List.length_map]) (xQ (by omega) (Ev.now _)))
 | succ d ih =>
  intro i hd hi
  have h1:i < l.length:=by omega
  have q0:(0:Int) ≤ (i:Int):=by omega
  have q1:(i:Int) < (l.length:Int):=by omega
  have hw2:wrap64 ((i:Int) + 1) = ((i + 1:Nat):Int):=(wK (by omega) (by omega)).trans (by omega)
  have hr:=ih (i + 1) (by omega) (by omega)
  have hx:=hw _ (List.getElem_mem h1)
  rw [List.drop_eq_getElem_cons h1,List.find?_cons]
  refine Ev.step (fun k=>by rw [qU.l0,List.length_map,hw2,zkY l i h1]) (yJ q1 (yJ q0 ?_))
  by_cases he:l[i].f0 = n
  ·refine yJ (YR.2 he) (Wv (za8 _ s hs hs1 (by show -3000 ≤ l[i].f1;omega) (by show l[i].f1 ≤ 3000;omega)) (jM ?_ (Ev.now _)))
   rw [decide_eq_true he];rfl
  ·refine xQ (fun e=>he (YR.1 e)) (jM ?_ hr)
   rw [decide_eq_false he]
theorem zlV (a:ByteArray) (b:Bool) (c:Int) (l3:List ql) (l4:List xX) (l5:List vv) (n:ByteArray) (s:Int) (h3:l3.length ≤ 1000000000) (h4:l4.length ≤ 1000000000) (h5:l5.length ≤ 1000000000) (ha:a.size ≤ 140737488355328) (hz:∀ x ∈ l3,x.f0.size ≤ 140737488355328):Ev (fun k=>yP.f k a b c (l3.map kV) (l4.map wo) (l5.map wu) n s) (zqi (vN a c l3 l4 l5) l3 n s):=by
 unfold zqi QG
 refine Ev.congr (fun k=>by rw [yP.f,zz3 a b c l3 l4 l5 h3 h4 h5 ha hz]) ?_
 have bad:∀ x:Bool,x = true → Ev (fun k=>yP.j0 k n s x a b c (l3.map kV) (l4.map wo) (l5.map wu)) (0,1):=fun x hx=>Ev.step (fun k=>by rw [yP.j0]) (yJ hx (Ev.now _))
 by_cases h1:s < 1
 ·refine yJ h1 (jM ?_ (bad true rfl))
  rw [decide_eq_false (by omega:¬ 1 ≤ s)];rfl
 ·refine xQ h1 ?_
  rw [decide_eq_true (by omega:1 ≤ s)]
  by_cases h2:s > 1000
  ·refine yJ h2 (jM ?_ (bad true rfl))
   rw [decide_eq_false (by omega:¬ s ≤ 1000)];rfl
  ·refine xQ h2 (zwW ?_)
   rw [decide_eq_true (by omega:s ≤ 1000)]
   cases hv:vN a c l3 l4 l5 with
   | false=>exact bad _ rfl
   | true =>
    have hq:Ev (fun k=>qU.l0 k n s 0 a b c (l3.map kV) (l4.map wo) (l5.map wu)) _:=za9 a b c l3 (l4.map wo) (l5.map wu) n s (by omega) (by omega) h3 (zvK hv) _ 0 rfl (Nat.zero_le _)
    rw [List.drop_zero] at hq
    refine Ev.step (fun k=>by rw [yP.j0,qU.f]) (xQ (by simp) (Ev.bind hq ?_))
    cases l3.find? (fun x=>decide (x.f0 = n)) with
    | none=>exact xQ (by simp) (Ev.now _)
    | some x=>exact yJ rfl (Ev.now _)
theorem zdz (a:ByteArray) (b:Bool) (c:Int) (l3:List uX) (l4:List uG) (l:List vv) (n m:ByteArray) (s:Int) (hs:1 ≤ s) (hs1:s ≤ 1000) (hl:l.length ≤ 1000000000) (hw:∀ x ∈ l,-500 ≤ x.f2 ∧ x.f2 ≤ 500):∀ d i,l.length - i = d → i ≤ l.length → Ev (fun k=>qF.l0 k n m s (i:Int) a b c l3 l4 (l.map wu)) (match (l.drop i).find? (fun x=>decide (x.f0 = n) && decide (x.f1 = m)) with | some x=>flr s x.f2 | none=>0):=by
 intro d
 induction d with
 | zero =>
  intro i hd hi
  rw [List.drop_eq_nil_of_le (by omega)]
  refine jM (r:=0) rfl (Ev.step (fun k=>by rw [qF.l0,List.length_map]) (xQ (by omega) (Ev.now _)))
 | succ d ih =>
  intro i hd hi
  have h1:i < l.length:=by omega
  have q0:(0:Int) ≤ (i:Int):=by omega
  have q1:(i:Int) < (l.length:Int):=by omega
  have hw2:wrap64 ((i:Int) + 1) = ((i + 1:Nat):Int):=(wK (by omega) (by omega)).trans (by omega)
  have hr:=ih (i + 1) (by omega) (by omega)
  have hx:=hw _ (List.getElem_mem h1)
  rw [List.drop_eq_getElem_cons h1,List.find?_cons]
  refine Ev.step (fun k=>by rw [qF.l0,List.length_map,hw2,zka l i h1]) (yJ q1 (yJ q0 ?_))
  by_cases he:l[i].f0 = n
  ·refine yJ (YR.2 he) ?_
   by_cases he2:l[i].f1 = m
   ·refine yJ (YR.2 he2) (Wv (za8 _ s hs hs1 (by show -3000 ≤ l[i].f2;omega) (by show l[i].f2 ≤ 3000;omega)) (jM ?_ (Ev.now _)))
    rw [decide_eq_true he,decide_eq_true he2];rfl
   ·refine xQ (fun e=>he2 (YR.1 e)) (jM ?_ hr)
    rw [decide_eq_false he2,Bool.and_false]
  ·refine xQ (fun e=>he (YR.1 e)) (jM ?_ hr)
   rw [decide_eq_false he,Bool.false_and]
theorem znp (a:ByteArray) (b:Bool) (c:Int) (l3:List ql) (l4:List xX) (l5:List vv) (n m:ByteArray) (s:Int) (h3:l3.length ≤ 1000000000) (h4:l4.length ≤ 1000000000) (h5:l5.length ≤ 1000000000) (ha:a.size ≤ 140737488355328) (hz:∀ x ∈ l3,x.f0.size ≤ 140737488355328):Ev (fun k=>uH.f k a b c (l3.map kV) (l4.map wo) (l5.map wu) n m s) (zz0 (vN a c l3 l4 l5) l5 n m s):=by
 unfold zz0 QG
 refine Ev.congr (fun k=>by rw [uH.f,zz3 a b c l3 l4 l5 h3 h4 h5 ha hz]) ?_
 by_cases h1:s < 1
 ·refine yJ h1 (jM ?_ (Ev.now _))
  rw [decide_eq_false (by omega:¬ 1 ≤ s)];rfl
 ·refine xQ h1 ?_
  rw [decide_eq_true (by omega:1 ≤ s)]
  by_cases h2:s > 1000
  ·refine yJ h2 (jM ?_ (Ev.now _))
   rw [decide_eq_false (by omega:¬ s ≤ 1000)];rfl
  ·refine xQ h2 (zwW ?_)
   rw [decide_eq_true (by omega:s ≤ 1000)]
   cases hv:vN a c l3 l4 l5 with
   | false=>exact xQ (by simp) (Ev.now _)
   | true =>
    have hq:Ev (fun k=>qF.l0 k n m s 0 a b c (l3.map kV) (l4.map wo) (l5.map wu)) _:=zdz a b c (l3.map kV) (l4.map wo) l5 n m s (by omega) (by omega) h5 (zvY hv).2 _ 0 rfl (Nat.zero_le _)
    rw [List.drop_zero] at hq
    have hq2:Ev (fun k=>qF.f k a b c (l3.map kV) (l4.map wo) (l5.map wu) n m s) _:=Ev.congr (fun k=>by rw [qF.f]) hq
    exact yJ rfl (Ev.bind hq2 (Ev.now _))
theorem zdq (a:ByteArray) (b:Bool) (c:Int) (l3:List uX) (l:List xX) (l5:List uN) (n m:ByteArray) (hl:l.length ≤ 1000000000):∀ d i,l.length - i = d → i ≤ l.length → Ev (fun k=>qG.l0 k n m (i:Int) a b c l3 (l.map wo) l5) (match (l.drop i).find? (fun x=>decide (x.f0 = n) && decide (x.f1 = m)) with | some x=>(x.f2,true) | none=>((⟨#[]⟩:ByteArray),false)):=by
 intro d
 induction d with
 | zero =>
  intro i hd hi
  rw [List.drop_eq_nil_of_le (by omega)]
  refine jM (r:=((⟨#[]⟩:ByteArray),false)) rfl (Ev.step (fun k=>by rw [qG.l0,List.length_map]) (xQ (by omega) (Ev.now _)))
 | succ d ih =>
  intro i hd hi
  have h1:i < l.length:=by omega
  have q0:(0:Int) ≤ (i:Int):=by omega
  have q1:(i:Int) < (l.length:Int):=by omega
  have hw2:wrap64 ((i:Int) + 1) = ((i + 1:Nat):Int):=(wK (by omega) (by omega)).trans (by omega)
  have hr:=ih (i + 1) (by omega) (by omega)
  rw [List.drop_eq_getElem_cons h1,List.find?_cons]
  refine Ev.step (fun k=>by rw [qG.l0,List.length_map,hw2,zkW l i h1]) (yJ q1 (yJ q0 ?_))
  by_cases he:l[i].f0 = n
  ·refine yJ (YR.2 he) ?_
   by_cases he2:l[i].f1 = m
   ·refine yJ (YR.2 he2) (jM ?_ (Ev.now _))
    rw [decide_eq_true he,decide_eq_true he2];rfl
   ·refine xQ (fun e=>he2 (YR.1 e)) (jM ?_ hr)
    rw [decide_eq_false he2,Bool.and_false]
  ·refine xQ (fun e=>he (YR.1 e)) (jM ?_ hr)
   rw [decide_eq_false he,Bool.false_and]
theorem znr (a:ByteArray) (b:Bool) (c:Int) (l3:List ql) (l4:List xX) (l5:List vv) (n m:ByteArray) (h3:l3.length ≤ 1000000000) (h4:l4.length ≤ 1000000000) (h5:l5.length ≤ 1000000000) (ha:a.size ≤ 140737488355328) (hz:∀ x ∈ l3,x.f0.size ≤ 140737488355328):Ev (fun k=>kM.f k a b c (l3.map kV) (l4.map wo) (l5.map wu) n m) (tK (vN a c l3 l4 l5) l4 n m):=by
 unfold tK
 refine Ev.congr (fun k=>by rw [kM.f,zz3 a b c l3 l4 l5 h3 h4 h5 ha hz]) (zwW ?_)
 cases hv:vN a c l3 l4 l5 with
 | false=>exact xQ (by simp) (Ev.now _)
 | true =>
  have hq:Ev (fun k=>qG.l0 k n m 0 a b c (l3.map kV) (l4.map wo) (l5.map wu)) _:=zdq a b c (l3.map kV) l4 (l5.map wu) n m h4 _ 0 rfl (Nat.zero_le _)
  rw [List.drop_zero] at hq
  have hq2:Ev (fun k=>qG.f k a b c (l3.map kV) (l4.map wo) (l5.map wu) n m) _:=Ev.congr (fun k=>by rw [qG.f]) hq
  refine yJ rfl (Ev.bind hq2 (jM ?_ (Ev.now _)))
  rw [if_pos rfl]
  cases l4.find? (fun x=>decide (x.f0 = n) && decide (x.f1 = m)) <;> rfl
end Go.Proofs.YtggifbbiiickmaaGreatDoor
namespace Go.Proofs.YtggifbbiiickmaaGreatDoor
open Go.RowKit Go.Proofs.zk.zu Go.Proofs.zk.yA Go.Proofs.YtggifbbiiickmaaGreatDoor.PX
set_option linter.unusedSimpArgs false
set_option linter.unusedVariables false
abbrev qo:=kK
abbrev wB:=vP
abbrev kG:=pG
def jW (x:qo):Bool:=vN x.f0 x.f2 x.f3 x.f4 x.f5
def gQ (x:qo) (n:ByteArray):Bool:=Ya x.f3 n
def fjoin (x:qo) (n m:ByteArray):ByteArray × Bool:=tK (jW x) x.f4 n m
def QH (x:qo) (n m:ByteArray) (s:Int):Int × Int:=zz0 (jW x) x.f5 n m s
def zz4 (x:qo) (n:ByteArray) (s:Int):Int × Int:=zqi (jW x) x.f3 n s
def kZ (l:List qo) (i:Int):qo:=zK l i
def Qc (n:ByteArray):List qo → Nat → Int
 | [],_=>-1
 | x :: r,i=>if x.f1 && gQ x n then (i:Int) else Qc n r (i + 1)
def wZ (l:List qo) (f:Int) (n:ByteArray):Int:=if gQ (kZ l f) n then f else Qc n l 0
def zz5 (by_:Int):wB:=⟨2,by_,0,0,⟨#[]⟩,⟨#[]⟩,[]⟩
def zjd (w f s:Int) (n:ByteArray):wB:=⟨0,w,f,s,n,⟨#[]⟩,[]⟩
def ZG (l:List qo) (s:Int) (yB:Bool) (out:List wB) (a:Int) (n:ByteArray):List wB :=
 match out.getLast? with
 | none=>[]
 | some b=>if yB && decide (b.f2 = a) then (if (QH (kZ l a) b.f4 n s).1 = 0 then [] else [zz5 (QH (kZ l a) b.f4 n s).1]) else []
def YF (l:List qo) (f s:Int) (yB:Bool) (st:List wB × List ByteArray) (n:ByteArray):List wB × List ByteArray :=
 if wZ l f n < 0 then (st.1,st.2 ++ [n])
 else (st.1 ++ ZG l s yB st.1 (wZ l f n) n ++ [zjd (zz4 (kZ l (wZ l f n)) n s).1 (wZ l f n) s n],st.2)
def Y3 (J:ByteArray → ByteArray → ByteArray × Bool) (c:ByteArray):List ByteArray → ByteArray × List ByteArray
 | []=>(c,[])
 | d :: r=>if (J c d).2 then Y3 J (J c d).1 r else (c,d :: r)
theorem zko (J:ByteArray → ByteArray → ByteArray × Bool):∀ (r:List ByteArray) (c:ByteArray),(Y3 J c r).2.length ≤ r.length
 | [],_=>Nat.le_refl _
 | d :: r,c=>by
  unfold Y3
  split
  ·exact Nat.le_succ_of_le (zko J r _)
  ·exact Nat.le_refl _
def wY (J:ByteArray → ByteArray → ByteArray × Bool):List ByteArray → List ByteArray
 | []=>[]
 | c :: r=>(Y3 J c r).1 :: wY J (Y3 J c r).2
termination_by l=>l.length
decreasing_by have:=zko J r c;simp;omega
def tu (pairs:List kG) (c:ByteArray):ByteArray:=match pairs.find? (fun p=>decide (p.f0 = c)) with | some p=>p.f1 | none=>c
def Vr (l:List qo) (f s:Int) (yB:Bool) (ns:List ByteArray):List wB × List ByteArray:=ns.foldl (YF l f s yB) ([],[])
def Y4 (l:List qo) (f:Int) (qJ:Bool) (chars:List ByteArray) (pairs:List kG):List ByteArray :=
 if qJ then wY (fjoin (kZ l f)) (chars.map (tu pairs)) else chars.map (tu pairs)
def Yq (s:ByteArray):Bool:=!Zi s.data.toList
def gX (p:kG):Bool:=Yq p.f0 || Yq p.f1
def Zf (l:List qo) (f s:Int) (chars:List ByteArray) (pairs:List kG):Bool :=
 l.any (fun x=>!jW x) || (decide (f < 0) || decide ((l.length:Int) ≤ f) || decide (s < 1) || decide (1000 < s)) || (decide (2000 < chars.length) || decide (100 < pairs.length)) || chars.any Yq || pairs.any gX
def pO (l:List qo) (f s:Int) (qJ yB:Bool) (chars:List ByteArray) (pairs:List kG):List wB × List ByteArray × Int :=
 if Zf l f s chars pairs then ([],[],1)
 else ((Vr l f s yB (Y4 l f qJ chars pairs)).1,(Vr l f s yB (Y4 l f qJ chars pairs)).2,0)
end Go.Proofs.YtggifbbiiickmaaGreatDoor
namespace Go.Proofs.YtggifbbiiickmaaGreatDoor.PX
open Go.RowKit Go.Proofs.zk.zu Go.Proofs.zk.yD Go.Proofs.zk.yA
attribute [local go_sem] xP xR vG vH xB xC xS xU   -- for this text's walks alone
set_option linter.unusedVariables false
set_option linter.unusedSimpArgs false
namespace zlK
theorem wb (w:World) (a:Addr) {u:Value} (h:w.cell? a = some u):a.block < w.heap.size:=World.block_lt_of_cell? w a h
end zlK
open zlK
mutual
def zl.l0:Nat → List (kK) → List (jC) → Int → Option ((List (jC)))
 | 0,_,_,_=>none
 | k + 1,x0,x3,x4=>if x4 < (x0.length:Int) then (if 0 ≤ x4 then (zl.l1 k x0 x3 x4 0 ((zK x0 x4).f0) ((zK x0 x4).f1) ((zK x0 x4).f2) ([]:List (uX))) else (none)) else (some x3)
def zl.l1:Nat → List (kK) → List (jC) → Int → Int → ByteArray → Bool → Int → List (uX) → Option ((List (jC)))
 | 0,_,_,_,_,_,_,_,_=>none
 | k + 1,x0,x3,x4,x6,UD,UE,UF,QI=>if 0 ≤ x4 then (if x4 < (x0.length:Int) then (if x6 < (((zK x0 x4).f3).length:Int) then (if 0 ≤ x6 then (if QI.length < 5864062014805 then (zl.l1 k x0 x3 x4 (wrap64 (x6 + 1)) UD UE UF (QI ++ [(⟨(qE ((zK x0 x4).f3) x6).f0,(qE ((zK x0 x4).f3) x6).f1⟩:uX)])) else (none)) else (none)) else (zl.l2 k x0 x3 x4 0 UD UE UF QI ([]:List (uG)))) else (none)) else (none)
def zl.l2:Nat → List (kK) → List (jC) → Int → Int → ByteArray → Bool → Int → List (uX) → List (uG) → Option ((List (jC)))
 | 0,_,_,_,_,_,_,_,_,_=>none
 | k + 1,x0,x3,x4,x7,UD,UE,UF,QI,mh=>if 0 ≤ x4 then (if x4 < (x0.length:Int) then (if x7 < (((zK x0 x4).f4).length:Int) then (if 0 ≤ x7 then (if mh.length < 2932031007402 then (zl.l2 k x0 x3 x4 (wrap64 (x7 + 1)) UD UE UF QI (mh ++ [(⟨(qR ((zK x0 x4).f4) x7).f0,(qR ((zK x0 x4).f4) x7).f1,(qR ((zK x0 x4).f4) x7).f2⟩:uG)])) else (none)) else (none)) else (zl.l3 k x0 x3 x4 0 UD UE UF QI mh ([]:List (uN)))) else (none)) else (none)
def zl.l3:Nat → List (kK) → List (jC) → Int → Int → ByteArray → Bool → Int → List (uX) → List (uG) → List (uN) → Option ((List (jC)))
 | 0,_,_,_,_,_,_,_,_,_,_=>none
 | k + 1,x0,x3,x4,x8,UD,UE,UF,QI,mh,zkp=>if 0 ≤ x4 then (if x4 < (x0.length:Int) then (if x8 < (((zK x0 x4).f5).length:Int) then (if 0 ≤ x8 then (if zkp.length < 3518437208883 then (zl.l3 k x0 x3 x4 (wrap64 (x8 + 1)) UD UE UF QI mh (zkp ++ [(⟨(q9 ((zK x0 x4).f5) x8).f0,(q9 ((zK x0 x4).f5) x8).f1,(q9 ((zK x0 x4).f5) x8).f2⟩:uN)])) else (none)) else (none)) else (if x3.length < 1353245080339 then (zl.l0 k x0 (x3 ++ [(⟨UD,UE,UF,QI,mh,zkp⟩:jC)]) (wrap64 (x4 + 1))) else (none))) else (none)) else (none)
end
def zl.f (k:Nat) (l0:List (kK)):Option ((List (jC))):=zl.l0 k l0 ([]:List (jC)) 0
def zl.T5:Bool × List (List Nat × List Nat):=(true,[([],[]),([],[]),([0,1],[0,1]),([2],[2]),([3],[3]),([],[]),([],[]),([5,6],[5,6]),([7],[7]),([8],[8]),([],[]),([],[]),([10,11],[10,11]),([12],[12]),([13],[13]),([4,9,14],[4,9,14]),([],[]),([16,15,0,1,2,3,4,5,6,7,8,9,10,11,12,13,14,15,16],[15,16])])
def zl.B5:List Nat:=[0,0,3,7,15,0,0,96,224,480,0,0,3072,7168,15360,32767,0,131071]
theorem zl.zw1:uj .any (opsOf Tryz.f15 5) = zl.T5:=by kernel_rfl
theorem zl.zY0:uh zl.T5.2 zl.B5 = true:=by kernel_rfl
def zl.T9:Bool × List (List Nat × List Nat):=(true,[([],[]),([0],[0]),([],[]),([],[]),([2,3],[2,3]),([4],[4]),([5],[5]),([],[]),([6,7],[6,7]),([8],[8]),([9],[9]),([],[]),([],[]),([11,12],[11,12]),([13],[13]),([14],[14]),([],[]),([15,16],[15,16]),([17],[17]),([18],[18]),([10,19],[10,19]),([20],[20]),([1,21],[1,21]),([0,1,2,3,4,5,6,7,8,9,10,11,12,13,14,15,16,17,18,19,20,21,22],[]),([23,22,22,0,1,2,3,4,5,6,7,8,9,10,11,12,13,14,15,16,17,18,19,20,21,22],[22,23])])
def zl.B9:List Nat:=[0,1,0,0,12,28,60,0,252,508,1020,0,0,6144,14336,30720,0,129024,260096,522240,1048572,2097148,4194303,8388607,16777215]
theorem zl.zdx:uj .any (opsOf Tryz.f15 9) = zl.T9:=by kernel_rfl
theorem zl.zY1:uh zl.T9.2 zl.B9 = true:=by kernel_rfl
def zl.T13:Bool × List (List Nat × List Nat):=(true,[([],[]),([0],[0]),([],[]),([],[]),([2,3],[2,3]),([4],[4]),([5],[5]),([],[]),([6,7],[6,7]),([8],[8]),([9],[9]),([],[]),([],[]),([11,12],[11,12]),([13],[13]),([14],[14]),([],[]),([15,16],[15,16]),([17],[17]),([18],[18]),([],[]),([],[]),([20,21],[20,21]),([22],[22]),([23],[23]),([],[]),([24,25],[24,25]),([26],[26]),([27],[27]),([10,19,28],[10,19,28]),([29],[29]),([1,30],[1,30]),([0,1,2,3,4,5,6,7,8,9,10,11,12,13,14,15,16,17,18,19,20,21,22,23,24,25,26,27,28,29,30,31],[]),([32,31,31,0,1,2,3,4,5,6,7,8,9,10,11,12,13,14,15,16,17,18,19,20,21,22,23,24,25,26,27,28,29,30,31],[31,32])])
def zl.B13:List Nat:=[0,1,0,0,12,28,60,0,252,508,1020,0,0,6144,14336,30720,0,129024,260096,522240,0,0,3145728,7340032,15728640,0,66060288,133169152,267386880,536870908,1073741820,2147483647,4294967295,8589934591]
theorem zl.WY:uj .any (opsOf Tryz.f15 13) = zl.T13:=by kernel_rfl
theorem zl.Qp:uh zl.T13.2 zl.B13 = true:=by kernel_rfl
def zl.T17:Bool × List (List Nat × List Nat):=(true,[([],[]),([0],[0]),([],[]),([],[]),([2,3],[2,3]),([4],[4]),([5],[5]),([],[]),([6,7],[6,7]),([8],[8]),([9],[9]),([],[]),([],[]),([11,12],[11,12]),([13],[13]),([14],[14]),([],[]),([15,16],[15,16]),([17],[17]),([18],[18]),([],[]),([],[]),([20,21],[20,21]),([22],[22]),([23],[23]),([],[]),([24,25],[24,25]),([26],[26]),([27],[27]),([10,19,28],[10,19,28]),([29],[29]),([1,30],[1,30]),([0,1,2,3,4,5,6,7,8,9,10,11,12,13,14,15,16,17,18,19,20,21,22,23,24,25,26,27,28,29,30,31],[]),([32,31,31,0,1,2,3,4,5,6,7,8,9,10,11,12,13,14,15,16,17,18,19,20,21,22,23,24,25,26,27,28,29,30,31],[31,32])])
def zl.B17:List Nat:=[0,1,0,0,12,28,60,0,252,508,1020,0,0,6144,14336,30720,0,129024,260096,522240,0,0,3145728,7340032,15728640,0,66060288,133169152,267386880,536870908,1073741820,2147483647,4294967295,8589934591]
theorem zl.zns:uj .any (opsOf Tryz.f15 17) = zl.T17:=by kernel_rfl
theorem zl.zlY:uh zl.T17.2 zl.B17 = true:=by kernel_rfl
set_option maxHeartbeats 8000000 in
set_option maxRecDepth 100000 in
theorem zl.calls (k:Nat) (A0:Option Addr) (c0:Nat) (l0:List (kK)) (r:List (jC)) (w:World) (hr0:Kd.C pV w A0 l0.length l0) (hc0:l0.length ≤ c0) (h:zl.f k l0 = some r) :
  Calls Tryz.prog 15 #[.slice A0 l0.length c0] w fun e w'=>∃ Qo:Value,e = .returned (Qo) ∧ Kd.S Wj 101 w' w.heap.size (fun _=>True) Qo r ∧ Below w.heap.size w w':=by
 have VH:=Tryz.underlying101
 have zDd:=Tryz.underlying106
 have zDe:=Tryz.underlying109
 have zDf:=Tryz.underlying112
 have ji:=zx.mk hr0
 have Vm:=zx.mk hc0
 clear hr0 hc0
 have HB:=zx.mk (Below.refl w.heap.size w)
 have H:(zl.l0 k l0 ([]:List (jC)) 0) = some r:=h
 clear h
 have H':=zx.mk H
 clear H
 go_enter Tryz.func15,Tryz.ntmps15
 go_wp2
 go_loopg [3,4] k (fun kq v3 v4 w'=>∃ (qX:List (jC)) (zJ:Int),v4 = .int .i64 zJ ∧ zx (zl.l0 kq l0 qX zJ = some r) ∧ zx (kq ≤ k) ∧ zx (Kd.S Wj 101 w' w.heap.size (fun _=>True) v3 qX) ∧ zx (Below w.heap.size w w'))
 case atStart=>exact ⟨(([]:List (jC))),(0),(by first | rfl | (simp;done) | (simp [*];done)),H',⟨Nat.le_refl _⟩,⟨by first | exact Kd.Yp _ _ _ _ _ | exact Kd.YI _ _ _ _ _ | exact Kd.YL _ _ _ _ _ | exact Kd.YH _ _ _ _ _ | exact Kd.jf _ _ _ _ _⟩,⟨zG HB.out⟩⟩
 case round =>
  clear H'
  obtain ⟨qX,zJ,rfl,HA,uK,y9,HB⟩:=hrel
  cases gk with
  | zero=>exact absurd HA.out (by simp [zl.l0])
  | succ k1 =>
   have H:=HA.out
   clear HA
   simp only [zl.l0] at H
   by_cases c2:zJ < (l0.length:Int)
   ·rw [if_pos c2] at H
    have rE:decide (zJ < (l0.length:Int)) = true:=decide_eq_true c2
    clear c2
    by_cases c3:0 ≤ zJ
    ·rw [if_pos c3] at H
     have ZR:decide (0 ≤ zJ) = true:=decide_eq_true c3
     clear c3
     have H':=zx.mk H
     clear H
     try go_wp2
     have zW:=zx.mk (Kd.vZ y9.out)
     have zh:=zx.mk (zR HB.out)
     clear y9 HB
     have y9:=zW
     have HB:=zh
     clear zW zh
     have zkr:0 ≤ (zJ:Int):=of_decide_eq_true yF
     have zks:zJ < (l0.length:Int):=of_decide_eq_true yF
     obtain ⟨yI,zw2,zw3,zw4,zw5,zw6,zw7,e250,Pg,Ph,Pm,QL,QM,QN,zXx,zXj,zXv,zXk,zXy,zXw⟩:=kT ji.out zJ zkr zks
     have X6:=QN
     have X7:=QM
     have X8:=QL
     have X9:=Pm
     have Qz:=Ph
     have Qq:=Pg
     cases e250
     replace Pg:=(HB.out.cell (wb w _ Pg)).trans Pg
     replace Ph:=(HB.out.cell (wb w _ Ph)).trans Ph
     replace Pm:=(HB.out.cell (wb w _ Pm)).trans Pm
     replace QL:=(HB.out.cell (wb w _ QL)).trans QL
     replace QM:=(HB.out.cell (wb w _ QM)).trans QM
     replace QN:=(HB.out.cell (wb w _ QN)).trans QN
     have zgg:=zx.mk zXj
     have ztB:=zx.mk zXx
     clear zXj zXx
     have zgh:=zx.mk zXk
     have ztC:=zx.mk zXv
     clear zXk zXv
     have zgi:=zx.mk zXw
     have ztD:=zx.mk zXy
     clear zXw zXy
     replace zkr:=eq_true zkr
     replace zks:=eq_true zks
     have zkt:0 ≤ (zJ:Int):=of_decide_eq_true yF
     have zku:zJ < (l0.length:Int):=of_decide_eq_true yF
     obtain ⟨znt,zB8,zB9,zCz,zCq,zCx,zCj,e251,Pn,Po,Pp,UG,UH,UL,zXZ,zXQ,zXX,zXJ,zXV,zXK⟩:=kT ji.out zJ zkt zku
     have Qx:=UL
     have Qj:=UH
     have Qv:=UG
     have Qk:=Pp
     have Qy:=Po
     have Qw:=Pn
     obtain rfl:yI = znt:=(by injection e251)
     replace Pn:=(HB.out.cell (wb w _ Pn)).trans Pn
     replace Po:=(HB.out.cell (wb w _ Po)).trans Po
     replace Pp:=(HB.out.cell (wb w _ Pp)).trans Pp
     replace UG:=(HB.out.cell (wb w _ UG)).trans UG
     replace UH:=(HB.out.cell (wb w _ UH)).trans UH
     replace UL:=(HB.out.cell (wb w _ UL)).trans UL
     have zgl:=zx.mk zXQ
     have ztE:=zx.mk zXZ
     clear zXQ zXZ
     have zgm:=zx.mk zXJ
     have ztF:=zx.mk zXX
     clear zXJ zXX
     have zgn:=zx.mk zXK
     have ztG:=zx.mk zXV
     clear zXK zXV
     replace zkt:=eq_true zkt
     replace zku:=eq_true zku
     have qN:=Option.some.inj (QL.symm.trans UG)
     injection qN with qN jc jd
     subst qN
     subst jd
     clear jc
     have qN:=Option.some.inj (QM.symm.trans UH)
     injection qN with qN jc jd
     subst qN
     subst jd
     clear jc
     have qN:=Option.some.inj (QN.symm.trans UL)
     injection qN with qN jc jd
     subst qN
     subst jd
     clear jc
     have zkA:0 ≤ (zJ:Int):=of_decide_eq_true yF
     have zkB:zJ < (l0.length:Int):=of_decide_eq_true yF
     obtain ⟨znu,zCv,zCk,zCy,zCw,zCZ,zCQ,e252,Pt,PD,PE,UM,UN,UO,zXY,zXW,zXa,zXb,zXc,zXd⟩:=kT ji.out zJ zkA zkB
     have QZ:=UO
     have QX:=UN
     have QJ:=UM
     have QV:=PE
     have QK:=PD
     have QY:=Pt
     obtain rfl:yI = znu:=(by injection e252)
     replace Pt:=(HB.out.cell (wb w _ Pt)).trans Pt
     replace PD:=(HB.out.cell (wb w _ PD)).trans PD
     replace PE:=(HB.out.cell (wb w _ PE)).trans PE
     replace UM:=(HB.out.cell (wb w _ UM)).trans UM
     replace UN:=(HB.out.cell (wb w _ UN)).trans UN
     replace UO:=(HB.out.cell (wb w _ UO)).trans UO
     have zgo:=zx.mk zXW
     have ztH:=zx.mk zXY
     clear zXW zXY
     have zgp:=zx.mk zXb
     have ztI:=zx.mk zXa
     clear zXb zXa
     have zgr:=zx.mk zXd
     have ztL:=zx.mk zXc
     clear zXd zXc
     replace zkA:=eq_true zkA
     replace zkB:=eq_true zkB
     have qN:=Option.some.inj (QL.symm.trans UM)
     injection qN with qN jc jd
     subst qN
     subst jd
     clear jc
     have qN:=Option.some.inj (QM.symm.trans UN)
     injection qN with qN jc jd
     subst qN
     subst jd
     clear jc
     have qN:=Option.some.inj (QN.symm.trans UO)
     injection qN with qN jc jd
     subst qN
     subst jd
     clear jc
     refine jr (n:=18) (S:=fun w'=>w'.cell? (yI.add ((zJ).toNat * 6)) = some (.string ((zK l0 zJ).f0)) ∧ w'.cell? ⟨(yI.add ((zJ).toNat * 6)).block,(yI.add ((zJ).toNat * 6)).off + 1,none⟩ = some (.bool ((zK l0 zJ).f1)) ∧ w'.cell? ⟨(yI.add ((zJ).toNat * 6)).block,(yI.add ((zJ).toNat * 6)).off + 2,none⟩ = some (.int .i64 ((zK l0 zJ).f2)) ∧ w'.cell? ⟨(yI.add ((zJ).toNat * 6)).block,(yI.add ((zJ).toNat * 6)).off + 3,none⟩ = some (.slice zw2 ((zK l0 zJ).f3).length zw3) ∧ w'.cell? ⟨(yI.add ((zJ).toNat * 6)).block,(yI.add ((zJ).toNat * 6)).off + 4,none⟩ = some (.slice zw4 ((zK l0 zJ).f4).length zw5) ∧ w'.cell? ⟨(yI.add ((zJ).toNat * 6)).block,(yI.add ((zJ).toNat * 6)).off + 5,none⟩ = some (.slice zw6 ((zK l0 zJ).f5).length zw7) ∧ w'.cell? (yI.add ((zJ).toNat * 6)) = some (.string ((zK l0 zJ).f0)) ∧ w'.cell? ⟨(yI.add ((zJ).toNat * 6)).block,(yI.add ((zJ).toNat * 6)).off + 1,none⟩ = some (.bool ((zK l0 zJ).f1)) ∧ w'.cell? ⟨(yI.add ((zJ).toNat * 6)).block,(yI.add ((zJ).toNat * 6)).off + 2,none⟩ = some (.int .i64 ((zK l0 zJ).f2)) ∧ w'.cell? ⟨(yI.add ((zJ).toNat * 6)).block,(yI.add ((zJ).toNat * 6)).off + 3,none⟩ = some (.slice zw2 ((zK l0 zJ).f3).length zw3) ∧ w'.cell? ⟨(yI.add ((zJ).toNat * 6)).block,(yI.add ((zJ).toNat * 6)).off + 4,none⟩ = some (.slice zw4 ((zK l0 zJ).f4).length zw5) ∧ w'.cell? ⟨(yI.add ((zJ).toNat * 6)).block,(yI.add ((zJ).toNat * 6)).off + 5,none⟩ = some (.slice zw6 ((zK l0 zJ).f5).length zw7) ∧ w'.cell? (yI.add ((zJ).toNat * 6)) = some (.string ((zK l0 zJ).f0)) ∧ w'.cell? ⟨(yI.add ((zJ).toNat * 6)).block,(yI.add ((zJ).toNat * 6)).off + 1,none⟩ = some (.bool ((zK l0 zJ).f1)) ∧ w'.cell? ⟨(yI.add ((zJ).toNat * 6)).block,(yI.add ((zJ).toNat * 6)).off + 2,none⟩ = some (.int .i64 ((zK l0 zJ).f2)) ∧ w'.cell? ⟨(yI.add ((zJ).toNat * 6)).block,(yI.add ((zJ).toNat * 6)).off + 3,none⟩ = some (.slice zw2 ((zK l0 zJ).f3).length zw3) ∧ w'.cell? ⟨(yI.add ((zJ).toNat * 6)).block,(yI.add ((zJ).toNat * 6)).off + 4,none⟩ = some (.slice zw4 ((zK l0 zJ).f4).length zw5) ∧ w'.cell? ⟨(yI.add ((zJ).toNat * 6)).block,(yI.add ((zJ).toNat * 6)).off + 5,none⟩ = some (.slice zw6 ((zK l0 zJ).f5).length zw7)) (ds:=[]) #[false,false,false,false,false,false,false,false,false,false,false,false,false,false,false,false,false,false] (by kernel_rfl) rfl rfl ⟨((HB.out.cell (wb w _ Qq)).trans Qq),((HB.out.cell (wb w _ Qz)).trans Qz),((HB.out.cell (wb w _ X9)).trans X9),((HB.out.cell (wb w _ X8)).trans X8),((HB.out.cell (wb w _ X7)).trans X7),((HB.out.cell (wb w _ X6)).trans X6),((HB.out.cell (wb w _ Qw)).trans Qw),((HB.out.cell (wb w _ Qy)).trans Qy),((HB.out.cell (wb w _ Qk)).trans Qk),((HB.out.cell (wb w _ Qv)).trans Qv),((HB.out.cell (wb w _ Qj)).trans Qj),((HB.out.cell (wb w _ Qx)).trans Qx),((HB.out.cell (wb w _ QY)).trans QY),((HB.out.cell (wb w _ QK)).trans QK),((HB.out.cell (wb w _ QV)).trans QV),((HB.out.cell (wb w _ QJ)).trans QJ),((HB.out.cell (wb w _ QX)).trans QX),((HB.out.cell (wb w _ QZ)).trans QZ)⟩ (fun hHeld=>?_);refine uT zl.zw1 zl.zY0 (fun zi vD=>?_)
     generalize wr.drew = w4 at y9 HB zgg zgh zgi zgl zgm zgn zgo zgp zgr Pg Ph Pm QL QM QN Pn Po Pp UG UH UL Pt PD PE UM UN UO hHeld ⊢
     refine yu 0 (some 15) zi ?_
     refine yu 1 (some 16) zi ?_
     refine yu 2 (some 17) zi ?_
     refine yu 3 (some 18) zi ?_
     refine yu 5 (some 20) zi ?_
     refine yu 6 (some 21) zi ?_
     refine yu 7 (some 22) zi ?_
     refine yu 8 (some 23) zi ?_
     refine yu 10 (some 25) zi ?_
     refine yu 11 (some 26) zi ?_
     refine yu 12 (some 27) zi ?_
     refine yu 13 (some 28) zi ?_
     refine jK 4 (some 19) zi vD hHeld ?_
     refine jK 9 (some 24) zi vD hHeld ?_
     refine jK 14 (some 29) zi vD hHeld ?_
     refine yu 15 (some 30) zi ?_
     refine Zr 16 (some 5) zi (fun K hK=>?_)
     refine zcY ?hg (N:=5) ?hd (cs:=#[.string (⟨#[]⟩:ByteArray),.bool false,.int .i64 0,.slice none 0 0,.slice none 0 0,.slice none 0 0]) (t:=101) ?hr ?_;(case hd=>rfl);(case hg=>rfl);(case hr=>first | (go_simp;done) | (go_simp;rfl))
     intro z8 hg w5 qd hb
     have zW:=zx.mk (Kd.wD (Kd.zcW (aG y9.out) z8 (Nat.le_of_eq hg.symm)) hb)
     have zh:=zx.mk (zC (zG HB.out) hb)
     have zo:=zx.mk (qd)
     have zM:=zx.mk ((by rw [hg];exact (zf (zG HB.out)):w.heap.size ≤ z8))
     have qw:=zx.mk ((by rw [hg];exact (zf (zG HB.out)):w.heap.size ≤ z8))
     clear y9 HB
     have y9:=zW
     have HB:=zh
     have yM:=zo
     have qz:=zM
     have zDg:=qw
     clear zW zh zo zM qw hb qd hg
     refine hK.out _ _ ⟨((HB.out.cell (wb w _ Qq)).trans Qq),((HB.out.cell (wb w _ Qz)).trans Qz),((HB.out.cell (wb w _ X9)).trans X9),((HB.out.cell (wb w _ X8)).trans X8),((HB.out.cell (wb w _ X7)).trans X7),((HB.out.cell (wb w _ X6)).trans X6),((HB.out.cell (wb w _ Qw)).trans Qw),((HB.out.cell (wb w _ Qy)).trans Qy),((HB.out.cell (wb w _ Qk)).trans Qk),((HB.out.cell (wb w _ Qv)).trans Qv),((HB.out.cell (wb w _ Qj)).trans Qj),((HB.out.cell (wb w _ Qx)).trans Qx),((HB.out.cell (wb w _ QY)).trans QY),((HB.out.cell (wb w _ QK)).trans QK),((HB.out.cell (wb w _ QV)).trans QV),((HB.out.cell (wb w _ QJ)).trans QJ),((HB.out.cell (wb w _ QX)).trans QX),((HB.out.cell (wb w _ QZ)).trans QZ)⟩ (fun hHeld=>?_)
     clear hK K
     refine ZF (some 5) ?_
     refine Zr 17 (none) zi (fun K hK=>?_)
     have hs6:w5.cell? ⟨z8,0,none⟩ = some (.string (⟨#[]⟩:ByteArray)):=zw yM 0
     have zEe:=zy yM.out 0
     have hs7:w5.cell? ⟨z8,1,none⟩ = some (.bool false):=zw yM 1
     have zEf:=zy yM.out 1
     have hs8:w5.cell? ⟨z8,2,none⟩ = some (.int .i64 0):=zw yM 2
     have zEg:=zy yM.out 2
     have hs9:w5.cell? ⟨z8,3,none⟩ = some (.slice none 0 0):=zw yM 3
     have zEh:=zy yM.out 3
     have zEi:w5.cell? ⟨z8,4,none⟩ = some (.slice none 0 0):=zw yM 4
     have zDh:=zy yM.out 4
     have zEl:w5.cell? ⟨z8,5,none⟩ = some (.slice none 0 0):=zw yM 5
     have zDi:=zy yM.out 5
     refine zzM (w1:=?_) (by rfl) rfl ?_ ?_
     rotate_left
     ·go_simp
      rfl
     refine hK.out _ _ ⟨((xH z8 Qq qz.out _).trans (((xH z8 Qq qz.out _).trans (((xH z8 Qq qz.out _).trans (((xH z8 Qq qz.out _).trans (((xH z8 Qq qz.out _).trans (((xH z8 Qq qz.out _).trans (hHeld.1)))))))))))),((xH z8 Qz qz.out _).trans (((xH z8 Qz qz.out _).trans (((xH z8 Qz qz.out _).trans (((xH z8 Qz qz.out _).trans (((xH z8 Qz qz.out _).trans (((xH z8 Qz qz.out _).trans (hHeld.2.1)))))))))))),((xH z8 X9 qz.out _).trans (((xH z8 X9 qz.out _).trans (((xH z8 X9 qz.out _).trans (((xH z8 X9 qz.out _).trans (((xH z8 X9 qz.out _).trans (((xH z8 X9 qz.out _).trans (hHeld.2.2.1)))))))))))),((xH z8 X8 qz.out _).trans (((xH z8 X8 qz.out _).trans (((xH z8 X8 qz.out _).trans (((xH z8 X8 qz.out _).trans (((xH z8 X8 qz.out _).trans (((xH z8 X8 qz.out _).trans (hHeld.2.2.2.1)))))))))))),((xH z8 X7 qz.out _).trans (((xH z8 X7 qz.out _).trans (((xH z8 X7 qz.out _).trans (((xH z8 X7 qz.out _).trans (((xH z8 X7 qz.out _).trans (((xH z8 X7 qz.out _).trans (hHeld.2.2.2.2.1)))))))))))),((xH z8 X6 qz.out _).trans (((xH z8 X6 qz.out _).trans (((xH z8 X6 qz.out _).trans (((xH z8 X6 qz.out _).trans (((xH z8 X6 qz.out _).trans (((xH z8 X6 qz.out _).trans (hHeld.2.2.2.2.2.1)))))))))))),((xH z8 Qw qz.out _).trans (((xH z8 Qw qz.out _).trans (((xH z8 Qw qz.out _).trans (((xH z8 Qw qz.out _).trans (((xH z8 Qw qz.out _).trans (((xH z8 Qw qz.out _).trans (hHeld.2.2.2.2.2.2.1)))))))))))),((xH z8 Qy qz.out _).trans (((xH z8 Qy qz.out _).trans (((xH z8 Qy qz.out _).trans (((xH z8 Qy qz.out _).trans (((xH z8 Qy qz.out _).trans (((xH z8 Qy qz.out _).trans (hHeld.2.2.2.2.2.2.2.1)))))))))))),((xH z8 Qk qz.out _).trans (((xH z8 Qk qz.out _).trans (((xH z8 Qk qz.out _).trans (((xH z8 Qk qz.out _).trans (((xH z8 Qk qz.out _).trans (((xH z8 Qk qz.out _).trans (hHeld.2.2.2.2.2.2.2.2.1)))))))))))),((xH z8 Qv qz.out _).trans (((xH z8 Qv qz.out _).trans (((xH z8 Qv qz.out _).trans (((xH z8 Qv qz.out _).trans (((xH z8 Qv qz.out _).trans (((xH z8 Qv qz.out _).trans (hHeld.2.2.2.2.2.2.2.2.2.1)))))))))))),((xH z8 Qj qz.out _).trans (((xH z8 Qj qz.out _).trans (((xH z8 Qj qz.out _).trans (((xH z8 Qj qz.out _).trans (((xH z8 Qj qz.out _).trans (((xH z8 Qj qz.out _).trans (hHeld.2.2.2.2.2.2.2.2.2.2.1)))))))))))),((xH z8 Qx qz.out _).trans (((xH z8 Qx qz.out _).trans (((xH z8 Qx qz.out _).trans (((xH z8 Qx qz.out _).trans (((xH z8 Qx qz.out _).trans (((xH z8 Qx qz.out _).trans (hHeld.2.2.2.2.2.2.2.2.2.2.2.1)))))))))))),((xH z8 QY qz.out _).trans (((xH z8 QY qz.out _).trans (((xH z8 QY qz.out _).trans (((xH z8 QY qz.out _).trans (((xH z8 QY qz.out _).trans (((xH z8 QY qz.out _).trans (hHeld.2.2.2.2.2.2.2.2.2.2.2.2.1)))))))))))),((xH z8 QK qz.out _).trans (((xH z8 QK qz.out _).trans (((xH z8 QK qz.out _).trans (((xH z8 QK qz.out _).trans (((xH z8 QK qz.out _).trans (((xH z8 QK qz.out _).trans (hHeld.2.2.2.2.2.2.2.2.2.2.2.2.2.1)))))))))))),((xH z8 QV qz.out _).trans (((xH z8 QV qz.out _).trans (((xH z8 QV qz.out _).trans (((xH z8 QV qz.out _).trans (((xH z8 QV qz.out _).trans (((xH z8 QV qz.out _).trans (hHeld.2.2.2.2.2.2.2.2.2.2.2.2.2.2.1)))))))))))),((xH z8 QJ qz.out _).trans (((xH z8 QJ qz.out _).trans (((xH z8 QJ qz.out _).trans (((xH z8 QJ qz.out _).trans (((xH z8 QJ qz.out _).trans (((xH z8 QJ qz.out _).trans (hHeld.2.2.2.2.2.2.2.2.2.2.2.2.2.2.2.1)))))))))))),((xH z8 QX qz.out _).trans (((xH z8 QX qz.out _).trans (((xH z8 QX qz.out _).trans (((xH z8 QX qz.out _).trans (((xH z8 QX qz.out _).trans (((xH z8 QX qz.out _).trans (hHeld.2.2.2.2.2.2.2.2.2.2.2.2.2.2.2.2.1)))))))))))),((xH z8 QZ qz.out _).trans (((xH z8 QZ qz.out _).trans (((xH z8 QZ qz.out _).trans (((xH z8 QZ qz.out _).trans (((xH z8 QZ qz.out _).trans (((xH z8 QZ qz.out _).trans (hHeld.2.2.2.2.2.2.2.2.2.2.2.2.2.2.2.2.2))))))))))))⟩ (fun hHeld=>?_)
     clear hK K
     refine vW (qP zi.out (by kernel_rfl)) ?_
     try go_wp2
     go_loopg [6] k1 (fun kq v6 w'=>∃ (jD:Int) (jI:List (uX)) (jR:Value),v6 = .int .i64 jD ∧ zx (zl.l1 kq l0 qX zJ jD ((zK l0 zJ).f0) ((zK l0 zJ).f1) ((zK l0 zJ).f2) jI = some r) ∧ zx (kq ≤ k1) ∧ zx (Kd.S Wj 101 w' w.heap.size (fun k_=>some k_ ≠ (jR:Value).ownBlock ∧ k_ ≠ z8) u3 qX) ∧ zx (Kd.R Yi 106 w' w.heap.size (fun _=>True) jR jI) ∧ zx (w'.heap[z8]? = some (.cells #[.string ((zK l0 zJ).f0),.bool ((zK l0 zJ).f1),.int .i64 ((zK l0 zJ).f2),jR,(.slice none 0 0),(.slice none 0 0)] 101 (0,0))) ∧ zx (Below w.heap.size w w'))
     case atStart=>exact ⟨(0),(([]:List (uX))),(.slice none 0 0),(by first | rfl | (simp;done) | (simp [*];done)),H',⟨Nat.le_refl _⟩,⟨by (with_reducible repeat (first | apply Kd.vR | apply Kd.vS | apply Kd.vZ));exact Kd.pQ (Kd.gF (p:=⟨z8,5,none⟩) (Kd.gF (p:=⟨z8,4,none⟩) (Kd.gF (p:=⟨z8,3,none⟩) (Kd.gF (p:=⟨z8,2,none⟩) (Kd.gF (p:=⟨z8,1,none⟩) (Kd.gF (p:=⟨z8,0,none⟩) (Kd.pQ y9.out (fun k_ hk=>(⟨hk,hk.2⟩:_ ∧ k_ ≠ z8))) (fun _ hk=>hk.2) (.string ((zK l0 zJ).f0))) (fun _ hk=>hk.2) (.bool ((zK l0 zJ).f1))) (fun _ hk=>hk.2) (.int .i64 ((zK l0 zJ).f2))) (fun _ hk=>hk.2) (.slice none 0 0)) (fun _ hk=>hk.2) (.slice none 0 0)) (fun _ hk=>hk.2) (.slice none 0 0)) (fun _ hk=>⟨(by simp [Value.ownBlock]),hk.1.2⟩)⟩,⟨by first | exact Kd.jf _ _ _ _ _ | exact Kd.YI _ _ _ _ _ | exact Kd.YL _ _ _ _ _ | exact Kd.YH _ _ _ _ _ | exact Kd.Yp _ _ _ _ _⟩,⟨by (with_reducible repeat (first | refine jE ?_ _ | refine xV ?_ | refine qx ?_ _));refine vC (cs:=#[.string ((zK l0 zJ).f0),.bool ((zK l0 zJ).f1),.int .i64 ((zK l0 zJ).f2),.slice none 0 0,.slice none 0 0,.slice none 0 0]) ?_ 5 _ rfl;(with_reducible repeat (first | refine jE ?_ _ | refine xV ?_ | refine qx ?_ _));refine vC (cs:=#[.string ((zK l0 zJ).f0),.bool ((zK l0 zJ).f1),.int .i64 ((zK l0 zJ).f2),.slice none 0 0,.slice none 0 0,.slice none 0 0]) ?_ 4 _ rfl;(with_reducible repeat (first | refine jE ?_ _ | refine xV ?_ | refine qx ?_ _));refine vC (cs:=#[.string ((zK l0 zJ).f0),.bool ((zK l0 zJ).f1),.int .i64 ((zK l0 zJ).f2),.slice none 0 0,.slice none 0 0,.slice none 0 0]) ?_ 3 _ rfl;(with_reducible repeat (first | refine jE ?_ _ | refine xV ?_ | refine qx ?_ _));refine vC (cs:=#[.string ((zK l0 zJ).f0),.bool ((zK l0 zJ).f1),.int .i64 0,.slice none 0 0,.slice none 0 0,.slice none 0 0]) ?_ 2 _ rfl;(with_reducible repeat (first | refine jE ?_ _ | refine xV ?_ | refine qx ?_ _));refine vC (cs:=#[.string ((zK l0 zJ).f0),.bool false,.int .i64 0,.slice none 0 0,.slice none 0 0,.slice none 0 0]) ?_ 1 _ rfl;(with_reducible repeat (first | refine jE ?_ _ | refine xV ?_ | refine qx ?_ _));refine vC (cs:=#[.string (⟨#[]⟩:ByteArray),.bool false,.int .i64 0,.slice none 0 0,.slice none 0 0,.slice none 0 0]) ?_ 0 _ rfl;(with_reducible repeat (first | refine jE ?_ _ | refine xV ?_ | refine qx ?_ _));exact yM.out⟩,⟨zG HB.out⟩⟩
     case round =>
      clear H'
      try clear c2
      try clear rE
      try clear c3
      try clear ZR
      try clear Pg
      try clear Ph
      try clear Pm
      try clear QL
      try clear QM
      try clear QN
      try clear Pn
      try clear Po
      try clear Pp
      try clear UG
      try clear UH
      try clear UL
      try clear Pt
      try clear PD
      try clear PE
      try clear UM
      try clear UN
      try clear UO
      try clear zkr
      try clear zkt
      try clear zkA
      try clear zks
      try clear zku
      try clear zkB
      obtain ⟨jD,jI,jR,rfl,HA,Qs,y9,vV,yM,HB⟩:=hrel
      cases gk with
      | zero=>exact absurd HA.out (by simp [zl.l1])
      | succ k2 =>
       have H:=HA.out
       clear HA
       simp only [zl.l1] at H
       by_cases c12:0 ≤ zJ
       ·rw [if_pos c12] at H
        have znA:decide (0 ≤ zJ) = true:=decide_eq_true c12
        clear c12
        by_cases c13:zJ < (l0.length:Int)
        ·rw [if_pos c13] at H
         have znB:decide (zJ < (l0.length:Int)) = true:=decide_eq_true c13
         clear c13
         by_cases c14:jD < (((zK l0 zJ).f3).length:Int)
         ·rw [if_pos c14] at H
          have ze6:decide (jD < (((zK l0 zJ).f3).length:Int)) = true:=decide_eq_true c14
          clear c14
          by_cases c15:0 ≤ jD
          ·rw [if_pos c15] at H
           have znC:decide (0 ≤ jD) = true:=decide_eq_true c15
           clear c15
           by_cases c16:jI.length < 5864062014805
           ·rw [if_pos c16] at H
            have znD:=zx.mk c16
            clear c16
            obtain ⟨zw8,zvc⟩:∃ y_:List (uX),y_ = (jI ++ [(⟨(qE ((zK l0 zJ).f3) jD).f0,(qE ((zK l0 zJ).f3) jD).f1⟩:uX)]):=⟨_,rfl⟩
            replace H:(zl.l1 k2 l0 qX zJ (wrap64 (jD + 1)) ((zK l0 zJ).f0) ((zK l0 zJ).f1) ((zK l0 zJ).f2) zw8) = some r:=by first | (rw [zvc];with_reducible exact H) | (have jH:=(Option.bind_some _ _).symm.trans H;rw [zvc];with_reducible exact jH) | (have jH:=(Option.bind_some _ _).symm.trans H;with_reducible exact jH) | with_reducible exact H | (rw [zvc];exact H) | exact H
            have znE:=zx.mk zvc
            clear zvc
            have H':=zx.mk H
            clear H
            have zz6:0 ≤ (zJ:Int):=of_decide_eq_true yF
            have zz7:zJ < (l0.length:Int):=of_decide_eq_true yF
            obtain ⟨zY2,zlW,zla,zlb,zlc,zld,zle,e254,UR,UU,U0,U1,U2,U3,eU,iq,iy,iw,iZ,iQ⟩:=kT ji.out zJ zz6 zz7
            obtain rfl:yI = zY2:=(by injection e254)
            replace UR:=(HB.out.cell (wb w _ UR)).trans UR
            replace UU:=(HB.out.cell (wb w _ UU)).trans UU
            replace U0:=(HB.out.cell (wb w _ U0)).trans U0
            replace U1:=(HB.out.cell (wb w _ U1)).trans U1
            replace U2:=(HB.out.cell (wb w _ U2)).trans U2
            replace U3:=(HB.out.cell (wb w _ U3)).trans U3
            have zgs:=zx.mk iq
            have zgt:=zx.mk eU
            clear iq eU
            have zgu:=zx.mk iw
            have zgA:=zx.mk iy
            clear iw iy
            have zgB:=zx.mk iQ
            have zgC:=zx.mk iZ
            clear iQ iZ
            replace zz6:=eq_true zz6
            replace zz7:=eq_true zz7
            try go_wp2
            have zW:=zx.mk (Kd.vZ y9.out)
            have zh:=zx.mk (Kd.uw vV.out)
            have zo:=zx.mk (xV yM.out)
            have zM:=zx.mk (zR HB.out)
            clear y9 vV yM HB
            have y9:=zW
            have vV:=zh
            have yM:=zo
            have HB:=zM
            clear zW zh zo zM
            have zw9:0 ≤ (zJ:Int):=of_decide_eq_true yF
            have zZz:zJ < (l0.length:Int):=of_decide_eq_true yF
            obtain ⟨znF,zCX,zbz,zbq,zbx,zbj,zbv,zrl,mo,PG,PI,U4,U5,U6,zXe,zXf,zXg,zXh,zXi,zXl⟩:=kT ji.out zJ zw9 zZz
            have U7:=U6
            have U8:=U5
            have U9:=U4
            have Jz:=PI
            have Jq:=PG
            have Jj:=mo
            obtain rfl:yI = znF:=(by injection zrl)
            replace mo:=(HB.out.cell (wb w _ mo)).trans mo
            replace PG:=(HB.out.cell (wb w _ PG)).trans PG
            replace PI:=(HB.out.cell (wb w _ PI)).trans PI
            replace U4:=(HB.out.cell (wb w _ U4)).trans U4
            replace U5:=(HB.out.cell (wb w _ U5)).trans U5
            replace U6:=(HB.out.cell (wb w _ U6)).trans U6
            have zXm:=zx.mk zXf
            have ztM:=zx.mk zXe
            clear zXf zXe
            have zgD:=zx.mk zXh
            have ztN:=zx.mk zXg
            clear zXh zXg
            have zgE:=zx.mk zXl
            have ztO:=zx.mk zXi
            clear zXl zXi
            replace zw9:=eq_true zw9
            replace zZz:=eq_true zZz
            have zZq:0 ≤ (jD:Int):=of_decide_eq_true yF
            have zZx:jD < (((zK l0 zJ).f3).length:Int):=of_decide_eq_true yF
            obtain ⟨tC,zrm,PL,PN⟩:=WL zXm.out jD zZq zZx
            have Jv:=PN
            have Jk:=PL
            cases zrm
            replace PL:=(HB.out.cell (wb w _ PL)).trans PL
            replace PN:=(HB.out.cell (wb w _ PN)).trans PN
            replace zZq:=eq_true zZq
            replace zZx:=eq_true zZx
            have zZj:0 ≤ (zJ:Int):=of_decide_eq_true yF
            have zZv:zJ < (l0.length:Int):=of_decide_eq_true yF
            obtain ⟨znG,zCJ,zCV,zCK,zCY,zCW,zCa,e257,PO,PU,P5,Jy,Jw,JZ,zXn,zXo,zXp,zXr,zXs,zXt⟩:=kT ji.out zJ zZj zZv
            have JQ:=JZ
            have JX:=Jw
            have JJ:=Jy
            have JV:=P5
            have JK:=PU
            have JY:=PO
            obtain rfl:yI = znG:=(by injection e257)
            replace PO:=(HB.out.cell (wb w _ PO)).trans PO
            replace PU:=(HB.out.cell (wb w _ PU)).trans PU
            replace P5:=(HB.out.cell (wb w _ P5)).trans P5
            replace Jy:=(HB.out.cell (wb w _ Jy)).trans Jy
            replace Jw:=(HB.out.cell (wb w _ Jw)).trans Jw
            replace JZ:=(HB.out.cell (wb w _ JZ)).trans JZ
            have zXu:=zx.mk zXo
            have ztP:=zx.mk zXn
            clear zXo zXn
            have zgF:=zx.mk zXr
            have ztR:=zx.mk zXp
            clear zXr zXp
            have zgG:=zx.mk zXt
            have ztS:=zx.mk zXs
            clear zXt zXs
            replace zZj:=eq_true zZj
            replace zZv:=eq_true zZv
            have qN:=Option.some.inj (U4.symm.trans Jy)
            injection qN with qN jc jd
            subst qN
            subst jd
            clear jc
            have qN:=Option.some.inj (U5.symm.trans Jw)
            injection qN with qN jc jd
            subst qN
            subst jd
            clear jc
            have qN:=Option.some.inj (U6.symm.trans JZ)
            injection qN with qN jc jd
            subst qN
            subst jd
            clear jc
            have zZk:0 ≤ (jD:Int):=of_decide_eq_true yF
            have zZy:jD < (((zK l0 zJ).f3).length:Int):=of_decide_eq_true yF
            obtain ⟨zDl,e258,P6,P7⟩:=WL zXu.out jD zZk zZy
            have JW:=P7
            have Ja:=P6
            cases e258
            replace P6:=(HB.out.cell (wb w _ P6)).trans P6
            replace P7:=(HB.out.cell (wb w _ P7)).trans P7
            replace zZk:=eq_true zZk
            replace zZy:=eq_true zZy
            refine jr (n:=25) (S:=fun w'=>w'.cell? ⟨z8,0,none⟩ = some (.string ((zK l0 zJ).f0)) ∧ w'.cell? ⟨z8,1,none⟩ = some (.bool ((zK l0 zJ).f1)) ∧ w'.cell? ⟨z8,2,none⟩ = some (.int .i64 ((zK l0 zJ).f2)) ∧ w'.cell? ⟨z8,3,none⟩ = some (jR) ∧ w'.cell? ⟨z8,4,none⟩ = some (.slice none 0 0) ∧ w'.cell? ⟨z8,5,none⟩ = some (.slice none 0 0) ∧ w'.cell? (yI.add ((zJ).toNat * 6)) = some (.string ((zK l0 zJ).f0)) ∧ w'.cell? ⟨(yI.add ((zJ).toNat * 6)).block,(yI.add ((zJ).toNat * 6)).off + 1,none⟩ = some (.bool ((zK l0 zJ).f1)) ∧ w'.cell? ⟨(yI.add ((zJ).toNat * 6)).block,(yI.add ((zJ).toNat * 6)).off + 2,none⟩ = some (.int .i64 ((zK l0 zJ).f2)) ∧ w'.cell? ⟨(yI.add ((zJ).toNat * 6)).block,(yI.add ((zJ).toNat * 6)).off + 3,none⟩ = some (.slice (some tC) ((zK l0 zJ).f3).length zbz) ∧ w'.cell? ⟨(yI.add ((zJ).toNat * 6)).block,(yI.add ((zJ).toNat * 6)).off + 4,none⟩ = some (.slice zbq ((zK l0 zJ).f4).length zbx) ∧ w'.cell? ⟨(yI.add ((zJ).toNat * 6)).block,(yI.add ((zJ).toNat * 6)).off + 5,none⟩ = some (.slice zbj ((zK l0 zJ).f5).length zbv) ∧ w'.cell? (tC.add ((jD).toNat * 2)) = some (.string ((qE ((zK l0 zJ).f3) jD).f0)) ∧ w'.cell? ⟨(tC.add ((jD).toNat * 2)).block,(tC.add ((jD).toNat * 2)).off + 1,none⟩ = some (.int .i64 ((qE ((zK l0 zJ).f3) jD).f1)) ∧ w'.cell? (yI.add ((zJ).toNat * 6)) = some (.string ((zK l0 zJ).f0)) ∧ w'.cell? ⟨(yI.add ((zJ).toNat * 6)).block,(yI.add ((zJ).toNat * 6)).off + 1,none⟩ = some (.bool ((zK l0 zJ).f1)) ∧ w'.cell? ⟨(yI.add ((zJ).toNat * 6)).block,(yI.add ((zJ).toNat * 6)).off + 2,none⟩ = some (.int .i64 ((zK l0 zJ).f2)) ∧ w'.cell? ⟨(yI.add ((zJ).toNat * 6)).block,(yI.add ((zJ).toNat * 6)).off + 3,none⟩ = some (.slice (some tC) ((zK l0 zJ).f3).length zbz) ∧ w'.cell? ⟨(yI.add ((zJ).toNat * 6)).block,(yI.add ((zJ).toNat * 6)).off + 4,none⟩ = some (.slice zbq ((zK l0 zJ).f4).length zbx) ∧ w'.cell? ⟨(yI.add ((zJ).toNat * 6)).block,(yI.add ((zJ).toNat * 6)).off + 5,none⟩ = some (.slice zbj ((zK l0 zJ).f5).length zbv) ∧ w'.cell? (tC.add ((jD).toNat * 2)) = some (.string ((qE ((zK l0 zJ).f3) jD).f0)) ∧ w'.cell? ⟨(tC.add ((jD).toNat * 2)).block,(tC.add ((jD).toNat * 2)).off + 1,none⟩ = some (.int .i64 ((qE ((zK l0 zJ).f3) jD).f1))) (ds:=[24]) #[false,false,false,false,false,false,false,false,false,false,false,false,false,false,false,false,false,false,false,false,false,false,false,false,false] (by kernel_rfl) rfl rfl ⟨zw yM 0,zw yM 1,zw yM 2,zw yM 3,zw yM 4,zw yM 5,((HB.out.cell (wb w _ Jj)).trans Jj),((HB.out.cell (wb w _ Jq)).trans Jq),((HB.out.cell (wb w _ Jz)).trans Jz),((HB.out.cell (wb w _ U9)).trans U9),((HB.out.cell (wb w _ U8)).trans U8),((HB.out.cell (wb w _ U7)).trans U7),((HB.out.cell (wb w _ Jk)).trans Jk),((HB.out.cell (wb w _ Jv)).trans Jv),((HB.out.cell (wb w _ JY)).trans JY),((HB.out.cell (wb w _ JK)).trans JK),((HB.out.cell (wb w _ JV)).trans JV),((HB.out.cell (wb w _ JJ)).trans JJ),((HB.out.cell (wb w _ JX)).trans JX),((HB.out.cell (wb w _ JQ)).trans JQ),((HB.out.cell (wb w _ Ja)).trans Ja),((HB.out.cell (wb w _ JW)).trans JW)⟩ (fun hHeld=>?_);refine uT zl.zdx zl.zY1 (fun zi vD=>?_)
            generalize wr.drew = Vn at y9 vV yM HB zXm zgD zgE zXu zgF zgG mo PG PI U4 U5 U6 PL PN PO PU P5 Jy Jw JZ P6 P7 hHeld ⊢
            refine yu 0 (some 41) zi ?_
            refine yu 2 (some 43) zi ?_
            refine yu 3 (some 44) zi ?_
            refine yu 4 (some 45) zi ?_
            refine yu 5 (some 46) zi ?_
            refine yu 7 (some 48) zi ?_
            refine yu 11 (some 52) zi ?_
            refine yu 12 (some 53) zi ?_
            refine yu 13 (some 54) zi ?_
            refine yu 14 (some 55) zi ?_
            refine yu 16 (some 57) zi ?_
            refine jK 1 (some 42) zi vD hHeld ?_
            refine jK 6 (some 47) zi vD hHeld ?_
            refine yu 8 (some 49) zi ?_
            refine yu 9 (some 50) zi ?_
            refine jK 10 (some 51) zi vD hHeld ?_
            refine jK 15 (some 56) zi vD hHeld ?_
            refine yu 17 (some 58) zi ?_
            refine yu 18 (some 59) zi ?_
            refine jK 19 (some 60) zi vD hHeld ?_
            refine yu 20 (some 61) zi ?_
            refine Zr 21 (some 62) zi (fun K hK=>?_)
            refine vaS ?_
            refine hK.out _ _ ⟨(zX (qx yM.out _) 0).trans rfl,(zX (qx yM.out _) 1).trans rfl,(zX (qx yM.out _) 2).trans rfl,(zX (qx yM.out _) 3).trans rfl,(zX (qx yM.out _) 4).trans rfl,(zX (qx yM.out _) 5).trans rfl,(World.cell?_alloc_lt _ _ _ (wb _ _ (((HB.out.cell (wb w _ Jj)).trans Jj)))).trans (((HB.out.cell (wb w _ Jj)).trans Jj)),(World.cell?_alloc_lt _ _ _ (wb _ _ (((HB.out.cell (wb w _ Jq)).trans Jq)))).trans (((HB.out.cell (wb w _ Jq)).trans Jq)),(World.cell?_alloc_lt _ _ _ (wb _ _ (((HB.out.cell (wb w _ Jz)).trans Jz)))).trans (((HB.out.cell (wb w _ Jz)).trans Jz)),(World.cell?_alloc_lt _ _ _ (wb _ _ (((HB.out.cell (wb w _ U9)).trans U9)))).trans (((HB.out.cell (wb w _ U9)).trans U9)),(World.cell?_alloc_lt _ _ _ (wb _ _ (((HB.out.cell (wb w _ U8)).trans U8)))).trans (((HB.out.cell (wb w _ U8)).trans U8)),(World.cell?_alloc_lt _ _ _ (wb _ _ (((HB.out.cell (wb w _ U7)).trans U7)))).trans (((HB.out.cell (wb w _ U7)).trans U7)),(World.cell?_alloc_lt _ _ _ (wb _ _ (((HB.out.cell (wb w _ Jk)).trans Jk)))).trans (((HB.out.cell (wb w _ Jk)).trans Jk)),(World.cell?_alloc_lt _ _ _ (wb _ _ (((HB.out.cell (wb w _ Jv)).trans Jv)))).trans (((HB.out.cell (wb w _ Jv)).trans Jv)),(World.cell?_alloc_lt _ _ _ (wb _ _ (((HB.out.cell (wb w _ JY)).trans JY)))).trans (((HB.out.cell (wb w _ JY)).trans JY)),(World.cell?_alloc_lt _ _ _ (wb _ _ (((HB.out.cell (wb w _ JK)).trans JK)))).trans (((HB.out.cell (wb w _ JK)).trans JK)),(World.cell?_alloc_lt _ _ _ (wb _ _ (((HB.out.cell (wb w _ JV)).trans JV)))).trans (((HB.out.cell (wb w _ JV)).trans JV)),(World.cell?_alloc_lt _ _ _ (wb _ _ (((HB.out.cell (wb w _ JJ)).trans JJ)))).trans (((HB.out.cell (wb w _ JJ)).trans JJ)),(World.cell?_alloc_lt _ _ _ (wb _ _ (((HB.out.cell (wb w _ JX)).trans JX)))).trans (((HB.out.cell (wb w _ JX)).trans JX)),(World.cell?_alloc_lt _ _ _ (wb _ _ (((HB.out.cell (wb w _ JQ)).trans JQ)))).trans (((HB.out.cell (wb w _ JQ)).trans JQ)),(World.cell?_alloc_lt _ _ _ (wb _ _ (((HB.out.cell (wb w _ Ja)).trans Ja)))).trans (((HB.out.cell (wb w _ Ja)).trans Ja)),(World.cell?_alloc_lt _ _ _ (wb _ _ (((HB.out.cell (wb w _ JW)).trans JW)))).trans (((HB.out.cell (wb w _ JW)).trans JW))⟩ (fun hHeld=>?_)
            clear hK K
            refine ZF (some 62) ?_
            refine Zr 22 (some 63) zi (fun K hK=>?_)
            refine Kd.ZO Yi (w0:=w) w.heap.size (by rfl) (.tmp 42) (.tmp 62) 97 106 (.agg #[(.string ⟨#[]⟩),(.int .i64 0)]) 24 rfl Tryz.underlying97 zfM rfl (by decide) (by omega) jR jI (⟨(qE ((zK l0 zJ).f3) jD).f0,(qE ((zK l0 zJ).f3) jD).f1⟩:uX) [.string ((qE ((zK l0 zJ).f3) jD).f0),.int .i64 ((qE ((zK l0 zJ).f3) jD).f1)] (fun _=>True) (fun _=>False) rfl rfl ?aP (fun _ hk=>hk.elim) ?aF ?aO ?aB ?aS ?aL ?_
            (case aP=>exact zcm _ _ _ (⟨(qE ((zK l0 zJ).f3) jD).f0,(qE ((zK l0 zJ).f3) jD).f1⟩:uX))
            (case aB=>exact (zG HB.out))
            (case aF=>exact (fun _ _=>trivial))
            (case aO=>exact (vQ vV.out))
            (case aS=>exact (zf (zG HB.out)))
            (case aL=>have:=znD.out;omega)
            intro zEm sZ ho hb hg hat
            rw [← znE.out] at ho
            have zW:=zx.mk (Kd.zv7 (ok:=(fun k_=>k_ ≠ z8)) (by (with_reducible repeat (first | apply Kd.vR | apply Kd.vS | apply Kd.vZ));exact Kd.pQ y9.out (fun _ hk=>⟨hk.2,hk.1⟩)) hg hat)
            have zh:=zx.mk (uL (g:=z8) (o:=.cells #[.string ((zK l0 zJ).f0),.bool ((zK l0 zJ).f1),.int .i64 ((zK l0 zJ).f2),jR,.slice none 0 0,.slice none 0 0] 101 (0,0)) (qV yM.out) hg (Kd.Qm vV.out yM.out (by decide)))
            have zo:=zx.mk (hb)
            have zM:=zx.mk (ho)
            clear y9 yM HB vV
            have y9:=zW
            have yM:=zh
            have HB:=zo
            have ze7:=zM
            clear zW zh zo zM ho hb hg hat
            obtain ⟨zZw,zZZ,zY3⟩:=Kd.vw ze7.out
            (first | subst zY3 | (injection zY3 with Jb iX Jc;have iJ:=Jb.symm;have iV:=Jc.symm;clear Jb iX Jc;subst iJ;subst iV))
            refine hK.out _ _ ⟨zw yM 0,zw yM 1,zw yM 2,zw yM 3,zw yM 4,zw yM 5,((HB.out.cell (wb w _ Jj)).trans Jj),((HB.out.cell (wb w _ Jq)).trans Jq),((HB.out.cell (wb w _ Jz)).trans Jz),((HB.out.cell (wb w _ U9)).trans U9),((HB.out.cell (wb w _ U8)).trans U8),((HB.out.cell (wb w _ U7)).trans U7),((HB.out.cell (wb w _ Jk)).trans Jk),((HB.out.cell (wb w _ Jv)).trans Jv),((HB.out.cell (wb w _ JY)).trans JY),((HB.out.cell (wb w _ JK)).trans JK),((HB.out.cell (wb w _ JV)).trans JV),((HB.out.cell (wb w _ JJ)).trans JJ),((HB.out.cell (wb w _ JX)).trans JX),((HB.out.cell (wb w _ JQ)).trans JQ),((HB.out.cell (wb w _ Ja)).trans Ja),((HB.out.cell (wb w _ JW)).trans JW)⟩ (fun hHeld=>?_)
            clear hK K
            refine ZF (some 63) ?_
            refine yu 23 (some 64) zi ?_
            refine zq6 (i:=24) (N:=none) #[true,true,true,true,true,true,true,true,true,true,true,true,true,true,true,true,true,true,true,true,true,true,true,true,true] rfl rfl (Zv zi.out (by kernel_rfl)) (by decide) (fun K hK=>?_)
            have zEn:sZ.cell? ⟨z8,3,none⟩ = some (jR):=zw yM 3
            have zDm:=zy yM.out 3
            refine zzM (w1:=?_) (by rfl) rfl ?_ ?_
            rotate_left
            ·go_simp
             rfl
            refine hK.out _ _ ?_
            clear hK K
            refine vW (qP zi.out (by kernel_rfl)) ?_
            try go_wp2
            go_roundg k2
            case measure=>have:=uK.out;have:=Qs.out;omega
            case rel=>exact ⟨(wrap64 (jD + 1)),(zw8),(.slice zZw zw8.length zZZ),(by first | rfl | (simp;done) | (simp [*];done)),H',⟨by have:=uK.out;have:=Qs.out;omega⟩,⟨by (with_reducible repeat (first | apply Kd.vR | apply Kd.vS | apply Kd.vZ));exact Kd.pQ (Kd.gF (p:=⟨z8,3,none⟩) (Kd.pQ y9.out (fun k_ hk=>(⟨hk,hk.1⟩:_ ∧ k_ ≠ z8))) (fun _ hk=>hk.2) (.slice zZw zw8.length zZZ)) (fun _ hk=>⟨hk.1.2,hk.1.1⟩)⟩,⟨by (with_reducible repeat (first | apply Kd.Ym | apply Kd.Yn | apply Kd.uw));exact Kd.uy (Kd.Z7 (p:=⟨z8,3,none⟩) (Kd.Zc ze7.out yM.out (by decide)) (fun _ hk=>hk.2) (.slice zZw zw8.length zZZ)) (fun _ hk=>trivial)⟩,⟨by (with_reducible repeat (first | refine jE ?_ _ | refine xV ?_ | refine qx ?_ _));refine vC (cs:=#[.string ((zK l0 zJ).f0),.bool ((zK l0 zJ).f1),.int .i64 ((zK l0 zJ).f2),jR,.slice none 0 0,.slice none 0 0]) ?_ 3 _ rfl;(with_reducible repeat (first | refine jE ?_ _ | refine xV ?_ | refine qx ?_ _));exact yM.out⟩,⟨zG HB.out⟩⟩
           ·rw [if_neg c16] at H
            exact absurd H (by simp)
          ·rw [if_neg c15] at H
           exact absurd H (by simp)
         ·rw [if_neg c14] at H
          have ze6:decide (jD < (((zK l0 zJ).f3).length:Int)) = false:=decide_eq_false c14
          clear c14
          have H':=zx.mk H
          clear H
          have zz6:0 ≤ (zJ:Int):=of_decide_eq_true yF
          have zz7:zJ < (l0.length:Int):=of_decide_eq_true yF
          obtain ⟨zY2,zlW,zla,zlb,zlc,zld,zle,e254,UR,UU,U0,U1,U2,U3,eU,iq,iy,iw,iZ,iQ⟩:=kT ji.out zJ zz6 zz7
          obtain rfl:yI = zY2:=(by injection e254)
          replace UR:=(HB.out.cell (wb w _ UR)).trans UR
          replace UU:=(HB.out.cell (wb w _ UU)).trans UU
          replace U0:=(HB.out.cell (wb w _ U0)).trans U0
          replace U1:=(HB.out.cell (wb w _ U1)).trans U1
          replace U2:=(HB.out.cell (wb w _ U2)).trans U2
          replace U3:=(HB.out.cell (wb w _ U3)).trans U3
          have zgs:=zx.mk iq
          have zgt:=zx.mk eU
          clear iq eU
          have zgu:=zx.mk iw
          have zgA:=zx.mk iy
          clear iw iy
          have zgB:=zx.mk iQ
          have zgC:=zx.mk iZ
          clear iQ iZ
          replace zz6:=eq_true zz6
          replace zz7:=eq_true zz7
          go_wp2
          go_loopg [7] k2 (fun kq v7 w'=>∃ (uE:Int) (kN:List (uG)) (pR:Value),v7 = .int .i64 uE ∧ zx (zl.l2 kq l0 qX zJ uE ((zK l0 zJ).f0) ((zK l0 zJ).f1) ((zK l0 zJ).f2) jI kN = some r) ∧ zx (kq ≤ k2) ∧ zx (Kd.S Wj 101 w' w.heap.size (fun k_=>some k_ ≠ (jR:Value).ownBlock ∧ some k_ ≠ (pR:Value).ownBlock ∧ k_ ≠ z8) u3 qX) ∧ zx (Kd.R Yi 106 w' w.heap.size (fun _=>True) jR jI) ∧ zx (Kd.R YE 109 w' w.heap.size (fun _=>True) pR kN) ∧ zx (w'.heap[z8]? = some (.cells #[.string ((zK l0 zJ).f0),.bool ((zK l0 zJ).f1),.int .i64 ((zK l0 zJ).f2),jR,pR,(.slice none 0 0)] 101 (0,0))) ∧ zx (Below w.heap.size w w'))
          case atStart=>exact ⟨(0),(([]:List (uG))),(.slice none 0 0),(by first | rfl | (simp;done) | (simp [*];done)),H',⟨Nat.le_refl _⟩,⟨by (with_reducible repeat (first | apply Kd.vR | apply Kd.vS | apply Kd.vZ));exact Kd.pQ y9.out (fun _ hk=>⟨hk.1,⟨(by simp [Value.ownBlock]),hk.2⟩⟩)⟩,⟨vQ vV.out⟩,⟨by first | exact Kd.jf _ _ _ _ _ | exact Kd.YI _ _ _ _ _ | exact Kd.YL _ _ _ _ _ | exact Kd.YH _ _ _ _ _ | exact Kd.Yp _ _ _ _ _⟩,⟨qV yM.out⟩,⟨zG HB.out⟩⟩
          case round =>
           clear H'
           try clear c2
           try clear rE
           try clear c3
           try clear ZR
           try clear c12
           try clear znA
           try clear c13
           try clear znB
           try clear c14
           try clear ze6
           try clear c15
           try clear znC
           try clear c16
           try clear Pg
           try clear Ph
           try clear Pm
           try clear QL
           try clear QM
           try clear QN
           try clear Pn
           try clear Po
           try clear Pp
           try clear UG
           try clear UH
           try clear UL
           try clear Pt
           try clear PD
           try clear PE
           try clear UM
           try clear UN
           try clear UO
           try clear UR
           try clear UU
           try clear U0
           try clear U1
           try clear U2
           try clear U3
           try clear mo
           try clear PG
           try clear PI
           try clear U4
           try clear U5
           try clear U6
           try clear PL
           try clear PN
           try clear PO
           try clear PU
           try clear P5
           try clear Jy
           try clear Jw
           try clear JZ
           try clear P6
           try clear P7
           try clear zkr
           try clear zkt
           try clear zkA
           try clear zz6
           try clear zw9
           try clear zZq
           try clear zZj
           try clear zZk
           try clear zks
           try clear zku
           try clear zkB
           try clear zz7
           try clear zZz
           try clear zZx
           try clear zZv
           try clear zZy
           obtain ⟨uE,kN,pR,rfl,HA,rF,y9,vV,uU,yM,HB⟩:=hrel
           cases gk with
           | zero=>exact absurd HA.out (by simp [zl.l2])
           | succ k3 =>
            have H:=HA.out
            clear HA
            simp only [zl.l2] at H
            by_cases c21:0 ≤ zJ
            ·rw [if_pos c21] at H
             have zY4:decide (0 ≤ zJ) = true:=decide_eq_true c21
             clear c21
             by_cases c22:zJ < (l0.length:Int)
             ·rw [if_pos c22] at H
              have znH:decide (zJ < (l0.length:Int)) = true:=decide_eq_true c22
              clear c22
              by_cases c23:uE < (((zK l0 zJ).f4).length:Int)
              ·rw [if_pos c23] at H
               have zvd:decide (uE < (((zK l0 zJ).f4).length:Int)) = true:=decide_eq_true c23
               clear c23
               by_cases c24:0 ≤ uE
               ·rw [if_pos c24] at H
                have zY5:decide (0 ≤ uE) = true:=decide_eq_true c24
                clear c24
                by_cases c25:kN.length < 2932031007402
                ·rw [if_pos c25] at H
                 have znI:=zx.mk c25
                 clear c25
                 obtain ⟨zkC,zve⟩:∃ y_:List (uG),y_ = (kN ++ [(⟨(qR ((zK l0 zJ).f4) uE).f0,(qR ((zK l0 zJ).f4) uE).f1,(qR ((zK l0 zJ).f4) uE).f2⟩:uG)]):=⟨_,rfl⟩
                 replace H:(zl.l2 k3 l0 qX zJ (wrap64 (uE + 1)) ((zK l0 zJ).f0) ((zK l0 zJ).f1) ((zK l0 zJ).f2) jI zkC) = some r:=by first | (rw [zve];with_reducible exact H) | (have jH:=(Option.bind_some _ _).symm.trans H;rw [zve];with_reducible exact jH) | (have jH:=(Option.bind_some _ _).symm.trans H;with_reducible exact jH) | with_reducible exact H | (rw [zve];exact H) | exact H
                 have znL:=zx.mk zve
                 clear zve
                 have H':=zx.mk H
                 clear H
                 have zqn:0 ≤ (zJ:Int):=of_decide_eq_true yF
                 have zqo:zJ < (l0.length:Int):=of_decide_eq_true yF
                 obtain ⟨zY6,zlf,zlg,zlh,zli,zll,zlm,e262,Jd,Je,Jf,Jg,Jh,Ji,iK,iY,ig,iA,iB,iD⟩:=kT ji.out zJ zqn zqo
                 obtain rfl:yI = zY6:=(by injection e262)
                 replace Jd:=(HB.out.cell (wb w _ Jd)).trans Jd
                 replace Je:=(HB.out.cell (wb w _ Je)).trans Je
                 replace Jf:=(HB.out.cell (wb w _ Jf)).trans Jf
                 replace Jg:=(HB.out.cell (wb w _ Jg)).trans Jg
                 replace Jh:=(HB.out.cell (wb w _ Jh)).trans Jh
                 replace Ji:=(HB.out.cell (wb w _ Ji)).trans Ji
                 have zgH:=zx.mk iY
                 have zgI:=zx.mk iK
                 clear iY iK
                 have zgL:=zx.mk iA
                 have zgM:=zx.mk ig
                 clear iA ig
                 have zgN:=zx.mk iD
                 have zgO:=zx.mk iB
                 clear iD iB
                 replace zqn:=eq_true zqn
                 replace zqo:=eq_true zqo
                 try go_wp2
                 have zW:=zx.mk (Kd.vZ y9.out)
                 have zh:=zx.mk (Kd.uw vV.out)
                 have zo:=zx.mk (Kd.uw uU.out)
                 have zM:=zx.mk (xV yM.out)
                 have qw:=zx.mk (zR HB.out)
                 clear y9 vV uU yM HB
                 have y9:=zW
                 have vV:=zh
                 have uU:=zo
                 have yM:=zM
                 have HB:=qw
                 clear zW zh zo zM qw
                 have zY7:0 ≤ (zJ:Int):=of_decide_eq_true yF
                 have zY8:zJ < (l0.length:Int):=of_decide_eq_true yF
                 obtain ⟨znM,zZQ,zZX,zCb,zZJ,zZV,zZK,zrn,mD,mE,mF,Jl,Jm,Jo,zXA,zXB,zXC,zXD,zXE,zXF⟩:=kT ji.out zJ zY7 zY8
                 have Jp:=Jo
                 have Jr:=Jm
                 have Js:=Jl
                 have Jt:=mF
                 have Ju:=mE
                 have JA:=mD
                 obtain rfl:yI = znM:=(by injection zrn)
                 replace mD:=(HB.out.cell (wb w _ mD)).trans mD
                 replace mE:=(HB.out.cell (wb w _ mE)).trans mE
                 replace mF:=(HB.out.cell (wb w _ mF)).trans mF
                 replace Jl:=(HB.out.cell (wb w _ Jl)).trans Jl
                 replace Jm:=(HB.out.cell (wb w _ Jm)).trans Jm
                 replace Jo:=(HB.out.cell (wb w _ Jo)).trans Jo
                 have zgP:=zx.mk zXB
                 have ztT:=zx.mk zXA
                 clear zXB zXA
                 have zXG:=zx.mk zXD
                 have ztU:=zx.mk zXC
                 clear zXD zXC
                 have zgR:=zx.mk zXF
                 have zt0:=zx.mk zXE
                 clear zXF zXE
                 replace zY7:=eq_true zY7
                 replace zY8:=eq_true zY8
                 have zY9:0 ≤ (uE:Int):=of_decide_eq_true yF
                 have zWz:uE < (((zK l0 zJ).f4).length:Int):=of_decide_eq_true yF
                 obtain ⟨Yf,e264,mG,mH,mI⟩:=gU zXG.out uE zY9 zWz
                 have JB:=mI
                 have JC:=mH
                 have JD:=mG
                 cases e264
                 replace mG:=(HB.out.cell (wb w _ mG)).trans mG
                 replace mH:=(HB.out.cell (wb w _ mH)).trans mH
                 replace mI:=(HB.out.cell (wb w _ mI)).trans mI
                 replace zY9:=eq_true zY9
                 replace zWz:=eq_true zWz
                 have zWq:0 ≤ (zJ:Int):=of_decide_eq_true yF
                 have zWx:zJ < (l0.length:Int):=of_decide_eq_true yF
                 obtain ⟨znN,zCc,zCd,zCe,zCf,zCg,zCh,zro,mM,mO,mP,P8,P9,bq,zXH,zXI,zXL,zXM,zXN,zXO⟩:=kT ji.out zJ zWq zWx
                 have JE:=bq
                 have JF:=P9
                 have JG:=P8
                 have JH:=mP
                 have JI:=mO
                 have JL:=mM
                 obtain rfl:yI = znN:=(by injection zro)
                 replace mM:=(HB.out.cell (wb w _ mM)).trans mM
                 replace mO:=(HB.out.cell (wb w _ mO)).trans mO
                 replace mP:=(HB.out.cell (wb w _ mP)).trans mP
                 replace P8:=(HB.out.cell (wb w _ P8)).trans P8
                 replace P9:=(HB.out.cell (wb w _ P9)).trans P9
                 replace bq:=(HB.out.cell (wb w _ bq)).trans bq
                 have zgS:=zx.mk zXI
                 have zt1:=zx.mk zXH
                 clear zXI zXH
                 have zXP:=zx.mk zXM
                 have zt2:=zx.mk zXL
                 clear zXM zXL
                 have zgT:=zx.mk zXO
                 have zt3:=zx.mk zXN
                 clear zXO zXN
                 replace zWq:=eq_true zWq
                 replace zWx:=eq_true zWx
                 have qN:=Option.some.inj (Jl.symm.trans P8)
                 injection qN with qN jc jd
                 subst qN
                 subst jd
                 clear jc
                 have qN:=Option.some.inj (Jm.symm.trans P9)
                 injection qN with qN jc jd
                 subst qN
                 subst jd
                 clear jc
                 have qN:=Option.some.inj (Jo.symm.trans bq)
                 injection qN with qN jc jd
                 subst qN
                 subst jd
                 clear jc
                 have zWj:0 ≤ (uE:Int):=of_decide_eq_true yF
                 have zWv:uE < (((zK l0 zJ).f4).length:Int):=of_decide_eq_true yF
                 obtain ⟨zDn,zrp,mR,mU,nk⟩:=gU zXP.out uE zWj zWv
                 have JM:=nk
                 have JN:=mU
                 have JO:=mR
                 cases zrp
                 replace mR:=(HB.out.cell (wb w _ mR)).trans mR
                 replace mU:=(HB.out.cell (wb w _ mU)).trans mU
                 replace nk:=(HB.out.cell (wb w _ nk)).trans nk
                 replace zWj:=eq_true zWj
                 replace zWv:=eq_true zWv
                 have zWk:0 ≤ (zJ:Int):=of_decide_eq_true yF
                 have zWy:zJ < (l0.length:Int):=of_decide_eq_true yF
                 obtain ⟨znO,zCi,zCl,zCm,zCn,zCo,zCp,e267,ny,nZ,nQ,bZ,bQ,bX,zXR,zXS,zXT,zXU,zX0,zX1⟩:=kT ji.out zJ zWk zWy
                 have JR:=bX
                 have JU:=bQ
                 have J2:=bZ
                 have J3:=nQ
                 have J4:=nZ
                 have J5:=ny
                 obtain rfl:yI = znO:=(by injection e267)
                 replace ny:=(HB.out.cell (wb w _ ny)).trans ny
                 replace nZ:=(HB.out.cell (wb w _ nZ)).trans nZ
                 replace nQ:=(HB.out.cell (wb w _ nQ)).trans nQ
                 replace bZ:=(HB.out.cell (wb w _ bZ)).trans bZ
                 replace bQ:=(HB.out.cell (wb w _ bQ)).trans bQ
                 replace bX:=(HB.out.cell (wb w _ bX)).trans bX
                 have zgU:=zx.mk zXS
                 have zt4:=zx.mk zXR
                 clear zXS zXR
                 have zX2:=zx.mk zXU
                 have zt5:=zx.mk zXT
                 clear zXU zXT
                 have zg0:=zx.mk zX1
                 have zt6:=zx.mk zX0
                 clear zX1 zX0
                 replace zWk:=eq_true zWk
                 replace zWy:=eq_true zWy
                 have qN:=Option.some.inj (Jl.symm.trans bZ)
                 injection qN with qN jc jd
                 subst qN
                 subst jd
                 clear jc
                 have qN:=Option.some.inj (Jm.symm.trans bQ)
                 injection qN with qN jc jd
                 subst qN
                 subst jd
                 clear jc
                 have qN:=Option.some.inj (Jo.symm.trans bX)
                 injection qN with qN jc jd
                 subst qN
                 subst jd
                 clear jc
                 have zWw:0 ≤ (uE:Int):=of_decide_eq_true yF
                 have zWZ:uE < (((zK l0 zJ).f4).length:Int):=of_decide_eq_true yF
                 obtain ⟨zDo,e268,nX,nJ,nV⟩:=gU zX2.out uE zWw zWZ
                 have J6:=nV
                 have J7:=nJ
                 have J8:=nX
                 cases e268
                 replace nX:=(HB.out.cell (wb w _ nX)).trans nX
                 replace nJ:=(HB.out.cell (wb w _ nJ)).trans nJ
                 replace nV:=(HB.out.cell (wb w _ nV)).trans nV
                 replace zWw:=eq_true zWw
                 replace zWZ:=eq_true zWZ
                 refine jr (n:=34) (S:=fun w'=>w'.cell? ⟨z8,0,none⟩ = some (.string ((zK l0 zJ).f0)) ∧ w'.cell? ⟨z8,1,none⟩ = some (.bool ((zK l0 zJ).f1)) ∧ w'.cell? ⟨z8,2,none⟩ = some (.int .i64 ((zK l0 zJ).f2)) ∧ w'.cell? ⟨z8,3,none⟩ = some (jR) ∧ w'.cell? ⟨z8,4,none⟩ = some (pR) ∧ w'.cell? ⟨z8,5,none⟩ = some (.slice none 0 0) ∧ w'.cell? (yI.add ((zJ).toNat * 6)) = some (.string ((zK l0 zJ).f0)) ∧ w'.cell? ⟨(yI.add ((zJ).toNat * 6)).block,(yI.add ((zJ).toNat * 6)).off + 1,none⟩ = some (.bool ((zK l0 zJ).f1)) ∧ w'.cell? ⟨(yI.add ((zJ).toNat * 6)).block,(yI.add ((zJ).toNat * 6)).off + 2,none⟩ = some (.int .i64 ((zK l0 zJ).f2)) ∧ w'.cell? ⟨(yI.add ((zJ).toNat * 6)).block,(yI.add ((zJ).toNat * 6)).off + 3,none⟩ = some (.slice zZQ ((zK l0 zJ).f3).length zZX) ∧ w'.cell? ⟨(yI.add ((zJ).toNat * 6)).block,(yI.add ((zJ).toNat * 6)).off + 4,none⟩ = some (.slice (some Yf) ((zK l0 zJ).f4).length zZJ) ∧ w'.cell? ⟨(yI.add ((zJ).toNat * 6)).block,(yI.add ((zJ).toNat * 6)).off + 5,none⟩ = some (.slice zZV ((zK l0 zJ).f5).length zZK) ∧ w'.cell? (Yf.add ((uE).toNat * 3)) = some (.string ((qR ((zK l0 zJ).f4) uE).f0)) ∧ w'.cell? ⟨(Yf.add ((uE).toNat * 3)).block,(Yf.add ((uE).toNat * 3)).off + 1,none⟩ = some (.string ((qR ((zK l0 zJ).f4) uE).f1)) ∧ w'.cell? ⟨(Yf.add ((uE).toNat * 3)).block,(Yf.add ((uE).toNat * 3)).off + 2,none⟩ = some (.string ((qR ((zK l0 zJ).f4) uE).f2)) ∧ w'.cell? (yI.add ((zJ).toNat * 6)) = some (.string ((zK l0 zJ).f0)) ∧ w'.cell? ⟨(yI.add ((zJ).toNat * 6)).block,(yI.add ((zJ).toNat * 6)).off + 1,none⟩ = some (.bool ((zK l0 zJ).f1)) ∧ w'.cell? ⟨(yI.add ((zJ).toNat * 6)).block,(yI.add ((zJ).toNat * 6)).off + 2,none⟩ = some (.int .i64 ((zK l0 zJ).f2)) ∧ w'.cell? ⟨(yI.add ((zJ).toNat * 6)).block,(yI.add ((zJ).toNat * 6)).off + 3,none⟩ = some (.slice zZQ ((zK l0 zJ).f3).length zZX) ∧ w'.cell? ⟨(yI.add ((zJ).toNat * 6)).block,(yI.add ((zJ).toNat * 6)).off + 4,none⟩ = some (.slice (some Yf) ((zK l0 zJ).f4).length zZJ) ∧ w'.cell? ⟨(yI.add ((zJ).toNat * 6)).block,(yI.add ((zJ).toNat * 6)).off + 5,none⟩ = some (.slice zZV ((zK l0 zJ).f5).length zZK) ∧ w'.cell? (Yf.add ((uE).toNat * 3)) = some (.string ((qR ((zK l0 zJ).f4) uE).f0)) ∧ w'.cell? ⟨(Yf.add ((uE).toNat * 3)).block,(Yf.add ((uE).toNat * 3)).off + 1,none⟩ = some (.string ((qR ((zK l0 zJ).f4) uE).f1)) ∧ w'.cell? ⟨(Yf.add ((uE).toNat * 3)).block,(Yf.add ((uE).toNat * 3)).off + 2,none⟩ = some (.string ((qR ((zK l0 zJ).f4) uE).f2)) ∧ w'.cell? (yI.add ((zJ).toNat * 6)) = some (.string ((zK l0 zJ).f0)) ∧ w'.cell? ⟨(yI.add ((zJ).toNat * 6)).block,(yI.add ((zJ).toNat * 6)).off + 1,none⟩ = some (.bool ((zK l0 zJ).f1)) ∧ w'.cell? ⟨(yI.add ((zJ).toNat * 6)).block,(yI.add ((zJ).toNat * 6)).off + 2,none⟩ = some (.int .i64 ((zK l0 zJ).f2)) ∧ w'.cell? ⟨(yI.add ((zJ).toNat * 6)).block,(yI.add ((zJ).toNat * 6)).off + 3,none⟩ = some (.slice zZQ ((zK l0 zJ).f3).length zZX) ∧ w'.cell? ⟨(yI.add ((zJ).toNat * 6)).block,(yI.add ((zJ).toNat * 6)).off + 4,none⟩ = some (.slice (some Yf) ((zK l0 zJ).f4).length zZJ) ∧ w'.cell? ⟨(yI.add ((zJ).toNat * 6)).block,(yI.add ((zJ).toNat * 6)).off + 5,none⟩ = some (.slice zZV ((zK l0 zJ).f5).length zZK) ∧ w'.cell? (Yf.add ((uE).toNat * 3)) = some (.string ((qR ((zK l0 zJ).f4) uE).f0)) ∧ w'.cell? ⟨(Yf.add ((uE).toNat * 3)).block,(Yf.add ((uE).toNat * 3)).off + 1,none⟩ = some (.string ((qR ((zK l0 zJ).f4) uE).f1)) ∧ w'.cell? ⟨(Yf.add ((uE).toNat * 3)).block,(Yf.add ((uE).toNat * 3)).off + 2,none⟩ = some (.string ((qR ((zK l0 zJ).f4) uE).f2))) (ds:=[33]) #[false,false,false,false,false,false,false,false,false,false,false,false,false,false,false,false,false,false,false,false,false,false,false,false,false,false,false,false,false,false,false,false,false,false] (by kernel_rfl) rfl rfl ⟨zw yM 0,zw yM 1,zw yM 2,zw yM 3,zw yM 4,zw yM 5,((HB.out.cell (wb w _ JA)).trans JA),((HB.out.cell (wb w _ Ju)).trans Ju),((HB.out.cell (wb w _ Jt)).trans Jt),((HB.out.cell (wb w _ Js)).trans Js),((HB.out.cell (wb w _ Jr)).trans Jr),((HB.out.cell (wb w _ Jp)).trans Jp),((HB.out.cell (wb w _ JD)).trans JD),((HB.out.cell (wb w _ JC)).trans JC),((HB.out.cell (wb w _ JB)).trans JB),((HB.out.cell (wb w _ JL)).trans JL),((HB.out.cell (wb w _ JI)).trans JI),((HB.out.cell (wb w _ JH)).trans JH),((HB.out.cell (wb w _ JG)).trans JG),((HB.out.cell (wb w _ JF)).trans JF),((HB.out.cell (wb w _ JE)).trans JE),((HB.out.cell (wb w _ JO)).trans JO),((HB.out.cell (wb w _ JN)).trans JN),((HB.out.cell (wb w _ JM)).trans JM),((HB.out.cell (wb w _ J5)).trans J5),((HB.out.cell (wb w _ J4)).trans J4),((HB.out.cell (wb w _ J3)).trans J3),((HB.out.cell (wb w _ J2)).trans J2),((HB.out.cell (wb w _ JU)).trans JU),((HB.out.cell (wb w _ JR)).trans JR),((HB.out.cell (wb w _ J8)).trans J8),((HB.out.cell (wb w _ J7)).trans J7),((HB.out.cell (wb w _ J6)).trans J6)⟩ (fun hHeld=>?_);refine uT zl.WY zl.Qp (fun zi vD=>?_)
                 generalize wr.drew = w26 at y9 vV uU yM HB zgP zXG zgR zgS zXP zgT zgU zX2 zg0 mD mE mF Jl Jm Jo mG mH mI mM mO mP P8 P9 bq mR mU nk ny nZ nQ bZ bQ bX nX nJ nV hHeld ⊢
                 refine yu 0 (some 75) zi ?_
                 refine yu 2 (some 77) zi ?_
                 refine yu 3 (some 78) zi ?_
                 refine yu 4 (some 79) zi ?_
                 refine yu 5 (some 80) zi ?_
                 refine yu 7 (some 82) zi ?_
                 refine yu 11 (some 86) zi ?_
                 refine yu 12 (some 87) zi ?_
                 refine yu 13 (some 88) zi ?_
                 refine yu 14 (some 89) zi ?_
                 refine yu 16 (some 91) zi ?_
                 refine yu 20 (some 95) zi ?_
                 refine yu 21 (some 96) zi ?_
                 refine yu 22 (some 97) zi ?_
                 refine yu 23 (some 98) zi ?_
                 refine yu 25 (some 100) zi ?_
                 refine jK 1 (some 76) zi vD hHeld ?_
                 refine jK 6 (some 81) zi vD hHeld ?_
                 refine yu 8 (some 83) zi ?_
                 refine yu 9 (some 84) zi ?_
                 refine jK 10 (some 85) zi vD hHeld ?_
                 refine jK 15 (some 90) zi vD hHeld ?_
                 refine yu 17 (some 92) zi ?_
                 refine yu 18 (some 93) zi ?_
                 refine jK 19 (some 94) zi vD hHeld ?_
                 refine jK 24 (some 99) zi vD hHeld ?_
                 refine yu 26 (some 101) zi ?_
                 refine yu 27 (some 102) zi ?_
                 refine jK 28 (some 103) zi vD hHeld ?_
                 refine yu 29 (some 104) zi ?_
                 refine Zr 30 (some 105) zi (fun K hK=>?_)
                 refine vaS ?_
                 refine hK.out _ _ ⟨(zX (qx yM.out _) 0).trans rfl,(zX (qx yM.out _) 1).trans rfl,(zX (qx yM.out _) 2).trans rfl,(zX (qx yM.out _) 3).trans rfl,(zX (qx yM.out _) 4).trans rfl,(zX (qx yM.out _) 5).trans rfl,(World.cell?_alloc_lt _ _ _ (wb _ _ (((HB.out.cell (wb w _ JA)).trans JA)))).trans (((HB.out.cell (wb w _ JA)).trans JA)),(World.cell?_alloc_lt _ _ _ (wb _ _ (((HB.out.cell (wb w _ Ju)).trans Ju)))).trans (((HB.out.cell (wb w _ Ju)).trans Ju)),(World.cell?_alloc_lt _ _ _ (wb _ _ (((HB.out.cell (wb w _ Jt)).trans Jt)))).trans (((HB.out.cell (wb w _ Jt)).trans Jt)),(World.cell?_alloc_lt _ _ _ (wb _ _ (((HB.out.cell (wb w _ Js)).trans Js)))).trans (((HB.out.cell (wb w _ Js)).trans Js)),(World.cell?_alloc_lt _ _ _ (wb _ _ (((HB.out.cell (wb w _ Jr)).trans Jr)))).trans (((HB.out.cell (wb w _ Jr)).trans Jr)),(World.cell?_alloc_lt _ _ _ (wb _ _ (((HB.out.cell (wb w _ Jp)).trans Jp)))).trans (((HB.out.cell (wb w _ Jp)).trans Jp)),(World.cell?_alloc_lt _ _ _ (wb _ _ (((HB.out.cell (wb w _ JD)).trans JD)))).trans (((HB.out.cell (wb w _ JD)).trans JD)),(World.cell?_alloc_lt _ _ _ (wb _ _ (((HB.out.cell (wb w _ JC)).trans JC)))).trans (((HB.out.cell (wb w _ JC)).trans JC)),(World.cell?_alloc_lt _ _ _ (wb _ _ (((HB.out.cell (wb w _ JB)).trans JB)))).trans (((HB.out.cell (wb w _ JB)).trans JB)),(World.cell?_alloc_lt _ _ _ (wb _ _ (((HB.out.cell (wb w _ JL)).trans JL)))).trans (((HB.out.cell (wb w _ JL)).trans JL)),(World.cell?_alloc_lt _ _ _ (wb _ _ (((HB.out.cell (wb w _ JI)).trans JI)))).trans (((HB.out.cell (wb w _ JI)).trans JI)),(World.cell?_alloc_lt _ _ _ (wb _ _ (((HB.out.cell (wb w _ JH)).trans JH)))).trans (((HB.out.cell (wb w _ JH)).trans JH)),(World.cell?_alloc_lt _ _ _ (wb _ _ (((HB.out.cell (wb w _ JG)).trans JG)))).trans (((HB.out.cell (wb w _ JG)).trans JG)),(World.cell?_alloc_lt _ _ _ (wb _ _ (((HB.out.cell (wb w _ JF)).trans JF)))).trans (((HB.out.cell (wb w _ JF)).trans JF)),(World.cell?_alloc_lt _ _ _ (wb _ _ (((HB.out.cell (wb w _ JE)).trans JE)))).trans (((HB.out.cell (wb w _ JE)).trans JE)),(World.cell?_alloc_lt _ _ _ (wb _ _ (((HB.out.cell (wb w _ JO)).trans JO)))).trans (((HB.out.cell (wb w _ JO)).trans JO)),(World.cell?_alloc_lt _ _ _ (wb _ _ (((HB.out.cell (wb w _ JN)).trans JN)))).trans (((HB.out.cell (wb w _ JN)).trans JN)),(World.cell?_alloc_lt _ _ _ (wb _ _ (((HB.out.cell (wb w _ JM)).trans JM)))).trans (((HB.out.cell (wb w _ JM)).trans JM)),(World.cell?_alloc_lt _ _ _ (wb _ _ (((HB.out.cell (wb w _ J5)).trans J5)))).trans (((HB.out.cell (wb w _ J5)).trans J5)),(World.cell?_alloc_lt _ _ _ (wb _ _ (((HB.out.cell (wb w _ J4)).trans J4)))).trans (((HB.out.cell (wb w _ J4)).trans J4)),(World.cell?_alloc_lt _ _ _ (wb _ _ (((HB.out.cell (wb w _ J3)).trans J3)))).trans (((HB.out.cell (wb w _ J3)).trans J3)),(World.cell?_alloc_lt _ _ _ (wb _ _ (((HB.out.cell (wb w _ J2)).trans J2)))).trans (((HB.out.cell (wb w _ J2)).trans J2)),(World.cell?_alloc_lt _ _ _ (wb _ _ (((HB.out.cell (wb w _ JU)).trans JU)))).trans (((HB.out.cell (wb w _ JU)).trans JU)),(World.cell?_alloc_lt _ _ _ (wb _ _ (((HB.out.cell (wb w _ JR)).trans JR)))).trans (((HB.out.cell (wb w _ JR)).trans JR)),(World.cell?_alloc_lt _ _ _ (wb _ _ (((HB.out.cell (wb w _ J8)).trans J8)))).trans (((HB.out.cell (wb w _ J8)).trans J8)),(World.cell?_alloc_lt _ _ _ (wb _ _ (((HB.out.cell (wb w _ J7)).trans J7)))).trans (((HB.out.cell (wb w _ J7)).trans J7)),(World.cell?_alloc_lt _ _ _ (wb _ _ (((HB.out.cell (wb w _ J6)).trans J6)))).trans (((HB.out.cell (wb w _ J6)).trans J6))⟩ (fun hHeld=>?_)
                 clear hK K
                 refine ZF (some 105) ?_
                 refine Zr 31 (some 106) zi (fun K hK=>?_)
                 refine Kd.ZO YE (w0:=w) w.heap.size (by rfl) (.tmp 76) (.tmp 105) 98 109 (.agg #[(.string ⟨#[]⟩),(.string ⟨#[]⟩),(.string ⟨#[]⟩)]) 48 rfl Tryz.underlying98 zfN rfl (by decide) (by omega) pR kN (⟨(qR ((zK l0 zJ).f4) uE).f0,(qR ((zK l0 zJ).f4) uE).f1,(qR ((zK l0 zJ).f4) uE).f2⟩:uG) [.string ((qR ((zK l0 zJ).f4) uE).f0),.string ((qR ((zK l0 zJ).f4) uE).f1),.string ((qR ((zK l0 zJ).f4) uE).f2)] (fun _=>True) (fun _=>False) rfl rfl ?aP (fun _ hk=>hk.elim) ?aF ?aO ?aB ?aS ?aL ?_
                 (case aP=>exact zcn _ _ _ (⟨(qR ((zK l0 zJ).f4) uE).f0,(qR ((zK l0 zJ).f4) uE).f1,(qR ((zK l0 zJ).f4) uE).f2⟩:uG))
                 (case aB=>exact (zG HB.out))
                 (case aF=>exact (fun _ _=>trivial))
                 (case aO=>exact (vQ uU.out))
                 (case aS=>exact (zf (zG HB.out)))
                 (case aL=>have:=znI.out;omega)
                 intro zEo w27 ho hb hg hat
                 rw [← znL.out] at ho
                 have zW:=zx.mk (Kd.zv7 (ok:=(fun k_=>some k_ ≠ (jR:Value).ownBlock ∧ k_ ≠ z8)) (by (with_reducible repeat (first | apply Kd.vR | apply Kd.vS | apply Kd.vZ));exact Kd.pQ y9.out (fun _ hk=>⟨⟨hk.1,hk.2.2⟩,hk.2.1⟩)) hg hat)
                 have zh:=zx.mk (Kd.Uk (vQ vV.out) (Kd.YZ (vQ uU.out)) (by decide) hg)
                 have zo:=zx.mk (uL (g:=z8) (o:=.cells #[.string ((zK l0 zJ).f0),.bool ((zK l0 zJ).f1),.int .i64 ((zK l0 zJ).f2),jR,pR,.slice none 0 0] 101 (0,0)) (qV yM.out) hg (Kd.Qm uU.out yM.out (by decide)))
                 have zM:=zx.mk (hb)
                 have qw:=zx.mk (ho)
                 clear y9 vV yM HB uU
                 have y9:=zW
                 have vV:=zh
                 have yM:=zo
                 have HB:=zM
                 have ze8:=qw
                 clear zW zh zo zM qw ho hb hg hat
                 obtain ⟨zWQ,zWX,zln⟩:=Kd.vw ze8.out
                 (first | subst zln | (injection zln with Jb iX Jc;have iJ:=Jb.symm;have iV:=Jc.symm;clear Jb iX Jc;subst iJ;subst iV))
                 refine hK.out _ _ ⟨zw yM 0,zw yM 1,zw yM 2,zw yM 3,zw yM 4,zw yM 5,((HB.out.cell (wb w _ JA)).trans JA),((HB.out.cell (wb w _ Ju)).trans Ju),((HB.out.cell (wb w _ Jt)).trans Jt),((HB.out.cell (wb w _ Js)).trans Js),((HB.out.cell (wb w _ Jr)).trans Jr),((HB.out.cell (wb w _ Jp)).trans Jp),((HB.out.cell (wb w _ JD)).trans JD),((HB.out.cell (wb w _ JC)).trans JC),((HB.out.cell (wb w _ JB)).trans JB),((HB.out.cell (wb w _ JL)).trans JL),((HB.out.cell (wb w _ JI)).trans JI),((HB.out.cell (wb w _ JH)).trans JH),((HB.out.cell (wb w _ JG)).trans JG),((HB.out.cell (wb w _ JF)).trans JF),((HB.out.cell (wb w _ JE)).trans JE),((HB.out.cell (wb w _ JO)).trans JO),((HB.out.cell (wb w _ JN)).trans JN),((HB.out.cell (wb w _ JM)).trans JM),((HB.out.cell (wb w _ J5)).trans J5),((HB.out.cell (wb w _ J4)).trans J4),((HB.out.cell (wb w _ J3)).trans J3),((HB.out.cell (wb w _ J2)).trans J2),((HB.out.cell (wb w _ JU)).trans JU),((HB.out.cell (wb w _ JR)).trans JR),((HB.out.cell (wb w _ J8)).trans J8),((HB.out.cell (wb w _ J7)).trans J7),((HB.out.cell (wb w _ J6)).trans J6)⟩ (fun hHeld=>?_)
                 clear hK K
                 refine ZF (some 106) ?_
                 refine yu 32 (some 107) zi ?_
                 refine zq6 (i:=33) (N:=none) #[true,true,true,true,true,true,true,true,true,true,true,true,true,true,true,true,true,true,true,true,true,true,true,true,true,true,true,true,true,true,true,true,true,true] rfl rfl (Zv zi.out (by kernel_rfl)) (by decide) (fun K hK=>?_)
                 have zEp:w27.cell? ⟨z8,4,none⟩ = some (pR):=zw yM 4
                 have zDp:=zy yM.out 4
                 refine zzM (w1:=?_) (by rfl) rfl ?_ ?_
                 rotate_left
                 ·go_simp
                  rfl
                 refine hK.out _ _ ?_
                 clear hK K
                 refine vW (qP zi.out (by kernel_rfl)) ?_
                 try go_wp2
                 go_roundg k3
                 case measure=>have:=uK.out;have:=Qs.out;have:=rF.out;omega
                 case rel=>exact ⟨(wrap64 (uE + 1)),(zkC),(.slice zWQ zkC.length zWX),(by first | rfl | (simp;done) | (simp [*];done)),H',⟨by have:=uK.out;have:=Qs.out;have:=rF.out;omega⟩,⟨by (with_reducible repeat (first | apply Kd.vR | apply Kd.vS | apply Kd.vZ));exact Kd.pQ (Kd.gF (p:=⟨z8,4,none⟩) (Kd.pQ y9.out (fun k_ hk=>(⟨hk,hk.1.2⟩:_ ∧ k_ ≠ z8))) (fun _ hk=>hk.2) (.slice zWQ zkC.length zWX)) (fun _ hk=>⟨hk.1.1.1,⟨hk.1.2,hk.1.1.2⟩⟩)⟩,⟨by (with_reducible repeat (first | apply Kd.Ym | apply Kd.Yn | apply Kd.uw));exact Kd.uy (Kd.Z7 (p:=⟨z8,4,none⟩) (Kd.Zc vV.out yM.out (by decide)) (fun _ hk=>hk.2) (.slice zWQ zkC.length zWX)) (fun _ hk=>trivial)⟩,⟨by (with_reducible repeat (first | apply Kd.Ym | apply Kd.Yn | apply Kd.uw));exact Kd.uy (Kd.Z7 (p:=⟨z8,4,none⟩) (Kd.Zc ze8.out yM.out (by decide)) (fun _ hk=>hk.2) (.slice zWQ zkC.length zWX)) (fun _ hk=>trivial)⟩,⟨by (with_reducible repeat (first | refine jE ?_ _ | refine xV ?_ | refine qx ?_ _));refine vC (cs:=#[.string ((zK l0 zJ).f0),.bool ((zK l0 zJ).f1),.int .i64 ((zK l0 zJ).f2),jR,pR,.slice none 0 0]) ?_ 4 _ rfl;(with_reducible repeat (first | refine jE ?_ _ | refine xV ?_ | refine qx ?_ _));exact yM.out⟩,⟨zG HB.out⟩⟩
                ·rw [if_neg c25] at H
                 exact absurd H (by simp)
               ·rw [if_neg c24] at H
                exact absurd H (by simp)
              ·rw [if_neg c23] at H
               have zvd:decide (uE < (((zK l0 zJ).f4).length:Int)) = false:=decide_eq_false c23
               clear c23
               have H':=zx.mk H
               clear H
               have zqn:0 ≤ (zJ:Int):=of_decide_eq_true yF
               have zqo:zJ < (l0.length:Int):=of_decide_eq_true yF
               obtain ⟨zY6,zlf,zlg,zlh,zli,zll,zlm,e262,Jd,Je,Jf,Jg,Jh,Ji,iK,iY,ig,iA,iB,iD⟩:=kT ji.out zJ zqn zqo
               obtain rfl:yI = zY6:=(by injection e262)
               replace Jd:=(HB.out.cell (wb w _ Jd)).trans Jd
               replace Je:=(HB.out.cell (wb w _ Je)).trans Je
               replace Jf:=(HB.out.cell (wb w _ Jf)).trans Jf
               replace Jg:=(HB.out.cell (wb w _ Jg)).trans Jg
               replace Jh:=(HB.out.cell (wb w _ Jh)).trans Jh
               replace Ji:=(HB.out.cell (wb w _ Ji)).trans Ji
               have zgH:=zx.mk iY
               have zgI:=zx.mk iK
               clear iY iK
               have zgL:=zx.mk iA
               have zgM:=zx.mk ig
               clear iA ig
               have zgN:=zx.mk iD
               have zgO:=zx.mk iB
               clear iD iB
               replace zqn:=eq_true zqn
               replace zqo:=eq_true zqo
               go_wp2
               go_loopg [8] k3 (fun kq v8 w'=>∃ (uF:Int) (pU:List (uN)) (QW:Value),v8 = .int .i64 uF ∧ zx (zl.l3 kq l0 qX zJ uF ((zK l0 zJ).f0) ((zK l0 zJ).f1) ((zK l0 zJ).f2) jI kN pU = some r) ∧ zx (kq ≤ k3) ∧ zx (Kd.S Wj 101 w' w.heap.size (fun k_=>some k_ ≠ (jR:Value).ownBlock ∧ some k_ ≠ (pR:Value).ownBlock ∧ some k_ ≠ (QW:Value).ownBlock ∧ k_ ≠ z8) u3 qX) ∧ zx (Kd.R Yi 106 w' w.heap.size (fun _=>True) jR jI) ∧ zx (Kd.R YE 109 w' w.heap.size (fun _=>True) pR kN) ∧ zx (Kd.R YP 112 w' w.heap.size (fun _=>True) QW pU) ∧ zx (w'.heap[z8]? = some (.cells #[.string ((zK l0 zJ).f0),.bool ((zK l0 zJ).f1),.int .i64 ((zK l0 zJ).f2),jR,pR,QW] 101 (0,0))) ∧ zx (Below w.heap.size w w'))
               case atStart=>exact ⟨(0),(([]:List (uN))),(.slice none 0 0),(by first | rfl | (simp;done) | (simp [*];done)),H',⟨Nat.le_refl _⟩,⟨by (with_reducible repeat (first | apply Kd.vR | apply Kd.vS | apply Kd.vZ));exact Kd.pQ y9.out (fun _ hk=>⟨hk.1,⟨hk.2.1,⟨(by simp [Value.ownBlock]),hk.2.2⟩⟩⟩)⟩,⟨vQ vV.out⟩,⟨vQ uU.out⟩,⟨by first | exact Kd.jf _ _ _ _ _ | exact Kd.YI _ _ _ _ _ | exact Kd.YL _ _ _ _ _ | exact Kd.YH _ _ _ _ _ | exact Kd.Yp _ _ _ _ _⟩,⟨qV yM.out⟩,⟨zG HB.out⟩⟩
               case round =>
                clear H'
                try clear c2
                try clear c21
                try clear zY4
                try clear c22
                try clear znH
                try clear c23
                try clear zvd
                try clear c24
                try clear zY5
                try clear c25
                try clear PG
                try clear PI
                try clear U4
                try clear U5
                try clear U6
                try clear PL
                try clear PN
                try clear PO
                try clear PU
                try clear P5
                try clear Jy
                try clear Jw
                try clear JZ
                try clear P6
                try clear P7
                try clear Jd
                try clear Je
                try clear Jf
                try clear Jg
                try clear Jh
                try clear Ji
                try clear mD
                try clear mE
                try clear mF
                try clear Jl
                try clear Jm
                try clear Jo
                try clear mG
                try clear mH
                try clear mI
                try clear mM
                try clear mO
                try clear mP
                try clear P8
                try clear P9
                try clear bq
                try clear mR
                try clear mU
                try clear nk
                try clear ny
                try clear nZ
                try clear nQ
                try clear bZ
                try clear bQ
                try clear bX
                try clear nX
                try clear nJ
                try clear nV
                try clear zkr
                try clear zkt
                try clear zkA
                try clear zz6
                try clear zw9
                try clear zZq
                try clear zZj
                try clear zZk
                try clear zqn
                try clear zY7
                try clear zY9
                try clear zWq
                try clear zWj
                try clear zWk
                try clear zWw
                try clear zks
                try clear zku
                try clear zkB
                try clear zz7
                try clear zZz
                try clear zZx
                try clear zZv
                try clear zZy
                try clear zqo
                try clear zY8
                try clear zWz
                try clear zWx
                try clear zWv
                try clear zWy
                try clear zWZ
                obtain ⟨uF,pU,QW,rfl,HA,HK4,y9,vV,uU,p8,yM,HB⟩:=hrel
                cases gk with
                | zero=>exact absurd HA.out (by simp [zl.l3])
                | succ k4 =>
                 have H:=HA.out
                 clear HA
                 simp only [zl.l3] at H
                 by_cases gD:0 ≤ zJ
                 ·rw [if_pos gD] at H
                  have zWJ:decide (0 ≤ zJ) = true:=decide_eq_true gD
                  clear gD
                  by_cases c31:zJ < (l0.length:Int)
                  ·rw [if_pos c31] at H
                   have ze9:decide (zJ < (l0.length:Int)) = true:=decide_eq_true c31
                   clear c31
                   by_cases c32:uF < (((zK l0 zJ).f5).length:Int)
                   ·rw [if_pos c32] at H
                    have zfz:decide (uF < (((zK l0 zJ).f5).length:Int)) = true:=decide_eq_true c32
                    clear c32
                    by_cases J9:0 ≤ uF
                    ·rw [if_pos J9] at H
                     have zDr:decide (0 ≤ uF) = true:=decide_eq_true J9
                     clear J9
                     by_cases c34:pU.length < 3518437208883
                     ·rw [if_pos c34] at H
                      have znP:=zx.mk c34
                      clear c34
                      obtain ⟨zje,zvf⟩:∃ y_:List (uN),y_ = (pU ++ [(⟨(q9 ((zK l0 zJ).f5) uF).f0,(q9 ((zK l0 zJ).f5) uF).f1,(q9 ((zK l0 zJ).f5) uF).f2⟩:uN)]):=⟨_,rfl⟩
                      replace H:(zl.l3 k4 l0 qX zJ (wrap64 (uF + 1)) ((zK l0 zJ).f0) ((zK l0 zJ).f1) ((zK l0 zJ).f2) jI kN zje) = some r:=by first | (rw [zvf];with_reducible exact H) | (have jH:=(Option.bind_some _ _).symm.trans H;rw [zvf];with_reducible exact jH) | (have jH:=(Option.bind_some _ _).symm.trans H;with_reducible exact jH) | with_reducible exact H | (rw [zvf];exact H) | exact H
                      have znR:=zx.mk zvf
                      clear zvf
                      have H':=zx.mk H
                      clear H
                      have zjf:0 ≤ (zJ:Int):=of_decide_eq_true yF
                      have zjg:zJ < (l0.length:Int):=of_decide_eq_true yF
                      obtain ⟨zWV,zlo,zlp,zlr,zls,zlt,zlu,e272,bJ,bV,bK,bY,bW,bf,iE,iF,iG,iH,iI,iL⟩:=kT ji.out zJ zjf zjg
                      obtain rfl:yI = zWV:=(by injection e272)
                      replace bJ:=(HB.out.cell (wb w _ bJ)).trans bJ
                      replace bV:=(HB.out.cell (wb w _ bV)).trans bV
                      replace bK:=(HB.out.cell (wb w _ bK)).trans bK
                      replace bY:=(HB.out.cell (wb w _ bY)).trans bY
                      replace bW:=(HB.out.cell (wb w _ bW)).trans bW
                      replace bf:=(HB.out.cell (wb w _ bf)).trans bf
                      have zg1:=zx.mk iF
                      have zg2:=zx.mk iE
                      clear iF iE
                      have zg3:=zx.mk iH
                      have zg4:=zx.mk iG
                      clear iH iG
                      have zg5:=zx.mk iL
                      have zg6:=zx.mk iI
                      clear iL iI
                      replace zjf:=eq_true zjf
                      replace zjg:=eq_true zjg
                      try go_wp2
                      have zW:=zx.mk (Kd.vZ y9.out)
                      have zh:=zx.mk (Kd.uw vV.out)
                      have zo:=zx.mk (Kd.uw uU.out)
                      have zM:=zx.mk (Kd.uw p8.out)
                      have qw:=zx.mk (xV yM.out)
                      have xE:=zx.mk (zR HB.out)
                      clear y9 vV uU p8 yM HB
                      have y9:=zW
                      have vV:=zh
                      have uU:=zo
                      have p8:=zM
                      have yM:=qw
                      have HB:=xE
                      clear zW zh zo zM qw xE
                      have zdj:0 ≤ (zJ:Int):=of_decide_eq_true yF
                      have zdv:zJ < (l0.length:Int):=of_decide_eq_true yF
                      obtain ⟨znS,zZY,zZW,zZa,zZb,zCr,zZc,e273,iN,iO,iP,bg,bn,bA,zX3,zX4,zX5,zX6,zX7,zX8⟩:=kT ji.out zJ zdj zdv
                      have Kz:=bA
                      have Kq:=bn
                      have Kj:=bg
                      have Kv:=iP
                      have Kk:=iO
                      have Ky:=iN
                      obtain rfl:yI = znS:=(by injection e273)
                      replace iN:=(HB.out.cell (wb w _ iN)).trans iN
                      replace iO:=(HB.out.cell (wb w _ iO)).trans iO
                      replace iP:=(HB.out.cell (wb w _ iP)).trans iP
                      replace bg:=(HB.out.cell (wb w _ bg)).trans bg
                      replace bn:=(HB.out.cell (wb w _ bn)).trans bn
                      replace bA:=(HB.out.cell (wb w _ bA)).trans bA
                      have zg7:=zx.mk zX4
                      have zt7:=zx.mk zX3
                      clear zX4 zX3
                      have zg8:=zx.mk zX6
                      have zt8:=zx.mk zX5
                      clear zX6 zX5
                      have zX9:=zx.mk zX8
                      have zt9:=zx.mk zX7
                      clear zX8 zX7
                      replace zdj:=eq_true zdj
                      replace zdv:=eq_true zdv
                      have zdk:0 ≤ (uF:Int):=of_decide_eq_true yF
                      have zdy:uF < (((zK l0 zJ).f5).length:Int):=of_decide_eq_true yF
                      obtain ⟨Yg,e274,iR,iT,iU⟩:=mq zX9.out uF zdk zdy
                      have Kw:=iU
                      have KZ:=iT
                      have KQ:=iR
                      cases e274
                      replace iR:=(HB.out.cell (wb w _ iR)).trans iR
                      replace iT:=(HB.out.cell (wb w _ iT)).trans iT
                      replace iU:=(HB.out.cell (wb w _ iU)).trans iU
                      replace zdk:=eq_true zdk
                      replace zdy:=eq_true zdy
                      have zdw:0 ≤ (zJ:Int):=of_decide_eq_true yF
                      have zdZ:zJ < (l0.length:Int):=of_decide_eq_true yF
                      obtain ⟨znT,zCs,zCt,zCu,zCA,zCB,zCC,e275,lq,lZ,lQ,nK,nY,nW,zJz,zJq,zJx,zJj,zJv,zJk⟩:=kT ji.out zJ zdw zdZ
                      have KX:=nW
                      have KJ:=nY
                      have KV:=nK
                      have KY:=lQ
                      have KW:=lZ
                      have Ka:=lq
                      obtain rfl:yI = znT:=(by injection e275)
                      replace lq:=(HB.out.cell (wb w _ lq)).trans lq
                      replace lZ:=(HB.out.cell (wb w _ lZ)).trans lZ
                      replace lQ:=(HB.out.cell (wb w _ lQ)).trans lQ
                      replace nK:=(HB.out.cell (wb w _ nK)).trans nK
                      replace nY:=(HB.out.cell (wb w _ nY)).trans nY
                      replace nW:=(HB.out.cell (wb w _ nW)).trans nW
                      have zg9:=zx.mk zJq
                      have zuz:=zx.mk zJz
                      clear zJq zJz
                      have zhz:=zx.mk zJj
                      have zuq:=zx.mk zJx
                      clear zJj zJx
                      have zJy:=zx.mk zJk
                      have zux:=zx.mk zJv
                      clear zJk zJv
                      replace zdw:=eq_true zdw
                      replace zdZ:=eq_true zdZ
                      have qN:=Option.some.inj (bg.symm.trans nK)
                      injection qN with qN jc jd
                      subst qN
                      subst jd
                      clear jc
                      have qN:=Option.some.inj (bn.symm.trans nY)
                      injection qN with qN jc jd
                      subst qN
                      subst jd
                      clear jc
                      have qN:=Option.some.inj (bA.symm.trans nW)
                      injection qN with qN jc jd
                      subst qN
                      subst jd
                      clear jc
                      have zdQ:0 ≤ (uF:Int):=of_decide_eq_true yF
                      have zdX:uF < (((zK l0 zJ).f5).length:Int):=of_decide_eq_true yF
                      obtain ⟨zDs,zrr,lX,lJ,lV⟩:=mq zJy.out uF zdQ zdX
                      have Ke:=lV
                      have Kg:=lJ
                      have Kh:=lX
                      cases zrr
                      replace lX:=(HB.out.cell (wb w _ lX)).trans lX
                      replace lJ:=(HB.out.cell (wb w _ lJ)).trans lJ
                      replace lV:=(HB.out.cell (wb w _ lV)).trans lV
                      replace zdQ:=eq_true zdQ
                      replace zdX:=eq_true zdX
                      have zdJ:0 ≤ (zJ:Int):=of_decide_eq_true yF
                      have zdV:zJ < (l0.length:Int):=of_decide_eq_true yF
                      obtain ⟨znU,zCD,zCE,zCF,zCG,zCH,zCI,zrs,lK,lY,lW,ng,ni,nA,zJw,zJZ,zJQ,zJX,zJJ,zJV⟩:=kT ji.out zJ zdJ zdV
                      have Ki:=nA
                      have Kl:=ni
                      have Km:=ng
                      have Kn:=lW
                      have Ko:=lY
                      have Kt:=lK
                      obtain rfl:yI = znU:=(by injection zrs)
                      replace lK:=(HB.out.cell (wb w _ lK)).trans lK
                      replace lY:=(HB.out.cell (wb w _ lY)).trans lY
                      replace lW:=(HB.out.cell (wb w _ lW)).trans lW
                      replace ng:=(HB.out.cell (wb w _ ng)).trans ng
                      replace ni:=(HB.out.cell (wb w _ ni)).trans ni
                      replace nA:=(HB.out.cell (wb w _ nA)).trans nA
                      have zhq:=zx.mk zJZ
                      have zuj:=zx.mk zJw
                      clear zJZ zJw
                      have zhx:=zx.mk zJX
                      have zuv:=zx.mk zJQ
                      clear zJX zJQ
                      have zJK:=zx.mk zJV
                      have zuk:=zx.mk zJJ
                      clear zJV zJJ
                      replace zdJ:=eq_true zdJ
                      replace zdV:=eq_true zdV
                      have qN:=Option.some.inj (bg.symm.trans ng)
                      injection qN with qN jc jd
                      subst qN
                      subst jd
                      clear jc
                      have qN:=Option.some.inj (bn.symm.trans ni)
                      injection qN with qN jc jd
                      subst qN
                      subst jd
                      clear jc
                      have qN:=Option.some.inj (bA.symm.trans nA)
                      injection qN with qN jc jd
                      subst qN
                      subst jd
                      clear jc
                      have zdK:0 ≤ (uF:Int):=of_decide_eq_true yF
                      have zdY:uF < (((zK l0 zJ).f5).length:Int):=of_decide_eq_true yF
                      obtain ⟨zDt,e278,lu,lC,lD⟩:=mq zJK.out uF zdK zdY
                      have Ku:=lD
                      have KA:=lC
                      have KC:=lu
                      cases e278
                      replace lu:=(HB.out.cell (wb w _ lu)).trans lu
                      replace lC:=(HB.out.cell (wb w _ lC)).trans lC
                      replace lD:=(HB.out.cell (wb w _ lD)).trans lD
                      replace zdK:=eq_true zdK
                      replace zdY:=eq_true zdY
                      refine jr (n:=34) (S:=fun w'=>w'.cell? ⟨z8,0,none⟩ = some (.string ((zK l0 zJ).f0)) ∧ w'.cell? ⟨z8,1,none⟩ = some (.bool ((zK l0 zJ).f1)) ∧ w'.cell? ⟨z8,2,none⟩ = some (.int .i64 ((zK l0 zJ).f2)) ∧ w'.cell? ⟨z8,3,none⟩ = some (jR) ∧ w'.cell? ⟨z8,4,none⟩ = some (pR) ∧ w'.cell? ⟨z8,5,none⟩ = some (QW) ∧ w'.cell? (yI.add ((zJ).toNat * 6)) = some (.string ((zK l0 zJ).f0)) ∧ w'.cell? ⟨(yI.add ((zJ).toNat * 6)).block,(yI.add ((zJ).toNat * 6)).off + 1,none⟩ = some (.bool ((zK l0 zJ).f1)) ∧ w'.cell? ⟨(yI.add ((zJ).toNat * 6)).block,(yI.add ((zJ).toNat * 6)).off + 2,none⟩ = some (.int .i64 ((zK l0 zJ).f2)) ∧ w'.cell? ⟨(yI.add ((zJ).toNat * 6)).block,(yI.add ((zJ).toNat * 6)).off + 3,none⟩ = some (.slice zZY ((zK l0 zJ).f3).length zZW) ∧ w'.cell? ⟨(yI.add ((zJ).toNat * 6)).block,(yI.add ((zJ).toNat * 6)).off + 4,none⟩ = some (.slice zZa ((zK l0 zJ).f4).length zZb) ∧ w'.cell? ⟨(yI.add ((zJ).toNat * 6)).block,(yI.add ((zJ).toNat * 6)).off + 5,none⟩ = some (.slice (some Yg) ((zK l0 zJ).f5).length zZc) ∧ w'.cell? (Yg.add ((uF).toNat * 3)) = some (.string ((q9 ((zK l0 zJ).f5) uF).f0)) ∧ w'.cell? ⟨(Yg.add ((uF).toNat * 3)).block,(Yg.add ((uF).toNat * 3)).off + 1,none⟩ = some (.string ((q9 ((zK l0 zJ).f5) uF).f1)) ∧ w'.cell? ⟨(Yg.add ((uF).toNat * 3)).block,(Yg.add ((uF).toNat * 3)).off + 2,none⟩ = some (.int .i64 ((q9 ((zK l0 zJ).f5) uF).f2)) ∧ w'.cell? (yI.add ((zJ).toNat * 6)) = some (.string ((zK l0 zJ).f0)) ∧ w'.cell? ⟨(yI.add ((zJ).toNat * 6)).block,(yI.add ((zJ).toNat * 6)).off + 1,none⟩ = some (.bool ((zK l0 zJ).f1)) ∧ w'.cell? ⟨(yI.add ((zJ).toNat * 6)).block,(yI.add ((zJ).toNat * 6)).off + 2,none⟩ = some (.int .i64 ((zK l0 zJ).f2)) ∧ w'.cell? ⟨(yI.add ((zJ).toNat * 6)).block,(yI.add ((zJ).toNat * 6)).off + 3,none⟩ = some (.slice zZY ((zK l0 zJ).f3).length zZW) ∧ w'.cell? ⟨(yI.add ((zJ).toNat * 6)).block,(yI.add ((zJ).toNat * 6)).off + 4,none⟩ = some (.slice zZa ((zK l0 zJ).f4).length zZb) ∧ w'.cell? ⟨(yI.add ((zJ).toNat * 6)).block,(yI.add ((zJ).toNat * 6)).off + 5,none⟩ = some (.slice (some Yg) ((zK l0 zJ).f5).length zZc) ∧ w'.cell? (Yg.add ((uF).toNat * 3)) = some (.string ((q9 ((zK l0 zJ).f5) uF).f0)) ∧ w'.cell? ⟨(Yg.add ((uF).toNat * 3)).block,(Yg.add ((uF).toNat * 3)).off + 1,none⟩ = some (.string ((q9 ((zK l0 zJ).f5) uF).f1)) ∧ w'.cell? ⟨(Yg.add ((uF).toNat * 3)).block,(Yg.add ((uF).toNat * 3)).off + 2,none⟩ = some (.int .i64 ((q9 ((zK l0 zJ).f5) uF).f2)) ∧ w'.cell? (yI.add ((zJ).toNat * 6)) = some (.string ((zK l0 zJ).f0)) ∧ w'.cell? ⟨(yI.add ((zJ).toNat * 6)).block,(yI.add ((zJ).toNat * 6)).off + 1,none⟩ = some (.bool ((zK l0 zJ).f1)) ∧ w'.cell? ⟨(yI.add ((zJ).toNat * 6)).block,(yI.add ((zJ).toNat * 6)).off + 2,none⟩ = some (.int .i64 ((zK l0 zJ).f2)) ∧ w'.cell? ⟨(yI.add ((zJ).toNat * 6)).block,(yI.add ((zJ).toNat * 6)).off + 3,none⟩ = some (.slice zZY ((zK l0 zJ).f3).length zZW) ∧ w'.cell? ⟨(yI.add ((zJ).toNat * 6)).block,(yI.add ((zJ).toNat * 6)).off + 4,none⟩ = some (.slice zZa ((zK l0 zJ).f4).length zZb) ∧ w'.cell? ⟨(yI.add ((zJ).toNat * 6)).block,(yI.add ((zJ).toNat * 6)).off + 5,none⟩ = some (.slice (some Yg) ((zK l0 zJ).f5).length zZc) ∧ w'.cell? (Yg.add ((uF).toNat * 3)) = some (.string ((q9 ((zK l0 zJ).f5) uF).f0)) ∧ w'.cell? ⟨(Yg.add ((uF).toNat * 3)).block,(Yg.add ((uF).toNat * 3)).off + 1,none⟩ = some (.string ((q9 ((zK l0 zJ).f5) uF).f1)) ∧ w'.cell? ⟨(Yg.add ((uF).toNat * 3)).block,(Yg.add ((uF).toNat * 3)).off + 2,none⟩ = some (.int .i64 ((q9 ((zK l0 zJ).f5) uF).f2))) (ds:=[33]) #[false,false,false,false,false,false,false,false,false,false,false,false,false,false,false,false,false,false,false,false,false,false,false,false,false,false,false,false,false,false,false,false,false,false] (by kernel_rfl) rfl rfl ⟨zw yM 0,zw yM 1,zw yM 2,zw yM 3,zw yM 4,zw yM 5,((HB.out.cell (wb w _ Ky)).trans Ky),((HB.out.cell (wb w _ Kk)).trans Kk),((HB.out.cell (wb w _ Kv)).trans Kv),((HB.out.cell (wb w _ Kj)).trans Kj),((HB.out.cell (wb w _ Kq)).trans Kq),((HB.out.cell (wb w _ Kz)).trans Kz),((HB.out.cell (wb w _ KQ)).trans KQ),((HB.out.cell (wb w _ KZ)).trans KZ),((HB.out.cell (wb w _ Kw)).trans Kw),((HB.out.cell (wb w _ Ka)).trans Ka),((HB.out.cell (wb w _ KW)).trans KW),((HB.out.cell (wb w _ KY)).trans KY),((HB.out.cell (wb w _ KV)).trans KV),((HB.out.cell (wb w _ KJ)).trans KJ),((HB.out.cell (wb w _ KX)).trans KX),((HB.out.cell (wb w _ Kh)).trans Kh),((HB.out.cell (wb w _ Kg)).trans Kg),((HB.out.cell (wb w _ Ke)).trans Ke),((HB.out.cell (wb w _ Kt)).trans Kt),((HB.out.cell (wb w _ Ko)).trans Ko),((HB.out.cell (wb w _ Kn)).trans Kn),((HB.out.cell (wb w _ Km)).trans Km),((HB.out.cell (wb w _ Kl)).trans Kl),((HB.out.cell (wb w _ Ki)).trans Ki),((HB.out.cell (wb w _ KC)).trans KC),((HB.out.cell (wb w _ KA)).trans KA),((HB.out.cell (wb w _ Ku)).trans Ku)⟩ (fun hHeld=>?_);refine uT zl.zns zl.zlY (fun zi vD=>?_)
                      generalize wr.drew = w35 at y9 vV uU p8 yM HB zg7 zg8 zX9 zg9 zhz zJy zhq zhx zJK iN iO iP bg bn bA iR iT iU lq lZ lQ nK nY nW lX lJ lV lK lY lW ng ni nA lu lC lD hHeld ⊢
                      refine yu 0 (some 118) zi ?_
                      refine yu 2 (some 120) zi ?_
                      refine yu 3 (some 121) zi ?_
                      refine yu 4 (some 122) zi ?_
                      refine yu 5 (some 123) zi ?_
                      refine yu 7 (some 125) zi ?_
                      refine yu 11 (some 129) zi ?_
                      refine yu 12 (some 130) zi ?_
                      refine yu 13 (some 131) zi ?_
                      refine yu 14 (some 132) zi ?_
                      refine yu 16 (some 134) zi ?_
                      refine yu 20 (some 138) zi ?_
                      refine yu 21 (some 139) zi ?_
                      refine yu 22 (some 140) zi ?_
                      refine yu 23 (some 141) zi ?_
                      refine yu 25 (some 143) zi ?_
                      refine jK 1 (some 119) zi vD hHeld ?_
                      refine jK 6 (some 124) zi vD hHeld ?_
                      refine yu 8 (some 126) zi ?_
                      refine yu 9 (some 127) zi ?_
                      refine jK 10 (some 128) zi vD hHeld ?_
                      refine jK 15 (some 133) zi vD hHeld ?_
                      refine yu 17 (some 135) zi ?_
                      refine yu 18 (some 136) zi ?_
                      refine jK 19 (some 137) zi vD hHeld ?_
                      refine jK 24 (some 142) zi vD hHeld ?_
                      refine yu 26 (some 144) zi ?_
                      refine yu 27 (some 145) zi ?_
                      refine jK 28 (some 146) zi vD hHeld ?_
                      refine yu 29 (some 147) zi ?_
                      refine Zr 30 (some 148) zi (fun K hK=>?_)
                      refine vaS ?_
                      refine hK.out _ _ ⟨(zX (qx yM.out _) 0).trans rfl,(zX (qx yM.out _) 1).trans rfl,(zX (qx yM.out _) 2).trans rfl,(zX (qx yM.out _) 3).trans rfl,(zX (qx yM.out _) 4).trans rfl,(zX (qx yM.out _) 5).trans rfl,(World.cell?_alloc_lt _ _ _ (wb _ _ (((HB.out.cell (wb w _ Ky)).trans Ky)))).trans (((HB.out.cell (wb w _ Ky)).trans Ky)),(World.cell?_alloc_lt _ _ _ (wb _ _ (((HB.out.cell (wb w _ Kk)).trans Kk)))).trans (((HB.out.cell (wb w _ Kk)).trans Kk)),(World.cell?_alloc_lt _ _ _ (wb _ _ (((HB.out.cell (wb w _ Kv)).trans Kv)))).trans (((HB.out.cell (wb w _ Kv)).trans Kv)),(World.cell?_alloc_lt _ _ _ (wb _ _ (((HB.out.cell (wb w _ Kj)).trans Kj)))).trans (((HB.out.cell (wb w _ Kj)).trans Kj)),(World.cell?_alloc_lt _ _ _ (wb _ _ (((HB.out.cell (wb w _ Kq)).trans Kq)))).trans (((HB.out.cell (wb w _ Kq)).trans Kq)),(World.cell?_alloc_lt _ _ _ (wb _ _ (((HB.out.cell (wb w _ Kz)).trans Kz)))).trans (((HB.out.cell (wb w _ Kz)).trans Kz)),(World.cell?_alloc_lt _ _ _ (wb _ _ (((HB.out.cell (wb w _ KQ)).trans KQ)))).trans (((HB.out.cell (wb w _ KQ)).trans KQ)),(World.cell?_alloc_lt _ _ _ (wb _ _ (((HB.out.cell (wb w _ KZ)).trans KZ)))).trans (((HB.out.cell (wb w _ KZ)).trans KZ)),(World.cell?_alloc_lt _ _ _ (wb _ _ (((HB.out.cell (wb w _ Kw)).trans Kw)))).trans (((HB.out.cell (wb w _ Kw)).trans Kw)),(World.cell?_alloc_lt _ _ _ (wb _ _ (((HB.out.cell (wb w _ Ka)).trans Ka)))).trans (((HB.out.cell (wb w _ Ka)).trans Ka)),(World.cell?_alloc_lt _ _ _ (wb _ _ (((HB.out.cell (wb w _ KW)).trans KW)))).trans (((HB.out.cell (wb w _ KW)).trans KW)),(World.cell?_alloc_lt _ _ _ (wb _ _ (((HB.out.cell (wb w _ KY)).trans KY)))).trans (((HB.out.cell (wb w _ KY)).trans KY)),(World.cell?_alloc_lt _ _ _ (wb _ _ (((HB.out.cell (wb w _ KV)).trans KV)))).trans (((HB.out.cell (wb w _ KV)).trans KV)),(World.cell?_alloc_lt _ _ _ (wb _ _ (((HB.out.cell (wb w _ KJ)).trans KJ)))).trans (((HB.out.cell (wb w _ KJ)).trans KJ)),(World.cell?_alloc_lt _ _ _ (wb _ _ (((HB.out.cell (wb w _ KX)).trans KX)))).trans (((HB.out.cell (wb w _ KX)).trans KX)),(World.cell?_alloc_lt _ _ _ (wb _ _ (((HB.out.cell (wb w _ Kh)).trans Kh)))).trans (((HB.out.cell (wb w _ Kh)).trans Kh)),(World.cell?_alloc_lt _ _ _ (wb _ _ (((HB.out.cell (wb w _ Kg)).trans Kg)))).trans (((HB.out.cell (wb w _ Kg)).trans Kg)),(World.cell?_alloc_lt _ _ _ (wb _ _ (((HB.out.cell (wb w _ Ke)).trans Ke)))).trans (((HB.out.cell (wb w _ Ke)).trans Ke)),(World.cell?_alloc_lt _ _ _ (wb _ _ (((HB.out.cell (wb w _ Kt)).trans Kt)))).trans (((HB.out.cell (wb w _ Kt)).trans Kt)),(World.cell?_alloc_lt _ _ _ (wb _ _ (((HB.out.cell (wb w _ Ko)).trans Ko)))).trans (((HB.out.cell (wb w _ Ko)).trans Ko)),(World.cell?_alloc_lt _ _ _ (wb _ _ (((HB.out.cell (wb w _ Kn)).trans Kn)))).trans (((HB.out.cell (wb w _ Kn)).trans Kn)),(World.cell?_alloc_lt _ _ _ (wb _ _ (((HB.out.cell (wb w _ Km)).trans Km)))).trans (((HB.out.cell (wb w _ Km)).trans Km)),(World.cell?_alloc_lt _ _ _ (wb _ _ (((HB.out.cell (wb w _ Kl)).trans Kl)))).trans (((HB.out.cell (wb w _ Kl)).trans Kl)),(World.cell?_alloc_lt _ _ _ (wb _ _ (((HB.out.cell (wb w _ Ki)).trans Ki)))).trans (((HB.out.cell (wb w _ Ki)).trans Ki)),(World.cell?_alloc_lt _ _ _ (wb _ _ (((HB.out.cell (wb w _ KC)).trans KC)))).trans (((HB.out.cell (wb w _ KC)).trans KC)),(World.cell?_alloc_lt _ _ _ (wb _ _ (((HB.out.cell (wb w _ KA)).trans KA)))).trans (((HB.out.cell (wb w _ KA)).trans KA)),(World.cell?_alloc_lt _ _ _ (wb _ _ (((HB.out.cell (wb w _ Ku)).trans Ku)))).trans (((HB.out.cell (wb w _ Ku)).trans Ku))⟩ (fun hHeld=>?_)
                      clear hK K
                      refine ZF (some 148) ?_
                      refine Zr 31 (some 149) zi (fun K hK=>?_)
                      refine Kd.ZO YP (w0:=w) w.heap.size (by rfl) (.tmp 119) (.tmp 148) 99 112 (.agg #[(.string ⟨#[]⟩),(.string ⟨#[]⟩),(.int .i64 0)]) 40 rfl Tryz.underlying99 zfO rfl (by decide) (by omega) QW pU (⟨(q9 ((zK l0 zJ).f5) uF).f0,(q9 ((zK l0 zJ).f5) uF).f1,(q9 ((zK l0 zJ).f5) uF).f2⟩:uN) [.string ((q9 ((zK l0 zJ).f5) uF).f0),.string ((q9 ((zK l0 zJ).f5) uF).f1),.int .i64 ((q9 ((zK l0 zJ).f5) uF).f2)] (fun _=>True) (fun _=>False) rfl rfl ?aP (fun _ hk=>hk.elim) ?aF ?aO ?aB ?aS ?aL ?_
                      (case aP=>exact zco _ _ _ (⟨(q9 ((zK l0 zJ).f5) uF).f0,(q9 ((zK l0 zJ).f5) uF).f1,(q9 ((zK l0 zJ).f5) uF).f2⟩:uN))
                      (case aB=>exact (zG HB.out))
                      (case aF=>exact (fun _ _=>trivial))
                      (case aO=>exact (vQ p8.out))
                      (case aS=>exact (zf (zG HB.out)))
                      (case aL=>have:=znP.out;omega)
                      intro zEr w36 ho hb hg hat
                      rw [← znR.out] at ho
                      have zW:=zx.mk (Kd.zv7 (ok:=(fun k_=>some k_ ≠ (jR:Value).ownBlock ∧ some k_ ≠ (pR:Value).ownBlock ∧ k_ ≠ z8)) (by (with_reducible repeat (first | apply Kd.vR | apply Kd.vS | apply Kd.vZ));exact Kd.pQ y9.out (fun _ hk=>⟨⟨hk.1,⟨hk.2.1,hk.2.2.2⟩⟩,hk.2.2.1⟩)) hg hat)
                      have zh:=zx.mk (Kd.Uk (vQ vV.out) (Kd.YZ (vQ p8.out)) (by decide) hg)
                      have zo:=zx.mk (Kd.Uk (vQ uU.out) (Kd.YZ (vQ p8.out)) (by decide) hg)
                      have zM:=zx.mk (uL (g:=z8) (o:=.cells #[.string ((zK l0 zJ).f0),.bool ((zK l0 zJ).f1),.int .i64 ((zK l0 zJ).f2),jR,pR,QW] 101 (0,0)) (qV yM.out) hg (Kd.Qm p8.out yM.out (by decide)))
                      have qw:=zx.mk (hb)
                      have xE:=zx.mk (ho)
                      clear y9 vV uU yM HB p8
                      have y9:=zW
                      have vV:=zh
                      have uU:=zo
                      have yM:=zM
                      have HB:=qw
                      have zfq:=xE
                      clear zW zh zo zM qw xE ho hb hg hat
                      obtain ⟨zZd,zZe,zlA⟩:=Kd.vw zfq.out
                      (first | subst zlA | (injection zlA with Jb iX Jc;have iJ:=Jb.symm;have iV:=Jc.symm;clear Jb iX Jc;subst iJ;subst iV))
                      refine hK.out _ _ ⟨zw yM 0,zw yM 1,zw yM 2,zw yM 3,zw yM 4,zw yM 5,((HB.out.cell (wb w _ Ky)).trans Ky),((HB.out.cell (wb w _ Kk)).trans Kk),((HB.out.cell (wb w _ Kv)).trans Kv),((HB.out.cell (wb w _ Kj)).trans Kj),((HB.out.cell (wb w _ Kq)).trans Kq),((HB.out.cell (wb w _ Kz)).trans Kz),((HB.out.cell (wb w _ KQ)).trans KQ),((HB.out.cell (wb w _ KZ)).trans KZ),((HB.out.cell (wb w _ Kw)).trans Kw),((HB.out.cell (wb w _ Ka)).trans Ka),((HB.out.cell (wb w _ KW)).trans KW),((HB.out.cell (wb w _ KY)).trans KY),((HB.out.cell (wb w _ KV)).trans KV),((HB.out.cell (wb w _ KJ)).trans KJ),((HB.out.cell (wb w _ KX)).trans KX),((HB.out.cell (wb w _ Kh)).trans Kh),((HB.out.cell (wb w _ Kg)).trans Kg),((HB.out.cell (wb w _ Ke)).trans Ke),((HB.out.cell (wb w _ Kt)).trans Kt),((HB.out.cell (wb w _ Ko)).trans Ko),((HB.out.cell (wb w _ Kn)).trans Kn),((HB.out.cell (wb w _ Km)).trans Km),((HB.out.cell (wb w _ Kl)).trans Kl),((HB.out.cell (wb w _ Ki)).trans Ki),((HB.out.cell (wb w _ KC)).trans KC),((HB.out.cell (wb w _ KA)).trans KA),((HB.out.cell (wb w _ Ku)).trans Ku)⟩ (fun hHeld=>?_)
                      clear hK K
                      refine ZF (some 149) ?_
                      refine yu 32 (some 150) zi ?_
                      refine zq6 (i:=33) (N:=none) #[true,true,true,true,true,true,true,true,true,true,true,true,true,true,true,true,true,true,true,true,true,true,true,true,true,true,true,true,true,true,true,true,true,true] rfl rfl (Zv zi.out (by kernel_rfl)) (by decide) (fun K hK=>?_)
                      have zEs:w36.cell? ⟨z8,5,none⟩ = some (QW):=zw yM 5
                      have zDu:=zy yM.out 5
                      refine zzM (w1:=?_) (by rfl) rfl ?_ ?_
                      rotate_left
                      ·go_simp
                       rfl
                      refine hK.out _ _ ?_
                      clear hK K
                      refine vW (qP zi.out (by kernel_rfl)) ?_
                      try go_wp2
                      go_roundg k4
                      case measure=>have:=uK.out;have:=Qs.out;have:=rF.out;have:=HK4.out;omega
                      case rel=>exact ⟨(wrap64 (uF + 1)),(zje),(.slice zZd zje.length zZe),(by first | rfl | (simp;done) | (simp [*];done)),H',⟨by have:=uK.out;have:=Qs.out;have:=rF.out;have:=HK4.out;omega⟩,⟨by (with_reducible repeat (first | apply Kd.vR | apply Kd.vS | apply Kd.vZ));exact Kd.pQ (Kd.gF (p:=⟨z8,5,none⟩) (Kd.pQ y9.out (fun k_ hk=>(⟨hk,hk.1.2.2⟩:_ ∧ k_ ≠ z8))) (fun _ hk=>hk.2) (.slice zZd zje.length zZe)) (fun _ hk=>⟨hk.1.1.1,⟨hk.1.1.2.1,⟨hk.1.2,hk.1.1.2.2⟩⟩⟩)⟩,⟨by (with_reducible repeat (first | apply Kd.Ym | apply Kd.Yn | apply Kd.uw));exact Kd.uy (Kd.Z7 (p:=⟨z8,5,none⟩) (Kd.Zc vV.out yM.out (by decide)) (fun _ hk=>hk.2) (.slice zZd zje.length zZe)) (fun _ hk=>trivial)⟩,⟨by (with_reducible repeat (first | apply Kd.Ym | apply Kd.Yn | apply Kd.uw));exact Kd.uy (Kd.Z7 (p:=⟨z8,5,none⟩) (Kd.Zc uU.out yM.out (by decide)) (fun _ hk=>hk.2) (.slice zZd zje.length zZe)) (fun _ hk=>trivial)⟩,⟨by (with_reducible repeat (first | apply Kd.Ym | apply Kd.Yn | apply Kd.uw));exact Kd.uy (Kd.Z7 (p:=⟨z8,5,none⟩) (Kd.Zc zfq.out yM.out (by decide)) (fun _ hk=>hk.2) (.slice zZd zje.length zZe)) (fun _ hk=>trivial)⟩,⟨by (with_reducible repeat (first | refine jE ?_ _ | refine xV ?_ | refine qx ?_ _));refine vC (cs:=#[.string ((zK l0 zJ).f0),.bool ((zK l0 zJ).f1),.int .i64 ((zK l0 zJ).f2),jR,pR,QW]) ?_ 5 _ rfl;(with_reducible repeat (first | refine jE ?_ _ | refine xV ?_ | refine qx ?_ _));exact yM.out⟩,⟨zG HB.out⟩⟩
                     ·rw [if_neg c34] at H
                      exact absurd H (by simp)
                    ·rw [if_neg J9] at H
                     exact absurd H (by simp)
                   ·rw [if_neg c32] at H
                    have zfz:decide (uF < (((zK l0 zJ).f5).length:Int)) = false:=decide_eq_false c32
                    clear c32
                    by_cases c39:qX.length < 1353245080339
                    ·rw [if_pos c39] at H
                     have zn0:=zx.mk c39
                     clear c39
                     obtain ⟨zlB,zvg⟩:∃ y_:List (jC),y_ = (qX ++ [(⟨((zK l0 zJ).f0),((zK l0 zJ).f1),((zK l0 zJ).f2),jI,kN,pU⟩:jC)]):=⟨_,rfl⟩
                     replace H:(zl.l0 k4 l0 zlB (wrap64 (zJ + 1))) = some r:=by first | (rw [zvg];with_reducible exact H) | (have jH:=(Option.bind_some _ _).symm.trans H;rw [zvg];with_reducible exact jH) | (have jH:=(Option.bind_some _ _).symm.trans H;with_reducible exact jH) | with_reducible exact H | (rw [zvg];exact H) | exact H
                     have zn1:=zx.mk zvg
                     clear zvg
                     have H':=zx.mk H
                     clear H
                     have zjf:0 ≤ (zJ:Int):=of_decide_eq_true yF
                     have zjg:zJ < (l0.length:Int):=of_decide_eq_true yF
                     obtain ⟨zWV,zlo,zlp,zlr,zls,zlt,zlu,e272,bJ,bV,bK,bY,bW,bf,iE,iF,iG,iH,iI,iL⟩:=kT ji.out zJ zjf zjg
                     obtain rfl:yI = zWV:=(by injection e272)
                     replace bJ:=(HB.out.cell (wb w _ bJ)).trans bJ
                     replace bV:=(HB.out.cell (wb w _ bV)).trans bV
                     replace bK:=(HB.out.cell (wb w _ bK)).trans bK
                     replace bY:=(HB.out.cell (wb w _ bY)).trans bY
                     replace bW:=(HB.out.cell (wb w _ bW)).trans bW
                     replace bf:=(HB.out.cell (wb w _ bf)).trans bf
                     have zg1:=zx.mk iF
                     have zg2:=zx.mk iE
                     clear iF iE
                     have zg3:=zx.mk iH
                     have zg4:=zx.mk iG
                     clear iH iG
                     have zg5:=zx.mk iL
                     have zg6:=zx.mk iI
                     clear iL iI
                     replace zjf:=eq_true zjf
                     replace zjg:=eq_true zjg
                     have zhj:wr.cell? ⟨z8,0,none⟩ = some (.string ((zK l0 zJ).f0)):=zw yM 0
                     have zhv:wr.cell? ⟨z8,1,none⟩ = some (.bool ((zK l0 zJ).f1)):=zw yM 1
                     have zhk:wr.cell? ⟨z8,2,none⟩ = some (.int .i64 ((zK l0 zJ).f2)):=zw yM 2
                     have zhy:wr.cell? ⟨z8,3,none⟩ = some (jR):=zw yM 3
                     have zhw:wr.cell? ⟨z8,4,none⟩ = some (pR):=zw yM 4
                     have zhZ:wr.cell? ⟨z8,5,none⟩ = some (QW):=zw yM 5
                     have zhQ:=zy yM.out 0
                     have zhX:=zy yM.out 1
                     have zhJ:=zy yM.out 2
                     have zhV:=zy yM.out 3
                     have zhK:=zy yM.out 4
                     have zhY:=zy yM.out 5
                     obtain ⟨zkD,zkE,zdW⟩:=Kd.vw vV.out
                     subst zdW
                     obtain ⟨zZf,zZg,zda⟩:=Kd.vw uU.out
                     subst zda
                     obtain ⟨zZh,zZi,zdb⟩:=Kd.vw p8.out
                     subst zdb
                     go_wp2_with (first | ((with_reducible refine Zp (b:=.append) (xs:=#[.tmp 151,.tmp 153]) rfl ?_);at_builtin;refine Kd.zwt Wj (w0:=w) w.heap.size rfl (.tmp 151) (.tmp 153) 39 101 (.agg #[(.string ⟨#[]⟩),(.bool false),(.int .i64 0),(.slice none 0 0),(.slice none 0 0),(.slice none 0 0)]) 104 rfl Tryz.underlying39 zfL rfl (by decide) (by omega) u3 qX (⟨((zK l0 zJ).f0),((zK l0 zJ).f1),((zK l0 zJ).f2),jI,kN,pU⟩:jC) [.string ((zK l0 zJ).f0),.bool ((zK l0 zJ).f1),.int .i64 ((zK l0 zJ).f2),.slice zkD jI.length zkE,.slice zZf kN.length zZg,.slice zZh pU.length zZi] (fun k_=>k_ ≠ z8) (fun k_=>some k_ = (.slice zkD jI.length zkE:Value).ownBlock ∨ some k_ = (.slice zZf kN.length zZg:Value).ownBlock ∨ some k_ = (.slice zZh pU.length zZi:Value).ownBlock) rfl rfl ?aP (fun k_ uJ=>uJ.elim (fun h_=>((Kd.uy (ok':=fun k_=>((fun k_=>k_ ≠ z8)) k_ ∧ some k_ ≠ (u3:Value).ownBlock) (Kd.Zc (Kd.V3 (vV.out) (Kd.XL y9.out) (by decide)) yM.out (by decide)) (fun k_ hk=>⟨hk.2,hk.1.2⟩))).1 k_ h_.symm) (fun h_=>h_.elim (fun h_=>((Kd.uy (ok':=fun k_=>((fun k_=>k_ ≠ z8)) k_ ∧ some k_ ≠ (u3:Value).ownBlock) (Kd.Zc (Kd.V3 (uU.out) (Kd.XL y9.out) (by decide)) yM.out (by decide)) (fun k_ hk=>⟨hk.2,hk.1.2⟩))).1 k_ h_.symm) (fun h_=>((Kd.uy (ok':=fun k_=>((fun k_=>k_ ≠ z8)) k_ ∧ some k_ ≠ (u3:Value).ownBlock) (Kd.Zc (Kd.V3 (p8.out) (Kd.XL y9.out) (by decide)) yM.out (by decide)) (fun k_ hk=>⟨hk.2,hk.1.2⟩))).1 k_ h_.symm))) ?aF ?aO ?aB ?aS ?aL ?_;(case aP=>exact zcp _ _ _ (⟨((zK l0 zJ).f0),((zK l0 zJ).f1),((zK l0 zJ).f2),jI,kN,pU⟩:jC) (Kd.uy (Kd.zq9 rfl (Kd.uy (ok':=fun k_=>((fun k_=>k_ ≠ z8)) k_ ∧ some k_ ≠ (u3:Value).ownBlock) (Kd.Zc (Kd.V3 (vV.out) (Kd.XL y9.out) (by decide)) yM.out (by decide)) (fun k_ hk=>⟨hk.2,hk.1.2⟩))) (fun _ h_=>Or.inl h_)) (Kd.uy (Kd.zq9 rfl (Kd.uy (ok':=fun k_=>((fun k_=>k_ ≠ z8)) k_ ∧ some k_ ≠ (u3:Value).ownBlock) (Kd.Zc (Kd.V3 (uU.out) (Kd.XL y9.out) (by decide)) yM.out (by decide)) (fun k_ hk=>⟨hk.2,hk.1.2⟩))) (fun _ h_=>Or.inr (Or.inl h_))) (Kd.uy (Kd.zq9 rfl (Kd.uy (ok':=fun k_=>((fun k_=>k_ ≠ z8)) k_ ∧ some k_ ≠ (u3:Value).ownBlock) (Kd.Zc (Kd.V3 (p8.out) (Kd.XL y9.out) (by decide)) yM.out (by decide)) (fun k_ hk=>⟨hk.2,hk.1.2⟩))) (fun _ h_=>Or.inr (Or.inr (h_)))));(case aB=>exact (zG HB.out));(case aF=>exact (fun k_ hk=>Kd.Z4 (g:=z8) (o:=.cells #[.string ((zK l0 zJ).f0),.bool ((zK l0 zJ).f1),.int .i64 ((zK l0 zJ).f2),.slice zkD jI.length zkE,.slice zZf kN.length zZg,.slice zZh pU.length zZi] 101 (0,0)) (qV yM.out) k_ hk));(case aO=>exact (by (with_reducible repeat (first | apply Kd.vR | apply Kd.vS | apply Kd.vZ));exact Kd.pQ y9.out (fun k_ hk=>⟨hk.2.2.2,fun e_=>e_.elim (fun h_=>hk.1 h_) (fun h_=>h_.elim (fun h_=>hk.2.1 h_) (fun h_=>hk.2.2.1 h_))⟩)));(case aS=>exact (zf (zG HB.out)));(case aL=>have:=zn0.out;omega);intro zEt w41 ho hb hg hat;rw [← zn1.out] at ho;have zW:=zx.mk (uL (g:=z8) (o:=.cells #[.string ((zK l0 zJ).f0),.bool ((zK l0 zJ).f1),.int .i64 ((zK l0 zJ).f2),.slice zkD jI.length zkE,.slice zZf kN.length zZg,.slice zZh pU.length zZi] 101 (0,0)) (qV yM.out) hg (Kd.zit y9.out (fun _ hk=>hk.2.2.2)));have zh:=zx.mk (hb);have zo:=zx.mk (ho);clear yM;clear HB;clear y9;clear vV;clear uU;clear p8;have yM:=zW;have HB:=zh;have zn2:=zo;clear zW zh zo;clear ho hb hg hat))
                     go_roundg k4
                     case measure=>have:=uK.out;have:=Qs.out;have:=rF.out;have:=HK4.out;omega
                     case rel=>exact ⟨(zlB),(wrap64 (zJ + 1)),(by first | rfl | (simp;done) | (simp [*];done)),H',⟨by have:=uK.out;have:=Qs.out;have:=rF.out;have:=HK4.out;omega⟩,⟨by (with_reducible repeat (first | apply Kd.vR | apply Kd.vS | apply Kd.vZ));exact Kd.pQ zn2.out (fun _ hk=>trivial)⟩,⟨zG HB.out⟩⟩
                    ·rw [if_neg c39] at H
                     exact absurd H (by simp)
                  ·rw [if_neg c31] at H
                   exact absurd H (by simp)
                 ·rw [if_neg gD] at H
                  exact absurd H (by simp)
             ·rw [if_neg c22] at H
              exact absurd H (by simp)
            ·rw [if_neg c21] at H
             exact absurd H (by simp)
        ·rw [if_neg c13] at H
         exact absurd H (by simp)
       ·rw [if_neg c12] at H
        exact absurd H (by simp)
    ·rw [if_neg c3] at H
     exact absurd H (by simp)
   ·rw [if_neg c2] at H
    have rE:decide (zJ < (l0.length:Int)) = false:=decide_eq_false c2
    clear c2
    obtain rfl:=Option.some.inj H
    go_wp2
    go_ret
    exact ⟨_,by first | rfl | (simp [zH,zI] <;> rfl) | (simp [*,zH,zI] <;> rfl),by (with_reducible repeat (first | apply Kd.vR | apply Kd.vS | apply Kd.vZ));exact y9.out,by repeat (first | (with_reducible first | exact HB.out | apply yX | apply zL | apply zR) | exact HB.out)⟩
end Go.Proofs.YtggifbbiiickmaaGreatDoor.PX
namespace Go.Proofs.YtggifbbiiickmaaGreatDoor.PX
open Go.RowKit Go.Proofs.zk.zu Go.Proofs.zk.yD Go.Proofs.zk.yA
attribute [local go_sem] xP xR vG vH xB xC xS xU   -- for this text's walks alone
set_option linter.unusedVariables false
set_option linter.unusedSimpArgs false
def qI.l0:Nat → List (jC) → Int → Option (Bool)
 | 0,_,_=>none
 | k + 1,x0,x3=>if x3 < (x0.length:Int) then (if 0 ≤ x3 then ((xJ.f ((zZ x0 x3).f0) ((zZ x0 x3).f1) ((zZ x0 x3).f2) ((zZ x0 x3).f3) ((zZ x0 x3).f4) ((zZ x0 x3).f5)).bind fun zWK=>(if zWK = true then (qI.l0 k x0 (wrap64 (x3 + 1))) else (some false))) else (none)) else (some true)
def qI.f (k:Nat) (l0:List (jC)):Option (Bool):=qI.l0 k l0 0
set_option maxHeartbeats 8000000 in
set_option maxRecDepth 100000 in
theorem qI.calls (k:Nat) (A0:Option Addr) (c0:Nat) (l0:List (jC)) (r:Bool) (w:World) (hr0:Kd.C Wj w A0 l0.length l0) (hc0:l0.length ≤ c0) (h:qI.f k l0 = some r) :
  Calls Tryz.prog 47 #[.slice A0 l0.length c0] w fun e w'=>e = .returned (.bool r) ∧ Below w.heap.size w w':=by
 have VH:=Tryz.underlying101
 have ji:=zx.mk hr0
 have Vm:=zx.mk hc0
 clear hr0 hc0
 have HB:=zx.mk (Below.refl w.heap.size w)
 have H:(qI.l0 k l0 0) = some r:=h
 clear h
 have H':=zx.mk H
 clear H
 go_enter Tryz.func47,Tryz.ntmps47
 go_wp2
 go_loopg [3] k (fun kq v3 w'=>∃ (qX:Int),v3 = .int .i64 qX ∧ zx (qI.l0 kq l0 qX = some r) ∧ zx (kq ≤ k) ∧ zx (Below w.heap.size w w'))
 case atStart=>exact ⟨(0),(by first | rfl | (simp;done) | (simp [*];done)),H',⟨Nat.le_refl _⟩,⟨zG HB.out⟩⟩
 case round =>
  clear H'
  obtain ⟨qX,rfl,HA,uK,HB⟩:=hrel
  cases gk with
  | zero=>exact absurd HA.out (by simp [qI.l0])
  | succ k1 =>
   have H:=HA.out
   clear HA
   simp only [qI.l0] at H
   by_cases c2:qX < (l0.length:Int)
   ·rw [if_pos c2] at H
    have rE:decide (qX < (l0.length:Int)) = true:=decide_eq_true c2
    clear c2
    by_cases c3:0 ≤ qX
    ·rw [if_pos c3] at H
     have ZR:decide (0 ≤ qX) = true:=decide_eq_true c3
     clear c3
     replace H:=Option.bind_eq_some_iff.mp H
     obtain ⟨zWK,gW,H⟩:=H
     replace H:(if zWK = true then (qI.l0 k1 l0 (wrap64 (qX + 1))) else (some false)) = some r:=H
     have A4:=zx.mk gW
     clear gW
     by_cases c5:zWK = true
     ·subst c5
      have H1:(qI.l0 k1 l0 (wrap64 (qX + 1))) = some r:=by rw [if_pos rfl] at H;exact H
      clear H
      have H:=H1
      clear H1
      have H':=zx.mk H
      clear H
      have zjh:0 ≤ (qX:Int):=of_decide_eq_true yF
      have zji:qX < (l0.length:Int):=of_decide_eq_true yF
      obtain ⟨zn3,zZl,zZm,zZn,zZo,zZp,zZr,zdc,bB,bD,bE,bG,bH,bI,lF,lG,lH,lI,lM,lN⟩:=Ze ji.out qX zjh zji
      cases zdc
      replace bB:=(HB.out.cell (World.block_lt_of_cell? w _ bB)).trans bB
      replace bD:=(HB.out.cell (World.block_lt_of_cell? w _ bD)).trans bD
      replace bE:=(HB.out.cell (World.block_lt_of_cell? w _ bE)).trans bE
      replace bG:=(HB.out.cell (World.block_lt_of_cell? w _ bG)).trans bG
      replace bH:=(HB.out.cell (World.block_lt_of_cell? w _ bH)).trans bH
      replace bI:=(HB.out.cell (World.block_lt_of_cell? w _ bI)).trans bI
      have zkF:=zx.mk lG
      have zkG:=zx.mk lF
      clear lG lF
      have zkH:=zx.mk lI
      have zkI:=zx.mk lH
      clear lI lH
      have zkL:=zx.mk lN
      have zkM:=zx.mk lM
      clear lN lM
      replace zjh:=eq_true zjh
      replace zji:=eq_true zji
      go_wp2_with (first | ((with_reducible refine yE (f:=106) rfl ?_);refine jg (some 14) Tryz.func106 #[.agg #[.string ((zZ l0 qX).f0),.bool ((zZ l0 qX).f1),.int .i64 ((zZ l0 qX).f2),.slice zZl ((zZ l0 qX).f3).length zZm,.slice zZn ((zZ l0 qX).f4).length zZo,.slice zZp ((zZ l0 qX).f5).length zZr]] ?_;(with_reducible refine (xJ.calls ((zZ l0 qX).f0) ((zZ l0 qX).f1) ((zZ l0 qX).f2) _ _ ((zZ l0 qX).f3) _ _ ((zZ l0 qX).f4) _ _ ((zZ l0 qX).f5) true _ ?yc ?yG ?qZ ?qQ ?qB ?qC A4.out).mono ?_);(case yc=>exact qY (Kd.zm zkF.out HB.out));(case yG=>exact zkG.out);(case qZ=>exact qY (Kd.zm zkH.out HB.out));(case qQ=>exact zkI.out);(case qB=>exact qY (Kd.zm zkL.out HB.out));(case qC=>exact zkM.out);rintro e w6 ⟨rfl,hb⟩;refine ⟨_,rfl,?_⟩;have zW:=zx.mk (zC (zG HB.out) hb);clear HB;have HB:=zW;clear zW;(try clear hb);(try clear hi)))
      go_roundg k1
      case measure=>have:=uK.out;omega
      case rel=>exact ⟨(wrap64 (qX + 1)),(by first | rfl | (simp;done) | (simp [*];done)),H',⟨by have:=uK.out;omega⟩,⟨zG HB.out⟩⟩
     ·replace c5:=Bool.eq_false_iff.mpr c5
      subst c5
      have H1:(some false) = some r:=by rw [if_neg (show ¬ (false = true) by decide)] at H;exact H
      clear H
      have H:=H1
      clear H1
      obtain rfl:=Option.some.inj H
      have zjh:0 ≤ (qX:Int):=of_decide_eq_true yF
      have zji:qX < (l0.length:Int):=of_decide_eq_true yF
      obtain ⟨zn3,zZl,zZm,zZn,zZo,zZp,zZr,zdc,bB,bD,bE,bG,bH,bI,lF,lG,lH,lI,lM,lN⟩:=Ze ji.out qX zjh zji
      cases zdc
      replace bB:=(HB.out.cell (World.block_lt_of_cell? w _ bB)).trans bB
      replace bD:=(HB.out.cell (World.block_lt_of_cell? w _ bD)).trans bD
      replace bE:=(HB.out.cell (World.block_lt_of_cell? w _ bE)).trans bE
      replace bG:=(HB.out.cell (World.block_lt_of_cell? w _ bG)).trans bG
      replace bH:=(HB.out.cell (World.block_lt_of_cell? w _ bH)).trans bH
      replace bI:=(HB.out.cell (World.block_lt_of_cell? w _ bI)).trans bI
      have zkF:=zx.mk lG
      have zkG:=zx.mk lF
      clear lG lF
      have zkH:=zx.mk lI
      have zkI:=zx.mk lH
      clear lI lH
      have zkL:=zx.mk lN
      have zkM:=zx.mk lM
      clear lN lM
      replace zjh:=eq_true zjh
      replace zji:=eq_true zji
      go_wp2_with (first | ((with_reducible refine yE (f:=106) rfl ?_);refine jg (some 14) Tryz.func106 #[.agg #[.string ((zZ l0 qX).f0),.bool ((zZ l0 qX).f1),.int .i64 ((zZ l0 qX).f2),.slice zZl ((zZ l0 qX).f3).length zZm,.slice zZn ((zZ l0 qX).f4).length zZo,.slice zZp ((zZ l0 qX).f5).length zZr]] ?_;(with_reducible refine (xJ.calls ((zZ l0 qX).f0) ((zZ l0 qX).f1) ((zZ l0 qX).f2) _ _ ((zZ l0 qX).f3) _ _ ((zZ l0 qX).f4) _ _ ((zZ l0 qX).f5) false _ ?yc ?yG ?qZ ?qQ ?qB ?qC A4.out).mono ?_);(case yc=>exact qY (Kd.zm zkF.out HB.out));(case yG=>exact zkG.out);(case qZ=>exact qY (Kd.zm zkH.out HB.out));(case qQ=>exact zkI.out);(case qB=>exact qY (Kd.zm zkL.out HB.out));(case qC=>exact zkM.out);rintro e w7 ⟨rfl,hb⟩;refine ⟨_,rfl,?_⟩;have zW:=zx.mk (zC (zG HB.out) hb);clear HB;have HB:=zW;clear zW;(try clear hb);(try clear hi)))
      go_ret
      exact ⟨by first | rfl | (simp [zH,zI] <;> rfl) | (simp [*,zH,zI] <;> rfl),by repeat (first | (with_reducible first | exact HB.out | apply yX | apply zL | apply zR) | exact HB.out)⟩
    ·rw [if_neg c3] at H
     exact absurd H (by simp)
   ·rw [if_neg c2] at H
    have rE:decide (qX < (l0.length:Int)) = false:=decide_eq_false c2
    clear c2
    obtain rfl:=Option.some.inj H
    go_wp2
    go_ret
    exact ⟨by first | rfl | (simp [zH,zI] <;> rfl) | (simp [*,zH,zI] <;> rfl),by repeat (first | (with_reducible first | exact HB.out | apply yX | apply zL | apply zR) | exact HB.out)⟩
end Go.Proofs.YtggifbbiiickmaaGreatDoor.PX
namespace Go.Proofs.YtggifbbiiickmaaGreatDoor.PX
open Go.RowKit Go.Proofs.zk.zu Go.Proofs.zk.yD Go.Proofs.zk.yA
attribute [local go_sem] xP xR vG vH xB xC xS xU   -- for this text's walks alone
set_option linter.unusedVariables false
set_option linter.unusedSimpArgs false
def qy.l0:Nat → ByteArray → Int → Option (Bool)
 | 0,_,_=>none
 | k + 1,x0,x3=>if x3 < (x0.size:Int) then (if 0 ≤ x3 then (if (bt x0 x3) < 33 then (some false) else (if (bt x0 x3) > 126 then (some false) else (qy.l0 k x0 (wrap64 (x3 + 1))))) else (none)) else (if (x0.size:Int) ≥ 1 then (some (decide ((x0.size:Int) ≤ 10))) else (some false))
def qy.f (k:Nat) (a0:ByteArray):Option (Bool):=qy.l0 k a0 0
set_option maxHeartbeats 8000000 in
set_option maxRecDepth 100000 in
theorem qy.calls (k:Nat) (a0:ByteArray) (r:Bool) (w:World) (h:qy.f k a0 = some r) :
  Calls Tryz.prog 49 #[.string a0] w fun e w'=>e = .returned (.bool r) ∧ yt w w':=by
 have H:(qy.l0 k a0 0) = some r:=h
 clear h
 have H':=zx.mk H
 clear H
 go_enter Tryz.func49,Tryz.ntmps49
 go_wp2
 go_loopg [3] k (fun kq v3 w'=>∃ (qX:Int),v3 = .int .i64 qX ∧ zx (qy.l0 kq a0 qX = some r) ∧ zx (kq ≤ k) ∧ yt w w')
 case atStart=>exact ⟨(0),(by first | rfl | (simp;done) | (simp [*];done)),H',⟨Nat.le_refl _⟩,by repeat (first | exact yt.refl _ | apply yt.step)⟩
 case round =>
  clear H'
  obtain ⟨qX,rfl,HA,uK,⟨m1,rfl⟩⟩:=hrel
  cases gk with
  | zero=>exact absurd HA.out (by simp [qy.l0])
  | succ k1 =>
   have H:=HA.out
   clear HA
   simp only [qy.l0] at H
   by_cases c2:qX < (a0.size:Int)
   ·rw [if_pos c2] at H
    have rE:decide (qX < (a0.size:Int)) = true:=decide_eq_true c2
    clear c2
    by_cases c3:0 ≤ qX
    ·rw [if_pos c3] at H
     have ZR:decide (0 ≤ qX) = true:=decide_eq_true c3
     clear c3
     by_cases c5:(bt a0 qX) < 33
     ·rw [if_pos c5] at H
      have pY:decide ((bt a0 qX) < 33) = true:=decide_eq_true c5
      clear c5
      obtain rfl:=Option.some.inj H
      have p4:0 ≤ (qX:Int):=of_decide_eq_true yF
      have q4:qX < (a0.size:Int):=of_decide_eq_true yF
      have hx4:=Wq a0 qX
      replace p4:=eq_true p4
      replace q4:=eq_true q4
      go_wp2
      go_ret
      exact ⟨by first | rfl | (simp;done) | (simp [*];done),by repeat (first | exact yt.refl _ | apply yt.step)⟩
     ·rw [if_neg c5] at H
      have pY:decide ((bt a0 qX) < 33) = false:=decide_eq_false c5
      clear c5
      by_cases c7:(bt a0 qX) > 126
      ·rw [if_pos c7] at H
       have Xn:decide (126 < (bt a0 qX)) = true:=decide_eq_true c7
       clear c7
       obtain rfl:=Option.some.inj H
       have p4:0 ≤ (qX:Int):=of_decide_eq_true yF
       have q4:qX < (a0.size:Int):=of_decide_eq_true yF
       have hx4:=Wq a0 qX
       replace p4:=eq_true p4
       replace q4:=eq_true q4
       have p6:0 ≤ (qX:Int):=of_decide_eq_true yF
       have q6:qX < (a0.size:Int):=of_decide_eq_true yF
       have hx6:=Wq a0 qX
       replace p6:=eq_true p6
       replace q6:=eq_true q6
       go_wp2
       go_ret
       exact ⟨by first | rfl | (simp;done) | (simp [*];done),by repeat (first | exact yt.refl _ | apply yt.step)⟩
      ·rw [if_neg c7] at H
       have Xn:decide (126 < (bt a0 qX)) = false:=decide_eq_false c7
       clear c7
       have H':=zx.mk H
       clear H
       have p4:0 ≤ (qX:Int):=of_decide_eq_true yF
       have q4:qX < (a0.size:Int):=of_decide_eq_true yF
       have hx4:=Wq a0 qX
       replace p4:=eq_true p4
       replace q4:=eq_true q4
       have p6:0 ≤ (qX:Int):=of_decide_eq_true yF
       have q6:qX < (a0.size:Int):=of_decide_eq_true yF
       have hx6:=Wq a0 qX
       replace p6:=eq_true p6
       replace q6:=eq_true q6
       go_wp2
       go_roundg k1
       case measure=>have:=uK.out;omega
       case rel=>exact ⟨(wrap64 (qX + 1)),(by first | rfl | (simp;done) | (simp [*];done)),H',⟨by have:=uK.out;omega⟩,by repeat (first | exact yt.refl _ | apply yt.step)⟩
    ·rw [if_neg c3] at H
     exact absurd H (by simp)
   ·rw [if_neg c2] at H
    have rE:decide (qX < (a0.size:Int)) = false:=decide_eq_false c2
    clear c2
    by_cases c8:(a0.size:Int) ≥ 1
    ·rw [if_pos c8] at H
     have Zt:decide (1 ≤ (a0.size:Int)) = true:=decide_eq_true c8
     have V6:decide (1 ≤ a0.size) = true:=decide_eq_true (by omega)
     clear c8
     obtain rfl:=Option.some.inj H
     go_wp2
     go_ret
     exact ⟨by first | rfl | (simp;done) | (simp [*];done),by repeat (first | exact yt.refl _ | apply yt.step)⟩
    ·rw [if_neg c8] at H
     have Zt:decide (1 ≤ (a0.size:Int)) = false:=decide_eq_false c8
     have V6:decide (1 ≤ a0.size) = false:=decide_eq_false (by omega)
     clear c8
     obtain rfl:=Option.some.inj H
     go_wp2
     go_ret
     exact ⟨by first | rfl | (simp;done) | (simp [*];done),by repeat (first | exact yt.refl _ | apply yt.step)⟩
end Go.Proofs.YtggifbbiiickmaaGreatDoor.PX
namespace Go.Proofs.YtggifbbiiickmaaGreatDoor.PX
open Go.RowKit Go.Proofs.zk.zu Go.Proofs.zk.yD Go.Proofs.zk.yA
attribute [local go_sem] xP xR vG vH xB xC xS xU   -- for this text's walks alone
set_option linter.unusedVariables false
set_option linter.unusedSimpArgs false
def qp.l0:Nat → ByteArray → List (pG) → Int → Option (ByteArray)
 | 0,_,_,_=>none
 | k + 1,x0,x1,x5=>if x5 < (x1.length:Int) then (if 0 ≤ x5 then (if ((j6 x1 x5).f0).toList = x0.toList then (some ((j6 x1 x5).f1)) else (qp.l0 k x0 x1 (wrap64 (x5 + 1)))) else (none)) else (some x0)
def qp.f (k:Nat) (a0:ByteArray) (l1:List (pG)):Option (ByteArray):=qp.l0 k a0 l1 0
set_option maxHeartbeats 8000000 in
set_option maxRecDepth 100000 in
theorem qp.calls (k:Nat) (a0:ByteArray) (A1:Option Addr) (c1:Nat) (l1:List (pG)) (r:ByteArray) (w:World) (hr1:Kd.C Xl w A1 l1.length l1) (hc1:l1.length ≤ c1) (h:qp.f k a0 l1 = some r) :
  Calls Tryz.prog 50 #[.string a0,.slice A1 l1.length c1] w fun e w'=>e = .returned (.string r) ∧ yt w w':=by
 have HR1:=zx.mk hr1
 have HC1:=zx.mk hc1
 clear hr1 hc1
 have H:(qp.l0 k a0 l1 0) = some r:=h
 clear h
 have H':=zx.mk H
 clear H
 go_enter Tryz.func50,Tryz.ntmps50
 go_wp2
 go_loopg [5] k (fun kq v5 w'=>∃ (zN:Int),v5 = .int .i64 zN ∧ zx (qp.l0 kq a0 l1 zN = some r) ∧ zx (kq ≤ k) ∧ yt w w')
 case atStart=>exact ⟨(0),(by first | rfl | (simp;done) | (simp [*];done)),H',⟨Nat.le_refl _⟩,by repeat (first | exact yt.refl _ | apply yt.step)⟩
 case round =>
  clear H'
  try clear c1
  obtain ⟨zN,rfl,HA,uK,⟨m1,rfl⟩⟩:=hrel
  cases gk with
  | zero=>exact absurd HA.out (by simp [qp.l0])
  | succ k1 =>
   have H:=HA.out
   clear HA
   simp only [qp.l0] at H
   by_cases c3:zN < (l1.length:Int)
   ·rw [if_pos c3] at H
    have ZR:decide (zN < (l1.length:Int)) = true:=decide_eq_true c3
    clear c3
    by_cases c4:0 ≤ zN
    ·rw [if_pos c4] at H
     have Z8:decide (0 ≤ zN) = true:=decide_eq_true c4
     clear c4
     by_cases c5:((j6 l1 zN).f0).toList = a0.toList
     ·rw [if_pos c5] at H
      have pY:(((j6 l1 zN).f0).toList == a0.toList) = true:=beq_iff_eq.mpr c5
      have zkv:(((j6 l1 zN).f0).toList != a0.toList) = false:=bne_eq_false_iff_eq.mpr c5
      clear c5
      obtain rfl:=Option.some.inj H
      have zjl:0 ≤ (zN:Int):=of_decide_eq_true yF
      have zjm:zN < (l1.length:Int):=of_decide_eq_true yF
      obtain ⟨zfx,zdd,zhW,zha⟩:=VB HR1.out zN zjl zjm
      cases zdd
      replace zjl:=eq_true zjl
      replace zjm:=eq_true zjm
      have zde:0 ≤ (zN:Int):=of_decide_eq_true yF
      have zdf:zN < (l1.length:Int):=of_decide_eq_true yF
      obtain ⟨zn4,zrt,zuy,zuw⟩:=VB HR1.out zN zde zdf
      obtain rfl:zfx = zn4:=(by injection zrt)
      replace zde:=eq_true zde
      replace zdf:=eq_true zdf
      go_wp2
      go_ret
      exact ⟨by first | rfl | (simp;done) | (simp [*];done),by repeat (first | exact yt.refl _ | apply yt.step)⟩
     ·rw [if_neg c5] at H
      have pY:(((j6 l1 zN).f0).toList == a0.toList) = false:=beq_eq_false_iff_ne.mpr c5
      have zkv:(((j6 l1 zN).f0).toList != a0.toList) = true:=bne_iff_ne.mpr c5
      have H':=zx.mk H
      clear H
      have zjl:0 ≤ (zN:Int):=of_decide_eq_true yF
      have zjm:zN < (l1.length:Int):=of_decide_eq_true yF
      obtain ⟨zfx,zdd,zhW,zha⟩:=VB HR1.out zN zjl zjm
      cases zdd
      replace zjl:=eq_true zjl
      replace zjm:=eq_true zjm
      go_wp2
      go_roundg k1
      case measure=>have:=uK.out;omega
      case rel=>exact ⟨(wrap64 (zN + 1)),(by first | rfl | (simp;done) | (simp [*];done)),H',⟨by have:=uK.out;omega⟩,by repeat (first | exact yt.refl _ | apply yt.step)⟩
    ·rw [if_neg c4] at H
     exact absurd H (by simp)
   ·rw [if_neg c3] at H
    have ZR:decide (zN < (l1.length:Int)) = false:=decide_eq_false c3
    clear c3
    obtain rfl:=Option.some.inj H
    go_wp2
    go_ret
    exact ⟨by first | rfl | (simp;done) | (simp [*];done),by repeat (first | exact yt.refl _ | apply yt.step)⟩
end Go.Proofs.YtggifbbiiickmaaGreatDoor.PX
namespace Go.Proofs.YtggifbbiiickmaaGreatDoor.PX
open Go.RowKit Go.Proofs.zk.zu Go.Proofs.zk.yD Go.Proofs.zk.yA
attribute [local go_sem] xP xR vG vH xB xC xS xU   -- for this text's walks alone
set_option linter.unusedVariables false
set_option linter.unusedSimpArgs false
mutual
def zU.l0:Nat → List ByteArray → List ByteArray → Int → ByteArray → Bool → Int → List (uX) → List (uG) → List (uN) → Option (List ByteArray)
 | 0,_,_,_,_,_,_,_,_,_=>none
 | k + 1,x1,x5,x6,nC,nD,nE,nG,nH,nI=>if x6 < (x1.length:Int) then (if 0 ≤ x6 then (zU.l1 k x1 x5 x6 (qb ByteArray.empty x1 x6) nC nD nE nG nH nI) else (none)) else (some x5)
def zU.l1:Nat → List ByteArray → List ByteArray → Int → ByteArray → ByteArray → Bool → Int → List (uX) → List (uG) → List (uN) → Option (List ByteArray)
 | 0,_,_,_,_,_,_,_,_,_,_=>none
 | k + 1,x1,x5,x6,x7,nC,nD,nE,nG,nH,nI=>if (wrap64 (x6 + 1)) < (x1.length:Int) then (if 0 ≤ (wrap64 (x6 + 1)) then ((kM.f k nC nD nE nG nH nI x7 (qb ByteArray.empty x1 (wrap64 (x6 + 1)))).bind fun zvh=>(if zvh.2 = true then (zU.l1 k x1 x5 (wrap64 (x6 + 1)) zvh.1 nC nD nE nG nH nI) else (if x5.length < 8796093022208 then (zU.l0 k x1 (x5 ++ [x7]) (wrap64 (x6 + 1)) nC nD nE nG nH nI) else (none)))) else (none)) else (if x5.length < 8796093022208 then (zU.l0 k x1 (x5 ++ [x7]) (wrap64 (x6 + 1)) nC nD nE nG nH nI) else (none))
end
def zU.f (k:Nat) (zD:ByteArray) (ze:Bool) (za:Int) (zn:List (uX)) (zF:List (uG)) (zY:List (uN)) (l1:List ByteArray):Option (List ByteArray):=zU.l0 k l1 ([]:List ByteArray) 0 zD ze za zn zF zY
def zU.T7:Bool × List (List Nat × List Nat):=(true,[([],[]),([],[]),([],[]),([],[]),([3],[3]),([2,4],[2,4]),([5],[5]),([0,1,6],[0,1,6]),([7],[7]),([8],[8]),([8],[8]),([9,7,0,1,2,3,4,5,6,7,8,9],[9]),([10,11,0,1,2,3,4,5,6,7,8,9,10,11],[10])])
def zU.B7:List Nat:=[0,0,0,0,8,28,60,127,255,511,511,1023,4095]
theorem zU.zjn:uj .any (opsOf Tryz.f51 7) = zU.T7:=by kernel_rfl
theorem zU.zz8:uh zU.T7.2 zU.B7 = true:=by kernel_rfl
set_option maxHeartbeats 8000000 in
set_option maxRecDepth 100000 in
theorem zU.calls (k:Nat) (zD:ByteArray) (ze:Bool) (za:Int) (yT:Option Addr) (yU:Nat) (zn:List (uX)) (y7:Option Addr) (y8:Nat) (zF:List (uG)) (yZ:Option Addr) (yQ:Nat) (zY:List (uN)) (A1:Option Addr) (c1:Nat) (l1:List ByteArray) (r:List ByteArray) (w:World) (jq:Kd.C Yi w yT zn.length zn) (jN:zn.length ≤ yU) (jO:Kd.C YE w y7 zF.length zF) (jP:zF.length ≤ y8) (jm:Kd.C YP w yZ zY.length zY) (jo:zY.length ≤ yQ) (hr1:Kd.C Kd.string w A1 l1.length l1) (hc1:l1.length ≤ c1) (h:zU.f k zD ze za zn zF zY l1 = some r) :
  Calls Tryz.prog 51 #[.agg #[.string zD,.bool ze,.int .i64 za,.slice yT zn.length yU,.slice y7 zF.length y8,.slice yZ zY.length yQ],.slice A1 l1.length c1] w fun e w'=>∃ Qo:Value,e = .returned (Qo) ∧ Kd.R Kd.string 9 w' w.heap.size (fun _=>True) Qo r ∧ Below w.heap.size w w':=by
 have VH:=Tryz.underlying101
 have jF:=zx.mk jq
 have kU:=zx.mk jN
 clear jq jN
 have jG:=zx.mk jO
 have wz:=zx.mk jP
 clear jO jP
 have uD:=zx.mk jm
 have jh:=zx.mk jo
 clear jm jo
 have HR1:=zx.mk hr1
 have HC1:=zx.mk hc1
 clear hr1 hc1
 have HB:=zx.mk (Below.refl w.heap.size w)
 have H:(zU.l0 k l1 ([]:List ByteArray) 0 zD ze za zn zF zY) = some r:=h
 clear h
 have H':=zx.mk H
 clear H
 go_enter Tryz.func51,Tryz.ntmps51
 go_wp2_with (first | ((with_reducible refine qA (N:=2) rfl ?_);refine qH ?hg (N:=2) ?hd (cs:=#[.string zD,.bool ze,.int .i64 za,.slice yT zn.length yU,.slice y7 zF.length y8,.slice yZ zY.length yQ]) (t:=101) ?hr ?_;(case hd=>rfl);(case hg=>rfl);(case hr=>first | (go_simp;done) | (go_simp;rfl));intro ZH hg w3 qd hb;have zW:=zx.mk (zC (zG HB.out) hb);have zh:=zx.mk (qd);have zo:=zx.mk ((by rw [hg];exact (zf (zG HB.out)):w.heap.size ≤ ZH));have zM:=zx.mk ((by rw [hg];exact (zf (zG HB.out)):w.heap.size ≤ ZH));clear HB;have HB:=zW;have vF:=zh;have zDA:=zo;have zn5:=zM;clear zW zh zo zM;clear hb qd hg))
 go_loopg [5,6] k (fun kq v5 v6 w'=>∃ (zN:List ByteArray) (bL:Int),v6 = .int .i64 bL ∧ zx (zU.l0 kq l1 zN bL zD ze za zn zF zY = some r) ∧ zx (kq ≤ k) ∧ zx (Kd.R Kd.string 9 w' w.heap.size (fun _=>True) v5 zN) ∧ zx (w'.heap[ZH]? = some (.cells #[.string zD,.bool ze,.int .i64 za,(.slice yT zn.length yU),(.slice y7 zF.length y8),(.slice yZ zY.length yQ)] 101 (0,0))) ∧ zx (Below w.heap.size w w'))
 case atStart=>exact ⟨(([]:List ByteArray)),(0),(by first | rfl | (simp;done) | (simp [*];done)),H',⟨Nat.le_refl _⟩,⟨by first | exact Kd.jf _ _ _ _ _ | exact Kd.YI _ _ _ _ _ | exact Kd.YL _ _ _ _ _ | exact Kd.YH _ _ _ _ _ | exact Kd.Yp _ _ _ _ _⟩,⟨qV vF.out⟩,⟨zG HB.out⟩⟩
 case round =>
  clear H'
  try clear c1
  obtain ⟨zN,bL,rfl,HA,uK,Yx,vF,HB⟩:=hrel
  cases gk with
  | zero=>exact absurd HA.out (by simp [zU.l0])
  | succ k1 =>
   have H:=HA.out
   clear HA
   simp only [zU.l0] at H
   by_cases c4:bL < (l1.length:Int)
   ·rw [if_pos c4] at H
    have Z8:decide (bL < (l1.length:Int)) = true:=decide_eq_true c4
    clear c4
    by_cases c5:0 ≤ bL
    ·rw [if_pos c5] at H
     have pY:decide (0 ≤ bL) = true:=decide_eq_true c5
     clear c5
     have H':=zx.mk H
     clear H
     have zWY:0 ≤ (bL:Int):=of_decide_eq_true yF
     have zWW:bL < (l1.length:Int):=of_decide_eq_true yF
     obtain ⟨zwd,zru,zxZ⟩:=Kd.uQ HR1.out bL zWY zWW
     cases zru
     replace zxZ:=(HB.out.cell (World.block_lt_of_cell? w _ zxZ)).trans zxZ
     replace zWY:=eq_true zWY
     replace zWW:=eq_true zWW
     go_wp2
     go_loopg [6,7] k1 (fun kq v6 v7 w'=>∃ (jD:Int) (Qt:ByteArray),v6 = .int .i64 jD ∧ v7 = .string Qt ∧ zx (zU.l1 kq l1 zN jD Qt zD ze za zn zF zY = some r) ∧ zx (kq ≤ k1) ∧ zx (Kd.R Kd.string 9 w' w.heap.size (fun _=>True) u5 zN) ∧ zx (w'.heap[ZH]? = some (.cells #[.string zD,.bool ze,.int .i64 za,(.slice yT zn.length yU),(.slice y7 zF.length y8),(.slice yZ zY.length yQ)] 101 (0,0))) ∧ zx (Below w.heap.size w w'))
     case atStart=>exact ⟨(bL),(qb ByteArray.empty l1 bL),(by first | rfl | (simp;done) | (simp [*];done)),(by first | rfl | (simp;done) | (simp [*];done)),H',⟨Nat.le_refl _⟩,⟨vQ Yx.out⟩,⟨qV vF.out⟩,⟨zG HB.out⟩⟩
     case round =>
      clear H'
      try clear c1
      try clear c4
      try clear Z8
      try clear c5
      try clear pY
      try clear zxZ
      try clear zWY
      try clear zWW
      obtain ⟨jD,Qt,rfl,rfl,HA,Qs,Yx,vF,HB⟩:=hrel
      cases gk with
      | zero=>exact absurd HA.out (by simp [zU.l1])
      | succ k2 =>
       have H:=HA.out
       clear HA
       simp only [zU.l1] at H
       by_cases c6:(wrap64 (jD + 1)) < (l1.length:Int)
       ·rw [if_pos c6] at H
        have wP:decide ((wrap64 (jD + 1)) < (l1.length:Int)) = true:=decide_eq_true c6
        clear c6
        obtain ⟨YG,zqp⟩:∃ j_:Int,(wrap64 (jD + 1)) = j_:=⟨_,rfl⟩
        replace H:(if 0 ≤ (YG) then ((kM.f k2 zD ze za zn zF zY Qt (qb ByteArray.empty l1 (YG))).bind fun zvh=>(if zvh.2 = true then (zU.l1 k2 l1 zN YG zvh.1 zD ze za zn zF zY) else (if zN.length < 8796093022208 then (zU.l0 k2 l1 (zN ++ [Qt]) YG zD ze za zn zF zY) else (none)))) else (none)) = some r:=by first | (rw [zqp] at H;exact H) | (simp only [zqp] at H ⊢;exact H)
        (try rw [zqp] at wP)
        have zDB:(IntKind.i64.wrap (jD + 1)) = YG:=(vU _).trans zqp
        by_cases c8:0 ≤ (YG)
        ·rw [if_pos c8] at H
         have Zt:decide (0 ≤ (YG)) = true:=decide_eq_true c8
         clear c8
         replace H:=Option.bind_eq_some_iff.mp H
         obtain ⟨⟨t148,zlC⟩,A90,H⟩:=H
         replace H:(if zlC = true then (zU.l1 k2 l1 zN YG t148 zD ze za zn zF zY) else (if zN.length < 8796093022208 then (zU.l0 k2 l1 (zN ++ [Qt]) YG zD ze za zn zF zY) else (none))) = some r:=H
         have A9:=zx.mk A90
         clear A90
         by_cases c10:zlC = true
         ·subst c10
          have H1:(zU.l1 k2 l1 zN YG t148 zD ze za zn zF zY) = some r:=by rw [if_pos rfl] at H;exact H
          clear H
          have H:=H1
          clear H1
          have H':=zx.mk H
          clear H
          try go_wp2
          have zW:=zx.mk (Kd.uw Yx.out)
          have zh:=zx.mk (xV vF.out)
          have zo:=zx.mk (zR HB.out)
          clear Yx vF HB
          have Yx:=zW
          have vF:=zh
          have HB:=zo
          clear zW zh zo
          have zjo:0 ≤ ((YG):Int):=of_decide_eq_true yF
          have zjr:(YG) < (l1.length:Int):=of_decide_eq_true yF
          obtain ⟨zWa,zdg,Y5⟩:=Kd.uQ HR1.out (YG) zjo zjr
          have QO:=Y5
          obtain rfl:zwd = zWa:=(by injection zdg)
          replace Y5:=(HB.out.cell (World.block_lt_of_cell? w _ Y5)).trans Y5
          replace zjo:=eq_true zjo
          replace zjr:=eq_true zjr
          refine jr (n:=13) (S:=fun w'=>w'.cell? ⟨ZH,0,none⟩ = some (.string zD) ∧ w'.cell? ⟨ZH,1,none⟩ = some (.bool ze) ∧ w'.cell? ⟨ZH,2,none⟩ = some (.int .i64 za) ∧ w'.cell? ⟨ZH,3,none⟩ = some (.slice yT zn.length yU) ∧ w'.cell? ⟨ZH,4,none⟩ = some (.slice y7 zF.length y8) ∧ w'.cell? ⟨ZH,5,none⟩ = some (.slice yZ zY.length yQ) ∧ w'.cell? (zwd.add ((YG)).toNat) = some (.string (qb ByteArray.empty l1 (YG)))) (ds:=[]) #[false,false,false,false,false,false,false,false,false,false,false,false,false] (by kernel_rfl) rfl rfl ⟨zw vF 0,zw vF 1,zw vF 2,zw vF 3,zw vF 4,zw vF 5,((HB.out.cell (World.block_lt_of_cell? w _ QO)).trans QO)⟩ (fun hHeld=>?_);refine uT zU.zjn zU.zz8 (fun zi vD=>?_)
          generalize wr.drew = w11 at Yx vF HB Y5 hHeld ⊢
          refine yu 1 (some 27) zi ?_
          refine yu 2 (some 28) zi ?_
          refine yu 3 (some 29) zi ?_
          refine yu 4 (some 30) zi ?_
          refine yu 5 (some 31) zi ?_
          refine jK 0 (some 26) zi vD hHeld ?_
          refine jK 6 (some 32) zi vD hHeld ?_
          refine Zr 7 (some 33) zi (fun K hK=>?_)
          refine wS Tryz.func107 (by kernel_rfl) rfl #[.agg #[.string zD,.bool ze,.int .i64 za,.slice yT zn.length yU,.slice y7 zF.length y8,.slice yZ zY.length yQ],.string Qt,.string (qb ByteArray.empty l1 (YG))] (by rfl) rfl rfl (by (try simp only [List.map_toArray,List.map_cons,List.map_nil]);first | done | (simp only [zqp];rfl) | rfl | (simp only [List.length_drop,List.length_take];rfl)) ?_
          with_reducible refine (kM.calls k2 zD ze za _ _ zn _ _ zF _ _ zY Qt (qb ByteArray.empty l1 (YG)) t148 true _ ?yc ?yG ?qZ ?qQ ?qB ?qC A9.out).mono ?_
          (case yc=>exact qY (Kd.zm jF.out HB.out))
          (case yG=>exact kU.out)
          (case qZ=>exact qY (Kd.zm jG.out HB.out))
          (case qQ=>exact wz.out)
          (case qB=>exact qY (Kd.zm uD.out HB.out))
          (case qC=>exact jh.out)
          rintro e YK ⟨rfl,hb⟩
          refine ⟨_,rfl,?_⟩
          have zW:=zx.mk (Kd.xI (vQ Yx.out) hb)
          have zh:=zx.mk (yj (g:=ZH) (o:=.cells #[.string zD,.bool ze,.int .i64 za,.slice yT zn.length yU,.slice y7 zF.length y8,.slice yZ zY.length yQ] 101 (0,0)) (qV vF.out) hb)
          have zo:=zx.mk (zC (zG HB.out) hb)
          clear Yx vF HB
          have Yx:=zW
          have vF:=zh
          have HB:=zo
          clear zW zh zo
          (try clear hb)
          (try clear hk)
          refine hK.out _ _ ⟨zw vF 0,zw vF 1,zw vF 2,zw vF 3,zw vF 4,zw vF 5,((HB.out.cell (World.block_lt_of_cell? w _ QO)).trans QO)⟩ (fun hHeld=>?_)
          clear hK K
          refine ZF (some 33) ?_
          refine yu 8 (some 25) zi ?_
          refine yu 9 (some 34) zi ?_
          refine yu 10 (some 35) zi ?_
          refine yu 11 (some 8) zi ?_
          refine yu 12 (some 9) zi ?_
          refine vW (qP zi.out (by kernel_rfl)) ?_
          try go_wp2
          go_roundg k2
          case measure=>have:=uK.out;have:=Qs.out;omega
          case rel=>exact ⟨(YG),(t148),(by first | rfl | (simp;done) | (simp only [← zqp] <;> (first | rfl | simp)) | (simp [*];done)),(by first | rfl | (simp;done) | (simp [*];done)),H',⟨by have:=uK.out;have:=Qs.out;omega⟩,⟨vQ Yx.out⟩,⟨qV vF.out⟩,⟨zG HB.out⟩⟩
         ·replace c10:=Bool.eq_false_iff.mpr c10
          subst c10
          have H1:(if zN.length < 8796093022208 then (zU.l0 k2 l1 (zN ++ [Qt]) YG zD ze za zn zF zY) else (none)) = some r:=by rw [if_neg (show ¬ (false = true) by decide)] at H;exact H
          clear H
          have H:=H1
          clear H1
          by_cases c13:zN.length < 8796093022208
          ·rw [if_pos c13] at H
           have zn6:=zx.mk c13
           clear c13
           obtain ⟨y150,hy150⟩:∃ y_:List ByteArray,y_ = (zN ++ [Qt]):=⟨_,rfl⟩
           replace H:(zU.l0 k2 l1 y150 YG zD ze za zn zF zY) = some r:=by first | (rw [hy150];with_reducible exact H) | (have jH:=(Option.bind_some _ _).symm.trans H;rw [hy150];with_reducible exact jH) | (have jH:=(Option.bind_some _ _).symm.trans H;with_reducible exact jH) | with_reducible exact H | (rw [hy150];exact H) | exact H
           have zn7:=zx.mk hy150
           clear hy150
           have H':=zx.mk H
           clear H
           try go_wp2
           have zW:=zx.mk (Kd.uw Yx.out)
           have zh:=zx.mk (xV vF.out)
           have zo:=zx.mk (zR HB.out)
           clear Yx vF HB
           have Yx:=zW
           have vF:=zh
           have HB:=zo
           clear zW zh zo
           have zjo:0 ≤ ((YG):Int):=of_decide_eq_true yF
           have zjr:(YG) < (l1.length:Int):=of_decide_eq_true yF
           obtain ⟨zWa,zdg,Y5⟩:=Kd.uQ HR1.out (YG) zjo zjr
           have QO:=Y5
           obtain rfl:zwd = zWa:=(by injection zdg)
           replace Y5:=(HB.out.cell (World.block_lt_of_cell? w _ Y5)).trans Y5
           replace zjo:=eq_true zjo
           replace zjr:=eq_true zjr
           refine jr (n:=13) (S:=fun w'=>w'.cell? ⟨ZH,0,none⟩ = some (.string zD) ∧ w'.cell? ⟨ZH,1,none⟩ = some (.bool ze) ∧ w'.cell? ⟨ZH,2,none⟩ = some (.int .i64 za) ∧ w'.cell? ⟨ZH,3,none⟩ = some (.slice yT zn.length yU) ∧ w'.cell? ⟨ZH,4,none⟩ = some (.slice y7 zF.length y8) ∧ w'.cell? ⟨ZH,5,none⟩ = some (.slice yZ zY.length yQ) ∧ w'.cell? (zwd.add ((YG)).toNat) = some (.string (qb ByteArray.empty l1 (YG)))) (ds:=[]) #[false,false,false,false,false,false,false,false,false,false,false,false,false] (by kernel_rfl) rfl rfl ⟨zw vF 0,zw vF 1,zw vF 2,zw vF 3,zw vF 4,zw vF 5,((HB.out.cell (World.block_lt_of_cell? w _ QO)).trans QO)⟩ (fun hHeld=>?_);refine uT zU.zjn zU.zz8 (fun zi vD=>?_)
           generalize wr.drew = WC at Yx vF HB Y5 hHeld ⊢
           refine yu 1 (some 27) zi ?_
           refine yu 2 (some 28) zi ?_
           refine yu 3 (some 29) zi ?_
           refine yu 4 (some 30) zi ?_
           refine yu 5 (some 31) zi ?_
           refine jK 0 (some 26) zi vD hHeld ?_
           refine jK 6 (some 32) zi vD hHeld ?_
           refine Zr 7 (some 33) zi (fun K hK=>?_)
           refine wS Tryz.func107 (by kernel_rfl) rfl #[.agg #[.string zD,.bool ze,.int .i64 za,.slice yT zn.length yU,.slice y7 zF.length y8,.slice yZ zY.length yQ],.string Qt,.string (qb ByteArray.empty l1 (YG))] (by rfl) rfl rfl (by (try simp only [List.map_toArray,List.map_cons,List.map_nil]);first | done | (simp only [zqp];rfl) | rfl | (simp only [List.length_drop,List.length_take];rfl)) ?_
           with_reducible refine (kM.calls k2 zD ze za _ _ zn _ _ zF _ _ zY Qt (qb ByteArray.empty l1 (YG)) t148 false _ ?yc ?yG ?qZ ?qQ ?qB ?qC A9.out).mono ?_
           (case yc=>exact qY (Kd.zm jF.out HB.out))
           (case yG=>exact kU.out)
           (case qZ=>exact qY (Kd.zm jG.out HB.out))
           (case qQ=>exact wz.out)
           (case qB=>exact qY (Kd.zm uD.out HB.out))
           (case qC=>exact jh.out)
           rintro e Zu ⟨rfl,hb⟩
           refine ⟨_,rfl,?_⟩
           have zW:=zx.mk (Kd.xI (vQ Yx.out) hb)
           have zh:=zx.mk (yj (g:=ZH) (o:=.cells #[.string zD,.bool ze,.int .i64 za,.slice yT zn.length yU,.slice y7 zF.length y8,.slice yZ zY.length yQ] 101 (0,0)) (qV vF.out) hb)
           have zo:=zx.mk (zC (zG HB.out) hb)
           clear Yx vF HB
           have Yx:=zW
           have vF:=zh
           have HB:=zo
           clear zW zh zo
           (try clear hb)
           (try clear hk)
           refine hK.out _ _ ⟨zw vF 0,zw vF 1,zw vF 2,zw vF 3,zw vF 4,zw vF 5,((HB.out.cell (World.block_lt_of_cell? w _ QO)).trans QO)⟩ (fun hHeld=>?_)
           clear hK K
           refine ZF (some 33) ?_
           refine yu 8 (some 25) zi ?_
           refine yu 9 (some 34) zi ?_
           refine yu 10 (some 35) zi ?_
           refine yu 11 (some 8) zi ?_
           refine yu 12 (some 9) zi ?_
           refine vW (qP zi.out (by kernel_rfl)) ?_
           try go_wp2_with (first | ((with_reducible refine Zp (b:=.append) (xs:=#[.tmp 41,.tmp 43]) rfl ?_);at_builtin;refine Kd.VU Kd.string (w0:=w) w.heap.size rfl (.tmp 41) (.tmp 43) 27 9 (.string ⟨#[]⟩) 16 rfl Tryz.underlying27 zvk rfl (by decide) (by omega) u5 zN Qt [.string Qt] (fun _=>True) (fun _=>False) rfl rfl ?aP (fun _ hk=>hk.elim) ?aF ?aO ?aB ?aS ?aL ?_;(case aP=>exact rfl);(case aB=>exact (zG HB.out));(case aF=>exact (fun _ _=>trivial));(case aO=>exact (vQ Yx.out));(case aS=>exact (zf (zG HB.out)));(case aL=>have:=zn6.out;omega);intro zEu w16 ho hb hg hat;rw [← zn7.out] at ho;have zW:=zx.mk (uL (g:=ZH) (o:=.cells #[.string zD,.bool ze,.int .i64 za,.slice yT zn.length yU,.slice y7 zF.length y8,.slice yZ zY.length yQ] 101 (0,0)) (qV vF.out) hg (Kd.Qm Yx.out vF.out (by decide)));have zh:=zx.mk (hb);have zo:=zx.mk (ho);clear vF;clear HB;clear Yx;have vF:=zW;have HB:=zh;have zn8:=zo;clear zW zh zo;clear ho hb hg hat))
           go_roundg k2
           case measure=>have:=uK.out;have:=Qs.out;omega
           case rel=>exact ⟨(y150),(YG),(by first | rfl | (simp;done) | (simp only [← zqp] <;> (first | rfl | simp)) | (simp [*];done)),H',⟨by have:=uK.out;have:=Qs.out;omega⟩,⟨vQ zn8.out⟩,⟨qV vF.out⟩,⟨zG HB.out⟩⟩
          ·rw [if_neg c13] at H
           exact absurd H (by simp)
        ·rw [if_neg c8] at H
         exact absurd H (by simp)
       ·rw [if_neg c6] at H
        have wP:decide ((wrap64 (jD + 1)) < (l1.length:Int)) = false:=decide_eq_false c6
        clear c6
        by_cases c17:zN.length < 8796093022208
        ·rw [if_pos c17] at H
         have zn9:=zx.mk c17
         clear c17
         obtain ⟨y153,hy153⟩:∃ y_:List ByteArray,y_ = (zN ++ [Qt]):=⟨_,rfl⟩
         replace H:(zU.l0 k2 l1 y153 (wrap64 (jD + 1)) zD ze za zn zF zY) = some r:=by first | (rw [hy153];with_reducible exact H) | (have jH:=(Option.bind_some _ _).symm.trans H;rw [hy153];with_reducible exact jH) | (have jH:=(Option.bind_some _ _).symm.trans H;with_reducible exact jH) | with_reducible exact H | (rw [hy153];exact H) | exact H
         have zoz:=zx.mk hy153
         clear hy153
         have H':=zx.mk H
         clear H
         go_wp2_with (first | ((with_reducible refine Zp (b:=.append) (xs:=#[.tmp 41,.tmp 43]) rfl ?_);at_builtin;refine Kd.VU Kd.string (w0:=w) w.heap.size rfl (.tmp 41) (.tmp 43) 27 9 (.string ⟨#[]⟩) 16 rfl Tryz.underlying27 zvk rfl (by decide) (by omega) u5 zN Qt [.string Qt] (fun _=>True) (fun _=>False) rfl rfl ?aP (fun _ hk=>hk.elim) ?aF ?aO ?aB ?aS ?aL ?_;(case aP=>exact rfl);(case aB=>exact (zG HB.out));(case aF=>exact (fun _ _=>trivial));(case aO=>exact (vQ Yx.out));(case aS=>exact (zf (zG HB.out)));(case aL=>have:=zn9.out;omega);intro v154 sZ ho hb hg hat;rw [← zoz.out] at ho;have zW:=zx.mk (uL (g:=ZH) (o:=.cells #[.string zD,.bool ze,.int .i64 za,.slice yT zn.length yU,.slice y7 zF.length y8,.slice yZ zY.length yQ] 101 (0,0)) (qV vF.out) hg (Kd.Qm Yx.out vF.out (by decide)));have zh:=zx.mk (hb);have zo:=zx.mk (ho);clear vF;clear HB;clear Yx;have vF:=zW;have HB:=zh;have zoq:=zo;clear zW zh zo;clear ho hb hg hat))
         go_roundg k2
         case measure=>have:=uK.out;have:=Qs.out;omega
         case rel=>exact ⟨(y153),(wrap64 (jD + 1)),(by first | rfl | (simp;done) | (simp [*];done)),H',⟨by have:=uK.out;have:=Qs.out;omega⟩,⟨vQ zoq.out⟩,⟨qV vF.out⟩,⟨zG HB.out⟩⟩
        ·rw [if_neg c17] at H
         exact absurd H (by simp)
    ·rw [if_neg c5] at H
     exact absurd H (by simp)
   ·rw [if_neg c4] at H
    have Z8:decide (bL < (l1.length:Int)) = false:=decide_eq_false c4
    clear c4
    obtain rfl:=Option.some.inj H
    go_wp2
    go_ret
    exact ⟨_,by first | rfl | (simp [zH,zI] <;> rfl) | (simp [*,zH,zI] <;> rfl),by (with_reducible repeat (first | apply Kd.Ym | apply Kd.Yn | apply Kd.uw));exact Yx.out,by repeat (first | (with_reducible first | exact HB.out | apply yX | apply zL | apply zR | refine qK ?_ zn5.out) | exact HB.out)⟩
end Go.Proofs.YtggifbbiiickmaaGreatDoor.PX
