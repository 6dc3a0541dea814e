/-
  Texts that lean on one another, laid in one file. No condition.
-/
import Derived.Test.YtggifbbiiickmaaGreatDoorGTX1
import Derived.Test.YtggifbbiiickmaaGreatDoorGTX5
import Derived.Test.YtggifbbiiickmaaGreatDoorGTX4
import Derived.Test.YtggifbbiiickmaaGreatDoorGTX3
import Derived.Deep.Slices
import Derived.ChangeArms
import Derived.ChangeSlices
import Derived.SizedLaws
import Derived.WideShapes
import Derived.Lib.LaidU8
import Derived.Shelf.Vars
namespace Go.Proofs.YtggifbbiiickmaaGreatDoor.PX
open Go.RowKit Go.Proofs.zk.zA Go.Proofs.zk.yB Go.Proofs.zk.yA
attribute [local go_sem] xR xS vM vN xB xC xU vv   -- for this text's walks alone
set_option linter.unusedVariables false
set_option linter.unusedSimpArgs false
mutual
def yK.j0:Nat → Bool → Int → Int → Int → Int → ByteArray → ByteArray → List Int → Int → Int → Int → Int → ByteArray → ByteArray → List Int → Option (Bool)
 | 0,_,_,_,_,_,_,_,_,_,_,_,_,_,_,_=>none
 | k + 1,x54,zv3,zv4,zv5,zv6,zv7,zv8,iY,zv9,zkz,zkq,zkx,zkj,zkv,ig=>if x54 = true then (some false) else (yK.l0 k 0 zv3 zv4 zv5 zv6 zv7 zv8 iY zv9 zkz zkq zkx zkj zkv ig)
def yK.l0:Nat → Int → Int → Int → Int → Int → ByteArray → ByteArray → List Int → Int → Int → Int → Int → ByteArray → ByteArray → List Int → Option (Bool)
 | 0,_,_,_,_,_,_,_,_,_,_,_,_,_,_,_=>none
 | k + 1,x5,zv3,zv4,zv5,zv6,zv7,zv8,iY,zv9,zkz,zkq,zkx,zkj,zkv,ig=>if x5 < (iY.length:Int) then (if 0 ≤ x5 then (if x5 < (ig.length:Int) then (if (rd iY x5) = (rd ig x5) then (yK.l0 k (wrap64 (x5 + 1)) zv3 zv4 zv5 zv6 zv7 zv8 iY zv9 zkz zkq zkx zkj zkv ig) else (some false)) else (none)) else (none)) else (some true)
end
def yK.f (k:Nat) (zB:Int) (zD:Int) (zC:Int) (vO:Int) (uM:ByteArray) (uN:ByteArray) (uy:List Int) (zl:Int) (zf:Int) (zO:Int) (zI:Int) (j6:ByteArray) (kZ:ByteArray) (jV:List Int):Option (Bool):=if zB = zl then (if zD = zf then (if zC = zO then (if vO = zI then (if uM.toList = j6.toList then (if uN.toList = kZ.toList then (yK.j0 k ((uy.length:Int) != (jV.length:Int)) zB zD zC vO uM uN uy zl zf zO zI j6 kZ jV) else (yK.j0 k true zB zD zC vO uM uN uy zl zf zO zI j6 kZ jV)) else (yK.j0 k true zB zD zC vO uM uN uy zl zf zO zI j6 kZ jV)) else (yK.j0 k true zB zD zC vO uM uN uy zl zf zO zI j6 kZ jV)) else (yK.j0 k true zB zD zC vO uM uN uy zl zf zO zI j6 kZ jV)) else (yK.j0 k true zB zD zC vO uM uN uy zl zf zO zI j6 kZ jV)) else (yK.j0 k true zB zD zC vO uM uN uy zl zf zO zI j6 kZ jV)
set_option maxHeartbeats 8000000 in
set_option maxRecDepth 100000 in
theorem yK.calls (k:Nat) (zB:Int) (zD:Int) (zC:Int) (vO:Int) (uM:ByteArray) (uN:ByteArray) (Zl:Option Addr) (Zm:Nat) (uy:List Int) (zl:Int) (zf:Int) (zO:Int) (zI:Int) (j6:ByteArray) (kZ:ByteArray) (Vv:Option Addr) (Vk:Nat) (jV:List Int) (r:Bool) (w:World) (zcS:Kd.C (Kd.int .i64) w Zl uy.length uy) (zcT:uy.length ≤ Zm) (zcU:Kd.C (Kd.int .i64) w Vv jV.length jV) (zc0:jV.length ≤ Vk) (h:yK.f k zB zD zC vO uM uN uy zl zf zO zI j6 kZ jV = some r) :
  Calls Tryz.prog 53 #[.agg #[.int .i64 zB,.int .i64 zD,.int .i64 zC,.int .i64 vO,.string uM,.string uN,.slice Zl uy.length Zm],.agg #[.int .i64 zl,.int .i64 zf,.int .i64 zO,.int .i64 zI,.string j6,.string kZ,.slice Vv jV.length Vk]] w fun e w'=>e = .returned (.bool r) ∧ Below w.heap.size w w':=by
 have zg5:=Tryz.underlying53
 have zc1:=zx.mk zcS
 have zuh:=zx.mk zcT
 clear zcS zcT
 have zc2:=zx.mk zcU
 have zui:=zx.mk zc0
 clear zcU zc0
 have HB:=zx.mk (Below.refl w.heap.size w)
 have H:(if zB = zl then (if zD = zf then (if zC = zO then (if vO = zI then (if uM.toList = j6.toList then (if uN.toList = kZ.toList then (yK.j0 k ((uy.length:Int) != (jV.length:Int)) zB zD zC vO uM uN uy zl zf zO zI j6 kZ jV) else (yK.j0 k true zB zD zC vO uM uN uy zl zf zO zI j6 kZ jV)) else (yK.j0 k true zB zD zC vO uM uN uy zl zf zO zI j6 kZ jV)) else (yK.j0 k true zB zD zC vO uM uN uy zl zf zO zI j6 kZ jV)) else (yK.j0 k true zB zD zC vO uM uN uy zl zf zO zI j6 kZ jV)) else (yK.j0 k true zB zD zC vO uM uN uy zl zf zO zI j6 kZ jV)) else (yK.j0 k true zB zD zC vO uM uN uy zl zf zO zI j6 kZ jV)) = some r:=h
 clear h
 have gD:=zx.mk H
 clear H
 go_enter Tryz.func53,Tryz.ntmps53
 go_upto_region 1 with (first | ((with_reducible refine qC (N:=2) rfl ?_);(try (refine jS (by rfl) ?_;dsimp only));refine qM ?hg (N:=2) ?hd (cs:=#[.int .i64 zB,.int .i64 zD,.int .i64 zC,.int .i64 vO,.string uM,.string uN,.slice Zl uy.length Zm]) (t:=53) ?hr ?_;(case hd=>rfl);(case hg=>rfl);(case hr=>first | (go_simp;done) | (go_simp;rfl));intro qX hg w4 qc hb;have zJ:=zx.mk (zo (zH HB.out) hb);have zK:=zx.mk (qc);have zi:=zx.mk ((by rw [hg];exact (ze (zH HB.out)):w.heap.size ≤ qX));have zL:=zx.mk ((by rw [hg];exact (ze (zH HB.out)):w.heap.size ≤ qX));clear HB;have HB:=zJ;have yZ:=zK;have zc3:=zi;have zjx:=zL;clear zJ zK zi zL;clear hb qc hg) | ((with_reducible refine qC (N:=3) rfl ?_);(try (refine jS (by rfl) ?_;dsimp only));refine qM ?hg (N:=3) ?hd (cs:=#[.int .i64 zl,.int .i64 zf,.int .i64 zO,.int .i64 zI,.string j6,.string kZ,.slice Vv jV.length Vk]) (t:=53) ?hr ?_;(case hd=>rfl);(case hg=>rfl);(case hr=>first | (go_simp;done) | (go_simp;rfl));intro qP hg w5 qc hb;have zJ:=zx.mk (zU (g:=qX) (o:=.cells #[.int .i64 zB,.int .i64 zD,.int .i64 zC,.int .i64 vO,.string uM,.string uN,.slice Zl uy.length Zm] 53 (0,0)) (qh yZ.out) hb);have zK:=zx.mk (zo (zH HB.out) hb);have zi:=zx.mk (qc);have zL:=zx.mk ((by rw [hg];exact (ze (zH HB.out)):w.heap.size ≤ qP));have qz:=zx.mk ((by rw [hg];exact (ze (zH HB.out)):w.heap.size ≤ qP));have xX:=zx.mk ((by rw [hg];exact Nat.ne_of_lt (pI (g:=qX) (o:=.cells #[.int .i64 zB,.int .i64 zD,.int .i64 zC,.int .i64 vO,.string uM,.string uN,.slice Zl uy.length Zm] 53 (0,0)) (qh yZ.out)):qX ≠ qP));have uR:=zx.mk ((by rw [hg];exact Nat.ne_of_gt (pI (g:=qX) (o:=.cells #[.int .i64 zB,.int .i64 zD,.int .i64 zC,.int .i64 vO,.string uM,.string uN,.slice Zl uy.length Zm] 53 (0,0)) (qh yZ.out)):qP ≠ qX));clear yZ;clear HB;have yZ:=zJ;have HB:=zK;have yC:=zi;have zc4:=zL;have zjj:=qz;have Zk:=xX;have Zy:=uR;clear zJ zK zi zL qz xX uR;clear hb qc hg))
 repeat (go_quiet (first | ((with_reducible refine qC (N:=2) rfl ?_);(try (refine jS (by rfl) ?_;dsimp only));refine qM ?hg (N:=2) ?hd (cs:=#[.int .i64 zB,.int .i64 zD,.int .i64 zC,.int .i64 vO,.string uM,.string uN,.slice Zl uy.length Zm]) (t:=53) ?hr ?_;(case hd=>rfl);(case hg=>rfl);(case hr=>first | (go_simp;done) | (go_simp;rfl));intro qX hg w4 qc hb;have zJ:=zx.mk (zo (zH HB.out) hb);have zK:=zx.mk (qc);have zi:=zx.mk ((by rw [hg];exact (ze (zH HB.out)):w.heap.size ≤ qX));have zL:=zx.mk ((by rw [hg];exact (ze (zH HB.out)):w.heap.size ≤ qX));clear HB;have HB:=zJ;have yZ:=zK;have zc3:=zi;have zjx:=zL;clear zJ zK zi zL;clear hb qc hg) | ((with_reducible refine qC (N:=3) rfl ?_);(try (refine jS (by rfl) ?_;dsimp only));refine qM ?hg (N:=3) ?hd (cs:=#[.int .i64 zl,.int .i64 zf,.int .i64 zO,.int .i64 zI,.string j6,.string kZ,.slice Vv jV.length Vk]) (t:=53) ?hr ?_;(case hd=>rfl);(case hg=>rfl);(case hr=>first | (go_simp;done) | (go_simp;rfl));intro qP hg w5 qc hb;have zJ:=zx.mk (zU (g:=qX) (o:=.cells #[.int .i64 zB,.int .i64 zD,.int .i64 zC,.int .i64 vO,.string uM,.string uN,.slice Zl uy.length Zm] 53 (0,0)) (qh yZ.out) hb);have zK:=zx.mk (zo (zH HB.out) hb);have zi:=zx.mk (qc);have zL:=zx.mk ((by rw [hg];exact (ze (zH HB.out)):w.heap.size ≤ qP));have qz:=zx.mk ((by rw [hg];exact (ze (zH HB.out)):w.heap.size ≤ qP));have xX:=zx.mk ((by rw [hg];exact Nat.ne_of_lt (pI (g:=qX) (o:=.cells #[.int .i64 zB,.int .i64 zD,.int .i64 zC,.int .i64 vO,.string uM,.string uN,.slice Zl uy.length Zm] 53 (0,0)) (qh yZ.out)):qX ≠ qP));have uR:=zx.mk ((by rw [hg];exact Nat.ne_of_gt (pI (g:=qX) (o:=.cells #[.int .i64 zB,.int .i64 zD,.int .i64 zC,.int .i64 vO,.string uM,.string uN,.slice Zl uy.length Zm] 53 (0,0)) (qh yZ.out)):qP ≠ qX));clear yZ;clear HB;have yZ:=zJ;have HB:=zK;have yC:=zi;have zc4:=zL;have zjj:=qz;have Zk:=xX;have Zy:=uR;clear zJ zK zi zL qz xX uR;clear hb qc hg));go_upto_region 1 with (first | ((with_reducible refine qC (N:=2) rfl ?_);(try (refine jS (by rfl) ?_;dsimp only));refine qM ?hg (N:=2) ?hd (cs:=#[.int .i64 zB,.int .i64 zD,.int .i64 zC,.int .i64 vO,.string uM,.string uN,.slice Zl uy.length Zm]) (t:=53) ?hr ?_;(case hd=>rfl);(case hg=>rfl);(case hr=>first | (go_simp;done) | (go_simp;rfl));intro qX hg w4 qc hb;have zJ:=zx.mk (zo (zH HB.out) hb);have zK:=zx.mk (qc);have zi:=zx.mk ((by rw [hg];exact (ze (zH HB.out)):w.heap.size ≤ qX));have zL:=zx.mk ((by rw [hg];exact (ze (zH HB.out)):w.heap.size ≤ qX));clear HB;have HB:=zJ;have yZ:=zK;have zc3:=zi;have zjx:=zL;clear zJ zK zi zL;clear hb qc hg) | ((with_reducible refine qC (N:=3) rfl ?_);(try (refine jS (by rfl) ?_;dsimp only));refine qM ?hg (N:=3) ?hd (cs:=#[.int .i64 zl,.int .i64 zf,.int .i64 zO,.int .i64 zI,.string j6,.string kZ,.slice Vv jV.length Vk]) (t:=53) ?hr ?_;(case hd=>rfl);(case hg=>rfl);(case hr=>first | (go_simp;done) | (go_simp;rfl));intro qP hg w5 qc hb;have zJ:=zx.mk (zU (g:=qX) (o:=.cells #[.int .i64 zB,.int .i64 zD,.int .i64 zC,.int .i64 vO,.string uM,.string uN,.slice Zl uy.length Zm] 53 (0,0)) (qh yZ.out) hb);have zK:=zx.mk (zo (zH HB.out) hb);have zi:=zx.mk (qc);have zL:=zx.mk ((by rw [hg];exact (ze (zH HB.out)):w.heap.size ≤ qP));have qz:=zx.mk ((by rw [hg];exact (ze (zH HB.out)):w.heap.size ≤ qP));have xX:=zx.mk ((by rw [hg];exact Nat.ne_of_lt (pI (g:=qX) (o:=.cells #[.int .i64 zB,.int .i64 zD,.int .i64 zC,.int .i64 vO,.string uM,.string uN,.slice Zl uy.length Zm] 53 (0,0)) (qh yZ.out)):qX ≠ qP));have uR:=zx.mk ((by rw [hg];exact Nat.ne_of_gt (pI (g:=qX) (o:=.cells #[.int .i64 zB,.int .i64 zD,.int .i64 zC,.int .i64 vO,.string uM,.string uN,.slice Zl uy.length Zm] 53 (0,0)) (qh yZ.out)):qP ≠ qX));clear yZ;clear HB;have yZ:=zJ;have HB:=zK;have yC:=zi;have zc4:=zL;have zjj:=qz;have Zk:=xX;have Zy:=uR;clear zJ zK zi zL qz xX uR;clear hb qc hg)))
 (try simp only [Act.put,List.setIfInBounds_toArray,List.set_cons_zero,List.set_cons_succ])
 go_cut [54] (fun v54 wc=>∃ (kq:Nat) (zkF:Bool),v54 = .bool zkF ∧ zx (yK.j0 kq zkF zB zD zC vO uM uN uy zl zf zO zI j6 kZ jV = some r) ∧ zx (kq ≤ k) ∧ zx (wc.heap[qX]? = some (.cells #[.int .i64 zB,.int .i64 zD,.int .i64 zC,.int .i64 vO,.string uM,.string uN,(.slice Zl uy.length Zm)] 53 (0,0))) ∧ zx (wc.heap[qP]? = some (.cells #[.int .i64 zl,.int .i64 zf,.int .i64 zO,.int .i64 zI,.string j6,.string kZ,(.slice Vv jV.length Vk)] 53 (0,0))) ∧ zx (Below w.heap.size w wc))
 case first =>
  have H:=gD.out
  clear gD
  by_cases c6:zB = zl
  ·rw [if_pos c6] at H
   have pq:(zB == zl) = true:=beq_iff_eq.mpr c6
   have oW:(zB != zl) = false:=bne_eq_false_iff_eq.mpr c6
   clear c6
   (first | rw [pq] | (simp only [uF,jZ];rw [pq]) | skip)
   by_cases c7:zD = zf
   ·rw [if_pos c7] at H
    have XJ:(zD == zf) = true:=beq_iff_eq.mpr c7
    have lZ:(zD != zf) = false:=bne_eq_false_iff_eq.mpr c7
    clear c7
    by_cases c8:zC = zO
    ·rw [if_pos c8] at H
     have X6:(zC == zO) = true:=beq_iff_eq.mpr c8
     have dP:(zC != zO) = false:=bne_eq_false_iff_eq.mpr c8
     clear c8
     by_cases c9:vO = zI
     ·rw [if_pos c9] at H
      have oC:(vO == zI) = true:=beq_iff_eq.mpr c9
      have zk9:(vO != zI) = false:=bne_eq_false_iff_eq.mpr c9
      clear c9
      by_cases c10:uM.toList = j6.toList
      ·rw [if_pos c10] at H
       have zxM:(uM.toList == j6.toList) = true:=beq_iff_eq.mpr c10
       have zK8:(uM.toList != j6.toList) = false:=bne_eq_false_iff_eq.mpr c10
       clear c10
       by_cases c11:uN.toList = kZ.toList
       ·rw [if_pos c11] at H
        have Qi:(uN.toList == kZ.toList) = true:=beq_iff_eq.mpr c11
        have mF:(uN.toList != kZ.toList) = false:=bne_eq_false_iff_eq.mpr c11
        clear c11
        have H':=zx.mk H
        clear H
        have zul:=Zk.out
        have zum:=Zy.out
        have Xm:w5.cell? ⟨qX,0,none⟩ = some (.int .i64 zB):=zZ yZ 0
        have Xn:w5.cell? ⟨qX,1,none⟩ = some (.int .i64 zD):=zZ yZ 1
        have Xo:w5.cell? ⟨qX,2,none⟩ = some (.int .i64 zC):=zZ yZ 2
        have Xp:w5.cell? ⟨qX,3,none⟩ = some (.int .i64 vO):=zZ yZ 3
        have rF:w5.cell? ⟨qX,4,none⟩ = some (.string uM):=zZ yZ 4
        have rG:w5.cell? ⟨qX,5,none⟩ = some (.string uN):=zZ yZ 5
        have zXW:w5.cell? ⟨qX,6,none⟩ = some (.slice Zl uy.length Zm):=zZ yZ 6
        have Xr:=zy yZ.out 0
        have Xt:=zy yZ.out 1
        have Xu:=zy yZ.out 2
        have XA:=zy yZ.out 3
        have rH:=zy yZ.out 4
        have rM:=zy yZ.out 5
        have zXa:=zy yZ.out 6
        have nM:w5.cell? ⟨qP,0,none⟩ = some (.int .i64 zl):=zZ yC 0
        have nN:w5.cell? ⟨qP,1,none⟩ = some (.int .i64 zf):=zZ yC 1
        have nO:w5.cell? ⟨qP,2,none⟩ = some (.int .i64 zO):=zZ yC 2
        have nP:w5.cell? ⟨qP,3,none⟩ = some (.int .i64 zI):=zZ yC 3
        have nR:w5.cell? ⟨qP,4,none⟩ = some (.string j6):=zZ yC 4
        have nS:w5.cell? ⟨qP,5,none⟩ = some (.string kZ):=zZ yC 5
        have zXb:w5.cell? ⟨qP,6,none⟩ = some (.slice Vv jV.length Vk):=zZ yC 6
        have nT:=zy yC.out 0
        have nU:=zy yC.out 1
        have rz:=zy yC.out 2
        have rZ:=zy yC.out 3
        have rQ:=zy yC.out 4
        have rX:=zy yC.out 5
        have zXc:=zy yC.out 6
        go_wp2
        repeat (go_quiet (fail);try go_wp2)
        go_meet
        case rel=>exact ⟨_,(((uy.length:Int) != (jV.length:Int))),(by first | rfl | (simp;done) | (simp [*];done)),H',⟨by first | omega | exact Nat.le_refl _⟩,⟨qh yZ.out⟩,⟨qh yC.out⟩,⟨zH HB.out⟩⟩
       ·rw [if_neg c11] at H
        have Qi:(uN.toList == kZ.toList) = false:=beq_eq_false_iff_ne.mpr c11
        have mF:(uN.toList != kZ.toList) = true:=bne_iff_ne.mpr c11
        have H':=zx.mk H
        clear H
        have zun:=Zk.out
        have zuo:=Zy.out
        have VD:w5.cell? ⟨qX,0,none⟩ = some (.int .i64 zB):=zZ yZ 0
        have VE:w5.cell? ⟨qX,1,none⟩ = some (.int .i64 zD):=zZ yZ 1
        have VF:w5.cell? ⟨qX,2,none⟩ = some (.int .i64 zC):=zZ yZ 2
        have VG:w5.cell? ⟨qX,3,none⟩ = some (.int .i64 vO):=zZ yZ 3
        have zzE:w5.cell? ⟨qX,4,none⟩ = some (.string uM):=zZ yZ 4
        have zzF:w5.cell? ⟨qX,5,none⟩ = some (.string uN):=zZ yZ 5
        have zXd:w5.cell? ⟨qX,6,none⟩ = some (.slice Zl uy.length Zm):=zZ yZ 6
        have VH:=zy yZ.out 0
        have VI:=zy yZ.out 1
        have VL:=zy yZ.out 2
        have VN:=zy yZ.out 3
        have zzG:=zy yZ.out 4
        have zzH:=zy yZ.out 5
        have zXe:=zy yZ.out 6
        have zXf:w5.cell? ⟨qP,0,none⟩ = some (.int .i64 zl):=zZ yC 0
        have zXg:w5.cell? ⟨qP,1,none⟩ = some (.int .i64 zf):=zZ yC 1
        have zXh:w5.cell? ⟨qP,2,none⟩ = some (.int .i64 zO):=zZ yC 2
        have zXi:w5.cell? ⟨qP,3,none⟩ = some (.int .i64 zI):=zZ yC 3
        have zXl:w5.cell? ⟨qP,4,none⟩ = some (.string j6):=zZ yC 4
        have zXm:w5.cell? ⟨qP,5,none⟩ = some (.string kZ):=zZ yC 5
        have zXn:w5.cell? ⟨qP,6,none⟩ = some (.slice Vv jV.length Vk):=zZ yC 6
        have zXo:=zy yC.out 0
        have zXp:=zy yC.out 1
        have zXr:=zy yC.out 2
        have zXs:=zy yC.out 3
        have zXt:=zy yC.out 4
        have zXu:=zy yC.out 5
        have zXA:=zy yC.out 6
        go_wp2
        repeat (go_quiet (fail);try go_wp2)
        go_meet
        case rel=>exact ⟨_,(true),(by first | rfl | (simp;done) | (simp [*];done)),H',⟨by first | omega | exact Nat.le_refl _⟩,⟨qh yZ.out⟩,⟨qh yC.out⟩,⟨zH HB.out⟩⟩
      ·rw [if_neg c10] at H
       have zxM:(uM.toList == j6.toList) = false:=beq_eq_false_iff_ne.mpr c10
       have zK8:(uM.toList != j6.toList) = true:=bne_iff_ne.mpr c10
       have H':=zx.mk H
       clear H
       have zup:=Zk.out
       have zur:=Zy.out
       have dA:w5.cell? ⟨qX,0,none⟩ = some (.int .i64 zB):=zZ yZ 0
       have dB:w5.cell? ⟨qX,1,none⟩ = some (.int .i64 zD):=zZ yZ 1
       have dD:w5.cell? ⟨qX,2,none⟩ = some (.int .i64 zC):=zZ yZ 2
       have dF:w5.cell? ⟨qX,3,none⟩ = some (.int .i64 vO):=zZ yZ 3
       have zXB:w5.cell? ⟨qX,4,none⟩ = some (.string uM):=zZ yZ 4
       have zXC:w5.cell? ⟨qX,5,none⟩ = some (.string uN):=zZ yZ 5
       have zXD:w5.cell? ⟨qX,6,none⟩ = some (.slice Zl uy.length Zm):=zZ yZ 6
       have dG:=zy yZ.out 0
       have dH:=zy yZ.out 1
       have dI:=zy yZ.out 2
       have dL:=zy yZ.out 3
       have zXE:=zy yZ.out 4
       have zXF:=zy yZ.out 5
       have zXG:=zy yZ.out 6
       have zjn:w5.cell? ⟨qP,0,none⟩ = some (.int .i64 zl):=zZ yC 0
       have zjo:w5.cell? ⟨qP,1,none⟩ = some (.int .i64 zf):=zZ yC 1
       have zjr:w5.cell? ⟨qP,2,none⟩ = some (.int .i64 zO):=zZ yC 2
       have zjs:w5.cell? ⟨qP,3,none⟩ = some (.int .i64 zI):=zZ yC 3
       have zjt:w5.cell? ⟨qP,4,none⟩ = some (.string j6):=zZ yC 4
       have zju:w5.cell? ⟨qP,5,none⟩ = some (.string kZ):=zZ yC 5
       have zXH:w5.cell? ⟨qP,6,none⟩ = some (.slice Vv jV.length Vk):=zZ yC 6
       have zjA:=zy yC.out 0
       have zjB:=zy yC.out 1
       have zjC:=zy yC.out 2
       have zjD:=zy yC.out 3
       have zjE:=zy yC.out 4
       have zjF:=zy yC.out 5
       have zXI:=zy yC.out 6
       go_wp2
       repeat (go_quiet (fail);try go_wp2)
       go_meet
       case rel=>exact ⟨_,(true),(by first | rfl | (simp;done) | (simp [*];done)),H',⟨by first | omega | exact Nat.le_refl _⟩,⟨qh yZ.out⟩,⟨qh yC.out⟩,⟨zH HB.out⟩⟩
     ·rw [if_neg c9] at H
      have oC:(vO == zI) = false:=beq_eq_false_iff_ne.mpr c9
      have zk9:(vO != zI) = true:=bne_iff_ne.mpr c9
      have H':=zx.mk H
      clear H
      have zus:=Zk.out
      have zut:=Zy.out
      have aC:w5.cell? ⟨qX,0,none⟩ = some (.int .i64 zB):=zZ yZ 0
      have aD:w5.cell? ⟨qX,1,none⟩ = some (.int .i64 zD):=zZ yZ 1
      have aG:w5.cell? ⟨qX,2,none⟩ = some (.int .i64 zC):=zZ yZ 2
      have aH:w5.cell? ⟨qX,3,none⟩ = some (.int .i64 vO):=zZ yZ 3
      have zXL:w5.cell? ⟨qX,4,none⟩ = some (.string uM):=zZ yZ 4
      have zXM:w5.cell? ⟨qX,5,none⟩ = some (.string uN):=zZ yZ 5
      have zXN:w5.cell? ⟨qX,6,none⟩ = some (.slice Zl uy.length Zm):=zZ yZ 6
      have aI:=zy yZ.out 0
      have aM:=zy yZ.out 1
      have aN:=zy yZ.out 2
      have aR:=zy yZ.out 3
      have zXO:=zy yZ.out 4
      have zXP:=zy yZ.out 5
      have zXR:=zy yZ.out 6
      have rJ:w5.cell? ⟨qP,0,none⟩ = some (.int .i64 zl):=zZ yC 0
      have rV:w5.cell? ⟨qP,1,none⟩ = some (.int .i64 zf):=zZ yC 1
      have rY:w5.cell? ⟨qP,2,none⟩ = some (.int .i64 zO):=zZ yC 2
      have rW:w5.cell? ⟨qP,3,none⟩ = some (.int .i64 zI):=zZ yC 3
      have zjG:w5.cell? ⟨qP,4,none⟩ = some (.string j6):=zZ yC 4
      have zjH:w5.cell? ⟨qP,5,none⟩ = some (.string kZ):=zZ yC 5
      have zXS:w5.cell? ⟨qP,6,none⟩ = some (.slice Vv jV.length Vk):=zZ yC 6
      have ru:=zy yC.out 0
      have rA:=zy yC.out 1
      have rD:=zy yC.out 2
      have rE:=zy yC.out 3
      have zjI:=zy yC.out 4
      have zjL:=zy yC.out 5
      have zXT:=zy yC.out 6
      go_wp2
      repeat (go_quiet (fail);try go_wp2)
      go_meet
      case rel=>exact ⟨_,(true),(by first | rfl | (simp;done) | (simp [*];done)),H',⟨by first | omega | exact Nat.le_refl _⟩,⟨qh yZ.out⟩,⟨qh yC.out⟩,⟨zH HB.out⟩⟩
    ·rw [if_neg c8] at H
     have X6:(zC == zO) = false:=beq_eq_false_iff_ne.mpr c8
     have dP:(zC != zO) = true:=bne_iff_ne.mpr c8
     have H':=zx.mk H
     clear H
     have zuu:=Zk.out
     have zuA:=Zy.out
     have zXU:w5.cell? ⟨qX,0,none⟩ = some (.int .i64 zB):=zZ yZ 0
     have zX0:w5.cell? ⟨qX,1,none⟩ = some (.int .i64 zD):=zZ yZ 1
     have zX1:w5.cell? ⟨qX,2,none⟩ = some (.int .i64 zC):=zZ yZ 2
     have zX2:w5.cell? ⟨qX,3,none⟩ = some (.int .i64 vO):=zZ yZ 3
     have zX3:w5.cell? ⟨qX,4,none⟩ = some (.string uM):=zZ yZ 4
     have zX4:w5.cell? ⟨qX,5,none⟩ = some (.string uN):=zZ yZ 5
     have zX5:w5.cell? ⟨qX,6,none⟩ = some (.slice Zl uy.length Zm):=zZ yZ 6
     have zX6:=zy yZ.out 0
     have zX7:=zy yZ.out 1
     have zX8:=zy yZ.out 2
     have zX9:=zy yZ.out 3
     have zJz:=zy yZ.out 4
     have zJq:=zy yZ.out 5
     have zJx:=zy yZ.out 6
     have zJj:w5.cell? ⟨qP,0,none⟩ = some (.int .i64 zl):=zZ yC 0
     have zJv:w5.cell? ⟨qP,1,none⟩ = some (.int .i64 zf):=zZ yC 1
     have zJk:w5.cell? ⟨qP,2,none⟩ = some (.int .i64 zO):=zZ yC 2
     have zJy:w5.cell? ⟨qP,3,none⟩ = some (.int .i64 zI):=zZ yC 3
     have zJw:w5.cell? ⟨qP,4,none⟩ = some (.string j6):=zZ yC 4
     have zJZ:w5.cell? ⟨qP,5,none⟩ = some (.string kZ):=zZ yC 5
     have zJQ:w5.cell? ⟨qP,6,none⟩ = some (.slice Vv jV.length Vk):=zZ yC 6
     have zJX:=zy yC.out 0
     have zJJ:=zy yC.out 1
     have zJV:=zy yC.out 2
     have zJK:=zy yC.out 3
     have zJY:=zy yC.out 4
     have zJW:=zy yC.out 5
     have zJa:=zy yC.out 6
     go_wp2
     repeat (go_quiet (fail);try go_wp2)
     go_meet
     case rel=>exact ⟨_,(true),(by first | rfl | (simp;done) | (simp [*];done)),H',⟨by first | omega | exact Nat.le_refl _⟩,⟨qh yZ.out⟩,⟨qh yC.out⟩,⟨zH HB.out⟩⟩
   ·rw [if_neg c7] at H
    have XJ:(zD == zf) = false:=beq_eq_false_iff_ne.mpr c7
    have lZ:(zD != zf) = true:=bne_iff_ne.mpr c7
    have H':=zx.mk H
    clear H
    have zuB:=Zk.out
    have zuC:=Zy.out
    have zJb:w5.cell? ⟨qX,0,none⟩ = some (.int .i64 zB):=zZ yZ 0
    have zJc:w5.cell? ⟨qX,1,none⟩ = some (.int .i64 zD):=zZ yZ 1
    have zJd:w5.cell? ⟨qX,2,none⟩ = some (.int .i64 zC):=zZ yZ 2
    have zJe:w5.cell? ⟨qX,3,none⟩ = some (.int .i64 vO):=zZ yZ 3
    have zJf:w5.cell? ⟨qX,4,none⟩ = some (.string uM):=zZ yZ 4
    have zJg:w5.cell? ⟨qX,5,none⟩ = some (.string uN):=zZ yZ 5
    have zJh:w5.cell? ⟨qX,6,none⟩ = some (.slice Zl uy.length Zm):=zZ yZ 6
    have zJi:=zy yZ.out 0
    have zJl:=zy yZ.out 1
    have zJm:=zy yZ.out 2
    have zJn:=zy yZ.out 3
    have zJo:=zy yZ.out 4
    have zJp:=zy yZ.out 5
    have zJr:=zy yZ.out 6
    have zJs:w5.cell? ⟨qP,0,none⟩ = some (.int .i64 zl):=zZ yC 0
    have zJt:w5.cell? ⟨qP,1,none⟩ = some (.int .i64 zf):=zZ yC 1
    have zJu:w5.cell? ⟨qP,2,none⟩ = some (.int .i64 zO):=zZ yC 2
    have zJA:w5.cell? ⟨qP,3,none⟩ = some (.int .i64 zI):=zZ yC 3
    have zJB:w5.cell? ⟨qP,4,none⟩ = some (.string j6):=zZ yC 4
    have zJC:w5.cell? ⟨qP,5,none⟩ = some (.string kZ):=zZ yC 5
    have zJD:w5.cell? ⟨qP,6,none⟩ = some (.slice Vv jV.length Vk):=zZ yC 6
    have zJE:=zy yC.out 0
    have zJF:=zy yC.out 1
    have zJG:=zy yC.out 2
    have zJH:=zy yC.out 3
    have zJI:=zy yC.out 4
    have zJL:=zy yC.out 5
    have zJM:=zy yC.out 6
    go_wp2
    repeat (go_quiet (fail);try go_wp2)
    go_meet
    case rel=>exact ⟨_,(true),(by first | rfl | (simp;done) | (simp [*];done)),H',⟨by first | omega | exact Nat.le_refl _⟩,⟨qh yZ.out⟩,⟨qh yC.out⟩,⟨zH HB.out⟩⟩
  ·rw [if_neg c6] at H
   have pq:(zB == zl) = false:=beq_eq_false_iff_ne.mpr c6
   have oW:(zB != zl) = true:=bne_iff_ne.mpr c6
   (first | rw [pq] | (simp only [uF,jZ];rw [pq]) | skip)
   have H':=zx.mk H
   clear H
   have zuD:=Zk.out
   have zuE:=Zy.out
   have zJN:w5.cell? ⟨qX,0,none⟩ = some (.int .i64 zB):=zZ yZ 0
   have zJO:w5.cell? ⟨qX,1,none⟩ = some (.int .i64 zD):=zZ yZ 1
   have zJP:w5.cell? ⟨qX,2,none⟩ = some (.int .i64 zC):=zZ yZ 2
   have zJR:w5.cell? ⟨qX,3,none⟩ = some (.int .i64 vO):=zZ yZ 3
   have zJS:w5.cell? ⟨qX,4,none⟩ = some (.string uM):=zZ yZ 4
   have zJT:w5.cell? ⟨qX,5,none⟩ = some (.string uN):=zZ yZ 5
   have zJU:w5.cell? ⟨qX,6,none⟩ = some (.slice Zl uy.length Zm):=zZ yZ 6
   have zJ0:=zy yZ.out 0
   have zJ1:=zy yZ.out 1
   have zJ2:=zy yZ.out 2
   have zJ3:=zy yZ.out 3
   have zJ4:=zy yZ.out 4
   have zJ5:=zy yZ.out 5
   have zJ6:=zy yZ.out 6
   have zJ7:w5.cell? ⟨qP,0,none⟩ = some (.int .i64 zl):=zZ yC 0
   have zJ8:w5.cell? ⟨qP,1,none⟩ = some (.int .i64 zf):=zZ yC 1
   have zJ9:w5.cell? ⟨qP,2,none⟩ = some (.int .i64 zO):=zZ yC 2
   have zVz:w5.cell? ⟨qP,3,none⟩ = some (.int .i64 zI):=zZ yC 3
   have zVq:w5.cell? ⟨qP,4,none⟩ = some (.string j6):=zZ yC 4
   have zVx:w5.cell? ⟨qP,5,none⟩ = some (.string kZ):=zZ yC 5
   have zVj:w5.cell? ⟨qP,6,none⟩ = some (.slice Vv jV.length Vk):=zZ yC 6
   have zVv:=zy yC.out 0
   have zVk:=zy yC.out 1
   have zVy:=zy yC.out 2
   have zVw:=zy yC.out 3
   have zVZ:=zy yC.out 4
   have zVQ:=zy yC.out 5
   have zVX:=zy yC.out 6
   go_wp2
   repeat (go_quiet (fail);try go_wp2)
   go_meet
   case rel=>exact ⟨_,(true),(by first | rfl | (simp;done) | (simp [*];done)),H',⟨by first | omega | exact Nat.le_refl _⟩,⟨qh yZ.out⟩,⟨qh yC.out⟩,⟨zH HB.out⟩⟩
 case rest =>
  clear gD
  try clear c6
  try clear pq
  try clear oW
  try clear c7
  try clear XJ
  try clear lZ
  try clear c8
  try clear X6
  try clear dP
  try clear c9
  try clear oC
  try clear zk9
  try clear c10
  try clear zxM
  try clear zK8
  try clear c11
  try clear Qi
  try clear mF
  try clear Xm
  try clear Xn
  try clear Xo
  try clear Xp
  try clear rF
  try clear rG
  try clear zXW
  try clear nM
  try clear nN
  try clear nO
  try clear nP
  try clear nR
  try clear nS
  try clear zXb
  try clear VD
  try clear VE
  try clear VF
  try clear VG
  try clear zzE
  try clear zzF
  try clear zXd
  try clear zXf
  try clear zXg
  try clear zXh
  try clear zXi
  try clear zXl
  try clear zXm
  try clear zXn
  try clear dA
  try clear dB
  try clear dD
  try clear dF
  try clear zXB
  try clear zXC
  try clear zXD
  try clear zjn
  try clear zjo
  try clear zjr
  try clear zjs
  try clear zjt
  try clear zju
  try clear zXH
  try clear aC
  try clear aD
  try clear aG
  try clear aH
  try clear zXL
  try clear zXM
  try clear zXN
  try clear rJ
  try clear rV
  try clear rY
  try clear rW
  try clear zjG
  try clear zjH
  try clear zXS
  try clear zXU
  try clear zX0
  try clear zX1
  try clear zX2
  try clear zX3
  try clear zX4
  try clear zX5
  try clear zJj
  try clear zJv
  try clear zJk
  try clear zJy
  try clear zJw
  try clear zJZ
  try clear zJQ
  try clear zJb
  try clear zJc
  try clear zJd
  try clear zJe
  try clear zJf
  try clear zJg
  try clear zJh
  try clear zJs
  try clear zJt
  try clear zJu
  try clear zJA
  try clear zJB
  try clear zJC
  try clear zJD
  try clear zJN
  try clear zJO
  try clear zJP
  try clear zJR
  try clear zJS
  try clear zJT
  try clear zJU
  try clear zJ7
  try clear zJ8
  try clear zJ9
  try clear zVz
  try clear zVq
  try clear zVx
  try clear zVj
  try clear Xr
  try clear Xt
  try clear Xu
  try clear XA
  try clear rH
  try clear rM
  try clear zXa
  try clear nT
  try clear nU
  try clear rz
  try clear rZ
  try clear rQ
  try clear rX
  try clear zXc
  try clear VH
  try clear VI
  try clear VL
  try clear VN
  try clear zzG
  try clear zzH
  try clear zXe
  try clear zXo
  try clear zXp
  try clear zXr
  try clear zXs
  try clear zXt
  try clear zXu
  try clear zXA
  try clear dG
  try clear dH
  try clear dI
  try clear dL
  try clear zXE
  try clear zXF
  try clear zXG
  try clear zjA
  try clear zjB
  try clear zjC
  try clear zjD
  try clear zjE
  try clear zjF
  try clear zXI
  try clear aI
  try clear aM
  try clear aN
  try clear aR
  try clear zXO
  try clear zXP
  try clear zXR
  try clear ru
  try clear rA
  try clear rD
  try clear rE
  try clear zjI
  try clear zjL
  try clear zXT
  try clear zX6
  try clear zX7
  try clear zX8
  try clear zX9
  try clear zJz
  try clear zJq
  try clear zJx
  try clear zJX
  try clear zJJ
  try clear zJV
  try clear zJK
  try clear zJY
  try clear zJW
  try clear zJa
  try clear zJi
  try clear zJl
  try clear zJm
  try clear zJn
  try clear zJo
  try clear zJp
  try clear zJr
  try clear zJE
  try clear zJF
  try clear zJG
  try clear zJH
  try clear zJI
  try clear zJL
  try clear zJM
  try clear zJ0
  try clear zJ1
  try clear zJ2
  try clear zJ3
  try clear zJ4
  try clear zJ5
  try clear zJ6
  try clear zVv
  try clear zVk
  try clear zVy
  try clear zVw
  try clear zVZ
  try clear zVQ
  try clear zVX
  obtain ⟨kq,zkF,rfl,HA,HJ2,yZ,yC,HB⟩:=hcut
  cases kq with
  | zero=>exact absurd HA.out (by simp [yK.j0])
  | succ kj2 =>
   have H:=HA.out
   clear HA
   simp only [yK.j0] at H
   by_cases gY:zkF = true
   ·subst gY
    have H1:(some false) = some r:=by rw [if_pos rfl] at H;exact H
    clear H
    have H:=H1
    clear H1
    obtain rfl:=Option.some.inj H
    go_wp2
    repeat (go_quiet (fail);try go_wp2)
    go_ret
    exact ⟨by first | rfl | (simp [zM,zN] <;> rfl) | (simp [*,zM,zN] <;> rfl),by repeat (first | (with_reducible first | exact HB.out | apply yV | apply zP | apply zT | refine qb ?_ zjx.out | refine qb ?_ zjj.out) | exact HB.out)⟩
   ·replace gY:=Bool.eq_false_iff.mpr gY
    subst gY
    have H1:(yK.l0 kj2 0 zB zD zC vO uM uN uy zl zf zO zI j6 kZ jV) = some r:=by rw [if_neg (show ¬ (false = true) by decide)] at H;exact H
    clear H
    have H:=H1
    clear H1
    have H':=zx.mk H
    clear H
    go_wp2
    repeat (go_quiet (fail);try go_wp2)
    go_loopg [5] kj2 (fun kq v5 w'=>∃ (wI:Int),v5 = .int .i64 wI ∧ zx (yK.l0 kq wI zB zD zC vO uM uN uy zl zf zO zI j6 kZ jV = some r) ∧ zx (kq ≤ kj2) ∧ zx (w'.heap[qX]? = some (.cells #[.int .i64 zB,.int .i64 zD,.int .i64 zC,.int .i64 vO,.string uM,.string uN,(.slice Zl uy.length Zm)] 53 (0,0))) ∧ zx (w'.heap[qP]? = some (.cells #[.int .i64 zl,.int .i64 zf,.int .i64 zO,.int .i64 zI,.string j6,.string kZ,(.slice Vv jV.length Vk)] 53 (0,0))) ∧ zx (Below w.heap.size w w'))
    case atStart=>exact ⟨(0),(by first | rfl | (simp;done) | (simp [*];done)),H',⟨Nat.le_refl _⟩,⟨qh yZ.out⟩,⟨qh yC.out⟩,⟨zH HB.out⟩⟩
    case round =>
     clear H'
     try clear c6
     try clear pq
     try clear oW
     try clear c7
     try clear XJ
     try clear lZ
     try clear c8
     try clear X6
     try clear dP
     try clear c9
     try clear oC
     try clear zk9
     try clear c10
     try clear zxM
     try clear zK8
     try clear c11
     try clear Qi
     try clear mF
     try clear gY
     try clear Xm
     try clear Xn
     try clear Xo
     try clear Xp
     try clear rF
     try clear rG
     try clear zXW
     try clear nM
     try clear nN
     try clear nO
     try clear nP
     try clear nR
     try clear nS
     try clear zXb
     try clear VD
     try clear VE
     try clear VF
     try clear VG
     try clear zzE
     try clear zzF
     try clear zXd
     try clear zXf
     try clear zXg
     try clear zXh
     try clear zXi
     try clear zXl
     try clear zXm
     try clear zXn
     try clear dA
     try clear dB
     try clear dD
     try clear dF
     try clear zXB
     try clear zXC
     try clear zXD
     try clear zjn
     try clear zjo
     try clear zjr
     try clear zjs
     try clear zjt
     try clear zju
     try clear zXH
     try clear aC
     try clear aD
     try clear aG
     try clear aH
     try clear zXL
     try clear zXM
     try clear zXN
     try clear rJ
     try clear rV
     try clear rY
     try clear rW
     try clear zjG
     try clear zjH
     try clear zXS
     try clear zXU
     try clear zX0
     try clear zX1
     try clear zX2
     try clear zX3
     try clear zX4
     try clear zX5
     try clear zJj
     try clear zJv
     try clear zJk
     try clear zJy
     try clear zJw
     try clear zJZ
     try clear zJQ
     try clear zJb
     try clear zJc
     try clear zJd
     try clear zJe
     try clear zJf
     try clear zJg
     try clear zJh
     try clear zJs
     try clear zJt
     try clear zJu
     try clear zJA
     try clear zJB
     try clear zJC
     try clear zJD
     try clear zJN
     try clear zJO
     try clear zJP
     try clear zJR
     try clear zJS
     try clear zJT
     try clear zJU
     try clear zJ7
     try clear zJ8
     try clear zJ9
     try clear zVz
     try clear zVq
     try clear zVx
     try clear zVj
     try clear Xr
     try clear Xt
     try clear Xu
     try clear XA
     try clear rH
     try clear rM
     try clear zXa
     try clear nT
     try clear nU
     try clear rz
     try clear rZ
     try clear rQ
     try clear rX
     try clear zXc
     try clear VH
     try clear VI
     try clear VL
     try clear VN
     try clear zzG
     try clear zzH
     try clear zXe
     try clear zXo
     try clear zXp
     try clear zXr
     try clear zXs
     try clear zXt
     try clear zXu
     try clear zXA
     try clear dG
     try clear dH
     try clear dI
     try clear dL
     try clear zXE
     try clear zXF
     try clear zXG
     try clear zjA
     try clear zjB
     try clear zjC
     try clear zjD
     try clear zjE
     try clear zjF
     try clear zXI
     try clear aI
     try clear aM
     try clear aN
     try clear aR
     try clear zXO
     try clear zXP
     try clear zXR
     try clear ru
     try clear rA
     try clear rD
     try clear rE
     try clear zjI
     try clear zjL
     try clear zXT
     try clear zX6
     try clear zX7
     try clear zX8
     try clear zX9
     try clear zJz
     try clear zJq
     try clear zJx
     try clear zJX
     try clear zJJ
     try clear zJV
     try clear zJK
     try clear zJY
     try clear zJW
     try clear zJa
     try clear zJi
     try clear zJl
     try clear zJm
     try clear zJn
     try clear zJo
     try clear zJp
     try clear zJr
     try clear zJE
     try clear zJF
     try clear zJG
     try clear zJH
     try clear zJI
     try clear zJL
     try clear zJM
     try clear zJ0
     try clear zJ1
     try clear zJ2
     try clear zJ3
     try clear zJ4
     try clear zJ5
     try clear zJ6
     try clear zVv
     try clear zVk
     try clear zVy
     try clear zVw
     try clear zVZ
     try clear zVQ
     try clear zVX
     obtain ⟨wI,rfl,HA,QJ,yZ,yC,HB⟩:=hrel
     cases gk with
     | zero=>exact absurd HA.out (by simp [yK.l0])
     | succ k2 =>
      have H:=HA.out
      clear HA
      simp only [yK.l0] at H
      by_cases c34:wI < (uy.length:Int)
      ·rw [if_pos c34] at H
       have zKY:decide (wI < (uy.length:Int)) = true:=decide_eq_true c34
       clear c34
       by_cases c35:0 ≤ wI
       ·rw [if_pos c35] at H
        have zuF:decide (0 ≤ wI) = true:=decide_eq_true c35
        clear c35
        by_cases mD:wI < (jV.length:Int)
        ·rw [if_pos mD] at H
         have zuG:decide (wI < (jV.length:Int)) = true:=decide_eq_true mD
         clear mD
         by_cases c37:(rd uy wI) = (rd jV wI)
         ·rw [if_pos c37] at H
          have zcu:((rd uy wI) == (rd jV wI)) = true:=beq_iff_eq.mpr c37
          have zm4:((rd uy wI) != (rd jV wI)) = false:=bne_eq_false_iff_eq.mpr c37
          clear c37
          have H':=zx.mk H
          clear H
          have zuH:=Zk.out
          have zuI:=Zy.out
          have zrf:wr.cell? ⟨qX,0,none⟩ = some (.int .i64 zB):=zZ yZ 0
          have zrg:wr.cell? ⟨qX,1,none⟩ = some (.int .i64 zD):=zZ yZ 1
          have zrh:wr.cell? ⟨qX,2,none⟩ = some (.int .i64 zC):=zZ yZ 2
          have zri:wr.cell? ⟨qX,3,none⟩ = some (.int .i64 vO):=zZ yZ 3
          have zrl:wr.cell? ⟨qX,4,none⟩ = some (.string uM):=zZ yZ 4
          have zrm:wr.cell? ⟨qX,5,none⟩ = some (.string uN):=zZ yZ 5
          have zrn:wr.cell? ⟨qX,6,none⟩ = some (.slice Zl uy.length Zm):=zZ yZ 6
          have zro:=zy yZ.out 0
          have zrp:=zy yZ.out 1
          have zrr:=zy yZ.out 2
          have zrs:=zy yZ.out 3
          have zrt:=zy yZ.out 4
          have zru:=zy yZ.out 5
          have zrA:=zy yZ.out 6
          have zxq:0 ≤ (wI:Int):=of_decide_eq_true yE
          have zxx:wI < (uy.length:Int):=of_decide_eq_true yE
          obtain ⟨zm5,e291,Pv⟩:=Kd.nJ zc1.out wI zxq zxx
          cases e291
          replace Pv:=(HB.out.cell (World.block_lt_of_cell? w _ Pv)).trans Pv
          replace zxq:=eq_true zxq
          replace zxx:=eq_true zxx
          have zeg:wr.cell? ⟨qP,0,none⟩ = some (.int .i64 zl):=zZ yC 0
          have zeh:wr.cell? ⟨qP,1,none⟩ = some (.int .i64 zf):=zZ yC 1
          have zei:wr.cell? ⟨qP,2,none⟩ = some (.int .i64 zO):=zZ yC 2
          have zel:wr.cell? ⟨qP,3,none⟩ = some (.int .i64 zI):=zZ yC 3
          have zem:wr.cell? ⟨qP,4,none⟩ = some (.string j6):=zZ yC 4
          have zen:wr.cell? ⟨qP,5,none⟩ = some (.string kZ):=zZ yC 5
          have zrB:wr.cell? ⟨qP,6,none⟩ = some (.slice Vv jV.length Vk):=zZ yC 6
          have zeo:=zy yC.out 0
          have zep:=zy yC.out 1
          have zer:=zy yC.out 2
          have zes:=zy yC.out 3
          have zet:=zy yC.out 4
          have zeu:=zy yC.out 5
          have zrC:=zy yC.out 6
          have zxj:0 ≤ (wI:Int):=of_decide_eq_true yE
          have zxv:wI < (jV.length:Int):=of_decide_eq_true yE
          obtain ⟨zm6,zcj,Pk⟩:=Kd.nJ zc2.out wI zxj zxv
          cases zcj
          replace Pk:=(HB.out.cell (World.block_lt_of_cell? w _ Pk)).trans Pk
          replace zxj:=eq_true zxj
          replace zxv:=eq_true zxv
          go_wp2
          repeat (go_quiet (fail);try go_wp2)
          go_roundg k2
          case measure=>have:=HJ2.out;have:=QJ.out;omega
          case rel=>exact ⟨(wrap64 (wI + 1)),(by first | rfl | (simp;done) | (simp [*];done)),H',⟨by have:=HJ2.out;have:=QJ.out;omega⟩,⟨qh yZ.out⟩,⟨qh yC.out⟩,⟨zH HB.out⟩⟩
         ·rw [if_neg c37] at H
          have zcu:((rd uy wI) == (rd jV wI)) = false:=beq_eq_false_iff_ne.mpr c37
          have zm4:((rd uy wI) != (rd jV wI)) = true:=bne_iff_ne.mpr c37
          obtain rfl:=Option.some.inj H
          have zuL:=Zk.out
          have zuM:=Zy.out
          have zrD:wr.cell? ⟨qX,0,none⟩ = some (.int .i64 zB):=zZ yZ 0
          have zrE:wr.cell? ⟨qX,1,none⟩ = some (.int .i64 zD):=zZ yZ 1
          have zrF:wr.cell? ⟨qX,2,none⟩ = some (.int .i64 zC):=zZ yZ 2
          have zrG:wr.cell? ⟨qX,3,none⟩ = some (.int .i64 vO):=zZ yZ 3
          have zrH:wr.cell? ⟨qX,4,none⟩ = some (.string uM):=zZ yZ 4
          have zrI:wr.cell? ⟨qX,5,none⟩ = some (.string uN):=zZ yZ 5
          have zrL:wr.cell? ⟨qX,6,none⟩ = some (.slice Zl uy.length Zm):=zZ yZ 6
          have zrM:=zy yZ.out 0
          have zrN:=zy yZ.out 1
          have zrO:=zy yZ.out 2
          have zrP:=zy yZ.out 3
          have zrR:=zy yZ.out 4
          have zrS:=zy yZ.out 5
          have zrT:=zy yZ.out 6
          have zxq:0 ≤ (wI:Int):=of_decide_eq_true yE
          have zxx:wI < (uy.length:Int):=of_decide_eq_true yE
          obtain ⟨zm5,e291,Pv⟩:=Kd.nJ zc1.out wI zxq zxx
          cases e291
          replace Pv:=(HB.out.cell (World.block_lt_of_cell? w _ Pv)).trans Pv
          replace zxq:=eq_true zxq
          replace zxx:=eq_true zxx
          have zrU:wr.cell? ⟨qP,0,none⟩ = some (.int .i64 zl):=zZ yC 0
          have zr0:wr.cell? ⟨qP,1,none⟩ = some (.int .i64 zf):=zZ yC 1
          have zr1:wr.cell? ⟨qP,2,none⟩ = some (.int .i64 zO):=zZ yC 2
          have zr2:wr.cell? ⟨qP,3,none⟩ = some (.int .i64 zI):=zZ yC 3
          have zr3:wr.cell? ⟨qP,4,none⟩ = some (.string j6):=zZ yC 4
          have zr4:wr.cell? ⟨qP,5,none⟩ = some (.string kZ):=zZ yC 5
          have zr5:wr.cell? ⟨qP,6,none⟩ = some (.slice Vv jV.length Vk):=zZ yC 6
          have zr6:=zy yC.out 0
          have zr7:=zy yC.out 1
          have zr8:=zy yC.out 2
          have zr9:=zy yC.out 3
          have zsz:=zy yC.out 4
          have zsq:=zy yC.out 5
          have zsx:=zy yC.out 6
          have zxj:0 ≤ (wI:Int):=of_decide_eq_true yE
          have zxv:wI < (jV.length:Int):=of_decide_eq_true yE
          obtain ⟨zm6,zcj,Pk⟩:=Kd.nJ zc2.out wI zxj zxv
          cases zcj
          replace Pk:=(HB.out.cell (World.block_lt_of_cell? w _ Pk)).trans Pk
          replace zxj:=eq_true zxj
          replace zxv:=eq_true zxv
          go_wp2
          repeat (go_quiet (fail);try go_wp2)
          go_ret
          exact ⟨by first | rfl | (simp [zM,zN] <;> rfl) | (simp [*,zM,zN] <;> rfl),by repeat (first | (with_reducible first | exact HB.out | apply yV | apply zP | apply zT | refine qb ?_ zjx.out | refine qb ?_ zjj.out) | exact HB.out)⟩
        ·rw [if_neg mD] at H
         exact absurd H (by simp)
       ·rw [if_neg c35] at H
        exact absurd H (by simp)
      ·rw [if_neg c34] at H
       have zKY:decide (wI < (uy.length:Int)) = false:=decide_eq_false c34
       clear c34
       obtain rfl:=Option.some.inj H
       have zuN:=Zk.out
       have zuO:=Zy.out
       have zsj:wr.cell? ⟨qX,0,none⟩ = some (.int .i64 zB):=zZ yZ 0
       have zsv:wr.cell? ⟨qX,1,none⟩ = some (.int .i64 zD):=zZ yZ 1
       have zsk:wr.cell? ⟨qX,2,none⟩ = some (.int .i64 zC):=zZ yZ 2
       have zsy:wr.cell? ⟨qX,3,none⟩ = some (.int .i64 vO):=zZ yZ 3
       have zsw:wr.cell? ⟨qX,4,none⟩ = some (.string uM):=zZ yZ 4
       have zsZ:wr.cell? ⟨qX,5,none⟩ = some (.string uN):=zZ yZ 5
       have zsQ:wr.cell? ⟨qX,6,none⟩ = some (.slice Zl uy.length Zm):=zZ yZ 6
       have zsX:=zy yZ.out 0
       have zsJ:=zy yZ.out 1
       have zsV:=zy yZ.out 2
       have zsK:=zy yZ.out 3
       have zsY:=zy yZ.out 4
       have zsW:=zy yZ.out 5
       have zsa:=zy yZ.out 6
       go_wp2
       repeat (go_quiet (fail);try go_wp2)
       go_ret
       exact ⟨by first | rfl | (simp [zM,zN] <;> rfl) | (simp [*,zM,zN] <;> rfl),by repeat (first | (with_reducible first | exact HB.out | apply yV | apply zP | apply zT | refine qb ?_ zjx.out | refine qb ?_ zjj.out) | exact HB.out)⟩
end Go.Proofs.YtggifbbiiickmaaGreatDoor.PX
namespace Go.Proofs.YtggifbbiiickmaaGreatDoor.PX
open Go.RowKit Go.Proofs.zk.zA Go.Proofs.zk.yB Go.Proofs.zk.yA
attribute [local go_sem] xR xS vM vN xB xC xU vv   -- for this text's walks alone
set_option linter.unusedVariables false
set_option linter.unusedSimpArgs false
def yu.l0:Nat → List (vP) → List (vP) → Int → Option (Bool)
 | 0,_,_,_=>none
 | k + 1,x0,x1,x5=>if x5 < (x0.length:Int) then (if 0 ≤ x5 then (if x5 < (x1.length:Int) then ((yK.f k ((yj x0 x5).f0) ((yj x0 x5).f1) ((yj x0 x5).f2) ((yj x0 x5).f3) ((yj x0 x5).f4) ((yj x0 x5).f5) ((yj x0 x5).f6) ((yj x1 x5).f0) ((yj x1 x5).f1) ((yj x1 x5).f2) ((yj x1 x5).f3) ((yj x1 x5).f4) ((yj x1 x5).f5) ((yj x1 x5).f6)).bind fun zK9=>(if zK9 = true then (yu.l0 k x0 x1 (wrap64 (x5 + 1))) else (some false))) else (none)) else (none)) else (some true)
def yu.f (k:Nat) (l0:List (vP)) (l1:List (vP)):Option (Bool):=if (l0.length:Int) = (l1.length:Int) then (yu.l0 k l0 l1 0) else (some false)
def yu.T6:Bool × List (List Nat × List Nat):=(true,[([],[]),([],[]),([0,1],[0,1]),([2],[2]),([],[]),([],[]),([4,5],[4,5]),([6],[6]),([3,7],[3,7]),([8],[8])])
def yu.B6:List Nat:=[0,0,3,7,0,0,48,112,255,511]
theorem yu.ny:vR .any (opsOf Tryz.f18 6) = yu.T6:=by kernel_rfl
theorem yu.PY:uV yu.T6.2 yu.B6 = true:=by kernel_rfl
set_option maxHeartbeats 8000000 in
set_option maxRecDepth 100000 in
theorem yu.calls (k:Nat) (A0:Option Addr) (c0:Nat) (l0:List (vP)) (A1:Option Addr) (c1:Nat) (l1:List (vP)) (r:Bool) (w:World) (hr0:Kd.C X8 w A0 l0.length l0) (hc0:l0.length ≤ c0) (hr1:Kd.C X8 w A1 l1.length l1) (hc1:l1.length ≤ c1) (h:yu.f k l0 l1 = some r) :
  Calls Tryz.prog 18 #[.slice A0 l0.length c0,.slice A1 l1.length c1] w fun e w'=>e = .returned (.bool r) ∧ Below w.heap.size w w':=by
 have zg5:=Tryz.underlying53
 have jW:=zx.mk hr0
 have Q9:=zx.mk hc0
 clear hr0 hc0
 have HR1:=zx.mk hr1
 have HC1:=zx.mk hc1
 clear hr1 hc1
 have HB:=zx.mk (Below.refl w.heap.size w)
 have H:(if (l0.length:Int) = (l1.length:Int) then (yu.l0 k l0 l1 0) else (some false)) = some r:=h
 clear h
 by_cases c3:(l0.length:Int) = (l1.length:Int)
 ·rw [if_pos c3] at H
  have Zh:((l0.length:Int) == (l1.length:Int)) = true:=beq_iff_eq.mpr c3
  have gZ:((l0.length:Int) != (l1.length:Int)) = false:=bne_eq_false_iff_eq.mpr c3
  have zwx:(l0.length == l1.length) = true:=by first | simpa using c3 | (simp at c3 ⊢;omega)
  clear c3
  have H':=zx.mk H
  clear H
  go_enter Tryz.func18,Tryz.ntmps18
  go_wp2
  go_loopg [5] k (fun kq v5 w'=>∃ (zR:Int),v5 = .int .i64 zR ∧ zx (yu.l0 kq l0 l1 zR = some r) ∧ zx (kq ≤ k) ∧ zx (Below w.heap.size w w'))
  case atStart=>exact ⟨(0),(by first | rfl | (simp;done) | (simp [*];done)),H',⟨Nat.le_refl _⟩,⟨zH HB.out⟩⟩
  case round =>
   clear H'
   try clear c1
   try clear c3
   try clear Zh
   try clear gZ
   try clear zwx
   obtain ⟨zR,rfl,HA,uK,HB⟩:=hrel
   cases gk with
   | zero=>exact absurd HA.out (by simp [yu.l0])
   | succ k1 =>
    have H:=HA.out
    clear HA
    simp only [yu.l0] at H
    by_cases c4:zR < (l0.length:Int)
    ·rw [if_pos c4] at H
     have ZI:decide (zR < (l0.length:Int)) = true:=decide_eq_true c4
     clear c4
     by_cases c5:0 ≤ zR
     ·rw [if_pos c5] at H
      have wR:decide (0 ≤ zR) = true:=decide_eq_true c5
      clear c5
      by_cases c6:zR < (l1.length:Int)
      ·rw [if_pos c6] at H
       have pq:decide (zR < (l1.length:Int)) = true:=decide_eq_true c6
       clear c6
       replace H:=Option.bind_eq_some_iff.mp H
       obtain ⟨zK9,mQ,H⟩:=H
       replace H:(if zK9 = true then (yu.l0 k1 l0 l1 (wrap64 (zR + 1))) else (some false)) = some r:=H
       have A7:=zx.mk mQ
       clear mQ
       by_cases c8:zK9 = true
       ·subst c8
        have H1:(yu.l0 k1 l0 l1 (wrap64 (zR + 1))) = some r:=by rw [if_pos rfl] at H;exact H
        clear H
        have H:=H1
        clear H1
        have H':=zx.mk H
        clear H
        try go_wp2
        have zJ:=zx.mk (zT HB.out)
        clear HB
        have HB:=zJ
        clear zJ
        have zxk:0 ≤ (zR:Int):=of_decide_eq_true yE
        have zxy:zR < (l0.length:Int):=of_decide_eq_true yE
        obtain ⟨wD,zzb,zzc,zcv,Y5,Y6,Y7,Y8,Y9,Xz,Xq,iA,iB⟩:=Vy jW.out zR zxk zxy
        have QG:=Xq
        have QH:=Xz
        have QI:=Y9
        have QL:=Y8
        have QM:=Y7
        have QN:=Y6
        have QO:=Y5
        cases zcv
        replace Y5:=(HB.out.cell (World.block_lt_of_cell? w _ Y5)).trans Y5
        replace Y6:=(HB.out.cell (World.block_lt_of_cell? w _ Y6)).trans Y6
        replace Y7:=(HB.out.cell (World.block_lt_of_cell? w _ Y7)).trans Y7
        replace Y8:=(HB.out.cell (World.block_lt_of_cell? w _ Y8)).trans Y8
        replace Y9:=(HB.out.cell (World.block_lt_of_cell? w _ Y9)).trans Y9
        replace Xz:=(HB.out.cell (World.block_lt_of_cell? w _ Xz)).trans Xz
        replace Xq:=(HB.out.cell (World.block_lt_of_cell? w _ Xq)).trans Xq
        have iD:=zx.mk iB
        have zkk:=zx.mk iA
        clear iB iA
        replace zxk:=eq_true zxk
        replace zxy:=eq_true zxy
        have zxw:0 ≤ (zR:Int):=of_decide_eq_true yE
        have zxZ:zR < (l1.length:Int):=of_decide_eq_true yE
        obtain ⟨wE,zzd,zze,e294,Xx,Xj,Xv,Xk,Xy,Xw,XZ,iE,iF⟩:=Vy HR1.out zR zxw zxZ
        have QS:=XZ
        have QT:=Xw
        have QU:=Xy
        have Q0:=Xk
        have Q5:=Xv
        have Q6:=Xj
        have Q7:=Xx
        cases e294
        replace Xx:=(HB.out.cell (World.block_lt_of_cell? w _ Xx)).trans Xx
        replace Xj:=(HB.out.cell (World.block_lt_of_cell? w _ Xj)).trans Xj
        replace Xv:=(HB.out.cell (World.block_lt_of_cell? w _ Xv)).trans Xv
        replace Xk:=(HB.out.cell (World.block_lt_of_cell? w _ Xk)).trans Xk
        replace Xy:=(HB.out.cell (World.block_lt_of_cell? w _ Xy)).trans Xy
        replace Xw:=(HB.out.cell (World.block_lt_of_cell? w _ Xw)).trans Xw
        replace XZ:=(HB.out.cell (World.block_lt_of_cell? w _ XZ)).trans XZ
        have iG:=zx.mk iF
        have zky:=zx.mk iE
        clear iF iE
        replace zxw:=eq_true zxw
        replace zxZ:=eq_true zxZ
        refine jy (n:=10) (S:=fun w'=>w'.cell? (wD.add ((zR).toNat * 7)) = some (.int .i64 ((yj l0 zR).f0)) ∧ w'.cell? ⟨(wD.add ((zR).toNat * 7)).block,(wD.add ((zR).toNat * 7)).off + 1,none⟩ = some (.int .i64 ((yj l0 zR).f1)) ∧ w'.cell? ⟨(wD.add ((zR).toNat * 7)).block,(wD.add ((zR).toNat * 7)).off + 2,none⟩ = some (.int .i64 ((yj l0 zR).f2)) ∧ w'.cell? ⟨(wD.add ((zR).toNat * 7)).block,(wD.add ((zR).toNat * 7)).off + 3,none⟩ = some (.int .i64 ((yj l0 zR).f3)) ∧ w'.cell? ⟨(wD.add ((zR).toNat * 7)).block,(wD.add ((zR).toNat * 7)).off + 4,none⟩ = some (.string ((yj l0 zR).f4)) ∧ w'.cell? ⟨(wD.add ((zR).toNat * 7)).block,(wD.add ((zR).toNat * 7)).off + 5,none⟩ = some (.string ((yj l0 zR).f5)) ∧ w'.cell? ⟨(wD.add ((zR).toNat * 7)).block,(wD.add ((zR).toNat * 7)).off + 6,none⟩ = some (.slice zzb ((yj l0 zR).f6).length zzc) ∧ w'.cell? (wE.add ((zR).toNat * 7)) = some (.int .i64 ((yj l1 zR).f0)) ∧ w'.cell? ⟨(wE.add ((zR).toNat * 7)).block,(wE.add ((zR).toNat * 7)).off + 1,none⟩ = some (.int .i64 ((yj l1 zR).f1)) ∧ w'.cell? ⟨(wE.add ((zR).toNat * 7)).block,(wE.add ((zR).toNat * 7)).off + 2,none⟩ = some (.int .i64 ((yj l1 zR).f2)) ∧ w'.cell? ⟨(wE.add ((zR).toNat * 7)).block,(wE.add ((zR).toNat * 7)).off + 3,none⟩ = some (.int .i64 ((yj l1 zR).f3)) ∧ w'.cell? ⟨(wE.add ((zR).toNat * 7)).block,(wE.add ((zR).toNat * 7)).off + 4,none⟩ = some (.string ((yj l1 zR).f4)) ∧ w'.cell? ⟨(wE.add ((zR).toNat * 7)).block,(wE.add ((zR).toNat * 7)).off + 5,none⟩ = some (.string ((yj l1 zR).f5)) ∧ w'.cell? ⟨(wE.add ((zR).toNat * 7)).block,(wE.add ((zR).toNat * 7)).off + 6,none⟩ = some (.slice zzd ((yj l1 zR).f6).length zze)) (ds:=[]) #[false,false,false,false,false,false,false,false,false,false] (by kernel_rfl) rfl rfl ⟨((HB.out.cell (World.block_lt_of_cell? w _ QO)).trans QO),((HB.out.cell (World.block_lt_of_cell? w _ QN)).trans QN),((HB.out.cell (World.block_lt_of_cell? w _ QM)).trans QM),((HB.out.cell (World.block_lt_of_cell? w _ QL)).trans QL),((HB.out.cell (World.block_lt_of_cell? w _ QI)).trans QI),((HB.out.cell (World.block_lt_of_cell? w _ QH)).trans QH),((HB.out.cell (World.block_lt_of_cell? w _ QG)).trans QG),((HB.out.cell (World.block_lt_of_cell? w _ Q7)).trans Q7),((HB.out.cell (World.block_lt_of_cell? w _ Q6)).trans Q6),((HB.out.cell (World.block_lt_of_cell? w _ Q5)).trans Q5),((HB.out.cell (World.block_lt_of_cell? w _ Q0)).trans Q0),((HB.out.cell (World.block_lt_of_cell? w _ QU)).trans QU),((HB.out.cell (World.block_lt_of_cell? w _ QT)).trans QT),((HB.out.cell (World.block_lt_of_cell? w _ QS)).trans QS)⟩ (fun hHeld=>?_);refine uZ yu.ny yu.PY (fun za vC=>?_)
        generalize wr.drew = w9 at HB iD iG Y5 Y6 Y7 Y8 Y9 Xz Xq Xx Xj Xv Xk Xy Xw XZ hHeld ⊢
        refine ug (i:=0) (N:=some 17) (v:=?_) (a':=?_) #[true,false,false,false,false,false,false,false,false,false] rfl rfl (vE za.out (by kernel_rfl)) (fun _ _ _ h=>h) (Or.inl ⟨by rfl,?_⟩) ?_ ?_
        rotate_left
        ·intro w'
         go_simp
         with_reducible rfl
        rotate_left
        ·simp only [Act.put,List.setIfInBounds_toArray,List.set_cons_zero,List.set_cons_succ,uF,jZ]
         rfl
        refine ug (i:=1) (N:=some 18) (v:=?_) (a':=?_) #[true,true,false,false,false,false,false,false,false,false] rfl rfl (vE za.out (by kernel_rfl)) (fun _ _ _ h=>h) (Or.inl ⟨by rfl,?_⟩) ?_ ?_
        rotate_left
        ·intro w'
         go_simp
         with_reducible rfl
        rotate_left
        ·simp only [Act.put,List.setIfInBounds_toArray,List.set_cons_zero,List.set_cons_succ,uF,jZ]
         rfl
        refine ug (i:=2) (N:=some 19) (v:=?_) (a':=?_) #[true,true,true,false,false,false,false,false,false,false] rfl rfl (vE za.out (by kernel_rfl)) (fun _ _ _ h=>h) (Or.inl ⟨by rfl,?_⟩) ?_ ?_
        rotate_left
        ·intro w'
         go_simp
         with_reducible rfl
        rotate_left
        ·simp only [Act.put,List.setIfInBounds_toArray,List.set_cons_zero,List.set_cons_succ,uF,jZ]
         rfl
        refine ug (i:=4) (N:=some 21) (v:=?_) (a':=?_) #[true,true,true,false,true,false,false,false,false,false] rfl rfl (vE za.out (by kernel_rfl)) (fun _ _ _ h=>h) (Or.inl ⟨by rfl,?_⟩) ?_ ?_
        rotate_left
        ·intro w'
         go_simp
         with_reducible rfl
        rotate_left
        ·simp only [Act.put,List.setIfInBounds_toArray,List.set_cons_zero,List.set_cons_succ,uF,jZ]
         rfl
        refine ug (i:=5) (N:=some 22) (v:=?_) (a':=?_) #[true,true,true,false,true,true,false,false,false,false] rfl rfl (vE za.out (by kernel_rfl)) (fun _ _ _ h=>h) (Or.inl ⟨by rfl,?_⟩) ?_ ?_
        rotate_left
        ·intro w'
         go_simp
         with_reducible rfl
        rotate_left
        ·simp only [Act.put,List.setIfInBounds_toArray,List.set_cons_zero,List.set_cons_succ,uF,jZ]
         rfl
        refine ug (i:=6) (N:=some 23) (v:=?_) (a':=?_) #[true,true,true,false,true,true,true,false,false,false] rfl rfl (vE za.out (by kernel_rfl)) (fun _ _ _ h=>h) (Or.inl ⟨by rfl,?_⟩) ?_ ?_
        rotate_left
        ·intro w'
         go_simp
         with_reducible rfl
        rotate_left
        ·simp only [Act.put,List.setIfInBounds_toArray,List.set_cons_zero,List.set_cons_succ,uF,jZ]
         rfl
        refine VY (i:=3) (N:=some 20) (v:=?_) (a':=?_) #[true,true,true,true,true,true,true,false,false,false] rfl rfl (Ve za.out vC.out (by kernel_rfl)) (fun _ _ _ h=>h) (Or.inl ⟨by rfl,?_⟩) hHeld ?_ ?_
        rotate_left
        ·rintro w' ⟨s0,s1,s2,s3,s4,s5,s6,s7,s8,s9,s10,s11,s12,s13⟩
         go_simp
         with_reducible rfl
        rotate_left
        ·simp only [Act.put,List.setIfInBounds_toArray,List.set_cons_zero,List.set_cons_succ,uF,jZ]
         rfl
        refine VY (i:=7) (N:=some 24) (v:=?_) (a':=?_) #[true,true,true,true,true,true,true,true,false,false] rfl rfl (Ve za.out vC.out (by kernel_rfl)) (fun _ _ _ h=>h) (Or.inl ⟨by rfl,?_⟩) hHeld ?_ ?_
        rotate_left
        ·rintro w' ⟨s0,s1,s2,s3,s4,s5,s6,s7,s8,s9,s10,s11,s12,s13⟩
         go_simp
         with_reducible rfl
        rotate_left
        ·simp only [Act.put,List.setIfInBounds_toArray,List.set_cons_zero,List.set_cons_succ,uF,jZ]
         rfl
        refine Km (i:=8) (N:=some 25) #[true,true,true,true,true,true,true,true,true,false] rfl rfl (pO za.out (by kernel_rfl)) (by decide) (fun K hK=>?_)
        refine je Tryz.func53 (by kernel_rfl) rfl #[.agg #[.int .i64 ((yj l0 zR).f0),.int .i64 ((yj l0 zR).f1),.int .i64 ((yj l0 zR).f2),.int .i64 ((yj l0 zR).f3),.string ((yj l0 zR).f4),.string ((yj l0 zR).f5),.slice zzb ((yj l0 zR).f6).length zzc],.agg #[.int .i64 ((yj l1 zR).f0),.int .i64 ((yj l1 zR).f1),.int .i64 ((yj l1 zR).f2),.int .i64 ((yj l1 zR).f3),.string ((yj l1 zR).f4),.string ((yj l1 zR).f5),.slice zzd ((yj l1 zR).f6).length zze]] (by rfl) rfl rfl (by (try simp only [List.map_toArray,List.map_cons,List.map_nil]);first | done | rfl | (simp only [List.length_drop,List.length_take];rfl)) ?_
        with_reducible refine (yK.calls k1 ((yj l0 zR).f0) ((yj l0 zR).f1) ((yj l0 zR).f2) ((yj l0 zR).f3) ((yj l0 zR).f4) ((yj l0 zR).f5) _ _ ((yj l0 zR).f6) ((yj l1 zR).f0) ((yj l1 zR).f1) ((yj l1 zR).f2) ((yj l1 zR).f3) ((yj l1 zR).f4) ((yj l1 zR).f5) _ _ ((yj l1 zR).f6) true _ ?yc ?yI ?qy ?qw A7.out).mono ?_
        (case yc=>exact ql (Kd.zu iD.out HB.out))
        (case yI=>exact zkk.out)
        (case qy=>exact ql (Kd.zu iG.out HB.out))
        (case qw=>exact zky.out)
        rintro e Po ⟨rfl,hb⟩
        refine ⟨_,rfl,?_⟩
        have zJ:=zx.mk (zo (zH HB.out) hb)
        clear HB
        have HB:=zJ
        clear zJ
        (try clear hb)
        refine hK.out _ _ ⟨((HB.out.cell (World.block_lt_of_cell? w _ QO)).trans QO),((HB.out.cell (World.block_lt_of_cell? w _ QN)).trans QN),((HB.out.cell (World.block_lt_of_cell? w _ QM)).trans QM),((HB.out.cell (World.block_lt_of_cell? w _ QL)).trans QL),((HB.out.cell (World.block_lt_of_cell? w _ QI)).trans QI),((HB.out.cell (World.block_lt_of_cell? w _ QH)).trans QH),((HB.out.cell (World.block_lt_of_cell? w _ QG)).trans QG),((HB.out.cell (World.block_lt_of_cell? w _ Q7)).trans Q7),((HB.out.cell (World.block_lt_of_cell? w _ Q6)).trans Q6),((HB.out.cell (World.block_lt_of_cell? w _ Q5)).trans Q5),((HB.out.cell (World.block_lt_of_cell? w _ Q0)).trans Q0),((HB.out.cell (World.block_lt_of_cell? w _ QU)).trans QU),((HB.out.cell (World.block_lt_of_cell? w _ QT)).trans QT),((HB.out.cell (World.block_lt_of_cell? w _ QS)).trans QS)⟩ (fun hHeld=>?_)
        clear hK K
        refine J7 (a':=?_) ?_ ?_
        rotate_left
        ·show Act.put _ (some 25) _ = _
         simp only [Act.put,List.setIfInBounds_toArray,List.set_cons_zero,List.set_cons_succ,uF,jZ]
         rfl
        refine ug (i:=9) (N:=some 26) (v:=?_) (a':=?_) #[true,true,true,true,true,true,true,true,true,true] rfl rfl (vE za.out (by kernel_rfl)) (fun _ _ _ h=>h) (Or.inl ⟨by rfl,?_⟩) ?_ ?_
        rotate_left
        ·intro w'
         go_simp
         with_reducible rfl
        rotate_left
        ·simp only [Act.put,List.setIfInBounds_toArray,List.set_cons_zero,List.set_cons_succ,uF,jZ]
         rfl
        refine xP (qH za.out (by kernel_rfl)) ?_
        try go_wp2
        go_roundg k1
        case measure=>have:=uK.out;omega
        case rel=>exact ⟨(wrap64 (zR + 1)),(by first | rfl | (simp;done) | (simp [*];done)),H',⟨by have:=uK.out;omega⟩,⟨zH HB.out⟩⟩
       ·replace c8:=Bool.eq_false_iff.mpr c8
        subst c8
        have H1:(some false) = some r:=by rw [if_neg (show ¬ (false = true) by decide)] at H;exact H
        clear H
        have H:=H1
        clear H1
        obtain rfl:=Option.some.inj H
        try go_wp2
        have zJ:=zx.mk (zT HB.out)
        clear HB
        have HB:=zJ
        clear zJ
        have zxk:0 ≤ (zR:Int):=of_decide_eq_true yE
        have zxy:zR < (l0.length:Int):=of_decide_eq_true yE
        obtain ⟨wD,zzb,zzc,zcv,Y5,Y6,Y7,Y8,Y9,Xz,Xq,iA,iB⟩:=Vy jW.out zR zxk zxy
        have QG:=Xq
        have QH:=Xz
        have QI:=Y9
        have QL:=Y8
        have QM:=Y7
        have QN:=Y6
        have QO:=Y5
        cases zcv
        replace Y5:=(HB.out.cell (World.block_lt_of_cell? w _ Y5)).trans Y5
        replace Y6:=(HB.out.cell (World.block_lt_of_cell? w _ Y6)).trans Y6
        replace Y7:=(HB.out.cell (World.block_lt_of_cell? w _ Y7)).trans Y7
        replace Y8:=(HB.out.cell (World.block_lt_of_cell? w _ Y8)).trans Y8
        replace Y9:=(HB.out.cell (World.block_lt_of_cell? w _ Y9)).trans Y9
        replace Xz:=(HB.out.cell (World.block_lt_of_cell? w _ Xz)).trans Xz
        replace Xq:=(HB.out.cell (World.block_lt_of_cell? w _ Xq)).trans Xq
        have iD:=zx.mk iB
        have zkk:=zx.mk iA
        clear iB iA
        replace zxk:=eq_true zxk
        replace zxy:=eq_true zxy
        have zxw:0 ≤ (zR:Int):=of_decide_eq_true yE
        have zxZ:zR < (l1.length:Int):=of_decide_eq_true yE
        obtain ⟨wE,zzd,zze,e294,Xx,Xj,Xv,Xk,Xy,Xw,XZ,iE,iF⟩:=Vy HR1.out zR zxw zxZ
        have QS:=XZ
        have QT:=Xw
        have QU:=Xy
        have Q0:=Xk
        have Q5:=Xv
        have Q6:=Xj
        have Q7:=Xx
        cases e294
        replace Xx:=(HB.out.cell (World.block_lt_of_cell? w _ Xx)).trans Xx
        replace Xj:=(HB.out.cell (World.block_lt_of_cell? w _ Xj)).trans Xj
        replace Xv:=(HB.out.cell (World.block_lt_of_cell? w _ Xv)).trans Xv
        replace Xk:=(HB.out.cell (World.block_lt_of_cell? w _ Xk)).trans Xk
        replace Xy:=(HB.out.cell (World.block_lt_of_cell? w _ Xy)).trans Xy
        replace Xw:=(HB.out.cell (World.block_lt_of_cell? w _ Xw)).trans Xw
        replace XZ:=(HB.out.cell (World.block_lt_of_cell? w _ XZ)).trans XZ
        have iG:=zx.mk iF
        have zky:=zx.mk iE
        clear iF iE
        replace zxw:=eq_true zxw
        replace zxZ:=eq_true zxZ
        refine jy (n:=10) (S:=fun w'=>w'.cell? (wD.add ((zR).toNat * 7)) = some (.int .i64 ((yj l0 zR).f0)) ∧ w'.cell? ⟨(wD.add ((zR).toNat * 7)).block,(wD.add ((zR).toNat * 7)).off + 1,none⟩ = some (.int .i64 ((yj l0 zR).f1)) ∧ w'.cell? ⟨(wD.add ((zR).toNat * 7)).block,(wD.add ((zR).toNat * 7)).off + 2,none⟩ = some (.int .i64 ((yj l0 zR).f2)) ∧ w'.cell? ⟨(wD.add ((zR).toNat * 7)).block,(wD.add ((zR).toNat * 7)).off + 3,none⟩ = some (.int .i64 ((yj l0 zR).f3)) ∧ w'.cell? ⟨(wD.add ((zR).toNat * 7)).block,(wD.add ((zR).toNat * 7)).off + 4,none⟩ = some (.string ((yj l0 zR).f4)) ∧ w'.cell? ⟨(wD.add ((zR).toNat * 7)).block,(wD.add ((zR).toNat * 7)).off + 5,none⟩ = some (.string ((yj l0 zR).f5)) ∧ w'.cell? ⟨(wD.add ((zR).toNat * 7)).block,(wD.add ((zR).toNat * 7)).off + 6,none⟩ = some (.slice zzb ((yj l0 zR).f6).length zzc) ∧ w'.cell? (wE.add ((zR).toNat * 7)) = some (.int .i64 ((yj l1 zR).f0)) ∧ w'.cell? ⟨(wE.add ((zR).toNat * 7)).block,(wE.add ((zR).toNat * 7)).off + 1,none⟩ = some (.int .i64 ((yj l1 zR).f1)) ∧ w'.cell? ⟨(wE.add ((zR).toNat * 7)).block,(wE.add ((zR).toNat * 7)).off + 2,none⟩ = some (.int .i64 ((yj l1 zR).f2)) ∧ w'.cell? ⟨(wE.add ((zR).toNat * 7)).block,(wE.add ((zR).toNat * 7)).off + 3,none⟩ = some (.int .i64 ((yj l1 zR).f3)) ∧ w'.cell? ⟨(wE.add ((zR).toNat * 7)).block,(wE.add ((zR).toNat * 7)).off + 4,none⟩ = some (.string ((yj l1 zR).f4)) ∧ w'.cell? ⟨(wE.add ((zR).toNat * 7)).block,(wE.add ((zR).toNat * 7)).off + 5,none⟩ = some (.string ((yj l1 zR).f5)) ∧ w'.cell? ⟨(wE.add ((zR).toNat * 7)).block,(wE.add ((zR).toNat * 7)).off + 6,none⟩ = some (.slice zzd ((yj l1 zR).f6).length zze)) (ds:=[]) #[false,false,false,false,false,false,false,false,false,false] (by kernel_rfl) rfl rfl ⟨((HB.out.cell (World.block_lt_of_cell? w _ QO)).trans QO),((HB.out.cell (World.block_lt_of_cell? w _ QN)).trans QN),((HB.out.cell (World.block_lt_of_cell? w _ QM)).trans QM),((HB.out.cell (World.block_lt_of_cell? w _ QL)).trans QL),((HB.out.cell (World.block_lt_of_cell? w _ QI)).trans QI),((HB.out.cell (World.block_lt_of_cell? w _ QH)).trans QH),((HB.out.cell (World.block_lt_of_cell? w _ QG)).trans QG),((HB.out.cell (World.block_lt_of_cell? w _ Q7)).trans Q7),((HB.out.cell (World.block_lt_of_cell? w _ Q6)).trans Q6),((HB.out.cell (World.block_lt_of_cell? w _ Q5)).trans Q5),((HB.out.cell (World.block_lt_of_cell? w _ Q0)).trans Q0),((HB.out.cell (World.block_lt_of_cell? w _ QU)).trans QU),((HB.out.cell (World.block_lt_of_cell? w _ QT)).trans QT),((HB.out.cell (World.block_lt_of_cell? w _ QS)).trans QS)⟩ (fun hHeld=>?_);refine uZ yu.ny yu.PY (fun za vC=>?_)
        generalize wr.drew = oq at HB iD iG Y5 Y6 Y7 Y8 Y9 Xz Xq Xx Xj Xv Xk Xy Xw XZ hHeld ⊢
        refine ug (i:=0) (N:=some 17) (v:=?_) (a':=?_) #[true,false,false,false,false,false,false,false,false,false] rfl rfl (vE za.out (by kernel_rfl)) (fun _ _ _ h=>h) (Or.inl ⟨by rfl,?_⟩) ?_ ?_
        rotate_left
        ·intro w'
         go_simp
         with_reducible rfl
        rotate_left
        ·simp only [Act.put,List.setIfInBounds_toArray,List.set_cons_zero,List.set_cons_succ,uF,jZ]
         rfl
        refine ug (i:=1) (N:=some 18) (v:=?_) (a':=?_) #[true,true,false,false,false,false,false,false,false,false] rfl rfl (vE za.out (by kernel_rfl)) (fun _ _ _ h=>h) (Or.inl ⟨by rfl,?_⟩) ?_ ?_
        rotate_left
        ·intro w'
         go_simp
         with_reducible rfl
        rotate_left
        ·simp only [Act.put,List.setIfInBounds_toArray,List.set_cons_zero,List.set_cons_succ,uF,jZ]
         rfl
        refine ug (i:=2) (N:=some 19) (v:=?_) (a':=?_) #[true,true,true,false,false,false,false,false,false,false] rfl rfl (vE za.out (by kernel_rfl)) (fun _ _ _ h=>h) (Or.inl ⟨by rfl,?_⟩) ?_ ?_
        rotate_left
        ·intro w'
         go_simp
         with_reducible rfl
        rotate_left
        ·simp only [Act.put,List.setIfInBounds_toArray,List.set_cons_zero,List.set_cons_succ,uF,jZ]
         rfl
        refine ug (i:=4) (N:=some 21) (v:=?_) (a':=?_) #[true,true,true,false,true,false,false,false,false,false] rfl rfl (vE za.out (by kernel_rfl)) (fun _ _ _ h=>h) (Or.inl ⟨by rfl,?_⟩) ?_ ?_
        rotate_left
        ·intro w'
         go_simp
         with_reducible rfl
        rotate_left
        ·simp only [Act.put,List.setIfInBounds_toArray,List.set_cons_zero,List.set_cons_succ,uF,jZ]
         rfl
        refine ug (i:=5) (N:=some 22) (v:=?_) (a':=?_) #[true,true,true,false,true,true,false,false,false,false] rfl rfl (vE za.out (by kernel_rfl)) (fun _ _ _ h=>h) (Or.inl ⟨by rfl,?_⟩) ?_ ?_
        rotate_left
        ·intro w'
         go_simp
         with_reducible rfl
        rotate_left
        ·simp only [Act.put,List.setIfInBounds_toArray,List.set_cons_zero,List.set_cons_succ,uF,jZ]
         rfl
        refine ug (i:=6) (N:=some 23) (v:=?_) (a':=?_) #[true,true,true,false,true,true,true,false,false,false] rfl rfl (vE za.out (by kernel_rfl)) (fun _ _ _ h=>h) (Or.inl ⟨by rfl,?_⟩) ?_ ?_
        rotate_left
        ·intro w'
         go_simp
         with_reducible rfl
        rotate_left
        ·simp only [Act.put,List.setIfInBounds_toArray,List.set_cons_zero,List.set_cons_succ,uF,jZ]
         rfl
        refine VY (i:=3) (N:=some 20) (v:=?_) (a':=?_) #[true,true,true,true,true,true,true,false,false,false] rfl rfl (Ve za.out vC.out (by kernel_rfl)) (fun _ _ _ h=>h) (Or.inl ⟨by rfl,?_⟩) hHeld ?_ ?_
        rotate_left
        ·rintro w' ⟨s0,s1,s2,s3,s4,s5,s6,s7,s8,s9,s10,s11,s12,s13⟩
         go_simp
         with_reducible rfl
        rotate_left
        ·simp only [Act.put,List.setIfInBounds_toArray,List.set_cons_zero,List.set_cons_succ,uF,jZ]
         rfl
        refine VY (i:=7) (N:=some 24) (v:=?_) (a':=?_) #[true,true,true,true,true,true,true,true,false,false] rfl rfl (Ve za.out vC.out (by kernel_rfl)) (fun _ _ _ h=>h) (Or.inl ⟨by rfl,?_⟩) hHeld ?_ ?_
        rotate_left
        ·rintro w' ⟨s0,s1,s2,s3,s4,s5,s6,s7,s8,s9,s10,s11,s12,s13⟩
         go_simp
         with_reducible rfl
        rotate_left
        ·simp only [Act.put,List.setIfInBounds_toArray,List.set_cons_zero,List.set_cons_succ,uF,jZ]
         rfl
        refine Km (i:=8) (N:=some 25) #[true,true,true,true,true,true,true,true,true,false] rfl rfl (pO za.out (by kernel_rfl)) (by decide) (fun K hK=>?_)
        refine je Tryz.func53 (by kernel_rfl) rfl #[.agg #[.int .i64 ((yj l0 zR).f0),.int .i64 ((yj l0 zR).f1),.int .i64 ((yj l0 zR).f2),.int .i64 ((yj l0 zR).f3),.string ((yj l0 zR).f4),.string ((yj l0 zR).f5),.slice zzb ((yj l0 zR).f6).length zzc],.agg #[.int .i64 ((yj l1 zR).f0),.int .i64 ((yj l1 zR).f1),.int .i64 ((yj l1 zR).f2),.int .i64 ((yj l1 zR).f3),.string ((yj l1 zR).f4),.string ((yj l1 zR).f5),.slice zzd ((yj l1 zR).f6).length zze]] (by rfl) rfl rfl (by (try simp only [List.map_toArray,List.map_cons,List.map_nil]);first | done | rfl | (simp only [List.length_drop,List.length_take];rfl)) ?_
        with_reducible refine (yK.calls k1 ((yj l0 zR).f0) ((yj l0 zR).f1) ((yj l0 zR).f2) ((yj l0 zR).f3) ((yj l0 zR).f4) ((yj l0 zR).f5) _ _ ((yj l0 zR).f6) ((yj l1 zR).f0) ((yj l1 zR).f1) ((yj l1 zR).f2) ((yj l1 zR).f3) ((yj l1 zR).f4) ((yj l1 zR).f5) _ _ ((yj l1 zR).f6) false _ ?yc ?yI ?qy ?qw A7.out).mono ?_
        (case yc=>exact ql (Kd.zu iD.out HB.out))
        (case yI=>exact zkk.out)
        (case qy=>exact ql (Kd.zu iG.out HB.out))
        (case qw=>exact zky.out)
        rintro e Yq ⟨rfl,hb⟩
        refine ⟨_,rfl,?_⟩
        have zJ:=zx.mk (zo (zH HB.out) hb)
        clear HB
        have HB:=zJ
        clear zJ
        (try clear hb)
        refine hK.out _ _ ⟨((HB.out.cell (World.block_lt_of_cell? w _ QO)).trans QO),((HB.out.cell (World.block_lt_of_cell? w _ QN)).trans QN),((HB.out.cell (World.block_lt_of_cell? w _ QM)).trans QM),((HB.out.cell (World.block_lt_of_cell? w _ QL)).trans QL),((HB.out.cell (World.block_lt_of_cell? w _ QI)).trans QI),((HB.out.cell (World.block_lt_of_cell? w _ QH)).trans QH),((HB.out.cell (World.block_lt_of_cell? w _ QG)).trans QG),((HB.out.cell (World.block_lt_of_cell? w _ Q7)).trans Q7),((HB.out.cell (World.block_lt_of_cell? w _ Q6)).trans Q6),((HB.out.cell (World.block_lt_of_cell? w _ Q5)).trans Q5),((HB.out.cell (World.block_lt_of_cell? w _ Q0)).trans Q0),((HB.out.cell (World.block_lt_of_cell? w _ QU)).trans QU),((HB.out.cell (World.block_lt_of_cell? w _ QT)).trans QT),((HB.out.cell (World.block_lt_of_cell? w _ QS)).trans QS)⟩ (fun hHeld=>?_)
        clear hK K
        refine J7 (a':=?_) ?_ ?_
        rotate_left
        ·show Act.put _ (some 25) _ = _
         simp only [Act.put,List.setIfInBounds_toArray,List.set_cons_zero,List.set_cons_succ,uF,jZ]
         rfl
        refine ug (i:=9) (N:=some 26) (v:=?_) (a':=?_) #[true,true,true,true,true,true,true,true,true,true] rfl rfl (vE za.out (by kernel_rfl)) (fun _ _ _ h=>h) (Or.inl ⟨by rfl,?_⟩) ?_ ?_
        rotate_left
        ·intro w'
         go_simp
         with_reducible rfl
        rotate_left
        ·simp only [Act.put,List.setIfInBounds_toArray,List.set_cons_zero,List.set_cons_succ,uF,jZ]
         rfl
        refine xP (qH za.out (by kernel_rfl)) ?_
        try go_wp2
        go_ret
        exact ⟨by first | rfl | (simp [zM,zN] <;> rfl) | (simp [*,zM,zN] <;> rfl),by repeat (first | (with_reducible first | exact HB.out | apply yV | apply zP | apply zT) | exact HB.out)⟩
      ·rw [if_neg c6] at H
       exact absurd H (by simp)
     ·rw [if_neg c5] at H
      exact absurd H (by simp)
    ·rw [if_neg c4] at H
     have ZI:decide (zR < (l0.length:Int)) = false:=decide_eq_false c4
     clear c4
     obtain rfl:=Option.some.inj H
     go_wp2
     go_ret
     exact ⟨by first | rfl | (simp [zM,zN] <;> rfl) | (simp [*,zM,zN] <;> rfl),by repeat (first | (with_reducible first | exact HB.out | apply yV | apply zP | apply zT) | exact HB.out)⟩
 ·rw [if_neg c3] at H
  have Zh:((l0.length:Int) == (l1.length:Int)) = false:=beq_eq_false_iff_ne.mpr c3
  have gZ:((l0.length:Int) != (l1.length:Int)) = true:=bne_iff_ne.mpr c3
  have zwx:(l0.length == l1.length) = false:=by first | simpa using c3 | (simp at c3 ⊢;omega)
  obtain rfl:=Option.some.inj H
  go_enter Tryz.func18,Tryz.ntmps18
  go_wp2
  go_ret
  exact ⟨by first | rfl | (simp [zM,zN] <;> rfl) | (simp [*,zM,zN] <;> rfl),by repeat (first | (with_reducible first | exact HB.out | apply yV | apply zP | apply zT) | exact HB.out)⟩
end Go.Proofs.YtggifbbiiickmaaGreatDoor.PX
namespace Go.Proofs.YtggifbbiiickmaaGreatDoor.PX
open Go.RowKit Go.Proofs.zk.zA Go.Proofs.zk.yB Go.Proofs.zk.yA
attribute [local go_sem] xR xS vM vN xB xC xU vv   -- for this text's walks alone
set_option linter.unusedVariables false
set_option linter.unusedSimpArgs false
def qV.l0:Nat → List ByteArray → List ByteArray → Int → Option (Bool)
 | 0,_,_,_=>none
 | k + 1,x0,x1,x5=>if x5 < (x0.length:Int) then (if 0 ≤ x5 then (if x5 < (x1.length:Int) then (if (qJ ByteArray.empty x0 x5).toList = (qJ ByteArray.empty x1 x5).toList then (qV.l0 k x0 x1 (wrap64 (x5 + 1))) else (some false)) else (none)) else (none)) else (some true)
def qV.f (k:Nat) (l0:List ByteArray) (l1:List ByteArray):Option (Bool):=if (l0.length:Int) = (l1.length:Int) then (qV.l0 k l0 l1 0) else (some false)
set_option maxHeartbeats 8000000 in
set_option maxRecDepth 100000 in
theorem qV.calls (k:Nat) (A0:Option Addr) (c0:Nat) (l0:List ByteArray) (A1:Option Addr) (c1:Nat) (l1:List ByteArray) (r:Bool) (w:World) (hr0:Kd.C Kd.string w A0 l0.length l0) (hc0:l0.length ≤ c0) (hr1:Kd.C Kd.string w A1 l1.length l1) (hc1:l1.length ≤ c1) (h:qV.f k l0 l1 = some r) :
  Calls Tryz.prog 17 #[.slice A0 l0.length c0,.slice A1 l1.length c1] w fun e w'=>e = .returned (.bool r) ∧ yg w w':=by
 have jW:=zx.mk hr0
 have Q9:=zx.mk hc0
 clear hr0 hc0
 have HR1:=zx.mk hr1
 have HC1:=zx.mk hc1
 clear hr1 hc1
 have H:(if (l0.length:Int) = (l1.length:Int) then (qV.l0 k l0 l1 0) else (some false)) = some r:=h
 clear h
 by_cases c3:(l0.length:Int) = (l1.length:Int)
 ·rw [if_pos c3] at H
  have Zh:((l0.length:Int) == (l1.length:Int)) = true:=beq_iff_eq.mpr c3
  have gZ:((l0.length:Int) != (l1.length:Int)) = false:=bne_eq_false_iff_eq.mpr c3
  have zwx:(l0.length == l1.length) = true:=by first | simpa using c3 | (simp at c3 ⊢;omega)
  clear c3
  have H':=zx.mk H
  clear H
  go_enter Tryz.func17,Tryz.ntmps17
  go_wp2
  repeat (go_quiet (fail);try go_wp2)
  go_loopg [5] k (fun kq v5 w'=>∃ (zR:Int),v5 = .int .i64 zR ∧ zx (qV.l0 kq l0 l1 zR = some r) ∧ zx (kq ≤ k) ∧ yg w w')
  case atStart=>exact ⟨(0),(by first | rfl | (simp;done) | (simp [*];done)),H',⟨Nat.le_refl _⟩,by repeat (first | exact yg.refl _ | apply yg.step)⟩
  case round =>
   clear H'
   try clear c1
   try clear c3
   try clear Zh
   try clear gZ
   try clear zwx
   obtain ⟨zR,rfl,HA,uK,⟨m1,rfl⟩⟩:=hrel
   cases gk with
   | zero=>exact absurd HA.out (by simp [qV.l0])
   | succ k1 =>
    have H:=HA.out
    clear HA
    simp only [qV.l0] at H
    by_cases c4:zR < (l0.length:Int)
    ·rw [if_pos c4] at H
     have ZI:decide (zR < (l0.length:Int)) = true:=decide_eq_true c4
     clear c4
     by_cases c5:0 ≤ zR
     ·rw [if_pos c5] at H
      have wR:decide (0 ≤ zR) = true:=decide_eq_true c5
      clear c5
      by_cases c6:zR < (l1.length:Int)
      ·rw [if_pos c6] at H
       have pq:decide (zR < (l1.length:Int)) = true:=decide_eq_true c6
       clear c6
       by_cases c7:(qJ ByteArray.empty l0 zR).toList = (qJ ByteArray.empty l1 zR).toList
       ·rw [if_pos c7] at H
        have XJ:((qJ ByteArray.empty l0 zR).toList == (qJ ByteArray.empty l1 zR).toList) = true:=beq_iff_eq.mpr c7
        have lZ:((qJ ByteArray.empty l0 zR).toList != (qJ ByteArray.empty l1 zR).toList) = false:=bne_eq_false_iff_eq.mpr c7
        clear c7
        have H':=zx.mk H
        clear H
        have zxQ:0 ≤ (zR:Int):=of_decide_eq_true yE
        have zxX:zR < (l0.length:Int):=of_decide_eq_true yE
        obtain ⟨zm7,e287,zfA⟩:=Kd.uw jW.out zR zxQ zxX
        cases e287
        replace zxQ:=eq_true zxQ
        replace zxX:=eq_true zxX
        have zxJ:0 ≤ (zR:Int):=of_decide_eq_true yE
        have zxV:zR < (l1.length:Int):=of_decide_eq_true yE
        obtain ⟨zm8,e288,zfB⟩:=Kd.uw HR1.out zR zxJ zxV
        cases e288
        replace zxJ:=eq_true zxJ
        replace zxV:=eq_true zxV
        go_wp2
        repeat (go_quiet (fail);try go_wp2)
        go_roundg k1
        case measure=>have:=uK.out;omega
        case rel=>exact ⟨(wrap64 (zR + 1)),(by first | rfl | (simp;done) | (simp [*];done)),H',⟨by have:=uK.out;omega⟩,by repeat (first | exact yg.refl _ | apply yg.step)⟩
       ·rw [if_neg c7] at H
        have XJ:((qJ ByteArray.empty l0 zR).toList == (qJ ByteArray.empty l1 zR).toList) = false:=beq_eq_false_iff_ne.mpr c7
        have lZ:((qJ ByteArray.empty l0 zR).toList != (qJ ByteArray.empty l1 zR).toList) = true:=bne_iff_ne.mpr c7
        obtain rfl:=Option.some.inj H
        have zxQ:0 ≤ (zR:Int):=of_decide_eq_true yE
        have zxX:zR < (l0.length:Int):=of_decide_eq_true yE
        obtain ⟨zm7,e287,zfA⟩:=Kd.uw jW.out zR zxQ zxX
        cases e287
        replace zxQ:=eq_true zxQ
        replace zxX:=eq_true zxX
        have zxJ:0 ≤ (zR:Int):=of_decide_eq_true yE
        have zxV:zR < (l1.length:Int):=of_decide_eq_true yE
        obtain ⟨zm8,e288,zfB⟩:=Kd.uw HR1.out zR zxJ zxV
        cases e288
        replace zxJ:=eq_true zxJ
        replace zxV:=eq_true zxV
        go_wp2
        repeat (go_quiet (fail);try go_wp2)
        go_ret
        exact ⟨by first | rfl | (simp;done) | (simp [*];done),by repeat (first | exact yg.refl _ | apply yg.step)⟩
      ·rw [if_neg c6] at H
       exact absurd H (by simp)
     ·rw [if_neg c5] at H
      exact absurd H (by simp)
    ·rw [if_neg c4] at H
     have ZI:decide (zR < (l0.length:Int)) = false:=decide_eq_false c4
     clear c4
     obtain rfl:=Option.some.inj H
     go_wp2
     repeat (go_quiet (fail);try go_wp2)
     go_ret
     exact ⟨by first | rfl | (simp;done) | (simp [*];done),by repeat (first | exact yg.refl _ | apply yg.step)⟩
 ·rw [if_neg c3] at H
  have Zh:((l0.length:Int) == (l1.length:Int)) = false:=beq_eq_false_iff_ne.mpr c3
  have gZ:((l0.length:Int) != (l1.length:Int)) = true:=bne_iff_ne.mpr c3
  have zwx:(l0.length == l1.length) = false:=by first | simpa using c3 | (simp at c3 ⊢;omega)
  obtain rfl:=Option.some.inj H
  go_enter Tryz.func17,Tryz.ntmps17
  go_wp2
  repeat (go_quiet (fail);try go_wp2)
  go_ret
  exact ⟨by first | rfl | (simp;done) | (simp [*];done),by repeat (first | exact yg.refl _ | apply yg.step)⟩
end Go.Proofs.YtggifbbiiickmaaGreatDoor.PX
namespace Go.Proofs.YtggifbbiiickmaaGreatDoor.PX
open Go.RowKit Go.Proofs.zk.zA Go.Proofs.zk.yB Go.Proofs.zk.yA
attribute [local go_sem] xR xS vM vN xB xC xU vv   -- for this text's walks alone
set_option linter.unusedVariables false
set_option linter.unusedSimpArgs false
end Go.Proofs.YtggifbbiiickmaaGreatDoor.PX
namespace Go.Proofs.YtggifbbiiickmaaGreatDoor.PX
open Go.RowKit Go.Proofs.zk.zA Go.Proofs.zk.yB Go.Proofs.zk.yA
attribute [local go_sem] xR xS vM vN xB xC xU vv   -- for this text's walks alone
set_option linter.unusedVariables false
set_option linter.unusedSimpArgs false
end Go.Proofs.YtggifbbiiickmaaGreatDoor.PX
namespace Go.Proofs.YtggifbbiiickmaaGreatDoor
open Go.RowKit Go.Proofs.zk.zA Go.Proofs.zk.yB Go.Proofs.zk.yA Go.Proofs.YtggifbbiiickmaaGreatDoor.PX
set_option linter.unusedSimpArgs false
set_option linter.unusedVariables false
theorem zWt (b:wV) (hl:b.f6.length ≤ 1000000000):∀ d i,i + d = b.f6.length → Ev (fun k=>yK.l0 k (i:Int) b.f0 b.f1 b.f2 b.f3 b.f4 b.f5 b.f6 b.f0 b.f1 b.f2 b.f3 b.f4 b.f5 b.f6) true:=by
 intro d
 induction d with
 | zero=>intro i h;exact Ev.step (fun k=>by rw [yK.l0]) (xW (by omega) (Ev.now _))
 | succ d ih =>
  intro i h
  have hw:wrap64 ((i:Int) + 1) = ((i + 1:Nat):Int):=(kQ (by omega) (by omega)).trans (by omega)
  have q1:(i:Int) < (b.f6.length:Int):=by omega
  have q2:(0:Int) ≤ (i:Int):=by omega
  have hr:=ih (i + 1) (by omega)
  exact Ev.step (fun k=>by rw [yK.l0,hw]) (yJ q1 (yJ q2 (yJ q1 (yJ rfl hr))))
theorem zwj (b:wV) (hl:b.f6.length ≤ 1000000000):Ev (fun k=>yK.f k b.f0 b.f1 b.f2 b.f3 b.f4 b.f5 b.f6 b.f0 b.f1 b.f2 b.f3 b.f4 b.f5 b.f6) true:=by
 have h:Ev (fun k=>yK.l0 k 0 b.f0 b.f1 b.f2 b.f3 b.f4 b.f5 b.f6 b.f0 b.f1 b.f2 b.f3 b.f4 b.f5 b.f6) true:=zWt b hl b.f6.length 0 (by omega)
 have e:((b.f6.length:Int) != (b.f6.length:Int)) = false:=by simp
 have h0:Ev (fun k=>yK.j0 k false b.f0 b.f1 b.f2 b.f3 b.f4 b.f5 b.f6 b.f0 b.f1 b.f2 b.f3 b.f4 b.f5 b.f6) true :=
  Ev.step (fun k=>by rw [yK.j0]) (xW Bool.false_ne_true h)
 exact Ev.congr (fun k=>by rw [yK.f,e]) (yJ rfl (yJ rfl (yJ rfl (yJ rfl (yJ rfl (yJ rfl h0))))))
theorem zh2 (l:List wV) (hl:l.length ≤ 1000000000) (hb:∀ b ∈ l,b.f6.length ≤ 1000000000):∀ d i,i + d = l.length → Ev (fun k=>yu.l0 k l l (i:Int)) true:=by
 intro d
 induction d with
 | zero=>intro i h;exact Ev.step (fun k=>by rw [yu.l0]) (xW (by omega) (Ev.now _))
 | succ d ih =>
  intro i h
  have hi:i < l.length:=by omega
  have hw:wrap64 ((i:Int) + 1) = ((i + 1:Nat):Int):=(kQ (by omega) (by omega)).trans (by omega)
  have q1:(i:Int) < (l.length:Int):=by omega
  have q2:(0:Int) ≤ (i:Int):=by omega
  have hr:=ih (i + 1) (by omega)
  have hd:=rdB l i _ (List.getElem?_eq_getElem hi)
  have hs:=zwj l[i] (hb _ (List.getElem_mem hi))
  exact Ev.step (fun k=>by rw [yu.l0,hw,hd]) (yJ q1 (yJ q2 (yJ q1 (Ev.bind hs (yJ rfl hr)))))
theorem zWu (l:List wV) (hl:l.length ≤ 1000000000) (hb:∀ b ∈ l,b.f6.length ≤ 1000000000):Ev (fun k=>yu.f k l l) true :=
 Ev.congr (fun k=>by rw [yu.f];rfl) (yJ rfl (zh2 l hl hb l.length 0 (by omega)))
theorem zh3 (l:List ByteArray) (hl:l.length ≤ 1000000000):∀ d i,i + d = l.length → Ev (fun k=>qV.l0 k l l (i:Int)) true:=by
 intro d
 induction d with
 | zero=>intro i h;exact Ev.step (fun k=>by rw [qV.l0]) (xW (by omega) (Ev.now _))
 | succ d ih =>
  intro i h
  have hw:wrap64 ((i:Int) + 1) = ((i + 1:Nat):Int):=(kQ (by omega) (by omega)).trans (by omega)
  have q1:(i:Int) < (l.length:Int):=by omega
  have q2:(0:Int) ≤ (i:Int):=by omega
  have hr:=ih (i + 1) (by omega)
  exact Ev.step (fun k=>by rw [qV.l0,hw]) (yJ q1 (yJ q2 (yJ q1 (yJ rfl hr))))
theorem zWA (l:List ByteArray) (hl:l.length ≤ 1000000000):Ev (fun k=>qV.f k l l) true :=
 Ev.congr (fun k=>by rw [qV.f];rfl) (yJ rfl (zh3 l hl l.length 0 (by omega)))
end Go.Proofs.YtggifbbiiickmaaGreatDoor
namespace Go.Proofs.YtggifbbiiickmaaGreatDoor
open Go.RowKit Go.Proofs.zk.zA Go.Proofs.zk.yB Go.Proofs.zk.yA Go.Proofs.YtggifbbiiickmaaGreatDoor.PX
set_option linter.unusedSimpArgs false
set_option linter.unusedVariables false
theorem zWB (J:ByteArray → ByteArray → ByteArray × Bool) (l:List ByteArray):(kU J l).length ≤ l.length:=zqd J _ l (Nat.le_refl _)
theorem zfC (l:List qO) (f s:Int) (kn:Bool) (ns:List ByteArray):∀ b ∈ (Vj l f s kn ns).1,b.f6 = []:=by
 have key:∀ (ns:List ByteArray) (st:List wV × List ByteArray),(∀ b ∈ st.1,b.f6 = []) → ∀ b ∈ (ns.foldl (Yp l f s kn) st).1,b.f6 = []:=by
  intro ns
  induction ns with
  | nil=>intro st h;exact h
  | cons n r ih =>
   intro st h
   refine ih _ ?_
   unfold Yp
   split
   ·exact h
   ·intro b hb
    simp only [List.mem_append,List.mem_singleton] at hb
    rcases hb with (hb | hb) | rfl
    ·exact h b hb
    ·unfold Zn at hb
     split at hb
     ·cases hb
     ·split at hb
      ·split at hb
       ·cases hb
       ·rw [List.mem_singleton] at hb
        rw [hb];rfl
      ·cases hb
    ·rfl
 exact key ns ([],[]) (fun b hb=>by cases hb)
theorem zwv (l:List qO) (f s:Int) (lg kn:Bool) (chars:List ByteArray) (pairs:List wB):(pV l f s lg kn chars pairs).1.length ≤ 4000 ∧ (pV l f s lg kn chars pairs).2.1.length ≤ 2000 ∧ ∀ b ∈ (pV l f s lg kn chars pairs).1,b.f6 = []:=by
 unfold pV
 by_cases h:ZW l f s chars pairs = true
 ·rw [if_pos h]
  exact ⟨Nat.zero_le _,Nat.zero_le _,fun b hb=>by cases hb⟩
 ·rw [if_neg h]
  have hc:chars.length ≤ 2000:=by
   rcases Nat.lt_or_ge 2000 chars.length with h1 | h1
   ·exact absurd (by unfold ZW;rw [decide_eq_true h1];simp) h
   ·exact h1
  have h1:=zcx l f s kn (YI l f lg chars pairs)
  have h2:=zK7 l f lg chars pairs
  exact ⟨by show (Vj l f s kn (YI l f lg chars pairs)).1.length ≤ 4000;omega,by show (Vj l f s kn (YI l f lg chars pairs)).2.length ≤ 2000;omega,zfC l f s kn _⟩
theorem zWC (l:List qO) (f s:Int) (lg kn:Bool) (chars:List ByteArray) (pairs:List wB) :
  Ev (fun k=>if (pV l f s lg kn chars pairs).2.2 = (pV l f s lg kn chars pairs).2.2 then ((qV.f k (pV l f s lg kn chars pairs).2.1 (pV l f s lg kn chars pairs).2.1).bind fun t=>(if t = true then ((yu.f k (pV l f s lg kn chars pairs).1 (pV l f s lg kn chars pairs).1).bind fun u=>(if u = true then ((xZ.f).bind fun v=>(some v)) else (some false))) else (some false))) else (some false)) true:=by
 obtain ⟨h1,h2,h3⟩:=zwv l f s lg kn chars pairs
 generalize pV l f s lg kn chars pairs = R at h1 h2 h3 ⊢
 refine yJ rfl (Ev.bind (zWA R.2.1 (by omega)) (yJ rfl (Ev.bind (zWu R.1 (by omega) (fun b hb=>by rw [h3 b hb];exact Nat.zero_le _)) (yJ rfl ?_))))
 exact J9 zWs (Ev.now _)
end Go.Proofs.YtggifbbiiickmaaGreatDoor
namespace Go.Proofs.YtggifbbiiickmaaGreatDoor.PX
open Go.RowKit Go.Proofs.zk.zA Go.Proofs.zk.yB Go.Proofs.zk.yA
attribute [local go_sem] xR xS vM vN xB xC xU vv   -- for this text's walks alone
set_option linter.unusedVariables false
set_option linter.unusedSimpArgs false
def vT.f (zB:Int) (zD:Int) (zC:Bool) (vO:Bool):Option (Int × Int × Bool × Bool):=some (zB,zD,zC,vO)
set_option maxHeartbeats 8000000 in
set_option maxRecDepth 100000 in
theorem vT.calls (zB:Int) (zD:Int) (zC:Bool) (vO:Bool) (r1:Int) (r2:Int) (r3:Bool) (r4:Bool) (w:World) (h:vT.f zB zD zC vO = some (r1,r2,r3,r4)) :
    Calls Tryz.prog 16 #[.agg #[.int .i64 zB,.int .i64 zD,.bool zC,.bool vO]] w fun e w'=>e = .returned (.agg #[.int .i64 r1,.int .i64 r2,.bool r3,.bool r4]) ∧ Below w.heap.size w w':=by
  have zKF:=Tryz.underlying26
  have za0:=Tryz.underlying41
  have HB:=zx.mk (Below.refl w.heap.size w)
  have H:(some (zB,zD,zC,vO)) = some (r1,r2,r3,r4):=h
  clear h
  simp only [Option.some.injEq,Prod.mk.injEq] at H
  obtain ⟨rfl,rfl,rfl,rfl⟩:=H
  go_enter Tryz.func16,Tryz.ntmps16
  go_wp2_with (first | ((with_reducible refine qC (N:=1) rfl ?_);refine qM ?hg (N:=1) ?hd (cs:=#[.int .i64 zB,.int .i64 zD,.bool zC,.bool vO]) (t:=26) ?hr ?_;(case hd=>rfl);(case hg=>rfl);(case hr=>first | (go_simp;done) | (go_simp;rfl));intro KX hg w2 qc hb;have zJ:=zx.mk (zo (zH HB.out) hb);have zK:=zx.mk (qc);have zi:=zx.mk ((by rw [hg];exact (ze (zH HB.out)):w.heap.size ≤ KX));have zL:=zx.mk ((by rw [hg];exact (ze (zH HB.out)):w.heap.size ≤ KX));clear HB;have HB:=zJ;have Q8:=zK;have zuP:=zi;have zm9:=zL;clear zJ zK zi zL;clear hb qc hg) | ((with_reducible refine qC (N:=2) rfl ?_);refine qM ?hg (N:=2) ?hd (cs:=#[.int .i64 0,.int .i64 0,.bool false,.bool false]) (t:=41) ?hr ?_;(case hd=>rfl);(case hg=>rfl);(case hr=>first | (go_simp;done) | (go_simp;rfl));intro bQ hg w3 qc hb;have zJ:=zx.mk (zU (g:=KX) (o:=.cells #[.int .i64 zB,.int .i64 zD,.bool zC,.bool vO] 26 (0,0)) (qh Q8.out) hb);have zK:=zx.mk (zo (zH HB.out) hb);have zi:=zx.mk (qc);have zL:=zx.mk ((by rw [hg];exact (ze (zH HB.out)):w.heap.size ≤ bQ));have qz:=zx.mk ((by rw [hg];exact (ze (zH HB.out)):w.heap.size ≤ bQ));have xX:=zx.mk ((by rw [hg];exact Nat.ne_of_lt (pI (g:=KX) (o:=.cells #[.int .i64 zB,.int .i64 zD,.bool zC,.bool vO] 26 (0,0)) (qh Q8.out)):KX ≠ bQ));have uR:=zx.mk ((by rw [hg];exact Nat.ne_of_gt (pI (g:=KX) (o:=.cells #[.int .i64 zB,.int .i64 zD,.bool zC,.bool vO] 26 (0,0)) (qh Q8.out)):bQ ≠ KX));clear Q8;clear HB;have Q8:=zJ;have HB:=zK;have bX:=zi;have zuR:=zL;have znz:=qz;have zWD:=xX;have zWE:=uR;clear zJ zK zi zL qz xX uR;clear hb qc hg;have zAA:=zWD.out;have zAB:=zWE.out;have ztm:w3.cell? ⟨KX,0,none⟩ = some (.int .i64 zB):=zZ Q8 0;have ztn:w3.cell? ⟨KX,1,none⟩ = some (.int .i64 zD):=zZ Q8 1;have zto:w3.cell? ⟨KX,2,none⟩ = some (.bool zC):=zZ Q8 2;have ztp:w3.cell? ⟨KX,3,none⟩ = some (.bool vO):=zZ Q8 3;have ztr:=zy Q8.out 0;have zts:=zy Q8.out 1;have ztt:=zy Q8.out 2;have ztu:=zy Q8.out 3;have ztA:w3.cell? ⟨bQ,0,none⟩ = some (.int .i64 0):=zZ bX 0;have ztB:w3.cell? ⟨bQ,1,none⟩ = some (.int .i64 0):=zZ bX 1;have ztC:w3.cell? ⟨bQ,2,none⟩ = some (.bool false):=zZ bX 2;have ztD:w3.cell? ⟨bQ,3,none⟩ = some (.bool false):=zZ bX 3;have ztE:=zy bX.out 0;have ztF:=zy bX.out 1;have ztG:=zy bX.out 2;have ztH:=zy bX.out 3))
  refine bodyPost_ret (results_cell_row rfl _ _ bQ 41 #[.int .i64 zB,.int .i64 zD,.bool zC,.bool vO] (0,0) _ rfl (by (with_reducible repeat (first | refine vQ ?_ _ | refine qK ?_ | refine yL ?_ _));refine xD (cs:=#[.int .i64 zB,.int .i64 zD,.bool zC,.bool false]) ?_ 3 _ rfl;(with_reducible repeat (first | refine vQ ?_ _ | refine qK ?_ | refine yL ?_ _));refine xD (cs:=#[.int .i64 zB,.int .i64 zD,.bool false,.bool false]) ?_ 2 _ rfl;(with_reducible repeat (first | refine vQ ?_ _ | refine qK ?_ | refine yL ?_ _));refine xD (cs:=#[.int .i64 zB,.int .i64 0,.bool false,.bool false]) ?_ 1 _ rfl;(with_reducible repeat (first | refine vQ ?_ _ | refine qK ?_ | refine yL ?_ _));refine xD (cs:=#[.int .i64 0,.int .i64 0,.bool false,.bool false]) ?_ 0 _ rfl;(with_reducible repeat (first | refine vQ ?_ _ | refine qK ?_ | refine yL ?_ _));exact bX.out) Tryz.underlying41 rfl (by kernel_rfl)) rfl ?_
  exact ⟨by first | rfl | (simp [zM,zN] <;> rfl) | (simp [*,zM,zN] <;> rfl),by repeat (first | (with_reducible first | exact HB.out | apply yV | apply zP | apply zT | refine qb ?_ zm9.out | refine qb ?_ znz.out) | exact HB.out)⟩
end Go.Proofs.YtggifbbiiickmaaGreatDoor.PX
namespace Go.Proofs.YtggifbbiiickmaaGreatDoor.PX
open Go.RowKit Go.Proofs.zk.zA Go.Proofs.zk.yB Go.Proofs.zk.yA
attribute [local go_sem] xR xS vM vN xB xC xU vv   -- for this text's walks alone
set_option linter.unusedVariables false
set_option linter.unusedSimpArgs false
def yw.f (k:Nat) (a0:ByteArray) (zl:Int) (zf:Int) (zO:Bool) (zI:Bool):Option (Bool):=if (a0.size:Int) > 300 then ((xZ.f).bind fun zkw=>(some zkw)) else ((uL.f).bind fun wK=>((yN.f k a0).bind fun Xc=>((uQ.f wK (wrap64 (Int.tmod (IntKind.u64.wrap (zl)) 5)) (wrap64 (1 + (wrap64 (Int.tmod (IntKind.u64.wrap (zf)) 1000)))) zO zI Xc ([]:List (kV))).bind fun Xd=>((zh.f k wK).bind fun ZE=>((vT.f (wrap64 (Int.tmod (IntKind.u64.wrap (zl)) 5)) (wrap64 (1 + (wrap64 (Int.tmod (IntKind.u64.wrap (zf)) 1000)))) zO zI).bind fun kT=>((yN.f k a0).bind fun Zb=>((zm.f k ZE kT.1 kT.2.1 kT.2.2.1 kT.2.2.2 Zb ([]:List (kV))).bind fun kC=>(if Xd.2.2 = kC.2.2 then ((qV.f k Xd.2.1 kC.2.1).bind fun XQ=>(if XQ = true then ((yu.f k Xd.1 kC.1).bind fun ZT=>(if ZT = true then ((xZ.f).bind fun Zw=>(some Zw)) else (some false))) else (some false))) else (some false)))))))))
def yw.T6:Bool × List (List Nat × List Nat):=(true,[([],[]),([],[]),([],[]),([2],[2]),([0,1,3,3],[0,1,3]),([4],[4]),([5],[5]),([5],[5]),([5],[5]),([6,4,0,1,2,3,4,5,6],[6]),([7,9,0,1,2,3,4,5,6,7,9],[7]),([8,10,0,1,2,3,4,5,6,7,8,9,10],[8])])
def yw.B6:List Nat:=[0,0,0,4,15,31,63,63,63,127,767,2047]
theorem yw.ny:vR .any (opsOf Tryz.f4 6) = yw.T6:=by kernel_rfl
theorem yw.PY:uV yw.T6.2 yw.B6 = true:=by kernel_rfl
def yw.T7:Bool × List (List Nat × List Nat):=(true,[([],[]),([0],[0]),([],[]),([2,1],[2]),([],[]),([4,3],[4]),([1,3,5,5],[1,3,5]),([6],[6]),([7],[7]),([7],[7]),([7],[7]),([8,6,0,1,2,3,4,5,6,7,8],[8]),([9,11,0,1,2,3,4,5,6,7,8,9,11],[9]),([10,12,0,1,2,3,4,5,6,7,8,9,10,11,12],[10])])
def yw.B7:List Nat:=[0,1,0,7,0,31,63,127,255,255,255,511,3071,8191]
theorem yw.zqP:vR .any (opsOf Tryz.f4 7) = yw.T7:=by kernel_rfl
theorem yw.lW:uV yw.T7.2 yw.B7 = true:=by kernel_rfl
set_option maxHeartbeats 8000000 in
set_option maxRecDepth 100000 in
theorem yw.calls (k:Nat) (a0:ByteArray) (zl:Int) (zf:Int) (zO:Bool) (zI:Bool) (r:Bool) (w:World) (hG:GW w) (h:yw.f k a0 zl zf zO zI = some r) :
  Calls Tryz.prog 4 #[.string a0,.agg #[.int .i64 zl,.int .i64 zf,.bool zO,.bool zI]] w fun e w'=>e = .returned (.bool r) ∧ Below w.heap.size w w':=by
 have zKF:=Tryz.underlying26
 have HG:=zx.mk hG
 clear hG
 have HB:=zx.mk (Below.refl w.heap.size w)
 have H:(if (a0.size:Int) > 300 then ((xZ.f).bind fun zkw=>(some zkw)) else ((uL.f).bind fun wK=>((yN.f k a0).bind fun Xc=>((uQ.f wK (wrap64 (Int.tmod (IntKind.u64.wrap (zl)) 5)) (wrap64 (1 + (wrap64 (Int.tmod (IntKind.u64.wrap (zf)) 1000)))) zO zI Xc ([]:List (kV))).bind fun Xd=>((zh.f k wK).bind fun ZE=>((vT.f (wrap64 (Int.tmod (IntKind.u64.wrap (zl)) 5)) (wrap64 (1 + (wrap64 (Int.tmod (IntKind.u64.wrap (zf)) 1000)))) zO zI).bind fun kT=>((yN.f k a0).bind fun Zb=>((zm.f k ZE kT.1 kT.2.1 kT.2.2.1 kT.2.2.2 Zb ([]:List (kV))).bind fun kC=>(if Xd.2.2 = kC.2.2 then ((qV.f k Xd.2.1 kC.2.1).bind fun XQ=>(if XQ = true then ((yu.f k Xd.1 kC.1).bind fun ZT=>(if ZT = true then ((xZ.f).bind fun Zw=>(some Zw)) else (some false))) else (some false))) else (some false)))))))))) = some r:=h
 clear h
 by_cases c3:(a0.size:Int) > 300
 ·rw [if_pos c3] at H
  have Zh:decide (300 < (a0.size:Int)) = true:=decide_eq_true c3
  have gZ:decide (300 < a0.size) = true:=decide_eq_true (by omega)
  clear c3
  replace H:=Option.bind_eq_some_iff.mp H
  obtain ⟨zkw,P6,H⟩:=H
  replace H:(some zkw) = some r:=H
  have A4:=zx.mk P6
  clear P6
  obtain rfl:=Option.some.inj H
  go_enter Tryz.func4,Tryz.ntmps4
  go_wp2_with (first | ((with_reducible refine qC (N:=3) rfl ?_);refine qM ?hg (N:=3) ?hd (cs:=#[.int .i64 zl,.int .i64 zf,.bool zO,.bool zI]) (t:=26) ?hr ?_;(case hd=>rfl);(case hg=>rfl);(case hr=>first | (go_simp;done) | (go_simp;rfl));intro yD hg w5 qc hb;have zJ:=zx.mk (zo (zH HB.out) hb);have zK:=zx.mk (qc);have zi:=zx.mk ((by rw [hg];exact (ze (zH HB.out)):w.heap.size ≤ yD));have zL:=zx.mk ((by rw [hg];exact (ze (zH HB.out)):w.heap.size ≤ yD));clear HB;have HB:=zJ;have zW:=zK;have zkG:=zi;have bJ:=zL;clear zJ zK zi zL;clear hb qc hg) | ((with_reducible refine yG (f:=11) rfl ?_);refine jm (some 15) Tryz.func11 #[] ?_;(with_reducible refine (xZ.calls  zkw _ ?yc A4.out).mono ?_);(case yc=>exact GW.under HG.out (zH HB.out));rintro e w6 ⟨rfl,hb⟩;refine ⟨_,rfl,?_⟩;have zJ:=zx.mk (zU (g:=yD) (o:=.cells #[.int .i64 zl,.int .i64 zf,.bool zO,.bool zI] 26 (0,0)) (qh zW.out) hb);have zK:=zx.mk (zo (zH HB.out) hb);clear zW;clear HB;have zW:=zJ;have HB:=zK;clear zJ zK;(try clear hb);(try clear hk);(try clear hi)))
  go_ret
  exact ⟨by first | rfl | (simp [zM,zN] <;> rfl) | (simp [*,zM,zN] <;> rfl),by repeat (first | (with_reducible first | exact HB.out | apply yV | apply zP | apply zT | refine qb ?_ bJ.out) | exact HB.out)⟩
 ·rw [if_neg c3] at H
  have Zh:decide (300 < (a0.size:Int)) = false:=decide_eq_false c3
  have gZ:decide (300 < a0.size) = false:=decide_eq_false (by omega)
  clear c3
  replace H:=Option.bind_eq_some_iff.mp H
  obtain ⟨wK,mQ,H⟩:=H
  replace H:((yN.f k a0).bind fun Xc=>((uQ.f wK (wrap64 (Int.tmod (IntKind.u64.wrap (zl)) 5)) (wrap64 (1 + (wrap64 (Int.tmod (IntKind.u64.wrap (zf)) 1000)))) zO zI Xc ([]:List (kV))).bind fun Xd=>((zh.f k wK).bind fun ZE=>((vT.f (wrap64 (Int.tmod (IntKind.u64.wrap (zl)) 5)) (wrap64 (1 + (wrap64 (Int.tmod (IntKind.u64.wrap (zf)) 1000)))) zO zI).bind fun kT=>((yN.f k a0).bind fun Zb=>((zm.f k ZE kT.1 kT.2.1 kT.2.2.1 kT.2.2.2 Zb ([]:List (kV))).bind fun kC=>(if Xd.2.2 = kC.2.2 then ((qV.f k Xd.2.1 kC.2.1).bind fun XQ=>(if XQ = true then ((yu.f k Xd.1 kC.1).bind fun ZT=>(if ZT = true then ((xZ.f).bind fun Zw=>(some Zw)) else (some false))) else (some false))) else (some false)))))))) = some r:=H
  have A7:=zx.mk mQ
  clear mQ
  replace H:=Option.bind_eq_some_iff.mp H
  obtain ⟨Xc,A80,H⟩:=H
  replace H:((uQ.f wK (wrap64 (Int.tmod (IntKind.u64.wrap (zl)) 5)) (wrap64 (1 + (wrap64 (Int.tmod (IntKind.u64.wrap (zf)) 1000)))) zO zI Xc ([]:List (kV))).bind fun Xd=>((zh.f k wK).bind fun ZE=>((vT.f (wrap64 (Int.tmod (IntKind.u64.wrap (zl)) 5)) (wrap64 (1 + (wrap64 (Int.tmod (IntKind.u64.wrap (zf)) 1000)))) zO zI).bind fun kT=>((yN.f k a0).bind fun Zb=>((zm.f k ZE kT.1 kT.2.1 kT.2.2.1 kT.2.2.2 Zb ([]:List (kV))).bind fun kC=>(if Xd.2.2 = kC.2.2 then ((qV.f k Xd.2.1 kC.2.1).bind fun XQ=>(if XQ = true then ((yu.f k Xd.1 kC.1).bind fun ZT=>(if ZT = true then ((xZ.f).bind fun Zw=>(some Zw)) else (some false))) else (some false))) else (some false))))))) = some r:=H
  have A8:=zx.mk A80
  clear A80
  replace H:=Option.bind_eq_some_iff.mp H
  obtain ⟨⟨Py,P5,KJ⟩,oM,H⟩:=H
  replace H:((zh.f k wK).bind fun ZE=>((vT.f (wrap64 (Int.tmod (IntKind.u64.wrap (zl)) 5)) (wrap64 (1 + (wrap64 (Int.tmod (IntKind.u64.wrap (zf)) 1000)))) zO zI).bind fun kT=>((yN.f k a0).bind fun Zb=>((zm.f k ZE kT.1 kT.2.1 kT.2.2.1 kT.2.2.2 Zb ([]:List (kV))).bind fun kC=>(if KJ = kC.2.2 then ((qV.f k P5 kC.2.1).bind fun XQ=>(if XQ = true then ((yu.f k Py kC.1).bind fun ZT=>(if ZT = true then ((xZ.f).bind fun Zw=>(some Zw)) else (some false))) else (some false))) else (some false)))))) = some r:=H
  have A9:=zx.mk oM
  clear oM
  replace H:=Option.bind_eq_some_iff.mp H
  obtain ⟨ZE,oG,H⟩:=H
  replace H:((vT.f (wrap64 (Int.tmod (IntKind.u64.wrap (zl)) 5)) (wrap64 (1 + (wrap64 (Int.tmod (IntKind.u64.wrap (zf)) 1000)))) zO zI).bind fun kT=>((yN.f k a0).bind fun Zb=>((zm.f k ZE kT.1 kT.2.1 kT.2.2.1 kT.2.2.2 Zb ([]:List (kV))).bind fun kC=>(if KJ = kC.2.2 then ((qV.f k P5 kC.2.1).bind fun XQ=>(if XQ = true then ((yu.f k Py kC.1).bind fun ZT=>(if ZT = true then ((xZ.f).bind fun Zw=>(some Zw)) else (some false))) else (some false))) else (some false))))) = some r:=H
  have oH:=zx.mk oG
  clear oG
  replace H:=Option.bind_eq_some_iff.mp H
  obtain ⟨⟨KV,KY,KW,Ka⟩,zyq,H⟩:=H
  replace H:((yN.f k a0).bind fun Zb=>((zm.f k ZE KV KY KW Ka Zb ([]:List (kV))).bind fun kC=>(if KJ = kC.2.2 then ((qV.f k P5 kC.2.1).bind fun XQ=>(if XQ = true then ((yu.f k Py kC.1).bind fun ZT=>(if ZT = true then ((xZ.f).bind fun Zw=>(some Zw)) else (some false))) else (some false))) else (some false)))) = some r:=H
  have A11:=zx.mk zyq
  clear zyq
  replace H:=Option.bind_eq_some_iff.mp H
  obtain ⟨Zb,zk8,H⟩:=H
  replace H:((zm.f k ZE KV KY KW Ka Zb ([]:List (kV))).bind fun kC=>(if KJ = kC.2.2 then ((qV.f k P5 kC.2.1).bind fun XQ=>(if XQ = true then ((yu.f k Py kC.1).bind fun ZT=>(if ZT = true then ((xZ.f).bind fun Zw=>(some Zw)) else (some false))) else (some false))) else (some false))) = some r:=H
  have mW:=zx.mk zk8
  clear zk8
  replace H:=Option.bind_eq_some_iff.mp H
  obtain ⟨⟨l8,zzf,nQ⟩,zh4,H⟩:=H
  replace H:(if KJ = nQ then ((qV.f k P5 zzf).bind fun XQ=>(if XQ = true then ((yu.f k Py l8).bind fun ZT=>(if ZT = true then ((xZ.f).bind fun Zw=>(some Zw)) else (some false))) else (some false))) else (some false)) = some r:=H
  have A13:=zx.mk zh4
  clear zh4
  by_cases c14:KJ = nQ
  ·rw [if_pos c14] at H
   have zkA:(KJ == nQ) = true:=beq_iff_eq.mpr c14
   have znq:(KJ != nQ) = false:=bne_eq_false_iff_eq.mpr c14
   clear c14
   replace H:=Option.bind_eq_some_iff.mp H
   obtain ⟨XQ,zh5,H⟩:=H
   replace H:(if XQ = true then ((yu.f k Py l8).bind fun ZT=>(if ZT = true then ((xZ.f).bind fun Zw=>(some Zw)) else (some false))) else (some false)) = some r:=H
   have A15:=zx.mk zh5
   clear zh5
   by_cases c16:XQ = true
   ·subst c16
    have H1:((yu.f k Py l8).bind fun ZT=>(if ZT = true then ((xZ.f).bind fun Zw=>(some Zw)) else (some false))) = some r:=by rw [if_pos rfl] at H;exact H
    clear H
    have H:=H1
    clear H1
    replace H:=Option.bind_eq_some_iff.mp H
    obtain ⟨ZT,zh6,H⟩:=H
    replace H:(if ZT = true then ((xZ.f).bind fun Zw=>(some Zw)) else (some false)) = some r:=H
    have A17:=zx.mk zh6
    clear zh6
    by_cases c18:ZT = true
    ·subst c18
     have H1:((xZ.f).bind fun Zw=>(some Zw)) = some r:=by rw [if_pos rfl] at H;exact H
     clear H
     have H:=H1
     clear H1
     replace H:=Option.bind_eq_some_iff.mp H
     obtain ⟨Zw,zh7,H⟩:=H
     replace H:(some Zw) = some r:=H
     have A19:=zx.mk zh7
     clear zh7
     obtain rfl:=Option.some.inj H
     go_enter Tryz.func4,Tryz.ntmps4
     try go_wp2_with (first | ((with_reducible refine qC (N:=3) rfl ?_);refine qM ?hg (N:=3) ?hd (cs:=#[.int .i64 zl,.int .i64 zf,.bool zO,.bool zI]) (t:=26) ?hr ?_;(case hd=>rfl);(case hg=>rfl);(case hr=>first | (go_simp;done) | (go_simp;rfl));intro yD hg w20 qc hb;have zJ:=zx.mk (zo (zH HB.out) hb);have zK:=zx.mk (qc);have zi:=zx.mk ((by rw [hg];exact (ze (zH HB.out)):w.heap.size ≤ yD));have zL:=zx.mk ((by rw [hg];exact (ze (zH HB.out)):w.heap.size ≤ yD));clear HB;have HB:=zJ;have zW:=zK;have zkG:=zi;have bJ:=zL;clear zJ zK zi zL;clear hb qc hg) | ((with_reducible refine yG (f:=19) rfl ?_);refine jm (some 16) Tryz.func19 #[] ?_;(with_reducible refine (uL.calls  wK _ ?yc A7.out).mono ?_);(case yc=>exact GW.under HG.out (zH HB.out));rintro e w21 ⟨zxK,rfl,ho0,hb⟩;refine ⟨_,rfl,?_⟩;have zJ:=zx.mk (Kd.jf ho0 (ze (zH HB.out)));have zK:=zx.mk (zU (g:=yD) (o:=.cells #[.int .i64 zl,.int .i64 zf,.bool zO,.bool zI] 26 (0,0)) (qh zW.out) hb);have zi:=zx.mk (zo (zH HB.out) hb);clear zW;clear HB;have yh:=zJ;have zW:=zK;have HB:=zi;clear zJ zK zi;(try clear hb);(try clear hk);(try clear ho0);have aC:w21.cell? ⟨yD,0,none⟩ = some (.int .i64 zl):=zZ zW 0;have aD:w21.cell? ⟨yD,1,none⟩ = some (.int .i64 zf):=zZ zW 1;have aG:w21.cell? ⟨yD,2,none⟩ = some (.bool zO):=zZ zW 2;have aH:w21.cell? ⟨yD,3,none⟩ = some (.bool zI):=zZ zW 3;have aI:=zy zW.out 0;have aM:=zy zW.out 1;have aN:=zy zW.out 2;have aR:=zy zW.out 3))
     have zJ:zx (Kd.S Ye 60 ((w21.setCell ⟨yD,0,none⟩ (.int .i64 (wrap64 (Int.tmod (IntKind.u64.wrap (zl)) 5)))).setCell ⟨yD,1,none⟩ (.int .i64 (wrap64 (1 + (wrap64 (Int.tmod (IntKind.u64.wrap (zf)) 1000)))))) w.heap.size (fun _=>True) zxK wK):=⟨by (with_reducible repeat (first | apply Kd.vK | apply Kd.vY | apply Kd.qR));exact Kd.kD (Kd.Yb (p:=⟨yD,1,none⟩) (Kd.Yb (p:=⟨yD,0,none⟩) (Kd.zzn yh.out zW.out (by decide)) (fun _ hk=>hk.2) (.int .i64 (wrap64 (Int.tmod (IntKind.u64.wrap (zl)) 5)))) (fun _ hk=>hk.2) (.int .i64 (wrap64 (1 + (wrap64 (Int.tmod (IntKind.u64.wrap (zf)) 1000)))))) (fun _ hk=>trivial)⟩
     have zK:zx (((w21.setCell ⟨yD,0,none⟩ (.int .i64 (wrap64 (Int.tmod (IntKind.u64.wrap (zl)) 5)))).setCell ⟨yD,1,none⟩ (.int .i64 (wrap64 (1 + (wrap64 (Int.tmod (IntKind.u64.wrap (zf)) 1000)))))).heap[yD]? = some (.cells #[.int .i64 (wrap64 (Int.tmod (IntKind.u64.wrap (zl)) 5)),.int .i64 (wrap64 (1 + (wrap64 (Int.tmod (IntKind.u64.wrap (zf)) 1000)))),.bool zO,.bool zI] 26 (0,0))):=⟨by (with_reducible repeat (first | refine vQ ?_ _ | refine qK ?_ | refine yL ?_ _));refine xD (cs:=#[.int .i64 (wrap64 (Int.tmod (IntKind.u64.wrap (zl)) 5)),.int .i64 zf,.bool zO,.bool zI]) ?_ 1 _ rfl;(with_reducible repeat (first | refine vQ ?_ _ | refine qK ?_ | refine yL ?_ _));refine xD (cs:=#[.int .i64 zl,.int .i64 zf,.bool zO,.bool zI]) ?_ 0 _ rfl;(with_reducible repeat (first | refine vQ ?_ _ | refine qK ?_ | refine yL ?_ _));exact zW.out⟩
     have zi:zx (Below w.heap.size w ((w21.setCell ⟨yD,0,none⟩ (.int .i64 (wrap64 (Int.tmod (IntKind.u64.wrap (zl)) 5)))).setCell ⟨yD,1,none⟩ (.int .i64 (wrap64 (1 + (wrap64 (Int.tmod (IntKind.u64.wrap (zf)) 1000))))))):=⟨zH HB.out⟩
     (try clear yh)
     (try clear zW)
     (try clear HB)
     generalize ((w21.setCell ⟨yD,0,none⟩ (.int .i64 (wrap64 (Int.tmod (IntKind.u64.wrap (zl)) 5)))).setCell ⟨yD,1,none⟩ (.int .i64 (wrap64 (1 + (wrap64 (Int.tmod (IntKind.u64.wrap (zf)) 1000)))))) = w23 at zJ zK zi ⊢
     have yh:=zJ
     have zW:=zK
     have HB:=zi
     clear zJ zK zi
     have zJ:=zx.mk (Kd.qR yh.out)
     have zK:=zx.mk (qK zW.out)
     have zi:=zx.mk (zT HB.out)
     clear yh zW HB
     have yh:=zJ
     have zW:=zK
     have HB:=zi
     clear zJ zK zi
     refine jy (n:=12) (S:=fun w'=>w'.cell? ⟨yD,0,none⟩ = some (.int .i64 (wrap64 (Int.tmod (IntKind.u64.wrap (zl)) 5))) ∧ w'.cell? ⟨yD,1,none⟩ = some (.int .i64 (wrap64 (1 + (wrap64 (Int.tmod (IntKind.u64.wrap (zf)) 1000))))) ∧ w'.cell? ⟨yD,2,none⟩ = some (.bool zO) ∧ w'.cell? ⟨yD,3,none⟩ = some (.bool zI)) (ds:=[]) #[false,false,false,false,false,false,false,false,false,false,false,false] (by kernel_rfl) rfl rfl ⟨zZ zW 0,zZ zW 1,zZ zW 2,zZ zW 3⟩ (fun hHeld=>?_);refine uZ yw.ny yw.PY (fun za vC=>?_)
     generalize w23.drew = w24 at yh zW HB hHeld ⊢
     refine yQ 0 (some 31) za ?_
     refine yQ 2 (some 33) za ?_
     refine jg 1 (some 32) za vC hHeld ?_
     refine wZ 3 (some 34) za (fun K hK=>?_)
     refine je Tryz.func20 (by kernel_rfl) rfl #[.string a0] (by rfl) rfl rfl (by (try simp only [List.map_toArray,List.map_cons,List.map_nil]);first | done | rfl | (simp only [List.length_drop,List.length_take];rfl)) ?_
     with_reducible refine (yN.calls k a0 Xc _ A8.out).mono ?_
     rintro e w25 ⟨zck,rfl,ho0,hb⟩
     refine ⟨_,rfl,?_⟩
     have zJ:=zx.mk (Kd.y8 (uq yh.out) hb)
     have zK:=zx.mk (Kd.vG ho0 (ze (zH HB.out)))
     have zi:=zx.mk (zU (g:=yD) (o:=.cells #[.int .i64 (wrap64 (Int.tmod (IntKind.u64.wrap (zl)) 5)),.int .i64 (wrap64 (1 + (wrap64 (Int.tmod (IntKind.u64.wrap (zf)) 1000)))),.bool zO,.bool zI] 26 (0,0)) (qh zW.out) hb)
     have zL:=zx.mk (zo (zH HB.out) hb)
     clear yh zW HB
     have yh:=zJ
     have y7:=zK
     have zW:=zi
     have HB:=zL
     clear zJ zK zi zL
     (try clear hb)
     (try clear hk)
     (try clear ho0)
     obtain ⟨zK1,zK2,zK3⟩:=Kd.wm yh.out
     (first | subst zK3 | (injection zK3 with jP ZJ jR;have ZV:=jP.symm;have ZK:=jR.symm;clear jP ZJ jR;subst ZV;subst ZK))
     obtain ⟨zb5,zb6,zK4⟩:=Kd.xK y7.out
     (first | subst zK4 | (injection zK4 with jP ZJ jR;have ZV:=jP.symm;have ZK:=jR.symm;clear jP ZJ jR;subst ZV;subst ZK))
     refine hK.out _ _ ⟨zZ zW 0,zZ zW 1,zZ zW 2,zZ zW 3⟩ (fun hHeld=>?_)
     clear hK K
     refine wY (some 34) ?_
     refine wZ 4 (some 35) za (fun K hK=>?_)
     refine je Tryz.func13 (by kernel_rfl) rfl #[.slice zK1 wK.length zK2,.agg #[.int .i64 (wrap64 (Int.tmod (IntKind.u64.wrap (zl)) 5)),.int .i64 (wrap64 (1 + (wrap64 (Int.tmod (IntKind.u64.wrap (zf)) 1000)))),.bool zO,.bool zI],.slice zb5 Xc.length zb6,.slice none 0 0] (by rfl) rfl rfl (by (try simp only [List.map_toArray,List.map_cons,List.map_nil]);first | done | rfl | (simp only [List.length_drop,List.length_take];rfl)) ?_
     refine (uQ.calls _ _ wK (wrap64 (Int.tmod (IntKind.u64.wrap (zl)) 5)) (wrap64 (1 + (wrap64 (Int.tmod (IntKind.u64.wrap (zf)) 1000)))) zO zI _ _ Xc _ _ ([]:List (kV)) Py P5 KJ _ ?yc ?yI ?qy ?qw ?qD ?qE ?jU A9.out).mono ?_
     (case yc=>exact ql ((Kd.qU yh.out).2.2))
     (case yI=>exact (Kd.qU yh.out).2.1)
     (case qy=>exact ql ((Kd.xw y7.out).2.2))
     (case qw=>exact (Kd.xw y7.out).2.1)
     (case qD=>exact Kd.QY _ _)
     (case qE=>exact Nat.le_refl _)
     (case jU=>exact GW.under HG.out (zH HB.out))
     rintro e w28 ⟨zcy,zcw,rfl,ho0,ho1,hb⟩
     refine ⟨_,rfl,?_⟩
     have zJ:=zx.mk (Kd.y8 (uq yh.out) hb)
     have zK:=zx.mk (Kd.vD (qp y7.out) (Kd.jq ho1) hb)
     have zi:=zx.mk (Kd.jf ho0 (ze (zH HB.out)))
     have zL:=zx.mk (Kd.vG (Kd.jk ho1 (Kd.wH (qp y7.out))) (ze (zH HB.out)))
     have qz:=zx.mk (zU (g:=yD) (o:=.cells #[.int .i64 (wrap64 (Int.tmod (IntKind.u64.wrap (zl)) 5)),.int .i64 (wrap64 (1 + (wrap64 (Int.tmod (IntKind.u64.wrap (zf)) 1000)))),.bool zO,.bool zI] 26 (0,0)) (qh zW.out) hb)
     have xX:=zx.mk (zo (zH HB.out) hb)
     clear yh y7 zW HB
     have yh:=zJ
     have y7:=zK
     have qB:=zi
     have qW:=zL
     have zW:=qz
     have HB:=xX
     clear zJ zK zi zL qz xX
     (try clear hb)
     (try clear hk)
     (try clear ho0)
     (try clear ho1)
     refine hK.out _ _ ⟨zZ zW 0,zZ zW 1,zZ zW 2,zZ zW 3⟩ (fun hHeld=>?_)
     clear hK K
     refine wY (some 35) ?_
     refine yQ 5 (some 30) za ?_
     refine yQ 6 (some 36) za ?_
     refine yQ 7 (some 37) za ?_
     refine yQ 8 (some 38) za ?_
     refine yQ 9 (some 6) za ?_
     refine yQ 10 (some 7) za ?_
     refine yQ 11 (some 8) za ?_
     refine xP (qH za.out (by kernel_rfl)) ?_
     try go_wp2
     have zJ:=zx.mk (Kd.qR yh.out)
     have zK:=zx.mk (Kd.vB y7.out)
     have zi:=zx.mk (Kd.qR qB.out)
     have zL:=zx.mk (Kd.vB qW.out)
     have qz:=zx.mk (qK zW.out)
     have xX:=zx.mk (zT HB.out)
     clear yh y7 qB qW zW HB
     have yh:=zJ
     have y7:=zK
     have qB:=zi
     have qW:=zL
     have zW:=qz
     have HB:=xX
     clear zJ zK zi zL qz xX
     refine jy (n:=14) (S:=fun w'=>w'.cell? ⟨yD,0,none⟩ = some (.int .i64 (wrap64 (Int.tmod (IntKind.u64.wrap (zl)) 5))) ∧ w'.cell? ⟨yD,1,none⟩ = some (.int .i64 (wrap64 (1 + (wrap64 (Int.tmod (IntKind.u64.wrap (zf)) 1000))))) ∧ w'.cell? ⟨yD,2,none⟩ = some (.bool zO) ∧ w'.cell? ⟨yD,3,none⟩ = some (.bool zI)) (ds:=[]) #[false,false,false,false,false,false,false,false,false,false,false,false,false,false] (by kernel_rfl) rfl rfl ⟨zZ zW 0,zZ zW 1,zZ zW 2,zZ zW 3⟩ (fun hHeld=>?_);refine uZ yw.zqP yw.lW (fun za vC=>?_)
     generalize w28.drew = w29 at yh y7 qB qW zW HB hHeld ⊢
     refine yQ 0 (some 40) za ?_
     refine yQ 4 (some 44) za ?_
     refine jg 2 (some 42) za vC hHeld ?_
     refine wZ 1 (some 41) za (fun K hK=>?_)
     refine je Tryz.func15 (by kernel_rfl) rfl #[.slice zK1 wK.length zK2] (by rfl) rfl rfl (by (try simp only [List.map_toArray,List.map_cons,List.map_nil]);first | done | rfl | (simp only [List.length_drop,List.length_take];rfl)) ?_
     with_reducible refine (zh.calls k _ _ wK ZE _ ?yc ?yI oH.out).mono ?_
     (case yc=>exact ql ((Kd.qU yh.out).2.2))
     (case yI=>exact (Kd.qU yh.out).2.1)
     rintro e w30 ⟨zcZ,rfl,ho0,hb⟩
     refine ⟨_,rfl,?_⟩
     have zJ:=zx.mk (Kd.y8 (uq yh.out) hb)
     have zK:=zx.mk (Kd.qG (qp y7.out) hb)
     have zi:=zx.mk (Kd.y8 (uq qB.out) hb)
     have zL:=zx.mk (Kd.qG (qp qW.out) hb)
     have qz:=zx.mk (Kd.jf ho0 (ze (zH HB.out)))
     have xX:=zx.mk (zU (g:=yD) (o:=.cells #[.int .i64 (wrap64 (Int.tmod (IntKind.u64.wrap (zl)) 5)),.int .i64 (wrap64 (1 + (wrap64 (Int.tmod (IntKind.u64.wrap (zf)) 1000)))),.bool zO,.bool zI] 26 (0,0)) (qh zW.out) hb)
     have uR:=zx.mk (zo (zH HB.out) hb)
     clear yh y7 qB qW zW HB
     have yh:=zJ
     have y7:=zK
     have qB:=zi
     have qW:=zL
     have xM:=qz
     have zW:=xX
     have HB:=uR
     clear zJ zK zi zL qz xX uR
     (try clear hb)
     (try clear hk)
     (try clear ho0)
     refine hK.out _ _ ⟨zZ zW 0,zZ zW 1,zZ zW 2,zZ zW 3⟩ (fun hHeld=>?_)
     clear hK K
     refine wY (some 41) ?_
     refine wZ 3 (some 43) za (fun K hK=>?_)
     refine je Tryz.func16 (by kernel_rfl) rfl #[.agg #[.int .i64 (wrap64 (Int.tmod (IntKind.u64.wrap (zl)) 5)),.int .i64 (wrap64 (1 + (wrap64 (Int.tmod (IntKind.u64.wrap (zf)) 1000)))),.bool zO,.bool zI]] (by rfl) rfl rfl (by (try simp only [List.map_toArray,List.map_cons,List.map_nil]);first | done | rfl | (simp only [List.length_drop,List.length_take];rfl)) ?_
     with_reducible refine (vT.calls (wrap64 (Int.tmod (IntKind.u64.wrap (zl)) 5)) (wrap64 (1 + (wrap64 (Int.tmod (IntKind.u64.wrap (zf)) 1000)))) zO zI KV KY KW Ka _ A11.out).mono ?_
     rintro e w31 ⟨rfl,hb⟩
     refine ⟨_,rfl,?_⟩
     have zJ:=zx.mk (Kd.y8 (uq yh.out) hb)
     have zK:=zx.mk (Kd.qG (qp y7.out) hb)
     have zi:=zx.mk (Kd.y8 (uq qB.out) hb)
     have zL:=zx.mk (Kd.qG (qp qW.out) hb)
     have qz:=zx.mk (Kd.y8 (uq xM.out) hb)
     have xX:=zx.mk (zU (g:=yD) (o:=.cells #[.int .i64 (wrap64 (Int.tmod (IntKind.u64.wrap (zl)) 5)),.int .i64 (wrap64 (1 + (wrap64 (Int.tmod (IntKind.u64.wrap (zf)) 1000)))),.bool zO,.bool zI] 26 (0,0)) (qh zW.out) hb)
     have uR:=zx.mk (zo (zH HB.out) hb)
     clear yh y7 qB qW xM zW HB
     have yh:=zJ
     have y7:=zK
     have qB:=zi
     have qW:=zL
     have xM:=qz
     have zW:=xX
     have HB:=uR
     clear zJ zK zi zL qz xX uR
     (try clear hb)
     (try clear hk)
     refine hK.out _ _ ⟨zZ zW 0,zZ zW 1,zZ zW 2,zZ zW 3⟩ (fun hHeld=>?_)
     clear hK K
     refine wY (some 43) ?_
     refine wZ 5 (some 45) za (fun K hK=>?_)
     refine je Tryz.func20 (by kernel_rfl) rfl #[.string a0] (by rfl) rfl rfl (by (try simp only [List.map_toArray,List.map_cons,List.map_nil]);first | done | rfl | (simp only [List.length_drop,List.length_take];rfl)) ?_
     with_reducible refine (yN.calls k a0 Zb _ mW.out).mono ?_
     rintro e w32 ⟨zcQ,rfl,ho0,hb⟩
     refine ⟨_,rfl,?_⟩
     have zJ:=zx.mk (Kd.y8 (uq yh.out) hb)
     have zK:=zx.mk (Kd.vD (qp y7.out) (Kd.jq ho0) hb)
     have zi:=zx.mk (Kd.y8 (uq qB.out) hb)
     have zL:=zx.mk (Kd.vD (qp qW.out) (Kd.jq ho0) hb)
     have qz:=zx.mk (Kd.y8 (uq xM.out) hb)
     have xX:=zx.mk (Kd.vG (Kd.jk (Kd.jk ho0 (Kd.wH (qp y7.out))) (Kd.wH (qp qW.out))) (ze (zH HB.out)))
     have uR:=zx.mk (zU (g:=yD) (o:=.cells #[.int .i64 (wrap64 (Int.tmod (IntKind.u64.wrap (zl)) 5)),.int .i64 (wrap64 (1 + (wrap64 (Int.tmod (IntKind.u64.wrap (zf)) 1000)))),.bool zO,.bool zI] 26 (0,0)) (qh zW.out) hb)
     have Z0:=zx.mk (zo (zH HB.out) hb)
     clear yh y7 qB qW xM zW HB
     have yh:=zJ
     have y7:=zK
     have qB:=zi
     have qW:=zL
     have xM:=qz
     have uU:=xX
     have zW:=uR
     have HB:=Z0
     clear zJ zK zi zL qz xX uR Z0
     (try clear hb)
     (try clear hk)
     (try clear ho0)
     obtain ⟨zb7,zb8,zK5⟩:=Kd.wm xM.out
     (first | subst zK5 | (injection zK5 with jP ZJ jR;have ZV:=jP.symm;have ZK:=jR.symm;clear jP ZJ jR;subst ZV;subst ZK))
     obtain ⟨zb9,zcz,zK6⟩:=Kd.xK uU.out
     (first | subst zK6 | (injection zK6 with jP ZJ jR;have ZV:=jP.symm;have ZK:=jR.symm;clear jP ZJ jR;subst ZV;subst ZK))
     refine hK.out _ _ ⟨zZ zW 0,zZ zW 1,zZ zW 2,zZ zW 3⟩ (fun hHeld=>?_)
     clear hK K
     refine wY (some 45) ?_
     refine wZ 6 (some 46) za (fun K hK=>?_)
     refine je Tryz.func14 (by kernel_rfl) rfl #[.slice zb7 ZE.length zb8,.agg #[.int .i64 KV,.int .i64 KY,.bool KW,.bool Ka],.slice zb9 Zb.length zcz,.slice none 0 0] (by rfl) rfl rfl (by (try simp only [List.map_toArray,List.map_cons,List.map_nil]);first | done | rfl | (simp only [List.length_drop,List.length_take];rfl)) ?_
     refine (zm.calls k _ _ ZE KV KY KW Ka _ _ Zb _ _ ([]:List (kV)) l8 zzf nQ _ ?yc ?yI ?qy ?qw ?qD ?qE A13.out).mono ?_
     (case yc=>exact ql ((Kd.qU xM.out).2.2))
     (case yI=>exact (Kd.qU xM.out).2.1)
     (case qy=>exact ql ((Kd.xw uU.out).2.2))
     (case qw=>exact (Kd.xw uU.out).2.1)
     (case qD=>exact Kd.QY _ _)
     (case qE=>exact Nat.le_refl _)
     rintro e w35 ⟨zcX,zcJ,rfl,ho0,ho1,hb⟩
     refine ⟨_,rfl,?_⟩
     have zJ:=zx.mk (Kd.y8 (uq yh.out) hb)
     have zK:=zx.mk (Kd.vD (qp y7.out) (Kd.jq ho1) hb)
     have zi:=zx.mk (Kd.iP (uq qB.out) (Kd.zxg ho0) hb)
     have zL:=zx.mk (Kd.vD (qp qW.out) (Kd.jq ho1) hb)
     have qz:=zx.mk (Kd.y8 (uq xM.out) hb)
     have xX:=zx.mk (Kd.vD (qp uU.out) (Kd.jq ho1) hb)
     have uR:=zx.mk (Kd.jf (Kd.zxh ho0 (Kd.zVb (uq qB.out))) (ze (zH HB.out)))
     have Z0:=zx.mk (Kd.vG (Kd.jk (Kd.jk (Kd.jk ho1 (Kd.wH (qp y7.out))) (Kd.wH (qp qW.out))) (Kd.wH (qp uU.out))) (ze (zH HB.out)))
     have J4:=zx.mk (zU (g:=yD) (o:=.cells #[.int .i64 (wrap64 (Int.tmod (IntKind.u64.wrap (zl)) 5)),.int .i64 (wrap64 (1 + (wrap64 (Int.tmod (IntKind.u64.wrap (zf)) 1000)))),.bool zO,.bool zI] 26 (0,0)) (qh zW.out) hb)
     have J5:=zx.mk (zo (zH HB.out) hb)
     clear yh y7 qB qW xM uU zW HB
     have yh:=zJ
     have y7:=zK
     have qB:=zi
     have qW:=zL
     have xM:=qz
     have uU:=xX
     have YV:=uR
     have Zf:=Z0
     have zW:=J4
     have HB:=J5
     clear zJ zK zi zL qz xX uR Z0 J4 J5
     (try clear hb)
     (try clear hk)
     (try clear ho0)
     (try clear ho1)
     refine hK.out _ _ ⟨zZ zW 0,zZ zW 1,zZ zW 2,zZ zW 3⟩ (fun hHeld=>?_)
     clear hK K
     refine wY (some 46) ?_
     refine yQ 7 (some 39) za ?_
     refine yQ 8 (some 47) za ?_
     refine yQ 9 (some 48) za ?_
     refine yQ 10 (some 49) za ?_
     refine yQ 11 (some 9) za ?_
     refine yQ 12 (some 10) za ?_
     refine yQ 13 (some 11) za ?_
     refine xP (qH za.out (by kernel_rfl)) ?_
     obtain ⟨zAC,zAD,zoR⟩:=Kd.xK qW.out
     subst zoR
     obtain ⟨zvk,zvy,zV6⟩:=Kd.xK Zf.out
     subst zV6
     try go_wp2_with (first | (go_at_call 17;(with_reducible refine (qV.calls k _ _ P5 _ _ zzf true _ ?yc ?yI ?qy ?qw A15.out).mono ?_);(case yc=>exact ql ((Kd.xw qW.out).2.2));(case yI=>exact (Kd.xw qW.out).2.1);(case qy=>exact ql ((Kd.xw Zf.out).2.2));(case qw=>exact (Kd.xw Zf.out).2.1);rintro e w' ⟨rfl,⟨nd,rfl⟩⟩;obtain ⟨zAE,zAF,zoS⟩:=Kd.wm qB.out;subst zoS;obtain ⟨zAG,zAH,zoT⟩:=Kd.wm YV.out;subst zoT) | (go_at_call 18;(with_reducible refine (yu.calls k _ _ Py _ _ l8 true _ ?yc ?yI ?qy ?qw A17.out).mono ?_);(case yc=>exact ql ((Kd.qU qB.out).2.2));(case yI=>exact (Kd.qU qB.out).2.1);(case qy=>exact ql ((Kd.qU YV.out).2.2));(case qw=>exact (Kd.qU YV.out).2.1);rintro e w40 ⟨rfl,hb⟩;have zJ:=zx.mk (Kd.y8 (uq yh.out) hb);have zK:=zx.mk (Kd.qG (qp y7.out) hb);have zi:=zx.mk (Kd.y8 (uq qB.out) hb);have zL:=zx.mk (Kd.qG (qp qW.out) hb);have qz:=zx.mk (Kd.y8 (uq xM.out) hb);have xX:=zx.mk (Kd.qG (qp uU.out) hb);have uR:=zx.mk (Kd.y8 (uq YV.out) hb);have Z0:=zx.mk (Kd.qG (qp Zf.out) hb);have J4:=zx.mk (zU (g:=yD) (o:=.cells #[.int .i64 (wrap64 (Int.tmod (IntKind.u64.wrap (zl)) 5)),.int .i64 (wrap64 (1 + (wrap64 (Int.tmod (IntKind.u64.wrap (zf)) 1000)))),.bool zO,.bool zI] 26 (0,0)) (qh zW.out) hb);have J5:=zx.mk (zo (zH HB.out) hb);clear yh;clear y7;clear qB;clear qW;clear xM;clear uU;clear YV;clear Zf;clear zW;clear HB;have yh:=zJ;have y7:=zK;have qB:=zi;have qW:=zL;have xM:=qz;have uU:=xX;have YV:=uR;have Zf:=Z0;have zW:=J4;have HB:=J5;clear zJ zK zi zL qz xX uR Z0 J4 J5;(try clear hb);(try clear hk);(try clear hi)) | (go_at_call 11;(with_reducible refine (xZ.calls  Zw _ ?yc A19.out).mono ?_);(case yc=>exact GW.under HG.out (zH HB.out));rintro e w41 ⟨rfl,hb⟩;have zJ:=zx.mk (Kd.y8 (uq yh.out) hb);have zK:=zx.mk (Kd.qG (qp y7.out) hb);have zi:=zx.mk (Kd.y8 (uq qB.out) hb);have zL:=zx.mk (Kd.qG (qp qW.out) hb);have qz:=zx.mk (Kd.y8 (uq xM.out) hb);have xX:=zx.mk (Kd.qG (qp uU.out) hb);have uR:=zx.mk (Kd.y8 (uq YV.out) hb);have Z0:=zx.mk (Kd.qG (qp Zf.out) hb);have J4:=zx.mk (zU (g:=yD) (o:=.cells #[.int .i64 (wrap64 (Int.tmod (IntKind.u64.wrap (zl)) 5)),.int .i64 (wrap64 (1 + (wrap64 (Int.tmod (IntKind.u64.wrap (zf)) 1000)))),.bool zO,.bool zI] 26 (0,0)) (qh zW.out) hb);have J5:=zx.mk (zo (zH HB.out) hb);clear yh;clear y7;clear qB;clear qW;clear xM;clear uU;clear YV;clear Zf;clear zW;clear HB;have yh:=zJ;have y7:=zK;have qB:=zi;have qW:=zL;have xM:=qz;have uU:=xX;have YV:=uR;have Zf:=Z0;have zW:=J4;have HB:=J5;clear zJ zK zi zL qz xX uR Z0 J4 J5;(try clear hb);(try clear hk);(try clear hi)))
     go_ret
     exact ⟨by first | rfl | (simp [zM,zN] <;> rfl) | (simp [*,zM,zN] <;> rfl),by repeat (first | (with_reducible first | exact HB.out | apply yV | apply zP | apply zT | refine qb ?_ bJ.out) | exact HB.out)⟩
    ·replace c18:=Bool.eq_false_iff.mpr c18
     subst c18
     have H1:(some false) = some r:=by rw [if_neg (show ¬ (false = true) by decide)] at H;exact H
     clear H
     have H:=H1
     clear H1
     obtain rfl:=Option.some.inj H
     go_enter Tryz.func4,Tryz.ntmps4
     try go_wp2_with (first | ((with_reducible refine qC (N:=3) rfl ?_);refine qM ?hg (N:=3) ?hd (cs:=#[.int .i64 zl,.int .i64 zf,.bool zO,.bool zI]) (t:=26) ?hr ?_;(case hd=>rfl);(case hg=>rfl);(case hr=>first | (go_simp;done) | (go_simp;rfl));intro yD hg w42 qc hb;have zJ:=zx.mk (zo (zH HB.out) hb);have zK:=zx.mk (qc);have zi:=zx.mk ((by rw [hg];exact (ze (zH HB.out)):w.heap.size ≤ yD));have zL:=zx.mk ((by rw [hg];exact (ze (zH HB.out)):w.heap.size ≤ yD));clear HB;have HB:=zJ;have zW:=zK;have zkG:=zi;have bJ:=zL;clear zJ zK zi zL;clear hb qc hg) | ((with_reducible refine yG (f:=19) rfl ?_);refine jm (some 16) Tryz.func19 #[] ?_;(with_reducible refine (uL.calls  wK _ ?yc A7.out).mono ?_);(case yc=>exact GW.under HG.out (zH HB.out));rintro e iV ⟨zxK,rfl,ho0,hb⟩;refine ⟨_,rfl,?_⟩;have zJ:=zx.mk (Kd.jf ho0 (ze (zH HB.out)));have zK:=zx.mk (zU (g:=yD) (o:=.cells #[.int .i64 zl,.int .i64 zf,.bool zO,.bool zI] 26 (0,0)) (qh zW.out) hb);have zi:=zx.mk (zo (zH HB.out) hb);clear zW;clear HB;have yh:=zJ;have zW:=zK;have HB:=zi;clear zJ zK zi;(try clear hb);(try clear hk);(try clear ho0);have zfZ:iV.cell? ⟨yD,0,none⟩ = some (.int .i64 zl):=zZ zW 0;have zfQ:iV.cell? ⟨yD,1,none⟩ = some (.int .i64 zf):=zZ zW 1;have zfX:iV.cell? ⟨yD,2,none⟩ = some (.bool zO):=zZ zW 2;have zfJ:iV.cell? ⟨yD,3,none⟩ = some (.bool zI):=zZ zW 3;have zfV:=zy zW.out 0;have zfK:=zy zW.out 1;have zfY:=zy zW.out 2;have zfW:=zy zW.out 3))
     have zJ:zx (Kd.S Ye 60 ((iV.setCell ⟨yD,0,none⟩ (.int .i64 (wrap64 (Int.tmod (IntKind.u64.wrap (zl)) 5)))).setCell ⟨yD,1,none⟩ (.int .i64 (wrap64 (1 + (wrap64 (Int.tmod (IntKind.u64.wrap (zf)) 1000)))))) w.heap.size (fun _=>True) zxK wK):=⟨by (with_reducible repeat (first | apply Kd.vK | apply Kd.vY | apply Kd.qR));exact Kd.kD (Kd.Yb (p:=⟨yD,1,none⟩) (Kd.Yb (p:=⟨yD,0,none⟩) (Kd.zzn yh.out zW.out (by decide)) (fun _ hk=>hk.2) (.int .i64 (wrap64 (Int.tmod (IntKind.u64.wrap (zl)) 5)))) (fun _ hk=>hk.2) (.int .i64 (wrap64 (1 + (wrap64 (Int.tmod (IntKind.u64.wrap (zf)) 1000)))))) (fun _ hk=>trivial)⟩
     have zK:zx (((iV.setCell ⟨yD,0,none⟩ (.int .i64 (wrap64 (Int.tmod (IntKind.u64.wrap (zl)) 5)))).setCell ⟨yD,1,none⟩ (.int .i64 (wrap64 (1 + (wrap64 (Int.tmod (IntKind.u64.wrap (zf)) 1000)))))).heap[yD]? = some (.cells #[.int .i64 (wrap64 (Int.tmod (IntKind.u64.wrap (zl)) 5)),.int .i64 (wrap64 (1 + (wrap64 (Int.tmod (IntKind.u64.wrap (zf)) 1000)))),.bool zO,.bool zI] 26 (0,0))):=⟨by (with_reducible repeat (first | refine vQ ?_ _ | refine qK ?_ | refine yL ?_ _));refine xD (cs:=#[.int .i64 (wrap64 (Int.tmod (IntKind.u64.wrap (zl)) 5)),.int .i64 zf,.bool zO,.bool zI]) ?_ 1 _ rfl;(with_reducible repeat (first | refine vQ ?_ _ | refine qK ?_ | refine yL ?_ _));refine xD (cs:=#[.int .i64 zl,.int .i64 zf,.bool zO,.bool zI]) ?_ 0 _ rfl;(with_reducible repeat (first | refine vQ ?_ _ | refine qK ?_ | refine yL ?_ _));exact zW.out⟩
     have zi:zx (Below w.heap.size w ((iV.setCell ⟨yD,0,none⟩ (.int .i64 (wrap64 (Int.tmod (IntKind.u64.wrap (zl)) 5)))).setCell ⟨yD,1,none⟩ (.int .i64 (wrap64 (1 + (wrap64 (Int.tmod (IntKind.u64.wrap (zf)) 1000))))))):=⟨zH HB.out⟩
     (try clear yh)
     (try clear zW)
     (try clear HB)
     generalize ((iV.setCell ⟨yD,0,none⟩ (.int .i64 (wrap64 (Int.tmod (IntKind.u64.wrap (zl)) 5)))).setCell ⟨yD,1,none⟩ (.int .i64 (wrap64 (1 + (wrap64 (Int.tmod (IntKind.u64.wrap (zf)) 1000)))))) = w45 at zJ zK zi ⊢
     have yh:=zJ
     have zW:=zK
     have HB:=zi
     clear zJ zK zi
     have zJ:=zx.mk (Kd.qR yh.out)
     have zK:=zx.mk (qK zW.out)
     have zi:=zx.mk (zT HB.out)
     clear yh zW HB
     have yh:=zJ
     have zW:=zK
     have HB:=zi
     clear zJ zK zi
     refine jy (n:=12) (S:=fun w'=>w'.cell? ⟨yD,0,none⟩ = some (.int .i64 (wrap64 (Int.tmod (IntKind.u64.wrap (zl)) 5))) ∧ w'.cell? ⟨yD,1,none⟩ = some (.int .i64 (wrap64 (1 + (wrap64 (Int.tmod (IntKind.u64.wrap (zf)) 1000))))) ∧ w'.cell? ⟨yD,2,none⟩ = some (.bool zO) ∧ w'.cell? ⟨yD,3,none⟩ = some (.bool zI)) (ds:=[]) #[false,false,false,false,false,false,false,false,false,false,false,false] (by kernel_rfl) rfl rfl ⟨zZ zW 0,zZ zW 1,zZ zW 2,zZ zW 3⟩ (fun hHeld=>?_);refine uZ yw.ny yw.PY (fun za vC=>?_)
     generalize w45.drew = w46 at yh zW HB hHeld ⊢
     refine yQ 0 (some 31) za ?_
     refine yQ 2 (some 33) za ?_
     refine jg 1 (some 32) za vC hHeld ?_
     refine wZ 3 (some 34) za (fun K hK=>?_)
     refine je Tryz.func20 (by kernel_rfl) rfl #[.string a0] (by rfl) rfl rfl (by (try simp only [List.map_toArray,List.map_cons,List.map_nil]);first | done | rfl | (simp only [List.length_drop,List.length_take];rfl)) ?_
     with_reducible refine (yN.calls k a0 Xc _ A8.out).mono ?_
     rintro e w47 ⟨zck,rfl,ho0,hb⟩
     refine ⟨_,rfl,?_⟩
     have zJ:=zx.mk (Kd.y8 (uq yh.out) hb)
     have zK:=zx.mk (Kd.vG ho0 (ze (zH HB.out)))
     have zi:=zx.mk (zU (g:=yD) (o:=.cells #[.int .i64 (wrap64 (Int.tmod (IntKind.u64.wrap (zl)) 5)),.int .i64 (wrap64 (1 + (wrap64 (Int.tmod (IntKind.u64.wrap (zf)) 1000)))),.bool zO,.bool zI] 26 (0,0)) (qh zW.out) hb)
     have zL:=zx.mk (zo (zH HB.out) hb)
     clear yh zW HB
     have yh:=zJ
     have y7:=zK
     have zW:=zi
     have HB:=zL
     clear zJ zK zi zL
     (try clear hb)
     (try clear hk)
     (try clear ho0)
     obtain ⟨zh8,zh9,ziz⟩:=Kd.wm yh.out
     (first | subst ziz | (injection ziz with jP ZJ jR;have ZV:=jP.symm;have ZK:=jR.symm;clear jP ZJ jR;subst ZV;subst ZK))
     obtain ⟨zbK,zbY,zKo⟩:=Kd.xK y7.out
     (first | subst zKo | (injection zKo with jP ZJ jR;have ZV:=jP.symm;have ZK:=jR.symm;clear jP ZJ jR;subst ZV;subst ZK))
     refine hK.out _ _ ⟨zZ zW 0,zZ zW 1,zZ zW 2,zZ zW 3⟩ (fun hHeld=>?_)
     clear hK K
     refine wY (some 34) ?_
     refine wZ 4 (some 35) za (fun K hK=>?_)
     refine je Tryz.func13 (by kernel_rfl) rfl #[.slice zh8 wK.length zh9,.agg #[.int .i64 (wrap64 (Int.tmod (IntKind.u64.wrap (zl)) 5)),.int .i64 (wrap64 (1 + (wrap64 (Int.tmod (IntKind.u64.wrap (zf)) 1000)))),.bool zO,.bool zI],.slice zbK Xc.length zbY,.slice none 0 0] (by rfl) rfl rfl (by (try simp only [List.map_toArray,List.map_cons,List.map_nil]);first | done | rfl | (simp only [List.length_drop,List.length_take];rfl)) ?_
     refine (uQ.calls _ _ wK (wrap64 (Int.tmod (IntKind.u64.wrap (zl)) 5)) (wrap64 (1 + (wrap64 (Int.tmod (IntKind.u64.wrap (zf)) 1000)))) zO zI _ _ Xc _ _ ([]:List (kV)) Py P5 KJ _ ?yc ?yI ?qy ?qw ?qD ?qE ?jU A9.out).mono ?_
     (case yc=>exact ql ((Kd.qU yh.out).2.2))
     (case yI=>exact (Kd.qU yh.out).2.1)
     (case qy=>exact ql ((Kd.xw y7.out).2.2))
     (case qw=>exact (Kd.xw y7.out).2.1)
     (case qD=>exact Kd.QY _ _)
     (case qE=>exact Nat.le_refl _)
     (case jU=>exact GW.under HG.out (zH HB.out))
     rintro e w50 ⟨zcy,zcw,rfl,ho0,ho1,hb⟩
     refine ⟨_,rfl,?_⟩
     have zJ:=zx.mk (Kd.y8 (uq yh.out) hb)
     have zK:=zx.mk (Kd.vD (qp y7.out) (Kd.jq ho1) hb)
     have zi:=zx.mk (Kd.jf ho0 (ze (zH HB.out)))
     have zL:=zx.mk (Kd.vG (Kd.jk ho1 (Kd.wH (qp y7.out))) (ze (zH HB.out)))
     have qz:=zx.mk (zU (g:=yD) (o:=.cells #[.int .i64 (wrap64 (Int.tmod (IntKind.u64.wrap (zl)) 5)),.int .i64 (wrap64 (1 + (wrap64 (Int.tmod (IntKind.u64.wrap (zf)) 1000)))),.bool zO,.bool zI] 26 (0,0)) (qh zW.out) hb)
     have xX:=zx.mk (zo (zH HB.out) hb)
     clear yh y7 zW HB
     have yh:=zJ
     have y7:=zK
     have qB:=zi
     have qW:=zL
     have zW:=qz
     have HB:=xX
     clear zJ zK zi zL qz xX
     (try clear hb)
     (try clear hk)
     (try clear ho0)
     (try clear ho1)
     refine hK.out _ _ ⟨zZ zW 0,zZ zW 1,zZ zW 2,zZ zW 3⟩ (fun hHeld=>?_)
     clear hK K
     refine wY (some 35) ?_
     refine yQ 5 (some 30) za ?_
     refine yQ 6 (some 36) za ?_
     refine yQ 7 (some 37) za ?_
     refine yQ 8 (some 38) za ?_
     refine yQ 9 (some 6) za ?_
     refine yQ 10 (some 7) za ?_
     refine yQ 11 (some 8) za ?_
     refine xP (qH za.out (by kernel_rfl)) ?_
     try go_wp2
     have zJ:=zx.mk (Kd.qR yh.out)
     have zK:=zx.mk (Kd.vB y7.out)
     have zi:=zx.mk (Kd.qR qB.out)
     have zL:=zx.mk (Kd.vB qW.out)
     have qz:=zx.mk (qK zW.out)
     have xX:=zx.mk (zT HB.out)
     clear yh y7 qB qW zW HB
     have yh:=zJ
     have y7:=zK
     have qB:=zi
     have qW:=zL
     have zW:=qz
     have HB:=xX
     clear zJ zK zi zL qz xX
     refine jy (n:=14) (S:=fun w'=>w'.cell? ⟨yD,0,none⟩ = some (.int .i64 (wrap64 (Int.tmod (IntKind.u64.wrap (zl)) 5))) ∧ w'.cell? ⟨yD,1,none⟩ = some (.int .i64 (wrap64 (1 + (wrap64 (Int.tmod (IntKind.u64.wrap (zf)) 1000))))) ∧ w'.cell? ⟨yD,2,none⟩ = some (.bool zO) ∧ w'.cell? ⟨yD,3,none⟩ = some (.bool zI)) (ds:=[]) #[false,false,false,false,false,false,false,false,false,false,false,false,false,false] (by kernel_rfl) rfl rfl ⟨zZ zW 0,zZ zW 1,zZ zW 2,zZ zW 3⟩ (fun hHeld=>?_);refine uZ yw.zqP yw.lW (fun za vC=>?_)
     generalize w50.drew = w51 at yh y7 qB qW zW HB hHeld ⊢
     refine yQ 0 (some 40) za ?_
     refine yQ 4 (some 44) za ?_
     refine jg 2 (some 42) za vC hHeld ?_
     refine wZ 1 (some 41) za (fun K hK=>?_)
     refine je Tryz.func15 (by kernel_rfl) rfl #[.slice zh8 wK.length zh9] (by rfl) rfl rfl (by (try simp only [List.map_toArray,List.map_cons,List.map_nil]);first | done | rfl | (simp only [List.length_drop,List.length_take];rfl)) ?_
     with_reducible refine (zh.calls k _ _ wK ZE _ ?yc ?yI oH.out).mono ?_
     (case yc=>exact ql ((Kd.qU yh.out).2.2))
     (case yI=>exact (Kd.qU yh.out).2.1)
     rintro e w52 ⟨zcZ,rfl,ho0,hb⟩
     refine ⟨_,rfl,?_⟩
     have zJ:=zx.mk (Kd.y8 (uq yh.out) hb)
     have zK:=zx.mk (Kd.qG (qp y7.out) hb)
     have zi:=zx.mk (Kd.y8 (uq qB.out) hb)
     have zL:=zx.mk (Kd.qG (qp qW.out) hb)
     have qz:=zx.mk (Kd.jf ho0 (ze (zH HB.out)))
     have xX:=zx.mk (zU (g:=yD) (o:=.cells #[.int .i64 (wrap64 (Int.tmod (IntKind.u64.wrap (zl)) 5)),.int .i64 (wrap64 (1 + (wrap64 (Int.tmod (IntKind.u64.wrap (zf)) 1000)))),.bool zO,.bool zI] 26 (0,0)) (qh zW.out) hb)
     have uR:=zx.mk (zo (zH HB.out) hb)
     clear yh y7 qB qW zW HB
     have yh:=zJ
     have y7:=zK
     have qB:=zi
     have qW:=zL
     have xM:=qz
     have zW:=xX
     have HB:=uR
     clear zJ zK zi zL qz xX uR
     (try clear hb)
     (try clear hk)
     (try clear ho0)
     refine hK.out _ _ ⟨zZ zW 0,zZ zW 1,zZ zW 2,zZ zW 3⟩ (fun hHeld=>?_)
     clear hK K
     refine wY (some 41) ?_
     refine wZ 3 (some 43) za (fun K hK=>?_)
     refine je Tryz.func16 (by kernel_rfl) rfl #[.agg #[.int .i64 (wrap64 (Int.tmod (IntKind.u64.wrap (zl)) 5)),.int .i64 (wrap64 (1 + (wrap64 (Int.tmod (IntKind.u64.wrap (zf)) 1000)))),.bool zO,.bool zI]] (by rfl) rfl rfl (by (try simp only [List.map_toArray,List.map_cons,List.map_nil]);first | done | rfl | (simp only [List.length_drop,List.length_take];rfl)) ?_
     with_reducible refine (vT.calls (wrap64 (Int.tmod (IntKind.u64.wrap (zl)) 5)) (wrap64 (1 + (wrap64 (Int.tmod (IntKind.u64.wrap (zf)) 1000)))) zO zI KV KY KW Ka _ A11.out).mono ?_
     rintro e w53 ⟨rfl,hb⟩
     refine ⟨_,rfl,?_⟩
     have zJ:=zx.mk (Kd.y8 (uq yh.out) hb)
     have zK:=zx.mk (Kd.qG (qp y7.out) hb)
     have zi:=zx.mk (Kd.y8 (uq qB.out) hb)
     have zL:=zx.mk (Kd.qG (qp qW.out) hb)
     have qz:=zx.mk (Kd.y8 (uq xM.out) hb)
     have xX:=zx.mk (zU (g:=yD) (o:=.cells #[.int .i64 (wrap64 (Int.tmod (IntKind.u64.wrap (zl)) 5)),.int .i64 (wrap64 (1 + (wrap64 (Int.tmod (IntKind.u64.wrap (zf)) 1000)))),.bool zO,.bool zI] 26 (0,0)) (qh zW.out) hb)
     have uR:=zx.mk (zo (zH HB.out) hb)
     clear yh y7 qB qW xM zW HB
     have yh:=zJ
     have y7:=zK
     have qB:=zi
     have qW:=zL
     have xM:=qz
     have zW:=xX
     have HB:=uR
     clear zJ zK zi zL qz xX uR
     (try clear hb)
     (try clear hk)
     refine hK.out _ _ ⟨zZ zW 0,zZ zW 1,zZ zW 2,zZ zW 3⟩ (fun hHeld=>?_)
     clear hK K
     refine wY (some 43) ?_
     refine wZ 5 (some 45) za (fun K hK=>?_)
     refine je Tryz.func20 (by kernel_rfl) rfl #[.string a0] (by rfl) rfl rfl (by (try simp only [List.map_toArray,List.map_cons,List.map_nil]);first | done | rfl | (simp only [List.length_drop,List.length_take];rfl)) ?_
     with_reducible refine (yN.calls k a0 Zb _ mW.out).mono ?_
     rintro e w54 ⟨zcQ,rfl,ho0,hb⟩
     refine ⟨_,rfl,?_⟩
     have zJ:=zx.mk (Kd.y8 (uq yh.out) hb)
     have zK:=zx.mk (Kd.vD (qp y7.out) (Kd.jq ho0) hb)
     have zi:=zx.mk (Kd.y8 (uq qB.out) hb)
     have zL:=zx.mk (Kd.vD (qp qW.out) (Kd.jq ho0) hb)
     have qz:=zx.mk (Kd.y8 (uq xM.out) hb)
     have xX:=zx.mk (Kd.vG (Kd.jk (Kd.jk ho0 (Kd.wH (qp y7.out))) (Kd.wH (qp qW.out))) (ze (zH HB.out)))
     have uR:=zx.mk (zU (g:=yD) (o:=.cells #[.int .i64 (wrap64 (Int.tmod (IntKind.u64.wrap (zl)) 5)),.int .i64 (wrap64 (1 + (wrap64 (Int.tmod (IntKind.u64.wrap (zf)) 1000)))),.bool zO,.bool zI] 26 (0,0)) (qh zW.out) hb)
     have Z0:=zx.mk (zo (zH HB.out) hb)
     clear yh y7 qB qW xM zW HB
     have yh:=zJ
     have y7:=zK
     have qB:=zi
     have qW:=zL
     have xM:=qz
     have uU:=xX
     have zW:=uR
     have HB:=Z0
     clear zJ zK zi zL qz xX uR Z0
     (try clear hb)
     (try clear hk)
     (try clear ho0)
     obtain ⟨zoU,zo0,ziq⟩:=Kd.wm xM.out
     (first | subst ziq | (injection ziq with jP ZJ jR;have ZV:=jP.symm;have ZK:=jR.symm;clear jP ZJ jR;subst ZV;subst ZK))
     obtain ⟨zo1,zo2,zix⟩:=Kd.xK uU.out
     (first | subst zix | (injection zix with jP ZJ jR;have ZV:=jP.symm;have ZK:=jR.symm;clear jP ZJ jR;subst ZV;subst ZK))
     refine hK.out _ _ ⟨zZ zW 0,zZ zW 1,zZ zW 2,zZ zW 3⟩ (fun hHeld=>?_)
     clear hK K
     refine wY (some 45) ?_
     refine wZ 6 (some 46) za (fun K hK=>?_)
     refine je Tryz.func14 (by kernel_rfl) rfl #[.slice zoU ZE.length zo0,.agg #[.int .i64 KV,.int .i64 KY,.bool KW,.bool Ka],.slice zo1 Zb.length zo2,.slice none 0 0] (by rfl) rfl rfl (by (try simp only [List.map_toArray,List.map_cons,List.map_nil]);first | done | rfl | (simp only [List.length_drop,List.length_take];rfl)) ?_
     refine (zm.calls k _ _ ZE KV KY KW Ka _ _ Zb _ _ ([]:List (kV)) l8 zzf nQ _ ?yc ?yI ?qy ?qw ?qD ?qE A13.out).mono ?_
     (case yc=>exact ql ((Kd.qU xM.out).2.2))
     (case yI=>exact (Kd.qU xM.out).2.1)
     (case qy=>exact ql ((Kd.xw uU.out).2.2))
     (case qw=>exact (Kd.xw uU.out).2.1)
     (case qD=>exact Kd.QY _ _)
     (case qE=>exact Nat.le_refl _)
     rintro e w57 ⟨zcX,zcJ,rfl,ho0,ho1,hb⟩
     refine ⟨_,rfl,?_⟩
     have zJ:=zx.mk (Kd.y8 (uq yh.out) hb)
     have zK:=zx.mk (Kd.vD (qp y7.out) (Kd.jq ho1) hb)
     have zi:=zx.mk (Kd.iP (uq qB.out) (Kd.zxg ho0) hb)
     have zL:=zx.mk (Kd.vD (qp qW.out) (Kd.jq ho1) hb)
     have qz:=zx.mk (Kd.y8 (uq xM.out) hb)
     have xX:=zx.mk (Kd.vD (qp uU.out) (Kd.jq ho1) hb)
     have uR:=zx.mk (Kd.jf (Kd.zxh ho0 (Kd.zVb (uq qB.out))) (ze (zH HB.out)))
     have Z0:=zx.mk (Kd.vG (Kd.jk (Kd.jk (Kd.jk ho1 (Kd.wH (qp y7.out))) (Kd.wH (qp qW.out))) (Kd.wH (qp uU.out))) (ze (zH HB.out)))
     have J4:=zx.mk (zU (g:=yD) (o:=.cells #[.int .i64 (wrap64 (Int.tmod (IntKind.u64.wrap (zl)) 5)),.int .i64 (wrap64 (1 + (wrap64 (Int.tmod (IntKind.u64.wrap (zf)) 1000)))),.bool zO,.bool zI] 26 (0,0)) (qh zW.out) hb)
     have J5:=zx.mk (zo (zH HB.out) hb)
     clear yh y7 qB qW xM uU zW HB
     have yh:=zJ
     have y7:=zK
     have qB:=zi
     have qW:=zL
     have xM:=qz
     have uU:=xX
     have YV:=uR
     have Zf:=Z0
     have zW:=J4
     have HB:=J5
     clear zJ zK zi zL qz xX uR Z0 J4 J5
     (try clear hb)
     (try clear hk)
     (try clear ho0)
     (try clear ho1)
     refine hK.out _ _ ⟨zZ zW 0,zZ zW 1,zZ zW 2,zZ zW 3⟩ (fun hHeld=>?_)
     clear hK K
     refine wY (some 46) ?_
     refine yQ 7 (some 39) za ?_
     refine yQ 8 (some 47) za ?_
     refine yQ 9 (some 48) za ?_
     refine yQ 10 (some 49) za ?_
     refine yQ 11 (some 9) za ?_
     refine yQ 12 (some 10) za ?_
     refine yQ 13 (some 11) za ?_
     refine xP (qH za.out (by kernel_rfl)) ?_
     obtain ⟨zAI,zAL,zo3⟩:=Kd.xK qW.out
     subst zo3
     obtain ⟨zAM,zAN,zo4⟩:=Kd.xK Zf.out
     subst zo4
     try go_wp2_with (first | (go_at_call 17;(with_reducible refine (qV.calls k _ _ P5 _ _ zzf true _ ?yc ?yI ?qy ?qw A15.out).mono ?_);(case yc=>exact ql ((Kd.xw qW.out).2.2));(case yI=>exact (Kd.xw qW.out).2.1);(case qy=>exact ql ((Kd.xw Zf.out).2.2));(case qw=>exact (Kd.xw Zf.out).2.1);rintro e w' ⟨rfl,⟨nd,rfl⟩⟩;obtain ⟨zAO,zAP,zo5⟩:=Kd.wm qB.out;subst zo5;obtain ⟨zAR,zAS,zo6⟩:=Kd.wm YV.out;subst zo6) | (go_at_call 18;(with_reducible refine (yu.calls k _ _ Py _ _ l8 false _ ?yc ?yI ?qy ?qw A17.out).mono ?_);(case yc=>exact ql ((Kd.qU qB.out).2.2));(case yI=>exact (Kd.qU qB.out).2.1);(case qy=>exact ql ((Kd.qU YV.out).2.2));(case qw=>exact (Kd.qU YV.out).2.1);rintro e w62 ⟨rfl,hb⟩;have zJ:=zx.mk (Kd.y8 (uq yh.out) hb);have zK:=zx.mk (Kd.qG (qp y7.out) hb);have zi:=zx.mk (Kd.y8 (uq qB.out) hb);have zL:=zx.mk (Kd.qG (qp qW.out) hb);have qz:=zx.mk (Kd.y8 (uq xM.out) hb);have xX:=zx.mk (Kd.qG (qp uU.out) hb);have uR:=zx.mk (Kd.y8 (uq YV.out) hb);have Z0:=zx.mk (Kd.qG (qp Zf.out) hb);have J4:=zx.mk (zU (g:=yD) (o:=.cells #[.int .i64 (wrap64 (Int.tmod (IntKind.u64.wrap (zl)) 5)),.int .i64 (wrap64 (1 + (wrap64 (Int.tmod (IntKind.u64.wrap (zf)) 1000)))),.bool zO,.bool zI] 26 (0,0)) (qh zW.out) hb);have J5:=zx.mk (zo (zH HB.out) hb);clear yh;clear y7;clear qB;clear qW;clear xM;clear uU;clear YV;clear Zf;clear zW;clear HB;have yh:=zJ;have y7:=zK;have qB:=zi;have qW:=zL;have xM:=qz;have uU:=xX;have YV:=uR;have Zf:=Z0;have zW:=J4;have HB:=J5;clear zJ zK zi zL qz xX uR Z0 J4 J5;(try clear hb);(try clear hk);(try clear hi)))
     go_ret
     exact ⟨by first | rfl | (simp [zM,zN] <;> rfl) | (simp [*,zM,zN] <;> rfl),by repeat (first | (with_reducible first | exact HB.out | apply yV | apply zP | apply zT | refine qb ?_ bJ.out) | exact HB.out)⟩
   ·replace c16:=Bool.eq_false_iff.mpr c16
    subst c16
    have H1:(some false) = some r:=by rw [if_neg (show ¬ (false = true) by decide)] at H;exact H
    clear H
    have H:=H1
    clear H1
    obtain rfl:=Option.some.inj H
    go_enter Tryz.func4,Tryz.ntmps4
    try go_wp2_with (first | ((with_reducible refine qC (N:=3) rfl ?_);refine qM ?hg (N:=3) ?hd (cs:=#[.int .i64 zl,.int .i64 zf,.bool zO,.bool zI]) (t:=26) ?hr ?_;(case hd=>rfl);(case hg=>rfl);(case hr=>first | (go_simp;done) | (go_simp;rfl));intro yD hg w63 qc hb;have zJ:=zx.mk (zo (zH HB.out) hb);have zK:=zx.mk (qc);have zi:=zx.mk ((by rw [hg];exact (ze (zH HB.out)):w.heap.size ≤ yD));have zL:=zx.mk ((by rw [hg];exact (ze (zH HB.out)):w.heap.size ≤ yD));clear HB;have HB:=zJ;have zW:=zK;have zkG:=zi;have bJ:=zL;clear zJ zK zi zL;clear hb qc hg) | ((with_reducible refine yG (f:=19) rfl ?_);refine jm (some 16) Tryz.func19 #[] ?_;(with_reducible refine (uL.calls  wK _ ?yc A7.out).mono ?_);(case yc=>exact GW.under HG.out (zH HB.out));rintro e kQ ⟨zxK,rfl,ho0,hb⟩;refine ⟨_,rfl,?_⟩;have zJ:=zx.mk (Kd.jf ho0 (ze (zH HB.out)));have zK:=zx.mk (zU (g:=yD) (o:=.cells #[.int .i64 zl,.int .i64 zf,.bool zO,.bool zI] 26 (0,0)) (qh zW.out) hb);have zi:=zx.mk (zo (zH HB.out) hb);clear zW;clear HB;have yh:=zJ;have zW:=zK;have HB:=zi;clear zJ zK zi;(try clear hb);(try clear hk);(try clear ho0);have zsb:kQ.cell? ⟨yD,0,none⟩ = some (.int .i64 zl):=zZ zW 0;have zsc:kQ.cell? ⟨yD,1,none⟩ = some (.int .i64 zf):=zZ zW 1;have zsd:kQ.cell? ⟨yD,2,none⟩ = some (.bool zO):=zZ zW 2;have zse:kQ.cell? ⟨yD,3,none⟩ = some (.bool zI):=zZ zW 3;have zsf:=zy zW.out 0;have zsg:=zy zW.out 1;have zsh:=zy zW.out 2;have zsi:=zy zW.out 3))
    have zJ:zx (Kd.S Ye 60 ((kQ.setCell ⟨yD,0,none⟩ (.int .i64 (wrap64 (Int.tmod (IntKind.u64.wrap (zl)) 5)))).setCell ⟨yD,1,none⟩ (.int .i64 (wrap64 (1 + (wrap64 (Int.tmod (IntKind.u64.wrap (zf)) 1000)))))) w.heap.size (fun _=>True) zxK wK):=⟨by (with_reducible repeat (first | apply Kd.vK | apply Kd.vY | apply Kd.qR));exact Kd.kD (Kd.Yb (p:=⟨yD,1,none⟩) (Kd.Yb (p:=⟨yD,0,none⟩) (Kd.zzn yh.out zW.out (by decide)) (fun _ hk=>hk.2) (.int .i64 (wrap64 (Int.tmod (IntKind.u64.wrap (zl)) 5)))) (fun _ hk=>hk.2) (.int .i64 (wrap64 (1 + (wrap64 (Int.tmod (IntKind.u64.wrap (zf)) 1000)))))) (fun _ hk=>trivial)⟩
    have zK:zx (((kQ.setCell ⟨yD,0,none⟩ (.int .i64 (wrap64 (Int.tmod (IntKind.u64.wrap (zl)) 5)))).setCell ⟨yD,1,none⟩ (.int .i64 (wrap64 (1 + (wrap64 (Int.tmod (IntKind.u64.wrap (zf)) 1000)))))).heap[yD]? = some (.cells #[.int .i64 (wrap64 (Int.tmod (IntKind.u64.wrap (zl)) 5)),.int .i64 (wrap64 (1 + (wrap64 (Int.tmod (IntKind.u64.wrap (zf)) 1000)))),.bool zO,.bool zI] 26 (0,0))):=⟨by (with_reducible repeat (first | refine vQ ?_ _ | refine qK ?_ | refine yL ?_ _));refine xD (cs:=#[.int .i64 (wrap64 (Int.tmod (IntKind.u64.wrap (zl)) 5)),.int .i64 zf,.bool zO,.bool zI]) ?_ 1 _ rfl;(with_reducible repeat (first | refine vQ ?_ _ | refine qK ?_ | refine yL ?_ _));refine xD (cs:=#[.int .i64 zl,.int .i64 zf,.bool zO,.bool zI]) ?_ 0 _ rfl;(with_reducible repeat (first | refine vQ ?_ _ | refine qK ?_ | refine yL ?_ _));exact zW.out⟩
    have zi:zx (Below w.heap.size w ((kQ.setCell ⟨yD,0,none⟩ (.int .i64 (wrap64 (Int.tmod (IntKind.u64.wrap (zl)) 5)))).setCell ⟨yD,1,none⟩ (.int .i64 (wrap64 (1 + (wrap64 (Int.tmod (IntKind.u64.wrap (zf)) 1000))))))):=⟨zH HB.out⟩
    (try clear yh)
    (try clear zW)
    (try clear HB)
    generalize ((kQ.setCell ⟨yD,0,none⟩ (.int .i64 (wrap64 (Int.tmod (IntKind.u64.wrap (zl)) 5)))).setCell ⟨yD,1,none⟩ (.int .i64 (wrap64 (1 + (wrap64 (Int.tmod (IntKind.u64.wrap (zf)) 1000)))))) = w66 at zJ zK zi ⊢
    have yh:=zJ
    have zW:=zK
    have HB:=zi
    clear zJ zK zi
    have zJ:=zx.mk (Kd.qR yh.out)
    have zK:=zx.mk (qK zW.out)
    have zi:=zx.mk (zT HB.out)
    clear yh zW HB
    have yh:=zJ
    have zW:=zK
    have HB:=zi
    clear zJ zK zi
    refine jy (n:=12) (S:=fun w'=>w'.cell? ⟨yD,0,none⟩ = some (.int .i64 (wrap64 (Int.tmod (IntKind.u64.wrap (zl)) 5))) ∧ w'.cell? ⟨yD,1,none⟩ = some (.int .i64 (wrap64 (1 + (wrap64 (Int.tmod (IntKind.u64.wrap (zf)) 1000))))) ∧ w'.cell? ⟨yD,2,none⟩ = some (.bool zO) ∧ w'.cell? ⟨yD,3,none⟩ = some (.bool zI)) (ds:=[]) #[false,false,false,false,false,false,false,false,false,false,false,false] (by kernel_rfl) rfl rfl ⟨zZ zW 0,zZ zW 1,zZ zW 2,zZ zW 3⟩ (fun hHeld=>?_);refine uZ yw.ny yw.PY (fun za vC=>?_)
    generalize w66.drew = w67 at yh zW HB hHeld ⊢
    refine yQ 0 (some 31) za ?_
    refine yQ 2 (some 33) za ?_
    refine jg 1 (some 32) za vC hHeld ?_
    refine wZ 3 (some 34) za (fun K hK=>?_)
    refine je Tryz.func20 (by kernel_rfl) rfl #[.string a0] (by rfl) rfl rfl (by (try simp only [List.map_toArray,List.map_cons,List.map_nil]);first | done | rfl | (simp only [List.length_drop,List.length_take];rfl)) ?_
    with_reducible refine (yN.calls k a0 Xc _ A8.out).mono ?_
    rintro e w68 ⟨zck,rfl,ho0,hb⟩
    refine ⟨_,rfl,?_⟩
    have zJ:=zx.mk (Kd.y8 (uq yh.out) hb)
    have zK:=zx.mk (Kd.vG ho0 (ze (zH HB.out)))
    have zi:=zx.mk (zU (g:=yD) (o:=.cells #[.int .i64 (wrap64 (Int.tmod (IntKind.u64.wrap (zl)) 5)),.int .i64 (wrap64 (1 + (wrap64 (Int.tmod (IntKind.u64.wrap (zf)) 1000)))),.bool zO,.bool zI] 26 (0,0)) (qh zW.out) hb)
    have zL:=zx.mk (zo (zH HB.out) hb)
    clear yh zW HB
    have yh:=zJ
    have y7:=zK
    have zW:=zi
    have HB:=zL
    clear zJ zK zi zL
    (try clear hb)
    (try clear hk)
    (try clear ho0)
    obtain ⟨zij,ziv,zik⟩:=Kd.wm yh.out
    (first | subst zik | (injection zik with jP ZJ jR;have ZV:=jP.symm;have ZK:=jR.symm;clear jP ZJ jR;subst ZV;subst ZK))
    obtain ⟨zo7,zo8,ziy⟩:=Kd.xK y7.out
    (first | subst ziy | (injection ziy with jP ZJ jR;have ZV:=jP.symm;have ZK:=jR.symm;clear jP ZJ jR;subst ZV;subst ZK))
    refine hK.out _ _ ⟨zZ zW 0,zZ zW 1,zZ zW 2,zZ zW 3⟩ (fun hHeld=>?_)
    clear hK K
    refine wY (some 34) ?_
    refine wZ 4 (some 35) za (fun K hK=>?_)
    refine je Tryz.func13 (by kernel_rfl) rfl #[.slice zij wK.length ziv,.agg #[.int .i64 (wrap64 (Int.tmod (IntKind.u64.wrap (zl)) 5)),.int .i64 (wrap64 (1 + (wrap64 (Int.tmod (IntKind.u64.wrap (zf)) 1000)))),.bool zO,.bool zI],.slice zo7 Xc.length zo8,.slice none 0 0] (by rfl) rfl rfl (by (try simp only [List.map_toArray,List.map_cons,List.map_nil]);first | done | rfl | (simp only [List.length_drop,List.length_take];rfl)) ?_
    refine (uQ.calls _ _ wK (wrap64 (Int.tmod (IntKind.u64.wrap (zl)) 5)) (wrap64 (1 + (wrap64 (Int.tmod (IntKind.u64.wrap (zf)) 1000)))) zO zI _ _ Xc _ _ ([]:List (kV)) Py P5 KJ _ ?yc ?yI ?qy ?qw ?qD ?qE ?jU A9.out).mono ?_
    (case yc=>exact ql ((Kd.qU yh.out).2.2))
    (case yI=>exact (Kd.qU yh.out).2.1)
    (case qy=>exact ql ((Kd.xw y7.out).2.2))
    (case qw=>exact (Kd.xw y7.out).2.1)
    (case qD=>exact Kd.QY _ _)
    (case qE=>exact Nat.le_refl _)
    (case jU=>exact GW.under HG.out (zH HB.out))
    rintro e w71 ⟨zcy,zcw,rfl,ho0,ho1,hb⟩
    refine ⟨_,rfl,?_⟩
    have zJ:=zx.mk (Kd.y8 (uq yh.out) hb)
    have zK:=zx.mk (Kd.vD (qp y7.out) (Kd.jq ho1) hb)
    have zi:=zx.mk (Kd.jf ho0 (ze (zH HB.out)))
    have zL:=zx.mk (Kd.vG (Kd.jk ho1 (Kd.wH (qp y7.out))) (ze (zH HB.out)))
    have qz:=zx.mk (zU (g:=yD) (o:=.cells #[.int .i64 (wrap64 (Int.tmod (IntKind.u64.wrap (zl)) 5)),.int .i64 (wrap64 (1 + (wrap64 (Int.tmod (IntKind.u64.wrap (zf)) 1000)))),.bool zO,.bool zI] 26 (0,0)) (qh zW.out) hb)
    have xX:=zx.mk (zo (zH HB.out) hb)
    clear yh y7 zW HB
    have yh:=zJ
    have y7:=zK
    have qB:=zi
    have qW:=zL
    have zW:=qz
    have HB:=xX
    clear zJ zK zi zL qz xX
    (try clear hb)
    (try clear hk)
    (try clear ho0)
    (try clear ho1)
    refine hK.out _ _ ⟨zZ zW 0,zZ zW 1,zZ zW 2,zZ zW 3⟩ (fun hHeld=>?_)
    clear hK K
    refine wY (some 35) ?_
    refine yQ 5 (some 30) za ?_
    refine yQ 6 (some 36) za ?_
    refine yQ 7 (some 37) za ?_
    refine yQ 8 (some 38) za ?_
    refine yQ 9 (some 6) za ?_
    refine yQ 10 (some 7) za ?_
    refine yQ 11 (some 8) za ?_
    refine xP (qH za.out (by kernel_rfl)) ?_
    try go_wp2
    have zJ:=zx.mk (Kd.qR yh.out)
    have zK:=zx.mk (Kd.vB y7.out)
    have zi:=zx.mk (Kd.qR qB.out)
    have zL:=zx.mk (Kd.vB qW.out)
    have qz:=zx.mk (qK zW.out)
    have xX:=zx.mk (zT HB.out)
    clear yh y7 qB qW zW HB
    have yh:=zJ
    have y7:=zK
    have qB:=zi
    have qW:=zL
    have zW:=qz
    have HB:=xX
    clear zJ zK zi zL qz xX
    refine jy (n:=14) (S:=fun w'=>w'.cell? ⟨yD,0,none⟩ = some (.int .i64 (wrap64 (Int.tmod (IntKind.u64.wrap (zl)) 5))) ∧ w'.cell? ⟨yD,1,none⟩ = some (.int .i64 (wrap64 (1 + (wrap64 (Int.tmod (IntKind.u64.wrap (zf)) 1000))))) ∧ w'.cell? ⟨yD,2,none⟩ = some (.bool zO) ∧ w'.cell? ⟨yD,3,none⟩ = some (.bool zI)) (ds:=[]) #[false,false,false,false,false,false,false,false,false,false,false,false,false,false] (by kernel_rfl) rfl rfl ⟨zZ zW 0,zZ zW 1,zZ zW 2,zZ zW 3⟩ (fun hHeld=>?_);refine uZ yw.zqP yw.lW (fun za vC=>?_)
    generalize w71.drew = w72 at yh y7 qB qW zW HB hHeld ⊢
    refine yQ 0 (some 40) za ?_
    refine yQ 4 (some 44) za ?_
    refine jg 2 (some 42) za vC hHeld ?_
    refine wZ 1 (some 41) za (fun K hK=>?_)
    refine je Tryz.func15 (by kernel_rfl) rfl #[.slice zij wK.length ziv] (by rfl) rfl rfl (by (try simp only [List.map_toArray,List.map_cons,List.map_nil]);first | done | rfl | (simp only [List.length_drop,List.length_take];rfl)) ?_
    with_reducible refine (zh.calls k _ _ wK ZE _ ?yc ?yI oH.out).mono ?_
    (case yc=>exact ql ((Kd.qU yh.out).2.2))
    (case yI=>exact (Kd.qU yh.out).2.1)
    rintro e w73 ⟨zcZ,rfl,ho0,hb⟩
    refine ⟨_,rfl,?_⟩
    have zJ:=zx.mk (Kd.y8 (uq yh.out) hb)
    have zK:=zx.mk (Kd.qG (qp y7.out) hb)
    have zi:=zx.mk (Kd.y8 (uq qB.out) hb)
    have zL:=zx.mk (Kd.qG (qp qW.out) hb)
    have qz:=zx.mk (Kd.jf ho0 (ze (zH HB.out)))
    have xX:=zx.mk (zU (g:=yD) (o:=.cells #[.int .i64 (wrap64 (Int.tmod (IntKind.u64.wrap (zl)) 5)),.int .i64 (wrap64 (1 + (wrap64 (Int.tmod (IntKind.u64.wrap (zf)) 1000)))),.bool zO,.bool zI] 26 (0,0)) (qh zW.out) hb)
    have uR:=zx.mk (zo (zH HB.out) hb)
    clear yh y7 qB qW zW HB
    have yh:=zJ
    have y7:=zK
    have qB:=zi
    have qW:=zL
    have xM:=qz
    have zW:=xX
    have HB:=uR
    clear zJ zK zi zL qz xX uR
    (try clear hb)
    (try clear hk)
    (try clear ho0)
    refine hK.out _ _ ⟨zZ zW 0,zZ zW 1,zZ zW 2,zZ zW 3⟩ (fun hHeld=>?_)
    clear hK K
    refine wY (some 41) ?_
    refine wZ 3 (some 43) za (fun K hK=>?_)
    refine je Tryz.func16 (by kernel_rfl) rfl #[.agg #[.int .i64 (wrap64 (Int.tmod (IntKind.u64.wrap (zl)) 5)),.int .i64 (wrap64 (1 + (wrap64 (Int.tmod (IntKind.u64.wrap (zf)) 1000)))),.bool zO,.bool zI]] (by rfl) rfl rfl (by (try simp only [List.map_toArray,List.map_cons,List.map_nil]);first | done | rfl | (simp only [List.length_drop,List.length_take];rfl)) ?_
    with_reducible refine (vT.calls (wrap64 (Int.tmod (IntKind.u64.wrap (zl)) 5)) (wrap64 (1 + (wrap64 (Int.tmod (IntKind.u64.wrap (zf)) 1000)))) zO zI KV KY KW Ka _ A11.out).mono ?_
    rintro e w74 ⟨rfl,hb⟩
    refine ⟨_,rfl,?_⟩
    have zJ:=zx.mk (Kd.y8 (uq yh.out) hb)
    have zK:=zx.mk (Kd.qG (qp y7.out) hb)
    have zi:=zx.mk (Kd.y8 (uq qB.out) hb)
    have zL:=zx.mk (Kd.qG (qp qW.out) hb)
    have qz:=zx.mk (Kd.y8 (uq xM.out) hb)
    have xX:=zx.mk (zU (g:=yD) (o:=.cells #[.int .i64 (wrap64 (Int.tmod (IntKind.u64.wrap (zl)) 5)),.int .i64 (wrap64 (1 + (wrap64 (Int.tmod (IntKind.u64.wrap (zf)) 1000)))),.bool zO,.bool zI] 26 (0,0)) (qh zW.out) hb)
    have uR:=zx.mk (zo (zH HB.out) hb)
    clear yh y7 qB qW xM zW HB
    have yh:=zJ
    have y7:=zK
    have qB:=zi
    have qW:=zL
    have xM:=qz
    have zW:=xX
    have HB:=uR
    clear zJ zK zi zL qz xX uR
    (try clear hb)
    (try clear hk)
    refine hK.out _ _ ⟨zZ zW 0,zZ zW 1,zZ zW 2,zZ zW 3⟩ (fun hHeld=>?_)
    clear hK K
    refine wY (some 43) ?_
    refine wZ 5 (some 45) za (fun K hK=>?_)
    refine je Tryz.func20 (by kernel_rfl) rfl #[.string a0] (by rfl) rfl rfl (by (try simp only [List.map_toArray,List.map_cons,List.map_nil]);first | done | rfl | (simp only [List.length_drop,List.length_take];rfl)) ?_
    with_reducible refine (yN.calls k a0 Zb _ mW.out).mono ?_
    rintro e w75 ⟨zcQ,rfl,ho0,hb⟩
    refine ⟨_,rfl,?_⟩
    have zJ:=zx.mk (Kd.y8 (uq yh.out) hb)
    have zK:=zx.mk (Kd.vD (qp y7.out) (Kd.jq ho0) hb)
    have zi:=zx.mk (Kd.y8 (uq qB.out) hb)
    have zL:=zx.mk (Kd.vD (qp qW.out) (Kd.jq ho0) hb)
    have qz:=zx.mk (Kd.y8 (uq xM.out) hb)
    have xX:=zx.mk (Kd.vG (Kd.jk (Kd.jk ho0 (Kd.wH (qp y7.out))) (Kd.wH (qp qW.out))) (ze (zH HB.out)))
    have uR:=zx.mk (zU (g:=yD) (o:=.cells #[.int .i64 (wrap64 (Int.tmod (IntKind.u64.wrap (zl)) 5)),.int .i64 (wrap64 (1 + (wrap64 (Int.tmod (IntKind.u64.wrap (zf)) 1000)))),.bool zO,.bool zI] 26 (0,0)) (qh zW.out) hb)
    have Z0:=zx.mk (zo (zH HB.out) hb)
    clear yh y7 qB qW xM zW HB
    have yh:=zJ
    have y7:=zK
    have qB:=zi
    have qW:=zL
    have xM:=qz
    have uU:=xX
    have zW:=uR
    have HB:=Z0
    clear zJ zK zi zL qz xX uR Z0
    (try clear hb)
    (try clear hk)
    (try clear ho0)
    obtain ⟨zo9,zpz,ziw⟩:=Kd.wm xM.out
    (first | subst ziw | (injection ziw with jP ZJ jR;have ZV:=jP.symm;have ZK:=jR.symm;clear jP ZJ jR;subst ZV;subst ZK))
    obtain ⟨zpq,zpx,ziZ⟩:=Kd.xK uU.out
    (first | subst ziZ | (injection ziZ with jP ZJ jR;have ZV:=jP.symm;have ZK:=jR.symm;clear jP ZJ jR;subst ZV;subst ZK))
    refine hK.out _ _ ⟨zZ zW 0,zZ zW 1,zZ zW 2,zZ zW 3⟩ (fun hHeld=>?_)
    clear hK K
    refine wY (some 45) ?_
    refine wZ 6 (some 46) za (fun K hK=>?_)
    refine je Tryz.func14 (by kernel_rfl) rfl #[.slice zo9 ZE.length zpz,.agg #[.int .i64 KV,.int .i64 KY,.bool KW,.bool Ka],.slice zpq Zb.length zpx,.slice none 0 0] (by rfl) rfl rfl (by (try simp only [List.map_toArray,List.map_cons,List.map_nil]);first | done | rfl | (simp only [List.length_drop,List.length_take];rfl)) ?_
    refine (zm.calls k _ _ ZE KV KY KW Ka _ _ Zb _ _ ([]:List (kV)) l8 zzf nQ _ ?yc ?yI ?qy ?qw ?qD ?qE A13.out).mono ?_
    (case yc=>exact ql ((Kd.qU xM.out).2.2))
    (case yI=>exact (Kd.qU xM.out).2.1)
    (case qy=>exact ql ((Kd.xw uU.out).2.2))
    (case qw=>exact (Kd.xw uU.out).2.1)
    (case qD=>exact Kd.QY _ _)
    (case qE=>exact Nat.le_refl _)
    rintro e w78 ⟨zcX,zcJ,rfl,ho0,ho1,hb⟩
    refine ⟨_,rfl,?_⟩
    have zJ:=zx.mk (Kd.y8 (uq yh.out) hb)
    have zK:=zx.mk (Kd.vD (qp y7.out) (Kd.jq ho1) hb)
    have zi:=zx.mk (Kd.iP (uq qB.out) (Kd.zxg ho0) hb)
    have zL:=zx.mk (Kd.vD (qp qW.out) (Kd.jq ho1) hb)
    have qz:=zx.mk (Kd.y8 (uq xM.out) hb)
    have xX:=zx.mk (Kd.vD (qp uU.out) (Kd.jq ho1) hb)
    have uR:=zx.mk (Kd.jf (Kd.zxh ho0 (Kd.zVb (uq qB.out))) (ze (zH HB.out)))
    have Z0:=zx.mk (Kd.vG (Kd.jk (Kd.jk (Kd.jk ho1 (Kd.wH (qp y7.out))) (Kd.wH (qp qW.out))) (Kd.wH (qp uU.out))) (ze (zH HB.out)))
    have J4:=zx.mk (zU (g:=yD) (o:=.cells #[.int .i64 (wrap64 (Int.tmod (IntKind.u64.wrap (zl)) 5)),.int .i64 (wrap64 (1 + (wrap64 (Int.tmod (IntKind.u64.wrap (zf)) 1000)))),.bool zO,.bool zI] 26 (0,0)) (qh zW.out) hb)
    have J5:=zx.mk (zo (zH HB.out) hb)
    clear yh y7 qB qW xM uU zW HB
    have yh:=zJ
    have y7:=zK
    have qB:=zi
    have qW:=zL
    have xM:=qz
    have uU:=xX
    have YV:=uR
    have Zf:=Z0
    have zW:=J4
    have HB:=J5
    clear zJ zK zi zL qz xX uR Z0 J4 J5
    (try clear hb)
    (try clear hk)
    (try clear ho0)
    (try clear ho1)
    refine hK.out _ _ ⟨zZ zW 0,zZ zW 1,zZ zW 2,zZ zW 3⟩ (fun hHeld=>?_)
    clear hK K
    refine wY (some 46) ?_
    refine yQ 7 (some 39) za ?_
    refine yQ 8 (some 47) za ?_
    refine yQ 9 (some 48) za ?_
    refine yQ 10 (some 49) za ?_
    refine yQ 11 (some 9) za ?_
    refine yQ 12 (some 10) za ?_
    refine yQ 13 (some 11) za ?_
    refine xP (qH za.out (by kernel_rfl)) ?_
    obtain ⟨zAT,zAU,zpj⟩:=Kd.xK qW.out
    subst zpj
    obtain ⟨zA0,zA1,zpv⟩:=Kd.xK Zf.out
    subst zpv
    try go_wp2_with (first | (go_at_call 17;(with_reducible refine (qV.calls k _ _ P5 _ _ zzf false _ ?yc ?yI ?qy ?qw A15.out).mono ?_);(case yc=>exact ql ((Kd.xw qW.out).2.2));(case yI=>exact (Kd.xw qW.out).2.1);(case qy=>exact ql ((Kd.xw Zf.out).2.2));(case qw=>exact (Kd.xw Zf.out).2.1);rintro e w' ⟨rfl,⟨nd,rfl⟩⟩))
    go_ret
    exact ⟨by first | rfl | (simp [zM,zN] <;> rfl) | (simp [*,zM,zN] <;> rfl),by repeat (first | (with_reducible first | exact HB.out | apply yV | apply zP | apply zT | refine qb ?_ bJ.out) | exact HB.out)⟩
  ·rw [if_neg c14] at H
   have zkA:(KJ == nQ) = false:=beq_eq_false_iff_ne.mpr c14
   have znq:(KJ != nQ) = true:=bne_iff_ne.mpr c14
   obtain rfl:=Option.some.inj H
   go_enter Tryz.func4,Tryz.ntmps4
   try go_wp2_with (first | ((with_reducible refine qC (N:=3) rfl ?_);refine qM ?hg (N:=3) ?hd (cs:=#[.int .i64 zl,.int .i64 zf,.bool zO,.bool zI]) (t:=26) ?hr ?_;(case hd=>rfl);(case hg=>rfl);(case hr=>first | (go_simp;done) | (go_simp;rfl));intro yD hg w81 qc hb;have zJ:=zx.mk (zo (zH HB.out) hb);have zK:=zx.mk (qc);have zi:=zx.mk ((by rw [hg];exact (ze (zH HB.out)):w.heap.size ≤ yD));have zL:=zx.mk ((by rw [hg];exact (ze (zH HB.out)):w.heap.size ≤ yD));clear HB;have HB:=zJ;have zW:=zK;have zkG:=zi;have bJ:=zL;clear zJ zK zi zL;clear hb qc hg) | ((with_reducible refine yG (f:=19) rfl ?_);refine jm (some 16) Tryz.func19 #[] ?_;(with_reducible refine (uL.calls  wK _ ?yc A7.out).mono ?_);(case yc=>exact GW.under HG.out (zH HB.out));rintro e w82 ⟨zxK,rfl,ho0,hb⟩;refine ⟨_,rfl,?_⟩;have zJ:=zx.mk (Kd.jf ho0 (ze (zH HB.out)));have zK:=zx.mk (zU (g:=yD) (o:=.cells #[.int .i64 zl,.int .i64 zf,.bool zO,.bool zI] 26 (0,0)) (qh zW.out) hb);have zi:=zx.mk (zo (zH HB.out) hb);clear zW;clear HB;have yh:=zJ;have zW:=zK;have HB:=zi;clear zJ zK zi;(try clear hb);(try clear hk);(try clear ho0);have zsl:w82.cell? ⟨yD,0,none⟩ = some (.int .i64 zl):=zZ zW 0;have zsm:w82.cell? ⟨yD,1,none⟩ = some (.int .i64 zf):=zZ zW 1;have zsn:w82.cell? ⟨yD,2,none⟩ = some (.bool zO):=zZ zW 2;have zso:w82.cell? ⟨yD,3,none⟩ = some (.bool zI):=zZ zW 3;have zsp:=zy zW.out 0;have zsr:=zy zW.out 1;have zss:=zy zW.out 2;have zst:=zy zW.out 3))
   have zJ:zx (Kd.S Ye 60 ((w82.setCell ⟨yD,0,none⟩ (.int .i64 (wrap64 (Int.tmod (IntKind.u64.wrap (zl)) 5)))).setCell ⟨yD,1,none⟩ (.int .i64 (wrap64 (1 + (wrap64 (Int.tmod (IntKind.u64.wrap (zf)) 1000)))))) w.heap.size (fun _=>True) zxK wK):=⟨by (with_reducible repeat (first | apply Kd.vK | apply Kd.vY | apply Kd.qR));exact Kd.kD (Kd.Yb (p:=⟨yD,1,none⟩) (Kd.Yb (p:=⟨yD,0,none⟩) (Kd.zzn yh.out zW.out (by decide)) (fun _ hk=>hk.2) (.int .i64 (wrap64 (Int.tmod (IntKind.u64.wrap (zl)) 5)))) (fun _ hk=>hk.2) (.int .i64 (wrap64 (1 + (wrap64 (Int.tmod (IntKind.u64.wrap (zf)) 1000)))))) (fun _ hk=>trivial)⟩
   have zK:zx (((w82.setCell ⟨yD,0,none⟩ (.int .i64 (wrap64 (Int.tmod (IntKind.u64.wrap (zl)) 5)))).setCell ⟨yD,1,none⟩ (.int .i64 (wrap64 (1 + (wrap64 (Int.tmod (IntKind.u64.wrap (zf)) 1000)))))).heap[yD]? = some (.cells #[.int .i64 (wrap64 (Int.tmod (IntKind.u64.wrap (zl)) 5)),.int .i64 (wrap64 (1 + (wrap64 (Int.tmod (IntKind.u64.wrap (zf)) 1000)))),.bool zO,.bool zI] 26 (0,0))):=⟨by (with_reducible repeat (first | refine vQ ?_ _ | refine qK ?_ | refine yL ?_ _));refine xD (cs:=#[.int .i64 (wrap64 (Int.tmod (IntKind.u64.wrap (zl)) 5)),.int .i64 zf,.bool zO,.bool zI]) ?_ 1 _ rfl;(with_reducible repeat (first | refine vQ ?_ _ | refine qK ?_ | refine yL ?_ _));refine xD (cs:=#[.int .i64 zl,.int .i64 zf,.bool zO,.bool zI]) ?_ 0 _ rfl;(with_reducible repeat (first | refine vQ ?_ _ | refine qK ?_ | refine yL ?_ _));exact zW.out⟩
   have zi:zx (Below w.heap.size w ((w82.setCell ⟨yD,0,none⟩ (.int .i64 (wrap64 (Int.tmod (IntKind.u64.wrap (zl)) 5)))).setCell ⟨yD,1,none⟩ (.int .i64 (wrap64 (1 + (wrap64 (Int.tmod (IntKind.u64.wrap (zf)) 1000))))))):=⟨zH HB.out⟩
   (try clear yh)
   (try clear zW)
   (try clear HB)
   generalize ((w82.setCell ⟨yD,0,none⟩ (.int .i64 (wrap64 (Int.tmod (IntKind.u64.wrap (zl)) 5)))).setCell ⟨yD,1,none⟩ (.int .i64 (wrap64 (1 + (wrap64 (Int.tmod (IntKind.u64.wrap (zf)) 1000)))))) = w84 at zJ zK zi ⊢
   have yh:=zJ
   have zW:=zK
   have HB:=zi
   clear zJ zK zi
   have zJ:=zx.mk (Kd.qR yh.out)
   have zK:=zx.mk (qK zW.out)
   have zi:=zx.mk (zT HB.out)
   clear yh zW HB
   have yh:=zJ
   have zW:=zK
   have HB:=zi
   clear zJ zK zi
   refine jy (n:=12) (S:=fun w'=>w'.cell? ⟨yD,0,none⟩ = some (.int .i64 (wrap64 (Int.tmod (IntKind.u64.wrap (zl)) 5))) ∧ w'.cell? ⟨yD,1,none⟩ = some (.int .i64 (wrap64 (1 + (wrap64 (Int.tmod (IntKind.u64.wrap (zf)) 1000))))) ∧ w'.cell? ⟨yD,2,none⟩ = some (.bool zO) ∧ w'.cell? ⟨yD,3,none⟩ = some (.bool zI)) (ds:=[]) #[false,false,false,false,false,false,false,false,false,false,false,false] (by kernel_rfl) rfl rfl ⟨zZ zW 0,zZ zW 1,zZ zW 2,zZ zW 3⟩ (fun hHeld=>?_);refine uZ yw.ny yw.PY (fun za vC=>?_)
   generalize w84.drew = w85 at yh zW HB hHeld ⊢
   refine yQ 0 (some 31) za ?_
   refine yQ 2 (some 33) za ?_
   refine jg 1 (some 32) za vC hHeld ?_
   refine wZ 3 (some 34) za (fun K hK=>?_)
   refine je Tryz.func20 (by kernel_rfl) rfl #[.string a0] (by rfl) rfl rfl (by (try simp only [List.map_toArray,List.map_cons,List.map_nil]);first | done | rfl | (simp only [List.length_drop,List.length_take];rfl)) ?_
   with_reducible refine (yN.calls k a0 Xc _ A8.out).mono ?_
   rintro e w86 ⟨zck,rfl,ho0,hb⟩
   refine ⟨_,rfl,?_⟩
   have zJ:=zx.mk (Kd.y8 (uq yh.out) hb)
   have zK:=zx.mk (Kd.vG ho0 (ze (zH HB.out)))
   have zi:=zx.mk (zU (g:=yD) (o:=.cells #[.int .i64 (wrap64 (Int.tmod (IntKind.u64.wrap (zl)) 5)),.int .i64 (wrap64 (1 + (wrap64 (Int.tmod (IntKind.u64.wrap (zf)) 1000)))),.bool zO,.bool zI] 26 (0,0)) (qh zW.out) hb)
   have zL:=zx.mk (zo (zH HB.out) hb)
   clear yh zW HB
   have yh:=zJ
   have y7:=zK
   have zW:=zi
   have HB:=zL
   clear zJ zK zi zL
   (try clear hb)
   (try clear hk)
   (try clear ho0)
   obtain ⟨ziQ,ziX,ziJ⟩:=Kd.wm yh.out
   (first | subst ziJ | (injection ziJ with jP ZJ jR;have ZV:=jP.symm;have ZK:=jR.symm;clear jP ZJ jR;subst ZV;subst ZK))
   obtain ⟨zpk,zpy,ziV⟩:=Kd.xK y7.out
   (first | subst ziV | (injection ziV with jP ZJ jR;have ZV:=jP.symm;have ZK:=jR.symm;clear jP ZJ jR;subst ZV;subst ZK))
   refine hK.out _ _ ⟨zZ zW 0,zZ zW 1,zZ zW 2,zZ zW 3⟩ (fun hHeld=>?_)
   clear hK K
   refine wY (some 34) ?_
   refine wZ 4 (some 35) za (fun K hK=>?_)
   refine je Tryz.func13 (by kernel_rfl) rfl #[.slice ziQ wK.length ziX,.agg #[.int .i64 (wrap64 (Int.tmod (IntKind.u64.wrap (zl)) 5)),.int .i64 (wrap64 (1 + (wrap64 (Int.tmod (IntKind.u64.wrap (zf)) 1000)))),.bool zO,.bool zI],.slice zpk Xc.length zpy,.slice none 0 0] (by rfl) rfl rfl (by (try simp only [List.map_toArray,List.map_cons,List.map_nil]);first | done | rfl | (simp only [List.length_drop,List.length_take];rfl)) ?_
   refine (uQ.calls _ _ wK (wrap64 (Int.tmod (IntKind.u64.wrap (zl)) 5)) (wrap64 (1 + (wrap64 (Int.tmod (IntKind.u64.wrap (zf)) 1000)))) zO zI _ _ Xc _ _ ([]:List (kV)) Py P5 KJ _ ?yc ?yI ?qy ?qw ?qD ?qE ?jU A9.out).mono ?_
   (case yc=>exact ql ((Kd.qU yh.out).2.2))
   (case yI=>exact (Kd.qU yh.out).2.1)
   (case qy=>exact ql ((Kd.xw y7.out).2.2))
   (case qw=>exact (Kd.xw y7.out).2.1)
   (case qD=>exact Kd.QY _ _)
   (case qE=>exact Nat.le_refl _)
   (case jU=>exact GW.under HG.out (zH HB.out))
   rintro e w89 ⟨zcy,zcw,rfl,ho0,ho1,hb⟩
   refine ⟨_,rfl,?_⟩
   have zJ:=zx.mk (Kd.y8 (uq yh.out) hb)
   have zK:=zx.mk (Kd.vD (qp y7.out) (Kd.jq ho1) hb)
   have zi:=zx.mk (Kd.jf ho0 (ze (zH HB.out)))
   have zL:=zx.mk (Kd.vG (Kd.jk ho1 (Kd.wH (qp y7.out))) (ze (zH HB.out)))
   have qz:=zx.mk (zU (g:=yD) (o:=.cells #[.int .i64 (wrap64 (Int.tmod (IntKind.u64.wrap (zl)) 5)),.int .i64 (wrap64 (1 + (wrap64 (Int.tmod (IntKind.u64.wrap (zf)) 1000)))),.bool zO,.bool zI] 26 (0,0)) (qh zW.out) hb)
   have xX:=zx.mk (zo (zH HB.out) hb)
   clear yh y7 zW HB
   have yh:=zJ
   have y7:=zK
   have qB:=zi
   have qW:=zL
   have zW:=qz
   have HB:=xX
   clear zJ zK zi zL qz xX
   (try clear hb)
   (try clear hk)
   (try clear ho0)
   (try clear ho1)
   refine hK.out _ _ ⟨zZ zW 0,zZ zW 1,zZ zW 2,zZ zW 3⟩ (fun hHeld=>?_)
   clear hK K
   refine wY (some 35) ?_
   refine yQ 5 (some 30) za ?_
   refine yQ 6 (some 36) za ?_
   refine yQ 7 (some 37) za ?_
   refine yQ 8 (some 38) za ?_
   refine yQ 9 (some 6) za ?_
   refine yQ 10 (some 7) za ?_
   refine yQ 11 (some 8) za ?_
   refine xP (qH za.out (by kernel_rfl)) ?_
   try go_wp2
   have zJ:=zx.mk (Kd.qR yh.out)
   have zK:=zx.mk (Kd.vB y7.out)
   have zi:=zx.mk (Kd.qR qB.out)
   have zL:=zx.mk (Kd.vB qW.out)
   have qz:=zx.mk (qK zW.out)
   have xX:=zx.mk (zT HB.out)
   clear yh y7 qB qW zW HB
   have yh:=zJ
   have y7:=zK
   have qB:=zi
   have qW:=zL
   have zW:=qz
   have HB:=xX
   clear zJ zK zi zL qz xX
   refine jy (n:=14) (S:=fun w'=>w'.cell? ⟨yD,0,none⟩ = some (.int .i64 (wrap64 (Int.tmod (IntKind.u64.wrap (zl)) 5))) ∧ w'.cell? ⟨yD,1,none⟩ = some (.int .i64 (wrap64 (1 + (wrap64 (Int.tmod (IntKind.u64.wrap (zf)) 1000))))) ∧ w'.cell? ⟨yD,2,none⟩ = some (.bool zO) ∧ w'.cell? ⟨yD,3,none⟩ = some (.bool zI)) (ds:=[]) #[false,false,false,false,false,false,false,false,false,false,false,false,false,false] (by kernel_rfl) rfl rfl ⟨zZ zW 0,zZ zW 1,zZ zW 2,zZ zW 3⟩ (fun hHeld=>?_);refine uZ yw.zqP yw.lW (fun za vC=>?_)
   generalize w89.drew = w90 at yh y7 qB qW zW HB hHeld ⊢
   refine yQ 0 (some 40) za ?_
   refine yQ 4 (some 44) za ?_
   refine jg 2 (some 42) za vC hHeld ?_
   refine wZ 1 (some 41) za (fun K hK=>?_)
   refine je Tryz.func15 (by kernel_rfl) rfl #[.slice ziQ wK.length ziX] (by rfl) rfl rfl (by (try simp only [List.map_toArray,List.map_cons,List.map_nil]);first | done | rfl | (simp only [List.length_drop,List.length_take];rfl)) ?_
   with_reducible refine (zh.calls k _ _ wK ZE _ ?yc ?yI oH.out).mono ?_
   (case yc=>exact ql ((Kd.qU yh.out).2.2))
   (case yI=>exact (Kd.qU yh.out).2.1)
   rintro e w91 ⟨zcZ,rfl,ho0,hb⟩
   refine ⟨_,rfl,?_⟩
   have zJ:=zx.mk (Kd.y8 (uq yh.out) hb)
   have zK:=zx.mk (Kd.qG (qp y7.out) hb)
   have zi:=zx.mk (Kd.y8 (uq qB.out) hb)
   have zL:=zx.mk (Kd.qG (qp qW.out) hb)
   have qz:=zx.mk (Kd.jf ho0 (ze (zH HB.out)))
   have xX:=zx.mk (zU (g:=yD) (o:=.cells #[.int .i64 (wrap64 (Int.tmod (IntKind.u64.wrap (zl)) 5)),.int .i64 (wrap64 (1 + (wrap64 (Int.tmod (IntKind.u64.wrap (zf)) 1000)))),.bool zO,.bool zI] 26 (0,0)) (qh zW.out) hb)
   have uR:=zx.mk (zo (zH HB.out) hb)
   clear yh y7 qB qW zW HB
   have yh:=zJ
   have y7:=zK
   have qB:=zi
   have qW:=zL
   have xM:=qz
   have zW:=xX
   have HB:=uR
   clear zJ zK zi zL qz xX uR
   (try clear hb)
   (try clear hk)
   (try clear ho0)
   refine hK.out _ _ ⟨zZ zW 0,zZ zW 1,zZ zW 2,zZ zW 3⟩ (fun hHeld=>?_)
   clear hK K
   refine wY (some 41) ?_
   refine wZ 3 (some 43) za (fun K hK=>?_)
   refine je Tryz.func16 (by kernel_rfl) rfl #[.agg #[.int .i64 (wrap64 (Int.tmod (IntKind.u64.wrap (zl)) 5)),.int .i64 (wrap64 (1 + (wrap64 (Int.tmod (IntKind.u64.wrap (zf)) 1000)))),.bool zO,.bool zI]] (by rfl) rfl rfl (by (try simp only [List.map_toArray,List.map_cons,List.map_nil]);first | done | rfl | (simp only [List.length_drop,List.length_take];rfl)) ?_
   with_reducible refine (vT.calls (wrap64 (Int.tmod (IntKind.u64.wrap (zl)) 5)) (wrap64 (1 + (wrap64 (Int.tmod (IntKind.u64.wrap (zf)) 1000)))) zO zI KV KY KW Ka _ A11.out).mono ?_
   rintro e w92 ⟨rfl,hb⟩
   refine ⟨_,rfl,?_⟩
   have zJ:=zx.mk (Kd.y8 (uq yh.out) hb)
   have zK:=zx.mk (Kd.qG (qp y7.out) hb)
   have zi:=zx.mk (Kd.y8 (uq qB.out) hb)
   have zL:=zx.mk (Kd.qG (qp qW.out) hb)
   have qz:=zx.mk (Kd.y8 (uq xM.out) hb)
   have xX:=zx.mk (zU (g:=yD) (o:=.cells #[.int .i64 (wrap64 (Int.tmod (IntKind.u64.wrap (zl)) 5)),.int .i64 (wrap64 (1 + (wrap64 (Int.tmod (IntKind.u64.wrap (zf)) 1000)))),.bool zO,.bool zI] 26 (0,0)) (qh zW.out) hb)
   have uR:=zx.mk (zo (zH HB.out) hb)
   clear yh y7 qB qW xM zW HB
   have yh:=zJ
   have y7:=zK
   have qB:=zi
   have qW:=zL
   have xM:=qz
   have zW:=xX
   have HB:=uR
   clear zJ zK zi zL qz xX uR
   (try clear hb)
   (try clear hk)
   refine hK.out _ _ ⟨zZ zW 0,zZ zW 1,zZ zW 2,zZ zW 3⟩ (fun hHeld=>?_)
   clear hK K
   refine wY (some 43) ?_
   refine wZ 5 (some 45) za (fun K hK=>?_)
   refine je Tryz.func20 (by kernel_rfl) rfl #[.string a0] (by rfl) rfl rfl (by (try simp only [List.map_toArray,List.map_cons,List.map_nil]);first | done | rfl | (simp only [List.length_drop,List.length_take];rfl)) ?_
   with_reducible refine (yN.calls k a0 Zb _ mW.out).mono ?_
   rintro e w93 ⟨zcQ,rfl,ho0,hb⟩
   refine ⟨_,rfl,?_⟩
   have zJ:=zx.mk (Kd.y8 (uq yh.out) hb)
   have zK:=zx.mk (Kd.vD (qp y7.out) (Kd.jq ho0) hb)
   have zi:=zx.mk (Kd.y8 (uq qB.out) hb)
   have zL:=zx.mk (Kd.vD (qp qW.out) (Kd.jq ho0) hb)
   have qz:=zx.mk (Kd.y8 (uq xM.out) hb)
   have xX:=zx.mk (Kd.vG (Kd.jk (Kd.jk ho0 (Kd.wH (qp y7.out))) (Kd.wH (qp qW.out))) (ze (zH HB.out)))
   have uR:=zx.mk (zU (g:=yD) (o:=.cells #[.int .i64 (wrap64 (Int.tmod (IntKind.u64.wrap (zl)) 5)),.int .i64 (wrap64 (1 + (wrap64 (Int.tmod (IntKind.u64.wrap (zf)) 1000)))),.bool zO,.bool zI] 26 (0,0)) (qh zW.out) hb)
   have Z0:=zx.mk (zo (zH HB.out) hb)
   clear yh y7 qB qW xM zW HB
   have yh:=zJ
   have y7:=zK
   have qB:=zi
   have qW:=zL
   have xM:=qz
   have uU:=xX
   have zW:=uR
   have HB:=Z0
   clear zJ zK zi zL qz xX uR Z0
   (try clear hb)
   (try clear hk)
   (try clear ho0)
   obtain ⟨zpw,zpZ,ziK⟩:=Kd.wm xM.out
   (first | subst ziK | (injection ziK with jP ZJ jR;have ZV:=jP.symm;have ZK:=jR.symm;clear jP ZJ jR;subst ZV;subst ZK))
   obtain ⟨zpQ,zpX,ziY⟩:=Kd.xK uU.out
   (first | subst ziY | (injection ziY with jP ZJ jR;have ZV:=jP.symm;have ZK:=jR.symm;clear jP ZJ jR;subst ZV;subst ZK))
   refine hK.out _ _ ⟨zZ zW 0,zZ zW 1,zZ zW 2,zZ zW 3⟩ (fun hHeld=>?_)
   clear hK K
   refine wY (some 45) ?_
   refine wZ 6 (some 46) za (fun K hK=>?_)
   refine je Tryz.func14 (by kernel_rfl) rfl #[.slice zpw ZE.length zpZ,.agg #[.int .i64 KV,.int .i64 KY,.bool KW,.bool Ka],.slice zpQ Zb.length zpX,.slice none 0 0] (by rfl) rfl rfl (by (try simp only [List.map_toArray,List.map_cons,List.map_nil]);first | done | rfl | (simp only [List.length_drop,List.length_take];rfl)) ?_
   refine (zm.calls k _ _ ZE KV KY KW Ka _ _ Zb _ _ ([]:List (kV)) l8 zzf nQ _ ?yc ?yI ?qy ?qw ?qD ?qE A13.out).mono ?_
   (case yc=>exact ql ((Kd.qU xM.out).2.2))
   (case yI=>exact (Kd.qU xM.out).2.1)
   (case qy=>exact ql ((Kd.xw uU.out).2.2))
   (case qw=>exact (Kd.xw uU.out).2.1)
   (case qD=>exact Kd.QY _ _)
   (case qE=>exact Nat.le_refl _)
   rintro e w96 ⟨zcX,zcJ,rfl,ho0,ho1,hb⟩
   refine ⟨_,rfl,?_⟩
   have zJ:=zx.mk (Kd.y8 (uq yh.out) hb)
   have zK:=zx.mk (Kd.vD (qp y7.out) (Kd.jq ho1) hb)
   have zi:=zx.mk (Kd.iP (uq qB.out) (Kd.zxg ho0) hb)
   have zL:=zx.mk (Kd.vD (qp qW.out) (Kd.jq ho1) hb)
   have qz:=zx.mk (Kd.y8 (uq xM.out) hb)
   have xX:=zx.mk (Kd.vD (qp uU.out) (Kd.jq ho1) hb)
   have uR:=zx.mk (Kd.jf (Kd.zxh ho0 (Kd.zVb (uq qB.out))) (ze (zH HB.out)))
   have Z0:=zx.mk (Kd.vG (Kd.jk (Kd.jk (Kd.jk ho1 (Kd.wH (qp y7.out))) (Kd.wH (qp qW.out))) (Kd.wH (qp uU.out))) (ze (zH HB.out)))
   have J4:=zx.mk (zU (g:=yD) (o:=.cells #[.int .i64 (wrap64 (Int.tmod (IntKind.u64.wrap (zl)) 5)),.int .i64 (wrap64 (1 + (wrap64 (Int.tmod (IntKind.u64.wrap (zf)) 1000)))),.bool zO,.bool zI] 26 (0,0)) (qh zW.out) hb)
   have J5:=zx.mk (zo (zH HB.out) hb)
   clear yh y7 qB qW xM uU zW HB
   have yh:=zJ
   have y7:=zK
   have qB:=zi
   have qW:=zL
   have xM:=qz
   have uU:=xX
   have YV:=uR
   have Zf:=Z0
   have zW:=J4
   have HB:=J5
   clear zJ zK zi zL qz xX uR Z0 J4 J5
   (try clear hb)
   (try clear hk)
   (try clear ho0)
   (try clear ho1)
   refine hK.out _ _ ⟨zZ zW 0,zZ zW 1,zZ zW 2,zZ zW 3⟩ (fun hHeld=>?_)
   clear hK K
   refine wY (some 46) ?_
   refine yQ 7 (some 39) za ?_
   refine yQ 8 (some 47) za ?_
   refine yQ 9 (some 48) za ?_
   refine yQ 10 (some 49) za ?_
   refine yQ 11 (some 9) za ?_
   refine yQ 12 (some 10) za ?_
   refine yQ 13 (some 11) za ?_
   refine xP (qH za.out (by kernel_rfl)) ?_
   try go_wp2
   go_ret
   exact ⟨by first | rfl | (simp [zM,zN] <;> rfl) | (simp [*,zM,zN] <;> rfl),by repeat (first | (with_reducible first | exact HB.out | apply yV | apply zP | apply zT | refine qb ?_ bJ.out) | exact HB.out)⟩
end Go.Proofs.YtggifbbiiickmaaGreatDoor.PX
namespace Go.Proofs.YtggifbbiiickmaaGreatDoor
open Go.RowKit Go.Proofs.zk.zA Go.Proofs.zk.yB Go.Proofs.zk.yA Go.Proofs.YtggifbbiiickmaaGreatDoor.PX
set_option linter.unusedSimpArgs false
set_option linter.unusedVariables false
theorem zWF:Pj.all (fun x=>decide (x.f0.size ≤ 100) && x.f3.all (fun y=>decide (y.f0.size ≤ 100))) = true:=by decide +kernel
theorem zwk:∀ x ∈ Pj,Yi x:=fun x hx=>by
 have h:=List.all_eq_true.1 zWF x hx
 have g:=List.all_eq_true.1 zXK x hx
 simp only [Bool.and_eq_true,decide_eq_true_eq,List.all_eq_true] at h
 unfold okF at g
 have g:=of_decide_eq_true g
 exact ⟨g.1,g.2.1,g.2.2,by omega,fun y hy=>by have:=h.2 y hy;omega⟩
theorem zwW (s:ByteArray):∀ c ∈ Ym s,c.size ≤ 140737488355328:=fun c hc=>by
 unfold Ym at hc
 obtain ⟨i,_,rfl⟩:=List.mem_map.1 hc
 rw [ByteArray.size_extract]
 omega
theorem zcV (t:ByteArray) (f0 s0:Int) (lg kn:Bool):Ev (fun k=>yw.f k t f0 s0 lg kn) true:=by
 by_cases hs:(t.size:Int) > 300
 ·exact Ev.congr (fun k=>by rw [yw.f]) (yJ hs (J9 zWs (Ev.now _)))
 ·obtain ⟨i,hi,ei⟩:=zXY f0 5 (by decide) (by decide)
  obtain ⟨j,hj,ej⟩:=zXY s0 1000 (by decide) (by decide)
  have ej2:wrap64 (1 + (j:Int)) = 1 + (j:Int):=kQ (by omega) (by omega)
  have hc:=zcq t (by omega)
  have hcl:=l7 t
  have hbx:=zfu Pj (i:Int) (1 + (j:Int)) lg kn (Ym t) [] zXK (by rw [zv2];decide) (by omega) (Nat.zero_le _)
  have has:=zlV Pj (by rw [zv2];decide) zwk
  have hrb:=zWa Pj (by rw [zv2];decide) zwk (i:Int) (1 + (j:Int)) lg kn (Ym t) (zwW t) [] (fun p hp=>by cases hp) (fun all=>zWB _ all)
  refine Ev.congr (fun k=>by rw [yw.f,ei,ej,ej2]) (xW hs (J9 (x:=uL.f) rfl (Ev.bind hc (J9 hbx (Ev.bind has (J9 (x:=vT.f (i:Int) (1 + (j:Int)) lg kn) rfl (Ev.bind hc (Ev.bind hrb ?_))))))))
  exact zWC Pj (i:Int) (1 + (j:Int)) lg kn (Ym t) []
theorem zwa (t:ByteArray) (f0 s0:Int) (lg kn:Bool) (w:World) (hG:GW w):Calls Tryz.prog 4 #[.string t,.agg #[.int .i64 f0,.int .i64 s0,.bool lg,.bool kn]] w fun e w'=>e = .returned (.bool true) ∧ Below w.heap.size w w':=by
 obtain ⟨k,hk⟩:=(zcV t f0 s0 lg kn).rounds
 exact yw.calls k t f0 s0 lg kn true w hG hk
end Go.Proofs.YtggifbbiiickmaaGreatDoor
namespace Go.Proofs.YtggifbbiiickmaaGreatDoor
open Go.ChangeShapes Go.WideShapes Go.RowKit Go.Deep Go.Proofs.zk.zA
section
variable {H:Type} {enc:TypeId × Value → H} {P:Program} {w:World} {sp:Nat → Bool} {held:Bool} {α:Type}
end
end Go.Proofs.YtggifbbiiickmaaGreatDoor
namespace Go.Proofs.YtggifbbiiickmaaGreatDoor
open Go.ChangeShapes Go.WideShapes Go.RowKit Go.Deep Go.Proofs.zk.zA Go.Proofs.YtggifbbiiickmaaGreatDoor.PX
set_option linter.unusedSimpArgs false
set_option linter.unusedVariables false
section
variable {H:Type} {enc:TypeId × Value → H} {w:World} {sp:Nat → Bool} {held:Bool}
set_option maxRecDepth 100000 in
theorem zYz {r:Reach} {b0:Nat} {v:Value} {d0:DataW H} {ps:List MemPlace}
  (hval:Value.okWide Tryz.prog w r b0 26 v) (h:DataW.Trod enc Tryz.prog w 0 sp held 26 v d0 ps) :
  ∃ (f s:Int) (lg kn:Bool),v = .agg #[.int .i64 f,.int .i64 s,.bool lg,.bool kn]:=by
 obtain ⟨cs,rfl,hsz⟩:=okWide_struct Tryz.underlying26 hval
 obtain ⟨fuel,hf0⟩:=h
 obtain ⟨xs,k,hk,hxy,hcl,hxl,hf⟩:=DataW.trod_struct Tryz.underlying26 hf0
 have c50:Tryz.prog.cellsOf 26 = 4:=by kernel_rfl
 have c3:Tryz.prog.cellsOf 3 = 1:=by kernel_rfl
 have c4:Tryz.prog.cellsOf 4 = 1:=by kernel_rfl
 have hcs:(Value.agg cs).cells.toList = cs.toList:=by simp [Value.cells]
 rw [hcs] at hf hcl
 rw [c50] at hcl
 have hcc:cs = ⟨cs.toList⟩:=rfl
 generalize cs.toList = L at hf hcl hcc
 subst hcc
 match xs,hxl,L,hcl with
 | [z0,z1,z2,z3],_,[v0,v1,v2,v3],_ =>
  have f0:=hf 0 _ rfl
  have f1:=hf 1 _ rfl
  have f2:=hf 2 _ rfl
  have f3:=hf 3 _ rfl
  simp [c3,c4] at f0 f1 f2 f3
  obtain ⟨n0,e0,_⟩:=DataW.trod_int Tryz.underlying3 f0
  obtain ⟨n1,e1,_⟩:=DataW.trod_int Tryz.underlying3 f1
  obtain ⟨n2,e2,_⟩:=DataW.trod_bool Tryz.underlying4 f2
  obtain ⟨n3,e3,_⟩:=DataW.trod_bool Tryz.underlying4 f3
  cases e0;cases e1;cases e2;cases e3
  exact ⟨n0,n1,n2,n3,rfl⟩
end
end Go.Proofs.YtggifbbiiickmaaGreatDoor
namespace Go.Proofs.YtggifbbiiickmaaGreatDoor
open Go.RowKit Go.ChangeShapes Go.WideShapes Go.Proofs.zk.zA
theorem oQ {P:Program} {w:World} {l:List (String × DataW Unit)} {n nm:String} {d:DataW Unit} {g:Nat} {t:TypeId} {ms:Array (String × TypeId)} (h:laidMet P l w) (hm:(n,.iface nm d) ∈ l)
  (hg:P.globalNamed n = some g) (ht:(P.globals[g]?).map (·.type) = some t) (hu:P.underlying t = some (.interface ms)):∃ tp p,w.var? P n = some #[.iface tp p]:=by
 obtain ⟨g',t',cs,fuel,p,e1,e2,e3,e4⟩:=Lib.laidMet.reads h hm
 obtain rfl:g' = g:=Option.some.inj (e1.symm.trans hg)
 obtain rfl:t' = t:=Option.some.inj (e2.symm.trans ht)
 cases fuel with
 | zero=>simp [DataW.trod] at e4
 | succ k =>
  unfold DataW.trod at e4
  rw [hu] at e4
  obtain ⟨cl⟩:=cs
  rw [e3]
  match cl,e4 with
  | [],e4=>simp at e4
  | [v],e4 =>
   cases v <;> simp at e4
   exact ⟨_,_,rfl⟩
  | _ :: _ :: _,e4=>simp at e4
theorem znx {W:World} {l:List (String × DataW Unit)} {ds:DataW Unit} {dr:DataW Unit} {n1 n2:String} (h:laidMet Tryz.prog l W) (hsh:W.ShapedOpen Tryz.prog) (h1:("internal/strconv.uint64pow10",Lib.tabData .u64 Lib.pow10Tab) ∈ l) (h2:("strconv.ErrSyntax",.iface n1 ds) ∈ l) (h3:("strconv.ErrRange",.iface n2 dr) ∈ l) (h4:("strings.asciiSpace",Lib.tabData .u8 Lib.asciiSpaceTab) ∈ l):GW W:=by
 have htab:Lib.TabIs Tryz.prog W "internal/strconv.uint64pow10" .u64 Lib.pow10Tab:=oz (g:=7) (t:=270) (e:=214) (n:=20) (by kernel_rfl) (by kernel_rfl) Tryz.underlying270 Tryz.underlying214 (by kernel_rfl) (by kernel_rfl) h h1
 have zpJ:Lib.TabIs Tryz.prog W "strings.asciiSpace" .u8 Lib.asciiSpaceTab:=oz (g:=0) (t:=169) (e:=5) (n:=256) (by kernel_rfl) (by kernel_rfl) Tryz.underlying169 Tryz.underlying5 (by kernel_rfl) (by kernel_rfl) h h4
 refine ⟨htab,oQ (g:=3) h h2 (by kernel_rfl) (t:=133) (by kernel_rfl) Tryz.underlying133,oQ (g:=4) h h3 (by kernel_rfl) (t:=133) (by kernel_rfl) Tryz.underlying133,zpJ,
  cell_of_shapedOpen_int (t:=3) (zero:=#[.int .i64 0]) hsh (of_decide_eq_true (by kernel_rfl)) (by kernel_rfl) rfl (by kernel_rfl) (by kernel_rfl) Tryz.underlying3,?_⟩
 obtain ⟨o,_,h4,_⟩:=hsh.2 11 (of_decide_eq_true (by kernel_rfl)) (of_decide_eq_true (by kernel_rfl))
 rcases Nat.lt_or_ge 11 W.heap.size with h5 | h5
 ·omega
 ·rw [Array.getElem?_eq_none h5] at h4;cases h4
end Go.Proofs.YtggifbbiiickmaaGreatDoor
