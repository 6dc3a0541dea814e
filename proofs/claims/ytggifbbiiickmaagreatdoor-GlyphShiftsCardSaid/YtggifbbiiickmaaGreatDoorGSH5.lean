/-
  Texts that lean on one another, laid in one file. No condition.
-/
import Derived.Test.YtggifbbiiickmaaGreatDoorGSH1
import Derived.Test.YtggifbbiiickmaaGreatDoorGSH4
import Derived.Test.YtggifbbiiickmaaGreatDoorGSH3
import Derived.WalkKit
import Derived.WalkSpells
import Derived.WalkLawsBesides
import Derived.Lib.SliceRun
import Derived.Lib.Hide
import Derived.Deep.DeepCutAuto
namespace Go.Proofs.YtggifbbiiickmaaGreatDoor.PX
open Go.RowKit Go.Proofs.zk.za Go.Proofs.zk.zS Go.Proofs.zk.zR
attribute [local go_sem] qD qE xJ xV qc qd qF qG   -- for this text's walks alone
set_option linter.unusedVariables false
set_option linter.unusedSimpArgs false
mutual
def zP.j0:Nat → Bool → Int → Int → Int → Int → ByteArray → ByteArray → List Int → Int → Int → Int → Int → ByteArray → ByteArray → List Int → Option (Bool)
 | 0,_,_,_,_,_,_,_,_,_,_,_,_,_,_,_=>none
 | k + 1,x54,zjH,zjI,zjL,zjM,zjN,zjO,nN,zjP,zjR,zjS,zjT,zjU,zj0,nO=>if x54 = true then (some false) else (zP.l0 k 0 zjH zjI zjL zjM zjN zjO nN zjP zjR zjS zjT zjU zj0 nO)
def zP.l0:Nat → Int → Int → Int → Int → Int → ByteArray → ByteArray → List Int → Int → Int → Int → Int → ByteArray → ByteArray → List Int → Option (Bool)
 | 0,_,_,_,_,_,_,_,_,_,_,_,_,_,_,_=>none
 | k + 1,x5,zjH,zjI,zjL,zjM,zjN,zjO,nN,zjP,zjR,zjS,zjT,zjU,zj0,nO=>if x5 < (nN.length:Int) then (if 0 ≤ x5 then (if x5 < (nO.length:Int) then (if (rd nN x5) = (rd nO x5) then (zP.l0 k (wrap64 (x5 + 1)) zjH zjI zjL zjM zjN zjO nN zjP zjR zjS zjT zjU zj0 nO) else (some false)) else (none)) else (none)) else (some true)
end
def zP.f (k:Nat) (zF:Int) (zG:Int) (zB:Int) (vU:Int) (uz:ByteArray) (uq:ByteArray) (vQ:List Int) (uQ:Int) (uX:Int) (uf:Int) (ug:Int) (jq:ByteArray) (jk:ByteArray) (uV:List Int):Option (Bool):=if zF = uQ then (if zG = uX then (if zB = uf then (if vU = ug then (if uz.toList = jq.toList then (if uq.toList = jk.toList then (zP.j0 k ((vQ.length:Int) != (uV.length:Int)) zF zG zB vU uz uq vQ uQ uX uf ug jq jk uV) else (zP.j0 k true zF zG zB vU uz uq vQ uQ uX uf ug jq jk uV)) else (zP.j0 k true zF zG zB vU uz uq vQ uQ uX uf ug jq jk uV)) else (zP.j0 k true zF zG zB vU uz uq vQ uQ uX uf ug jq jk uV)) else (zP.j0 k true zF zG zB vU uz uq vQ uQ uX uf ug jq jk uV)) else (zP.j0 k true zF zG zB vU uz uq vQ uQ uX uf ug jq jk uV)) else (zP.j0 k true zF zG zB vU uz uq vQ uQ uX uf ug jq jk uV)
set_option maxHeartbeats 8000000 in
set_option maxRecDepth 100000 in
theorem zP.calls (k:Nat) (zF:Int) (zG:Int) (zB:Int) (vU:Int) (uz:ByteArray) (uq:ByteArray) (pX:Option Addr) (pJ:Nat) (vQ:List Int) (uQ:Int) (uX:Int) (uf:Int) (ug:Int) (jq:ByteArray) (jk:ByteArray) (Qa:Option Addr) (Qb:Nat) (uV:List Int) (r:Bool) (w:World) (zaw:Kd.C (Kd.int .i64) w pX vQ.length vQ) (zaZ:vQ.length ≤ pJ) (zaQ:Kd.C (Kd.int .i64) w Qa uV.length uV) (zaX:uV.length ≤ Qb) (h:zP.f k zF zG zB vU uz uq vQ uQ uX uf ug jq jk uV = some r) :
  Calls Tryz.prog 53 #[.agg #[.int .i64 zF,.int .i64 zG,.int .i64 zB,.int .i64 vU,.string uz,.string uq,.slice pX vQ.length pJ],.agg #[.int .i64 uQ,.int .i64 uX,.int .i64 uf,.int .i64 ug,.string jq,.string jk,.slice Qa uV.length Qb]] w fun e w'=>e = .returned (.bool r) ∧ Below w.heap.size w w':=by
 have zeF:=Tryz.underlying53
 have zaJ:=zx.mk zaw
 have zuq:=zx.mk zaZ
 clear zaw zaZ
 have zaV:=zx.mk zaQ
 have zux:=zx.mk zaX
 clear zaQ zaX
 have HB:=zx.mk (Below.refl w.heap.size w)
 have H:(if zF = uQ then (if zG = uX then (if zB = uf then (if vU = ug then (if uz.toList = jq.toList then (if uq.toList = jk.toList then (zP.j0 k ((vQ.length:Int) != (uV.length:Int)) zF zG zB vU uz uq vQ uQ uX uf ug jq jk uV) else (zP.j0 k true zF zG zB vU uz uq vQ uQ uX uf ug jq jk uV)) else (zP.j0 k true zF zG zB vU uz uq vQ uQ uX uf ug jq jk uV)) else (zP.j0 k true zF zG zB vU uz uq vQ uQ uX uf ug jq jk uV)) else (zP.j0 k true zF zG zB vU uz uq vQ uQ uX uf ug jq jk uV)) else (zP.j0 k true zF zG zB vU uz uq vQ uQ uX uf ug jq jk uV)) else (zP.j0 k true zF zG zB vU uz uq vQ uQ uX uf ug jq jk uV)) = some r:=h
 clear h
 have nL:=zx.mk H
 clear H
 go_enter Tryz.func53,Tryz.ntmps53
 go_upto_region 1 with (first | ((with_reducible refine qQ (N:=2) rfl ?_);(try (refine xO (by rfl) ?_;dsimp only));refine qC ?hg (N:=2) ?hd (cs:=#[.int .i64 zF,.int .i64 zG,.int .i64 zB,.int .i64 vU,.string uz,.string uq,.slice pX vQ.length pJ]) (t:=53) ?hr ?_;(case hd=>rfl);(case hg=>rfl);(case hr=>first | (go_simp;done) | (go_simp;rfl));intro yF hg w4 qo hb;have ze:=zx.mk (zu (zD HB.out) hb);have zi:=zx.mk (qo);have zo:=zx.mk ((by rw [hg];exact (zm (zD HB.out)):w.heap.size ≤ yF));have zT:=zx.mk ((by rw [hg];exact (zm (zD HB.out)):w.heap.size ≤ yF));clear HB;have HB:=ze;have zL:=zi;have zaK:=zo;have zqH:=zT;clear ze zi zo zT;clear hb qo hg) | ((with_reducible refine qQ (N:=3) rfl ?_);(try (refine xO (by rfl) ?_;dsimp only));refine qC ?hg (N:=3) ?hd (cs:=#[.int .i64 uQ,.int .i64 uX,.int .i64 uf,.int .i64 ug,.string jq,.string jk,.slice Qa uV.length Qb]) (t:=53) ?hr ?_;(case hd=>rfl);(case hg=>rfl);(case hr=>first | (go_simp;done) | (go_simp;rfl));intro y9 hg w5 qo hb;have ze:=zx.mk (zM (g:=yF) (o:=.cells #[.int .i64 zF,.int .i64 zG,.int .i64 zB,.int .i64 vU,.string uz,.string uq,.slice pX vQ.length pJ] 53 (0,0)) (qK zL.out) hb);have zi:=zx.mk (zu (zD HB.out) hb);have zo:=zx.mk (qo);have zT:=zx.mk ((by rw [hg];exact (zm (zD HB.out)):w.heap.size ≤ y9));have qU:=zx.mk ((by rw [hg];exact (zm (zD HB.out)):w.heap.size ≤ y9));have jI:=zx.mk ((by rw [hg];exact Nat.ne_of_lt (pQ (g:=yF) (o:=.cells #[.int .i64 zF,.int .i64 zG,.int .i64 zB,.int .i64 vU,.string uz,.string uq,.slice pX vQ.length pJ] 53 (0,0)) (qK zL.out)):yF ≠ y9));have Ym:=zx.mk ((by rw [hg];exact Nat.ne_of_gt (pQ (g:=yF) (o:=.cells #[.int .i64 zF,.int .i64 zG,.int .i64 zB,.int .i64 vU,.string uz,.string uq,.slice pX vQ.length pJ] 53 (0,0)) (qK zL.out)):y9 ≠ yF));clear zL;clear HB;have zL:=ze;have HB:=zi;have z8:=zo;have zaY:=zT;have zqI:=qU;have wu:=jI;have wB:=Ym;clear ze zi zo zT qU jI Ym;clear hb qo hg))
 repeat (go_quiet (first | ((with_reducible refine qQ (N:=2) rfl ?_);(try (refine xO (by rfl) ?_;dsimp only));refine qC ?hg (N:=2) ?hd (cs:=#[.int .i64 zF,.int .i64 zG,.int .i64 zB,.int .i64 vU,.string uz,.string uq,.slice pX vQ.length pJ]) (t:=53) ?hr ?_;(case hd=>rfl);(case hg=>rfl);(case hr=>first | (go_simp;done) | (go_simp;rfl));intro yF hg w4 qo hb;have ze:=zx.mk (zu (zD HB.out) hb);have zi:=zx.mk (qo);have zo:=zx.mk ((by rw [hg];exact (zm (zD HB.out)):w.heap.size ≤ yF));have zT:=zx.mk ((by rw [hg];exact (zm (zD HB.out)):w.heap.size ≤ yF));clear HB;have HB:=ze;have zL:=zi;have zaK:=zo;have zqH:=zT;clear ze zi zo zT;clear hb qo hg) | ((with_reducible refine qQ (N:=3) rfl ?_);(try (refine xO (by rfl) ?_;dsimp only));refine qC ?hg (N:=3) ?hd (cs:=#[.int .i64 uQ,.int .i64 uX,.int .i64 uf,.int .i64 ug,.string jq,.string jk,.slice Qa uV.length Qb]) (t:=53) ?hr ?_;(case hd=>rfl);(case hg=>rfl);(case hr=>first | (go_simp;done) | (go_simp;rfl));intro y9 hg w5 qo hb;have ze:=zx.mk (zM (g:=yF) (o:=.cells #[.int .i64 zF,.int .i64 zG,.int .i64 zB,.int .i64 vU,.string uz,.string uq,.slice pX vQ.length pJ] 53 (0,0)) (qK zL.out) hb);have zi:=zx.mk (zu (zD HB.out) hb);have zo:=zx.mk (qo);have zT:=zx.mk ((by rw [hg];exact (zm (zD HB.out)):w.heap.size ≤ y9));have qU:=zx.mk ((by rw [hg];exact (zm (zD HB.out)):w.heap.size ≤ y9));have jI:=zx.mk ((by rw [hg];exact Nat.ne_of_lt (pQ (g:=yF) (o:=.cells #[.int .i64 zF,.int .i64 zG,.int .i64 zB,.int .i64 vU,.string uz,.string uq,.slice pX vQ.length pJ] 53 (0,0)) (qK zL.out)):yF ≠ y9));have Ym:=zx.mk ((by rw [hg];exact Nat.ne_of_gt (pQ (g:=yF) (o:=.cells #[.int .i64 zF,.int .i64 zG,.int .i64 zB,.int .i64 vU,.string uz,.string uq,.slice pX vQ.length pJ] 53 (0,0)) (qK zL.out)):y9 ≠ yF));clear zL;clear HB;have zL:=ze;have HB:=zi;have z8:=zo;have zaY:=zT;have zqI:=qU;have wu:=jI;have wB:=Ym;clear ze zi zo zT qU jI Ym;clear hb qo hg));go_upto_region 1 with (first | ((with_reducible refine qQ (N:=2) rfl ?_);(try (refine xO (by rfl) ?_;dsimp only));refine qC ?hg (N:=2) ?hd (cs:=#[.int .i64 zF,.int .i64 zG,.int .i64 zB,.int .i64 vU,.string uz,.string uq,.slice pX vQ.length pJ]) (t:=53) ?hr ?_;(case hd=>rfl);(case hg=>rfl);(case hr=>first | (go_simp;done) | (go_simp;rfl));intro yF hg w4 qo hb;have ze:=zx.mk (zu (zD HB.out) hb);have zi:=zx.mk (qo);have zo:=zx.mk ((by rw [hg];exact (zm (zD HB.out)):w.heap.size ≤ yF));have zT:=zx.mk ((by rw [hg];exact (zm (zD HB.out)):w.heap.size ≤ yF));clear HB;have HB:=ze;have zL:=zi;have zaK:=zo;have zqH:=zT;clear ze zi zo zT;clear hb qo hg) | ((with_reducible refine qQ (N:=3) rfl ?_);(try (refine xO (by rfl) ?_;dsimp only));refine qC ?hg (N:=3) ?hd (cs:=#[.int .i64 uQ,.int .i64 uX,.int .i64 uf,.int .i64 ug,.string jq,.string jk,.slice Qa uV.length Qb]) (t:=53) ?hr ?_;(case hd=>rfl);(case hg=>rfl);(case hr=>first | (go_simp;done) | (go_simp;rfl));intro y9 hg w5 qo hb;have ze:=zx.mk (zM (g:=yF) (o:=.cells #[.int .i64 zF,.int .i64 zG,.int .i64 zB,.int .i64 vU,.string uz,.string uq,.slice pX vQ.length pJ] 53 (0,0)) (qK zL.out) hb);have zi:=zx.mk (zu (zD HB.out) hb);have zo:=zx.mk (qo);have zT:=zx.mk ((by rw [hg];exact (zm (zD HB.out)):w.heap.size ≤ y9));have qU:=zx.mk ((by rw [hg];exact (zm (zD HB.out)):w.heap.size ≤ y9));have jI:=zx.mk ((by rw [hg];exact Nat.ne_of_lt (pQ (g:=yF) (o:=.cells #[.int .i64 zF,.int .i64 zG,.int .i64 zB,.int .i64 vU,.string uz,.string uq,.slice pX vQ.length pJ] 53 (0,0)) (qK zL.out)):yF ≠ y9));have Ym:=zx.mk ((by rw [hg];exact Nat.ne_of_gt (pQ (g:=yF) (o:=.cells #[.int .i64 zF,.int .i64 zG,.int .i64 zB,.int .i64 vU,.string uz,.string uq,.slice pX vQ.length pJ] 53 (0,0)) (qK zL.out)):y9 ≠ yF));clear zL;clear HB;have zL:=ze;have HB:=zi;have z8:=zo;have zaY:=zT;have zqI:=qU;have wu:=jI;have wB:=Ym;clear ze zi zo zT qU jI Ym;clear hb qo hg)))
 (try simp only [Act.put,List.setIfInBounds_toArray,List.set_cons_zero,List.set_cons_succ])
 go_cut [54] (fun v54 wc=>∃ (kq:Nat) (zkv:Bool),v54 = .bool zkv ∧ zx (zP.j0 kq zkv zF zG zB vU uz uq vQ uQ uX uf ug jq jk uV = some r) ∧ zx (kq ≤ k) ∧ zx (wc.heap[yF]? = some (.cells #[.int .i64 zF,.int .i64 zG,.int .i64 zB,.int .i64 vU,.string uz,.string uq,(.slice pX vQ.length pJ)] 53 (0,0))) ∧ zx (wc.heap[y9]? = some (.cells #[.int .i64 uQ,.int .i64 uX,.int .i64 uf,.int .i64 ug,.string jq,.string jk,(.slice Qa uV.length Qb)] 53 (0,0))) ∧ zx (Below w.heap.size w wc))
 case first =>
  have H:=nL.out
  clear nL
  by_cases c6:zF = uQ
  ·rw [if_pos c6] at H
   have kD:(zF == uQ) = true:=beq_iff_eq.mpr c6
   have gq:(zF != uQ) = false:=bne_eq_false_iff_eq.mpr c6
   clear c6
   (first | rw [kD] | (simp only [vv,vk];rw [kD]) | skip)
   by_cases c7:zG = uX
   ·rw [if_pos c7] at H
    have Wn:(zG == uX) = true:=beq_iff_eq.mpr c7
    have zzB:(zG != uX) = false:=bne_eq_false_iff_eq.mpr c7
    clear c7
    by_cases c8:zB = uf
    ·rw [if_pos c8] at H
     have fM:(zB == uf) = true:=beq_iff_eq.mpr c8
     have zki:(zB != uf) = false:=bne_eq_false_iff_eq.mpr c8
     clear c8
     by_cases c9:vU = ug
     ·rw [if_pos c9] at H
      have zxa:(vU == ug) = true:=beq_iff_eq.mpr c9
      have zWV:(vU != ug) = false:=bne_eq_false_iff_eq.mpr c9
      clear c9
      by_cases c10:uz.toList = jq.toList
      ·rw [if_pos c10] at H
       have XY:(uz.toList == jq.toList) = true:=beq_iff_eq.mpr c10
       have l9:(uz.toList != jq.toList) = false:=bne_eq_false_iff_eq.mpr c10
       clear c10
       by_cases c11:uq.toList = jk.toList
       ·rw [if_pos c11] at H
        have oz:(uq.toList == jk.toList) = true:=beq_iff_eq.mpr c11
        have zJS:(uq.toList != jk.toList) = false:=bne_eq_false_iff_eq.mpr c11
        clear c11
        have H':=zx.mk H
        clear H
        have zuj:=wu.out
        have zuv:=wB.out
        have zx9:w5.cell? ⟨yF,0,none⟩ = some (.int .i64 zF):=zK zL 0
        have zjz:w5.cell? ⟨yF,1,none⟩ = some (.int .i64 zG):=zK zL 1
        have zjq:w5.cell? ⟨yF,2,none⟩ = some (.int .i64 zB):=zK zL 2
        have zjx:w5.cell? ⟨yF,3,none⟩ = some (.int .i64 vU):=zK zL 3
        have zjj:w5.cell? ⟨yF,4,none⟩ = some (.string uz):=zK zL 4
        have zjv:w5.cell? ⟨yF,5,none⟩ = some (.string uq):=zK zL 5
        have zZP:w5.cell? ⟨yF,6,none⟩ = some (.slice pX vQ.length pJ):=zK zL 6
        have zjk:=zw zL.out 0
        have zjy:=zw zL.out 1
        have zjw:=zw zL.out 2
        have zjZ:=zw zL.out 3
        have zjQ:=zw zL.out 4
        have zjX:=zw zL.out 5
        have zZR:=zw zL.out 6
        have XA:w5.cell? ⟨y9,0,none⟩ = some (.int .i64 uQ):=zK z8 0
        have Jf:w5.cell? ⟨y9,1,none⟩ = some (.int .i64 uX):=zK z8 1
        have Jg:w5.cell? ⟨y9,2,none⟩ = some (.int .i64 uf):=zK z8 2
        have Jh:w5.cell? ⟨y9,3,none⟩ = some (.int .i64 ug):=zK z8 3
        have Ji:w5.cell? ⟨y9,4,none⟩ = some (.string jq):=zK z8 4
        have Jl:w5.cell? ⟨y9,5,none⟩ = some (.string jk):=zK z8 5
        have nP:w5.cell? ⟨y9,6,none⟩ = some (.slice Qa uV.length Qb):=zK z8 6
        have XB:=zw z8.out 0
        have Jm:=zw z8.out 1
        have Jo:=zw z8.out 2
        have Jp:=zw z8.out 3
        have Jr:=zw z8.out 4
        have Js:=zw z8.out 5
        have nR:=zw z8.out 6
        go_wp2
        repeat (go_quiet (fail);try go_wp2)
        go_meet
        case rel=>exact ⟨_,(((vQ.length:Int) != (uV.length:Int))),(by first | rfl | (simp;done) | (simp [*];done)),H',⟨by first | omega | exact Nat.le_refl _⟩,⟨qK zL.out⟩,⟨qK z8.out⟩,⟨zD HB.out⟩⟩
       ·rw [if_neg c11] at H
        have oz:(uq.toList == jk.toList) = false:=beq_eq_false_iff_ne.mpr c11
        have zJS:(uq.toList != jk.toList) = true:=bne_iff_ne.mpr c11
        have H':=zx.mk H
        clear H
        have zuk:=wu.out
        have zuy:=wB.out
        have Jt:w5.cell? ⟨yF,0,none⟩ = some (.int .i64 zF):=zK zL 0
        have Ju:w5.cell? ⟨yF,1,none⟩ = some (.int .i64 zG):=zK zL 1
        have JA:w5.cell? ⟨yF,2,none⟩ = some (.int .i64 zB):=zK zL 2
        have JB:w5.cell? ⟨yF,3,none⟩ = some (.int .i64 vU):=zK zL 3
        have JC:w5.cell? ⟨yF,4,none⟩ = some (.string uz):=zK zL 4
        have JD:w5.cell? ⟨yF,5,none⟩ = some (.string uq):=zK zL 5
        have nS:w5.cell? ⟨yF,6,none⟩ = some (.slice pX vQ.length pJ):=zK zL 6
        have JE:=zw zL.out 0
        have JF:=zw zL.out 1
        have JG:=zw zL.out 2
        have JH:=zw zL.out 3
        have JI:=zw zL.out 4
        have JL:=zw zL.out 5
        have nT:=zw zL.out 6
        have nU:w5.cell? ⟨y9,0,none⟩ = some (.int .i64 uQ):=zK z8 0
        have rz:w5.cell? ⟨y9,1,none⟩ = some (.int .i64 uX):=zK z8 1
        have rZ:w5.cell? ⟨y9,2,none⟩ = some (.int .i64 uf):=zK z8 2
        have rQ:w5.cell? ⟨y9,3,none⟩ = some (.int .i64 ug):=zK z8 3
        have rX:w5.cell? ⟨y9,4,none⟩ = some (.string jq):=zK z8 4
        have rJ:w5.cell? ⟨y9,5,none⟩ = some (.string jk):=zK z8 5
        have rV:w5.cell? ⟨y9,6,none⟩ = some (.slice Qa uV.length Qb):=zK z8 6
        have rY:=zw z8.out 0
        have rW:=zw z8.out 1
        have ru:=zw z8.out 2
        have rA:=zw z8.out 3
        have rD:=zw z8.out 4
        have rE:=zw z8.out 5
        have rF:=zw z8.out 6
        go_wp2
        repeat (go_quiet (fail);try go_wp2)
        go_meet
        case rel=>exact ⟨_,(true),(by first | rfl | (simp;done) | (simp [*];done)),H',⟨by first | omega | exact Nat.le_refl _⟩,⟨qK zL.out⟩,⟨qK z8.out⟩,⟨zD HB.out⟩⟩
      ·rw [if_neg c10] at H
       have XY:(uz.toList == jq.toList) = false:=beq_eq_false_iff_ne.mpr c10
       have l9:(uz.toList != jq.toList) = true:=bne_iff_ne.mpr c10
       have H':=zx.mk H
       clear H
       have zuw:=wu.out
       have zuZ:=wB.out
       have zZS:w5.cell? ⟨yF,0,none⟩ = some (.int .i64 zF):=zK zL 0
       have zZT:w5.cell? ⟨yF,1,none⟩ = some (.int .i64 zG):=zK zL 1
       have zZU:w5.cell? ⟨yF,2,none⟩ = some (.int .i64 zB):=zK zL 2
       have zZ0:w5.cell? ⟨yF,3,none⟩ = some (.int .i64 vU):=zK zL 3
       have zZ1:w5.cell? ⟨yF,4,none⟩ = some (.string uz):=zK zL 4
       have zZ2:w5.cell? ⟨yF,5,none⟩ = some (.string uq):=zK zL 5
       have zZ3:w5.cell? ⟨yF,6,none⟩ = some (.slice pX vQ.length pJ):=zK zL 6
       have zZ4:=zw zL.out 0
       have zZ5:=zw zL.out 1
       have zZ6:=zw zL.out 2
       have zZ7:=zw zL.out 3
       have zZ8:=zw zL.out 4
       have zZ9:=zw zL.out 5
       have zQz:=zw zL.out 6
       have zxt:w5.cell? ⟨y9,0,none⟩ = some (.int .i64 uQ):=zK z8 0
       have zxu:w5.cell? ⟨y9,1,none⟩ = some (.int .i64 uX):=zK z8 1
       have zxA:w5.cell? ⟨y9,2,none⟩ = some (.int .i64 uf):=zK z8 2
       have zxB:w5.cell? ⟨y9,3,none⟩ = some (.int .i64 ug):=zK z8 3
       have zxC:w5.cell? ⟨y9,4,none⟩ = some (.string jq):=zK z8 4
       have zxD:w5.cell? ⟨y9,5,none⟩ = some (.string jk):=zK z8 5
       have zQq:w5.cell? ⟨y9,6,none⟩ = some (.slice Qa uV.length Qb):=zK z8 6
       have zxE:=zw z8.out 0
       have zxF:=zw z8.out 1
       have zxG:=zw z8.out 2
       have zxH:=zw z8.out 3
       have zxI:=zw z8.out 4
       have zxL:=zw z8.out 5
       have zQx:=zw z8.out 6
       go_wp2
       repeat (go_quiet (fail);try go_wp2)
       go_meet
       case rel=>exact ⟨_,(true),(by first | rfl | (simp;done) | (simp [*];done)),H',⟨by first | omega | exact Nat.le_refl _⟩,⟨qK zL.out⟩,⟨qK z8.out⟩,⟨zD HB.out⟩⟩
     ·rw [if_neg c9] at H
      have zxa:(vU == ug) = false:=beq_eq_false_iff_ne.mpr c9
      have zWV:(vU != ug) = true:=bne_iff_ne.mpr c9
      have H':=zx.mk H
      clear H
      have zuQ:=wu.out
      have zuX:=wB.out
      have oq:w5.cell? ⟨yF,0,none⟩ = some (.int .i64 zF):=zK zL 0
      have ow:w5.cell? ⟨yF,1,none⟩ = some (.int .i64 zG):=zK zL 1
      have oZ:w5.cell? ⟨yF,2,none⟩ = some (.int .i64 zB):=zK zL 2
      have oQ:w5.cell? ⟨yF,3,none⟩ = some (.int .i64 vU):=zK zL 3
      have oJ:w5.cell? ⟨yF,4,none⟩ = some (.string uz):=zK zL 4
      have oV:w5.cell? ⟨yF,5,none⟩ = some (.string uq):=zK zL 5
      have oK:w5.cell? ⟨yF,6,none⟩ = some (.slice pX vQ.length pJ):=zK zL 6
      have oW:=zw zL.out 0
      have oh:=zw zL.out 1
      have om:=zw zL.out 2
      have oo:=zw zL.out 3
      have ou:=zw zL.out 4
      have oC:=zw zL.out 5
      have oD:=zw zL.out 6
      have zxM:w5.cell? ⟨y9,0,none⟩ = some (.int .i64 uQ):=zK z8 0
      have zxN:w5.cell? ⟨y9,1,none⟩ = some (.int .i64 uX):=zK z8 1
      have zxO:w5.cell? ⟨y9,2,none⟩ = some (.int .i64 uf):=zK z8 2
      have zxP:w5.cell? ⟨y9,3,none⟩ = some (.int .i64 ug):=zK z8 3
      have zxR:w5.cell? ⟨y9,4,none⟩ = some (.string jq):=zK z8 4
      have zxS:w5.cell? ⟨y9,5,none⟩ = some (.string jk):=zK z8 5
      have zQj:w5.cell? ⟨y9,6,none⟩ = some (.slice Qa uV.length Qb):=zK z8 6
      have zxT:=zw z8.out 0
      have zxU:=zw z8.out 1
      have zx0:=zw z8.out 2
      have zx1:=zw z8.out 3
      have zx2:=zw z8.out 4
      have zx3:=zw z8.out 5
      have zQv:=zw z8.out 6
      go_wp2
      repeat (go_quiet (fail);try go_wp2)
      go_meet
      case rel=>exact ⟨_,(true),(by first | rfl | (simp;done) | (simp [*];done)),H',⟨by first | omega | exact Nat.le_refl _⟩,⟨qK zL.out⟩,⟨qK z8.out⟩,⟨zD HB.out⟩⟩
    ·rw [if_neg c8] at H
     have fM:(zB == uf) = false:=beq_eq_false_iff_ne.mpr c8
     have zki:(zB != uf) = true:=bne_iff_ne.mpr c8
     have H':=zx.mk H
     clear H
     have zuJ:=wu.out
     have zuV:=wB.out
     have zQk:w5.cell? ⟨yF,0,none⟩ = some (.int .i64 zF):=zK zL 0
     have zQy:w5.cell? ⟨yF,1,none⟩ = some (.int .i64 zG):=zK zL 1
     have zQw:w5.cell? ⟨yF,2,none⟩ = some (.int .i64 zB):=zK zL 2
     have zQZ:w5.cell? ⟨yF,3,none⟩ = some (.int .i64 vU):=zK zL 3
     have zQQ:w5.cell? ⟨yF,4,none⟩ = some (.string uz):=zK zL 4
     have zQX:w5.cell? ⟨yF,5,none⟩ = some (.string uq):=zK zL 5
     have zQJ:w5.cell? ⟨yF,6,none⟩ = some (.slice pX vQ.length pJ):=zK zL 6
     have zQV:=zw zL.out 0
     have zQK:=zw zL.out 1
     have zQY:=zw zL.out 2
     have zQW:=zw zL.out 3
     have zQa:=zw zL.out 4
     have zQb:=zw zL.out 5
     have zQc:=zw zL.out 6
     have zQd:w5.cell? ⟨y9,0,none⟩ = some (.int .i64 uQ):=zK z8 0
     have zQe:w5.cell? ⟨y9,1,none⟩ = some (.int .i64 uX):=zK z8 1
     have zQf:w5.cell? ⟨y9,2,none⟩ = some (.int .i64 uf):=zK z8 2
     have zQg:w5.cell? ⟨y9,3,none⟩ = some (.int .i64 ug):=zK z8 3
     have zQh:w5.cell? ⟨y9,4,none⟩ = some (.string jq):=zK z8 4
     have zQi:w5.cell? ⟨y9,5,none⟩ = some (.string jk):=zK z8 5
     have zQl:w5.cell? ⟨y9,6,none⟩ = some (.slice Qa uV.length Qb):=zK z8 6
     have zQm:=zw z8.out 0
     have zQn:=zw z8.out 1
     have zQo:=zw z8.out 2
     have zQp:=zw z8.out 3
     have zQr:=zw z8.out 4
     have zQs:=zw z8.out 5
     have zQt:=zw z8.out 6
     go_wp2
     repeat (go_quiet (fail);try go_wp2)
     go_meet
     case rel=>exact ⟨_,(true),(by first | rfl | (simp;done) | (simp [*];done)),H',⟨by first | omega | exact Nat.le_refl _⟩,⟨qK zL.out⟩,⟨qK z8.out⟩,⟨zD HB.out⟩⟩
   ·rw [if_neg c7] at H
    have Wn:(zG == uX) = false:=beq_eq_false_iff_ne.mpr c7
    have zzB:(zG != uX) = true:=bne_iff_ne.mpr c7
    have H':=zx.mk H
    clear H
    have zuK:=wu.out
    have zuY:=wB.out
    have zj1:w5.cell? ⟨yF,0,none⟩ = some (.int .i64 zF):=zK zL 0
    have zQu:w5.cell? ⟨yF,1,none⟩ = some (.int .i64 zG):=zK zL 1
    have zQA:w5.cell? ⟨yF,2,none⟩ = some (.int .i64 zB):=zK zL 2
    have zQB:w5.cell? ⟨yF,3,none⟩ = some (.int .i64 vU):=zK zL 3
    have zQC:w5.cell? ⟨yF,4,none⟩ = some (.string uz):=zK zL 4
    have zQD:w5.cell? ⟨yF,5,none⟩ = some (.string uq):=zK zL 5
    have zQE:w5.cell? ⟨yF,6,none⟩ = some (.slice pX vQ.length pJ):=zK zL 6
    have zj2:=zw zL.out 0
    have zQF:=zw zL.out 1
    have zQG:=zw zL.out 2
    have zQH:=zw zL.out 3
    have zQI:=zw zL.out 4
    have zQL:=zw zL.out 5
    have zQM:=zw zL.out 6
    have zQN:w5.cell? ⟨y9,0,none⟩ = some (.int .i64 uQ):=zK z8 0
    have zQO:w5.cell? ⟨y9,1,none⟩ = some (.int .i64 uX):=zK z8 1
    have zQP:w5.cell? ⟨y9,2,none⟩ = some (.int .i64 uf):=zK z8 2
    have zQR:w5.cell? ⟨y9,3,none⟩ = some (.int .i64 ug):=zK z8 3
    have zQS:w5.cell? ⟨y9,4,none⟩ = some (.string jq):=zK z8 4
    have zQT:w5.cell? ⟨y9,5,none⟩ = some (.string jk):=zK z8 5
    have zQU:w5.cell? ⟨y9,6,none⟩ = some (.slice Qa uV.length Qb):=zK z8 6
    have zQ0:=zw z8.out 0
    have zQ1:=zw z8.out 1
    have zQ2:=zw z8.out 2
    have zQ3:=zw z8.out 3
    have zQ4:=zw z8.out 4
    have zQ5:=zw z8.out 5
    have zQ6:=zw z8.out 6
    go_wp2
    repeat (go_quiet (fail);try go_wp2)
    go_meet
    case rel=>exact ⟨_,(true),(by first | rfl | (simp;done) | (simp [*];done)),H',⟨by first | omega | exact Nat.le_refl _⟩,⟨qK zL.out⟩,⟨qK z8.out⟩,⟨zD HB.out⟩⟩
  ·rw [if_neg c6] at H
   have kD:(zF == uQ) = false:=beq_eq_false_iff_ne.mpr c6
   have gq:(zF != uQ) = true:=bne_iff_ne.mpr c6
   (first | rw [kD] | (simp only [vv,vk];rw [kD]) | skip)
   have H':=zx.mk H
   clear H
   have zuW:=wu.out
   have zua:=wB.out
   have zQ7:w5.cell? ⟨yF,0,none⟩ = some (.int .i64 zF):=zK zL 0
   have zQ8:w5.cell? ⟨yF,1,none⟩ = some (.int .i64 zG):=zK zL 1
   have zQ9:w5.cell? ⟨yF,2,none⟩ = some (.int .i64 zB):=zK zL 2
   have zXz:w5.cell? ⟨yF,3,none⟩ = some (.int .i64 vU):=zK zL 3
   have zXq:w5.cell? ⟨yF,4,none⟩ = some (.string uz):=zK zL 4
   have zXx:w5.cell? ⟨yF,5,none⟩ = some (.string uq):=zK zL 5
   have zXj:w5.cell? ⟨yF,6,none⟩ = some (.slice pX vQ.length pJ):=zK zL 6
   have zXv:=zw zL.out 0
   have zXk:=zw zL.out 1
   have zXy:=zw zL.out 2
   have zXw:=zw zL.out 3
   have zXZ:=zw zL.out 4
   have zXQ:=zw zL.out 5
   have zXX:=zw zL.out 6
   have oF:w5.cell? ⟨y9,0,none⟩ = some (.int .i64 uQ):=zK z8 0
   have zj3:w5.cell? ⟨y9,1,none⟩ = some (.int .i64 uX):=zK z8 1
   have zj4:w5.cell? ⟨y9,2,none⟩ = some (.int .i64 uf):=zK z8 2
   have zj5:w5.cell? ⟨y9,3,none⟩ = some (.int .i64 ug):=zK z8 3
   have zj6:w5.cell? ⟨y9,4,none⟩ = some (.string jq):=zK z8 4
   have zj7:w5.cell? ⟨y9,5,none⟩ = some (.string jk):=zK z8 5
   have zj8:w5.cell? ⟨y9,6,none⟩ = some (.slice Qa uV.length Qb):=zK z8 6
   have oG:=zw z8.out 0
   have zj9:=zw z8.out 1
   have zvz:=zw z8.out 2
   have zvq:=zw z8.out 3
   have zvx:=zw z8.out 4
   have zvj:=zw z8.out 5
   have zvv:=zw z8.out 6
   go_wp2
   repeat (go_quiet (fail);try go_wp2)
   go_meet
   case rel=>exact ⟨_,(true),(by first | rfl | (simp;done) | (simp [*];done)),H',⟨by first | omega | exact Nat.le_refl _⟩,⟨qK zL.out⟩,⟨qK z8.out⟩,⟨zD HB.out⟩⟩
 case rest =>
  clear nL
  try clear c6
  try clear kD
  try clear gq
  try clear c7
  try clear Wn
  try clear zzB
  try clear c8
  try clear fM
  try clear zki
  try clear c9
  try clear zxa
  try clear zWV
  try clear c10
  try clear XY
  try clear l9
  try clear c11
  try clear oz
  try clear zJS
  try clear zx9
  try clear zjz
  try clear zjq
  try clear zjx
  try clear zjj
  try clear zjv
  try clear zZP
  try clear XA
  try clear Jf
  try clear Jg
  try clear Jh
  try clear Ji
  try clear Jl
  try clear nP
  try clear Jt
  try clear Ju
  try clear JA
  try clear JB
  try clear JC
  try clear JD
  try clear nS
  try clear nU
  try clear rz
  try clear rZ
  try clear rQ
  try clear rX
  try clear rJ
  try clear rV
  try clear zZS
  try clear zZT
  try clear zZU
  try clear zZ0
  try clear zZ1
  try clear zZ2
  try clear zZ3
  try clear zxt
  try clear zxu
  try clear zxA
  try clear zxB
  try clear zxC
  try clear zxD
  try clear zQq
  try clear oq
  try clear ow
  try clear oZ
  try clear oQ
  try clear oJ
  try clear oV
  try clear oK
  try clear zxM
  try clear zxN
  try clear zxO
  try clear zxP
  try clear zxR
  try clear zxS
  try clear zQj
  try clear zQk
  try clear zQy
  try clear zQw
  try clear zQZ
  try clear zQQ
  try clear zQX
  try clear zQJ
  try clear zQd
  try clear zQe
  try clear zQf
  try clear zQg
  try clear zQh
  try clear zQi
  try clear zQl
  try clear zj1
  try clear zQu
  try clear zQA
  try clear zQB
  try clear zQC
  try clear zQD
  try clear zQE
  try clear zQN
  try clear zQO
  try clear zQP
  try clear zQR
  try clear zQS
  try clear zQT
  try clear zQU
  try clear zQ7
  try clear zQ8
  try clear zQ9
  try clear zXz
  try clear zXq
  try clear zXx
  try clear zXj
  try clear oF
  try clear zj3
  try clear zj4
  try clear zj5
  try clear zj6
  try clear zj7
  try clear zj8
  try clear zjk
  try clear zjy
  try clear zjw
  try clear zjZ
  try clear zjQ
  try clear zjX
  try clear zZR
  try clear XB
  try clear Jm
  try clear Jo
  try clear Jp
  try clear Jr
  try clear Js
  try clear nR
  try clear JE
  try clear JF
  try clear JG
  try clear JH
  try clear JI
  try clear JL
  try clear nT
  try clear rY
  try clear rW
  try clear ru
  try clear rA
  try clear rD
  try clear rE
  try clear rF
  try clear zZ4
  try clear zZ5
  try clear zZ6
  try clear zZ7
  try clear zZ8
  try clear zZ9
  try clear zQz
  try clear zxE
  try clear zxF
  try clear zxG
  try clear zxH
  try clear zxI
  try clear zxL
  try clear zQx
  try clear oW
  try clear oh
  try clear om
  try clear oo
  try clear ou
  try clear oC
  try clear oD
  try clear zxT
  try clear zxU
  try clear zx0
  try clear zx1
  try clear zx2
  try clear zx3
  try clear zQv
  try clear zQV
  try clear zQK
  try clear zQY
  try clear zQW
  try clear zQa
  try clear zQb
  try clear zQc
  try clear zQm
  try clear zQn
  try clear zQo
  try clear zQp
  try clear zQr
  try clear zQs
  try clear zQt
  try clear zj2
  try clear zQF
  try clear zQG
  try clear zQH
  try clear zQI
  try clear zQL
  try clear zQM
  try clear zQ0
  try clear zQ1
  try clear zQ2
  try clear zQ3
  try clear zQ4
  try clear zQ5
  try clear zQ6
  try clear zXv
  try clear zXk
  try clear zXy
  try clear zXw
  try clear zXZ
  try clear zXQ
  try clear zXX
  try clear oG
  try clear zj9
  try clear zvz
  try clear zvq
  try clear zvx
  try clear zvj
  try clear zvv
  obtain ⟨kq,zkv,rfl,HA,HJ2,zL,z8,HB⟩:=hcut
  cases kq with
  | zero=>exact absurd HA.out (by simp [zP.j0])
  | succ kj2 =>
   have H:=HA.out
   clear HA
   simp only [zP.j0] at H
   by_cases c33:zkv = true
   ·subst c33
    have H1:(some false) = some r:=by rw [if_pos rfl] at H;exact H
    clear H
    have H:=H1
    clear H1
    obtain rfl:=Option.some.inj H
    go_wp2
    repeat (go_quiet (fail);try go_wp2)
    go_ret
    exact ⟨by first | rfl | (simp [zH,zI] <;> rfl) | (simp [*,zH,zI] <;> rfl),by repeat (first | (with_reducible first | exact HB.out | apply yJ | apply zC | apply yY | refine qm ?_ zqH.out | refine qm ?_ zqI.out) | exact HB.out)⟩
   ·replace c33:=Bool.eq_false_iff.mpr c33
    subst c33
    have H1:(zP.l0 kj2 0 zF zG zB vU uz uq vQ uQ uX uf ug jq jk uV) = some r:=by rw [if_neg (show ¬ (false = true) by decide)] at H;exact H
    clear H
    have H:=H1
    clear H1
    have H':=zx.mk H
    clear H
    go_wp2
    repeat (go_quiet (fail);try go_wp2)
    go_loopg [5] kj2 (fun kq v5 w'=>∃ (kV:Int),v5 = .int .i64 kV ∧ zx (zP.l0 kq kV zF zG zB vU uz uq vQ uQ uX uf ug jq jk uV = some r) ∧ zx (kq ≤ kj2) ∧ zx (w'.heap[yF]? = some (.cells #[.int .i64 zF,.int .i64 zG,.int .i64 zB,.int .i64 vU,.string uz,.string uq,(.slice pX vQ.length pJ)] 53 (0,0))) ∧ zx (w'.heap[y9]? = some (.cells #[.int .i64 uQ,.int .i64 uX,.int .i64 uf,.int .i64 ug,.string jq,.string jk,(.slice Qa uV.length Qb)] 53 (0,0))) ∧ zx (Below w.heap.size w w'))
    case atStart=>exact ⟨(0),(by first | rfl | (simp;done) | (simp [*];done)),H',⟨Nat.le_refl _⟩,⟨qK zL.out⟩,⟨qK z8.out⟩,⟨zD HB.out⟩⟩
    case round =>
     clear H'
     try clear c6
     try clear kD
     try clear gq
     try clear c7
     try clear Wn
     try clear zzB
     try clear c8
     try clear fM
     try clear zki
     try clear c9
     try clear zxa
     try clear zWV
     try clear c10
     try clear XY
     try clear l9
     try clear c11
     try clear oz
     try clear zJS
     try clear c33
     try clear zx9
     try clear zjz
     try clear zjq
     try clear zjx
     try clear zjj
     try clear zjv
     try clear zZP
     try clear XA
     try clear Jf
     try clear Jg
     try clear Jh
     try clear Ji
     try clear Jl
     try clear nP
     try clear Jt
     try clear Ju
     try clear JA
     try clear JB
     try clear JC
     try clear JD
     try clear nS
     try clear nU
     try clear rz
     try clear rZ
     try clear rQ
     try clear rX
     try clear rJ
     try clear rV
     try clear zZS
     try clear zZT
     try clear zZU
     try clear zZ0
     try clear zZ1
     try clear zZ2
     try clear zZ3
     try clear zxt
     try clear zxu
     try clear zxA
     try clear zxB
     try clear zxC
     try clear zxD
     try clear zQq
     try clear oq
     try clear ow
     try clear oZ
     try clear oQ
     try clear oJ
     try clear oV
     try clear oK
     try clear zxM
     try clear zxN
     try clear zxO
     try clear zxP
     try clear zxR
     try clear zxS
     try clear zQj
     try clear zQk
     try clear zQy
     try clear zQw
     try clear zQZ
     try clear zQQ
     try clear zQX
     try clear zQJ
     try clear zQd
     try clear zQe
     try clear zQf
     try clear zQg
     try clear zQh
     try clear zQi
     try clear zQl
     try clear zj1
     try clear zQu
     try clear zQA
     try clear zQB
     try clear zQC
     try clear zQD
     try clear zQE
     try clear zQN
     try clear zQO
     try clear zQP
     try clear zQR
     try clear zQS
     try clear zQT
     try clear zQU
     try clear zQ7
     try clear zQ8
     try clear zQ9
     try clear zXz
     try clear zXq
     try clear zXx
     try clear zXj
     try clear oF
     try clear zj3
     try clear zj4
     try clear zj5
     try clear zj6
     try clear zj7
     try clear zj8
     try clear zjk
     try clear zjy
     try clear zjw
     try clear zjZ
     try clear zjQ
     try clear zjX
     try clear zZR
     try clear XB
     try clear Jm
     try clear Jo
     try clear Jp
     try clear Jr
     try clear Js
     try clear nR
     try clear JE
     try clear JF
     try clear JG
     try clear JH
     try clear JI
     try clear JL
     try clear nT
     try clear rY
     try clear rW
     try clear ru
     try clear rA
     try clear rD
     try clear rE
     try clear rF
     try clear zZ4
     try clear zZ5
     try clear zZ6
     try clear zZ7
     try clear zZ8
     try clear zZ9
     try clear zQz
     try clear zxE
     try clear zxF
     try clear zxG
     try clear zxH
     try clear zxI
     try clear zxL
     try clear zQx
     try clear oW
     try clear oh
     try clear om
     try clear oo
     try clear ou
     try clear oC
     try clear oD
     try clear zxT
     try clear zxU
     try clear zx0
     try clear zx1
     try clear zx2
     try clear zx3
     try clear zQv
     try clear zQV
     try clear zQK
     try clear zQY
     try clear zQW
     try clear zQa
     try clear zQb
     try clear zQc
     try clear zQm
     try clear zQn
     try clear zQo
     try clear zQp
     try clear zQr
     try clear zQs
     try clear zQt
     try clear zj2
     try clear zQF
     try clear zQG
     try clear zQH
     try clear zQI
     try clear zQL
     try clear zQM
     try clear zQ0
     try clear zQ1
     try clear zQ2
     try clear zQ3
     try clear zQ4
     try clear zQ5
     try clear zQ6
     try clear zXv
     try clear zXk
     try clear zXy
     try clear zXw
     try clear zXZ
     try clear zXQ
     try clear zXX
     try clear oG
     try clear zj9
     try clear zvz
     try clear zvq
     try clear zvx
     try clear zvj
     try clear zvv
     obtain ⟨kV,rfl,HA,Qw,zL,z8,HB⟩:=hrel
     cases gk with
     | zero=>exact absurd HA.out (by simp [zP.l0])
     | succ k2 =>
      have H:=HA.out
      clear HA
      simp only [zP.l0] at H
      by_cases c34:kV < (vQ.length:Int)
      ·rw [if_pos c34] at H
       have zhX:decide (kV < (vQ.length:Int)) = true:=decide_eq_true c34
       clear c34
       by_cases c35:0 ≤ kV
       ·rw [if_pos c35] at H
        have zue:decide (0 ≤ kV) = true:=decide_eq_true c35
        clear c35
        by_cases c36:kV < (uV.length:Int)
        ·rw [if_pos c36] at H
         have zuf:decide (kV < (uV.length:Int)) = true:=decide_eq_true c36
         clear c36
         by_cases c37:(rd vQ kV) = (rd uV kV)
         ·rw [if_pos c37] at H
          have zhJ:((rd vQ kV) == (rd uV kV)) = true:=beq_iff_eq.mpr c37
          have zhV:((rd vQ kV) != (rd uV kV)) = false:=bne_eq_false_iff_eq.mpr c37
          clear c37
          have H':=zx.mk H
          clear H
          have zug:=wu.out
          have zuh:=wB.out
          have znd:wr.cell? ⟨yF,0,none⟩ = some (.int .i64 zF):=zK zL 0
          have zne:wr.cell? ⟨yF,1,none⟩ = some (.int .i64 zG):=zK zL 1
          have znf:wr.cell? ⟨yF,2,none⟩ = some (.int .i64 zB):=zK zL 2
          have zng:wr.cell? ⟨yF,3,none⟩ = some (.int .i64 vU):=zK zL 3
          have znh:wr.cell? ⟨yF,4,none⟩ = some (.string uz):=zK zL 4
          have zni:wr.cell? ⟨yF,5,none⟩ = some (.string uq):=zK zL 5
          have znl:wr.cell? ⟨yF,6,none⟩ = some (.slice pX vQ.length pJ):=zK zL 6
          have znm:=zw zL.out 0
          have znn:=zw zL.out 1
          have zno:=zw zL.out 2
          have znp:=zw zL.out 3
          have znr:=zw zL.out 4
          have zns:=zw zL.out 5
          have znt:=zw zL.out 6
          have zzU:0 ≤ (kV:Int):=of_decide_eq_true yH
          have zz0:kV < (vQ.length:Int):=of_decide_eq_true yH
          obtain ⟨zhK,e291,KG⟩:=Kd.gD zaJ.out kV zzU zz0
          cases e291
          replace KG:=(HB.out.cell (World.block_lt_of_cell? w _ KG)).trans KG
          replace zzU:=eq_true zzU
          replace zz0:=eq_true zz0
          have zZi:wr.cell? ⟨y9,0,none⟩ = some (.int .i64 uQ):=zK z8 0
          have zZl:wr.cell? ⟨y9,1,none⟩ = some (.int .i64 uX):=zK z8 1
          have zZm:wr.cell? ⟨y9,2,none⟩ = some (.int .i64 uf):=zK z8 2
          have zZn:wr.cell? ⟨y9,3,none⟩ = some (.int .i64 ug):=zK z8 3
          have zZo:wr.cell? ⟨y9,4,none⟩ = some (.string jq):=zK z8 4
          have zZp:wr.cell? ⟨y9,5,none⟩ = some (.string jk):=zK z8 5
          have zcv:wr.cell? ⟨y9,6,none⟩ = some (.slice Qa uV.length Qb):=zK z8 6
          have zZr:=zw z8.out 0
          have zZs:=zw z8.out 1
          have zZt:=zw z8.out 2
          have zZu:=zw z8.out 3
          have zZA:=zw z8.out 4
          have zZB:=zw z8.out 5
          have zck:=zw z8.out 6
          have zz1:0 ≤ (kV:Int):=of_decide_eq_true yH
          have zz2:kV < (uV.length:Int):=of_decide_eq_true yH
          obtain ⟨zhY,zWK,KH⟩:=Kd.gD zaV.out kV zz1 zz2
          cases zWK
          replace KH:=(HB.out.cell (World.block_lt_of_cell? w _ KH)).trans KH
          replace zz1:=eq_true zz1
          replace zz2:=eq_true zz2
          go_wp2
          repeat (go_quiet (fail);try go_wp2)
          go_roundg k2
          case measure=>have:=HJ2.out;have:=Qw.out;omega
          case rel=>exact ⟨(wrap64 (kV + 1)),(by first | rfl | (simp;done) | (simp [*];done)),H',⟨by have:=HJ2.out;have:=Qw.out;omega⟩,⟨qK zL.out⟩,⟨qK z8.out⟩,⟨zD HB.out⟩⟩
         ·rw [if_neg c37] at H
          have zhJ:((rd vQ kV) == (rd uV kV)) = false:=beq_eq_false_iff_ne.mpr c37
          have zhV:((rd vQ kV) != (rd uV kV)) = true:=bne_iff_ne.mpr c37
          obtain rfl:=Option.some.inj H
          have zui:=wu.out
          have zul:=wB.out
          have zcy:wr.cell? ⟨yF,0,none⟩ = some (.int .i64 zF):=zK zL 0
          have znu:wr.cell? ⟨yF,1,none⟩ = some (.int .i64 zG):=zK zL 1
          have znA:wr.cell? ⟨yF,2,none⟩ = some (.int .i64 zB):=zK zL 2
          have znB:wr.cell? ⟨yF,3,none⟩ = some (.int .i64 vU):=zK zL 3
          have znC:wr.cell? ⟨yF,4,none⟩ = some (.string uz):=zK zL 4
          have znD:wr.cell? ⟨yF,5,none⟩ = some (.string uq):=zK zL 5
          have znE:wr.cell? ⟨yF,6,none⟩ = some (.slice pX vQ.length pJ):=zK zL 6
          have zcw:=zw zL.out 0
          have znF:=zw zL.out 1
          have znG:=zw zL.out 2
          have znH:=zw zL.out 3
          have znI:=zw zL.out 4
          have znL:=zw zL.out 5
          have znM:=zw zL.out 6
          have zzU:0 ≤ (kV:Int):=of_decide_eq_true yH
          have zz0:kV < (vQ.length:Int):=of_decide_eq_true yH
          obtain ⟨zhK,e291,KG⟩:=Kd.gD zaJ.out kV zzU zz0
          cases e291
          replace KG:=(HB.out.cell (World.block_lt_of_cell? w _ KG)).trans KG
          replace zzU:=eq_true zzU
          replace zz0:=eq_true zz0
          have zcZ:wr.cell? ⟨y9,0,none⟩ = some (.int .i64 uQ):=zK z8 0
          have zcQ:wr.cell? ⟨y9,1,none⟩ = some (.int .i64 uX):=zK z8 1
          have zcX:wr.cell? ⟨y9,2,none⟩ = some (.int .i64 uf):=zK z8 2
          have zcJ:wr.cell? ⟨y9,3,none⟩ = some (.int .i64 ug):=zK z8 3
          have zcV:wr.cell? ⟨y9,4,none⟩ = some (.string jq):=zK z8 4
          have zcK:wr.cell? ⟨y9,5,none⟩ = some (.string jk):=zK z8 5
          have zcY:wr.cell? ⟨y9,6,none⟩ = some (.slice Qa uV.length Qb):=zK z8 6
          have zcW:=zw z8.out 0
          have zca:=zw z8.out 1
          have zcb:=zw z8.out 2
          have zcc:=zw z8.out 3
          have zcd:=zw z8.out 4
          have zce:=zw z8.out 5
          have zcf:=zw z8.out 6
          have zz1:0 ≤ (kV:Int):=of_decide_eq_true yH
          have zz2:kV < (uV.length:Int):=of_decide_eq_true yH
          obtain ⟨zhY,zWK,KH⟩:=Kd.gD zaV.out kV zz1 zz2
          cases zWK
          replace KH:=(HB.out.cell (World.block_lt_of_cell? w _ KH)).trans KH
          replace zz1:=eq_true zz1
          replace zz2:=eq_true zz2
          go_wp2
          repeat (go_quiet (fail);try go_wp2)
          go_ret
          exact ⟨by first | rfl | (simp [zH,zI] <;> rfl) | (simp [*,zH,zI] <;> rfl),by repeat (first | (with_reducible first | exact HB.out | apply yJ | apply zC | apply yY | refine qm ?_ zqH.out | refine qm ?_ zqI.out) | exact HB.out)⟩
        ·rw [if_neg c36] at H
         exact absurd H (by simp)
       ·rw [if_neg c35] at H
        exact absurd H (by simp)
      ·rw [if_neg c34] at H
       have zhX:decide (kV < (vQ.length:Int)) = false:=decide_eq_false c34
       clear c34
       obtain rfl:=Option.some.inj H
       have zum:=wu.out
       have zun:=wB.out
       have zcg:wr.cell? ⟨yF,0,none⟩ = some (.int .i64 zF):=zK zL 0
       have zch:wr.cell? ⟨yF,1,none⟩ = some (.int .i64 zG):=zK zL 1
       have zci:wr.cell? ⟨yF,2,none⟩ = some (.int .i64 zB):=zK zL 2
       have zcl:wr.cell? ⟨yF,3,none⟩ = some (.int .i64 vU):=zK zL 3
       have zcm:wr.cell? ⟨yF,4,none⟩ = some (.string uz):=zK zL 4
       have zcn:wr.cell? ⟨yF,5,none⟩ = some (.string uq):=zK zL 5
       have zco:wr.cell? ⟨yF,6,none⟩ = some (.slice pX vQ.length pJ):=zK zL 6
       have zcp:=zw zL.out 0
       have zcr:=zw zL.out 1
       have zcs:=zw zL.out 2
       have zct:=zw zL.out 3
       have zcu:=zw zL.out 4
       have zcA:=zw zL.out 5
       have zcB:=zw zL.out 6
       go_wp2
       repeat (go_quiet (fail);try go_wp2)
       go_ret
       exact ⟨by first | rfl | (simp [zH,zI] <;> rfl) | (simp [*,zH,zI] <;> rfl),by repeat (first | (with_reducible first | exact HB.out | apply yJ | apply zC | apply yY | refine qm ?_ zqH.out | refine qm ?_ zqI.out) | exact HB.out)⟩
end Go.Proofs.YtggifbbiiickmaaGreatDoor.PX
namespace Go.Proofs.YtggifbbiiickmaaGreatDoor.PX
open Go.RowKit Go.Proofs.zk.za Go.Proofs.zk.zS Go.Proofs.zk.zR
attribute [local go_sem] qD qE xJ xV qc qd qF qG   -- for this text's walks alone
set_option linter.unusedVariables false
set_option linter.unusedSimpArgs false
def yK.l0:Nat → List (qV) → List (qV) → Int → Option (Bool)
 | 0,_,_,_=>none
 | k + 1,x0,x1,x5=>if x5 < (x0.length:Int) then (if 0 ≤ x5 then (if x5 < (x1.length:Int) then ((zP.f k ((zy x0 x5).f0) ((zy x0 x5).f1) ((zy x0 x5).f2) ((zy x0 x5).f3) ((zy x0 x5).f4) ((zy x0 x5).f5) ((zy x0 x5).f6) ((zy x1 x5).f0) ((zy x1 x5).f1) ((zy x1 x5).f2) ((zy x1 x5).f3) ((zy x1 x5).f4) ((zy x1 x5).f5) ((zy x1 x5).f6)).bind fun zJT=>(if zJT = true then (yK.l0 k x0 x1 (wrap64 (x5 + 1))) else (some false))) else (none)) else (none)) else (some true)
def yK.f (k:Nat) (l0:List (qV)) (l1:List (qV)):Option (Bool):=if (l0.length:Int) = (l1.length:Int) then (yK.l0 k l0 l1 0) else (some false)
def yK.T6:Bool × List (List Nat × List Nat):=(true,[([],[]),([],[]),([0,1],[0,1]),([2],[2]),([],[]),([],[]),([4,5],[4,5]),([6],[6]),([3,7],[3,7]),([8],[8])])
def yK.B6:List Nat:=[0,0,3,7,0,0,48,112,255,511]
theorem yK.zeG:vZ .any (opsOf Tryz.f18 6) = yK.T6:=by kernel_rfl
theorem yK.zaW:vW yK.T6.2 yK.B6 = true:=by kernel_rfl
set_option maxHeartbeats 8000000 in
set_option maxRecDepth 100000 in
theorem yK.calls (k:Nat) (A0:Option Addr) (c0:Nat) (l0:List (qV)) (A1:Option Addr) (c1:Nat) (l1:List (qV)) (r:Bool) (w:World) (hr0:Kd.C uj w A0 l0.length l0) (hc0:l0.length ≤ c0) (hr1:Kd.C uj w A1 l1.length l1) (hc1:l1.length ≤ c1) (h:yK.f k l0 l1 = some r) :
  Calls Tryz.prog 18 #[.slice A0 l0.length c0,.slice A1 l1.length c1] w fun e w'=>e = .returned (.bool r) ∧ Below w.heap.size w w':=by
 have zeF:=Tryz.underlying53
 have jm:=zx.mk hr0
 have HC0:=zx.mk hc0
 clear hr0 hc0
 have HR1:=zx.mk hr1
 have HC1:=zx.mk hc1
 clear hr1 hc1
 have HB:=zx.mk (Below.refl w.heap.size w)
 have H:(if (l0.length:Int) = (l1.length:Int) then (yK.l0 k l0 l1 0) else (some false)) = some r:=h
 clear h
 by_cases c3:(l0.length:Int) = (l1.length:Int)
 ·rw [if_pos c3] at H
  have ZN:((l0.length:Int) == (l1.length:Int)) = true:=beq_iff_eq.mpr c3
  have zkG:((l0.length:Int) != (l1.length:Int)) = false:=bne_eq_false_iff_eq.mpr c3
  have zeH:(l0.length == l1.length) = true:=by first | simpa using c3 | (simp at c3 ⊢;omega)
  clear c3
  have H':=zx.mk H
  clear H
  go_enter Tryz.func18,Tryz.ntmps18
  go_wp2
  go_loopg [5] k (fun kq v5 w'=>∃ (zU:Int),v5 = .int .i64 zU ∧ zx (yK.l0 kq l0 l1 zU = some r) ∧ zx (kq ≤ k) ∧ zx (Below w.heap.size w w'))
  case atStart=>exact ⟨(0),(by first | rfl | (simp;done) | (simp [*];done)),H',⟨Nat.le_refl _⟩,⟨zD HB.out⟩⟩
  case round =>
   clear H'
   try clear c1
   try clear c3
   try clear ZN
   try clear zkG
   try clear zeH
   obtain ⟨zU,rfl,HA,wo,HB⟩:=hrel
   cases gk with
   | zero=>exact absurd HA.out (by simp [yK.l0])
   | succ k1 =>
    have H:=HA.out
    clear HA
    simp only [yK.l0] at H
    by_cases c4:zU < (l0.length:Int)
    ·rw [if_pos c4] at H
     have QX:decide (zU < (l0.length:Int)) = true:=decide_eq_true c4
     clear c4
     by_cases c5:0 ≤ zU
     ·rw [if_pos c5] at H
      have wM:decide (0 ≤ zU) = true:=decide_eq_true c5
      clear c5
      by_cases c6:zU < (l1.length:Int)
      ·rw [if_pos c6] at H
       have kD:decide (zU < (l1.length:Int)) = true:=decide_eq_true c6
       clear c6
       replace H:=Option.bind_eq_some_iff.mp H
       obtain ⟨zJT,eT,H⟩:=H
       replace H:(if zJT = true then (yK.l0 k1 l0 l1 (wrap64 (zU + 1))) else (some false)) = some r:=H
       have A7:=zx.mk eT
       clear eT
       by_cases c8:zJT = true
       ·subst c8
        have H1:(yK.l0 k1 l0 l1 (wrap64 (zU + 1))) = some r:=by rw [if_pos rfl] at H;exact H
        clear H
        have H:=H1
        clear H1
        have H':=zx.mk H
        clear H
        try go_wp2
        have ze:=zx.mk (yY HB.out)
        clear HB
        have HB:=ze
        clear ze
        have zz3:0 ≤ (zU:Int):=of_decide_eq_true yH
        have zz4:zU < (l0.length:Int):=of_decide_eq_true yH
        obtain ⟨jT,iI,iL,zWY,ZU,Z0,Z4,Z5,Z6,Z7,Z8,rG,rH⟩:=kQ jm.out zU zz3 zz4
        have XH:=Z8
        have XI:=Z7
        have XL:=Z6
        have XM:=Z5
        have XO:=Z4
        have XP:=Z0
        have XR:=ZU
        cases zWY
        replace ZU:=(HB.out.cell (World.block_lt_of_cell? w _ ZU)).trans ZU
        replace Z0:=(HB.out.cell (World.block_lt_of_cell? w _ Z0)).trans Z0
        replace Z4:=(HB.out.cell (World.block_lt_of_cell? w _ Z4)).trans Z4
        replace Z5:=(HB.out.cell (World.block_lt_of_cell? w _ Z5)).trans Z5
        replace Z6:=(HB.out.cell (World.block_lt_of_cell? w _ Z6)).trans Z6
        replace Z7:=(HB.out.cell (World.block_lt_of_cell? w _ Z7)).trans Z7
        replace Z8:=(HB.out.cell (World.block_lt_of_cell? w _ Z8)).trans Z8
        have rM:=zx.mk rH
        have zvk:=zx.mk rG
        clear rH rG
        replace zz3:=eq_true zz3
        replace zz4:=eq_true zz4
        have zz5:0 ≤ (zU:Int):=of_decide_eq_true yH
        have zz6:zU < (l1.length:Int):=of_decide_eq_true yH
        obtain ⟨jU,iN,iO,e294,Z9,Yz,Yq,Yx,Yj,Yv,Yk,rO,rR⟩:=kQ HR1.out zU zz5 zz6
        have XT:=Yk
        have XU:=Yv
        have X0:=Yj
        have X3:=Yx
        have X4:=Yq
        have X5:=Yz
        have X6:=Z9
        cases e294
        replace Z9:=(HB.out.cell (World.block_lt_of_cell? w _ Z9)).trans Z9
        replace Yz:=(HB.out.cell (World.block_lt_of_cell? w _ Yz)).trans Yz
        replace Yq:=(HB.out.cell (World.block_lt_of_cell? w _ Yq)).trans Yq
        replace Yx:=(HB.out.cell (World.block_lt_of_cell? w _ Yx)).trans Yx
        replace Yj:=(HB.out.cell (World.block_lt_of_cell? w _ Yj)).trans Yj
        replace Yv:=(HB.out.cell (World.block_lt_of_cell? w _ Yv)).trans Yv
        replace Yk:=(HB.out.cell (World.block_lt_of_cell? w _ Yk)).trans Yk
        have r9:=zx.mk rR
        have zvy:=zx.mk rO
        clear rR rO
        replace zz5:=eq_true zz5
        replace zz6:=eq_true zz6
        refine Zq (n:=10) (S:=fun w'=>w'.cell? (jT.add ((zU).toNat * 7)) = some (.int .i64 ((zy l0 zU).f0)) ∧ w'.cell? ⟨(jT.add ((zU).toNat * 7)).block,(jT.add ((zU).toNat * 7)).off + 1,none⟩ = some (.int .i64 ((zy l0 zU).f1)) ∧ w'.cell? ⟨(jT.add ((zU).toNat * 7)).block,(jT.add ((zU).toNat * 7)).off + 2,none⟩ = some (.int .i64 ((zy l0 zU).f2)) ∧ w'.cell? ⟨(jT.add ((zU).toNat * 7)).block,(jT.add ((zU).toNat * 7)).off + 3,none⟩ = some (.int .i64 ((zy l0 zU).f3)) ∧ w'.cell? ⟨(jT.add ((zU).toNat * 7)).block,(jT.add ((zU).toNat * 7)).off + 4,none⟩ = some (.string ((zy l0 zU).f4)) ∧ w'.cell? ⟨(jT.add ((zU).toNat * 7)).block,(jT.add ((zU).toNat * 7)).off + 5,none⟩ = some (.string ((zy l0 zU).f5)) ∧ w'.cell? ⟨(jT.add ((zU).toNat * 7)).block,(jT.add ((zU).toNat * 7)).off + 6,none⟩ = some (.slice iI ((zy l0 zU).f6).length iL) ∧ w'.cell? (jU.add ((zU).toNat * 7)) = some (.int .i64 ((zy l1 zU).f0)) ∧ w'.cell? ⟨(jU.add ((zU).toNat * 7)).block,(jU.add ((zU).toNat * 7)).off + 1,none⟩ = some (.int .i64 ((zy l1 zU).f1)) ∧ w'.cell? ⟨(jU.add ((zU).toNat * 7)).block,(jU.add ((zU).toNat * 7)).off + 2,none⟩ = some (.int .i64 ((zy l1 zU).f2)) ∧ w'.cell? ⟨(jU.add ((zU).toNat * 7)).block,(jU.add ((zU).toNat * 7)).off + 3,none⟩ = some (.int .i64 ((zy l1 zU).f3)) ∧ w'.cell? ⟨(jU.add ((zU).toNat * 7)).block,(jU.add ((zU).toNat * 7)).off + 4,none⟩ = some (.string ((zy l1 zU).f4)) ∧ w'.cell? ⟨(jU.add ((zU).toNat * 7)).block,(jU.add ((zU).toNat * 7)).off + 5,none⟩ = some (.string ((zy l1 zU).f5)) ∧ w'.cell? ⟨(jU.add ((zU).toNat * 7)).block,(jU.add ((zU).toNat * 7)).off + 6,none⟩ = some (.slice iN ((zy l1 zU).f6).length iO)) (ds:=[]) #[false,false,false,false,false,false,false,false,false,false] (by kernel_rfl) rfl rfl ⟨((HB.out.cell (World.block_lt_of_cell? w _ XR)).trans XR),((HB.out.cell (World.block_lt_of_cell? w _ XP)).trans XP),((HB.out.cell (World.block_lt_of_cell? w _ XO)).trans XO),((HB.out.cell (World.block_lt_of_cell? w _ XM)).trans XM),((HB.out.cell (World.block_lt_of_cell? w _ XL)).trans XL),((HB.out.cell (World.block_lt_of_cell? w _ XI)).trans XI),((HB.out.cell (World.block_lt_of_cell? w _ XH)).trans XH),((HB.out.cell (World.block_lt_of_cell? w _ X6)).trans X6),((HB.out.cell (World.block_lt_of_cell? w _ X5)).trans X5),((HB.out.cell (World.block_lt_of_cell? w _ X4)).trans X4),((HB.out.cell (World.block_lt_of_cell? w _ X3)).trans X3),((HB.out.cell (World.block_lt_of_cell? w _ X0)).trans X0),((HB.out.cell (World.block_lt_of_cell? w _ XU)).trans XU),((HB.out.cell (World.block_lt_of_cell? w _ XT)).trans XT)⟩ (fun hHeld=>?_);refine Yh yK.zeG yK.zaW (fun yX wY=>?_)
        generalize wr.drew = w9 at HB rM r9 ZU Z0 Z4 Z5 Z6 Z7 Z8 Z9 Yz Yq Yx Yj Yv Yk hHeld ⊢
        refine vX (i:=0) (N:=some 17) (v:=?_) (a':=?_) #[true,false,false,false,false,false,false,false,false,false] rfl rfl (xW yX.out (by kernel_rfl)) (fun _ _ _ h=>h) (Or.inl ⟨by rfl,?_⟩) ?_ ?_
        rotate_left
        ·intro w'
         go_simp
         with_reducible rfl
        rotate_left
        ·simp only [Act.put,List.setIfInBounds_toArray,List.set_cons_zero,List.set_cons_succ,vv,vk]
         rfl
        refine vX (i:=1) (N:=some 18) (v:=?_) (a':=?_) #[true,true,false,false,false,false,false,false,false,false] rfl rfl (xW yX.out (by kernel_rfl)) (fun _ _ _ h=>h) (Or.inl ⟨by rfl,?_⟩) ?_ ?_
        rotate_left
        ·intro w'
         go_simp
         with_reducible rfl
        rotate_left
        ·simp only [Act.put,List.setIfInBounds_toArray,List.set_cons_zero,List.set_cons_succ,vv,vk]
         rfl
        refine vX (i:=2) (N:=some 19) (v:=?_) (a':=?_) #[true,true,true,false,false,false,false,false,false,false] rfl rfl (xW yX.out (by kernel_rfl)) (fun _ _ _ h=>h) (Or.inl ⟨by rfl,?_⟩) ?_ ?_
        rotate_left
        ·intro w'
         go_simp
         with_reducible rfl
        rotate_left
        ·simp only [Act.put,List.setIfInBounds_toArray,List.set_cons_zero,List.set_cons_succ,vv,vk]
         rfl
        refine vX (i:=4) (N:=some 21) (v:=?_) (a':=?_) #[true,true,true,false,true,false,false,false,false,false] rfl rfl (xW yX.out (by kernel_rfl)) (fun _ _ _ h=>h) (Or.inl ⟨by rfl,?_⟩) ?_ ?_
        rotate_left
        ·intro w'
         go_simp
         with_reducible rfl
        rotate_left
        ·simp only [Act.put,List.setIfInBounds_toArray,List.set_cons_zero,List.set_cons_succ,vv,vk]
         rfl
        refine vX (i:=5) (N:=some 22) (v:=?_) (a':=?_) #[true,true,true,false,true,true,false,false,false,false] rfl rfl (xW yX.out (by kernel_rfl)) (fun _ _ _ h=>h) (Or.inl ⟨by rfl,?_⟩) ?_ ?_
        rotate_left
        ·intro w'
         go_simp
         with_reducible rfl
        rotate_left
        ·simp only [Act.put,List.setIfInBounds_toArray,List.set_cons_zero,List.set_cons_succ,vv,vk]
         rfl
        refine vX (i:=6) (N:=some 23) (v:=?_) (a':=?_) #[true,true,true,false,true,true,true,false,false,false] rfl rfl (xW yX.out (by kernel_rfl)) (fun _ _ _ h=>h) (Or.inl ⟨by rfl,?_⟩) ?_ ?_
        rotate_left
        ·intro w'
         go_simp
         with_reducible rfl
        rotate_left
        ·simp only [Act.put,List.setIfInBounds_toArray,List.set_cons_zero,List.set_cons_succ,vv,vk]
         rfl
        refine Xi (i:=3) (N:=some 20) (v:=?_) (a':=?_) #[true,true,true,true,true,true,true,false,false,false] rfl rfl (QA yX.out wY.out (by kernel_rfl)) (fun _ _ _ h=>h) (Or.inl ⟨by rfl,?_⟩) hHeld ?_ ?_
        rotate_left
        ·rintro w' ⟨s0,s1,s2,s3,s4,s5,s6,s7,s8,s9,s10,s11,s12,s13⟩
         go_simp
         with_reducible rfl
        rotate_left
        ·simp only [Act.put,List.setIfInBounds_toArray,List.set_cons_zero,List.set_cons_succ,vv,vk]
         rfl
        refine Xi (i:=7) (N:=some 24) (v:=?_) (a':=?_) #[true,true,true,true,true,true,true,true,false,false] rfl rfl (QA yX.out wY.out (by kernel_rfl)) (fun _ _ _ h=>h) (Or.inl ⟨by rfl,?_⟩) hHeld ?_ ?_
        rotate_left
        ·rintro w' ⟨s0,s1,s2,s3,s4,s5,s6,s7,s8,s9,s10,s11,s12,s13⟩
         go_simp
         with_reducible rfl
        rotate_left
        ·simp only [Act.put,List.setIfInBounds_toArray,List.set_cons_zero,List.set_cons_succ,vv,vk]
         rfl
        refine Xb (i:=8) (N:=some 25) #[true,true,true,true,true,true,true,true,true,false] rfl rfl (jF yX.out (by kernel_rfl)) (by decide) (fun K hK=>?_)
        refine tK Tryz.func53 (by kernel_rfl) rfl #[.agg #[.int .i64 ((zy l0 zU).f0),.int .i64 ((zy l0 zU).f1),.int .i64 ((zy l0 zU).f2),.int .i64 ((zy l0 zU).f3),.string ((zy l0 zU).f4),.string ((zy l0 zU).f5),.slice iI ((zy l0 zU).f6).length iL],.agg #[.int .i64 ((zy l1 zU).f0),.int .i64 ((zy l1 zU).f1),.int .i64 ((zy l1 zU).f2),.int .i64 ((zy l1 zU).f3),.string ((zy l1 zU).f4),.string ((zy l1 zU).f5),.slice iN ((zy l1 zU).f6).length iO]] (by rfl) rfl rfl (by (try simp only [List.map_toArray,List.map_cons,List.map_nil]);first | done | rfl | (simp only [List.length_drop,List.length_take];rfl)) ?_
        with_reducible refine (zP.calls k1 ((zy l0 zU).f0) ((zy l0 zU).f1) ((zy l0 zU).f2) ((zy l0 zU).f3) ((zy l0 zU).f4) ((zy l0 zU).f5) _ _ ((zy l0 zU).f6) ((zy l1 zU).f0) ((zy l1 zU).f1) ((zy l1 zU).f2) ((zy l1 zU).f3) ((zy l1 zU).f4) ((zy l1 zU).f5) _ _ ((zy l1 zU).f6) true _ ?yh ?yD ?qX ?qJ A7.out).mono ?_
        (case yh=>exact qM (Kd.zh rM.out HB.out))
        (case yD=>exact zvk.out)
        (case qX=>exact qM (Kd.zh r9.out HB.out))
        (case qJ=>exact zvy.out)
        rintro e YI ⟨rfl,hb⟩
        refine ⟨_,rfl,?_⟩
        have ze:=zx.mk (zu (zD HB.out) hb)
        clear HB
        have HB:=ze
        clear ze
        (try clear hb)
        refine hK.out _ _ ⟨((HB.out.cell (World.block_lt_of_cell? w _ XR)).trans XR),((HB.out.cell (World.block_lt_of_cell? w _ XP)).trans XP),((HB.out.cell (World.block_lt_of_cell? w _ XO)).trans XO),((HB.out.cell (World.block_lt_of_cell? w _ XM)).trans XM),((HB.out.cell (World.block_lt_of_cell? w _ XL)).trans XL),((HB.out.cell (World.block_lt_of_cell? w _ XI)).trans XI),((HB.out.cell (World.block_lt_of_cell? w _ XH)).trans XH),((HB.out.cell (World.block_lt_of_cell? w _ X6)).trans X6),((HB.out.cell (World.block_lt_of_cell? w _ X5)).trans X5),((HB.out.cell (World.block_lt_of_cell? w _ X4)).trans X4),((HB.out.cell (World.block_lt_of_cell? w _ X3)).trans X3),((HB.out.cell (World.block_lt_of_cell? w _ X0)).trans X0),((HB.out.cell (World.block_lt_of_cell? w _ XU)).trans XU),((HB.out.cell (World.block_lt_of_cell? w _ XT)).trans XT)⟩ (fun hHeld=>?_)
        clear hK K
        refine Xn (a':=?_) ?_ ?_
        rotate_left
        ·show Act.put _ (some 25) _ = _
         simp only [Act.put,List.setIfInBounds_toArray,List.set_cons_zero,List.set_cons_succ,vv,vk]
         rfl
        refine vX (i:=9) (N:=some 26) (v:=?_) (a':=?_) #[true,true,true,true,true,true,true,true,true,true] rfl rfl (xW yX.out (by kernel_rfl)) (fun _ _ _ h=>h) (Or.inl ⟨by rfl,?_⟩) ?_ ?_
        rotate_left
        ·intro w'
         go_simp
         with_reducible rfl
        rotate_left
        ·simp only [Act.put,List.setIfInBounds_toArray,List.set_cons_zero,List.set_cons_succ,vv,vk]
         rfl
        refine xE (qW yX.out (by kernel_rfl)) ?_
        try go_wp2
        go_roundg k1
        case measure=>have:=wo.out;omega
        case rel=>exact ⟨(wrap64 (zU + 1)),(by first | rfl | (simp;done) | (simp [*];done)),H',⟨by have:=wo.out;omega⟩,⟨zD HB.out⟩⟩
       ·replace c8:=Bool.eq_false_iff.mpr c8
        subst c8
        have H1:(some false) = some r:=by rw [if_neg (show ¬ (false = true) by decide)] at H;exact H
        clear H
        have H:=H1
        clear H1
        obtain rfl:=Option.some.inj H
        try go_wp2
        have ze:=zx.mk (yY HB.out)
        clear HB
        have HB:=ze
        clear ze
        have zz3:0 ≤ (zU:Int):=of_decide_eq_true yH
        have zz4:zU < (l0.length:Int):=of_decide_eq_true yH
        obtain ⟨jT,iI,iL,zWY,ZU,Z0,Z4,Z5,Z6,Z7,Z8,rG,rH⟩:=kQ jm.out zU zz3 zz4
        have XH:=Z8
        have XI:=Z7
        have XL:=Z6
        have XM:=Z5
        have XO:=Z4
        have XP:=Z0
        have XR:=ZU
        cases zWY
        replace ZU:=(HB.out.cell (World.block_lt_of_cell? w _ ZU)).trans ZU
        replace Z0:=(HB.out.cell (World.block_lt_of_cell? w _ Z0)).trans Z0
        replace Z4:=(HB.out.cell (World.block_lt_of_cell? w _ Z4)).trans Z4
        replace Z5:=(HB.out.cell (World.block_lt_of_cell? w _ Z5)).trans Z5
        replace Z6:=(HB.out.cell (World.block_lt_of_cell? w _ Z6)).trans Z6
        replace Z7:=(HB.out.cell (World.block_lt_of_cell? w _ Z7)).trans Z7
        replace Z8:=(HB.out.cell (World.block_lt_of_cell? w _ Z8)).trans Z8
        have rM:=zx.mk rH
        have zvk:=zx.mk rG
        clear rH rG
        replace zz3:=eq_true zz3
        replace zz4:=eq_true zz4
        have zz5:0 ≤ (zU:Int):=of_decide_eq_true yH
        have zz6:zU < (l1.length:Int):=of_decide_eq_true yH
        obtain ⟨jU,iN,iO,e294,Z9,Yz,Yq,Yx,Yj,Yv,Yk,rO,rR⟩:=kQ HR1.out zU zz5 zz6
        have XT:=Yk
        have XU:=Yv
        have X0:=Yj
        have X3:=Yx
        have X4:=Yq
        have X5:=Yz
        have X6:=Z9
        cases e294
        replace Z9:=(HB.out.cell (World.block_lt_of_cell? w _ Z9)).trans Z9
        replace Yz:=(HB.out.cell (World.block_lt_of_cell? w _ Yz)).trans Yz
        replace Yq:=(HB.out.cell (World.block_lt_of_cell? w _ Yq)).trans Yq
        replace Yx:=(HB.out.cell (World.block_lt_of_cell? w _ Yx)).trans Yx
        replace Yj:=(HB.out.cell (World.block_lt_of_cell? w _ Yj)).trans Yj
        replace Yv:=(HB.out.cell (World.block_lt_of_cell? w _ Yv)).trans Yv
        replace Yk:=(HB.out.cell (World.block_lt_of_cell? w _ Yk)).trans Yk
        have r9:=zx.mk rR
        have zvy:=zx.mk rO
        clear rR rO
        replace zz5:=eq_true zz5
        replace zz6:=eq_true zz6
        refine Zq (n:=10) (S:=fun w'=>w'.cell? (jT.add ((zU).toNat * 7)) = some (.int .i64 ((zy l0 zU).f0)) ∧ w'.cell? ⟨(jT.add ((zU).toNat * 7)).block,(jT.add ((zU).toNat * 7)).off + 1,none⟩ = some (.int .i64 ((zy l0 zU).f1)) ∧ w'.cell? ⟨(jT.add ((zU).toNat * 7)).block,(jT.add ((zU).toNat * 7)).off + 2,none⟩ = some (.int .i64 ((zy l0 zU).f2)) ∧ w'.cell? ⟨(jT.add ((zU).toNat * 7)).block,(jT.add ((zU).toNat * 7)).off + 3,none⟩ = some (.int .i64 ((zy l0 zU).f3)) ∧ w'.cell? ⟨(jT.add ((zU).toNat * 7)).block,(jT.add ((zU).toNat * 7)).off + 4,none⟩ = some (.string ((zy l0 zU).f4)) ∧ w'.cell? ⟨(jT.add ((zU).toNat * 7)).block,(jT.add ((zU).toNat * 7)).off + 5,none⟩ = some (.string ((zy l0 zU).f5)) ∧ w'.cell? ⟨(jT.add ((zU).toNat * 7)).block,(jT.add ((zU).toNat * 7)).off + 6,none⟩ = some (.slice iI ((zy l0 zU).f6).length iL) ∧ w'.cell? (jU.add ((zU).toNat * 7)) = some (.int .i64 ((zy l1 zU).f0)) ∧ w'.cell? ⟨(jU.add ((zU).toNat * 7)).block,(jU.add ((zU).toNat * 7)).off + 1,none⟩ = some (.int .i64 ((zy l1 zU).f1)) ∧ w'.cell? ⟨(jU.add ((zU).toNat * 7)).block,(jU.add ((zU).toNat * 7)).off + 2,none⟩ = some (.int .i64 ((zy l1 zU).f2)) ∧ w'.cell? ⟨(jU.add ((zU).toNat * 7)).block,(jU.add ((zU).toNat * 7)).off + 3,none⟩ = some (.int .i64 ((zy l1 zU).f3)) ∧ w'.cell? ⟨(jU.add ((zU).toNat * 7)).block,(jU.add ((zU).toNat * 7)).off + 4,none⟩ = some (.string ((zy l1 zU).f4)) ∧ w'.cell? ⟨(jU.add ((zU).toNat * 7)).block,(jU.add ((zU).toNat * 7)).off + 5,none⟩ = some (.string ((zy l1 zU).f5)) ∧ w'.cell? ⟨(jU.add ((zU).toNat * 7)).block,(jU.add ((zU).toNat * 7)).off + 6,none⟩ = some (.slice iN ((zy l1 zU).f6).length iO)) (ds:=[]) #[false,false,false,false,false,false,false,false,false,false] (by kernel_rfl) rfl rfl ⟨((HB.out.cell (World.block_lt_of_cell? w _ XR)).trans XR),((HB.out.cell (World.block_lt_of_cell? w _ XP)).trans XP),((HB.out.cell (World.block_lt_of_cell? w _ XO)).trans XO),((HB.out.cell (World.block_lt_of_cell? w _ XM)).trans XM),((HB.out.cell (World.block_lt_of_cell? w _ XL)).trans XL),((HB.out.cell (World.block_lt_of_cell? w _ XI)).trans XI),((HB.out.cell (World.block_lt_of_cell? w _ XH)).trans XH),((HB.out.cell (World.block_lt_of_cell? w _ X6)).trans X6),((HB.out.cell (World.block_lt_of_cell? w _ X5)).trans X5),((HB.out.cell (World.block_lt_of_cell? w _ X4)).trans X4),((HB.out.cell (World.block_lt_of_cell? w _ X3)).trans X3),((HB.out.cell (World.block_lt_of_cell? w _ X0)).trans X0),((HB.out.cell (World.block_lt_of_cell? w _ XU)).trans XU),((HB.out.cell (World.block_lt_of_cell? w _ XT)).trans XT)⟩ (fun hHeld=>?_);refine Yh yK.zeG yK.zaW (fun yX wY=>?_)
        generalize wr.drew = w11 at HB rM r9 ZU Z0 Z4 Z5 Z6 Z7 Z8 Z9 Yz Yq Yx Yj Yv Yk hHeld ⊢
        refine vX (i:=0) (N:=some 17) (v:=?_) (a':=?_) #[true,false,false,false,false,false,false,false,false,false] rfl rfl (xW yX.out (by kernel_rfl)) (fun _ _ _ h=>h) (Or.inl ⟨by rfl,?_⟩) ?_ ?_
        rotate_left
        ·intro w'
         go_simp
         with_reducible rfl
        rotate_left
        ·simp only [Act.put,List.setIfInBounds_toArray,List.set_cons_zero,List.set_cons_succ,vv,vk]
         rfl
        refine vX (i:=1) (N:=some 18) (v:=?_) (a':=?_) #[true,true,false,false,false,false,false,false,false,false] rfl rfl (xW yX.out (by kernel_rfl)) (fun _ _ _ h=>h) (Or.inl ⟨by rfl,?_⟩) ?_ ?_
        rotate_left
        ·intro w'
         go_simp
         with_reducible rfl
        rotate_left
        ·simp only [Act.put,List.setIfInBounds_toArray,List.set_cons_zero,List.set_cons_succ,vv,vk]
         rfl
        refine vX (i:=2) (N:=some 19) (v:=?_) (a':=?_) #[true,true,true,false,false,false,false,false,false,false] rfl rfl (xW yX.out (by kernel_rfl)) (fun _ _ _ h=>h) (Or.inl ⟨by rfl,?_⟩) ?_ ?_
        rotate_left
        ·intro w'
         go_simp
         with_reducible rfl
        rotate_left
        ·simp only [Act.put,List.setIfInBounds_toArray,List.set_cons_zero,List.set_cons_succ,vv,vk]
         rfl
        refine vX (i:=4) (N:=some 21) (v:=?_) (a':=?_) #[true,true,true,false,true,false,false,false,false,false] rfl rfl (xW yX.out (by kernel_rfl)) (fun _ _ _ h=>h) (Or.inl ⟨by rfl,?_⟩) ?_ ?_
        rotate_left
        ·intro w'
         go_simp
         with_reducible rfl
        rotate_left
        ·simp only [Act.put,List.setIfInBounds_toArray,List.set_cons_zero,List.set_cons_succ,vv,vk]
         rfl
        refine vX (i:=5) (N:=some 22) (v:=?_) (a':=?_) #[true,true,true,false,true,true,false,false,false,false] rfl rfl (xW yX.out (by kernel_rfl)) (fun _ _ _ h=>h) (Or.inl ⟨by rfl,?_⟩) ?_ ?_
        rotate_left
        ·intro w'
         go_simp
         with_reducible rfl
        rotate_left
        ·simp only [Act.put,List.setIfInBounds_toArray,List.set_cons_zero,List.set_cons_succ,vv,vk]
         rfl
        refine vX (i:=6) (N:=some 23) (v:=?_) (a':=?_) #[true,true,true,false,true,true,true,false,false,false] rfl rfl (xW yX.out (by kernel_rfl)) (fun _ _ _ h=>h) (Or.inl ⟨by rfl,?_⟩) ?_ ?_
        rotate_left
        ·intro w'
         go_simp
         with_reducible rfl
        rotate_left
        ·simp only [Act.put,List.setIfInBounds_toArray,List.set_cons_zero,List.set_cons_succ,vv,vk]
         rfl
        refine Xi (i:=3) (N:=some 20) (v:=?_) (a':=?_) #[true,true,true,true,true,true,true,false,false,false] rfl rfl (QA yX.out wY.out (by kernel_rfl)) (fun _ _ _ h=>h) (Or.inl ⟨by rfl,?_⟩) hHeld ?_ ?_
        rotate_left
        ·rintro w' ⟨s0,s1,s2,s3,s4,s5,s6,s7,s8,s9,s10,s11,s12,s13⟩
         go_simp
         with_reducible rfl
        rotate_left
        ·simp only [Act.put,List.setIfInBounds_toArray,List.set_cons_zero,List.set_cons_succ,vv,vk]
         rfl
        refine Xi (i:=7) (N:=some 24) (v:=?_) (a':=?_) #[true,true,true,true,true,true,true,true,false,false] rfl rfl (QA yX.out wY.out (by kernel_rfl)) (fun _ _ _ h=>h) (Or.inl ⟨by rfl,?_⟩) hHeld ?_ ?_
        rotate_left
        ·rintro w' ⟨s0,s1,s2,s3,s4,s5,s6,s7,s8,s9,s10,s11,s12,s13⟩
         go_simp
         with_reducible rfl
        rotate_left
        ·simp only [Act.put,List.setIfInBounds_toArray,List.set_cons_zero,List.set_cons_succ,vv,vk]
         rfl
        refine Xb (i:=8) (N:=some 25) #[true,true,true,true,true,true,true,true,true,false] rfl rfl (jF yX.out (by kernel_rfl)) (by decide) (fun K hK=>?_)
        refine tK Tryz.func53 (by kernel_rfl) rfl #[.agg #[.int .i64 ((zy l0 zU).f0),.int .i64 ((zy l0 zU).f1),.int .i64 ((zy l0 zU).f2),.int .i64 ((zy l0 zU).f3),.string ((zy l0 zU).f4),.string ((zy l0 zU).f5),.slice iI ((zy l0 zU).f6).length iL],.agg #[.int .i64 ((zy l1 zU).f0),.int .i64 ((zy l1 zU).f1),.int .i64 ((zy l1 zU).f2),.int .i64 ((zy l1 zU).f3),.string ((zy l1 zU).f4),.string ((zy l1 zU).f5),.slice iN ((zy l1 zU).f6).length iO]] (by rfl) rfl rfl (by (try simp only [List.map_toArray,List.map_cons,List.map_nil]);first | done | rfl | (simp only [List.length_drop,List.length_take];rfl)) ?_
        with_reducible refine (zP.calls k1 ((zy l0 zU).f0) ((zy l0 zU).f1) ((zy l0 zU).f2) ((zy l0 zU).f3) ((zy l0 zU).f4) ((zy l0 zU).f5) _ _ ((zy l0 zU).f6) ((zy l1 zU).f0) ((zy l1 zU).f1) ((zy l1 zU).f2) ((zy l1 zU).f3) ((zy l1 zU).f4) ((zy l1 zU).f5) _ _ ((zy l1 zU).f6) false _ ?yh ?yD ?qX ?qJ A7.out).mono ?_
        (case yh=>exact qM (Kd.zh rM.out HB.out))
        (case yD=>exact zvk.out)
        (case qX=>exact qM (Kd.zh r9.out HB.out))
        (case qJ=>exact zvy.out)
        rintro e dK ⟨rfl,hb⟩
        refine ⟨_,rfl,?_⟩
        have ze:=zx.mk (zu (zD HB.out) hb)
        clear HB
        have HB:=ze
        clear ze
        (try clear hb)
        refine hK.out _ _ ⟨((HB.out.cell (World.block_lt_of_cell? w _ XR)).trans XR),((HB.out.cell (World.block_lt_of_cell? w _ XP)).trans XP),((HB.out.cell (World.block_lt_of_cell? w _ XO)).trans XO),((HB.out.cell (World.block_lt_of_cell? w _ XM)).trans XM),((HB.out.cell (World.block_lt_of_cell? w _ XL)).trans XL),((HB.out.cell (World.block_lt_of_cell? w _ XI)).trans XI),((HB.out.cell (World.block_lt_of_cell? w _ XH)).trans XH),((HB.out.cell (World.block_lt_of_cell? w _ X6)).trans X6),((HB.out.cell (World.block_lt_of_cell? w _ X5)).trans X5),((HB.out.cell (World.block_lt_of_cell? w _ X4)).trans X4),((HB.out.cell (World.block_lt_of_cell? w _ X3)).trans X3),((HB.out.cell (World.block_lt_of_cell? w _ X0)).trans X0),((HB.out.cell (World.block_lt_of_cell? w _ XU)).trans XU),((HB.out.cell (World.block_lt_of_cell? w _ XT)).trans XT)⟩ (fun hHeld=>?_)
        clear hK K
        refine Xn (a':=?_) ?_ ?_
        rotate_left
        ·show Act.put _ (some 25) _ = _
         simp only [Act.put,List.setIfInBounds_toArray,List.set_cons_zero,List.set_cons_succ,vv,vk]
         rfl
        refine vX (i:=9) (N:=some 26) (v:=?_) (a':=?_) #[true,true,true,true,true,true,true,true,true,true] rfl rfl (xW yX.out (by kernel_rfl)) (fun _ _ _ h=>h) (Or.inl ⟨by rfl,?_⟩) ?_ ?_
        rotate_left
        ·intro w'
         go_simp
         with_reducible rfl
        rotate_left
        ·simp only [Act.put,List.setIfInBounds_toArray,List.set_cons_zero,List.set_cons_succ,vv,vk]
         rfl
        refine xE (qW yX.out (by kernel_rfl)) ?_
        try go_wp2
        go_ret
        exact ⟨by first | rfl | (simp [zH,zI] <;> rfl) | (simp [*,zH,zI] <;> rfl),by repeat (first | (with_reducible first | exact HB.out | apply yJ | apply zC | apply yY) | exact HB.out)⟩
      ·rw [if_neg c6] at H
       exact absurd H (by simp)
     ·rw [if_neg c5] at H
      exact absurd H (by simp)
    ·rw [if_neg c4] at H
     have QX:decide (zU < (l0.length:Int)) = false:=decide_eq_false c4
     clear c4
     obtain rfl:=Option.some.inj H
     go_wp2
     go_ret
     exact ⟨by first | rfl | (simp [zH,zI] <;> rfl) | (simp [*,zH,zI] <;> rfl),by repeat (first | (with_reducible first | exact HB.out | apply yJ | apply zC | apply yY) | exact HB.out)⟩
 ·rw [if_neg c3] at H
  have ZN:((l0.length:Int) == (l1.length:Int)) = false:=beq_eq_false_iff_ne.mpr c3
  have zkG:((l0.length:Int) != (l1.length:Int)) = true:=bne_iff_ne.mpr c3
  have zeH:(l0.length == l1.length) = false:=by first | simpa using c3 | (simp at c3 ⊢;omega)
  obtain rfl:=Option.some.inj H
  go_enter Tryz.func18,Tryz.ntmps18
  go_wp2
  go_ret
  exact ⟨by first | rfl | (simp [zH,zI] <;> rfl) | (simp [*,zH,zI] <;> rfl),by repeat (first | (with_reducible first | exact HB.out | apply yJ | apply zC | apply yY) | exact HB.out)⟩
end Go.Proofs.YtggifbbiiickmaaGreatDoor.PX
namespace Go.Proofs.YtggifbbiiickmaaGreatDoor.PX
open Go.RowKit Go.Proofs.zk.za Go.Proofs.zk.zS Go.Proofs.zk.zR
attribute [local go_sem] qD qE xJ xV qc qd qF qG   -- for this text's walks alone
set_option linter.unusedVariables false
set_option linter.unusedSimpArgs false
end Go.Proofs.YtggifbbiiickmaaGreatDoor.PX
namespace Go.Proofs.YtggifbbiiickmaaGreatDoor.PX
open Go.RowKit Go.Proofs.zk.za Go.Proofs.zk.zS Go.Proofs.zk.zR
attribute [local go_sem] qD qE xJ xV qc qd qF qG   -- for this text's walks alone
set_option linter.unusedVariables false
set_option linter.unusedSimpArgs false
def qZ.l0:Nat → Int → Int → List (jd) → Option (Bool)
 | 0,_,_,_=>none
 | k + 1,x3,x4,P5=>if x4 < (P5.length:Int) then (if 0 ≤ x4 then (qZ.l0 k (wrap64 ((wrap64 ((wrap64 (x3 + (((zV P5 x4).f3).length:Int))) + (((zV P5 x4).f4).length:Int))) + (((zV P5 x4).f5).length:Int))) (wrap64 (x4 + 1)) P5) else (none)) else (if x3 > 1200 then (some true) else (some (decide ((P5.length:Int) > 10))))
def qZ.f (k:Nat) (yt:List (jd)):Option (Bool):=qZ.l0 k 0 0 yt
set_option maxHeartbeats 8000000 in
set_option maxRecDepth 100000 in
theorem qZ.calls (k:Nat) (qH:Option Addr) (qI:Nat) (yt:List (jd)) (r:Bool) (w:World) (zqL:Kd.C kP w qH yt.length yt) (zqM:yt.length ≤ qI) (h:qZ.f k yt = some r) :
  Calls Tryz.prog 10 #[.agg #[.slice qH yt.length qI]] w fun e w'=>e = .returned (.bool r) ∧ Below w.heap.size w w':=by
 have zeI:=Tryz.underlying24
 have X7:=zx.mk zqL
 have Wy:=zx.mk zqM
 clear zqL zqM
 have HB:=zx.mk (Below.refl w.heap.size w)
 have H:(qZ.l0 k 0 0 yt) = some r:=h
 clear h
 have H':=zx.mk H
 clear H
 go_enter Tryz.func10,Tryz.ntmps10
 go_wp2_with (first | ((with_reducible refine qQ (N:=1) rfl ?_);(try (refine xO (by rfl) ?_;dsimp only));refine qC ?hg (N:=1) ?hd (cs:=#[.slice qH yt.length qI]) (t:=24) ?hr ?_;(case hd=>rfl);(case hg=>rfl);(case hr=>first | (go_simp;done) | (go_simp;rfl));intro Qs hg w2 qo hb;have ze:=zx.mk (zu (zD HB.out) hb);have zi:=zx.mk (qo);have zo:=zx.mk ((by rw [hg];exact (zm (zD HB.out)):w.heap.size ≤ Qs));have zT:=zx.mk ((by rw [hg];exact (zm (zD HB.out)):w.heap.size ≤ Qs));clear HB;have HB:=ze;have JZ:=zi;have zaa:=zo;have zkk:=zT;clear ze zi zo zT;clear hb qo hg))
 repeat (go_quiet (first | ((with_reducible refine qQ (N:=1) rfl ?_);(try (refine xO (by rfl) ?_;dsimp only));refine qC ?hg (N:=1) ?hd (cs:=#[.slice qH yt.length qI]) (t:=24) ?hr ?_;(case hd=>rfl);(case hg=>rfl);(case hr=>first | (go_simp;done) | (go_simp;rfl));intro Qs hg w2 qo hb;have ze:=zx.mk (zu (zD HB.out) hb);have zi:=zx.mk (qo);have zo:=zx.mk ((by rw [hg];exact (zm (zD HB.out)):w.heap.size ≤ Qs));have zT:=zx.mk ((by rw [hg];exact (zm (zD HB.out)):w.heap.size ≤ Qs));clear HB;have HB:=ze;have JZ:=zi;have zaa:=zo;have zkk:=zT;clear ze zi zo zT;clear hb qo hg));try go_wp2_with (first | ((with_reducible refine qQ (N:=1) rfl ?_);(try (refine xO (by rfl) ?_;dsimp only));refine qC ?hg (N:=1) ?hd (cs:=#[.slice qH yt.length qI]) (t:=24) ?hr ?_;(case hd=>rfl);(case hg=>rfl);(case hr=>first | (go_simp;done) | (go_simp;rfl));intro Qs hg w2 qo hb;have ze:=zx.mk (zu (zD HB.out) hb);have zi:=zx.mk (qo);have zo:=zx.mk ((by rw [hg];exact (zm (zD HB.out)):w.heap.size ≤ Qs));have zT:=zx.mk ((by rw [hg];exact (zm (zD HB.out)):w.heap.size ≤ Qs));clear HB;have HB:=ze;have JZ:=zi;have zaa:=zo;have zkk:=zT;clear ze zi zo zT;clear hb qo hg)))
 go_loopg [3,4] k (fun kq v3 v4 w'=>∃ (yQ:Int) (zJ:Int),v3 = .int .i64 yQ ∧ v4 = .int .i64 zJ ∧ zx (qZ.l0 kq yQ zJ yt = some r) ∧ zx (kq ≤ k) ∧ zx (w'.heap[Qs]? = some (.cells #[(.slice qH yt.length qI)] 24 (0,0))) ∧ zx (Below w.heap.size w w'))
 case atStart=>exact ⟨(0),(0),(by first | rfl | (simp;done) | (simp [*];done)),(by first | rfl | (simp;done) | (simp [*];done)),H',⟨Nat.le_refl _⟩,⟨qK JZ.out⟩,⟨zD HB.out⟩⟩
 case round =>
  clear H'
  obtain ⟨yQ,zJ,rfl,rfl,HA,wo,JZ,HB⟩:=hrel
  cases gk with
  | zero=>exact absurd HA.out (by simp [qZ.l0])
  | succ k1 =>
   have H:=HA.out
   clear HA
   simp only [qZ.l0] at H
   by_cases c3:zJ < (yt.length:Int)
   ·rw [if_pos c3] at H
    have ZN:decide (zJ < (yt.length:Int)) = true:=decide_eq_true c3
    clear c3
    by_cases c4:0 ≤ zJ
    ·rw [if_pos c4] at H
     have QX:decide (0 ≤ zJ) = true:=decide_eq_true c4
     clear c4
     have H':=zx.mk H
     clear H
     have ztK:wr.cell? ⟨Qs,0,none⟩ = some (.slice qH yt.length qI):=zK JZ 0
     have ztY:=zw JZ.out 0
     have zWW:0 ≤ (zJ:Int):=of_decide_eq_true yH
     have zWa:zJ < (yt.length:Int):=of_decide_eq_true yH
     obtain ⟨zab,ztW,zta,ztb,ztc,ztd,zte,e108,zvw,zvZ,zvQ,sj,sw,sZ,zXJ,zXV,zXK,zXY,zXW,zXa⟩:=jw X7.out zJ zWW zWa
     cases e108
     replace zvw:=(HB.out.cell (World.block_lt_of_cell? w _ zvw)).trans zvw
     replace zvZ:=(HB.out.cell (World.block_lt_of_cell? w _ zvZ)).trans zvZ
     replace zvQ:=(HB.out.cell (World.block_lt_of_cell? w _ zvQ)).trans zvQ
     replace sj:=(HB.out.cell (World.block_lt_of_cell? w _ sj)).trans sj
     replace sw:=(HB.out.cell (World.block_lt_of_cell? w _ sw)).trans sw
     replace sZ:=(HB.out.cell (World.block_lt_of_cell? w _ sZ)).trans sZ
     have znN:=zx.mk zXV
     have znO:=zx.mk zXJ
     clear zXV zXJ
     have znP:=zx.mk zXY
     have znR:=zx.mk zXK
     clear zXY zXK
     have znS:=zx.mk zXa
     have znT:=zx.mk zXW
     clear zXa zXW
     replace zWW:=eq_true zWW
     replace zWa:=eq_true zWa
     have zWb:0 ≤ (zJ:Int):=of_decide_eq_true yH
     have zWc:zJ < (yt.length:Int):=of_decide_eq_true yH
     obtain ⟨zhW,ztf,ztg,zth,zti,ztl,ztm,e109,zvX,zvJ,zvV,oH,oI,oL,zXb,zXc,zXd,zXe,zXf,zXg⟩:=jw X7.out zJ zWb zWc
     obtain rfl:zab = zhW:=(by injection e109)
     replace zvX:=(HB.out.cell (World.block_lt_of_cell? w _ zvX)).trans zvX
     replace zvJ:=(HB.out.cell (World.block_lt_of_cell? w _ zvJ)).trans zvJ
     replace zvV:=(HB.out.cell (World.block_lt_of_cell? w _ zvV)).trans zvV
     replace oH:=(HB.out.cell (World.block_lt_of_cell? w _ oH)).trans oH
     replace oI:=(HB.out.cell (World.block_lt_of_cell? w _ oI)).trans oI
     replace oL:=(HB.out.cell (World.block_lt_of_cell? w _ oL)).trans oL
     have znU:=zx.mk zXc
     have zn0:=zx.mk zXb
     clear zXc zXb
     have zn1:=zx.mk zXe
     have zn2:=zx.mk zXd
     clear zXe zXd
     have zn3:=zx.mk zXg
     have zn4:=zx.mk zXf
     clear zXg zXf
     replace zWb:=eq_true zWb
     replace zWc:=eq_true zWc
     have yO:=Option.some.inj (sj.symm.trans oH)
     injection yO with yO vL vM
     subst yO
     subst vM
     clear vL
     have yO:=Option.some.inj (sw.symm.trans oI)
     injection yO with yO vL vM
     subst yO
     subst vM
     clear vL
     have yO:=Option.some.inj (sZ.symm.trans oL)
     injection yO with yO vL vM
     subst yO
     subst vM
     clear vL
     have zWd:0 ≤ (zJ:Int):=of_decide_eq_true yH
     have zWe:zJ < (yt.length:Int):=of_decide_eq_true yH
     obtain ⟨zha,ztn,zto,ztp,ztr,zts,ztt,zln,zvK,zvY,zvW,oM,oN,oO,zXh,zXi,zXl,zXm,zXn,zXo⟩:=jw X7.out zJ zWd zWe
     obtain rfl:zab = zha:=(by injection zln)
     replace zvK:=(HB.out.cell (World.block_lt_of_cell? w _ zvK)).trans zvK
     replace zvY:=(HB.out.cell (World.block_lt_of_cell? w _ zvY)).trans zvY
     replace zvW:=(HB.out.cell (World.block_lt_of_cell? w _ zvW)).trans zvW
     replace oM:=(HB.out.cell (World.block_lt_of_cell? w _ oM)).trans oM
     replace oN:=(HB.out.cell (World.block_lt_of_cell? w _ oN)).trans oN
     replace oO:=(HB.out.cell (World.block_lt_of_cell? w _ oO)).trans oO
     have zn5:=zx.mk zXi
     have zn6:=zx.mk zXh
     clear zXi zXh
     have zn7:=zx.mk zXm
     have zn8:=zx.mk zXl
     clear zXm zXl
     have zn9:=zx.mk zXo
     have zoz:=zx.mk zXn
     clear zXo zXn
     replace zWd:=eq_true zWd
     replace zWe:=eq_true zWe
     have yO:=Option.some.inj (sj.symm.trans oM)
     injection yO with yO vL vM
     subst yO
     subst vM
     clear vL
     have yO:=Option.some.inj (sw.symm.trans oN)
     injection yO with yO vL vM
     subst yO
     subst vM
     clear vL
     have yO:=Option.some.inj (sZ.symm.trans oO)
     injection yO with yO vL vM
     subst yO
     subst vM
     clear vL
     go_wp2
     repeat (go_quiet (fail);try go_wp2)
     go_roundg k1
     case measure=>have:=wo.out;omega
     case rel=>exact ⟨(wrap64 ((wrap64 ((wrap64 (yQ + (((zV yt zJ).f3).length:Int))) + (((zV yt zJ).f4).length:Int))) + (((zV yt zJ).f5).length:Int))),(wrap64 (zJ + 1)),(by first | rfl | (simp;done) | (simp [*];done)),(by first | rfl | (simp;done) | (simp [*];done)),H',⟨by have:=wo.out;omega⟩,⟨qK JZ.out⟩,⟨zD HB.out⟩⟩
    ·rw [if_neg c4] at H
     exact absurd H (by simp)
   ·rw [if_neg c3] at H
    have ZN:decide (zJ < (yt.length:Int)) = false:=decide_eq_false c3
    clear c3
    by_cases c6:yQ > 1200
    ·rw [if_pos c6] at H
     have kD:decide (1200 < yQ) = true:=decide_eq_true c6
     clear c6
     obtain rfl:=Option.some.inj H
     have zkm:wr.cell? ⟨Qs,0,none⟩ = some (.slice qH yt.length qI):=zK JZ 0
     have zkn:=zw JZ.out 0
     go_wp2
     repeat (go_quiet (fail);try go_wp2)
     go_ret
     exact ⟨by first | rfl | (simp [zH,zI] <;> rfl) | (simp [*,zH,zI] <;> rfl),by repeat (first | (with_reducible first | exact HB.out | apply yJ | apply zC | apply yY | refine qm ?_ zkk.out) | exact HB.out)⟩
    ·rw [if_neg c6] at H
     have kD:decide (1200 < yQ) = false:=decide_eq_false c6
     clear c6
     obtain rfl:=Option.some.inj H
     have zko:wr.cell? ⟨Qs,0,none⟩ = some (.slice qH yt.length qI):=zK JZ 0
     have zkp:=zw JZ.out 0
     go_wp2
     repeat (go_quiet (fail);try go_wp2)
     go_ret
     exact ⟨by first | rfl | (simp [zH,zI] <;> rfl) | (simp [*,zH,zI] <;> rfl),by repeat (first | (with_reducible first | exact HB.out | apply yJ | apply zC | apply yY | refine qm ?_ zkk.out) | exact HB.out)⟩
end Go.Proofs.YtggifbbiiickmaaGreatDoor.PX
namespace Go.Proofs.YtggifbbiiickmaaGreatDoor.PX
open Go.RowKit Go.Proofs.zk.za Go.Proofs.zk.zS Go.Proofs.zk.zR
attribute [local go_sem] qD qE xJ xV qc qd qF qG   -- for this text's walks alone
set_option linter.unusedVariables false
set_option linter.unusedSimpArgs false
def xY.f (yt:List (jd)):Option ((List (jd))):=(jh.f).bind fun Ws=>(if Ws.length + yt.length < 1353245080339 then (some (Ws ++ yt)) else (none))
set_option maxHeartbeats 8000000 in
set_option maxRecDepth 100000 in
theorem xY.calls (dO:Nat → Prop) (qH:Option Addr) (qI:Nat) (yt:List (jd)) (r:List (jd)) (w:World) (zhb:Kd.V kP 60 w w.heap.size (fun k_=>dO k_) (.slice qH yt.length qI) yt) (hG:GW w) (h:xY.f yt = some r) :
  Calls Tryz.prog 12 #[.agg #[.slice qH yt.length qI]] w fun e w'=>∃ Q8:Value,e = .returned (Q8) ∧ Kd.N kP 60 w' w.heap.size (fun k_=>(dO k_ ∨ w.heap.size ≤ k_)) Q8 r ∧ Below w.heap.size w w':=by
 have zeI:=Tryz.underlying24
 have HG:=zx.mk hG
 clear hG
 have XW:=zx.mk (show Kd.V kP 60 w w.heap.size (fun k_=>(dO k_ ∨ w.heap.size ≤ k_)) (.slice qH yt.length qI) yt from Kd.zVi zhb (fun k_ hk=>.inl hk))
 have HB:=zx.mk (Below.refl w.heap.size w)
 have H:((jh.f).bind fun Ws=>(if Ws.length + yt.length < 1353245080339 then (some (Ws ++ yt)) else (none))) = some r:=h
 clear h
 replace H:=Option.bind_eq_some_iff.mp H
 obtain ⟨Ws,A20,H⟩:=H
 replace H:(if Ws.length + yt.length < 1353245080339 then (some (Ws ++ yt)) else (none)) = some r:=H
 have A2:=zx.mk A20
 clear A20
 by_cases c3:Ws.length + yt.length < 1353245080339
 ·rw [if_pos c3] at H
  have zlo:=zx.mk c3
  clear c3
  obtain ⟨zlp,zqN⟩:∃ y_:List (jd),y_ = (Ws ++ yt):=⟨_,rfl⟩
  replace H:(some zlp) = some r:=by first | (rw [zqN];with_reducible exact H) | (have uh:=(Option.bind_some _ _).symm.trans H;rw [zqN];with_reducible exact uh) | (have uh:=(Option.bind_some _ _).symm.trans H;with_reducible exact uh) | with_reducible exact H | (rw [zqN];exact H) | exact H
  have zhc:=zx.mk zqN
  clear zqN
  obtain rfl:=Option.some.inj H
  go_enter Tryz.func12,Tryz.ntmps12
  try go_wp2_with (first | ((with_reducible refine qQ (N:=1) rfl ?_);refine qC ?hg (N:=1) ?hd (cs:=#[.slice qH yt.length qI]) (t:=24) ?hr ?_;(case hd=>rfl);(case hg=>rfl);(case hr=>first | (go_simp;done) | (go_simp;rfl));intro X8 hg w4 qo hb;have ze:=zx.mk (Kd.zaF (Kd.zKN (by (with_reducible repeat (first | apply Kd.zxV | apply Kd.zxK | apply Kd.zqe));exact XW.out) X8 (Nat.le_of_eq hg.symm)) hb);have zi:=zx.mk (zu (zD HB.out) hb);have zo:=zx.mk (qo);have zT:=zx.mk ((by rw [hg];exact (zm (zD HB.out)):w.heap.size ≤ X8));have qU:=zx.mk ((by rw [hg];exact (zm (zD HB.out)):w.heap.size ≤ X8));clear XW;clear HB;have XW:=ze;have HB:=zi;have ZM:=zo;have zuo:=zT;have zhd:=qU;clear ze zi zo zT qU;clear hb qo hg))
  have ze:=zx.mk (Kd.zqe XW.out)
  have zi:=zx.mk (y7 ZM.out)
  have zo:=zx.mk (yY HB.out)
  clear XW
  clear ZM
  clear HB
  have XW:=ze
  have ZM:=zi
  have HB:=zo
  clear ze zi zo
  refine Zq (n:=5) (S:=fun w'=>w'.cell? ⟨X8,0,none⟩ = some (.slice qH yt.length qI)) (ds:=[]) #[false,false,false,false,false] (by kernel_rfl) rfl rfl (zK ZM 0) (fun hHeld=>?_)
  generalize w4.drew = w5 at XW ZM HB hHeld ⊢
  refine vX (i:=1) (N:=some 4) (v:=?_) (a':=?_) #[false,true,false,false,false] rfl rfl (by kernel_rfl) (fun _ _ _ h=>h) (Or.inl ⟨by rfl,?_⟩) ?_ ?_
  rotate_left
  ·intro w'
   go_simp
   with_reducible rfl
  rotate_left
  ·simp only [Act.put,List.setIfInBounds_toArray,List.set_cons_zero,List.set_cons_succ,vv,vk]
   rfl
  refine Xi (i:=2) (N:=some 5) (v:=?_) (a':=?_) #[false,true,true,false,false] rfl rfl (by kernel_rfl) (fun _ _ _ h=>h) (Or.inl ⟨by rfl,?_⟩) hHeld ?_ ?_
  rotate_left
  ·intro w' s0
   go_simp
   with_reducible rfl
  rotate_left
  ·simp only [Act.put,List.setIfInBounds_toArray,List.set_cons_zero,List.set_cons_succ,vv,vk]
   rfl
  refine Xb (i:=0) (N:=some 3) #[true,true,true,false,false] rfl rfl (by kernel_rfl) (by decide) (fun K hK=>?_)
  refine tK Tryz.func19 (by kernel_rfl) rfl #[] (by rfl) rfl rfl (by (try simp only [List.map_toArray,List.map_cons,List.map_nil]);first | done | rfl | (simp only [List.length_drop,List.length_take];rfl)) ?_
  with_reducible refine (jh.calls  Ws _ ?yh A2.out).mono ?_
  (case yh=>exact GW.under HG.out (zD HB.out))
  rintro e w6 ⟨v127,rfl,ho0,hb⟩
  refine ⟨_,rfl,?_⟩
  have ze:=zx.mk (Kd.zKM (by (with_reducible repeat (first | apply Kd.zxV | apply Kd.zxK | apply Kd.zqe));exact XW.out) (Kd.jf ho0) hb)
  have zi:=zx.mk (Kd.wh (Kd.wL (ok':=fun k_=>(dO k_ ∨ w.heap.size ≤ k_) ∧ k_ ≠ X8) (Kd.S_N (Kd.Zm ho0)) (fun k_ vN=>⟨(.inr (Nat.le_trans (zm (zD HB.out)) vN.2.1)),(Kd.kC (g:=X8) (o:=.cells #[.slice qH yt.length qI] 24 (0,0)) (qK ZM.out) k_ vN.2.1)⟩)) (zm (zD HB.out)))
  have zo:=zx.mk (zM (g:=X8) (o:=.cells #[.slice qH yt.length qI] 24 (0,0)) (qK ZM.out) hb)
  have zT:=zx.mk (zu (zD HB.out) hb)
  clear XW
  clear ZM
  clear HB
  have XW:=ze
  have zJU:=zi
  have ZM:=zo
  have HB:=zT
  clear ze zi zo zT
  (try clear hb)
  (try clear hk)
  (try clear ho0)
  refine hK.out _ _ (zK ZM 0) (fun hHeld=>?_)
  clear hK K
  refine Xn (a':=?_) ?_ ?_
  rotate_left
  ·show Act.put _ (some 3) _ = _
   simp only [Act.put,List.setIfInBounds_toArray,List.set_cons_zero,List.set_cons_succ,vv,vk]
   rfl
  refine Xb (i:=3) (N:=some 6) #[true,true,true,true,false] rfl rfl (by kernel_rfl) (by decide) (fun K hK=>?_)
  refine Kd.fI kP (w0:=w) w.heap.size (by rfl) (.tmp 3) (.tmp 5) 22 60 (.agg #[(.string ⟨#[]⟩),(.bool false),(.int .i64 0),(.slice none 0 0),(.slice none 0 0),(.slice none 0 0)]) 104 rfl Tryz.underlying22 zdo rfl (by decide) (by omega) v127 Ws yt _ _ _ (fun k_=>(dO k_ ∨ w.heap.size ≤ k_) ∧ k_ ≠ X8) (fun k_=>((fun k_=>(dO k_ ∨ w.heap.size ≤ k_) ∧ k_ ≠ X8)) k_ ∧ some k_ ≠ (v127:Value).ownBlock) rfl rfl ?aO ?aR (fun _ hk=>hk) ?aF ?aB ?aS ?aL ?_
  (case aR=>exact (by skip;exact Kd.V_F (Kd.zVi (ok':=(fun k_=>((fun k_=>(dO k_ ∨ w.heap.size ≤ k_) ∧ k_ ≠ X8)) k_ ∧ some k_ ≠ (v127:Value).ownBlock)) (XW.out) (fun k_ hk=>⟨⟨hk.1.1,hk.1.2⟩,hk.2⟩))))
  (case aB=>exact (zD HB.out))
  (case aF=>exact (fun k_ hk=>⟨(.inr (Nat.le_trans (zm (zD HB.out)) hk)),Kd.kC (g:=X8) (o:=.cells #[.slice qH yt.length qI] 24 (0,0)) (qK ZM.out) k_ hk⟩))
  (case aO=>exact (by (with_reducible repeat (first | apply Kd.zxQ | apply Kd.zxX | apply Kd.zke));exact zJU.out))
  (case aS=>exact (zm (zD HB.out)))
  (case aL=>have:=zlo.out;omega)
  intro v130 w7 ho hb hg hat
  rw [← zhc.out] at ho
  have ze:=zx.mk (Kd.zKL (ok:=(fun k_=>(dO k_ ∨ w.heap.size ≤ k_) ∧ k_ ≠ X8)) (by (with_reducible repeat (first | apply Kd.zxV | apply Kd.zxK | apply Kd.zqe));exact XW.out) hg hat)
  have zi:=zx.mk (uK (g:=X8) (o:=.cells #[.slice qH yt.length qI] 24 (0,0)) (qK ZM.out) hg (Kd.zh1 zJU.out ZM.out (by decide)))
  have zo:=zx.mk (hb)
  have zT:=zx.mk (ho)
  clear XW
  clear ZM
  clear HB
  clear zJU
  have XW:=ze
  have ZM:=zi
  have HB:=zo
  have zhe:=zT
  clear ze zi zo zT
  clear ho hb hg hat
  refine hK.out _ _ (zK ZM 0) (fun hHeld=>?_)
  clear hK K
  refine Xn (a':=?_) ?_ ?_
  rotate_left
  ·show Act.put _ (some 6) _ = _
   simp only [Act.put,List.setIfInBounds_toArray,List.set_cons_zero,List.set_cons_succ,vv,vk]
   rfl
  refine vX (i:=4) (N:=some 2) (v:=?_) (a':=?_) #[true,true,true,true,true] rfl rfl (by kernel_rfl) (fun _ _ _ h=>h) (Or.inl ⟨by rfl,?_⟩) ?_ ?_
  rotate_left
  ·intro w'
   go_simp
   with_reducible rfl
  rotate_left
  ·simp only [Act.put,List.setIfInBounds_toArray,List.set_cons_zero,List.set_cons_succ,vv,vk]
   rfl
  refine xE (by kernel_rfl) ?_
  try go_wp2
  go_ret
  exact ⟨_,by first | rfl | (simp [zH,zI] <;> rfl) | (simp [*,zH,zI] <;> rfl),by (with_reducible repeat (first | apply Kd.zxQ | apply Kd.zxX | apply Kd.zke));exact Kd.wL zhe.out (fun _ hk=>hk.1),by repeat (first | (with_reducible first | exact HB.out | apply yJ | apply zC | apply yY | refine qm ?_ zhd.out) | exact HB.out)⟩
 ·rw [if_neg c3] at H
  exact absurd H (by simp)
end Go.Proofs.YtggifbbiiickmaaGreatDoor.PX
namespace Go.Proofs.YtggifbbiiickmaaGreatDoor
open Go.RowKit Go.Proofs.zk.za Go.Proofs.zk.zS Go.Proofs.zk.zR Go.Proofs.YtggifbbiiickmaaGreatDoor.PX
set_option linter.unusedSimpArgs false
set_option linter.unusedVariables false
theorem zKf (b:jR) (hl:b.f6.length ≤ 1000000000):∀ d i,i + d = b.f6.length → Ev (fun k=>zP.l0 k (i:Int) b.f0 b.f1 b.f2 b.f3 b.f4 b.f5 b.f6 b.f0 b.f1 b.f2 b.f3 b.f4 b.f5 b.f6) true:=by
 intro d
 induction d with
 | zero=>intro i h;exact Ev.step (fun k=>by rw [zP.l0]) (vw (by omega) (Ev.now _))
 | succ d ih =>
  intro i h
  have hw:wrap64 ((i:Int) + 1) = ((i + 1:Nat):Int):=(jA (by omega) (by omega)).trans (by omega)
  have q1:(i:Int) < (b.f6.length:Int):=by omega
  have q2:(0:Int) ≤ (i:Int):=by omega
  have hr:=ih (i + 1) (by omega)
  exact Ev.step (fun k=>by rw [zP.l0,hw]) (yB q1 (yB q2 (yB q1 (yB rfl hr))))
theorem zyo (b:jR) (hl:b.f6.length ≤ 1000000000):Ev (fun k=>zP.f k b.f0 b.f1 b.f2 b.f3 b.f4 b.f5 b.f6 b.f0 b.f1 b.f2 b.f3 b.f4 b.f5 b.f6) true:=by
 have h:Ev (fun k=>zP.l0 k 0 b.f0 b.f1 b.f2 b.f3 b.f4 b.f5 b.f6 b.f0 b.f1 b.f2 b.f3 b.f4 b.f5 b.f6) true:=zKf b hl b.f6.length 0 (by omega)
 have e:((b.f6.length:Int) != (b.f6.length:Int)) = false:=by simp
 have h0:Ev (fun k=>zP.j0 k false b.f0 b.f1 b.f2 b.f3 b.f4 b.f5 b.f6 b.f0 b.f1 b.f2 b.f3 b.f4 b.f5 b.f6) true :=
  Ev.step (fun k=>by rw [zP.j0]) (vw Bool.false_ne_true h)
 exact Ev.congr (fun k=>by rw [zP.f,e]) (yB rfl (yB rfl (yB rfl (yB rfl (yB rfl (yB rfl h0))))))
theorem zeL (l:List jR) (hl:l.length ≤ 1000000000) (hb:∀ b ∈ l,b.f6.length ≤ 1000000000):∀ d i,i + d = l.length → Ev (fun k=>yK.l0 k l l (i:Int)) true:=by
 intro d
 induction d with
 | zero=>intro i h;exact Ev.step (fun k=>by rw [yK.l0]) (vw (by omega) (Ev.now _))
 | succ d ih =>
  intro i h
  have hi:i < l.length:=by omega
  have hw:wrap64 ((i:Int) + 1) = ((i + 1:Nat):Int):=(jA (by omega) (by omega)).trans (by omega)
  have q1:(i:Int) < (l.length:Int):=by omega
  have q2:(0:Int) ≤ (i:Int):=by omega
  have hr:=ih (i + 1) (by omega)
  have hd:=rdB l i _ (List.getElem?_eq_getElem hi)
  have hs:=zyo l[i] (hb _ (List.getElem_mem hi))
  exact Ev.step (fun k=>by rw [yK.l0,hw,hd]) (yB q1 (yB q2 (yB q1 (Ev.bind hs (yB rfl hr)))))
theorem iP (l:List jR) (hl:l.length ≤ 1000000000) (hb:∀ b ∈ l,b.f6.length ≤ 1000000000):Ev (fun k=>yK.f k l l) true :=
 Ev.congr (fun k=>by rw [yK.f];rfl) (yB rfl (zeL l hl hb l.length 0 (by omega)))
def okM (x:y8):Prop:=x.f3.length ≤ 140737488355328 ∧ x.f4.length ≤ 140737488355328 ∧ x.f5.length ≤ 140737488355328
theorem zlr (n a b c:Int) (h0:0 ≤ n) (h1:n ≤ 4222124650659840) (ha:0 ≤ a) (ha1:a ≤ 140737488355328) (hb:0 ≤ b) (hb1:b ≤ 140737488355328) (hc:0 ≤ c) (hc1:c ≤ 140737488355328):wrap64 (wrap64 (wrap64 (n + a) + b) + c) = n + a + b + c:=by
 rw [jA (x:=n + a) (by omega) (by omega),jA (x:=n + a + b) (by omega) (by omega),jA (by omega) (by omega)]
theorem zcC (l:List y8) (hl:l.length ≤ 2000000000000) (hM:∀ x ∈ l,okM x):∀ d i n,i + d = l.length →
  ∃ b,Ev (fun k=>qZ.l0 k n (i:Int) l) b ∧ (b = false → l.length ≤ 10 ∧ (0 ≤ n → n ≤ (i:Int) * 422212465065984 → (∀ x ∈ l.drop i,x.f3.length ≤ 1200 ∧ x.f4.length ≤ 1200 ∧ x.f5.length ≤ 1200) ∧ n ≤ 1200)):=by
 intro d
 induction d with
 | zero =>
  intro i n h
  by_cases hn:n > 1200
  ·exact ⟨true,Ev.step (fun k=>by rw [qZ.l0]) (vw (by omega) (yB hn (Ev.now _))),fun h=>by cases h⟩
  ·refine ⟨decide ((l.length:Int) > 10),Ev.step (fun k=>by rw [qZ.l0]) (vw (by omega) (vw hn (Ev.now _))),fun hd=>⟨?_,fun _ _=>⟨fun x hx=>?_,by omega⟩⟩⟩
   ·have:=of_decide_eq_false hd;omega
   ·rw [List.drop_eq_nil_of_le (by omega)] at hx;cases hx
 | succ d ih =>
  intro i n h
  have hi:i < l.length:=by omega
  have hw:wrap64 ((i:Int) + 1) = ((i + 1:Nat):Int):=(jA (by omega) (by omega)).trans (by omega)
  have q1:(i:Int) < (l.length:Int):=by omega
  have q2:(0:Int) ≤ (i:Int):=by omega
  have hd:zV l (i:Int) = l[i]:=by simp [zV,List.getD_eq_getElem?_getD,hi]
  obtain ⟨m1,m2,m3⟩:=hM _ (List.getElem_mem hi)
  have hdr:l.drop i = l[i] :: l.drop (i + 1):=List.drop_eq_getElem_cons hi
  generalize l[i] = x at hd m1 m2 m3 hdr
  obtain ⟨b,hb,hf⟩:=ih (i + 1) (wrap64 (wrap64 (wrap64 (n + (x.f3.length:Int)) + (x.f4.length:Int)) + (x.f5.length:Int))) (by omega)
  refine ⟨b,Ev.step (fun k=>by rw [qZ.l0,hw,hd]) (yB q1 (yB q2 hb)),fun hbf=>?_⟩
  obtain ⟨h1,h2⟩:=hf hbf
  refine ⟨h1,fun n0 n1=>?_⟩
  rw [zlr n _ _ _ n0 (by omega) (by omega) (by omega) (by omega) (by omega) (by omega) (by omega)] at h2
  obtain ⟨g1,g2⟩:=h2 (by omega) (by omega)
  refine ⟨fun y hy=>?_,by omega⟩
  rw [hdr] at hy
  rcases List.mem_cons.1 hy with rfl | hy
  ·omega
  ·exact g1 y hy
theorem zWf (l:List y8) (hl:l.length ≤ 2000000000000) (hM:∀ x ∈ l,okM x):∃ b,Ev (fun k=>qZ.f k l) b ∧ (b = false → l.length ≤ 10 ∧ ∀ x ∈ l,x.f3.length ≤ 1200 ∧ x.f4.length ≤ 1200 ∧ x.f5.length ≤ 1200):=by
 obtain ⟨b,h1,h2⟩:=zcC l hl hM l.length 0 0 (by omega)
 refine ⟨b,Ev.congr (fun k=>by rw [qZ.f];rfl) h1,fun h=>?_⟩
 obtain ⟨g1,g2⟩:=h2 h
 have:=(g2 (Int.le_refl _) (by omega)).1
 rw [List.drop_zero] at this
 exact ⟨g1,this⟩
theorem zhf (l:List y8) (hl:l.length ≤ 1000):xY.f l = some (ZH ++ l):=by
 unfold xY.f
 show (some ZH).bind _ = _
 rw [Option.bind_some,if_pos (by rw [zZO];omega)]
end Go.Proofs.YtggifbbiiickmaaGreatDoor
namespace Go.Proofs.YtggifbbiiickmaaGreatDoor
open Go.RowKit Go.Proofs.zk.za Go.Proofs.zk.zS Go.Proofs.zk.zR Go.Proofs.YtggifbbiiickmaaGreatDoor.PX
set_option linter.unusedSimpArgs false
set_option linter.unusedVariables false
end Go.Proofs.YtggifbbiiickmaaGreatDoor
namespace Go.Proofs.YtggifbbiiickmaaGreatDoor.PX
open Go.RowKit Go.Proofs.zk.za Go.Proofs.zk.zS Go.Proofs.zk.zR
attribute [local go_sem] qD qE xJ xV qc qd qF qG   -- for this text's walks alone
set_option linter.unusedVariables false
set_option linter.unusedSimpArgs false
end Go.Proofs.YtggifbbiiickmaaGreatDoor.PX
namespace Go.Proofs.YtggifbbiiickmaaGreatDoor.PX
open Go.RowKit Go.Proofs.zk.za Go.Proofs.zk.zS Go.Proofs.zk.zR
attribute [local go_sem] qD qE xJ xV qc qd qF qG   -- for this text's walks alone
set_option linter.unusedVariables false
set_option linter.unusedSimpArgs false
end Go.Proofs.YtggifbbiiickmaaGreatDoor.PX
namespace Go.Proofs.YtggifbbiiickmaaGreatDoor
open Go.RowKit Go.Proofs.zk.za Go.Proofs.zk.zS Go.Proofs.zk.zR Go.Proofs.YtggifbbiiickmaaGreatDoor.PX
set_option linter.unusedSimpArgs false
set_option linter.unusedVariables false
theorem zKg:ZH.all (fun x=>decide (x.f0.size ≤ 100) && x.f3.all (fun y=>decide (y.f0.size ≤ 100))) = true:=by decide +kernel
theorem zWg:∀ x ∈ ZH,Jk x:=fun x hx=>by
 have h:=List.all_eq_true.1 zKg x hx
 have g:=List.all_eq_true.1 zcj x hx
 simp only [Bool.and_eq_true,decide_eq_true_eq,List.all_eq_true] at h
 unfold okF at g
 have g:=of_decide_eq_true g
 exact ⟨g.1,g.2.1,g.2.2,by omega,fun y hy=>by have:=h.2 y hy;omega⟩
end Go.Proofs.YtggifbbiiickmaaGreatDoor
namespace Go.Proofs.YtggifbbiiickmaaGreatDoor
open Go.RowKit Go.Proofs.zk.za Go.Proofs.zk.zS Go.Proofs.zk.zR Go.Proofs.YtggifbbiiickmaaGreatDoor.PX
set_option linter.unusedSimpArgs false
set_option linter.unusedVariables false
def kFl (w0:World):Kd (qV × Bool) where
 sz:=7
 E:=uj.E
 K:=fun w x cs=>(x.2 = true → uj.K w x.1 cs) ∧ (x.2 = false → uj.K w0 x.1 cs)
 M:=fun w base ok x cs=>(x.2 = true → uj.M w base ok x.1 cs) ∧ (x.2 = false → uj.K w0 x.1 cs)
 kK:=fun {w x cs} h=>by
  cases hx:x.2 with
  | true=>exact uj.kK (h.1 hx)
  | false=>exact uj.kK (h.2 hx)
 jB:=fun {w x cs} h=>by
  cases hx:x.2 with
  | true=>exact uj.jB (h.1 hx)
  | false=>exact uj.jB (h.2 hx)
 ko:=fun hb h=>⟨fun hx=>uj.ko hb (h.1 hx),h.2⟩
 vP:=fun h=>⟨fun hx=>uj.vP (h.1 hx),h.2⟩
 xU:=fun hok h=>⟨fun hx=>uj.xU hok (h.1 hx),h.2⟩
 uL:=fun h=>⟨fun hx=>uj.uL (h.1 hx),h.2⟩
 je:=fun hm h=>⟨fun hx=>uj.je hm (h.1 hx),h.2⟩
 kr:=fun hb h=>⟨fun hx=>uj.kr hb (h.1 hx),h.2⟩
def dP (l:List qV) (k:Nat):List (qV × Bool):=(l.take k).map (·,true) ++ (l.drop k).map (·,false)
theorem zva (l:List qV) (k:Nat):(dP l k).length = l.length:=by
 unfold dP
 simp only [List.length_append,List.length_map,List.length_take,List.length_drop]
 omega
theorem zWh (l:List qV):dP l 0 = l.map (·,false):=by simp [dP]
theorem zcD (l:List qV):dP l l.length = l.map (·,true):=by simp [dP]
theorem zcE (l:List qV) (k:Nat) (h:k < l.length) (z:qV × Bool):(dP l k).getD k z = (l[k],false):=by
 unfold dP
 rw [List.getD_eq_getElem?_getD,List.getElem?_append_right (by simp;omega),List.drop_eq_getElem_cons h]
 have e:k - ((l.take k).map (fun x=>(x,true))).length = 0:=by simp;omega
 rw [e];rfl
theorem zcF (l:List qV) (k:Nat) (h:k < l.length):(dP l k).set k (l[k],true) = dP l (k + 1):=by
 unfold dP
 have e:k - ((l.take k).map (fun x=>(x,true))).length = 0:=by simp;omega
 rw [List.set_append_right _ _ (by simp;omega),e,List.drop_eq_getElem_cons h,List.map_cons,List.set_cons_zero,List.take_succ_eq_append_getElem h,List.map_append,List.append_assoc]
 rfl
theorem zeM {w0 W:World} {base:Nat} {ok:Nat → Prop} {v:Value} {l:List qV} (h:(kFl w0).S 53 W base ok v (l.map (·,true))):uj.S 53 W base ok v l:=by
 obtain ⟨f,h0,inner,ho,hr⟩:=h
 rw [List.length_zipIdx,List.length_map] at ho
 have hl:=hr.1
 rw [List.length_zipIdx,List.length_map] at hl
 refine ⟨f,h0,inner,by rw [List.length_zipIdx];exact ho,by rw [List.length_zipIdx];exact hl,fun j p hj=>?_⟩
 have hj2:((l.map (·,true)).zipIdx)[j]? = some ((p.1,true),p.2):=by
  rw [List.getElem?_zipIdx] at hj ⊢
  rw [List.getElem?_map]
  obtain ⟨q,hq,e⟩:=Option.map_eq_some_iff.1 hj
  rw [hq,← e];rfl
 exact (hr.2 j _ hj2).1 rfl
theorem zeN {w W:World} {A:Option Addr} {n:Nat} {l:List qV} (h:Kd.C uj w A n l) (hb:Below w.heap.size w W):uE (fun (y:qV × Bool) cs=>y.2 = false ∧ uj.K w y.1 cs) 7 W A n (l.map (·,false)):=by
 obtain ⟨h1,h2,h3⟩:=h
 refine ⟨by simpa using h1,h2,fun hp=>?_⟩
 obtain ⟨ad,e,hc⟩:=h3 hp
 refine ⟨ad,e,fun j p hj=>?_⟩
 rw [List.getElem?_map] at hj
 obtain ⟨x,hx,rfl⟩:=Option.map_eq_some_iff.1 hj
 obtain ⟨c,hl,hK,hcc⟩:=hc j x hx
 exact ⟨c,hl,⟨rfl,hK⟩,fun i u hu=>(hb.cell (World.block_lt_of_cell? w _ (hcc i u hu))).trans (hcc i u hu)⟩
theorem zXp {α:Type} (d:Kd α) {e:TypeId} {W:World} {base H:Nat} {ok:Nat → Prop} (hb:base ≤ H) (ho:ok H) (h:W.heap[H]? = some (.cells #[] e (0,0))):d.R e W base ok (.slice (some ⟨H,0,none⟩) 0 0) []:=by
 refine ⟨fun k hk=>?_,[],⟨by simp,.inr ⟨H,0,#[],rfl,hb,h,Nat.le_refl _,Nat.zero_le _,by simp,by simp⟩⟩,qY.none _ _⟩
 have:H = k:=by simpa [Value.ownBlock] using hk
 exact this ▸ ho
theorem zKh {α:Type} {d:Kd α} {w:World} {n:Nat} {l:List α} (h:d.C w none n l):l = []:=by
 obtain ⟨h1,_,h3⟩:=h
 rcases Nat.eq_zero_or_pos n with h0 | h0
 ·exact List.eq_nil_of_length_eq_zero (by omega)
 ·obtain ⟨ad,e,_⟩:=h3 h0;cases e
theorem zvU (w:World) (o:Obj):(w.alloc o).heap[w.heap.size]? = some o:=uo w o
set_option maxRecDepth 100000 in
set_option maxHeartbeats 4000000 in
theorem zJ0 (A:Option Addr) (c:Nat) (l:List Int) (w:World) (hr:Kd.C (Kd.int .i64) w A l.length l) (hl:l.length ≤ 1000000000) :
  Calls Tryz.prog 121 #[.slice A l.length c] w fun e w'=>∃ v,e = .returned v ∧ Kd.R (Kd.int .i64) 3 w' w.heap.size (fun k=>w.heap.size ≤ k) v l ∧ Below w.heap.size w w':=by
 have q2:∀ (w:World) (a:Option Addr) (n c n' c':Nat),(binOp .eql 51 (.slice a n c) (.slice none n' c')).run Tryz.prog w = .ok (.bool a.isNone) w:=fun w a n c n' c'=>Lib.run_eql_slice_nil w _ _ a n c n' c' Tryz.underlying51
 cases A with
 | none =>
  obtain rfl:=zKh hr
  clear hr hl
  go_enter Tryz.func121,Tryz.ntmps121
  go_wp2
  go_ret
  exact ⟨_,rfl,Kd.jC _ _ _ _ _,Below.refl _ _⟩
 | some ad =>
  have HR:=zx.mk hr
  clear hr
  go_enter Tryz.func121,Tryz.ntmps121
  go_wp2_with ((with_reducible refine jG (b:=.append) (xs:=#[.tmp 5,.tmp 6]) rfl ?_);at_builtin;refine Kd.YE (Kd.int .i64) (w0:=w) (Rr:=(Kd.int .i64).K w) w.heap.size rfl (.tmp 5) (.tmp 6) 51 3 (.int .i64 0) 8 rfl Tryz.underlying51 info3 rfl (by decide) (by decide) (.slice (some ⟨w.heap.size,0,none⟩) 0 0) [] l (some ad) l.length c (fun k=>w.heap.size ≤ k) (fun _=>False) rfl rfl ?aO ?aR ?aK (fun _ hk=>hk.elim) ?aF ?aB ?aS ?aL ?_;(case aO=>exact zXp _ (Nat.le_refl _) (Nat.le_refl _) (zvU _ _));(case aR=>exact uE.Yn HR.out ((Below.refl _ _).alloc (Nat.le_refl _) _) (fun _ _ h=>h));(case aK=>exact fun _ _ h=>h);(case aF=>intro k hk;simp at hk;omega);(case aB=>exact (Below.refl _ _).alloc (Nat.le_refl _) _);(case aS=>simp);(case aL=>simp;omega);intro v1 w1 ho hbw hg hat;have HO:=zx.mk ho;have HB:=zx.mk hbw;clear ho hbw hg hat)
  go_ret
  exact ⟨_,rfl,HO.out,HB.out⟩
set_option maxRecDepth 100000 in
set_option maxHeartbeats 4000000 in
theorem zJ1 (A:Option Addr) (c:Nat) (l:List qV) (w:World) (hr:Kd.C uj w A l.length l) (hl:l.length ≤ 1000000) :
  Calls Tryz.prog 120 #[.slice A l.length c] w fun e w'=>∃ v,e = .returned v ∧ (kFl w).S 53 w' w.heap.size (fun k=>w.heap.size ≤ k) v (dP l 0) ∧ Below w.heap.size w w':=by
 have q2:∀ (w:World) (a:Option Addr) (n c n' c':Nat),(binOp .eql 34 (.slice a n c) (.slice none n' c')).run Tryz.prog w = .ok (.bool a.isNone) w:=fun w a n c n' c'=>Lib.run_eql_slice_nil w _ _ a n c n' c' Tryz.underlying34
 cases A with
 | none =>
  obtain rfl:=zKh hr
  clear hr hl
  go_enter Tryz.func120,Tryz.ntmps120
  go_wp2
  go_ret
  exact ⟨_,rfl,Kd.Xo _ _ _ _ _,Below.refl _ _⟩
 | some ad =>
  have HR:=zx.mk hr
  clear hr
  rw [zWh]
  go_enter Tryz.func120,Tryz.ntmps120
  go_wp2_with ((with_reducible refine jG (b:=.append) (xs:=#[.tmp 5,.tmp 6]) rfl ?_);at_builtin;(refine Kd.YE (Kd.bare (kFl w)) (w0:=w) (Rr:=fun (y:qV × Bool) cs=>y.2 = false ∧ uj.K w y.1 cs) w.heap.size rfl (.tmp 5) (.tmp 6) 34 53 (.agg #[.int .i64 0,.int .i64 0,.int .i64 0,.int .i64 0,.string ⟨#[]⟩,.string ⟨#[]⟩,.slice none 0 0]) 88 rfl Tryz.underlying34 gL rfl (Nat.zero_lt_succ 6) (by decide) (.slice (some ⟨w.heap.size,0,none⟩) 0 0) [] (l.map (·,false)) (some ad) l.length c (fun k=>w.heap.size ≤ k) (fun _=>False) rfl rfl ?aO ?aR ?aK (fun _ hk=>hk.elim) ?aF ?aB ?aS ?aL ?_;(case aO=>exact zXp _ (Nat.le_refl _) (Nat.le_refl _) (zvU _ _));(case aR=>exact zeN HR.out ((Below.refl _ _).alloc (Nat.le_refl _) _));(case aK=>exact fun x cs h=>⟨(fun e=>by rw [h.1] at e;cases e),fun _=>h.2⟩);(case aF=>intro k hk;simp at hk;omega);(case aB=>exact (Below.refl _ _).alloc (Nat.le_refl _) _);(case aS=>simp);(case aL=>simp;omega);intro v1 w1 ho hbw hg hat;have HO:=zx.mk ho;have HB:=zx.mk hbw;clear ho hbw hg hat))
  go_ret
  exact ⟨_,rfl,Kd.zVW HO.out,HB.out⟩
theorem zhg:(Tryz.prog.info? 51).map (·.size) = some 1:=by kernel_rfl
set_option maxRecDepth 100000 in
set_option maxHeartbeats 8000000 in
theorem zcG (A:Option Addr) (c:Nat) (l:List qV) (w:World) (hr:Kd.C uj w A l.length l) (hl:l.length ≤ 1000000) (hz:∀ b ∈ l,b.f6.length ≤ 1000000000) :
  Calls Tryz.prog 66 #[.slice A l.length c] w fun e w'=>∃ v,e = .returned v ∧ uj.S 53 w' w.heap.size (fun k=>w.heap.size ≤ k) v l ∧ Below w.heap.size w w':=by
 have zKi:=zJ1 A c l w hr hl
 have HZ:=zx.mk hz
 clear hr hz
 go_enter Tryz.func66,Tryz.ntmps66
 go_wp2_with fail
 refine zKi.mono ?_;rintro e w1 ⟨v,rfl,hN,hb⟩
 obtain ⟨Ao,co,rfl⟩:=Kd.Q5 hN
 rw [zva] at hN ⊢
 have HN:=zx.mk hN
 have HB:=zx.mk hb
 clear hN hb zKi
 go_wp2_with fail
 go_loopw [9] (fun i W=>∃ k:Nat,k ≤ l.length ∧ i = .int .i64 (k:Int) ∧ zx ((kFl w).S 53 W w.heap.size (fun k=>w.heap.size ≤ k) (.slice Ao l.length co) (dP l k)) ∧ zx (Below w.heap.size w W)) (fun i _=>l.length - (intOf i).toNat)
 case atStart=>exact ⟨0,Nat.zero_le _,rfl,HN,HB⟩
 case round =>
  obtain ⟨k,hk,rfl,HI,HW⟩:=hrel
  by_cases hlt:k < l.length
  ·have hform:=Kd.zVa HI.out (by rw [zva];omega)
   rw [zva] at hform
   obtain ⟨g,cap,e,hg,hgl,_⟩:=hform
   injection e with e1 e3 e2
   subst e1 e2
   obtain ⟨jL,cs,hcl,hK,hcc,zyp,hH⟩:=Kd.zqa HI.out (z53,false) (k:Int) (by omega) (by omega)
   have hfr:=(Kd.zdm hH (by omega) (by omega)).2
   rw [Int.toNat_natCast,zcE l k hlt] at hK
   obtain ⟨A6,c6,rfl,l6,g6⟩:=zkf (hK.2 rfl)
   have hx6:wr.cell? ⟨g,k * 7 + 6,none⟩ = some (.slice A6 l[k].f6.length c6):=by
    have h:=hcc 6 _ rfl
    rw [Int.toNat_natCast] at h
    exact h
   have zeO:=HZ.out _ (List.getElem_mem hlt)
   have hcall:=zJ0 A6 c6 l[k].f6 wr (Kd.zh g6 HW.out) zeO
   have HCC:=zx.mk hcc
   have HCL:=zx.mk hcl
   have HFR:=zx.mk hfr
   have HH:=zx.mk (Kd.zao hH)
   generalize hxk:l[k] = x at hx6 hcall HCC HCL HH
   have HX:=Lib.hid hxk
   clear hK g6 hcc hcl hfr l6 zeO hxk hH zyp
   try clear e3
   go_wp2_with fail
   refine hcall.mono ?_;rintro e w2 ⟨v6,rfl,hR6,hb2⟩
   have HB2:=zx.mk hb2
   have HR6:=zx.mk hR6
   have hz6:w2.cell? ⟨g,k * 7 + 6,none⟩ = some (.slice A6 x.f6.length c6):=(hb2.cell (p:=⟨g,k * 7 + 6,none⟩) hgl).trans hx6
   have hf6:w2.frozen? ⟨g,k * 7 + 6,none⟩ = false:=(hb2.frozen (p:=⟨g,k * 7 + 6,none⟩) hgl).trans (by have h:=HFR.out 6;rw [Int.toNat_natCast] at h;exact h)
   clear hb2 hR6 hcall hx6
   go_wp2_with ((with_reducible refine zfa (.store 51 (.tmp 21) (.tmp 19)) rfl ?_);(refine Kd.zas (kFl w) (w0:=w) w.heap.size rfl rfl 51 (.tmp 21) (.tmp 19) rfl 53 (g:=g) (n:=l.length) (cap:=co) (o':=k * 7 + 6) (k:Int) 6 (dP l k) (x,true) v6 [v6] [.int .i64 x.f0,.int .i64 x.f1,.int .i64 x.f2,.int .i64 x.f3,.string x.f4,.string x.f5,.slice A6 x.f6.length c6] (fun k=>w.heap.size ≤ k) (fun k=>jL k ∨ w.heap.size ≤ k ∧ wr.heap.size ≤ k) (fun k=>wr.heap.size ≤ k) rfl ?aO rfl ?aV zhg ?a1 ?aN (by omega) (by omega) (Nat.le_refl 7) ?aM ?aP ?aB ?_;(case aO=>rw [Int.toNat_natCast];rfl);(case aV=>exact (Kd.zWH HR6.out).1);(case a1=>intro q hq;rw [List.mem_singleton] at hq;rw [hq];exact (Kd.zWH HR6.out).2);(case aN=>exact Kd.zar HH.out HB2.out);(case aM=>exact ⟨fun _=>Q6 _ _ _ x (Kd.uT HR6.out HW.out.size),fun h=>by cases h⟩);(case aP=>intro b hb;have:=HW.out.size;exact .inr ⟨by omega,hb⟩);(case aB=>exact HW.out.trans (HB2.out.mono HW.out.size));intro w3 ho hbw hg3;rw [Int.toNat_natCast,← HX.out,zcF l k hlt] at ho;have HO:=zx.mk ho;have HB3:=zx.mk hbw;clear ho hbw hg3 hz6 hf6))
   go_roundw
   case rel=>exact ⟨k + 1,by omega,by first | rfl | go_num,HO,HB3⟩
   case measure=>simp [intOf];omega
  ·obtain rfl:k = l.length:=by omega
   go_wp2
   go_ret
   exact ⟨_,rfl,zeM (by rw [← zcD];exact HI.out),HW.out⟩
end Go.Proofs.YtggifbbiiickmaaGreatDoor
namespace Go.Proofs.YtggifbbiiickmaaGreatDoor
open Go.RowKit Go.Shelf Go.Proofs.zk.za Go.Proofs.zk.zS Go.Proofs.zk.zR Go.Proofs.YtggifbbiiickmaaGreatDoor.PX
set_option linter.unusedSimpArgs false
set_option linter.unusedVariables false
set_option maxRecDepth 100000 in
theorem zzb (x:y8) (A3:Option Addr) (c3:Nat) (A4:Option Addr) (c4:Nat) (A5:Option Addr) (c5:Nat) (W:World) (hG:GW W) (hz:x.f3.length ≤ 1000000000 ∧ x.f4.length ≤ 1000000000 ∧ x.f5.length ≤ 1000000000)
  (q3:Kd.C vO W A3 x.f3.length x.f3) (g3:x.f3.length ≤ c3) (q4:Kd.C jX W A4 x.f4.length x.f4) (g4:x.f4.length ≤ c4) (q5:Kd.C jg W A5 x.f5.length x.f5) (g5:x.f5.length ≤ c5) :
  Calls Tryz.prog 65 #[.agg #[.string x.f0,.bool x.f1,.int .i64 x.f2,.slice A3 x.f3.length c3,.slice A4 x.f4.length c4,.slice A5 x.f5.length c5]] W fun e w'=>e = .returned (.bool (!xu x)) ∧ Below W.heap.size W w':=by
 have hb0:Below W.heap.size W (W.alloc (.cells #[.string x.f0,.bool x.f1,.int .i64 x.f2,.slice A3 x.f3.length c3,.slice A4 x.f4.length c4,.slice A5 x.f5.length c5] 60)):=(Below.refl _ W).alloc (Nat.le_refl _) _
 have h:=jP.calls x.f0 x.f1 x.f2 A3 c3 x.f3 A4 c4 x.f4 A5 c5 x.f5 (xu x) _ (Kd.zh q3 hb0) g3 (Kd.zh q4 hb0) g4 (Kd.zh q5 hb0) g5 (hG.under hb0) (by unfold jP.f;rw [if_pos hz];rfl)
 generalize xu x = b at h ⊢
 clear q3 q4 q5 hz
 go_enter Tryz.func65,Tryz.ntmps65
 go_wp2_with (go_at_call 39;refine h.mono ?_;rintro e w1 ⟨rfl,hb⟩)
 go_ret
 exact ⟨rfl,hb0.trans (hb.mono hb0.size)⟩
def shs.T1:Bool × List (List Nat × List Nat):=(true,[([],[]),([],[]),([1],[1]),([2],[2]),([3],[3]),([0,4],[0,4]),([5],[5]),([],[]),([6,7],[6,7]),([8],[8]),([8],[8]),([9,8,0,1,2,3,4,5,6,7,8,9,10],[9]),([10,11,0,1,2,3,4,5,6,7,8,9,10,11],[10])])
def shs.B1:List Nat:=[0,0,2,6,14,31,63,0,255,511,511,2047,4095]
theorem shs.zjm:vZ .any (opsOf Tryz.f67 1) = shs.T1:=by kernel_rfl
theorem shs.lS:vW shs.T1.2 shs.B1 = true:=by kernel_rfl
def shw.T1:Bool × List (List Nat × List Nat):=(true,[([],[]),([],[]),([1],[1]),([2],[2]),([3],[3]),([0,4],[0,4]),([5],[5]),([],[]),([7],[7]),([8],[8]),([9],[9]),([],[]),([6,10,11],[6,10,11]),([12],[12]),([12],[12]),([13,12,0,1,2,3,4,5,6,7,8,9,10,11,12,13,14],[13]),([14,15,0,1,2,3,4,5,6,7,8,9,10,11,12,13,14,15],[14])])
def shw.B1:List Nat:=[0,0,2,6,14,31,63,0,128,384,896,0,4095,8191,8191,32767,65535]
theorem shw.zjm:vZ .any (opsOf Tryz.f69 1) = shw.T1:=by kernel_rfl
theorem shw.lS:vW shw.T1.2 shw.B1 = true:=by kernel_rfl
def QG (l:List y8) (s:Int) (b:qV):Int × Int:=if b.f0 = 0 then YB (vS l b.f2) b.f4 s else YN (vS l b.f2) s
def ShC (B4 B5 B10:Nat) (Af:Option Addr) (n cf:Nat) (s:Int) (go o:Nat) (W:World):Prop :=
 W.cell? ⟨B5,0,none⟩ = some (.slice Af n cf) ∧ W.cell? ⟨B10,0,none⟩ = some (.pointer (some ⟨go,o,none⟩)) ∧ W.cell? ⟨B4,0,none⟩ = some (.int .i64 s)
theorem ShC.below {B4 B5 B10:Nat} {Af:Option Addr} {n cf:Nat} {s:Int} {go o:Nat} {W W':World} (h:ShC B4 B5 B10 Af n cf s go o W) (hb:Below W.heap.size W W'):ShC B4 B5 B10 Af n cf s go o W' :=
 ⟨(hb.cell (World.block_lt_of_cell? W _ h.1)).trans h.1,(hb.cell (World.block_lt_of_cell? W _ h.2.1)).trans h.2.1,(hb.cell (World.block_lt_of_cell? W _ h.2.2)).trans h.2.2⟩
set_option maxRecDepth 100000 in
set_option maxHeartbeats 8000000 in
theorem zKl (B4 B5 B10:Nat) (Af:Option Addr) (cf:Nat) (l:List y8) (s f:Int) (go o:Nat) (W:World) (hG:GW W) (hC:Kd.C kP W Af l.length l) (hl:l.length ≤ 1000000000) (hf0:0 ≤ f) (hf1:f < (l.length:Int)) (hv:∀ x ∈ l,xu x = true)
  (hS:ShC B4 B5 B10 Af l.length cf s go o W) (h2:W.cell? ⟨go,o + 2,none⟩ = some (.int .i64 f)) :
  Calls Tryz.prog 67 #[.pointer (some ⟨B5,0,none⟩),.pointer (some ⟨B10,0,none⟩),.pointer (some ⟨B4,0,none⟩)] W fun e w'=>e = .returned (.tuple #[.int .i64 (YN (vS l f) s).1,.int .i64 (YN (vS l f) s).2]) ∧ Below W.heap.size W w':=by
 have hx:=Xe hv hf0 hf1
 have hz:=XG hx
 obtain ⟨ad,A3,c3,A4,c4,A5,c5,e,x0,x1,x2,x3,x4,x5,g3,q3,g4,q4,g5,q5⟩:=jw hC f hf0 (by omega)
 subst e
 have e:zV l f = vS l f:=rfl
 rw [e] at x0 x1 x2 x3 x4 x5 g3 q3 g4 q4 g5 q5
 clear e
 generalize vS l f = x at x0 x1 x2 x3 x4 x5 g3 q3 g4 q4 g5 q5 hx hz ⊢
 have hh:∀ V,Below W.heap.size W V → Calls Tryz.prog 68 #[.agg #[.string x.f0,.bool x.f1,.int .i64 x.f2,.slice A3 x.f3.length c3,.slice A4 x.f4.length c4,.slice A5 x.f5.length c5],.int .i64 s] V fun e w'=>e = .returned (.tuple #[.int .i64 (YN x s).1,.int .i64 (YN x s).2]) ∧ Below V.heap.size V w':=fun V hb =>
  Jq.calls x.f0 x.f1 x.f2 A3 c3 x.f3 A4 c4 x.f4 A5 c5 x.f5 s _ _ V (Kd.zh q3 hb) g3 (Kd.zh q4 hb) g4 (Kd.zh q5 hb) g5 (hG.under hb) (zdO x.f0 x.f1 x.f2 x.f3 x.f4 x.f5 s (by omega) (by omega) (by omega))
 have HH:=zx.mk hh
 obtain ⟨s5,s10,s4⟩:=hS
 have HS:=zx.mk (fun (V:World) (h:Below W.heap.size W V)=>(show V.cell? ⟨B5,0,none⟩ = some (.slice (some ad) l.length cf) ∧ V.cell? ⟨B10,0,none⟩ = some (.pointer (some ⟨go,o,none⟩)) ∧ V.cell? ⟨B4,0,none⟩ = some (.int .i64 s) ∧ V.cell? ⟨go,o + 2,none⟩ = some (.int .i64 f) ∧ V.cell? (ad.add (f.toNat * 6)) = some (.string x.f0) ∧ V.cell? ⟨(ad.add (f.toNat * 6)).block,(ad.add (f.toNat * 6)).off + 1,none⟩ = some (.bool x.f1) ∧ V.cell? ⟨(ad.add (f.toNat * 6)).block,(ad.add (f.toNat * 6)).off + 2,none⟩ = some (.int .i64 x.f2) ∧ V.cell? ⟨(ad.add (f.toNat * 6)).block,(ad.add (f.toNat * 6)).off + 3,none⟩ = some (.slice A3 x.f3.length c3) ∧ V.cell? ⟨(ad.add (f.toNat * 6)).block,(ad.add (f.toNat * 6)).off + 4,none⟩ = some (.slice A4 x.f4.length c4) ∧ V.cell? ⟨(ad.add (f.toNat * 6)).block,(ad.add (f.toNat * 6)).off + 5,none⟩ = some (.slice A5 x.f5.length c5) from
  ⟨(h.cell (World.block_lt_of_cell? W _ s5)).trans s5,(h.cell (World.block_lt_of_cell? W _ s10)).trans s10,(h.cell (World.block_lt_of_cell? W _ s4)).trans s4,(h.cell (World.block_lt_of_cell? W _ h2)).trans h2,(h.cell (World.block_lt_of_cell? W _ x0)).trans x0,(h.cell (World.block_lt_of_cell? W _ x1)).trans x1,(h.cell (World.block_lt_of_cell? W _ x2)).trans x2,(h.cell (World.block_lt_of_cell? W _ x3)).trans x3,(h.cell (World.block_lt_of_cell? W _ x4)).trans x4,(h.cell (World.block_lt_of_cell? W _ x5)).trans x5⟩))
 generalize YN x s = R at HH ⊢
 obtain ⟨r1,r2⟩:=R
 dsimp only at HH ⊢
 clear hh s5 s10 s4 h2 x0 x1 x2 x3 x4 x5 q3 q4 q5 hv hx hz hC hG
 go_enter Tryz.func67,Tryz.ntmps67
 go_wp2_with fail
 refine RW.rS (n:=13) HS shs.zjm shs.lS (by kernel_rfl) rfl rfl (fun w2 H0 T U h=>?_)
 refine RW.rT 0 (some 5) T U h ?_
 refine RW.rT 1 (some 6) T U h ?_
 refine RW.rP 2 (some 7) T ?_
 refine RW.rP 3 (some 8) T ?_
 refine RW.rT 4 (some 9) T U h ?_
 refine RW.rP 5 (some 10) T ?_
 refine RW.rT 6 (some 11) T U h ?_
 refine RW.rT 7 (some 12) T U h ?_
 clear h
 refine RW.rC 8 (some 13) T HS H0 Tryz.func68 (HH.out _ H0.out) (fun w3 H3 h=>?_) (by kernel_rfl)
 refine RW.rP 9 (some 14) T ?_
 refine RW.rP 10 (some 15) T ?_
 refine RW.rP 11 (some 3) T ?_
 refine RW.rP 12 (some 4) T ?_
 refine xE (qW T.out (by kernel_rfl)) ?_
 clear h
 go_wp2_with fail
 go_ret2
 exact ⟨rfl,H3.out⟩
set_option maxRecDepth 100000 in
set_option maxHeartbeats 8000000 in
theorem zKm (B4 B5 B10:Nat) (Af:Option Addr) (cf:Nat) (l:List y8) (s f:Int) (nm:ByteArray) (go o:Nat) (W:World) (hG:GW W) (hC:Kd.C kP W Af l.length l) (hl:l.length ≤ 1000000000) (hf0:0 ≤ f) (hf1:f < (l.length:Int)) (hv:∀ x ∈ l,xu x = true)
  (hS:ShC B4 B5 B10 Af l.length cf s go o W) (h2:W.cell? ⟨go,o + 2,none⟩ = some (.int .i64 f)) (h4:W.cell? ⟨go,o + 4,none⟩ = some (.string nm)) :
  Calls Tryz.prog 69 #[.pointer (some ⟨B5,0,none⟩),.pointer (some ⟨B10,0,none⟩),.pointer (some ⟨B4,0,none⟩)] W fun e w'=>e = .returned (.tuple #[.int .i64 (YB (vS l f) nm s).1,.int .i64 (YB (vS l f) nm s).2]) ∧ Below W.heap.size W w':=by
 have hx:=Xe hv hf0 hf1
 have hz:=XG hx
 obtain ⟨ad,A3,c3,A4,c4,A5,c5,e,x0,x1,x2,x3,x4,x5,g3,q3,g4,q4,g5,q5⟩:=jw hC f hf0 (by omega)
 subst e
 have e:zV l f = vS l f:=rfl
 rw [e] at x0 x1 x2 x3 x4 x5 g3 q3 g4 q4 g5 q5
 clear e
 generalize vS l f = x at x0 x1 x2 x3 x4 x5 g3 q3 g4 q4 g5 q5 hx hz ⊢
 have hh:∀ V,Below W.heap.size W V → Calls Tryz.prog 22 #[.agg #[.string x.f0,.bool x.f1,.int .i64 x.f2,.slice A3 x.f3.length c3,.slice A4 x.f4.length c4,.slice A5 x.f5.length c5],.string nm,.int .i64 s] V fun e w'=>e = .returned (.tuple #[.int .i64 (YB x nm s).1,.int .i64 (YB x nm s).2]) ∧ Below V.heap.size V w':=fun V hb =>
  Xu.calls x.f0 x.f1 x.f2 A3 c3 x.f3 A4 c4 x.f4 A5 c5 x.f5 nm s _ _ V (Kd.zh q3 hb) g3 (Kd.zh q4 hb) g4 (Kd.zh q5 hb) g5 (hG.under hb) (zV7 x.f0 x.f1 x.f2 x.f3 x.f4 x.f5 nm s (by omega) (by omega) (by omega))
 have HH:=zx.mk hh
 obtain ⟨s5,s10,s4⟩:=hS
 have HS:=zx.mk (fun (V:World) (h:Below W.heap.size W V)=>(show V.cell? ⟨B5,0,none⟩ = some (.slice (some ad) l.length cf) ∧ V.cell? ⟨B10,0,none⟩ = some (.pointer (some ⟨go,o,none⟩)) ∧ V.cell? ⟨B4,0,none⟩ = some (.int .i64 s) ∧ V.cell? ⟨go,o + 2,none⟩ = some (.int .i64 f) ∧ V.cell? ⟨go,o + 4,none⟩ = some (.string nm) ∧ V.cell? (ad.add (f.toNat * 6)) = some (.string x.f0) ∧ V.cell? ⟨(ad.add (f.toNat * 6)).block,(ad.add (f.toNat * 6)).off + 1,none⟩ = some (.bool x.f1) ∧ V.cell? ⟨(ad.add (f.toNat * 6)).block,(ad.add (f.toNat * 6)).off + 2,none⟩ = some (.int .i64 x.f2) ∧ V.cell? ⟨(ad.add (f.toNat * 6)).block,(ad.add (f.toNat * 6)).off + 3,none⟩ = some (.slice A3 x.f3.length c3) ∧ V.cell? ⟨(ad.add (f.toNat * 6)).block,(ad.add (f.toNat * 6)).off + 4,none⟩ = some (.slice A4 x.f4.length c4) ∧ V.cell? ⟨(ad.add (f.toNat * 6)).block,(ad.add (f.toNat * 6)).off + 5,none⟩ = some (.slice A5 x.f5.length c5) from
  ⟨(h.cell (World.block_lt_of_cell? W _ s5)).trans s5,(h.cell (World.block_lt_of_cell? W _ s10)).trans s10,(h.cell (World.block_lt_of_cell? W _ s4)).trans s4,(h.cell (World.block_lt_of_cell? W _ h2)).trans h2,(h.cell (World.block_lt_of_cell? W _ h4)).trans h4,(h.cell (World.block_lt_of_cell? W _ x0)).trans x0,(h.cell (World.block_lt_of_cell? W _ x1)).trans x1,(h.cell (World.block_lt_of_cell? W _ x2)).trans x2,(h.cell (World.block_lt_of_cell? W _ x3)).trans x3,(h.cell (World.block_lt_of_cell? W _ x4)).trans x4,(h.cell (World.block_lt_of_cell? W _ x5)).trans x5⟩))
 generalize YB x nm s = R at HH ⊢
 obtain ⟨r1,r2⟩:=R
 dsimp only at HH ⊢
 clear hh s5 s10 s4 h2 h4 x0 x1 x2 x3 x4 x5 q3 q4 q5 hv hx hz hC hG
 go_enter Tryz.func69,Tryz.ntmps69
 go_wp2_with fail
 refine RW.rS (n:=17) HS shw.zjm shw.lS (by kernel_rfl) rfl rfl (fun w2 H0 T U h=>?_)
 refine RW.rT 0 (some 5) T U h ?_
 refine RW.rT 1 (some 6) T U h ?_
 refine RW.rP 2 (some 7) T ?_
 refine RW.rP 3 (some 8) T ?_
 refine RW.rT 4 (some 9) T U h ?_
 refine RW.rP 5 (some 10) T ?_
 refine RW.rT 6 (some 11) T U h ?_
 refine RW.rT 7 (some 12) T U h ?_
 refine RW.rP 8 (some 13) T ?_
 refine RW.rP 9 (some 14) T ?_
 refine RW.rT 10 (some 15) T U h ?_
 refine RW.rT 11 (some 16) T U h ?_
 clear h
 refine RW.rC 12 (some 17) T HS H0 Tryz.func22 (HH.out _ H0.out) (fun w3 H3 h=>?_) (by kernel_rfl)
 refine RW.rP 13 (some 18) T ?_
 refine RW.rP 14 (some 19) T ?_
 refine RW.rP 15 (some 3) T ?_
 refine RW.rP 16 (some 4) T ?_
 refine xE (qW T.out (by kernel_rfl)) ?_
 clear h
 go_wp2_with fail
 go_ret2
 exact ⟨rfl,H3.out⟩
end Go.Proofs.YtggifbbiiickmaaGreatDoor
namespace Go.Proofs.YtggifbbiiickmaaGreatDoor
open Go.RowKit Go.Shelf Go.Proofs.zk.za Go.Proofs.zk.zS Go.Proofs.zk.zR Go.Proofs.YtggifbbiiickmaaGreatDoor.PX
set_option linter.unusedSimpArgs false
set_option linter.unusedVariables false
def Zg (l:List y8) (s:Int) (b:qV):qV:=if b.f0 = 0 ∨ b.f0 = 1 then ⟨b.f0,(QG l s b).1,b.f2,s,b.f4,b.f5,b.f6⟩ else b
def j6 (l:List y8) (s:Int) (b:qV):Bool:=(decide (b.f0 = 0) || decide (b.f0 = 1)) && (decide (b.f2 < 0) || (decide ((l.length:Int) ≤ b.f2) || !decide ((QG l s b).2 = 0)))
def WR (l:List y8) (s:Int):Bool:=decide (s < 1) || (decide (1000 < s) || l.any (fun x=>!xu x))
def Wh (l:List y8) (s:Int) (bs:List qV):List qV × Int:=if WR l s then ([],1) else if bs.any (j6 l s) then ([],1) else (bs.map (Zg l s),0)
def WB (l:List y8) (s:Int) (bs:List qV) (k:Nat):List qV:=(bs.take k).map (Zg l s) ++ bs.drop k
section
variable (l:List y8) (s:Int) (bs:List qV)
theorem oP (k:Nat):(WB l s bs k).length = bs.length:=by
 unfold WB
 simp only [List.length_append,List.length_map,List.length_take,List.length_drop]
 omega
theorem zWi:WB l s bs 0 = bs:=by simp [WB]
theorem zcH:WB l s bs bs.length = bs.map (Zg l s):=by simp [WB]
theorem zXr (k:Nat) (h:k < bs.length) (z:qV):(WB l s bs k).getD k z = bs[k]:=by
 unfold WB
 rw [List.getD_eq_getElem?_getD,List.getElem?_append_right (by simp;omega),List.drop_eq_getElem_cons h]
 have e:k - ((bs.take k).map (Zg l s)).length = 0:=by simp;omega
 rw [e];rfl
theorem zcI (k:Nat) (h:k < bs.length):(WB l s bs k).set k (Zg l s bs[k]) = WB l s bs (k + 1):=by
 unfold WB
 have e:k - ((bs.take k).map (Zg l s)).length = 0:=by simp;omega
 rw [List.set_append_right _ _ (by simp;omega),e,List.drop_eq_getElem_cons h,List.set_cons_zero,List.take_succ_eq_append_getElem h,List.map_append,List.append_assoc]
 rfl
theorem zWl (k:Nat) (h:k < bs.length) (he:Zg l s bs[k] = bs[k]):WB l s bs k = WB l s bs (k + 1):=by
 unfold WB
 rw [List.drop_eq_getElem_cons h,List.take_succ_eq_append_getElem h,List.map_append,List.append_assoc]
 show _ = _ ++ ([Zg l s bs[k]] ++ _)
 rw [he];rfl
theorem zyr (p:qV → Bool) (k:Nat) (h:k < bs.length):(bs.drop k).any p = (p bs[k] || (bs.drop (k + 1)).any p):=by rw [List.drop_eq_getElem_cons h];rfl
end
theorem zhh {W:World} {base n cap g k:Nat} {ok:Nat → Prop} {xs:List qV} (h:uj.S 53 W base ok (.slice (some ⟨g,0,none⟩) n cap) xs) (hk:k < n) (wv:Int) :
  uj.S 53 (W.setCell ⟨g,k * 7 + 1,none⟩ (.int .i64 wv)) base ok (.slice (some ⟨g,0,none⟩) n cap) (xs.set k ⟨(xs.getD k z53).f0,wv,(xs.getD k z53).f2,(xs.getD k z53).f3,(xs.getD k z53).f4,(xs.getD k z53).f5,(xs.getD k z53).f6⟩):=by
 obtain ⟨jL,cs,hcl,hM,hcc,zyp,hH⟩:=Kd.zqa h z53 (k:Int) (by omega) (by omega)
 rw [Int.toNat_natCast] at hM
 generalize xs.getD k z53 = x at hM ⊢
 obtain ⟨v6,rfl,hR6⟩:=dV hM
 have hs:=(Kd.zVh hH (by omega) (by omega) (seg:=[.int .i64 wv]) (j:=1) (x':=⟨x.f0,wv,x.f2,x.f3,x.f4,x.f5,x.f6⟩) (vR:=jL) (show 1 + 1 ≤ 7 by decide) (Q6 W base jL ⟨x.f0,wv,x.f2,x.f3,x.f4,x.f5,x.f6⟩ hR6) (fun _ hb=>hb)).1
 rw [Int.toNat_natCast] at hs
 exact hs
theorem zcL {W:World} {base n cap g k:Nat} {ok:Nat → Prop} {xs:List qV} (h:uj.S 53 W base ok (.slice (some ⟨g,0,none⟩) n cap) xs) (hk:k < n) (s:Int) :
  uj.S 53 (W.setCell ⟨g,k * 7 + 3,none⟩ (.int .i64 s)) base ok (.slice (some ⟨g,0,none⟩) n cap) (xs.set k ⟨(xs.getD k z53).f0,(xs.getD k z53).f1,(xs.getD k z53).f2,s,(xs.getD k z53).f4,(xs.getD k z53).f5,(xs.getD k z53).f6⟩):=by
 obtain ⟨jL,cs,hcl,hM,hcc,zyp,hH⟩:=Kd.zqa h z53 (k:Int) (by omega) (by omega)
 rw [Int.toNat_natCast] at hM
 generalize xs.getD k z53 = x at hM ⊢
 obtain ⟨v6,rfl,hR6⟩:=dV hM
 have hs:=(Kd.zVh hH (by omega) (by omega) (seg:=[.int .i64 s]) (j:=3) (x':=⟨x.f0,x.f1,x.f2,s,x.f4,x.f5,x.f6⟩) (vR:=jL) (show 3 + 1 ≤ 7 by decide) (Q6 W base jL ⟨x.f0,x.f1,x.f2,s,x.f4,x.f5,x.f6⟩ hR6) (fun _ hb=>hb)).1
 rw [Int.toNat_natCast] at hs
 exact hs
theorem zac {W:World} {base n cap g k:Nat} {ok:Nat → Prop} {xs:List qV} (h:uj.S 53 W base ok (.slice (some ⟨g,0,none⟩) n cap) xs) (hk:k < n) (hkl:k < xs.length) (wv s:Int) (x:qV) (hx:xs.getD k z53 = x) :
  uj.S 53 ((W.setCell ⟨g,k * 7 + 1,none⟩ (.int .i64 wv)).setCell ⟨g,k * 7 + 3,none⟩ (.int .i64 s)) base ok (.slice (some ⟨g,0,none⟩) n cap) (xs.set k ⟨x.f0,wv,x.f2,s,x.f4,x.f5,x.f6⟩):=by
 have h1:=zhh h hk wv
 rw [hx] at h1
 have h2:=zcL h1 hk s
 have e:(xs.set k ⟨x.f0,wv,x.f2,x.f3,x.f4,x.f5,x.f6⟩).getD k z53 = ⟨x.f0,wv,x.f2,x.f3,x.f4,x.f5,x.f6⟩:=by
  rw [List.getD_eq_getElem?_getD,List.getElem?_set_self hkl];rfl
 rw [e,List.set_set] at h2
 exact h2
theorem zqO {W W':World} {g o:Nat} (h:W'.heap[g]? = W.heap[g]?):W'.cell? ⟨g,o,none⟩ = W.cell? ⟨g,o,none⟩:=by simp [World.cell?,h]
def shift.T9:Bool × List (List Nat × List Nat):=(true,[([],[]),([0],[0]),([1],[1]),([2],[2]),([3],[3]),([4],[4]),([5],[5]),([6,5],[5,6]),([7,5],[5,7]),([8,5],[5,8]),([5],[5]),([10,5],[5,10]),([9,11,5],[5,9,11]),([5,12],[5,12])])
def shift.B9:List Nat:=[0,1,3,7,15,31,63,127,255,511,63,1087,4095,8191]
theorem shift.gV:vZ .any (opsOf Tryz.f25 9) = shift.T9:=by kernel_rfl
theorem shift.Wx:vW shift.T9.2 shift.B9 = true:=by kernel_rfl
def shift.T17:Bool × List (List Nat × List Nat):=(true,[([],[]),([],[]),([],[]),([],[]),([0,0,2],[0]),([4,0,2],[4]),([5,2,0,2],[2,5]),([1,0,1,2,3,4,5,6],[1]),([7,0,1,2,3,4,5,6],[7]),([8,3,6,0,1,2,3,4,5,6],[3,8])])
def shift.B17:List Nat:=[0,0,0,0,5,21,53,127,255,511]
theorem shift.zkq:vZ .any (opsOf Tryz.f25 17) = shift.T17:=by kernel_rfl
theorem shift.zqs:vW shift.T17.2 shift.B17 = true:=by kernel_rfl
set_option maxRecDepth 100000 in
set_option maxHeartbeats 4000000 in
theorem zWm (A:Option Addr) (c:Nat) (bs:List qV) (s:Int) (Af:Option Addr) (cf:Nat) (l:List y8) (w:World) (hG:GW w) (hC:Kd.C kP w Af l.length l) (hl:l.length ≤ 1000000000) (hz:∀ x ∈ l,x.f3.length ≤ 1000000000 ∧ x.f4.length ≤ 1000000000 ∧ x.f5.length ≤ 1000000000) (hr:WR l s = true) :
  Calls Tryz.prog 25 #[.slice A bs.length c,.int .i64 s,.slice Af l.length cf] w fun e w'=>e = .returned (.tuple #[.slice none 0 0,.int .i64 1]) ∧ Below w.heap.size w w':=by
 have hb0:Below w.heap.size w ((w.alloc (.cells #[.int .i64 s] 3)).alloc (.cells #[.slice Af l.length cf] 22)):=((Below.refl _ w).alloc (Nat.le_refl _) _).alloc (by simp) _
 by_cases h1:s < 1
 ·have i1:decide (s < 1) = true:=decide_eq_true h1
  clear h1 hr hz hC hG
  go_enter Tryz.func25,Tryz.ntmps25
  go_wp2_with fail
  go_ret2
  exact ⟨rfl,hb0⟩
 ·have i1:decide (s < 1) = false:=decide_eq_false h1
  by_cases h2:1000 < s
  ·have i2:decide (1000 < s) = true:=decide_eq_true h2
   clear h1 h2 hr hz hC hG
   go_enter Tryz.func25,Tryz.ntmps25
   go_wp2_with fail
   go_ret2
   exact ⟨rfl,hb0⟩
  ·have i2:decide (1000 < s) = false:=decide_eq_false h2
   have hv:(l.any fun x=>!xu x) = true:=by unfold WR at hr;rw [i1,i2] at hr;exact hr
   have hcall:=zzN Af cf l _ (Kd.zh hC hb0) hl (fun x=>!xu x) 65 #[] (Zl Tryz.func65 (by kernel_rfl) rfl) (fun V y A3 c3 A4 c4 A5 c5 hm hV p3 g3 p4 g4 p5 g5 =>
    (zzb y A3 c3 A4 c4 A5 c5 V (hG.under (hb0.trans (hV.mono hb0.size))) (hz y hm) p3 g3 p4 g4 p5 g5).mono fun e w' ⟨h1,h2⟩=>⟨h1,hV.trans (h2.mono hV.size)⟩)
   rw [hv] at hcall
   clear h1 h2 hr hz hC hG hv
   go_enter Tryz.func25,Tryz.ntmps25
   go_wp2_with fail
   refine hcall.mono ?_;rintro e w2 ⟨rfl,hb2⟩
   clear hcall
   go_wp2_with fail
   go_ret2
   exact ⟨rfl,hb0.trans (hb2.mono hb0.size)⟩
set_option maxRecDepth 100000 in
set_option maxHeartbeats 16000000 in
theorem zKn (A:Option Addr) (c:Nat) (bs:List qV) (s:Int) (Af:Option Addr) (cf:Nat) (l:List y8) (w:World) (hG:GW w) (hr:Kd.C uj w A bs.length bs) (hbl:bs.length ≤ 1000000) (hbz:∀ b ∈ bs,b.f6.length ≤ 1000000000)
  (hC:Kd.C kP w Af l.length l) (hl:l.length ≤ 1000000000) (hz:∀ x ∈ l,x.f3.length ≤ 1000000000 ∧ x.f4.length ≤ 1000000000 ∧ x.f5.length ≤ 1000000000) (hrf:WR l s = false) :
  Calls Tryz.prog 25 #[.slice A bs.length c,.int .i64 s,.slice Af l.length cf] w fun e w'=>(if bs.any (j6 l s) then e = .returned (.tuple #[.slice none 0 0,.int .i64 1]) else ∃ v,e = .returned (.tuple #[v,.int .i64 0]) ∧ uj.S 53 w' w.heap.size (fun _=>True) v (bs.map (Zg l s))) ∧ Below w.heap.size w w':=by
 obtain ⟨W0,hW0⟩:∃ W0,(w.alloc (.cells #[.int .i64 s] 3)).alloc (.cells #[.slice Af l.length cf] 22) = W0:=⟨_,rfl⟩
 have hb0:Below w.heap.size w W0:=by rw [← hW0];exact ((Below.refl _ w).alloc (Nat.le_refl _) _).alloc (by simp) _
 have hz0:W0.heap.size = w.heap.size + 1 + 1:=by rw [← hW0];simp
 have hs4:W0.heap[w.heap.size]? = some (.cells #[.int .i64 s] 3 (0,0)):=by rw [← hW0];exact yV (uo w _) _
 have hs5:W0.heap[w.heap.size + 1]? = some (.cells #[.slice Af l.length cf] 22 (0,0)):=by
  rw [← hW0]
  have h:=uo (w.alloc (.cells #[.int .i64 s] 3)) (.cells #[.slice Af l.length cf] 22)
  rwa [World.size_alloc] at h
 have i1:decide (s < 1) = false:=by cases h:decide (s < 1) with | false=>rfl | true=>(unfold WR at hrf;rw [h] at hrf;cases hrf)
 have i2:decide (1000 < s) = false:=by cases h:decide (1000 < s) with | false=>rfl | true=>(unfold WR at hrf;rw [h,i1] at hrf;cases hrf)
 have hv:(l.any fun x=>!xu x) = false:=by unfold WR at hrf;rw [i1,i2] at hrf;exact hrf
 have hval:∀ x ∈ l,xu x = true:=fun x hx=>by
  have h:=List.any_eq_false.1 hv x hx
  simpa using h
 have hcall:=zzN Af cf l W0 (Kd.zh hC hb0) hl (fun x=>!xu x) 65 #[] (Zl Tryz.func65 (by kernel_rfl) rfl) (fun V y A3 c3 A4 c4 A5 c5 hm hV p3 g3 p4 g4 p5 g5 =>
  (zzb y A3 c3 A4 c4 A5 c5 V (hG.under (hb0.trans (hV.mono hb0.size))) (hz y hm) p3 g3 p4 g4 p5 g5).mono fun e w' ⟨h1,h2⟩=>⟨h1,hV.trans (h2.mono hV.size)⟩)
 rw [hv] at hcall
 have HBA:=zx.mk (show bs.any (j6 l s) = (bs.drop 0).any (j6 l s) from rfl)
 generalize bs.any (j6 l s) = ba at HBA ⊢
 have HB0:=zx.mk hb0
 have HS4:=zx.mk hs4
 have HS5:=zx.mk hs5
 have HG:=zx.mk hG
 have HR:=zx.mk hr
 have HC:=zx.mk hC
 have HV:=zx.mk hval
 have HBZ:=zx.mk hbz
 have HZ0:=Lib.hid hz0
 generalize hg:w.heap.size = g0 at HB0 HS4 HS5 HZ0 ⊢
 have fB:=Lib.hid hg
 have HW0:=hW0
 clear hb0 hs4 hs5 hG hr hC hval hbz hz0 hv hrf hz
 have y4:W0.cell? ⟨g0,0,none⟩ = some (.int .i64 s):=(zX HS4.out 0).trans rfl
 have y5:W0.cell? ⟨g0 + 1,0,none⟩ = some (.slice Af l.length cf):=(zX HS5.out 0).trans rfl
 go_enter Tryz.func25,Tryz.ntmps25
 go_wp2_with fail
 clear y4 y5
 refine hcall.mono ?_;rintro e w2 ⟨rfl,hb2⟩
 have hbw2:Below w.heap.size w w2:=by rw [fB.out];exact HB0.out.trans (hb2.mono (by rw [HZ0.out];omega))
 have hown:=zcG A c bs w2 (Kd.zh HR.out hbw2) hbl HBZ.out
 have HB2:=zx.mk hbw2
 have h42:=zM HS4.out hb2
 have h52:=zM HS5.out hb2
 have zls:=zx.mk h42
 have zlt:=zx.mk h52
 have y4:w2.cell? ⟨g0,0,none⟩ = some (.int .i64 s):=(zX h42 0).trans rfl
 have y5:w2.cell? ⟨g0 + 1,0,none⟩ = some (.slice Af l.length cf):=(zX h52 0).trans rfl
 have hz2:g0 + 1 + 1 ≤ w2.heap.size:=by have:=hb2.size;rw [HZ0.out] at this;exact this
 clear hcall hbw2 hb2 h42 h52 hW0 HW0 hg
 go_wp2_with fail
 refine hown.mono ?_;rintro e w3 ⟨v,rfl,hN,hb3⟩
 obtain ⟨Ao,co,rfl⟩:=Kd.Q5 hN
 have HN:=zx.mk (show uj.S 53 w3 w2.heap.size (fun k=>w2.heap.size ≤ k) (.slice Ao bs.length co) (WB l s bs 0) by rw [zWi];exact hN)
 have HB3:=zx.mk (Below.trans HB2.out (hb3.mono HB2.out.size))
 have zlu:=zx.mk hb3.size
 have zlA:=zx.mk (zM zls.out hb3)
 have zlB:=zx.mk (zM zlt.out hb3)
 clear hN hb3 hown y4 y5
 go_wp2_with fail
 go_loopw [28] (fun i W=>∃ k:Nat,k ≤ bs.length ∧ i = .int .i64 (k:Int) ∧ zx (uj.S 53 W w2.heap.size (fun k=>w2.heap.size ≤ k) (.slice Ao bs.length co) (WB l s bs k)) ∧ zx (Below w.heap.size w W) ∧ zx (W.heap[g0]? = some (.cells #[.int .i64 s] 3 (0,0))) ∧ zx (W.heap[g0 + 1]? = some (.cells #[.slice Af l.length cf] 22 (0,0))) ∧ zx (ba = (bs.drop k).any (j6 l s)) ∧ zx (w2.heap.size ≤ W.heap.size)) (fun i _=>bs.length - (intOf i).toNat)
 case atStart=>exact ⟨0,Nat.zero_le _,rfl,HN,HB3,zlA,zlB,HBA,zlu⟩
 case round =>
  obtain ⟨k,hk,rfl,HI,HW,H4,H5,HA,HSZ⟩:=hrel
  by_cases hlt:k < bs.length
  ·have hform:=Kd.zVa HI.out (by rw [oP];omega)
   rw [oP] at hform
   obtain ⟨go,cap,e,hgo,hgl,_⟩:=hform
   injection e with e1 e3 e2
   subst e1 e2
   try clear e3
   obtain ⟨jL,cs,hcl,hM,hcc,zyp,hH⟩:=Kd.zqa HI.out z53 (k:Int) (by omega) (by omega)
   have hfr:=(Kd.zdm hH (by omega) (by omega)).2
   rw [Int.toNat_natCast,zXr l s bs k hlt] at hM
   rw [Int.toNat_natCast] at hcc hfr
   obtain ⟨v6,rfl,hR6⟩:=dV hM
   clear hM hR6 hH zyp hcl
   have x0:wr.cell? ⟨go,k * 7,none⟩ = some (.int .i64 bs[k].f0):=hcc 0 _ rfl
   have x1:wr.cell? ⟨go,k * 7 + 1,none⟩ = some (.int .i64 bs[k].f1):=hcc 1 _ rfl
   have x2:wr.cell? ⟨go,k * 7 + 2,none⟩ = some (.int .i64 bs[k].f2):=hcc 2 _ rfl
   have x3:wr.cell? ⟨go,k * 7 + 3,none⟩ = some (.int .i64 bs[k].f3):=hcc 3 _ rfl
   have x4:wr.cell? ⟨go,k * 7 + 4,none⟩ = some (.string bs[k].f4):=hcc 4 _ rfl
   have zJ2:wr.frozen? ⟨go,k * 7 + 1,none⟩ = false:=hfr 1
   have zJ3:wr.frozen? ⟨go,k * 7 + 3,none⟩ = false:=hfr 3
   have hsame:=zWl l s bs k hlt
   have hset:=zcI l s bs k hlt
   have hgx:=zXr l s bs k hlt z53
   have hany:=zyr bs (j6 l s) k hlt
   generalize bs[k] = x at x0 x1 x2 x3 x4 hsame hset hgx hany
   have HX:=zx.mk (And.intro hsame (And.intro hset hany))
   have HGX:=zx.mk hgx
   clear hsame hset hgx hany hcc hfr
   have y4:wr.cell? ⟨g0,0,none⟩ = some (.int .i64 s):=(zX H4.out 0).trans rfl
   have y5:wr.cell? ⟨g0 + 1,0,none⟩ = some (.slice Af l.length cf):=(zX H5.out 0).trans rfl
   by_cases hk0:x.f0 = 0
   ·skip
    have hkk:x.f0 = 0:=hk0
    rw [hkk] at x0
    obtain ⟨wb,hwb⟩:∃ wb,wr.alloc (.cells #[.pointer (some ⟨go,k * 7,none⟩)] 123) = wb:=⟨_,rfl⟩
    have hbb:Below wr.heap.size wr wb:=by rw [← hwb];exact (Below.refl _ wr).alloc (Nat.le_refl _) _
    have ht:wb.heap[wr.heap.size]? = some (.cells #[.pointer (some ⟨go,k * 7,none⟩)] 123 (0,0)):=by rw [← hwb];exact uo wr _
    generalize hgb:wr.heap.size = gb at ht hbb hgl
    have x2b:wb.cell? ⟨go,k * 7 + 2,none⟩ = some (.int .i64 x.f2):=(hbb.cell (p:=⟨go,_,none⟩) hgl).trans x2
    have x0b:wb.cell? ⟨go,k * 7,none⟩ = some (.int .i64 0):=(hbb.cell (p:=⟨go,_,none⟩) hgl).trans x0
    have x4b:wb.cell? ⟨go,k * 7 + 4,none⟩ = some (.string x.f4):=(hbb.cell (p:=⟨go,_,none⟩) hgl).trans x4
    have x1b:wb.cell? ⟨go,k * 7 + 1,none⟩ = some (.int .i64 x.f1):=(hbb.cell (p:=⟨go,_,none⟩) hgl).trans x1
    have x3b:wb.cell? ⟨go,k * 7 + 3,none⟩ = some (.int .i64 x.f3):=(hbb.cell (p:=⟨go,_,none⟩) hgl).trans x3
    have f1b:wb.frozen? ⟨go,k * 7 + 1,none⟩ = false:=(hbb.frozen (p:=⟨go,_,none⟩) hgl).trans zJ2
    have f3b:wb.frozen? ⟨go,k * 7 + 3,none⟩ = false:=(hbb.frozen (p:=⟨go,_,none⟩) hgl).trans zJ3
    have tb:wb.cell? ⟨gb,0,none⟩ = some (.pointer (some ⟨go,k * 7,none⟩)):=(zX ht 0).trans rfl
    have y4b:wb.cell? ⟨g0,0,none⟩ = some (.int .i64 s):=(hbb.cell (p:=⟨g0,0,none⟩) (by show g0 < gb;omega)).trans y4
    have y5b:wb.cell? ⟨g0 + 1,0,none⟩ = some (.slice Af l.length cf):=(hbb.cell (p:=⟨g0 + 1,0,none⟩) (by show g0 + 1 < gb;omega)).trans y5
    have Qn:=zx.mk (show Below wr.heap.size wr wb by rw [hgb];exact hbb)
    have HSH:=zx.mk (show Zg l s x = ⟨x.f0,(QG l s x).1,x.f2,s,x.f4,x.f5,x.f6⟩ by unfold Zg;rw [if_pos (Or.inl hkk)])
    have hbd:j6 l s x = (decide (x.f2 < 0) || (decide ((l.length:Int) ≤ x.f2) || !decide ((QG l s x).2 = 0))):=by unfold j6;rw [hkk];rfl
    have hak:QG l s x = YB (vS l x.f2) x.f4 s:=by unfold QG;rw [if_pos hkk]
    have HAK:=zx.mk hak
    have sQ:=zx.mk hbd
    have HAB:=zx.mk (show ba = (j6 l s x || (bs.drop (k + 1)).any (j6 l s)) by rw [HA.out];exact HX.out.2.2)
    clear hak hbd hkk hk0 HA hbb x0 x1 x2 x3 x4 zJ2 zJ3 ht
    have bg:=zx.mk (fun (V:World) (h:Below wb.heap.size wb V)=>(show V.cell? ⟨gb,0,none⟩ = some (.pointer (some ⟨go,k * 7,none⟩)) ∧ V.cell? ⟨go,k * 7 + 2,none⟩ = some (.int .i64 x.f2) ∧ V.cell? ⟨g0 + 1,0,none⟩ = some (.slice Af l.length cf) from
     ⟨(h.cell (World.block_lt_of_cell? wb _ tb)).trans tb,(h.cell (World.block_lt_of_cell? wb _ x2b)).trans x2b,(h.cell (World.block_lt_of_cell? wb _ y5b)).trans y5b⟩))
    by_cases hn:x.f2 < 0
    ·have j1:decide (x.f2 < 0) = true:=decide_eq_true hn
     obtain rfl:ba = true:=by rw [HAB.out,sQ.out,j1];rfl
     clear hn
     go_wp2_with fail
     refine RW.rS (n:=14) bg shift.gV shift.Wx (by kernel_rfl) rfl rfl (fun w5 pV T U h=>?_)
     refine RW.rT 0 (some 46) T U h ?_
     refine RW.rP 1 (some 47) T ?_
     refine RW.rP 2 (some 48) T ?_
     refine RW.rT 3 (some 49) T U h ?_
     refine RW.rP 4 (some 50) T ?_
     refine RW.rP 5 (some 51) T ?_
     refine RW.rU 6 (some 52) T ?_
     refine RW.rU 7 (some 53) T ?_
     refine RW.rU 8 (some 54) T ?_
     refine RW.rU 9 (some 55) T ?_
     refine RW.rU 10 (some 56) T ?_
     refine RW.rU 11 (some 57) T ?_
     refine RW.rU 12 (some 58) T ?_
     refine RW.rP 13 (some 59) T ?_
     refine xE (qW T.out (by kernel_rfl)) ?_
     clear h
     go_wp2_with fail
     go_ret2
     exact ⟨rfl,by rw [← fB.out];exact (HW.out.trans (Qn.out.mono HW.out.size)).trans (pV.out.mono (Nat.le_trans HW.out.size Qn.out.size))⟩
    ·have j1:decide (x.f2 < 0) = false:=decide_eq_false hn
     by_cases hm:(l.length:Int) ≤ x.f2
     ·have j2:decide ((l.length:Int) ≤ x.f2) = true:=decide_eq_true hm
      obtain rfl:ba = true:=by rw [HAB.out,sQ.out,j1,j2];rfl
      clear hn hm
      go_wp2_with fail
      refine RW.rS (n:=14) bg shift.gV shift.Wx (by kernel_rfl) rfl rfl (fun w5 pV T U h=>?_)
      refine RW.rT 0 (some 46) T U h ?_
      refine RW.rP 1 (some 47) T ?_
      refine RW.rP 2 (some 48) T ?_
      refine RW.rT 3 (some 49) T U h ?_
      refine RW.rP 4 (some 50) T ?_
      refine RW.rP 5 (some 51) T ?_
      refine RW.rT 6 (some 52) T U h ?_
      refine RW.rP 7 (some 53) T ?_
      refine RW.rP 8 (some 54) T ?_
      refine RW.rT 9 (some 55) T U h ?_
      refine RW.rT 10 (some 56) T U h ?_
      refine RW.rP 11 (some 57) T ?_
      refine RW.rP 12 (some 58) T ?_
      refine RW.rP 13 (some 59) T ?_
      refine xE (qW T.out (by kernel_rfl)) ?_
      clear h
      go_wp2_with fail
      go_ret2
      exact ⟨rfl,by rw [← fB.out];exact (HW.out.trans (Qn.out.mono HW.out.size)).trans (pV.out.mono (Nat.le_trans HW.out.size Qn.out.size))⟩
     ·have j2:decide ((l.length:Int) ≤ x.f2) = false:=decide_eq_false hm
      have hf0:0 ≤ x.f2:=by omega
      have hf1:x.f2 < (l.length:Int):=by omega
      clear hn hm
      go_wp2_with fail
      refine RW.rS (n:=14) bg shift.gV shift.Wx (by kernel_rfl) rfl rfl (fun w5 pV T U h=>?_)
      refine RW.rT 0 (some 46) T U h ?_
      refine RW.rP 1 (some 47) T ?_
      refine RW.rP 2 (some 48) T ?_
      refine RW.rT 3 (some 49) T U h ?_
      refine RW.rP 4 (some 50) T ?_
      refine RW.rP 5 (some 51) T ?_
      refine RW.rT 6 (some 52) T U h ?_
      refine RW.rP 7 (some 53) T ?_
      refine RW.rP 8 (some 54) T ?_
      refine RW.rT 9 (some 55) T U h ?_
      refine RW.rT 10 (some 56) T U h ?_
      refine RW.rP 11 (some 57) T ?_
      refine RW.rP 12 (some 58) T ?_
      refine RW.rP 13 (some 59) T ?_
      refine xE (qW T.out (by kernel_rfl)) ?_
      clear h
      have sb:=Qn.out.size
      have bD:go < wb.heap.size:=by omega
      have gbb:gb < wb.heap.size:=World.block_lt_of_cell? wb _ tb
      have c0:w5.cell? ⟨go,k * 7,none⟩ = some (.int .i64 0):=(pV.out.cell (p:=⟨go,_,none⟩) bD).trans x0b
      have c1:w5.cell? ⟨go,k * 7 + 1,none⟩ = some (.int .i64 x.f1):=(pV.out.cell (p:=⟨go,_,none⟩) bD).trans x1b
      have c2:w5.cell? ⟨go,k * 7 + 2,none⟩ = some (.int .i64 x.f2):=(pV.out.cell (p:=⟨go,_,none⟩) bD).trans x2b
      have c3:w5.cell? ⟨go,k * 7 + 3,none⟩ = some (.int .i64 x.f3):=(pV.out.cell (p:=⟨go,_,none⟩) bD).trans x3b
      have c4:w5.cell? ⟨go,k * 7 + 4,none⟩ = some (.string x.f4):=(pV.out.cell (p:=⟨go,_,none⟩) bD).trans x4b
      have f1:w5.frozen? ⟨go,k * 7 + 1,none⟩ = false:=(pV.out.frozen (p:=⟨go,_,none⟩) bD).trans f1b
      have f3:w5.frozen? ⟨go,k * 7 + 3,none⟩ = false:=(pV.out.frozen (p:=⟨go,_,none⟩) bD).trans f3b
      have t5:w5.cell? ⟨gb,0,none⟩ = some (.pointer (some ⟨go,k * 7,none⟩)):=(pV.out.cell (p:=⟨gb,_,none⟩) gbb).trans tb
      have q4:w5.cell? ⟨g0,0,none⟩ = some (.int .i64 s):=(pV.out.cell (p:=⟨g0,_,none⟩) (by show g0 < wb.heap.size;omega)).trans y4b
      have q5:w5.cell? ⟨g0 + 1,0,none⟩ = some (.slice Af l.length cf):=(pV.out.cell (p:=⟨g0 + 1,_,none⟩) (by show g0 + 1 < wb.heap.size;omega)).trans y5b
      clear x0b x1b x2b x3b x4b f1b f3b tb y4b y5b bg T U y4 y5
      have iD:Below w.heap.size w w5:=(HW.out.trans (Qn.out.mono HW.out.size)).trans (pV.out.mono (Nat.le_trans HW.out.size Qn.out.size))
      have bE:=zKm g0 (g0 + 1) gb Af cf l s x.f2 x.f4 go (k * 7) w5 (HG.out.under iD) (Kd.zh HC.out iD) hl hf0 hf1 HV.out ⟨q5,t5,q4⟩ c2 c4
      rw [← HAK.out] at bE
      generalize QG l s x = av at bE HSH sQ
      obtain ⟨wv,we⟩:=av
      dsimp only at bE HSH sQ
      have HW5:=zx.mk iD
      have s5:=pV.out.size
      clear iD HAK
      go_wp2_with fail
      refine bE.mono ?_;rintro e w6 ⟨rfl,hb6⟩
      have go5:go < w5.heap.size:=by omega
      have gb5:gb < w5.heap.size:=by omega
      have d1:w6.cell? ⟨go,k * 7 + 1,none⟩ = some (.int .i64 x.f1):=(hb6.cell (p:=⟨go,_,none⟩) go5).trans c1
      have d3:w6.cell? ⟨go,k * 7 + 3,none⟩ = some (.int .i64 x.f3):=(hb6.cell (p:=⟨go,_,none⟩) go5).trans c3
      have e1:w6.frozen? ⟨go,k * 7 + 1,none⟩ = false:=(hb6.frozen (p:=⟨go,_,none⟩) go5).trans f1
      have e3:w6.frozen? ⟨go,k * 7 + 3,none⟩ = false:=(hb6.frozen (p:=⟨go,_,none⟩) go5).trans f3
      have t6:w6.cell? ⟨gb,0,none⟩ = some (.pointer (some ⟨go,k * 7,none⟩)):=(hb6.cell (p:=⟨gb,_,none⟩) gb5).trans t5
      have r4:w6.cell? ⟨g0,0,none⟩ = some (.int .i64 s):=(hb6.cell (p:=⟨g0,_,none⟩) (by show g0 < w5.heap.size;omega)).trans q4
      have HB6:=zx.mk (Below.trans pV.out (hb6.mono s5))
      have eU:=zx.mk (HW5.out.trans (hb6.mono HW5.out.size))
      clear c0 c1 c2 c3 c4 f1 f3 t5 q4 q5 hb6 bE
      by_cases he:we = 0
      ·have HE:=Lib.hid he
       subst he
       have zys:=zx.mk (fun (V:World) (h:Below w6.heap.size w6 V)=>(show V.cell? ⟨gb,0,none⟩ = some (.pointer (some ⟨go,k * 7,none⟩)) ∧ V.cell? ⟨g0,0,none⟩ = some (.int .i64 s) from
        ⟨(h.cell (World.block_lt_of_cell? w6 _ t6)).trans t6,(h.cell (World.block_lt_of_cell? w6 _ r4)).trans r4⟩))
       go_wp2_with fail
       refine RW.rSD (n:=10) [9] zys shift.zkq shift.zqs (by kernel_rfl) rfl rfl (fun w7 H7 T U h=>?_)
       refine RW.rT 0 (some 74) T U h ?_
       refine RW.rT 1 (some 75) T U h ?_
       refine RW.rP 2 (some 76) T ?_
       refine RW.rT 3 (some 77) T U h ?_
       refine RW.rP 4 (some 78) T ?_
       refine RW.rP 5 (some 79) T ?_
       clear h
       have go7:go < w6.heap.size:=World.block_lt_of_cell? w6 _ d1
       have u1:w7.cell? ⟨go,k * 7 + 1,none⟩ = some (.int .i64 x.f1):=(H7.out.cell (p:=⟨go,_,none⟩) go7).trans d1
       have v1:w7.frozen? ⟨go,k * 7 + 1,none⟩ = false:=(H7.out.frozen (p:=⟨go,_,none⟩) go7).trans e1
       have u3:w7.cell? ⟨go,k * 7 + 3,none⟩ = some (.int .i64 x.f3):=(H7.out.cell (p:=⟨go,_,none⟩) go7).trans d3
       have v3:w7.frozen? ⟨go,k * 7 + 3,none⟩ = false:=(H7.out.frozen (p:=⟨go,_,none⟩) go7).trans e3
       have h17:=zys.out _ H7.out
       have HW7:=zx.mk (eU.out.trans (H7.out.mono eU.out.size))
       have hr7:Below wr.heap.size wr w7:=(Qn.out.trans (HB6.out.mono Qn.out.size)).trans (H7.out.mono (Nat.le_trans Qn.out.size HB6.out.size))
       have HR7:=zx.mk hr7
       have hN7:=zac (Kd.jZ HI.out hr7) hlt (by rw [oP];exact hlt) wv s x HGX.out
       rw [← HSH.out,HX.out.2.1] at hN7
       have HN7:=zx.mk hN7
       refine Xb (i:=6) (N:=none) #[true,true,true,true,true,true,true,false,false,false] rfl rfl (jF T.out (by kernel_rfl)) (by decide) (fun K hK=>?_)
       refine U9 (w1:=?_) (by rfl) rfl ?_ ?_
       rotate_left
       ·go_simp
        rfl
       have S8:(w7.setCell ⟨go,k * 7 + 1,none⟩ (.int .i64 wv)).cell? ⟨gb,0,none⟩ = some (.pointer (some ⟨go,k * 7,none⟩)) ∧ (w7.setCell ⟨go,k * 7 + 1,none⟩ (.int .i64 wv)).cell? ⟨g0,0,none⟩ = some (.int .i64 s) :=
        ⟨(zqO (Below.heap_setCell w7 ⟨go,k * 7 + 1,none⟩ (.int .i64 wv) gb (by show gb ≠ go;omega))).trans h17.1,(zqO (Below.heap_setCell w7 ⟨go,k * 7 + 1,none⟩ (.int .i64 wv) g0 (by show g0 ≠ go;omega))).trans h17.2⟩
       refine hK.out _ _ S8 (fun h=>?_)
       clear hK K h hN7 hr7
       refine RW.rP 7 (some 80) T ?_
       refine RW.rP 8 (some 81) T ?_
       have z3:(w7.setCell ⟨go,k * 7 + 1,none⟩ (.int .i64 wv)).cell? ⟨go,k * 7 + 3,none⟩ = some (.int .i64 x.f3):=(World.cell?_setCell_other _ _ _ _ (by intro e;injection e with _ e;omega)).trans u3
       have z4:(w7.setCell ⟨go,k * 7 + 1,none⟩ (.int .i64 wv)).frozen? ⟨go,k * 7 + 3,none⟩ = false:=by simpa using v3
       refine dZ (i:=9) (N:=none) #[true,true,true,true,true,true,true,true,true,true] rfl rfl (jF T.out (by kernel_rfl)) (by decide) (fun K hK=>?_)
       refine U9 (w1:=?_) (by rfl) rfl ?_ ?_
       rotate_left
       ·go_simp
        rfl
       refine hK.out _ _ ?_
       clear hK K
       refine xE (qW T.out (by kernel_rfl)) ?_
       have HW9:=zx.mk ((HW7.out.setCell (p:=⟨go,k * 7 + 1,none⟩) (by show w.heap.size ≤ go;rw [fB.out];omega) (.int .i64 wv)).setCell (p:=⟨go,k * 7 + 3,none⟩) (by show w.heap.size ≤ go;rw [fB.out];omega) (.int .i64 s))
       have hn0:g0 ≠ go:=by omega
       have hn1:g0 + 1 ≠ go:=by omega
       have H49:=zx.mk ((Below.heap_setCell (w7.setCell ⟨go,k * 7 + 1,none⟩ (.int .i64 wv)) ⟨go,k * 7 + 3,none⟩ (.int .i64 s) g0 hn0).trans ((Below.heap_setCell w7 ⟨go,k * 7 + 1,none⟩ (.int .i64 wv) g0 hn0).trans (zM H4.out HR7.out)))
       have H59:=zx.mk ((Below.heap_setCell (w7.setCell ⟨go,k * 7 + 1,none⟩ (.int .i64 wv)) ⟨go,k * 7 + 3,none⟩ (.int .i64 s) (g0 + 1) hn1).trans ((Below.heap_setCell w7 ⟨go,k * 7 + 1,none⟩ (.int .i64 wv) (g0 + 1) hn1).trans (zM H5.out HR7.out)))
       have zyt:=zx.mk (show w2.heap.size ≤ ((w7.setCell ⟨go,k * 7 + 1,none⟩ (.int .i64 wv)).setCell ⟨go,k * 7 + 3,none⟩ (.int .i64 s)).heap.size by
        have h1:=HR7.out.size
        have h2:=HSZ.out
        simp
        omega)
       have HA9:=zx.mk (show ba = (bs.drop (k + 1)).any (j6 l s) by rw [HAB.out,sQ.out,j1,j2];rfl)
       generalize (w7.setCell ⟨go,k * 7 + 1,none⟩ (.int .i64 wv)).setCell ⟨go,k * 7 + 3,none⟩ (.int .i64 s) = w9 at HN7 HW9 H49 H59 zyt ⊢
       clear z3 z4 u1 v1 u3 v3 S8 h17 d1 d3 e1 e3 t6 r4
       go_wp2_with fail
       go_roundw
       case rel=>exact ⟨k + 1,by omega,by first | rfl | go_num,HN7,HW9,H49,H59,HA9,zyt⟩
       case measure=>simp [intOf];omega
      ·have j3:(we == 0) = false:=beq_eq_false_iff_ne.2 he
       have j4:(we != 0) = true:=by simpa using he
       have j5:(!(we == 0)) = true:=by simpa using he
       obtain rfl:ba = true:=by rw [HAB.out,sQ.out,j1,j2,decide_eq_false he];rfl
       clear he
       go_wp2_with fail
       go_ret2
       exact ⟨rfl,by rw [← fB.out];exact eU.out⟩
   ·by_cases hk1:x.f0 = 1
    ·skip
     have hkk:x.f0 = 1:=hk1
     rw [hkk] at x0
     obtain ⟨wb,hwb⟩:∃ wb,wr.alloc (.cells #[.pointer (some ⟨go,k * 7,none⟩)] 123) = wb:=⟨_,rfl⟩
     have hbb:Below wr.heap.size wr wb:=by rw [← hwb];exact (Below.refl _ wr).alloc (Nat.le_refl _) _
     have ht:wb.heap[wr.heap.size]? = some (.cells #[.pointer (some ⟨go,k * 7,none⟩)] 123 (0,0)):=by rw [← hwb];exact uo wr _
     generalize hgb:wr.heap.size = gb at ht hbb hgl
     have x2b:wb.cell? ⟨go,k * 7 + 2,none⟩ = some (.int .i64 x.f2):=(hbb.cell (p:=⟨go,_,none⟩) hgl).trans x2
     have x0b:wb.cell? ⟨go,k * 7,none⟩ = some (.int .i64 1):=(hbb.cell (p:=⟨go,_,none⟩) hgl).trans x0
     have x4b:wb.cell? ⟨go,k * 7 + 4,none⟩ = some (.string x.f4):=(hbb.cell (p:=⟨go,_,none⟩) hgl).trans x4
     have x1b:wb.cell? ⟨go,k * 7 + 1,none⟩ = some (.int .i64 x.f1):=(hbb.cell (p:=⟨go,_,none⟩) hgl).trans x1
     have x3b:wb.cell? ⟨go,k * 7 + 3,none⟩ = some (.int .i64 x.f3):=(hbb.cell (p:=⟨go,_,none⟩) hgl).trans x3
     have f1b:wb.frozen? ⟨go,k * 7 + 1,none⟩ = false:=(hbb.frozen (p:=⟨go,_,none⟩) hgl).trans zJ2
     have f3b:wb.frozen? ⟨go,k * 7 + 3,none⟩ = false:=(hbb.frozen (p:=⟨go,_,none⟩) hgl).trans zJ3
     have tb:wb.cell? ⟨gb,0,none⟩ = some (.pointer (some ⟨go,k * 7,none⟩)):=(zX ht 0).trans rfl
     have y4b:wb.cell? ⟨g0,0,none⟩ = some (.int .i64 s):=(hbb.cell (p:=⟨g0,0,none⟩) (by show g0 < gb;omega)).trans y4
     have y5b:wb.cell? ⟨g0 + 1,0,none⟩ = some (.slice Af l.length cf):=(hbb.cell (p:=⟨g0 + 1,0,none⟩) (by show g0 + 1 < gb;omega)).trans y5
     have Qn:=zx.mk (show Below wr.heap.size wr wb by rw [hgb];exact hbb)
     have HSH:=zx.mk (show Zg l s x = ⟨x.f0,(QG l s x).1,x.f2,s,x.f4,x.f5,x.f6⟩ by unfold Zg;rw [if_pos (Or.inr hkk)])
     have hbd:j6 l s x = (decide (x.f2 < 0) || (decide ((l.length:Int) ≤ x.f2) || !decide ((QG l s x).2 = 0))):=by unfold j6;rw [hkk];rfl
     have hak:QG l s x = YN (vS l x.f2) s:=by unfold QG;rw [if_neg hk0]
     have HAK:=zx.mk hak
     have sQ:=zx.mk hbd
     have HAB:=zx.mk (show ba = (j6 l s x || (bs.drop (k + 1)).any (j6 l s)) by rw [HA.out];exact HX.out.2.2)
     clear hak hbd hkk hk0 hk1 HA hbb x0 x1 x2 x3 x4 zJ2 zJ3 ht
     have bg:=zx.mk (fun (V:World) (h:Below wb.heap.size wb V)=>(show V.cell? ⟨gb,0,none⟩ = some (.pointer (some ⟨go,k * 7,none⟩)) ∧ V.cell? ⟨go,k * 7 + 2,none⟩ = some (.int .i64 x.f2) ∧ V.cell? ⟨g0 + 1,0,none⟩ = some (.slice Af l.length cf) from
      ⟨(h.cell (World.block_lt_of_cell? wb _ tb)).trans tb,(h.cell (World.block_lt_of_cell? wb _ x2b)).trans x2b,(h.cell (World.block_lt_of_cell? wb _ y5b)).trans y5b⟩))
     by_cases hn:x.f2 < 0
     ·have j1:decide (x.f2 < 0) = true:=decide_eq_true hn
      obtain rfl:ba = true:=by rw [HAB.out,sQ.out,j1];rfl
      clear hn
      go_wp2_with fail
      refine RW.rS (n:=14) bg shift.gV shift.Wx (by kernel_rfl) rfl rfl (fun w5 pV T U h=>?_)
      refine RW.rT 0 (some 46) T U h ?_
      refine RW.rP 1 (some 47) T ?_
      refine RW.rP 2 (some 48) T ?_
      refine RW.rT 3 (some 49) T U h ?_
      refine RW.rP 4 (some 50) T ?_
      refine RW.rP 5 (some 51) T ?_
      refine RW.rU 6 (some 52) T ?_
      refine RW.rU 7 (some 53) T ?_
      refine RW.rU 8 (some 54) T ?_
      refine RW.rU 9 (some 55) T ?_
      refine RW.rU 10 (some 56) T ?_
      refine RW.rU 11 (some 57) T ?_
      refine RW.rU 12 (some 58) T ?_
      refine RW.rP 13 (some 59) T ?_
      refine xE (qW T.out (by kernel_rfl)) ?_
      clear h
      go_wp2_with fail
      go_ret2
      exact ⟨rfl,by rw [← fB.out];exact (HW.out.trans (Qn.out.mono HW.out.size)).trans (pV.out.mono (Nat.le_trans HW.out.size Qn.out.size))⟩
     ·have j1:decide (x.f2 < 0) = false:=decide_eq_false hn
      by_cases hm:(l.length:Int) ≤ x.f2
      ·have j2:decide ((l.length:Int) ≤ x.f2) = true:=decide_eq_true hm
       obtain rfl:ba = true:=by rw [HAB.out,sQ.out,j1,j2];rfl
       clear hn hm
       go_wp2_with fail
       refine RW.rS (n:=14) bg shift.gV shift.Wx (by kernel_rfl) rfl rfl (fun w5 pV T U h=>?_)
       refine RW.rT 0 (some 46) T U h ?_
       refine RW.rP 1 (some 47) T ?_
       refine RW.rP 2 (some 48) T ?_
       refine RW.rT 3 (some 49) T U h ?_
       refine RW.rP 4 (some 50) T ?_
       refine RW.rP 5 (some 51) T ?_
       refine RW.rT 6 (some 52) T U h ?_
       refine RW.rP 7 (some 53) T ?_
       refine RW.rP 8 (some 54) T ?_
       refine RW.rT 9 (some 55) T U h ?_
       refine RW.rT 10 (some 56) T U h ?_
       refine RW.rP 11 (some 57) T ?_
       refine RW.rP 12 (some 58) T ?_
       refine RW.rP 13 (some 59) T ?_
       refine xE (qW T.out (by kernel_rfl)) ?_
       clear h
       go_wp2_with fail
       go_ret2
       exact ⟨rfl,by rw [← fB.out];exact (HW.out.trans (Qn.out.mono HW.out.size)).trans (pV.out.mono (Nat.le_trans HW.out.size Qn.out.size))⟩
      ·have j2:decide ((l.length:Int) ≤ x.f2) = false:=decide_eq_false hm
       have hf0:0 ≤ x.f2:=by omega
       have hf1:x.f2 < (l.length:Int):=by omega
       clear hn hm
       go_wp2_with fail
       refine RW.rS (n:=14) bg shift.gV shift.Wx (by kernel_rfl) rfl rfl (fun w5 pV T U h=>?_)
       refine RW.rT 0 (some 46) T U h ?_
       refine RW.rP 1 (some 47) T ?_
       refine RW.rP 2 (some 48) T ?_
       refine RW.rT 3 (some 49) T U h ?_
       refine RW.rP 4 (some 50) T ?_
       refine RW.rP 5 (some 51) T ?_
       refine RW.rT 6 (some 52) T U h ?_
       refine RW.rP 7 (some 53) T ?_
       refine RW.rP 8 (some 54) T ?_
       refine RW.rT 9 (some 55) T U h ?_
       refine RW.rT 10 (some 56) T U h ?_
       refine RW.rP 11 (some 57) T ?_
       refine RW.rP 12 (some 58) T ?_
       refine RW.rP 13 (some 59) T ?_
       refine xE (qW T.out (by kernel_rfl)) ?_
       clear h
       have sb:=Qn.out.size
       have bD:go < wb.heap.size:=by omega
       have gbb:gb < wb.heap.size:=World.block_lt_of_cell? wb _ tb
       have c0:w5.cell? ⟨go,k * 7,none⟩ = some (.int .i64 1):=(pV.out.cell (p:=⟨go,_,none⟩) bD).trans x0b
       have c1:w5.cell? ⟨go,k * 7 + 1,none⟩ = some (.int .i64 x.f1):=(pV.out.cell (p:=⟨go,_,none⟩) bD).trans x1b
       have c2:w5.cell? ⟨go,k * 7 + 2,none⟩ = some (.int .i64 x.f2):=(pV.out.cell (p:=⟨go,_,none⟩) bD).trans x2b
       have c3:w5.cell? ⟨go,k * 7 + 3,none⟩ = some (.int .i64 x.f3):=(pV.out.cell (p:=⟨go,_,none⟩) bD).trans x3b
       have c4:w5.cell? ⟨go,k * 7 + 4,none⟩ = some (.string x.f4):=(pV.out.cell (p:=⟨go,_,none⟩) bD).trans x4b
       have f1:w5.frozen? ⟨go,k * 7 + 1,none⟩ = false:=(pV.out.frozen (p:=⟨go,_,none⟩) bD).trans f1b
       have f3:w5.frozen? ⟨go,k * 7 + 3,none⟩ = false:=(pV.out.frozen (p:=⟨go,_,none⟩) bD).trans f3b
       have t5:w5.cell? ⟨gb,0,none⟩ = some (.pointer (some ⟨go,k * 7,none⟩)):=(pV.out.cell (p:=⟨gb,_,none⟩) gbb).trans tb
       have q4:w5.cell? ⟨g0,0,none⟩ = some (.int .i64 s):=(pV.out.cell (p:=⟨g0,_,none⟩) (by show g0 < wb.heap.size;omega)).trans y4b
       have q5:w5.cell? ⟨g0 + 1,0,none⟩ = some (.slice Af l.length cf):=(pV.out.cell (p:=⟨g0 + 1,_,none⟩) (by show g0 + 1 < wb.heap.size;omega)).trans y5b
       clear x0b x1b x2b x3b x4b f1b f3b tb y4b y5b bg T U y4 y5
       have iD:Below w.heap.size w w5:=(HW.out.trans (Qn.out.mono HW.out.size)).trans (pV.out.mono (Nat.le_trans HW.out.size Qn.out.size))
       have bE:=zKl g0 (g0 + 1) gb Af cf l s x.f2 go (k * 7) w5 (HG.out.under iD) (Kd.zh HC.out iD) hl hf0 hf1 HV.out ⟨q5,t5,q4⟩ c2
       rw [← HAK.out] at bE
       generalize QG l s x = av at bE HSH sQ
       obtain ⟨wv,we⟩:=av
       dsimp only at bE HSH sQ
       have HW5:=zx.mk iD
       have s5:=pV.out.size
       clear iD HAK
       go_wp2_with fail
       refine bE.mono ?_;rintro e w6 ⟨rfl,hb6⟩
       have go5:go < w5.heap.size:=by omega
       have gb5:gb < w5.heap.size:=by omega
       have d1:w6.cell? ⟨go,k * 7 + 1,none⟩ = some (.int .i64 x.f1):=(hb6.cell (p:=⟨go,_,none⟩) go5).trans c1
       have d3:w6.cell? ⟨go,k * 7 + 3,none⟩ = some (.int .i64 x.f3):=(hb6.cell (p:=⟨go,_,none⟩) go5).trans c3
       have e1:w6.frozen? ⟨go,k * 7 + 1,none⟩ = false:=(hb6.frozen (p:=⟨go,_,none⟩) go5).trans f1
       have e3:w6.frozen? ⟨go,k * 7 + 3,none⟩ = false:=(hb6.frozen (p:=⟨go,_,none⟩) go5).trans f3
       have t6:w6.cell? ⟨gb,0,none⟩ = some (.pointer (some ⟨go,k * 7,none⟩)):=(hb6.cell (p:=⟨gb,_,none⟩) gb5).trans t5
       have r4:w6.cell? ⟨g0,0,none⟩ = some (.int .i64 s):=(hb6.cell (p:=⟨g0,_,none⟩) (by show g0 < w5.heap.size;omega)).trans q4
       have HB6:=zx.mk (Below.trans pV.out (hb6.mono s5))
       have eU:=zx.mk (HW5.out.trans (hb6.mono HW5.out.size))
       clear c0 c1 c2 c3 c4 f1 f3 t5 q4 q5 hb6 bE
       by_cases he:we = 0
       ·have HE:=Lib.hid he
        subst he
        have zys:=zx.mk (fun (V:World) (h:Below w6.heap.size w6 V)=>(show V.cell? ⟨gb,0,none⟩ = some (.pointer (some ⟨go,k * 7,none⟩)) ∧ V.cell? ⟨g0,0,none⟩ = some (.int .i64 s) from
         ⟨(h.cell (World.block_lt_of_cell? w6 _ t6)).trans t6,(h.cell (World.block_lt_of_cell? w6 _ r4)).trans r4⟩))
        go_wp2_with fail
        refine RW.rSD (n:=10) [9] zys shift.zkq shift.zqs (by kernel_rfl) rfl rfl (fun w7 H7 T U h=>?_)
        refine RW.rT 0 (some 74) T U h ?_
        refine RW.rT 1 (some 75) T U h ?_
        refine RW.rP 2 (some 76) T ?_
        refine RW.rT 3 (some 77) T U h ?_
        refine RW.rP 4 (some 78) T ?_
        refine RW.rP 5 (some 79) T ?_
        clear h
        have go7:go < w6.heap.size:=World.block_lt_of_cell? w6 _ d1
        have u1:w7.cell? ⟨go,k * 7 + 1,none⟩ = some (.int .i64 x.f1):=(H7.out.cell (p:=⟨go,_,none⟩) go7).trans d1
        have v1:w7.frozen? ⟨go,k * 7 + 1,none⟩ = false:=(H7.out.frozen (p:=⟨go,_,none⟩) go7).trans e1
        have u3:w7.cell? ⟨go,k * 7 + 3,none⟩ = some (.int .i64 x.f3):=(H7.out.cell (p:=⟨go,_,none⟩) go7).trans d3
        have v3:w7.frozen? ⟨go,k * 7 + 3,none⟩ = false:=(H7.out.frozen (p:=⟨go,_,none⟩) go7).trans e3
        have h17:=zys.out _ H7.out
        have HW7:=zx.mk (eU.out.trans (H7.out.mono eU.out.size))
        have hr7:Below wr.heap.size wr w7:=(Qn.out.trans (HB6.out.mono Qn.out.size)).trans (H7.out.mono (Nat.le_trans Qn.out.size HB6.out.size))
        have HR7:=zx.mk hr7
        have hN7:=zac (Kd.jZ HI.out hr7) hlt (by rw [oP];exact hlt) wv s x HGX.out
        rw [← HSH.out,HX.out.2.1] at hN7
        have HN7:=zx.mk hN7
        refine Xb (i:=6) (N:=none) #[true,true,true,true,true,true,true,false,false,false] rfl rfl (jF T.out (by kernel_rfl)) (by decide) (fun K hK=>?_)
        refine U9 (w1:=?_) (by rfl) rfl ?_ ?_
        rotate_left
        ·go_simp
         rfl
        have S8:(w7.setCell ⟨go,k * 7 + 1,none⟩ (.int .i64 wv)).cell? ⟨gb,0,none⟩ = some (.pointer (some ⟨go,k * 7,none⟩)) ∧ (w7.setCell ⟨go,k * 7 + 1,none⟩ (.int .i64 wv)).cell? ⟨g0,0,none⟩ = some (.int .i64 s) :=
         ⟨(zqO (Below.heap_setCell w7 ⟨go,k * 7 + 1,none⟩ (.int .i64 wv) gb (by show gb ≠ go;omega))).trans h17.1,(zqO (Below.heap_setCell w7 ⟨go,k * 7 + 1,none⟩ (.int .i64 wv) g0 (by show g0 ≠ go;omega))).trans h17.2⟩
        refine hK.out _ _ S8 (fun h=>?_)
        clear hK K h hN7 hr7
        refine RW.rP 7 (some 80) T ?_
        refine RW.rP 8 (some 81) T ?_
        have z3:(w7.setCell ⟨go,k * 7 + 1,none⟩ (.int .i64 wv)).cell? ⟨go,k * 7 + 3,none⟩ = some (.int .i64 x.f3):=(World.cell?_setCell_other _ _ _ _ (by intro e;injection e with _ e;omega)).trans u3
        have z4:(w7.setCell ⟨go,k * 7 + 1,none⟩ (.int .i64 wv)).frozen? ⟨go,k * 7 + 3,none⟩ = false:=by simpa using v3
        refine dZ (i:=9) (N:=none) #[true,true,true,true,true,true,true,true,true,true] rfl rfl (jF T.out (by kernel_rfl)) (by decide) (fun K hK=>?_)
        refine U9 (w1:=?_) (by rfl) rfl ?_ ?_
        rotate_left
        ·go_simp
         rfl
        refine hK.out _ _ ?_
        clear hK K
        refine xE (qW T.out (by kernel_rfl)) ?_
        have HW9:=zx.mk ((HW7.out.setCell (p:=⟨go,k * 7 + 1,none⟩) (by show w.heap.size ≤ go;rw [fB.out];omega) (.int .i64 wv)).setCell (p:=⟨go,k * 7 + 3,none⟩) (by show w.heap.size ≤ go;rw [fB.out];omega) (.int .i64 s))
        have hn0:g0 ≠ go:=by omega
        have hn1:g0 + 1 ≠ go:=by omega
        have H49:=zx.mk ((Below.heap_setCell (w7.setCell ⟨go,k * 7 + 1,none⟩ (.int .i64 wv)) ⟨go,k * 7 + 3,none⟩ (.int .i64 s) g0 hn0).trans ((Below.heap_setCell w7 ⟨go,k * 7 + 1,none⟩ (.int .i64 wv) g0 hn0).trans (zM H4.out HR7.out)))
        have H59:=zx.mk ((Below.heap_setCell (w7.setCell ⟨go,k * 7 + 1,none⟩ (.int .i64 wv)) ⟨go,k * 7 + 3,none⟩ (.int .i64 s) (g0 + 1) hn1).trans ((Below.heap_setCell w7 ⟨go,k * 7 + 1,none⟩ (.int .i64 wv) (g0 + 1) hn1).trans (zM H5.out HR7.out)))
        have zyt:=zx.mk (show w2.heap.size ≤ ((w7.setCell ⟨go,k * 7 + 1,none⟩ (.int .i64 wv)).setCell ⟨go,k * 7 + 3,none⟩ (.int .i64 s)).heap.size by
         have h1:=HR7.out.size
         have h2:=HSZ.out
         simp
         omega)
        have HA9:=zx.mk (show ba = (bs.drop (k + 1)).any (j6 l s) by rw [HAB.out,sQ.out,j1,j2];rfl)
        generalize (w7.setCell ⟨go,k * 7 + 1,none⟩ (.int .i64 wv)).setCell ⟨go,k * 7 + 3,none⟩ (.int .i64 s) = w9 at HN7 HW9 H49 H59 zyt ⊢
        clear z3 z4 u1 v1 u3 v3 S8 h17 d1 d3 e1 e3 t6 r4
        go_wp2_with fail
        go_roundw
        case rel=>exact ⟨k + 1,by omega,by first | rfl | go_num,HN7,HW9,H49,H59,HA9,zyt⟩
        case measure=>simp [intOf];omega
       ·have j3:(we == 0) = false:=beq_eq_false_iff_ne.2 he
        have j4:(we != 0) = true:=by simpa using he
        have j5:(!(we == 0)) = true:=by simpa using he
        obtain rfl:ba = true:=by rw [HAB.out,sQ.out,j1,j2,decide_eq_false he];rfl
        clear he
        go_wp2_with fail
        go_ret2
        exact ⟨rfl,by rw [← fB.out];exact eU.out⟩
    ·have n0:(x.f0 == 0) = false:=beq_eq_false_iff_ne.2 hk0
     have n1:(x.f0 == 1) = false:=beq_eq_false_iff_ne.2 hk1
     have m0:(x.f0 != 0) = true:=by simpa using hk0
     have m1:(x.f0 != 1) = true:=by simpa using hk1
     have p0:(!(x.f0 == 0)) = true:=by simpa using hk0
     have p1:(!(x.f0 == 1)) = true:=by simpa using hk1
     have hsh:Zg l s x = x:=by unfold Zg;rw [if_neg (fun h=>h.elim hk0 hk1)]
     have hbd:j6 l s x = false:=by unfold j6;rw [decide_eq_false hk0,decide_eq_false hk1];rfl
     have hS1:=zx.mk (HX.out.1 hsh)
     have hA1:=zx.mk (show ba = (bs.drop (k + 1)).any (j6 l s) by rw [HA.out,HX.out.2.2,hbd];rfl)
     clear hsh hbd hk0 hk1
     have hba:Below wr.heap.size wr (wr.alloc (.cells #[.pointer (some ⟨go,k * 7,none⟩)] 123)):=(Below.refl _ wr).alloc (Nat.le_refl _) _
     have zyu:=zx.mk hba
     clear hba
     go_wp2_with fail
     go_roundw
     case rel=>exact ⟨k + 1,by omega,by first | rfl | go_num,⟨by rw [← hS1.out];exact Kd.jZ HI.out zyu.out⟩,⟨HW.out.trans (zyu.out.mono HW.out.size)⟩,⟨zM H4.out zyu.out⟩,⟨zM H5.out zyu.out⟩,hA1,⟨Nat.le_trans HSZ.out zyu.out.size⟩⟩
     case measure=>simp [intOf];omega
  ·obtain rfl:k = bs.length:=by omega
   have hA:=HA.out
   rw [List.drop_eq_nil_of_le (Nat.le_refl _)] at hA
   obtain rfl:ba = false:=hA
   clear HA
   go_wp2_with fail
   go_ret2
   refine ⟨?_,by rw [← fB.out];exact HW.out⟩
   exact ⟨_,rfl,by rw [← zcH];exact Kd.vJ (Kd.Xp HI.out (by omega)) (fun k hk=>trivial)⟩
def zJ4 (bs:List qV) (l:List y8):Bool:=decide (bs.length ≤ 1000000) && (bs.all (fun b=>decide (b.f6.length ≤ 1000000)) && (decide (l.length ≤ 1000000) && l.all (fun x=>decide (x.f3.length ≤ 1000000) && (decide (x.f4.length ≤ 1000000) && decide (x.f5.length ≤ 1000000)))))
def kF.f (bs:List qV) (s:Int) (l:List jd):Option (List qV × Int):=if zJ4 bs l = true then some (Wh l s bs) else none
theorem kF.calls (A0:Option Addr) (c0:Nat) (l0:List qV) (a1:Int) (A2:Option Addr) (c2:Nat) (l2:List jd) (r1:List qV) (r2:Int) (w:World) (hr0:Kd.C uj w A0 l0.length l0) (hc0:l0.length ≤ c0) (hr2:Kd.C kP w A2 l2.length l2) (hc2:l2.length ≤ c2) (hG:GW w) (h:kF.f l0 a1 l2 = some (r1,r2)) :
  Calls Tryz.prog 25 #[.slice A0 l0.length c0,.int .i64 a1,.slice A2 l2.length c2] w fun e w'=>∃ Q8,e = .returned (.tuple #[Q8,.int .i64 r2]) ∧ uj.S 53 w' w.heap.size (fun _=>True) Q8 r1 ∧ Below w.heap.size w w':=by
 unfold kF.f at h
 split at h
 case isFalse=>cases h
 case isTrue hz =>
  unfold zJ4 at hz
  simp only [Bool.and_eq_true,decide_eq_true_eq,List.all_eq_true] at hz
  obtain ⟨z1,z2,z3,z4⟩:=hz
  have hz4:∀ x ∈ l2,x.f3.length ≤ 1000000000 ∧ x.f4.length ≤ 1000000000 ∧ x.f5.length ≤ 1000000000:=fun x hx=>by
   have:=z4 x hx
   omega
  injection h with h
  unfold Wh at h
  cases hrf:WR l2 a1 with
  | true =>
   rw [hrf,if_pos rfl] at h
   injection h with h1 h2
   subst h1 h2
   exact (zWm A0 c0 l0 a1 A2 c2 l2 w hG hr2 (by omega) hz4 hrf).mono fun e w' ⟨e1,e2⟩=>⟨_,e1,Kd.Xo _ _ _ _ _,e2⟩
  | false =>
   rw [hrf,if_neg Bool.false_ne_true] at h
   have hy:=zKn A0 c0 l0 a1 A2 c2 l2 w hG hr0 z1 (fun b hb=>by have:=z2 b hb;omega) hr2 (by omega) hz4 hrf
   cases hb:l0.any (j6 l2 a1) with
   | true =>
    rw [hb,if_pos rfl] at h
    injection h with h1 h2
    subst h1 h2
    exact hy.mono fun e w' ⟨e1,e2⟩=>⟨_,by rw [hb,if_pos rfl] at e1;exact e1,Kd.Xo _ _ _ _ _,e2⟩
   | false =>
    rw [hb,if_neg Bool.false_ne_true] at h
    injection h with h1 h2
    subst h1 h2
    refine hy.mono fun e w' ⟨e1,e2⟩=>?_
    rw [hb,if_neg Bool.false_ne_true] at e1
    obtain ⟨v,e3,e4⟩:=e1
    exact ⟨v,e3,e4,e2⟩
end Go.Proofs.YtggifbbiiickmaaGreatDoor
