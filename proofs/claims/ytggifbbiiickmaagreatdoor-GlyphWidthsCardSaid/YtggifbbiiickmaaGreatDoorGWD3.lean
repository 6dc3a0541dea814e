/-
  Texts that lean on one another, laid in one file. No condition.
-/
import Derived.Test.YtggifbbiiickmaaGreatDoorGWD1
import Derived.Test.YtggifbbiiickmaaGreatDoorGWD2
import Derived.WalkKit
import Derived.WalkSpells
import Derived.WalkLawsBesides
import Derived.RangeFuncRecord
import Derived.Deep.QuietTactic
import Derived.BigQuiet
import Derived.RangeFuncBox
import Derived.Deep.DeepCutAuto
import Derived.RangeFuncNested
import Derived.RangeFuncBound
import Derived.RangeFuncCalls
import Derived.RangeFuncLeaves
import Derived.OwnWalkIn
import Derived.TacticsInMore
import Derived.LoopNIn
import Derived.LoopIn
import Derived.WideLaws
import Derived.Maps.Own
import Derived.Maps.OwnOps
import Derived.Maps.Views
import Derived.Maps.StringElems
import Derived.StringKeys
namespace Go.Proofs.YtggifbbiiickmaaGreatDoor.PX
open Go.RowKit Go.Proofs.zx.zJ Go.Proofs.zx.zu Go.Proofs.zx.zo
attribute [local go_sem] yU y7 qX qJ yM yN y8 y9   -- for this text's walks alone
set_option linter.unusedVariables false
set_option linter.unusedSimpArgs false
mutual
def zX.j0:Nat → Bool → Int → Int → Int → Int → ByteArray → ByteArray → List Int → Option (Bool)
 | 0,_,_,_,_,_,_,_,_=>none
 | k + 1,x24,xg,vS,vH,vI,xw,vC,xD=>if x24 = true then (some false) else (if vC.toList = ([]:List UInt8) then (zX.j1 k ((xD.length:Int) == 0) xg vS vH vI xw vC xD) else (zX.j1 k false xg vS vH vI xw vC xD))
def zX.j1:Nat → Bool → Int → Int → Int → Int → ByteArray → ByteArray → List Int → Option (Bool)
 | 0,_,_,_,_,_,_,_,_=>none
 | k + 1,x3,xg,vS,vH,vI,xw,vC,xD=>if vH = 0 then (if vI = 0 then (zX.j2 k x3 (xw.toList == ([]:List UInt8)) xg vS vH vI xw vC xD) else (zX.j2 k x3 false xg vS vH vI xw vC xD)) else (zX.j2 k x3 false xg vS vH vI xw vC xD)
def zX.j2:Nat → Bool → Bool → Int → Int → Int → Int → ByteArray → ByteArray → List Int → Option (Bool)
 | 0,_,_,_,_,_,_,_,_,_=>none
 | k + 1,x3,x4,xg,vS,vH,vI,xw,vC,xD=>if xg = 0 then ((qz.f k xw).bind fun zXt=>(if zXt = true then ((yg.f k vC).bind fun nW=>(if nW = true then (some ((xD.length:Int) == 0)) else (some false))) else (some false))) else (if xg = 1 then (if x3 = true then (if xw.toList = ([]:List UInt8) then (some true) else (some (xw.toList == ([126]:List UInt8)))) else (some false)) else (if xg = 2 then (zX.j3 k x3 x4 xg (xg == 2) xg vS vH vI xw vC xD) else (zX.j3 k x3 x4 xg (xg == 6) xg vS vH vI xw vC xD)))
def zX.j3:Nat → Bool → Bool → Int → Bool → Int → Int → Int → Int → ByteArray → ByteArray → List Int → Option (Bool)
 | 0,_,_,_,_,_,_,_,_,_,_,_=>none
 | k + 1,x3,x4,x48,x78,xg,vS,vH,vI,xw,vC,xD=>if x78 = true then (if x3 = true then (some x4) else (some false)) else (if x48 = 3 then (if x3 = true then (some x4) else (some false)) else (if x48 = 4 then (if (xD.length:Int) ≤ 40 then (if xw.toList = ([108]:List UInt8) then (zX.j4 k true xg vS vH vI xw vC xD) else (if xw.toList = ([99]:List UInt8) then (zX.j4 k true xg vS vH vI xw vC xD) else (if xw.toList = ([101]:List UInt8) then (zX.j4 k true xg vS vH vI xw vC xD) else (if xw.toList = ([97]:List UInt8) then (zX.j4 k true xg vS vH vI xw vC xD) else (zX.j4 k (xw.toList == ([126]:List UInt8)) xg vS vH vI xw vC xD))))) else (zX.j4 k false xg vS vH vI xw vC xD)) else (if x48 = 5 then (if x3 = true then (if x4 = true then (some (vS == 0)) else (some false)) else (some false)) else (some false))))
def zX.j4:Nat → Bool → Int → Int → Int → Int → ByteArray → ByteArray → List Int → Option (Bool)
 | 0,_,_,_,_,_,_,_,_=>none
 | k + 1,x5,xg,vS,vH,vI,xw,vC,xD=>zX.l0 k x5 0 xg vS vH vI xw vC xD
def zX.l0:Nat → Bool → Int → Int → Int → Int → Int → ByteArray → ByteArray → List Int → Option (Bool)
 | 0,_,_,_,_,_,_,_,_,_=>none
 | k + 1,x5,x6,xg,vS,vH,vI,xw,vC,xD=>if x6 < (xD.length:Int) then (if x5 = true then (if 0 ≤ x6 then (if (rd xD x6) ≥ (-1000000) then (zX.l0 k (decide ((rd xD x6) ≤ 1000000)) (wrap64 (x6 + 1)) xg vS vH vI xw vC xD) else (zX.l0 k false (wrap64 (x6 + 1)) xg vS vH vI xw vC xD)) else (none)) else (zX.l0 k false (wrap64 (x6 + 1)) xg vS vH vI xw vC xD)) else (if x5 = true then ((yg.f k vC).bind fun zz4=>(if zz4 = true then (if vH = 0 then (some (vI == 0)) else (some false)) else (some false))) else (some false))
end
def zX.f (k:Nat) (ze:Int) (zn:Int) (zi:Int) (yJ:Int) (zS:ByteArray) (yQ:ByteArray) (yx:List Int):Option (Bool):=if zn < (-1000000) then (zX.j0 k true ze zn zi yJ zS yQ yx) else (if zn > 1000000 then (zX.j0 k true ze zn zi yJ zS yQ yx) else (if zi < 0 then (zX.j0 k true ze zn zi yJ zS yQ yx) else (zX.j0 k (decide (yJ < 0)) ze zn zi yJ zS yQ yx)))
set_option maxHeartbeats 8000000 in
set_option maxRecDepth 100000 in
theorem zX.calls (k:Nat) (ze:Int) (zn:Int) (zi:Int) (yJ:Int) (zS:ByteArray) (yQ:ByteArray) (qd:Option Addr) (qg:Nat) (yx:List Int) (r:Bool) (w:World) (Wp:Kd.C (Kd.int .i64) w qd yx.length yx) (Ws:yx.length ≤ qg) (h:zX.f k ze zn zi yJ zS yQ yx = some r) :
  Calls Tryz.prog 33 #[.agg #[.int .i64 ze,.int .i64 zn,.int .i64 zi,.int .i64 yJ,.string zS,.string yQ,.slice qd yx.length qg]] w fun e w'=>e = .returned (.bool r) ∧ Below w.heap.size w w':=by
 have zz5:=Tryz.underlying53
 have gG:=zk.mk Wp
 have zWQ:=zk.mk Ws
 clear Wp Ws
 have HB:=zk.mk (Below.refl w.heap.size w)
 have H:(if zn < (-1000000) then (zX.j0 k true ze zn zi yJ zS yQ yx) else (if zn > 1000000 then (zX.j0 k true ze zn zi yJ zS yQ yx) else (if zi < 0 then (zX.j0 k true ze zn zi yJ zS yQ yx) else (zX.j0 k (decide (yJ < 0)) ze zn zi yJ zS yQ yx)))) = some r:=h
 clear h
 have ng:=zk.mk H
 clear H
 go_enter Tryz.func33,Tryz.ntmps33
 go_upto_region 1 with (first | ((with_reducible refine qY (N:=1) rfl ?_);(try (refine kG (by rfl) ?_;dsimp only));refine qm ?hg (N:=1) ?hd (cs:=#[.int .i64 ze,.int .i64 zn,.int .i64 zi,.int .i64 yJ,.string zS,.string yQ,.slice qd yx.length qg]) (t:=53) ?hr ?_;(case hd=>rfl);(case hg=>rfl);(case hr=>first | (go_simp;done) | (go_simp;rfl));intro zW hg w3 qo hb;have zh:=zk.mk (zF (zM HB.out) hb);have zG:=zk.mk (qo);have zU:=zk.mk ((by rw [hg];exact (zI (zM HB.out)):w.heap.size ≤ zW));have yc:=zk.mk ((by rw [hg];exact (zI (zM HB.out)):w.heap.size ≤ zW));clear HB;have HB:=zh;have zQ:=zG;have zoA:=zU;have wT:=yc;clear zh zG zU yc;clear hb qo hg))
 (try simp only [Act.put,List.setIfInBounds_toArray,List.set_cons_zero,List.set_cons_succ])
 go_cut [24] (fun v24 wc=>∃ (kq:Nat) (zvJ:Bool),v24 = .bool zvJ ∧ zk (zX.j0 kq zvJ ze zn zi yJ zS yQ yx = some r) ∧ zk (kq ≤ k) ∧ zk (wc.heap[zW]? = some (.cells #[.int .i64 ze,.int .i64 zn,.int .i64 zi,.int .i64 yJ,.string zS,.string yQ,(.slice qd yx.length qg)] 53 (0,0))) ∧ zk (Below w.heap.size w wc))
 case first =>
  have H:=ng.out
  clear ng
  by_cases c4:zn < (-1000000)
  ·rw [if_pos c4] at H
   have kD:decide (zn < (-1000000)) = true:=decide_eq_true c4
   clear c4
   (first | rw [kD] | (simp only [qR,qU];rw [kD]) | skip)
   have H':=zk.mk H
   clear H
   have Pg:w3.cell? ⟨zW,0,none⟩ = some (.int .i64 ze):=zK zQ 0
   have Ph:w3.cell? ⟨zW,1,none⟩ = some (.int .i64 zn):=zK zQ 1
   have Pm:w3.cell? ⟨zW,2,none⟩ = some (.int .i64 zi):=zK zQ 2
   have Pn:w3.cell? ⟨zW,3,none⟩ = some (.int .i64 yJ):=zK zQ 3
   have Po:w3.cell? ⟨zW,4,none⟩ = some (.string zS):=zK zQ 4
   have Pp:w3.cell? ⟨zW,5,none⟩ = some (.string yQ):=zK zQ 5
   have Pt:w3.cell? ⟨zW,6,none⟩ = some (.slice qd yx.length qg):=zK zQ 6
   have PD:=zy zQ.out 0
   have PE:=zy zQ.out 1
   have PG:=zy zQ.out 2
   have PI:=zy zQ.out 3
   have PL:=zy zQ.out 4
   have PN:=zy zQ.out 5
   have PO:=zy zQ.out 6
   go_wp2
   go_meet
   case rel=>exact ⟨_,(true),(by first | rfl | (simp;done) | (simp [*];done)),H',⟨by first | omega | exact Nat.le_refl _⟩,⟨vK zQ.out⟩,⟨zM HB.out⟩⟩
  ·rw [if_neg c4] at H
   have kD:decide (zn < (-1000000)) = false:=decide_eq_false c4
   clear c4
   (first | rw [kD] | (simp only [qR,qU];rw [kD]) | skip)
   by_cases c6:zn > 1000000
   ·rw [if_pos c6] at H
    have Zx:decide (1000000 < zn) = true:=decide_eq_true c6
    clear c6
    have H':=zk.mk H
    clear H
    have Ve:w3.cell? ⟨zW,0,none⟩ = some (.int .i64 ze):=zK zQ 0
    have Vf:w3.cell? ⟨zW,1,none⟩ = some (.int .i64 zn):=zK zQ 1
    have Vg:w3.cell? ⟨zW,2,none⟩ = some (.int .i64 zi):=zK zQ 2
    have Vh:w3.cell? ⟨zW,3,none⟩ = some (.int .i64 yJ):=zK zQ 3
    have Vi:w3.cell? ⟨zW,4,none⟩ = some (.string zS):=zK zQ 4
    have Vl:w3.cell? ⟨zW,5,none⟩ = some (.string yQ):=zK zQ 5
    have KA:w3.cell? ⟨zW,6,none⟩ = some (.slice qd yx.length qg):=zK zQ 6
    have Vm:=zy zQ.out 0
    have Vn:=zy zQ.out 1
    have Vo:=zy zQ.out 2
    have Vp:=zy zQ.out 3
    have Vr:=zy zQ.out 4
    have Vs:=zy zQ.out 5
    have KC:=zy zQ.out 6
    go_wp2
    go_meet
    case rel=>exact ⟨_,(true),(by first | rfl | (simp;done) | (simp [*];done)),H',⟨by first | omega | exact Nat.le_refl _⟩,⟨vK zQ.out⟩,⟨zM HB.out⟩⟩
   ·rw [if_neg c6] at H
    have Zx:decide (1000000 < zn) = false:=decide_eq_false c6
    clear c6
    by_cases c8:zi < 0
    ·rw [if_pos c8] at H
     have Z8:decide (zi < 0) = true:=decide_eq_true c8
     clear c8
     have H':=zk.mk H
     clear H
     have U7:w3.cell? ⟨zW,0,none⟩ = some (.int .i64 ze):=zK zQ 0
     have U8:w3.cell? ⟨zW,1,none⟩ = some (.int .i64 zn):=zK zQ 1
     have U9:w3.cell? ⟨zW,2,none⟩ = some (.int .i64 zi):=zK zQ 2
     have Jz:w3.cell? ⟨zW,3,none⟩ = some (.int .i64 yJ):=zK zQ 3
     have Jq:w3.cell? ⟨zW,4,none⟩ = some (.string zS):=zK zQ 4
     have Jj:w3.cell? ⟨zW,5,none⟩ = some (.string yQ):=zK zQ 5
     have PU:w3.cell? ⟨zW,6,none⟩ = some (.slice qd yx.length qg):=zK zQ 6
     have Jv:=zy zQ.out 0
     have Jk:=zy zQ.out 1
     have Jy:=zy zQ.out 2
     have Jw:=zy zQ.out 3
     have JZ:=zy zQ.out 4
     have JQ:=zy zQ.out 5
     have P5:=zy zQ.out 6
     go_wp2
     go_meet
     case rel=>exact ⟨_,(true),(by first | rfl | (simp;done) | (simp [*];done)),H',⟨by first | omega | exact Nat.le_refl _⟩,⟨vK zQ.out⟩,⟨zM HB.out⟩⟩
    ·rw [if_neg c8] at H
     have Z8:decide (zi < 0) = false:=decide_eq_false c8
     clear c8
     have H':=zk.mk H
     clear H
     have Uz:w3.cell? ⟨zW,0,none⟩ = some (.int .i64 ze):=zK zQ 0
     have Uq:w3.cell? ⟨zW,1,none⟩ = some (.int .i64 zn):=zK zQ 1
     have Ux:w3.cell? ⟨zW,2,none⟩ = some (.int .i64 zi):=zK zQ 2
     have Uj:w3.cell? ⟨zW,3,none⟩ = some (.int .i64 yJ):=zK zQ 3
     have Uv:w3.cell? ⟨zW,4,none⟩ = some (.string zS):=zK zQ 4
     have Uk:w3.cell? ⟨zW,5,none⟩ = some (.string yQ):=zK zQ 5
     have Uy:w3.cell? ⟨zW,6,none⟩ = some (.slice qd yx.length qg):=zK zQ 6
     have Uw:=zy zQ.out 0
     have UZ:=zy zQ.out 1
     have UQ:=zy zQ.out 2
     have UJ:=zy zQ.out 3
     have UK:=zy zQ.out 4
     have UY:=zy zQ.out 5
     have UW:=zy zQ.out 6
     go_wp2
     go_meet
     case rel=>exact ⟨_,(decide (yJ < 0)),(by first | rfl | (simp;done) | (simp [*];done)),H',⟨by first | omega | exact Nat.le_refl _⟩,⟨vK zQ.out⟩,⟨zM HB.out⟩⟩
 case rest=>as_aux_lemma =>
  clear ng
  try clear c4
  try clear kD
  try clear c6
  try clear Zx
  try clear c8
  try clear Z8
  try clear Uz
  try clear Uq
  try clear Ux
  try clear Uj
  try clear Uv
  try clear Uk
  try clear Uy
  try clear Pg
  try clear Ph
  try clear Pm
  try clear Pn
  try clear Po
  try clear Pp
  try clear Pt
  try clear Ve
  try clear Vf
  try clear Vg
  try clear Vh
  try clear Vi
  try clear Vl
  try clear KA
  try clear U7
  try clear U8
  try clear U9
  try clear Jz
  try clear Jq
  try clear Jj
  try clear PU
  try clear Uw
  try clear UZ
  try clear UQ
  try clear UJ
  try clear UK
  try clear UY
  try clear UW
  try clear PD
  try clear PE
  try clear PG
  try clear PI
  try clear PL
  try clear PN
  try clear PO
  try clear Vm
  try clear Vn
  try clear Vo
  try clear Vp
  try clear Vr
  try clear Vs
  try clear KC
  try clear Jv
  try clear Jk
  try clear Jy
  try clear Jw
  try clear JZ
  try clear JQ
  try clear P5
  obtain ⟨kq,zvJ,rfl,HA,wL,zQ,HB⟩:=hcut
  cases kq with
  | zero=>exact absurd HA.out (by simp [zX.j0])
  | succ YK =>
   have H:=HA.out
   clear HA
   simp only [zX.j0] at H
   by_cases c11:zvJ = true
   ·subst c11
    have H1:(some false) = some r:=by rw [if_pos rfl] at H;exact H
    clear H
    have H:=H1
    clear H1
    obtain rfl:=Option.some.inj H
    go_wp2
    go_ret
    exact ⟨by first | rfl | (simp [zl,zm] <;> rfl) | (simp [*,zl,zm] <;> rfl),by repeat (first | (with_reducible first | exact HB.out | apply zO | apply zC | apply zP | refine qw ?_ wT.out) | exact HB.out)⟩
   ·replace c11:=Bool.eq_false_iff.mpr c11
    subst c11
    have H1:(if yQ.toList = ([]:List UInt8) then (zX.j1 YK ((yx.length:Int) == 0) ze zn zi yJ zS yQ yx) else (zX.j1 YK false ze zn zi yJ zS yQ yx)) = some r:=by rw [if_neg (show ¬ (false = true) by decide)] at H;exact H
    clear H
    have H:=H1
    clear H1
    have zKI:=zk.mk H
    clear H
    go_upto_region 3 with (fail)
    go_cut [3] (fun v3 wc=>∃ (kq:Nat) (XP:Bool),v3 = .bool XP ∧ zk (zX.j1 kq XP ze zn zi yJ zS yQ yx = some r) ∧ zk (kq ≤ YK) ∧ zk (wc.heap[zW]? = some (.cells #[.int .i64 ze,.int .i64 zn,.int .i64 zi,.int .i64 yJ,.string zS,.string yQ,(.slice qd yx.length qg)] 53 (0,0))) ∧ zk (Below w.heap.size w wc))
    case first =>
     have H:=zKI.out
     clear zKI
     by_cases c13:yQ.toList = ([]:List UInt8)
     ·rw [if_pos c13] at H
      have VE:(yQ.toList == ([]:List UInt8)) = true:=beq_iff_eq.mpr c13
      have zXu:(!(yQ).toList.isEmpty) = false:=by rw [List.isEmpty_iff.mpr c13];rfl
      have gH:(yQ.toList != ([]:List UInt8)) = false:=bne_eq_false_iff_eq.mpr c13
      clear c13
      (first | rw [VE] | rw [zXu] | (simp only [qR,qU];rw [VE]) | skip)
      have H':=zk.mk H
      clear H
      have Y7:wc.cell? ⟨zW,0,none⟩ = some (.int .i64 ze):=zK zQ 0
      have Y8:wc.cell? ⟨zW,1,none⟩ = some (.int .i64 zn):=zK zQ 1
      have Y9:wc.cell? ⟨zW,2,none⟩ = some (.int .i64 zi):=zK zQ 2
      have Xz:wc.cell? ⟨zW,3,none⟩ = some (.int .i64 yJ):=zK zQ 3
      have Xq:wc.cell? ⟨zW,4,none⟩ = some (.string zS):=zK zQ 4
      have Xx:wc.cell? ⟨zW,5,none⟩ = some (.string yQ):=zK zQ 5
      have QD:wc.cell? ⟨zW,6,none⟩ = some (.slice qd yx.length qg):=zK zQ 6
      have Xj:=zy zQ.out 0
      have Xv:=zy zQ.out 1
      have Xk:=zy zQ.out 2
      have Xy:=zy zQ.out 3
      have Xw:=zy zQ.out 4
      have XZ:=zy zQ.out 5
      have QE:=zy zQ.out 6
      go_wp2
      go_meet
      case rel=>exact ⟨_,(((yx.length:Int) == 0)),(by first | rfl | (simp;done) | (simp [*];done)),H',⟨by have:=wL.out;first | omega | exact Nat.le_refl _⟩,⟨vK zQ.out⟩,⟨zM HB.out⟩⟩
     ·rw [if_neg c13] at H
      have VE:(yQ.toList == ([]:List UInt8)) = false:=beq_eq_false_iff_ne.mpr c13
      have zXu:(!(yQ).toList.isEmpty) = true:=by rw [List.isEmpty_eq_false_iff.mpr c13];rfl
      have gH:(yQ.toList != ([]:List UInt8)) = true:=bne_iff_ne.mpr c13
      (first | rw [VE] | rw [zXu] | (simp only [qR,qU];rw [VE]) | skip)
      have H':=zk.mk H
      clear H
      have P6:wc.cell? ⟨zW,0,none⟩ = some (.int .i64 ze):=zK zQ 0
      have P7:wc.cell? ⟨zW,1,none⟩ = some (.int .i64 zn):=zK zQ 1
      have P8:wc.cell? ⟨zW,2,none⟩ = some (.int .i64 zi):=zK zQ 2
      have P9:wc.cell? ⟨zW,3,none⟩ = some (.int .i64 yJ):=zK zQ 3
      have bq:wc.cell? ⟨zW,4,none⟩ = some (.string zS):=zK zQ 4
      have bZ:wc.cell? ⟨zW,5,none⟩ = some (.string yQ):=zK zQ 5
      have bQ:wc.cell? ⟨zW,6,none⟩ = some (.slice qd yx.length qg):=zK zQ 6
      have bX:=zy zQ.out 0
      have bJ:=zy zQ.out 1
      have bV:=zy zQ.out 2
      have bK:=zy zQ.out 3
      have bY:=zy zQ.out 4
      have bf:=zy zQ.out 5
      have bg:=zy zQ.out 6
      go_wp2
      go_meet
      case rel=>exact ⟨_,(false),(by first | rfl | (simp;done) | (simp [*];done)),H',⟨by have:=wL.out;first | omega | exact Nat.le_refl _⟩,⟨vK zQ.out⟩,⟨zM HB.out⟩⟩
    case rest=>as_aux_lemma =>
     clear zKI
     try clear c4
     try clear kD
     try clear c6
     try clear Zx
     try clear c8
     try clear Z8
     try clear c11
     try clear c13
     try clear VE
     try clear gH
     try clear Uz
     try clear Uq
     try clear Ux
     try clear Uj
     try clear Uv
     try clear Uk
     try clear Uy
     try clear Y7
     try clear Y8
     try clear Y9
     try clear Xz
     try clear Xq
     try clear Xx
     try clear QD
     try clear P6
     try clear P7
     try clear P8
     try clear P9
     try clear bq
     try clear bZ
     try clear bQ
     try clear Pg
     try clear Ph
     try clear Pm
     try clear Pn
     try clear Po
     try clear Pp
     try clear Pt
     try clear Ve
     try clear Vf
     try clear Vg
     try clear Vh
     try clear Vi
     try clear Vl
     try clear KA
     try clear U7
     try clear U8
     try clear U9
     try clear Jz
     try clear Jq
     try clear Jj
     try clear PU
     try clear Uw
     try clear UZ
     try clear UQ
     try clear UJ
     try clear UK
     try clear UY
     try clear UW
     try clear Xj
     try clear Xv
     try clear Xk
     try clear Xy
     try clear Xw
     try clear XZ
     try clear QE
     try clear bX
     try clear bJ
     try clear bV
     try clear bK
     try clear bY
     try clear bf
     try clear bg
     try clear PD
     try clear PE
     try clear PG
     try clear PI
     try clear PL
     try clear PN
     try clear PO
     try clear Vm
     try clear Vn
     try clear Vo
     try clear Vp
     try clear Vr
     try clear Vs
     try clear KC
     try clear Jv
     try clear Jk
     try clear Jy
     try clear Jw
     try clear JZ
     try clear JQ
     try clear P5
     obtain ⟨kq,XP,rfl,HA,YA,zQ,HB⟩:=hcut
     cases kq with
     | zero=>exact absurd HA.out (by simp [zX.j1])
     | succ zgz =>
      have H:=HA.out
      clear HA
      simp only [zX.j1] at H
      have zKL:=zk.mk H
      clear H
      go_upto_region 4 with (fail)
      go_cut [4] (fun v4 wc=>∃ (kq:Nat) (VF:Bool),v4 = .bool VF ∧ zk (zX.j2 kq XP VF ze zn zi yJ zS yQ yx = some r) ∧ zk (kq ≤ zgz) ∧ zk (wc.heap[zW]? = some (.cells #[.int .i64 ze,.int .i64 zn,.int .i64 zi,.int .i64 yJ,.string zS,.string yQ,(.slice qd yx.length qg)] 53 (0,0))) ∧ zk (Below w.heap.size w wc))
      case first =>
       have H:=zKL.out
       clear zKL
       by_cases c17:zi = 0
       ·rw [if_pos c17] at H
        have XR:(zi == 0) = true:=beq_iff_eq.mpr c17
        have Wt:(zi != 0) = false:=bne_eq_false_iff_eq.mpr c17
        clear c17
        (first | rw [XR] | (simp only [qR,qU];rw [XR]) | skip)
        by_cases c18:yJ = 0
        ·rw [if_pos c18] at H
         have gI:(yJ == 0) = true:=beq_iff_eq.mpr c18
         have gL:(yJ != 0) = false:=bne_eq_false_iff_eq.mpr c18
         clear c18
         have H':=zk.mk H
         clear H
         have QF:wc.cell? ⟨zW,0,none⟩ = some (.int .i64 ze):=zK zQ 0
         have QG:wc.cell? ⟨zW,1,none⟩ = some (.int .i64 zn):=zK zQ 1
         have QH:wc.cell? ⟨zW,2,none⟩ = some (.int .i64 zi):=zK zQ 2
         have QI:wc.cell? ⟨zW,3,none⟩ = some (.int .i64 yJ):=zK zQ 3
         have QL:wc.cell? ⟨zW,4,none⟩ = some (.string zS):=zK zQ 4
         have QM:wc.cell? ⟨zW,5,none⟩ = some (.string yQ):=zK zQ 5
         have QN:wc.cell? ⟨zW,6,none⟩ = some (.slice qd yx.length qg):=zK zQ 6
         have QO:=zy zQ.out 0
         have QS:=zy zQ.out 1
         have QT:=zy zQ.out 2
         have QU:=zy zQ.out 3
         have Q0:=zy zQ.out 4
         have Q5:=zy zQ.out 5
         have Q6:=zy zQ.out 6
         go_wp2
         go_meet
         case rel=>exact ⟨_,((zS.toList == ([]:List UInt8))),(by first | rfl | (simp;done) | (simp [*];done)),H',⟨by have:=wL.out;have:=YA.out;first | omega | exact Nat.le_refl _⟩,⟨vK zQ.out⟩,⟨zM HB.out⟩⟩
        ·rw [if_neg c18] at H
         have gI:(yJ == 0) = false:=beq_eq_false_iff_ne.mpr c18
         have gL:(yJ != 0) = true:=bne_iff_ne.mpr c18
         have H':=zk.mk H
         clear H
         have Ql:wc.cell? ⟨zW,0,none⟩ = some (.int .i64 ze):=zK zQ 0
         have Qm:wc.cell? ⟨zW,1,none⟩ = some (.int .i64 zn):=zK zQ 1
         have Qn:wc.cell? ⟨zW,2,none⟩ = some (.int .i64 zi):=zK zQ 2
         have Qo:wc.cell? ⟨zW,3,none⟩ = some (.int .i64 yJ):=zK zQ 3
         have Qp:wc.cell? ⟨zW,4,none⟩ = some (.string zS):=zK zQ 4
         have Qr:wc.cell? ⟨zW,5,none⟩ = some (.string yQ):=zK zQ 5
         have Ua:wc.cell? ⟨zW,6,none⟩ = some (.slice qd yx.length qg):=zK zQ 6
         have Qs:=zy zQ.out 0
         have Qt:=zy zQ.out 1
         have Qu:=zy zQ.out 2
         have QA:=zy zQ.out 3
         have QB:=zy zQ.out 4
         have QC:=zy zQ.out 5
         have Ub:=zy zQ.out 6
         go_wp2
         go_meet
         case rel=>exact ⟨_,(false),(by first | rfl | (simp;done) | (simp [*];done)),H',⟨by have:=wL.out;have:=YA.out;first | omega | exact Nat.le_refl _⟩,⟨vK zQ.out⟩,⟨zM HB.out⟩⟩
       ·rw [if_neg c17] at H
        have XR:(zi == 0) = false:=beq_eq_false_iff_ne.mpr c17
        have Wt:(zi != 0) = true:=bne_iff_ne.mpr c17
        (first | rw [XR] | (simp only [qR,qU];rw [XR]) | skip)
        have H':=zk.mk H
        clear H
        have bn:wc.cell? ⟨zW,0,none⟩ = some (.int .i64 ze):=zK zQ 0
        have bA:wc.cell? ⟨zW,1,none⟩ = some (.int .i64 zn):=zK zQ 1
        have bB:wc.cell? ⟨zW,2,none⟩ = some (.int .i64 zi):=zK zQ 2
        have bC:wc.cell? ⟨zW,3,none⟩ = some (.int .i64 yJ):=zK zQ 3
        have bD:wc.cell? ⟨zW,4,none⟩ = some (.string zS):=zK zQ 4
        have bE:wc.cell? ⟨zW,5,none⟩ = some (.string yQ):=zK zQ 5
        have bF:wc.cell? ⟨zW,6,none⟩ = some (.slice qd yx.length qg):=zK zQ 6
        have bH:=zy zQ.out 0
        have bI:=zy zQ.out 1
        have bL:=zy zQ.out 2
        have bM:=zy zQ.out 3
        have bN:=zy zQ.out 4
        have bO:=zy zQ.out 5
        have bP:=zy zQ.out 6
        go_wp2
        go_meet
        case rel=>exact ⟨_,(false),(by first | rfl | (simp;done) | (simp [*];done)),H',⟨by have:=wL.out;have:=YA.out;first | omega | exact Nat.le_refl _⟩,⟨vK zQ.out⟩,⟨zM HB.out⟩⟩
      case rest=>as_aux_lemma =>
       clear zKL
       try clear c4
       try clear kD
       try clear c6
       try clear Zx
       try clear c8
       try clear Z8
       try clear c11
       try clear c13
       try clear VE
       try clear gH
       try clear c17
       try clear XR
       try clear Wt
       try clear c18
       try clear gI
       try clear gL
       try clear Uz
       try clear Uq
       try clear Ux
       try clear Uj
       try clear Uv
       try clear Uk
       try clear Uy
       try clear Y7
       try clear Y8
       try clear Y9
       try clear Xz
       try clear Xq
       try clear Xx
       try clear QD
       try clear P6
       try clear P7
       try clear P8
       try clear P9
       try clear bq
       try clear bZ
       try clear bQ
       try clear QF
       try clear QG
       try clear QH
       try clear QI
       try clear QL
       try clear QM
       try clear QN
       try clear Ql
       try clear Qm
       try clear Qn
       try clear Qo
       try clear Qp
       try clear Qr
       try clear Ua
       try clear bn
       try clear bA
       try clear bB
       try clear bC
       try clear bD
       try clear bE
       try clear bF
       try clear Pg
       try clear Ph
       try clear Pm
       try clear Pn
       try clear Po
       try clear Pp
       try clear Pt
       try clear Ve
       try clear Vf
       try clear Vg
       try clear Vh
       try clear Vi
       try clear Vl
       try clear KA
       try clear U7
       try clear U8
       try clear U9
       try clear Jz
       try clear Jq
       try clear Jj
       try clear PU
       try clear Uw
       try clear UZ
       try clear UQ
       try clear UJ
       try clear UK
       try clear UY
       try clear UW
       try clear Xj
       try clear Xv
       try clear Xk
       try clear Xy
       try clear Xw
       try clear XZ
       try clear QE
       try clear bX
       try clear bJ
       try clear bV
       try clear bK
       try clear bY
       try clear bf
       try clear bg
       try clear QO
       try clear QS
       try clear QT
       try clear QU
       try clear Q0
       try clear Q5
       try clear Q6
       try clear Qs
       try clear Qt
       try clear Qu
       try clear QA
       try clear QB
       try clear QC
       try clear Ub
       try clear bH
       try clear bI
       try clear bL
       try clear bM
       try clear bN
       try clear bO
       try clear bP
       try clear PD
       try clear PE
       try clear PG
       try clear PI
       try clear PL
       try clear PN
       try clear PO
       try clear Vm
       try clear Vn
       try clear Vo
       try clear Vp
       try clear Vr
       try clear Vs
       try clear KC
       try clear Jv
       try clear Jk
       try clear Jy
       try clear Jw
       try clear JZ
       try clear JQ
       try clear P5
       obtain ⟨kq,VF,rfl,HA,VG,zQ,HB⟩:=hcut
       cases kq with
       | zero=>exact absurd HA.out (by simp [zX.j2])
       | succ ni =>
        have H:=HA.out
        clear HA
        simp only [zX.j2] at H
        by_cases fB:ze = 0
        ·rw [if_pos fB] at H
         have zvV:(ze == 0) = true:=beq_iff_eq.mpr fB
         have zvK:(ze != 0) = false:=bne_eq_false_iff_eq.mpr fB
         clear fB
         replace H:=Option.bind_eq_some_iff.mp H
         obtain ⟨zXt,zcw,H⟩:=H
         replace H:(if zXt = true then ((yg.f ni yQ).bind fun nW=>(if nW = true then (some ((yx.length:Int) == 0)) else (some false))) else (some false)) = some r:=H
         have A23:=zk.mk zcw
         clear zcw
         by_cases c24:zXt = true
         ·subst c24
          have H1:((yg.f ni yQ).bind fun nW=>(if nW = true then (some ((yx.length:Int) == 0)) else (some false))) = some r:=by rw [if_pos rfl] at H;exact H
          clear H
          have H:=H1
          clear H1
          replace H:=Option.bind_eq_some_iff.mp H
          obtain ⟨nW,zcZ,H⟩:=H
          replace H:(if nW = true then (some ((yx.length:Int) == 0)) else (some false)) = some r:=H
          have A25:=zk.mk zcZ
          clear zcZ
          by_cases bR:nW = true
          ·subst bR
           have H1:(some ((yx.length:Int) == 0)) = some r:=by rw [if_pos rfl] at H;exact H
           clear H
           have H:=H1
           clear H1
           obtain rfl:=Option.some.inj H
           have zz6:wc.cell? ⟨zW,0,none⟩ = some (.int .i64 ze):=zK zQ 0
           have zz7:wc.cell? ⟨zW,1,none⟩ = some (.int .i64 zn):=zK zQ 1
           have zz8:wc.cell? ⟨zW,2,none⟩ = some (.int .i64 zi):=zK zQ 2
           have zz9:wc.cell? ⟨zW,3,none⟩ = some (.int .i64 yJ):=zK zQ 3
           have zqz:wc.cell? ⟨zW,4,none⟩ = some (.string zS):=zK zQ 4
           have zqq:wc.cell? ⟨zW,5,none⟩ = some (.string yQ):=zK zQ 5
           have zqx:wc.cell? ⟨zW,6,none⟩ = some (.slice qd yx.length qg):=zK zQ 6
           have zqj:=zy zQ.out 0
           have zqv:=zy zQ.out 1
           have zqk:=zy zQ.out 2
           have zqy:=zy zQ.out 3
           have zqw:=zy zQ.out 4
           have zqZ:=zy zQ.out 5
           have zqQ:=zy zQ.out 6
           go_wp2_with (first | ((with_reducible refine yw (f:=49) rfl ?_);refine vR (some 53) Tryz.func49 #[.string zS] ?_;(with_reducible refine (qz.calls ni zS true _ A23.out).mono ?_);rintro e w' ⟨rfl,⟨nd,rfl⟩⟩;refine ⟨_,rfl,?_⟩) | (go_at_call 80;(with_reducible refine (yg.calls ni yQ true _ A25.out).mono ?_);rintro e w' ⟨rfl,⟨nd,rfl⟩⟩))
           go_ret
           exact ⟨by first | rfl | (simp [zl,zm] <;> rfl) | (simp [*,zl,zm] <;> rfl),by repeat (first | (with_reducible first | exact HB.out | apply zO | apply zC | apply zP | refine qw ?_ wT.out) | exact HB.out)⟩
          ·replace bR:=Bool.eq_false_iff.mpr bR
           subst bR
           have H1:(some false) = some r:=by rw [if_neg (show ¬ (false = true) by decide)] at H;exact H
           clear H
           have H:=H1
           clear H1
           obtain rfl:=Option.some.inj H
           have JG:wc.cell? ⟨zW,0,none⟩ = some (.int .i64 ze):=zK zQ 0
           have JH:wc.cell? ⟨zW,1,none⟩ = some (.int .i64 zn):=zK zQ 1
           have JI:wc.cell? ⟨zW,2,none⟩ = some (.int .i64 zi):=zK zQ 2
           have JL:wc.cell? ⟨zW,3,none⟩ = some (.int .i64 yJ):=zK zQ 3
           have JM:wc.cell? ⟨zW,4,none⟩ = some (.string zS):=zK zQ 4
           have JN:wc.cell? ⟨zW,5,none⟩ = some (.string yQ):=zK zQ 5
           have JO:wc.cell? ⟨zW,6,none⟩ = some (.slice qd yx.length qg):=zK zQ 6
           have JR:=zy zQ.out 0
           have JU:=zy zQ.out 1
           have J2:=zy zQ.out 2
           have J3:=zy zQ.out 3
           have J4:=zy zQ.out 4
           have J5:=zy zQ.out 5
           have J6:=zy zQ.out 6
           go_wp2_with (first | ((with_reducible refine yw (f:=49) rfl ?_);refine vR (some 53) Tryz.func49 #[.string zS] ?_;(with_reducible refine (qz.calls ni zS true _ A23.out).mono ?_);rintro e w' ⟨rfl,⟨nd,rfl⟩⟩;refine ⟨_,rfl,?_⟩) | (go_at_call 80;(with_reducible refine (yg.calls ni yQ false _ A25.out).mono ?_);rintro e w' ⟨rfl,⟨nd,rfl⟩⟩))
           go_ret
           exact ⟨by first | rfl | (simp [zl,zm] <;> rfl) | (simp [*,zl,zm] <;> rfl),by repeat (first | (with_reducible first | exact HB.out | apply zO | apply zC | apply zP | refine qw ?_ wT.out) | exact HB.out)⟩
         ·replace c24:=Bool.eq_false_iff.mpr c24
          subst c24
          have H1:(some false) = some r:=by rw [if_neg (show ¬ (false = true) by decide)] at H;exact H
          clear H
          have H:=H1
          clear H1
          obtain rfl:=Option.some.inj H
          have J7:wc.cell? ⟨zW,0,none⟩ = some (.int .i64 ze):=zK zQ 0
          have J8:wc.cell? ⟨zW,1,none⟩ = some (.int .i64 zn):=zK zQ 1
          have J9:wc.cell? ⟨zW,2,none⟩ = some (.int .i64 zi):=zK zQ 2
          have Kz:wc.cell? ⟨zW,3,none⟩ = some (.int .i64 yJ):=zK zQ 3
          have Kq:wc.cell? ⟨zW,4,none⟩ = some (.string zS):=zK zQ 4
          have Kj:wc.cell? ⟨zW,5,none⟩ = some (.string yQ):=zK zQ 5
          have Kv:wc.cell? ⟨zW,6,none⟩ = some (.slice qd yx.length qg):=zK zQ 6
          have Kk:=zy zQ.out 0
          have Ky:=zy zQ.out 1
          have Kw:=zy zQ.out 2
          have KZ:=zy zQ.out 3
          have KQ:=zy zQ.out 4
          have KX:=zy zQ.out 5
          have KJ:=zy zQ.out 6
          go_wp2_with (first | ((with_reducible refine yw (f:=49) rfl ?_);refine vR (some 53) Tryz.func49 #[.string zS] ?_;(with_reducible refine (qz.calls ni zS false _ A23.out).mono ?_);rintro e w' ⟨rfl,⟨nd,rfl⟩⟩;refine ⟨_,rfl,?_⟩))
          go_ret
          exact ⟨by first | rfl | (simp [zl,zm] <;> rfl) | (simp [*,zl,zm] <;> rfl),by repeat (first | (with_reducible first | exact HB.out | apply zO | apply zC | apply zP | refine qw ?_ wT.out) | exact HB.out)⟩
        ·rw [if_neg fB] at H
         have zvV:(ze == 0) = false:=beq_eq_false_iff_ne.mpr fB
         have zvK:(ze != 0) = true:=bne_iff_ne.mpr fB
         by_cases fC:ze = 1
         ·rw [if_pos fC] at H
          have zvY:(ze == 1) = true:=beq_iff_eq.mpr fC
          have zvW:(ze != 1) = false:=bne_eq_false_iff_eq.mpr fC
          clear fC
          by_cases c31:XP = true
          ·subst c31
           have H1:(if zS.toList = ([]:List UInt8) then (some true) else (some (zS.toList == ([126]:List UInt8)))) = some r:=by rw [if_pos rfl] at H;exact H
           clear H
           have H:=H1
           clear H1
           by_cases c32:zS.toList = ([]:List UInt8)
           ·rw [if_pos c32] at H
            have oI:(zS.toList == ([]:List UInt8)) = true:=beq_iff_eq.mpr c32
            have zd3:(!(zS).toList.isEmpty) = false:=by rw [List.isEmpty_iff.mpr c32];rfl
            have oL:(zS.toList != ([]:List UInt8)) = false:=bne_eq_false_iff_eq.mpr c32
            clear c32
            obtain rfl:=Option.some.inj H
            have zqX:wc.cell? ⟨zW,0,none⟩ = some (.int .i64 ze):=zK zQ 0
            have zqJ:wc.cell? ⟨zW,1,none⟩ = some (.int .i64 zn):=zK zQ 1
            have zqV:wc.cell? ⟨zW,2,none⟩ = some (.int .i64 zi):=zK zQ 2
            have zqK:wc.cell? ⟨zW,3,none⟩ = some (.int .i64 yJ):=zK zQ 3
            have zqY:wc.cell? ⟨zW,4,none⟩ = some (.string zS):=zK zQ 4
            have zqW:wc.cell? ⟨zW,5,none⟩ = some (.string yQ):=zK zQ 5
            have zqa:wc.cell? ⟨zW,6,none⟩ = some (.slice qd yx.length qg):=zK zQ 6
            have zqb:=zy zQ.out 0
            have zqc:=zy zQ.out 1
            have zqd:=zy zQ.out 2
            have zqe:=zy zQ.out 3
            have zqf:=zy zQ.out 4
            have zqg:=zy zQ.out 5
            have zqh:=zy zQ.out 6
            go_wp2
            go_ret
            exact ⟨by first | rfl | (simp [zl,zm] <;> rfl) | (simp [*,zl,zm] <;> rfl),by repeat (first | (with_reducible first | exact HB.out | apply zO | apply zC | apply zP | refine qw ?_ wT.out) | exact HB.out)⟩
           ·rw [if_neg c32] at H
            have oI:(zS.toList == ([]:List UInt8)) = false:=beq_eq_false_iff_ne.mpr c32
            have zd3:(!(zS).toList.isEmpty) = true:=by rw [List.isEmpty_eq_false_iff.mpr c32];rfl
            have oL:(zS.toList != ([]:List UInt8)) = true:=bne_iff_ne.mpr c32
            obtain rfl:=Option.some.inj H
            have zqi:wc.cell? ⟨zW,0,none⟩ = some (.int .i64 ze):=zK zQ 0
            have zql:wc.cell? ⟨zW,1,none⟩ = some (.int .i64 zn):=zK zQ 1
            have zqm:wc.cell? ⟨zW,2,none⟩ = some (.int .i64 zi):=zK zQ 2
            have zqn:wc.cell? ⟨zW,3,none⟩ = some (.int .i64 yJ):=zK zQ 3
            have zqo:wc.cell? ⟨zW,4,none⟩ = some (.string zS):=zK zQ 4
            have zqp:wc.cell? ⟨zW,5,none⟩ = some (.string yQ):=zK zQ 5
            have zqr:wc.cell? ⟨zW,6,none⟩ = some (.slice qd yx.length qg):=zK zQ 6
            have zqs:=zy zQ.out 0
            have zqt:=zy zQ.out 1
            have zqu:=zy zQ.out 2
            have zqA:=zy zQ.out 3
            have zqB:=zy zQ.out 4
            have zqC:=zy zQ.out 5
            have zqD:=zy zQ.out 6
            go_wp2
            go_ret
            exact ⟨by first | rfl | (simp [zl,zm] <;> rfl) | (simp [*,zl,zm] <;> rfl),by repeat (first | (with_reducible first | exact HB.out | apply zO | apply zC | apply zP | refine qw ?_ wT.out) | exact HB.out)⟩
          ·replace c31:=Bool.eq_false_iff.mpr c31
           subst c31
           have H1:(some false) = some r:=by rw [if_neg (show ¬ (false = true) by decide)] at H;exact H
           clear H
           have H:=H1
           clear H1
           obtain rfl:=Option.some.inj H
           have zqE:wc.cell? ⟨zW,0,none⟩ = some (.int .i64 ze):=zK zQ 0
           have zqF:wc.cell? ⟨zW,1,none⟩ = some (.int .i64 zn):=zK zQ 1
           have zqG:wc.cell? ⟨zW,2,none⟩ = some (.int .i64 zi):=zK zQ 2
           have zqH:wc.cell? ⟨zW,3,none⟩ = some (.int .i64 yJ):=zK zQ 3
           have zqI:wc.cell? ⟨zW,4,none⟩ = some (.string zS):=zK zQ 4
           have zqL:wc.cell? ⟨zW,5,none⟩ = some (.string yQ):=zK zQ 5
           have zqM:wc.cell? ⟨zW,6,none⟩ = some (.slice qd yx.length qg):=zK zQ 6
           have zqN:=zy zQ.out 0
           have zqO:=zy zQ.out 1
           have zqP:=zy zQ.out 2
           have zqR:=zy zQ.out 3
           have zqS:=zy zQ.out 4
           have zqT:=zy zQ.out 5
           have zqU:=zy zQ.out 6
           go_wp2
           go_ret
           exact ⟨by first | rfl | (simp [zl,zm] <;> rfl) | (simp [*,zl,zm] <;> rfl),by repeat (first | (with_reducible first | exact HB.out | apply zO | apply zC | apply zP | refine qw ?_ wT.out) | exact HB.out)⟩
         ·rw [if_neg fC] at H
          have zvY:(ze == 1) = false:=beq_eq_false_iff_ne.mpr fC
          have zvW:(ze != 1) = true:=bne_iff_ne.mpr fC
          have zKM:=zk.mk H
          clear H
          have zq0:wc.cell? ⟨zW,0,none⟩ = some (.int .i64 ze):=zK zQ 0
          have zq1:wc.cell? ⟨zW,1,none⟩ = some (.int .i64 zn):=zK zQ 1
          have zq2:wc.cell? ⟨zW,2,none⟩ = some (.int .i64 zi):=zK zQ 2
          have zq3:wc.cell? ⟨zW,3,none⟩ = some (.int .i64 yJ):=zK zQ 3
          have zq4:wc.cell? ⟨zW,4,none⟩ = some (.string zS):=zK zQ 4
          have zq5:wc.cell? ⟨zW,5,none⟩ = some (.string yQ):=zK zQ 5
          have zq6:wc.cell? ⟨zW,6,none⟩ = some (.slice qd yx.length qg):=zK zQ 6
          have zq7:=zy zQ.out 0
          have zq8:=zy zQ.out 1
          have zq9:=zy zQ.out 2
          have zxz:=zy zQ.out 3
          have zxq:=zy zQ.out 4
          have zxx:=zy zQ.out 5
          have zxj:=zy zQ.out 6
          go_upto_if 78 with (fail)
          go_cut [78] (fun v78 wc=>∃ (kq:Nat) (oM:Bool),v78 = .bool oM ∧ zk (zX.j3 kq XP VF ze oM ze zn zi yJ zS yQ yx = some r) ∧ zk (kq ≤ ni) ∧ zk (wc.heap[zW]? = some (.cells #[.int .i64 ze,.int .i64 zn,.int .i64 zi,.int .i64 yJ,.string zS,.string yQ,(.slice qd yx.length qg)] 53 (0,0))) ∧ zk (Below w.heap.size w wc))
          case first =>
           have H:=zKM.out
           clear zKM
           by_cases fD:ze = 2
           ·rw [if_pos fD] at H
            have Wu:(ze == 2) = true:=beq_iff_eq.mpr fD
            have zva:(ze != 2) = false:=bne_eq_false_iff_eq.mpr fD
            clear fD
            (first | rw [Wu] | (simp only [qR,qU];rw [Wu]) | skip)
            have H':=zk.mk H
            clear H
            go_wp2
            go_meet
            case rel=>exact ⟨_,((ze == 2)),(by first | rfl | (simp;done) | (simp [*];done)),H',⟨by have:=wL.out;have:=YA.out;have:=VG.out;first | omega | exact Nat.le_refl _⟩,⟨vK zQ.out⟩,⟨zM HB.out⟩⟩
           ·rw [if_neg fD] at H
            have Wu:(ze == 2) = false:=beq_eq_false_iff_ne.mpr fD
            have zva:(ze != 2) = true:=bne_iff_ne.mpr fD
            (first | rw [Wu] | (simp only [qR,qU];rw [Wu]) | skip)
            have H':=zk.mk H
            clear H
            go_wp2
            go_meet
            case rel=>exact ⟨_,((ze == 6)),(by first | rfl | (simp;done) | (simp [*];done)),H',⟨by have:=wL.out;have:=YA.out;have:=VG.out;first | omega | exact Nat.le_refl _⟩,⟨vK zQ.out⟩,⟨zM HB.out⟩⟩
          case rest=>as_aux_lemma =>
           clear zKM
           try clear c4
           try clear kD
           try clear c6
           try clear Zx
           try clear c8
           try clear Z8
           try clear c11
           try clear c13
           try clear VE
           try clear gH
           try clear c17
           try clear XR
           try clear Wt
           try clear c18
           try clear gI
           try clear gL
           try clear fB
           try clear zvV
           try clear zvK
           try clear c24
           try clear bR
           try clear fC
           try clear zvY
           try clear zvW
           try clear c31
           try clear c32
           try clear oI
           try clear oL
           try clear fD
           try clear Wu
           try clear zva
           try clear Uz
           try clear Uq
           try clear Ux
           try clear Uj
           try clear Uv
           try clear Uk
           try clear Uy
           try clear Y7
           try clear Y8
           try clear Y9
           try clear Xz
           try clear Xq
           try clear Xx
           try clear QD
           try clear P6
           try clear P7
           try clear P8
           try clear P9
           try clear bq
           try clear bZ
           try clear bQ
           try clear QF
           try clear QG
           try clear QH
           try clear QI
           try clear QL
           try clear QM
           try clear QN
           try clear Ql
           try clear Qm
           try clear Qn
           try clear Qo
           try clear Qp
           try clear Qr
           try clear Ua
           try clear bn
           try clear bA
           try clear bB
           try clear bC
           try clear bD
           try clear bE
           try clear bF
           try clear zz6
           try clear zz7
           try clear zz8
           try clear zz9
           try clear zqz
           try clear zqq
           try clear zqx
           try clear JG
           try clear JH
           try clear JI
           try clear JL
           try clear JM
           try clear JN
           try clear JO
           try clear J7
           try clear J8
           try clear J9
           try clear Kz
           try clear Kq
           try clear Kj
           try clear Kv
           try clear zqX
           try clear zqJ
           try clear zqV
           try clear zqK
           try clear zqY
           try clear zqW
           try clear zqa
           try clear zqi
           try clear zql
           try clear zqm
           try clear zqn
           try clear zqo
           try clear zqp
           try clear zqr
           try clear zqE
           try clear zqF
           try clear zqG
           try clear zqH
           try clear zqI
           try clear zqL
           try clear zqM
           try clear zq0
           try clear zq1
           try clear zq2
           try clear zq3
           try clear zq4
           try clear zq5
           try clear zq6
           try clear Pg
           try clear Ph
           try clear Pm
           try clear Pn
           try clear Po
           try clear Pp
           try clear Pt
           try clear Ve
           try clear Vf
           try clear Vg
           try clear Vh
           try clear Vi
           try clear Vl
           try clear KA
           try clear U7
           try clear U8
           try clear U9
           try clear Jz
           try clear Jq
           try clear Jj
           try clear PU
           try clear Uw
           try clear UZ
           try clear UQ
           try clear UJ
           try clear UK
           try clear UY
           try clear UW
           try clear Xj
           try clear Xv
           try clear Xk
           try clear Xy
           try clear Xw
           try clear XZ
           try clear QE
           try clear bX
           try clear bJ
           try clear bV
           try clear bK
           try clear bY
           try clear bf
           try clear bg
           try clear QO
           try clear QS
           try clear QT
           try clear QU
           try clear Q0
           try clear Q5
           try clear Q6
           try clear Qs
           try clear Qt
           try clear Qu
           try clear QA
           try clear QB
           try clear QC
           try clear Ub
           try clear bH
           try clear bI
           try clear bL
           try clear bM
           try clear bN
           try clear bO
           try clear bP
           try clear zqj
           try clear zqv
           try clear zqk
           try clear zqy
           try clear zqw
           try clear zqZ
           try clear zqQ
           try clear JR
           try clear JU
           try clear J2
           try clear J3
           try clear J4
           try clear J5
           try clear J6
           try clear Kk
           try clear Ky
           try clear Kw
           try clear KZ
           try clear KQ
           try clear KX
           try clear KJ
           try clear zqb
           try clear zqc
           try clear zqd
           try clear zqe
           try clear zqf
           try clear zqg
           try clear zqh
           try clear zqs
           try clear zqt
           try clear zqu
           try clear zqA
           try clear zqB
           try clear zqC
           try clear zqD
           try clear zqN
           try clear zqO
           try clear zqP
           try clear zqR
           try clear zqS
           try clear zqT
           try clear zqU
           try clear zq7
           try clear zq8
           try clear zq9
           try clear zxz
           try clear zxq
           try clear zxx
           try clear zxj
           try clear PD
           try clear PE
           try clear PG
           try clear PI
           try clear PL
           try clear PN
           try clear PO
           try clear Vm
           try clear Vn
           try clear Vo
           try clear Vp
           try clear Vr
           try clear Vs
           try clear KC
           try clear Jv
           try clear Jk
           try clear Jy
           try clear Jw
           try clear JZ
           try clear JQ
           try clear P5
           obtain ⟨kq,oM,rfl,HA,Jg,zQ,HB⟩:=hcut
           cases kq with
           | zero=>exact absurd HA.out (by simp [zX.j3])
           | succ iX =>
            have H:=HA.out
            clear HA
            simp only [zX.j3] at H
            by_cases c39:oM = true
            ·subst c39
             have H1:(if XP = true then (some VF) else (some false)) = some r:=by rw [if_pos rfl] at H;exact H
             clear H
             have H:=H1
             clear H1
             by_cases c40:XP = true
             ·subst c40
              have H1:(some VF) = some r:=by rw [if_pos rfl] at H;exact H
              clear H
              have H:=H1
              clear H1
              obtain rfl:=Option.some.inj H
              go_wp2
              go_ret
              exact ⟨by first | rfl | (simp [zl,zm] <;> rfl) | (simp [*,zl,zm] <;> rfl),by repeat (first | (with_reducible first | exact HB.out | apply zO | apply zC | apply zP | refine qw ?_ wT.out) | exact HB.out)⟩
             ·replace c40:=Bool.eq_false_iff.mpr c40
              subst c40
              have H1:(some false) = some r:=by rw [if_neg (show ¬ (false = true) by decide)] at H;exact H
              clear H
              have H:=H1
              clear H1
              obtain rfl:=Option.some.inj H
              go_wp2
              go_ret
              exact ⟨by first | rfl | (simp [zl,zm] <;> rfl) | (simp [*,zl,zm] <;> rfl),by repeat (first | (with_reducible first | exact HB.out | apply zO | apply zC | apply zP | refine qw ?_ wT.out) | exact HB.out)⟩
            ·replace c39:=Bool.eq_false_iff.mpr c39
             subst c39
             have H1:(if ze = 3 then (if XP = true then (some VF) else (some false)) else (if ze = 4 then (if (yx.length:Int) ≤ 40 then (if zS.toList = ([108]:List UInt8) then (zX.j4 iX true ze zn zi yJ zS yQ yx) else (if zS.toList = ([99]:List UInt8) then (zX.j4 iX true ze zn zi yJ zS yQ yx) else (if zS.toList = ([101]:List UInt8) then (zX.j4 iX true ze zn zi yJ zS yQ yx) else (if zS.toList = ([97]:List UInt8) then (zX.j4 iX true ze zn zi yJ zS yQ yx) else (zX.j4 iX (zS.toList == ([126]:List UInt8)) ze zn zi yJ zS yQ yx))))) else (zX.j4 iX false ze zn zi yJ zS yQ yx)) else (if ze = 5 then (if XP = true then (if VF = true then (some (zn == 0)) else (some false)) else (some false)) else (some false)))) = some r:=by rw [if_neg (show ¬ (false = true) by decide)] at H;exact H
             clear H
             have H:=H1
             clear H1
             by_cases oN:ze = 3
             ·rw [if_pos oN] at H
              have zXA:(ze == 3) = true:=beq_iff_eq.mpr oN
              have zXB:(ze != 3) = false:=bne_eq_false_iff_eq.mpr oN
              clear oN
              by_cases c42:XP = true
              ·subst c42
               have H1:(some VF) = some r:=by rw [if_pos rfl] at H;exact H
               clear H
               have H:=H1
               clear H1
               obtain rfl:=Option.some.inj H
               go_wp2
               go_ret
               exact ⟨by first | rfl | (simp [zl,zm] <;> rfl) | (simp [*,zl,zm] <;> rfl),by repeat (first | (with_reducible first | exact HB.out | apply zO | apply zC | apply zP | refine qw ?_ wT.out) | exact HB.out)⟩
              ·replace c42:=Bool.eq_false_iff.mpr c42
               subst c42
               have H1:(some false) = some r:=by rw [if_neg (show ¬ (false = true) by decide)] at H;exact H
               clear H
               have H:=H1
               clear H1
               obtain rfl:=Option.some.inj H
               go_wp2
               go_ret
               exact ⟨by first | rfl | (simp [zl,zm] <;> rfl) | (simp [*,zl,zm] <;> rfl),by repeat (first | (with_reducible first | exact HB.out | apply zO | apply zC | apply zP | refine qw ?_ wT.out) | exact HB.out)⟩
             ·rw [if_neg oN] at H
              have zXA:(ze == 3) = false:=beq_eq_false_iff_ne.mpr oN
              have zXB:(ze != 3) = true:=bne_iff_ne.mpr oN
              by_cases oO:ze = 4
              ·rw [if_pos oO] at H
               have zXC:(ze == 4) = true:=beq_iff_eq.mpr oO
               have zXD:(ze != 4) = false:=bne_eq_false_iff_eq.mpr oO
               clear oO
               have zKN:=zk.mk H
               clear H
               go_upto_region 16 with (fail)
               go_cut [5] (fun v5 wc=>∃ (kq:Nat) (zvb:Bool),v5 = .bool zvb ∧ zk (zX.j4 kq zvb ze zn zi yJ zS yQ yx = some r) ∧ zk (kq ≤ iX) ∧ zk (wc.heap[zW]? = some (.cells #[.int .i64 ze,.int .i64 zn,.int .i64 zi,.int .i64 yJ,.string zS,.string yQ,(.slice qd yx.length qg)] 53 (0,0))) ∧ zk (Below w.heap.size w wc))
               case first =>
                have H:=zKN.out
                clear zKN
                by_cases c45:(yx.length:Int) ≤ 40
                ·rw [if_pos c45] at H
                 have gM:decide ((yx.length:Int) ≤ 40) = true:=decide_eq_true c45
                 have zXE:decide (yx.length ≤ 40) = true:=decide_eq_true (by omega)
                 clear c45
                 (first | rw [gM] | (simp only [qR,qU];rw [gM]) | skip)
                 by_cases c46:zS.toList = ([108]:List UInt8)
                 ·rw [if_pos c46] at H
                  have zXF:(zS.toList == ([108]:List UInt8)) = true:=beq_iff_eq.mpr c46
                  have zXG:(zS.toList != ([108]:List UInt8)) = false:=bne_eq_false_iff_eq.mpr c46
                  clear c46
                  have H':=zk.mk H
                  clear H
                  have zya:wc.cell? ⟨zW,0,none⟩ = some (.int .i64 ze):=zK zQ 0
                  have zyb:wc.cell? ⟨zW,1,none⟩ = some (.int .i64 zn):=zK zQ 1
                  have zyc:wc.cell? ⟨zW,2,none⟩ = some (.int .i64 zi):=zK zQ 2
                  have zyd:wc.cell? ⟨zW,3,none⟩ = some (.int .i64 yJ):=zK zQ 3
                  have zye:wc.cell? ⟨zW,4,none⟩ = some (.string zS):=zK zQ 4
                  have zyf:wc.cell? ⟨zW,5,none⟩ = some (.string yQ):=zK zQ 5
                  have zyg:wc.cell? ⟨zW,6,none⟩ = some (.slice qd yx.length qg):=zK zQ 6
                  have zyh:=zy zQ.out 0
                  have zyi:=zy zQ.out 1
                  have zyl:=zy zQ.out 2
                  have zym:=zy zQ.out 3
                  have zyn:=zy zQ.out 4
                  have zyo:=zy zQ.out 5
                  have zyp:=zy zQ.out 6
                  go_wp2
                  go_meet
                  case rel=>exact ⟨_,(true),(by first | rfl | (simp;done) | (simp [*];done)),H',⟨by have:=wL.out;have:=YA.out;have:=VG.out;have:=Jg.out;first | omega | exact Nat.le_refl _⟩,⟨vK zQ.out⟩,⟨zM HB.out⟩⟩
                 ·rw [if_neg c46] at H
                  have zXF:(zS.toList == ([108]:List UInt8)) = false:=beq_eq_false_iff_ne.mpr c46
                  have zXG:(zS.toList != ([108]:List UInt8)) = true:=bne_iff_ne.mpr c46
                  by_cases WA:zS.toList = ([99]:List UInt8)
                  ·rw [if_pos WA] at H
                   have zvc:(zS.toList == ([99]:List UInt8)) = true:=beq_iff_eq.mpr WA
                   have zXH:(zS.toList != ([99]:List UInt8)) = false:=bne_eq_false_iff_eq.mpr WA
                   clear WA
                   have H':=zk.mk H
                   clear H
                   have zyr:wc.cell? ⟨zW,0,none⟩ = some (.int .i64 ze):=zK zQ 0
                   have zys:wc.cell? ⟨zW,1,none⟩ = some (.int .i64 zn):=zK zQ 1
                   have zyt:wc.cell? ⟨zW,2,none⟩ = some (.int .i64 zi):=zK zQ 2
                   have zyu:wc.cell? ⟨zW,3,none⟩ = some (.int .i64 yJ):=zK zQ 3
                   have zyA:wc.cell? ⟨zW,4,none⟩ = some (.string zS):=zK zQ 4
                   have zyB:wc.cell? ⟨zW,5,none⟩ = some (.string yQ):=zK zQ 5
                   have zyC:wc.cell? ⟨zW,6,none⟩ = some (.slice qd yx.length qg):=zK zQ 6
                   have zyD:=zy zQ.out 0
                   have zyE:=zy zQ.out 1
                   have zyF:=zy zQ.out 2
                   have zyG:=zy zQ.out 3
                   have zyH:=zy zQ.out 4
                   have zyI:=zy zQ.out 5
                   have zyL:=zy zQ.out 6
                   go_wp2
                   go_meet
                   case rel=>exact ⟨_,(true),(by first | rfl | (simp;done) | (simp [*];done)),H',⟨by have:=wL.out;have:=YA.out;have:=VG.out;have:=Jg.out;first | omega | exact Nat.le_refl _⟩,⟨vK zQ.out⟩,⟨zM HB.out⟩⟩
                  ·rw [if_neg WA] at H
                   have zvc:(zS.toList == ([99]:List UInt8)) = false:=beq_eq_false_iff_ne.mpr WA
                   have zXH:(zS.toList != ([99]:List UInt8)) = true:=bne_iff_ne.mpr WA
                   by_cases oP:zS.toList = ([101]:List UInt8)
                   ·rw [if_pos oP] at H
                    have zXI:(zS.toList == ([101]:List UInt8)) = true:=beq_iff_eq.mpr oP
                    have zXL:(zS.toList != ([101]:List UInt8)) = false:=bne_eq_false_iff_eq.mpr oP
                    clear oP
                    have H':=zk.mk H
                    clear H
                    have zyM:wc.cell? ⟨zW,0,none⟩ = some (.int .i64 ze):=zK zQ 0
                    have zyN:wc.cell? ⟨zW,1,none⟩ = some (.int .i64 zn):=zK zQ 1
                    have zyO:wc.cell? ⟨zW,2,none⟩ = some (.int .i64 zi):=zK zQ 2
                    have zyP:wc.cell? ⟨zW,3,none⟩ = some (.int .i64 yJ):=zK zQ 3
                    have zyR:wc.cell? ⟨zW,4,none⟩ = some (.string zS):=zK zQ 4
                    have zyS:wc.cell? ⟨zW,5,none⟩ = some (.string yQ):=zK zQ 5
                    have zyT:wc.cell? ⟨zW,6,none⟩ = some (.slice qd yx.length qg):=zK zQ 6
                    have zyU:=zy zQ.out 0
                    have zy0:=zy zQ.out 1
                    have zy1:=zy zQ.out 2
                    have zy2:=zy zQ.out 3
                    have zy3:=zy zQ.out 4
                    have zy4:=zy zQ.out 5
                    have zy5:=zy zQ.out 6
                    go_wp2
                    go_meet
                    case rel=>exact ⟨_,(true),(by first | rfl | (simp;done) | (simp [*];done)),H',⟨by have:=wL.out;have:=YA.out;have:=VG.out;have:=Jg.out;first | omega | exact Nat.le_refl _⟩,⟨vK zQ.out⟩,⟨zM HB.out⟩⟩
                   ·rw [if_neg oP] at H
                    have zXI:(zS.toList == ([101]:List UInt8)) = false:=beq_eq_false_iff_ne.mpr oP
                    have zXL:(zS.toList != ([101]:List UInt8)) = true:=bne_iff_ne.mpr oP
                    by_cases oU:zS.toList = ([97]:List UInt8)
                    ·rw [if_pos oU] at H
                     have zXM:(zS.toList == ([97]:List UInt8)) = true:=beq_iff_eq.mpr oU
                     have zXN:(zS.toList != ([97]:List UInt8)) = false:=bne_eq_false_iff_eq.mpr oU
                     clear oU
                     have H':=zk.mk H
                     clear H
                     have zy6:wc.cell? ⟨zW,0,none⟩ = some (.int .i64 ze):=zK zQ 0
                     have zy7:wc.cell? ⟨zW,1,none⟩ = some (.int .i64 zn):=zK zQ 1
                     have zy8:wc.cell? ⟨zW,2,none⟩ = some (.int .i64 zi):=zK zQ 2
                     have zy9:wc.cell? ⟨zW,3,none⟩ = some (.int .i64 yJ):=zK zQ 3
                     have zwz:wc.cell? ⟨zW,4,none⟩ = some (.string zS):=zK zQ 4
                     have zwq:wc.cell? ⟨zW,5,none⟩ = some (.string yQ):=zK zQ 5
                     have zwx:wc.cell? ⟨zW,6,none⟩ = some (.slice qd yx.length qg):=zK zQ 6
                     have zwj:=zy zQ.out 0
                     have zwv:=zy zQ.out 1
                     have zwk:=zy zQ.out 2
                     have zwy:=zy zQ.out 3
                     have zww:=zy zQ.out 4
                     have zwZ:=zy zQ.out 5
                     have zwQ:=zy zQ.out 6
                     go_wp2
                     go_meet
                     case rel=>exact ⟨_,(true),(by first | rfl | (simp;done) | (simp [*];done)),H',⟨by have:=wL.out;have:=YA.out;have:=VG.out;have:=Jg.out;first | omega | exact Nat.le_refl _⟩,⟨vK zQ.out⟩,⟨zM HB.out⟩⟩
                    ·rw [if_neg oU] at H
                     have zXM:(zS.toList == ([97]:List UInt8)) = false:=beq_eq_false_iff_ne.mpr oU
                     have zXN:(zS.toList != ([97]:List UInt8)) = true:=bne_iff_ne.mpr oU
                     have H':=zk.mk H
                     clear H
                     have zwX:wc.cell? ⟨zW,0,none⟩ = some (.int .i64 ze):=zK zQ 0
                     have zwJ:wc.cell? ⟨zW,1,none⟩ = some (.int .i64 zn):=zK zQ 1
                     have zwV:wc.cell? ⟨zW,2,none⟩ = some (.int .i64 zi):=zK zQ 2
                     have zwK:wc.cell? ⟨zW,3,none⟩ = some (.int .i64 yJ):=zK zQ 3
                     have zwY:wc.cell? ⟨zW,4,none⟩ = some (.string zS):=zK zQ 4
                     have zwW:wc.cell? ⟨zW,5,none⟩ = some (.string yQ):=zK zQ 5
                     have zwa:wc.cell? ⟨zW,6,none⟩ = some (.slice qd yx.length qg):=zK zQ 6
                     have zwb:=zy zQ.out 0
                     have zwc:=zy zQ.out 1
                     have zwd:=zy zQ.out 2
                     have zwe:=zy zQ.out 3
                     have zwf:=zy zQ.out 4
                     have zwg:=zy zQ.out 5
                     have zwh:=zy zQ.out 6
                     go_wp2
                     go_meet
                     case rel=>exact ⟨_,((zS.toList == ([126]:List UInt8))),(by first | rfl | (simp;done) | (simp [*];done)),H',⟨by have:=wL.out;have:=YA.out;have:=VG.out;have:=Jg.out;first | omega | exact Nat.le_refl _⟩,⟨vK zQ.out⟩,⟨zM HB.out⟩⟩
                ·rw [if_neg c45] at H
                 have gM:decide ((yx.length:Int) ≤ 40) = false:=decide_eq_false c45
                 have zXE:decide (yx.length ≤ 40) = false:=decide_eq_false (by omega)
                 clear c45
                 (first | rw [gM] | (simp only [qR,qU];rw [gM]) | skip)
                 have H':=zk.mk H
                 clear H
                 have zwi:wc.cell? ⟨zW,0,none⟩ = some (.int .i64 ze):=zK zQ 0
                 have zwl:wc.cell? ⟨zW,1,none⟩ = some (.int .i64 zn):=zK zQ 1
                 have zwm:wc.cell? ⟨zW,2,none⟩ = some (.int .i64 zi):=zK zQ 2
                 have zwn:wc.cell? ⟨zW,3,none⟩ = some (.int .i64 yJ):=zK zQ 3
                 have zwo:wc.cell? ⟨zW,4,none⟩ = some (.string zS):=zK zQ 4
                 have zwp:wc.cell? ⟨zW,5,none⟩ = some (.string yQ):=zK zQ 5
                 have zwr:wc.cell? ⟨zW,6,none⟩ = some (.slice qd yx.length qg):=zK zQ 6
                 have zws:=zy zQ.out 0
                 have zwt:=zy zQ.out 1
                 have zwu:=zy zQ.out 2
                 have zwA:=zy zQ.out 3
                 have zwB:=zy zQ.out 4
                 have zwC:=zy zQ.out 5
                 have zwD:=zy zQ.out 6
                 go_wp2
                 go_meet
                 case rel=>exact ⟨_,(false),(by first | rfl | (simp;done) | (simp [*];done)),H',⟨by have:=wL.out;have:=YA.out;have:=VG.out;have:=Jg.out;first | omega | exact Nat.le_refl _⟩,⟨vK zQ.out⟩,⟨zM HB.out⟩⟩
               case rest=>as_aux_lemma =>
                clear zKN
                try clear c4
                try clear kD
                try clear c6
                try clear Zx
                try clear c8
                try clear Z8
                try clear c11
                try clear c13
                try clear VE
                try clear gH
                try clear c17
                try clear XR
                try clear Wt
                try clear c18
                try clear gI
                try clear gL
                try clear fB
                try clear zvV
                try clear zvK
                try clear c24
                try clear bR
                try clear fC
                try clear zvY
                try clear zvW
                try clear c31
                try clear c32
                try clear oI
                try clear oL
                try clear fD
                try clear Wu
                try clear zva
                try clear c39
                try clear c40
                try clear oN
                try clear zXA
                try clear zXB
                try clear c42
                try clear oO
                try clear zXC
                try clear zXD
                try clear c45
                try clear gM
                try clear zXE
                try clear c46
                try clear zXF
                try clear zXG
                try clear WA
                try clear zvc
                try clear zXH
                try clear oP
                try clear zXI
                try clear zXL
                try clear oU
                try clear zXM
                try clear zXN
                try clear Uz
                try clear Uq
                try clear Ux
                try clear Uj
                try clear Uv
                try clear Uk
                try clear Uy
                try clear Y7
                try clear Y8
                try clear Y9
                try clear Xz
                try clear Xq
                try clear Xx
                try clear QD
                try clear P6
                try clear P7
                try clear P8
                try clear P9
                try clear bq
                try clear bZ
                try clear bQ
                try clear QF
                try clear QG
                try clear QH
                try clear QI
                try clear QL
                try clear QM
                try clear QN
                try clear Ql
                try clear Qm
                try clear Qn
                try clear Qo
                try clear Qp
                try clear Qr
                try clear Ua
                try clear bn
                try clear bA
                try clear bB
                try clear bC
                try clear bD
                try clear bE
                try clear bF
                try clear zz6
                try clear zz7
                try clear zz8
                try clear zz9
                try clear zqz
                try clear zqq
                try clear zqx
                try clear JG
                try clear JH
                try clear JI
                try clear JL
                try clear JM
                try clear JN
                try clear JO
                try clear J7
                try clear J8
                try clear J9
                try clear Kz
                try clear Kq
                try clear Kj
                try clear Kv
                try clear zqX
                try clear zqJ
                try clear zqV
                try clear zqK
                try clear zqY
                try clear zqW
                try clear zqa
                try clear zqi
                try clear zql
                try clear zqm
                try clear zqn
                try clear zqo
                try clear zqp
                try clear zqr
                try clear zqE
                try clear zqF
                try clear zqG
                try clear zqH
                try clear zqI
                try clear zqL
                try clear zqM
                try clear zq0
                try clear zq1
                try clear zq2
                try clear zq3
                try clear zq4
                try clear zq5
                try clear zq6
                try clear zya
                try clear zyb
                try clear zyc
                try clear zyd
                try clear zye
                try clear zyf
                try clear zyg
                try clear zyr
                try clear zys
                try clear zyt
                try clear zyu
                try clear zyA
                try clear zyB
                try clear zyC
                try clear zyM
                try clear zyN
                try clear zyO
                try clear zyP
                try clear zyR
                try clear zyS
                try clear zyT
                try clear zy6
                try clear zy7
                try clear zy8
                try clear zy9
                try clear zwz
                try clear zwq
                try clear zwx
                try clear zwX
                try clear zwJ
                try clear zwV
                try clear zwK
                try clear zwY
                try clear zwW
                try clear zwa
                try clear zwi
                try clear zwl
                try clear zwm
                try clear zwn
                try clear zwo
                try clear zwp
                try clear zwr
                try clear Pg
                try clear Ph
                try clear Pm
                try clear Pn
                try clear Po
                try clear Pp
                try clear Pt
                try clear Ve
                try clear Vf
                try clear Vg
                try clear Vh
                try clear Vi
                try clear Vl
                try clear KA
                try clear U7
                try clear U8
                try clear U9
                try clear Jz
                try clear Jq
                try clear Jj
                try clear PU
                try clear Uw
                try clear UZ
                try clear UQ
                try clear UJ
                try clear UK
                try clear UY
                try clear UW
                try clear Xj
                try clear Xv
                try clear Xk
                try clear Xy
                try clear Xw
                try clear XZ
                try clear QE
                try clear bX
                try clear bJ
                try clear bV
                try clear bK
                try clear bY
                try clear bf
                try clear bg
                try clear QO
                try clear QS
                try clear QT
                try clear QU
                try clear Q0
                try clear Q5
                try clear Q6
                try clear Qs
                try clear Qt
                try clear Qu
                try clear QA
                try clear QB
                try clear QC
                try clear Ub
                try clear bH
                try clear bI
                try clear bL
                try clear bM
                try clear bN
                try clear bO
                try clear bP
                try clear zqj
                try clear zqv
                try clear zqk
                try clear zqy
                try clear zqw
                try clear zqZ
                try clear zqQ
                try clear JR
                try clear JU
                try clear J2
                try clear J3
                try clear J4
                try clear J5
                try clear J6
                try clear Kk
                try clear Ky
                try clear Kw
                try clear KZ
                try clear KQ
                try clear KX
                try clear KJ
                try clear zqb
                try clear zqc
                try clear zqd
                try clear zqe
                try clear zqf
                try clear zqg
                try clear zqh
                try clear zqs
                try clear zqt
                try clear zqu
                try clear zqA
                try clear zqB
                try clear zqC
                try clear zqD
                try clear zqN
                try clear zqO
                try clear zqP
                try clear zqR
                try clear zqS
                try clear zqT
                try clear zqU
                try clear zq7
                try clear zq8
                try clear zq9
                try clear zxz
                try clear zxq
                try clear zxx
                try clear zxj
                try clear zyh
                try clear zyi
                try clear zyl
                try clear zym
                try clear zyn
                try clear zyo
                try clear zyp
                try clear zyD
                try clear zyE
                try clear zyF
                try clear zyG
                try clear zyH
                try clear zyI
                try clear zyL
                try clear zyU
                try clear zy0
                try clear zy1
                try clear zy2
                try clear zy3
                try clear zy4
                try clear zy5
                try clear zwj
                try clear zwv
                try clear zwk
                try clear zwy
                try clear zww
                try clear zwZ
                try clear zwQ
                try clear zwb
                try clear zwc
                try clear zwd
                try clear zwe
                try clear zwf
                try clear zwg
                try clear zwh
                try clear zws
                try clear zwt
                try clear zwu
                try clear zwA
                try clear zwB
                try clear zwC
                try clear zwD
                try clear PD
                try clear PE
                try clear PG
                try clear PI
                try clear PL
                try clear PN
                try clear PO
                try clear Vm
                try clear Vn
                try clear Vo
                try clear Vp
                try clear Vr
                try clear Vs
                try clear KC
                try clear Jv
                try clear Jk
                try clear Jy
                try clear Jw
                try clear JZ
                try clear JQ
                try clear P5
                obtain ⟨kq,zvb,rfl,HA,zxv,zQ,HB⟩:=hcut
                cases kq with
                | zero=>exact absurd HA.out (by simp [zX.j4])
                | succ zcQ =>
                 have H:=HA.out
                 clear HA
                 simp only [zX.j4] at H
                 have H':=zk.mk H
                 clear H
                 go_wp2
                 go_loopg [5,6] zcQ (fun kq v5 v6 w'=>∃ (zv5:Bool) (kE:Int),v5 = .bool zv5 ∧ v6 = .int .i64 kE ∧ zk (zX.l0 kq zv5 kE ze zn zi yJ zS yQ yx = some r) ∧ zk (kq ≤ zcQ) ∧ zk (w'.heap[zW]? = some (.cells #[.int .i64 ze,.int .i64 zn,.int .i64 zi,.int .i64 yJ,.string zS,.string yQ,(.slice qd yx.length qg)] 53 (0,0))) ∧ zk (Below w.heap.size w w'))
                 case atStart=>exact ⟨(zvb),(0),(by first | rfl | (simp;done) | (simp [*];done)),(by first | rfl | (simp;done) | (simp [*];done)),H',⟨Nat.le_refl _⟩,⟨vK zQ.out⟩,⟨zM HB.out⟩⟩
                 case round =>
                  clear H'
                  try clear c4
                  try clear kD
                  try clear c6
                  try clear Zx
                  try clear c8
                  try clear Z8
                  try clear c11
                  try clear c13
                  try clear VE
                  try clear gH
                  try clear c17
                  try clear XR
                  try clear Wt
                  try clear c18
                  try clear gI
                  try clear gL
                  try clear fB
                  try clear zvV
                  try clear zvK
                  try clear c24
                  try clear bR
                  try clear fC
                  try clear zvY
                  try clear zvW
                  try clear c31
                  try clear c32
                  try clear oI
                  try clear oL
                  try clear fD
                  try clear Wu
                  try clear zva
                  try clear c39
                  try clear c40
                  try clear oN
                  try clear zXA
                  try clear zXB
                  try clear c42
                  try clear oO
                  try clear zXC
                  try clear zXD
                  try clear c45
                  try clear gM
                  try clear zXE
                  try clear c46
                  try clear zXF
                  try clear zXG
                  try clear WA
                  try clear zvc
                  try clear zXH
                  try clear oP
                  try clear zXI
                  try clear zXL
                  try clear oU
                  try clear zXM
                  try clear zXN
                  try clear Uz
                  try clear Uq
                  try clear Ux
                  try clear Uj
                  try clear Uv
                  try clear Uk
                  try clear Uy
                  try clear Y7
                  try clear Y8
                  try clear Y9
                  try clear Xz
                  try clear Xq
                  try clear Xx
                  try clear QD
                  try clear P6
                  try clear P7
                  try clear P8
                  try clear P9
                  try clear bq
                  try clear bZ
                  try clear bQ
                  try clear QF
                  try clear QG
                  try clear QH
                  try clear QI
                  try clear QL
                  try clear QM
                  try clear QN
                  try clear Ql
                  try clear Qm
                  try clear Qn
                  try clear Qo
                  try clear Qp
                  try clear Qr
                  try clear Ua
                  try clear bn
                  try clear bA
                  try clear bB
                  try clear bC
                  try clear bD
                  try clear bE
                  try clear bF
                  try clear zz6
                  try clear zz7
                  try clear zz8
                  try clear zz9
                  try clear zqz
                  try clear zqq
                  try clear zqx
                  try clear JG
                  try clear JH
                  try clear JI
                  try clear JL
                  try clear JM
                  try clear JN
                  try clear JO
                  try clear J7
                  try clear J8
                  try clear J9
                  try clear Kz
                  try clear Kq
                  try clear Kj
                  try clear Kv
                  try clear zqX
                  try clear zqJ
                  try clear zqV
                  try clear zqK
                  try clear zqY
                  try clear zqW
                  try clear zqa
                  try clear zqi
                  try clear zql
                  try clear zqm
                  try clear zqn
                  try clear zqo
                  try clear zqp
                  try clear zqr
                  try clear zqE
                  try clear zqF
                  try clear zqG
                  try clear zqH
                  try clear zqI
                  try clear zqL
                  try clear zqM
                  try clear zq0
                  try clear zq1
                  try clear zq2
                  try clear zq3
                  try clear zq4
                  try clear zq5
                  try clear zq6
                  try clear zya
                  try clear zyb
                  try clear zyc
                  try clear zyd
                  try clear zye
                  try clear zyf
                  try clear zyg
                  try clear zyr
                  try clear zys
                  try clear zyt
                  try clear zyu
                  try clear zyA
                  try clear zyB
                  try clear zyC
                  try clear zyM
                  try clear zyN
                  try clear zyO
                  try clear zyP
                  try clear zyR
                  try clear zyS
                  try clear zyT
                  try clear zy6
                  try clear zy7
                  try clear zy8
                  try clear zy9
                  try clear zwz
                  try clear zwq
                  try clear zwx
                  try clear zwX
                  try clear zwJ
                  try clear zwV
                  try clear zwK
                  try clear zwY
                  try clear zwW
                  try clear zwa
                  try clear zwi
                  try clear zwl
                  try clear zwm
                  try clear zwn
                  try clear zwo
                  try clear zwp
                  try clear zwr
                  try clear Pg
                  try clear Ph
                  try clear Pm
                  try clear Pn
                  try clear Po
                  try clear Pp
                  try clear Pt
                  try clear Ve
                  try clear Vf
                  try clear Vg
                  try clear Vh
                  try clear Vi
                  try clear Vl
                  try clear KA
                  try clear U7
                  try clear U8
                  try clear U9
                  try clear Jz
                  try clear Jq
                  try clear Jj
                  try clear PU
                  try clear Uw
                  try clear UZ
                  try clear UQ
                  try clear UJ
                  try clear UK
                  try clear UY
                  try clear UW
                  try clear Xj
                  try clear Xv
                  try clear Xk
                  try clear Xy
                  try clear Xw
                  try clear XZ
                  try clear QE
                  try clear bX
                  try clear bJ
                  try clear bV
                  try clear bK
                  try clear bY
                  try clear bf
                  try clear bg
                  try clear QO
                  try clear QS
                  try clear QT
                  try clear QU
                  try clear Q0
                  try clear Q5
                  try clear Q6
                  try clear Qs
                  try clear Qt
                  try clear Qu
                  try clear QA
                  try clear QB
                  try clear QC
                  try clear Ub
                  try clear bH
                  try clear bI
                  try clear bL
                  try clear bM
                  try clear bN
                  try clear bO
                  try clear bP
                  try clear zqj
                  try clear zqv
                  try clear zqk
                  try clear zqy
                  try clear zqw
                  try clear zqZ
                  try clear zqQ
                  try clear JR
                  try clear JU
                  try clear J2
                  try clear J3
                  try clear J4
                  try clear J5
                  try clear J6
                  try clear Kk
                  try clear Ky
                  try clear Kw
                  try clear KZ
                  try clear KQ
                  try clear KX
                  try clear KJ
                  try clear zqb
                  try clear zqc
                  try clear zqd
                  try clear zqe
                  try clear zqf
                  try clear zqg
                  try clear zqh
                  try clear zqs
                  try clear zqt
                  try clear zqu
                  try clear zqA
                  try clear zqB
                  try clear zqC
                  try clear zqD
                  try clear zqN
                  try clear zqO
                  try clear zqP
                  try clear zqR
                  try clear zqS
                  try clear zqT
                  try clear zqU
                  try clear zq7
                  try clear zq8
                  try clear zq9
                  try clear zxz
                  try clear zxq
                  try clear zxx
                  try clear zxj
                  try clear zyh
                  try clear zyi
                  try clear zyl
                  try clear zym
                  try clear zyn
                  try clear zyo
                  try clear zyp
                  try clear zyD
                  try clear zyE
                  try clear zyF
                  try clear zyG
                  try clear zyH
                  try clear zyI
                  try clear zyL
                  try clear zyU
                  try clear zy0
                  try clear zy1
                  try clear zy2
                  try clear zy3
                  try clear zy4
                  try clear zy5
                  try clear zwj
                  try clear zwv
                  try clear zwk
                  try clear zwy
                  try clear zww
                  try clear zwZ
                  try clear zwQ
                  try clear zwb
                  try clear zwc
                  try clear zwd
                  try clear zwe
                  try clear zwf
                  try clear zwg
                  try clear zwh
                  try clear zws
                  try clear zwt
                  try clear zwu
                  try clear zwA
                  try clear zwB
                  try clear zwC
                  try clear zwD
                  try clear PD
                  try clear PE
                  try clear PG
                  try clear PI
                  try clear PL
                  try clear PN
                  try clear PO
                  try clear Vm
                  try clear Vn
                  try clear Vo
                  try clear Vp
                  try clear Vr
                  try clear Vs
                  try clear KC
                  try clear Jv
                  try clear Jk
                  try clear Jy
                  try clear Jw
                  try clear JZ
                  try clear JQ
                  try clear P5
                  obtain ⟨zv5,kE,rfl,rfl,HA,HK6,zQ,HB⟩:=hrel
                  cases gk with
                  | zero=>exact absurd HA.out (by simp [zX.l0])
                  | succ k6 =>
                   have H:=HA.out
                   clear HA
                   simp only [zX.l0] at H
                   by_cases nA:kE < (yx.length:Int)
                   ·rw [if_pos nA] at H
                    have zd4:decide (kE < (yx.length:Int)) = true:=decide_eq_true nA
                    clear nA
                    by_cases c57:zv5 = true
                    ·subst c57
                     have H1:(if 0 ≤ kE then (if (rd yx kE) ≥ (-1000000) then (zX.l0 k6 (decide ((rd yx kE) ≤ 1000000)) (wrap64 (kE + 1)) ze zn zi yJ zS yQ yx) else (zX.l0 k6 false (wrap64 (kE + 1)) ze zn zi yJ zS yQ yx)) else (none)) = some r:=by rw [if_pos rfl] at H;exact H
                     clear H
                     have H:=H1
                     clear H1
                     by_cases c58:0 ≤ kE
                     ·rw [if_pos c58] at H
                      have zoB:decide (0 ≤ kE) = true:=decide_eq_true c58
                      clear c58
                      by_cases c59:(rd yx kE) ≥ (-1000000)
                      ·rw [if_pos c59] at H
                       have zd5:decide ((-1000000) ≤ (rd yx kE)) = true:=decide_eq_true c59
                       clear c59
                       have H':=zk.mk H
                       clear H
                       have ziw:wr.cell? ⟨zW,0,none⟩ = some (.int .i64 ze):=zK zQ 0
                       have ziZ:wr.cell? ⟨zW,1,none⟩ = some (.int .i64 zn):=zK zQ 1
                       have ziQ:wr.cell? ⟨zW,2,none⟩ = some (.int .i64 zi):=zK zQ 2
                       have ziX:wr.cell? ⟨zW,3,none⟩ = some (.int .i64 yJ):=zK zQ 3
                       have ziJ:wr.cell? ⟨zW,4,none⟩ = some (.string zS):=zK zQ 4
                       have ziV:wr.cell? ⟨zW,5,none⟩ = some (.string yQ):=zK zQ 5
                       have ziK:wr.cell? ⟨zW,6,none⟩ = some (.slice qd yx.length qg):=zK zQ 6
                       have ziY:=zy zQ.out 0
                       have ziW:=zy zQ.out 1
                       have zia:=zy zQ.out 2
                       have zib:=zy zQ.out 3
                       have zic:=zy zQ.out 4
                       have zid:=zy zQ.out 5
                       have zie:=zy zQ.out 6
                       have iJ:0 ≤ (kE:Int):=of_decide_eq_true yj
                       have iV:kE < (yx.length:Int):=of_decide_eq_true yj
                       obtain ⟨zWX,zKO,Uc⟩:=Kd.XB gG.out kE iJ iV
                       cases zKO
                       replace Uc:=(HB.out.cell (World.block_lt_of_cell? w _ Uc)).trans Uc
                       replace iJ:=eq_true iJ
                       replace iV:=eq_true iV
                       have zKP:0 ≤ (kE:Int):=of_decide_eq_true yj
                       have zKR:kE < (yx.length:Int):=of_decide_eq_true yj
                       obtain ⟨zd6,zgq,zxk⟩:=Kd.XB gG.out kE zKP zKR
                       obtain rfl:zWX = zd6:=(by injection zgq)
                       replace zxk:=(HB.out.cell (World.block_lt_of_cell? w _ zxk)).trans zxk
                       replace zKP:=eq_true zKP
                       replace zKR:=eq_true zKR
                       go_wp2
                       go_roundg k6
                       case measure=>have:=wL.out;have:=YA.out;have:=VG.out;have:=Jg.out;have:=zxv.out;have:=HK6.out;omega
                       case rel=>exact ⟨(decide ((rd yx kE) ≤ 1000000)),(wrap64 (kE + 1)),(by first | rfl | (simp;done) | (simp [*];done)),(by first | rfl | (simp;done) | (simp [*];done)),H',⟨by have:=wL.out;have:=YA.out;have:=VG.out;have:=Jg.out;have:=zxv.out;have:=HK6.out;omega⟩,⟨vK zQ.out⟩,⟨zM HB.out⟩⟩
                      ·rw [if_neg c59] at H
                       have zd5:decide ((-1000000) ≤ (rd yx kE)) = false:=decide_eq_false c59
                       clear c59
                       have H':=zk.mk H
                       clear H
                       have zif:wr.cell? ⟨zW,0,none⟩ = some (.int .i64 ze):=zK zQ 0
                       have zih:wr.cell? ⟨zW,1,none⟩ = some (.int .i64 zn):=zK zQ 1
                       have zii:wr.cell? ⟨zW,2,none⟩ = some (.int .i64 zi):=zK zQ 2
                       have zil:wr.cell? ⟨zW,3,none⟩ = some (.int .i64 yJ):=zK zQ 3
                       have zim:wr.cell? ⟨zW,4,none⟩ = some (.string zS):=zK zQ 4
                       have zin:wr.cell? ⟨zW,5,none⟩ = some (.string yQ):=zK zQ 5
                       have zio:wr.cell? ⟨zW,6,none⟩ = some (.slice qd yx.length qg):=zK zQ 6
                       have zir:=zy zQ.out 0
                       have zis:=zy zQ.out 1
                       have zit:=zy zQ.out 2
                       have ziu:=zy zQ.out 3
                       have ziA:=zy zQ.out 4
                       have ziB:=zy zQ.out 5
                       have ziC:=zy zQ.out 6
                       have iJ:0 ≤ (kE:Int):=of_decide_eq_true yj
                       have iV:kE < (yx.length:Int):=of_decide_eq_true yj
                       obtain ⟨zWX,zKO,Uc⟩:=Kd.XB gG.out kE iJ iV
                       cases zKO
                       replace Uc:=(HB.out.cell (World.block_lt_of_cell? w _ Uc)).trans Uc
                       replace iJ:=eq_true iJ
                       replace iV:=eq_true iV
                       go_wp2
                       go_roundg k6
                       case measure=>have:=wL.out;have:=YA.out;have:=VG.out;have:=Jg.out;have:=zxv.out;have:=HK6.out;omega
                       case rel=>exact ⟨(false),(wrap64 (kE + 1)),(by first | rfl | (simp;done) | (simp [*];done)),(by first | rfl | (simp;done) | (simp [*];done)),H',⟨by have:=wL.out;have:=YA.out;have:=VG.out;have:=Jg.out;have:=zxv.out;have:=HK6.out;omega⟩,⟨vK zQ.out⟩,⟨zM HB.out⟩⟩
                     ·rw [if_neg c58] at H
                      exact absurd H (by simp)
                    ·replace c57:=Bool.eq_false_iff.mpr c57
                     subst c57
                     have H1:(zX.l0 k6 false (wrap64 (kE + 1)) ze zn zi yJ zS yQ yx) = some r:=by rw [if_neg (show ¬ (false = true) by decide)] at H;exact H
                     clear H
                     have H:=H1
                     clear H1
                     have H':=zk.mk H
                     clear H
                     have ziD:wr.cell? ⟨zW,0,none⟩ = some (.int .i64 ze):=zK zQ 0
                     have ziE:wr.cell? ⟨zW,1,none⟩ = some (.int .i64 zn):=zK zQ 1
                     have ziF:wr.cell? ⟨zW,2,none⟩ = some (.int .i64 zi):=zK zQ 2
                     have ziG:wr.cell? ⟨zW,3,none⟩ = some (.int .i64 yJ):=zK zQ 3
                     have ziH:wr.cell? ⟨zW,4,none⟩ = some (.string zS):=zK zQ 4
                     have ziI:wr.cell? ⟨zW,5,none⟩ = some (.string yQ):=zK zQ 5
                     have ziL:wr.cell? ⟨zW,6,none⟩ = some (.slice qd yx.length qg):=zK zQ 6
                     have ziM:=zy zQ.out 0
                     have ziN:=zy zQ.out 1
                     have ziO:=zy zQ.out 2
                     have ziP:=zy zQ.out 3
                     have ziR:=zy zQ.out 4
                     have ziS:=zy zQ.out 5
                     have ziT:=zy zQ.out 6
                     go_wp2
                     go_roundg k6
                     case measure=>have:=wL.out;have:=YA.out;have:=VG.out;have:=Jg.out;have:=zxv.out;have:=HK6.out;omega
                     case rel=>exact ⟨(false),(wrap64 (kE + 1)),(by first | rfl | (simp;done) | (simp [*];done)),(by first | rfl | (simp;done) | (simp [*];done)),H',⟨by have:=wL.out;have:=YA.out;have:=VG.out;have:=Jg.out;have:=zxv.out;have:=HK6.out;omega⟩,⟨vK zQ.out⟩,⟨zM HB.out⟩⟩
                   ·rw [if_neg nA] at H
                    have zd4:decide (kE < (yx.length:Int)) = false:=decide_eq_false nA
                    clear nA
                    by_cases c63:zv5 = true
                    ·subst c63
                     have H1:((yg.f k6 yQ).bind fun zz4=>(if zz4 = true then (if zi = 0 then (some (yJ == 0)) else (some false)) else (some false))) = some r:=by rw [if_pos rfl] at H;exact H
                     clear H
                     have H:=H1
                     clear H1
                     replace H:=Option.bind_eq_some_iff.mp H
                     obtain ⟨zz4,zcX,H⟩:=H
                     replace H:(if zz4 = true then (if zi = 0 then (some (yJ == 0)) else (some false)) else (some false)) = some r:=H
                     have A64:=zk.mk zcX
                     clear zcX
                     by_cases c65:zz4 = true
                     ·subst c65
                      have H1:(if zi = 0 then (some (yJ == 0)) else (some false)) = some r:=by rw [if_pos rfl] at H;exact H
                      clear H
                      have H:=H1
                      clear H1
                      by_cases KD:zi = 0
                      ·rw [if_pos KD] at H
                       have zXO:(zi == 0) = true:=beq_iff_eq.mpr KD
                       have zXP:(zi != 0) = false:=bne_eq_false_iff_eq.mpr KD
                       clear KD
                       obtain rfl:=Option.some.inj H
                       have ziU:wr.cell? ⟨zW,0,none⟩ = some (.int .i64 ze):=zK zQ 0
                       have zi0:wr.cell? ⟨zW,1,none⟩ = some (.int .i64 zn):=zK zQ 1
                       have zi1:wr.cell? ⟨zW,2,none⟩ = some (.int .i64 zi):=zK zQ 2
                       have zi2:wr.cell? ⟨zW,3,none⟩ = some (.int .i64 yJ):=zK zQ 3
                       have zi3:wr.cell? ⟨zW,4,none⟩ = some (.string zS):=zK zQ 4
                       have zi4:wr.cell? ⟨zW,5,none⟩ = some (.string yQ):=zK zQ 5
                       have zi5:wr.cell? ⟨zW,6,none⟩ = some (.slice qd yx.length qg):=zK zQ 6
                       have zi6:=zy zQ.out 0
                       have zi7:=zy zQ.out 1
                       have zi8:=zy zQ.out 2
                       have zi9:=zy zQ.out 3
                       have zlz:=zy zQ.out 4
                       have zlq:=zy zQ.out 5
                       have zlx:=zy zQ.out 6
                       go_wp2_with (first | (go_at_call 80;(with_reducible refine (yg.calls k6 yQ true _ A64.out).mono ?_);rintro e w' ⟨rfl,⟨nd,rfl⟩⟩))
                       go_ret
                       exact ⟨by first | rfl | (simp [zl,zm] <;> rfl) | (simp [*,zl,zm] <;> rfl),by repeat (first | (with_reducible first | exact HB.out | apply zO | apply zC | apply zP | refine qw ?_ wT.out) | exact HB.out)⟩
                      ·rw [if_neg KD] at H
                       have zXO:(zi == 0) = false:=beq_eq_false_iff_ne.mpr KD
                       have zXP:(zi != 0) = true:=bne_iff_ne.mpr KD
                       obtain rfl:=Option.some.inj H
                       have zlj:wr.cell? ⟨zW,0,none⟩ = some (.int .i64 ze):=zK zQ 0
                       have zlv:wr.cell? ⟨zW,1,none⟩ = some (.int .i64 zn):=zK zQ 1
                       have zlk:wr.cell? ⟨zW,2,none⟩ = some (.int .i64 zi):=zK zQ 2
                       have zly:wr.cell? ⟨zW,3,none⟩ = some (.int .i64 yJ):=zK zQ 3
                       have zlw:wr.cell? ⟨zW,4,none⟩ = some (.string zS):=zK zQ 4
                       have zlZ:wr.cell? ⟨zW,5,none⟩ = some (.string yQ):=zK zQ 5
                       have zlQ:wr.cell? ⟨zW,6,none⟩ = some (.slice qd yx.length qg):=zK zQ 6
                       have zlX:=zy zQ.out 0
                       have zlJ:=zy zQ.out 1
                       have zlV:=zy zQ.out 2
                       have zlK:=zy zQ.out 3
                       have zlY:=zy zQ.out 4
                       have zlW:=zy zQ.out 5
                       have zla:=zy zQ.out 6
                       go_wp2_with (first | (go_at_call 80;(with_reducible refine (yg.calls k6 yQ true _ A64.out).mono ?_);rintro e w' ⟨rfl,⟨nd,rfl⟩⟩))
                       go_ret
                       exact ⟨by first | rfl | (simp [zl,zm] <;> rfl) | (simp [*,zl,zm] <;> rfl),by repeat (first | (with_reducible first | exact HB.out | apply zO | apply zC | apply zP | refine qw ?_ wT.out) | exact HB.out)⟩
                     ·replace c65:=Bool.eq_false_iff.mpr c65
                      subst c65
                      have H1:(some false) = some r:=by rw [if_neg (show ¬ (false = true) by decide)] at H;exact H
                      clear H
                      have H:=H1
                      clear H1
                      obtain rfl:=Option.some.inj H
                      have zlb:wr.cell? ⟨zW,0,none⟩ = some (.int .i64 ze):=zK zQ 0
                      have zlc:wr.cell? ⟨zW,1,none⟩ = some (.int .i64 zn):=zK zQ 1
                      have zld:wr.cell? ⟨zW,2,none⟩ = some (.int .i64 zi):=zK zQ 2
                      have zle:wr.cell? ⟨zW,3,none⟩ = some (.int .i64 yJ):=zK zQ 3
                      have zlf:wr.cell? ⟨zW,4,none⟩ = some (.string zS):=zK zQ 4
                      have zlg:wr.cell? ⟨zW,5,none⟩ = some (.string yQ):=zK zQ 5
                      have zlh:wr.cell? ⟨zW,6,none⟩ = some (.slice qd yx.length qg):=zK zQ 6
                      have zli:=zy zQ.out 0
                      have zll:=zy zQ.out 1
                      have zlm:=zy zQ.out 2
                      have zln:=zy zQ.out 3
                      have zlo:=zy zQ.out 4
                      have zlp:=zy zQ.out 5
                      have zlr:=zy zQ.out 6
                      go_wp2_with (first | (go_at_call 80;(with_reducible refine (yg.calls k6 yQ false _ A64.out).mono ?_);rintro e w' ⟨rfl,⟨nd,rfl⟩⟩))
                      go_ret
                      exact ⟨by first | rfl | (simp [zl,zm] <;> rfl) | (simp [*,zl,zm] <;> rfl),by repeat (first | (with_reducible first | exact HB.out | apply zO | apply zC | apply zP | refine qw ?_ wT.out) | exact HB.out)⟩
                    ·replace c63:=Bool.eq_false_iff.mpr c63
                     subst c63
                     have H1:(some false) = some r:=by rw [if_neg (show ¬ (false = true) by decide)] at H;exact H
                     clear H
                     have H:=H1
                     clear H1
                     obtain rfl:=Option.some.inj H
                     have zls:wr.cell? ⟨zW,0,none⟩ = some (.int .i64 ze):=zK zQ 0
                     have zlt:wr.cell? ⟨zW,1,none⟩ = some (.int .i64 zn):=zK zQ 1
                     have zlu:wr.cell? ⟨zW,2,none⟩ = some (.int .i64 zi):=zK zQ 2
                     have zlA:wr.cell? ⟨zW,3,none⟩ = some (.int .i64 yJ):=zK zQ 3
                     have zlB:wr.cell? ⟨zW,4,none⟩ = some (.string zS):=zK zQ 4
                     have zlC:wr.cell? ⟨zW,5,none⟩ = some (.string yQ):=zK zQ 5
                     have zlD:wr.cell? ⟨zW,6,none⟩ = some (.slice qd yx.length qg):=zK zQ 6
                     have zlE:=zy zQ.out 0
                     have zlF:=zy zQ.out 1
                     have zlG:=zy zQ.out 2
                     have zlH:=zy zQ.out 3
                     have zlI:=zy zQ.out 4
                     have zlL:=zy zQ.out 5
                     have zlM:=zy zQ.out 6
                     go_wp2
                     go_ret
                     exact ⟨by first | rfl | (simp [zl,zm] <;> rfl) | (simp [*,zl,zm] <;> rfl),by repeat (first | (with_reducible first | exact HB.out | apply zO | apply zC | apply zP | refine qw ?_ wT.out) | exact HB.out)⟩
              ·rw [if_neg oO] at H
               have zXC:(ze == 4) = false:=beq_eq_false_iff_ne.mpr oO
               have zXD:(ze != 4) = true:=bne_iff_ne.mpr oO
               by_cases c71:ze = 5
               ·rw [if_pos c71] at H
                have zd7:(ze == 5) = true:=beq_iff_eq.mpr c71
                have zd8:(ze != 5) = false:=bne_eq_false_iff_eq.mpr c71
                clear c71
                by_cases c72:XP = true
                ·subst c72
                 have H1:(if VF = true then (some (zn == 0)) else (some false)) = some r:=by rw [if_pos rfl] at H;exact H
                 clear H
                 have H:=H1
                 clear H1
                 by_cases c73:VF = true
                 ·subst c73
                  have H1:(some (zn == 0)) = some r:=by rw [if_pos rfl] at H;exact H
                  clear H
                  have H:=H1
                  clear H1
                  obtain rfl:=Option.some.inj H
                  have zlN:wc.cell? ⟨zW,0,none⟩ = some (.int .i64 ze):=zK zQ 0
                  have zlO:wc.cell? ⟨zW,1,none⟩ = some (.int .i64 zn):=zK zQ 1
                  have zlP:wc.cell? ⟨zW,2,none⟩ = some (.int .i64 zi):=zK zQ 2
                  have zlR:wc.cell? ⟨zW,3,none⟩ = some (.int .i64 yJ):=zK zQ 3
                  have zlS:wc.cell? ⟨zW,4,none⟩ = some (.string zS):=zK zQ 4
                  have zlT:wc.cell? ⟨zW,5,none⟩ = some (.string yQ):=zK zQ 5
                  have zlU:wc.cell? ⟨zW,6,none⟩ = some (.slice qd yx.length qg):=zK zQ 6
                  have zl0:=zy zQ.out 0
                  have zl1:=zy zQ.out 1
                  have zl2:=zy zQ.out 2
                  have zl3:=zy zQ.out 3
                  have zl4:=zy zQ.out 4
                  have zl5:=zy zQ.out 5
                  have zl6:=zy zQ.out 6
                  go_wp2
                  go_ret
                  exact ⟨by first | rfl | (simp [zl,zm] <;> rfl) | (simp [*,zl,zm] <;> rfl),by repeat (first | (with_reducible first | exact HB.out | apply zO | apply zC | apply zP | refine qw ?_ wT.out) | exact HB.out)⟩
                 ·replace c73:=Bool.eq_false_iff.mpr c73
                  subst c73
                  have H1:(some false) = some r:=by rw [if_neg (show ¬ (false = true) by decide)] at H;exact H
                  clear H
                  have H:=H1
                  clear H1
                  obtain rfl:=Option.some.inj H
                  go_wp2
                  go_ret
                  exact ⟨by first | rfl | (simp [zl,zm] <;> rfl) | (simp [*,zl,zm] <;> rfl),by repeat (first | (with_reducible first | exact HB.out | apply zO | apply zC | apply zP | refine qw ?_ wT.out) | exact HB.out)⟩
                ·replace c72:=Bool.eq_false_iff.mpr c72
                 subst c72
                 have H1:(some false) = some r:=by rw [if_neg (show ¬ (false = true) by decide)] at H;exact H
                 clear H
                 have H:=H1
                 clear H1
                 obtain rfl:=Option.some.inj H
                 go_wp2
                 go_ret
                 exact ⟨by first | rfl | (simp [zl,zm] <;> rfl) | (simp [*,zl,zm] <;> rfl),by repeat (first | (with_reducible first | exact HB.out | apply zO | apply zC | apply zP | refine qw ?_ wT.out) | exact HB.out)⟩
               ·rw [if_neg c71] at H
                have zd7:(ze == 5) = false:=beq_eq_false_iff_ne.mpr c71
                have zd8:(ze != 5) = true:=bne_iff_ne.mpr c71
                obtain rfl:=Option.some.inj H
                go_wp2
                go_ret
                exact ⟨by first | rfl | (simp [zl,zm] <;> rfl) | (simp [*,zl,zm] <;> rfl),by repeat (first | (with_reducible first | exact HB.out | apply zO | apply zC | apply zP | refine qw ?_ wT.out) | exact HB.out)⟩
end Go.Proofs.YtggifbbiiickmaaGreatDoor.PX
namespace Go.Proofs.YtggifbbiiickmaaGreatDoor
open Go.RowKit Go.Proofs.zx.zJ Go.Proofs.zx.zu Go.Proofs.zx.zo Go.Proofs.YtggifbbiiickmaaGreatDoor.PX
set_option linter.unusedSimpArgs false
set_option linter.unusedVariables false
theorem zai (l:List UInt8) (hl:l.length ≤ 9223372036854775807):∀ d i,l.length - i = d → i ≤ l.length → Ev (fun k=>yg.l0 k (bar l) (i:Int)) ((l.drop i).all okB && decide (l.length ≤ 20)):=by
 intro d
 induction d with
 | zero =>
  intro i hd hi
  have e:l.drop i = []:=List.drop_eq_nil_of_le (by omega)
  rw [e]
  refine Ev.step (fun k=>by rw [yg.l0,X7]) (yG (by omega) (jR ?_ (Ev.now _)))
  rw [List.all_nil,Bool.true_and]
  exact decide_eq_decide.2 (by omega)
 | succ d ih =>
  intro i hd hi
  have h1:i < l.length:=by omega
  have q0:(0:Int) ≤ (i:Int):=by omega
  have q1:(i:Int) < (l.length:Int):=by omega
  have hw:wrap64 ((i:Int) + 1) = ((i + 1:Nat):Int):=(pI (by omega) (by omega)).trans (by omega)
  have hr:=ih (i + 1) (by omega) (by omega)
  have hb:=zyy l i h1
  rw [List.drop_eq_getElem_cons h1,List.all_cons]
  refine Ev.step (fun k=>by rw [yg.l0,X7,hb,hw]) (zR q1 (zR q0 ?_))
  clear hb hw
  generalize l[i] = b at *
  by_cases a1:b.toNat < 33
  ·refine zR (by omega) (jR ?_ (Ev.now _))
   have:okB b = false:=by unfold okB;rw [decide_eq_false (by omega:¬ 33 ≤ b.toNat)];rfl
   rw [this];rfl
  ·refine yG (by omega) ?_
   by_cases a2:126 < b.toNat
   ·refine zR (by omega) (jR ?_ (Ev.now _))
    have:okB b = false:=by unfold okB;rw [decide_eq_false (by omega:¬ b.toNat ≤ 126),Bool.and_false]
    rw [this];rfl
   ·refine yG (by omega) (jR ?_ hr)
    have:okB b = true:=by unfold okB;rw [decide_eq_true (by omega:33 ≤ b.toNat),decide_eq_true (by omega:b.toNat ≤ 126)];rfl
    rw [this,Bool.true_and]
theorem zj3 (s:ByteArray) (hs:s.size ≤ 9223372036854775807):Ev (fun k=>yg.f k s) (Qz s.data.toList):=by
 obtain ⟨l,rfl⟩:=zyk s
 rw [X7] at hs
 have h1:Ev (fun k=>yg.l0 k (bar l) 0) _:=zai l hs _ 0 rfl (Nat.zero_le _)
 refine Ev.congr (fun k=>by rw [yg.f]) (jR ?_ h1)
 rw [List.drop_zero]
 unfold Qz
 rw [zvI,Bool.and_comm]
theorem zKS:∀ n,n < 256 → Lib.contains [108,99,101,97,126] [UInt8.ofNat n] = ((decide ([UInt8.ofNat n] = ([108]:List UInt8))) || (decide ([UInt8.ofNat n] = ([99]:List UInt8)) || (decide ([UInt8.ofNat n] = ([101]:List UInt8)) || (decide ([UInt8.ofNat n] = ([97]:List UInt8)) || decide ([UInt8.ofNat n] = ([126]:List UInt8)))))):=by decide +kernel
def tq (t:List UInt8):Bool:=decide (t = ([108]:List UInt8)) || (decide (t = ([99]:List UInt8)) || (decide (t = ([101]:List UInt8)) || (decide (t = ([97]:List UInt8)) || decide (t = ([126]:List UInt8)))))
theorem zVK (t:List UInt8):tq t = (decide (t.length = 1) && Lib.contains [108,99,101,97,126] t):=by
 match t with
 | []=>rfl
 | [c] =>
  have h:=zKS c.toNat c.toNat_lt
  rw [UInt8.ofNat_toNat] at h
  rw [h];rfl
 | c :: d :: r =>
  rw [decide_eq_false (by simp:¬ (c :: d :: r).length = 1),Bool.false_and]
  unfold tq
  simp
theorem rdI (l:List Int) (i:Nat) (h:i < l.length):rd l (i:Int) = l[i]:=by simp [rd,List.getD_eq_getElem?_getD,h]
theorem zVY (f0 f1 f2 f3:Int) (f4 f5:ByteArray) (f6:List Int) (h5:f5.size ≤ 9223372036854775807) (h6:f6.length ≤ 1000000):∀ d i (b:Bool),i + d = f6.length →
  Ev (fun k=>zX.l0 k b (i:Int) f0 f1 f2 f3 f4 f5 f6) ((b && !(f6.drop i).any WS) && (Qz f5.data.toList && (decide (f2 = 0) && decide (f3 = 0)))):=by
 intro d
 induction d with
 | zero =>
  intro i b h
  have e:f6.drop i = []:=List.drop_eq_nil_of_le (by omega)
  rw [e,List.any_nil,Bool.not_false,Bool.and_true]
  refine Ev.step (fun k=>by rw [zX.l0]) (yG (by omega) ?_)
  cases b with
  | false=>exact yG Bool.false_ne_true (Ev.now _)
  | true =>
   refine zR rfl (Ev.bind (zj3 f5 h5) ?_)
   cases Qz f5.data.toList with
   | false=>exact yG Bool.false_ne_true (Ev.now _)
   | true =>
    refine zR rfl ?_
    by_cases h2:f2 = 0
    ·refine zR h2 (jR ?_ (Ev.now _))
     rw [decide_eq_true h2];rfl
    ·refine yG h2 (jR ?_ (Ev.now _))
     rw [decide_eq_false h2];rfl
 | succ d ih =>
  intro i b h
  have hi:i < f6.length:=by omega
  have hw:wrap64 ((i:Int) + 1) = ((i + 1:Nat):Int):=(pI (by omega) (by omega)).trans (by omega)
  have q1:(i:Int) < (f6.length:Int):=by omega
  have q2:(0:Int) ≤ (i:Int):=by omega
  have hd:=rdI f6 i hi
  rw [List.drop_eq_getElem_cons hi,List.any_cons]
  refine Ev.step (fun k=>by rw [zX.l0,hw,hd]) (zR q1 ?_)
  generalize f6[i] = n
  cases b with
  | false =>
   have hr:=ih (i + 1) false (by omega)
   exact yG Bool.false_ne_true (jR rfl hr)
  | true =>
   refine zR rfl (zR q2 ?_)
   unfold WS at ih ⊢
   by_cases h1:n ≥ -1000000
   ·have hr:=ih (i + 1) (decide (n ≤ 1000000)) (by omega)
    refine zR h1 (jR ?_ hr)
    rw [decide_eq_false (by omega:¬ n < -1000000)]
    by_cases h2:n ≤ 1000000
    ·rw [decide_eq_true h2,decide_eq_false (by omega:¬ 1000000 < n)];rfl
    ·rw [decide_eq_false h2,decide_eq_true (by omega:1000000 < n)];rfl
   ·have hr:=ih (i + 1) false (by omega)
    refine yG h1 (jR ?_ hr)
    rw [decide_eq_true (by omega:n < -1000000)];rfl
theorem bS {s:ByteArray}:s.toList = ([]:List UInt8) ↔ s = ⟨#[]⟩:=by
 obtain ⟨d⟩:=s
 rw [ByteArray.toList_eq]
 exact ⟨fun h=>congrArg ByteArray.mk (Array.toList_eq_nil_iff.1 h),fun h=>by injection h with h;rw [h]⟩
theorem zVW {s:ByteArray}:s.toList = ([126]:List UInt8) ↔ s = ⟨#[126]⟩:=by
 obtain ⟨d⟩:=s
 rw [ByteArray.toList_eq]
 refine ⟨fun h=>?_,fun h=>by injection h with h;rw [h]⟩
 have:=congrArg List.toArray h
 simp at this
 rw [this]
theorem zcJ (l:List Int):((l.length:Int) == 0) = decide (l = []):=by
 cases l with
 | nil=>rfl
 | cons a r =>
  rw [decide_eq_false (by simp)]
  exact beq_eq_false_iff_ne.2 (by simp;omega)
theorem zcV (s:ByteArray):(s.toList == ([]:List UInt8)) = decide (s = ⟨#[]⟩):=by
 by_cases h:s = ⟨#[]⟩
 ·rw [decide_eq_true h];exact beq_iff_eq.2 (bS.2 h)
 ·rw [decide_eq_false h];exact beq_eq_false_iff_ne.2 (fun e=>h (bS.1 e))
theorem zcK (s:ByteArray):(s.toList == ([126]:List UInt8)) = decide (s = ⟨#[126]⟩):=by
 by_cases h:s = ⟨#[126]⟩
 ·rw [decide_eq_true h];exact beq_iff_eq.2 (zVW.2 h)
 ·rw [decide_eq_false h];exact beq_eq_false_iff_ne.2 (fun e=>h (zVW.1 e))
theorem zd9 (n:Int):(n == 0) = decide (n = 0):=by
 by_cases h:n = 0
 ·rw [decide_eq_true h];exact beq_iff_eq.2 h
 ·rw [decide_eq_false h];exact beq_eq_false_iff_ne.2 h
section
variable (f0 f1 f2 f3:Int) (f4 f5:ByteArray) (f6:List Int)
theorem zez (h5:f5.size ≤ 9223372036854775807) (h6:f6.length ≤ 1000000) (b:Bool):Ev (fun k=>zX.j4 k b f0 f1 f2 f3 f4 f5 f6) ((b && !f6.any WS) && (Qz f5.data.toList && (decide (f2 = 0) && decide (f3 = 0)))):=by
 have h:=zVY f0 f1 f2 f3 f4 f5 f6 h5 h6 f6.length 0 b (by omega)
 rw [List.drop_zero] at h
 refine Ev.step (fun k=>by rw [zX.j4]) ?_
 exact h
def UN:Bool:=decide (f5 = ⟨#[]⟩) && decide (f6 = [])
def KE:Bool:=decide (f2 = 0) && (decide (f3 = 0) && decide (f4 = ⟨#[]⟩))
def rvG:Bool :=
 if f0 = 0 then Zd f4.data.toList && (Qz f5.data.toList && decide (f6 = []))
 else if f0 = 1 then UN f5 f6 && (decide (f4 = ⟨#[]⟩) || decide (f4 = ⟨#[126]⟩))
 else if f0 = 4 then (decide (f6.length ≤ 40) && tq f4.toList && !f6.any WS) && (Qz f5.data.toList && (decide (f2 = 0) && decide (f3 = 0)))
 else if f0 = 5 then UN f5 f6 && (KE f2 f3 f4 && decide (f1 = 0))
 else if f0 = 2 ∨ f0 = 3 ∨ f0 = 6 then UN f5 f6 && KE f2 f3 f4
 else false
theorem zeq (h4:f4.size ≤ 1000000) (h5:f5.size ≤ 9223372036854775807) (h6:f6.length ≤ 1000000):Ev (fun k=>zX.j2 k (UN f5 f6) (KE f2 f3 f4) f0 f1 f2 f3 f4 f5 f6) (rvG f0 f1 f2 f3 f4 f5 f6):=by
 have hn:=zVJ f4 (by omega)
 have hc:=zj3 f5 h5
 have hj:=zez f0 f1 f2 f3 f4 f5 f6 h5 h6
 unfold rvG
 refine Ev.step (fun k=>by rw [zX.j2]) ?_
 by_cases k0:f0 = 0
 ·rw [if_pos k0]
  refine zR k0 (Ev.bind hn ?_)
  unfold Yq
  rw [Bool.not_not]
  cases Zd f4.data.toList with
  | false=>exact yG Bool.false_ne_true (Ev.now _)
  | true =>
   refine zR rfl (Ev.bind hc ?_)
   cases Qz f5.data.toList with
   | false=>exact yG Bool.false_ne_true (Ev.now _)
   | true =>
    refine zR rfl (jR ?_ (Ev.now _))
    rw [zcJ];rfl
 ·rw [if_neg k0]
  refine yG k0 ?_
  by_cases k1:f0 = 1
  ·rw [if_pos k1]
   refine zR k1 ?_
   cases UN f5 f6 with
   | false=>exact yG Bool.false_ne_true (Ev.now _)
   | true =>
    refine zR rfl ?_
    by_cases e:f4 = ⟨#[]⟩
    ·refine zR (bS.2 e) (jR ?_ (Ev.now _))
     rw [decide_eq_true e];rfl
    ·refine yG (fun h=>e (bS.1 h)) (jR ?_ (Ev.now _))
     rw [decide_eq_false e,zcK];rfl
  ·rw [if_neg k1]
   refine yG k1 ?_
   generalize UN f5 f6 = rb
   generalize KE f2 f3 f4 = sb
   have plain:∀ b:Bool,b = true → Ev (fun k=>zX.j3 k rb sb f0 b f0 f1 f2 f3 f4 f5 f6) (rb && sb):=fun b hb=>by
    refine Ev.step (fun k=>by rw [zX.j3]) (zR hb ?_)
    cases rb with
    | false=>exact yG Bool.false_ne_true (Ev.now _)
    | true=>exact zR rfl (Ev.now _)
   by_cases k2:f0 = 2
   ·rw [if_neg (by omega:¬ f0 = 4),if_neg (by omega:¬ f0 = 5),if_pos (Or.inl k2)]
    exact zR k2 (plain _ (beq_iff_eq.2 k2))
   ·refine yG k2 ?_
    by_cases k6:f0 = 6
    ·rw [if_neg (by omega:¬ f0 = 4),if_neg (by omega:¬ f0 = 5),if_pos (Or.inr (Or.inr k6))]
     exact plain _ (beq_iff_eq.2 k6)
    ·have e6:(f0 == 6) = false:=beq_eq_false_iff_ne.2 k6
     rw [e6]
     by_cases k3:f0 = 3
     ·rw [if_neg (by omega:¬ f0 = 4),if_neg (by omega:¬ f0 = 5),if_pos (Or.inr (Or.inl k3))]
      refine Ev.step (fun k=>by rw [zX.j3]) (yG Bool.false_ne_true (zR k3 ?_))
      cases rb with
      | false=>exact yG Bool.false_ne_true (Ev.now _)
      | true=>exact zR rfl (Ev.now _)
     ·by_cases k4:f0 = 4
      ·rw [if_pos k4]
       refine Ev.step (fun k=>by rw [zX.j3]) (yG Bool.false_ne_true (yG k3 (zR k4 ?_)))
       by_cases h40:f6.length ≤ 40
       ·rw [decide_eq_true h40,Bool.true_and]
        refine zR (by omega) ?_
        unfold tq
        by_cases c1:f4.toList = ([108]:List UInt8)
        ·rw [decide_eq_true c1];exact zR c1 (hj true)
        ·rw [decide_eq_false c1,Bool.false_or]
         refine yG c1 ?_
         by_cases c2:f4.toList = ([99]:List UInt8)
         ·rw [decide_eq_true c2];exact zR c2 (hj true)
         ·rw [decide_eq_false c2,Bool.false_or]
          refine yG c2 ?_
          by_cases c3:f4.toList = ([101]:List UInt8)
          ·rw [decide_eq_true c3];exact zR c3 (hj true)
          ·rw [decide_eq_false c3,Bool.false_or]
           refine yG c3 ?_
           by_cases c4:f4.toList = ([97]:List UInt8)
           ·rw [decide_eq_true c4];exact zR c4 (hj true)
           ·rw [decide_eq_false c4,Bool.false_or]
            refine yG c4 (jR ?_ (hj _))
            rw [show (f4.toList == ([126]:List UInt8)) = decide (f4.toList = ([126]:List UInt8)) from by by_cases h:f4.toList = ([126]:List UInt8) <;> simp [h]]
       ·rw [decide_eq_false h40,Bool.false_and]
        exact yG (by omega) (hj false)
      ·rw [if_neg k4]
       by_cases k5:f0 = 5
       ·rw [if_pos k5]
        refine Ev.step (fun k=>by rw [zX.j3]) (yG Bool.false_ne_true (yG k3 (yG k4 (zR k5 ?_))))
        cases rb with
        | false=>exact yG Bool.false_ne_true (Ev.now _)
        | true =>
         refine zR rfl ?_
         cases sb with
         | false=>exact yG Bool.false_ne_true (Ev.now _)
         | true =>
          refine zR rfl (jR ?_ (Ev.now _))
          rw [zd9];rfl
       ·rw [if_neg k5,if_neg (fun h=>h.elim k2 (fun h=>h.elim k3 k6))]
        exact Ev.step (fun k=>by rw [zX.j3]) (yG Bool.false_ne_true (yG k3 (yG k4 (yG k5 (Ev.now _)))))
theorem zVa (h4:f4.size ≤ 1000000) (h5:f5.size ≤ 9223372036854775807) (h6:f6.length ≤ 1000000):Ev (fun k=>zX.f k f0 f1 f2 f3 f4 f5 f6) (VD f0 f1 f2 f3 f4 f5 f6):=by
 have hj:=zeq f0 f1 f2 f3 f4 f5 f6 h4 h5 h6
 have hg:VD f0 f1 f2 f3 f4 f5 f6 = ((!(decide (f1 < -1000000) || (decide (1000000 < f1) || (decide (f2 < 0) || decide (f3 < 0))))) && rvG f0 f1 f2 f3 f4 f5 f6):=by
  have zv4:f5 = ⟨#[]⟩ → Qz f5.data.toList = true:=fun e=>by rw [e];rfl
  unfold VD VB rvG
  rw [zVK]
  unfold zz3 Ze UN KE
  rw [show f4.toList = f4.data.toList from ByteArray.toList_eq f4,show f4.data.toList.length = f4.size from Array.length_toList]
  generalize (decide (f1 < -1000000)) = o1
  generalize (decide (1000000 < f1)) = o2
  generalize (decide (f2 < 0)) = o3
  generalize (decide (f3 < 0)) = o4
  generalize Zd f4.data.toList = nb
  generalize Lib.contains [108,99,101,97,126] f4.data.toList = ct
  generalize f6.any WS = fa
  generalize decide (f6.length ≤ 40) = l40
  generalize decide (f4.size = 1) = s1
  generalize decide (f4 = ⟨#[]⟩) = z4
  generalize decide (f4 = ⟨#[126]⟩) = t4
  generalize decide (f2 = 0) = z2
  generalize decide (f3 = 0) = z3
  generalize decide (f1 = 0) = z1
  by_cases h5':f5 = ⟨#[]⟩
  ·rw [zv4 h5',decide_eq_true h5']
   generalize decide (f6 = []) = z6
   cases o1 <;> cases o2 <;> cases o3 <;> cases o4 <;> simp [Bool.and_assoc,Bool.and_comm,Bool.and_left_comm]
  ·rw [decide_eq_false h5']
   generalize Qz f5.data.toList = cb
   generalize decide (f6 = []) = z6
   cases o1 <;> cases o2 <;> cases o3 <;> cases o4 <;> cases cb <;> simp [Bool.and_assoc,Bool.and_comm,Bool.and_left_comm]
 rw [hg]
 have bad:Ev (fun k=>zX.j0 k true f0 f1 f2 f3 f4 f5 f6) false:=Ev.step (fun k=>by rw [zX.j0]) (zR rfl (Ev.now _))
 refine Ev.congr (fun k=>by rw [zX.f]) ?_
 by_cases b1:f1 < -1000000
 ·rw [decide_eq_true b1];exact zR b1 bad
 ·rw [decide_eq_false b1,Bool.false_or]
  refine yG b1 ?_
  by_cases b2:f1 > 1000000
  ·rw [decide_eq_true (show 1000000 < f1 from b2)];exact zR b2 bad
  ·rw [decide_eq_false (show ¬ 1000000 < f1 from b2),Bool.false_or]
   refine yG b2 ?_
   by_cases b3:f2 < 0
   ·rw [decide_eq_true b3];exact zR b3 bad
   ·rw [decide_eq_false b3,Bool.false_or]
    refine yG b3 ?_
    by_cases b4:f3 < 0
    ·rw [decide_eq_true b4];exact bad
    ·rw [decide_eq_false b4,Bool.not_false,Bool.true_and]
     refine Ev.step (fun k=>by rw [zX.j0]) (yG Bool.false_ne_true ?_)
     have j1:∀ b:Bool,b = UN f5 f6 → Ev (fun k=>zX.j1 k b f0 f1 f2 f3 f4 f5 f6) (rvG f0 f1 f2 f3 f4 f5 f6):=fun b hb=>by
      subst hb
      refine Ev.step (fun k=>by rw [zX.j1]) ?_
      have j2:∀ b:Bool,b = KE f2 f3 f4 → Ev (fun k=>zX.j2 k (UN f5 f6) b f0 f1 f2 f3 f4 f5 f6) (rvG f0 f1 f2 f3 f4 f5 f6):=fun b hb=>by
       subst hb;exact hj
      unfold KE at j2
      by_cases c2:f2 = 0
      ·refine zR c2 ?_
       by_cases c3:f3 = 0
       ·refine zR c3 (j2 _ ?_)
        rw [decide_eq_true c2,decide_eq_true c3,zcV];rfl
       ·refine yG c3 (j2 _ ?_)
        rw [decide_eq_true c2,decide_eq_false c3];rfl
      ·refine yG c2 (j2 _ ?_)
       rw [decide_eq_false c2];rfl
     unfold UN at j1
     by_cases c5:f5 = ⟨#[]⟩
     ·refine zR (bS.2 c5) (j1 _ ?_)
      rw [decide_eq_true c5,zcJ];rfl
     ·refine yG (fun h=>c5 (bS.1 h)) (j1 _ ?_)
      rw [decide_eq_false c5];rfl
end
end Go.Proofs.YtggifbbiiickmaaGreatDoor
namespace Go.Proofs.YtggifbbiiickmaaGreatDoor
open Go.RowKit Go.Proofs.zx.zJ Go.Proofs.zx.zu Go.Proofs.zx.zo Go.Proofs.YtggifbbiiickmaaGreatDoor.PX
set_option linter.unusedSimpArgs false
set_option linter.unusedVariables false
set_option maxRecDepth 100000 in
set_option maxHeartbeats 4000000 in
theorem zv6 (A0:Option Addr) (c0:Nat) (l:List pX) (w:World) (hr:Kd.C Zw w A0 l.length l) (hl:l.length ≤ 1000000000) (p:pX → Bool) (g:Nat) (lb:Array Value) (eg:∀ args w,(callFunc g args).run Tryz.prog w = .ok (.enter g args) w)
  (hp:∀ (W:World) (x:pX) (A3:Option Addr) (c3:Nat) (A4:Option Addr) (c4:Nat) (A5:Option Addr) (c5:Nat),x ∈ l → Below w.heap.size w W → Kd.C vk W A3 x.f3.length x.f3 → x.f3.length ≤ c3 → Kd.C jg W A4 x.f4.length x.f4 → x.f4.length ≤ c4 → Kd.C jE W A5 x.f5.length x.f5 → x.f5.length ≤ c5 → Calls Tryz.prog g (#[.agg #[.string x.f0,.bool x.f1,.int .i64 x.f2,.slice A3 x.f3.length c3,.slice A4 x.f4.length c4,.slice A5 x.f5.length c5]] ++ lb) W fun e w'=>e = .returned (.bool (p x)) ∧ Below w.heap.size w w') :
  Calls Tryz.prog 83 #[.slice A0 l.length c0,.func (.func g) #[] lb] w fun e w'=>e = .returned (.int .i64 (kT p l 0)) ∧ Below w.heap.size w w':=by
 have H:=zk.mk hr
 have HP:=zk.mk hp
 clear hr hp
 generalize hR:kT p l 0 = R
 have HR:=zk.mk hR
 clear hR
 go_enter Tryz.func83,Tryz.ntmps83
 go_wp2
 go_loopw [8] (fun i W=>∃ k:Nat,k ≤ l.length ∧ i = .int .i64 (k:Int) ∧ zk (kT p l 0 = kT p (l.drop k) k) ∧ zk (Below w.heap.size w W)) (fun i _=>l.length - (intOf i).toNat)
 case atStart=>exact ⟨0,Nat.zero_le _,rfl,⟨by rw [List.drop_zero]⟩,⟨Below.refl _ _⟩⟩
 case round =>
  obtain ⟨k,hk,rfl,HI,HB⟩:=hrel
  by_cases hlt:k < l.length
  ·obtain ⟨ad,A3,c3,A4,c4,A5,c5,e,x0,x1,x2,x3,x4,x5,g3,q3,g4,q4,g5,q5⟩:=PK (Kd.za H.out HB.out) (k:Int) (by omega) (by omega)
   cases e
   have e:uE l (k:Int) = l[k]:=by simp [uE,List.getD_eq_getElem?_getD,hlt]
   rw [Int.toNat_natCast] at x0 x1 x2 x3 x4 x5
   rw [e] at x0 x1 x2 x3 x4 x5 g3 q3 g4 q4 g5 q5
   clear e
   have hi:=HI.out
   rw [List.drop_eq_getElem_cons hlt,JJ] at hi
   have hm:l[k] ∈ l:=List.getElem_mem hlt
   generalize l[k] = x at x0 x1 x2 x3 x4 x5 g3 q3 g4 q4 g5 q5 hi hm
   have hcall:=HP.out wr x A3 c3 A4 c4 A5 c5 hm HB.out q3 g3 q4 g4 q5 g5
   clear hm q3 g3 q4 g4 q5 g5
   cases hq:p x with
   | true =>
    rw [hq] at hcall
    rw [if_pos hq] at hi
    have HI2:=zk.mk (HR.out.symm.trans hi)
    clear hi hq HI
    go_wp2_with fail
    refine hcall.mono ?_;rintro e w' ⟨rfl,hb'⟩
    go_wp2_with fail
    go_ret
    exact ⟨by rw [HI2.out];rfl,hb'⟩
   | false =>
    rw [hq] at hcall
    rw [if_neg (by rw [hq];exact Bool.false_ne_true)] at hi
    have HI2:=zk.mk hi
    clear hi hq HI
    go_wp2_with fail
    refine hcall.mono ?_;rintro e w' ⟨rfl,hb'⟩
    go_wp2_with fail
    go_roundw
    case rel=>exact ⟨k + 1,by omega,by first | rfl | go_num,HI2,⟨hb'⟩⟩
    case measure=>simp [intOf];omega
  ·obtain rfl:k = l.length:=by omega
   have hi:=HI.out
   rw [List.drop_eq_nil_of_le (Nat.le_refl _)] at hi
   have HI2:=zk.mk (HR.out.symm.trans hi)
   clear hi HI
   go_wp2
   go_ret
   exact ⟨by rw [HI2.out];rfl,HB.out⟩
set_option maxRecDepth 100000 in
theorem iK (A0:Option Addr) (c0:Nat) (l:List pX) (w:World) (hr:Kd.C Zw w A0 l.length l) (hl:l.length ≤ 1000000000) (p:pX → Bool) (g:Nat) (lb:Array Value) (eg:∀ args w,(callFunc g args).run Tryz.prog w = .ok (.enter g args) w)
  (hp:∀ (W:World) (x:pX) (A3:Option Addr) (c3:Nat) (A4:Option Addr) (c4:Nat) (A5:Option Addr) (c5:Nat),x ∈ l → Below w.heap.size w W → Kd.C vk W A3 x.f3.length x.f3 → x.f3.length ≤ c3 → Kd.C jg W A4 x.f4.length x.f4 → x.f4.length ≤ c4 → Kd.C jE W A5 x.f5.length x.f5 → x.f5.length ≤ c5 → Calls Tryz.prog g (#[.agg #[.string x.f0,.bool x.f1,.int .i64 x.f2,.slice A3 x.f3.length c3,.slice A4 x.f4.length c4,.slice A5 x.f5.length c5]] ++ lb) W fun e w'=>e = .returned (.bool (p x)) ∧ Below w.heap.size w w') :
  Calls Tryz.prog 37 #[.slice A0 l.length c0,.func (.func g) #[] lb] w fun e w'=>e = .returned (.bool (l.any p)) ∧ Below w.heap.size w w':=by
 have h:=zv6 A0 c0 l w hr hl p g lb eg hp
 have e:=Ku p l 0
 generalize kT p l 0 = i at h e
 generalize l.any p = b at e ⊢
 subst e
 clear hp hr
 go_enter Tryz.func37,Tryz.ntmps37
 go_wp2_with (go_at_call 83;refine h.mono ?_;rintro e w1 ⟨rfl,hb⟩)
 go_ret
 exact ⟨rfl,hb⟩
end Go.Proofs.YtggifbbiiickmaaGreatDoor
namespace Go.Proofs.YtggifbbiiickmaaGreatDoor
open Go.RowKit Go.Proofs.zx.zJ Go.Proofs.zx.zu Go.Proofs.zx.zo
set_option linter.unusedSimpArgs false
set_option linter.unusedVariables false
namespace RW
section
variable {P:Program} {ops:Array Oper} {Q:Exit → Act → World → Prop} {md:Region.Mode} {S:World → Prop} {ds:List Nat} {T:Bool × List (List Nat × List Nat)} {oi:Oper} {v:Value} {fuel:Nat} {l:Array Bool} {a a':Act} {w:World}
theorem rP (i:Nat) (N:Option Tmp) (HT:zk (q9 md ops = T)) (h:yK P md ops Q S ds fuel (l.setIfInBounds i true) a' w)
  (hi:ops[i]? = some oi:=by exact rfl) (hN:oi.dst = N:=by exact rfl) (hc:fU T l.toList (l.setIfInBounds i true).toList i = true:=by kernel_rfl) (hQ:∀ c a w,Q (.panic c) (a.put oi.dst v) w → Q (.panic c) a w:=by exact fun _ _ _ h=>h)
  (hg:Region.wanted oi (yielded ops a.tmps) = true:=by rfl) (hy:∀ w,(execOp a.eval oi).run P w = .ok (.value v) w:=by intro w';go_simp;with_reducible rfl) (ha:a.put N v = a':=by simp only [Act.put,List.setIfInBounds_toArray,List.set_cons_zero,List.set_cons_succ,qR,qU];rfl) :
  yK P md ops Q S ds (fuel + 1) l a w:=xk _ hi hN (qD HT.out hc) hQ (Or.inl ⟨hg,hy⟩) ha h
theorem rU (i:Nat) (N:Option Tmp) (HT:zk (q9 md ops = T)) (h:yK P md ops Q S ds fuel (l.setIfInBounds i true) a' w)
  (hi:ops[i]? = some oi:=by exact rfl) (hN:oi.dst = N:=by exact rfl) (hc:fU T l.toList (l.setIfInBounds i true).toList i = true:=by kernel_rfl) (hQ:∀ c a w,Q (.panic c) (a.put oi.dst undef) w → Q (.panic c) a w:=by exact fun _ _ _ h=>h)
  (hg:Region.wanted oi (yielded ops a.tmps) = false:=by rfl) (ha:a.put N undef = a':=by simp only [Act.put,List.setIfInBounds_toArray,List.set_cons_zero,List.set_cons_succ,qR,qU];rfl) :
  yK P md ops Q S ds (fuel + 1) l a w:=xk _ hi hN (qD HT.out hc) hQ (Or.inr ⟨hg,rfl⟩) ha h
theorem rT {B:List Nat} (i:Nat) (N:Option Tmp) (HT:zk (q9 md ops = T)) (HW:zk (xC T.2 B = true)) (hS:S w) (h:yK P md ops Q S ds fuel (l.setIfInBounds i true) a' w)
  (hi:ops[i]? = some oi:=by exact rfl) (hN:oi.dst = N:=by exact rfl) (hc:lT T B ds l.toList (l.setIfInBounds i true).toList i = true:=by kernel_rfl) (hQ:∀ c a w,Q (.panic c) (a.put oi.dst v) w → Q (.panic c) a w:=by exact fun _ _ _ h=>h)
  (hg:Region.wanted oi (yielded ops a.tmps) = true:=by rfl) (hy:∀ w,S w → (execOp a.eval oi).run P w = .ok (.value v) w:=by intro w' hs_;go_simp;with_reducible rfl) (ha:a.put N v = a':=by simp only [Act.put,List.setIfInBounds_toArray,List.set_cons_zero,List.set_cons_succ,qR,qU];rfl) :
  yK P md ops Q S ds (fuel + 1) l a w:=XL _ hi hN (X4 HT.out HW.out hc) hQ (Or.inl ⟨hg,hy⟩) hS ha h
theorem rS {X:World} {B:List Nat} {n id:Nat} (HS:zk (∀ W,Below X.heap.size X W → S W)) (hT:q9 .any ops = T) (hB:xC T.2 B = true) (hm:P.follows .mixedOrders = true) (hn:ops.size = n) (hl:Array.replicate n false = l)
  (h:∀ w,zk (Below X.heap.size X w) → zk (q9 .any ops = T) → zk (xC T.2 B = true) → S w → yK P .any ops Q S [] n l a w):(Code.region id ops true).wp P Q a X :=
 pG _ hm hn hl (HS.out _ (Below.refl _ _).drew) fun hH=>h _ ⟨(Below.refl _ _).drew⟩ ⟨hT⟩ ⟨hB⟩ hH
theorem rSD {X:World} {B:List Nat} {n id:Nat} (ds:List Nat) (HS:zk (∀ W,Below X.heap.size X W → S W)) (hT:q9 .any ops = T) (hB:xC T.2 B = true) (hm:P.follows .mixedOrders = true) (hn:ops.size = n) (hl:Array.replicate n false = l)
  (h:∀ w,zk (Below X.heap.size X w) → zk (q9 .any ops = T) → zk (xC T.2 B = true) → S w → yK P .any ops Q S ds n l a w):(Code.region id ops true).wp P Q a X :=
 pG _ hm hn hl (HS.out _ (Below.refl _ _).drew) fun hH=>h _ ⟨(Below.refl _ _).drew⟩ ⟨hT⟩ ⟨hB⟩ hH
theorem rC {X:World} {f:FuncId} {fn:Func} {aps:Array Operand} {ts:Array TypeId} {args:Array Value} (i:Nat) (N:Option Tmp) (HT:zk (q9 md ops = T)) (HS:zk (∀ W,Below X.heap.size X W → S W)) (HY:zk (Below X.heap.size X w)) (hf:P.funcs[f]? = some fn)
  (hcall:Calls P f args w fun e w'=>e = .returned v ∧ Below w.heap.size w w') (h:∀ w',zk (Below X.heap.size X w') → S w' → yK P md ops Q S ds fuel (l.setIfInBounds i true) a' w') (hname:(fn.name == "runtime.NumGoroutine") = false)
  (hi:ops[i]? = some oi:=by exact rfl) (hN:oi.dst = N:=by exact rfl) (hc:(U2 T.2 l.toList == [i] && l.toList.set i true == (l.setIfInBounds i true).toList) = true:=by kernel_rfl) (hd:i ∉ ds:=by decide) (hb:fn.body.isSome = true:=by exact rfl) (hw:Region.wanted oi (yielded ops a.tmps) = true:=by rfl)
  (hop:oi.op = .call { callee:=.value (.func f),args:=aps,argTypes:=ts }:=by exact rfl) (hargs:aps.map a.eval = args:=by (try simp only [List.map_toArray,List.map_cons,List.map_nil]);first | done | rfl) (ha:a.put N v = a':=by simp only [Act.put,List.setIfInBounds_toArray,List.set_cons_zero,List.set_cons_succ,qR,qU];rfl) :
  yK P md ops Q S ds (fuel + 1) l a w:=by
 refine Yr _ hi hN (jY HT.out hc) hd fun K hK=>?_
 refine YL hf hname hb args hw hN hop hargs (hcall.mono ?_)
 rintro e w' ⟨rfl,hk⟩
 have h2:=HY.out.trans (hk.mono HY.out.size)
 refine ⟨_,rfl,hK.out _ _ (HS.out _ h2) fun hH=>?_⟩
 rw [ha]
 exact h _ ⟨h2⟩ hH
end
end RW
end Go.Proofs.YtggifbbiiickmaaGreatDoor
namespace Go.Proofs.YtggifbbiiickmaaGreatDoor
open Go.RowKit Go.Proofs.zx.zJ Go.Proofs.zx.zu Go.Proofs.zx.zo Go.Proofs.YtggifbbiiickmaaGreatDoor.PX
set_option linter.unusedSimpArgs false
set_option linter.unusedVariables false
theorem XJ {x:ql} (h:q8 x = true):x.f3.length ≤ 400 ∧ x.f4.length ≤ 50 ∧ x.f5.length ≤ 500:=zVy h
theorem zXR {l:List ql} {i:Int} (h0:0 ≤ i) (h1:i < (l.length:Int)):vw l i ∈ l:=by
 unfold vw uE
 rw [List.getD_eq_getElem?_getD,List.getElem?_eq_getElem (by omega),Option.getD_some]
 exact List.getElem_mem _
theorem YB {l:List ql} {i:Int} (hv:∀ x ∈ l,q8 x = true) (h0:0 ≤ i) (h1:i < (l.length:Int)):q8 (vw l i) = true:=hv _ (zXR h0 h1)
theorem zj4 (n:ByteArray):∀ (l:List ql) (i:Nat),Wn n l i = kT (fun x=>x.f1 && gB x n) l i
 | [],_=>rfl
 | x :: r,i=>by
  unfold Wn
  rw [JJ,zj4 n r]
theorem zv7 (n:ByteArray):∀ (l:List ql) (i:Nat),Wn n l i = -1 ∨ (0 ≤ Wn n l i ∧ Wn n l i < ((i + l.length:Nat):Int))
 | [],_=>Or.inl rfl
 | x :: r,i=>by
  unfold Wn
  by_cases h:(x.f1 && gB x n) = true
  ·rw [if_pos h];right;simp only [List.length_cons];omega
  ·rw [if_neg h]
   rcases zv7 n r (i + 1) with h1 | h1
   ·exact Or.inl h1
   ·right;simp only [List.length_cons];omega
theorem zKT {l:List ql} {f:Int} (n:ByteArray) (h0:0 ≤ f) (h1:f < (l.length:Int)):wZ l f n = -1 ∨ (0 ≤ wZ l f n ∧ wZ l f n < (l.length:Int)):=by
 unfold wZ
 split
 ·exact Or.inr ⟨h0,h1⟩
 ·have:=zv7 n l 0
  simpa using this
set_option maxRecDepth 100000 in
set_option maxHeartbeats 4000000 in
theorem zKU (B:Nat) (n:ByteArray) (x:ql) (A3:Option Addr) (c3:Nat) (A4:Option Addr) (c4:Nat) (A5:Option Addr) (c5:Nat) (W:World) (hG:GW W) (hx:q8 x = true) (hB:W.cell? ⟨B,0,none⟩ = some (.string n))
  (q3:Kd.C vk W A3 x.f3.length x.f3) (g3:x.f3.length ≤ c3) (q4:Kd.C jg W A4 x.f4.length x.f4) (g4:x.f4.length ≤ c4) (q5:Kd.C jE W A5 x.f5.length x.f5) (g5:x.f5.length ≤ c5) :
  Calls Tryz.prog 136 #[.agg #[.string x.f0,.bool x.f1,.int .i64 x.f2,.slice A3 x.f3.length c3,.slice A4 x.f4.length c4,.slice A5 x.f5.length c5],.pointer (some ⟨B,0,none⟩)] W fun e w'=>e = .returned (.bool (x.f1 && gB x n)) ∧ Below W.heap.size W w':=by
 have hl:=World.block_lt_of_cell? W _ hB
 have hb0:Below W.heap.size W (W.alloc (.cells #[.string x.f0,.bool x.f1,.int .i64 x.f2,.slice A3 x.f3.length c3,.slice A4 x.f4.length c4,.slice A5 x.f5.length c5] 60)):=(Below.refl _ W).alloc (Nat.le_refl _) _
 have hc:(W.alloc (.cells #[.string x.f0,.bool x.f1,.int .i64 x.f2,.slice A3 x.f3.length c3,.slice A4 x.f4.length c4,.slice A5 x.f5.length c5] 60)).cell? ⟨B,0,none⟩ = some (.string n):=(World.cell?_alloc_lt _ _ _ hl).trans hB
 have hz:=XJ hx
 have hh:=X9.calls x.f0 x.f1 x.f2 A3 c3 x.f3 A4 c4 x.f4 A5 c5 x.f5 n (gu x.f3 n) _ (Kd.za q3 hb0) g3 (Kd.za q4 hb0) g4 (Kd.za q5 hb0) g5 (hG.under hb0) (by unfold X9.f;rw [if_pos (by omega)])
 unfold gB
 generalize gu x.f3 n = b at hh ⊢
 cases hs:x.f1 with
 | false =>
  rw [hs] at hc hb0
  clear hh hz hx q3 q4 q5
  go_enter Tryz.func136,Tryz.ntmps136
  go_wp2
  go_ret
  exact ⟨rfl,hb0⟩
 | true =>
  rw [hs] at hc hb0 hh
  clear hz hx q3 q4 q5
  go_enter Tryz.func136,Tryz.ntmps136
  go_wp2_with (go_at_call 135;refine hh.mono ?_;rintro e w2 ⟨rfl,hb2⟩)
  go_ret
  exact ⟨by cases b <;> rfl,hb0.trans (hb2.mono hb0.size)⟩
def home.T1:Bool × List (List Nat × List Nat):=(true,[([],[]),([0],[0]),([1],[1]),([2],[2]),([],[]),([4],[4]),([5],[5]),([6],[6]),([7],[7]),([3,8],[3,8]),([9],[9]),([],[]),([10,11],[10,11])])
def home.B1:List Nat:=[0,1,3,7,0,16,48,112,240,511,1023,0,4095]
theorem home.zxy:q9 .any (opsOf Tryz.f105 1) = home.T1:=by kernel_rfl
theorem home.tZ:xC home.T1.2 home.B1 = true:=by kernel_rfl
set_option maxRecDepth 100000 in
set_option maxHeartbeats 8000000 in
theorem zv8 (w0:World) (g:Nat) (Af:Option Addr) (cf:Nat) (l:List ql) (f s:Int) (yh zT:Bool) (vo vl:Value) (n:ByteArray) (w:World) (hG:GW w0) (hC:Kd.C Zw w0 Af l.length l) (hl:l.length ≤ 1000000000) (hf0:0 ≤ f) (hf1:f < (l.length:Int)) (hv:∀ x ∈ l,q8 x = true) (hw:Below w0.heap.size w0 w)
  (hS:w.heap[g]? = some (.cells #[.slice Af l.length cf,.int .i64 f,.int .i64 s,.bool yh,.bool zT,vo,vl] 90 (0,0))) :
  Calls Tryz.prog 105 #[.pointer (some ⟨g,0,none⟩),.string n] w fun e w'=>e = .returned (.int .i64 (wZ l f n)) ∧ Below w.heap.size w w':=by
 obtain ⟨w1,hw1⟩:∃ w1,w.alloc (.cells #[.string n] 9) = w1:=⟨_,rfl⟩
 have hb1:Below w.heap.size w w1:=by rw [← hw1];exact (Below.refl _ w).alloc (Nat.le_refl _) _
 have hS1:=yY hS hb1
 have hN:w1.cell? ⟨w.heap.size,0,none⟩ = some (.string n):=by rw [← hw1];simp
 have hwb:Below w0.heap.size w0 w1:=hw.trans (hb1.mono hw.size)
 have hC1:=Kd.za hC hwb
 have hG1:GW w1:=hG.under hwb
 obtain ⟨ad,A3,c3,A4,c4,A5,c5,e,x0,x1,x2,x3,x4,x5,g3,q3,g4,q4,g5,q5⟩:=PK hC1 f hf0 (by omega)
 subst e
 have hx:=YB hv hf0 hf1
 have hz:=XJ hx
 have hhome:wZ l f n = if gu (vw l f).f3 n then f else kT (fun x=>x.f1 && gB x n) l 0:=by unfold wZ;rw [zj4];rfl
 have e:uE l f = vw l f:=rfl
 rw [e] at x0 x1 x2 x3 x4 x5 g3 q3 g4 q4 g5 q5
 clear e
 generalize vw l f = x at x0 x1 x2 x3 x4 x5 g3 q3 g4 q4 g5 q5 hx hz hhome
 have hh:∀ W,Below w1.heap.size w1 W → Calls Tryz.prog 135 #[.agg #[.string x.f0,.bool x.f1,.int .i64 x.f2,.slice A3 x.f3.length c3,.slice A4 x.f4.length c4,.slice A5 x.f5.length c5],.string n] W fun e w'=>e = .returned (.bool (gu x.f3 n)) ∧ Below W.heap.size W w':=fun W hb =>
  X9.calls x.f0 x.f1 x.f2 A3 c3 x.f3 A4 c4 x.f4 A5 c5 x.f5 n (gu x.f3 n) _ (Kd.za q3 hb) g3 (Kd.za q4 hb) g4 (Kd.za q5 hb) g5 (hG1.under hb) (by unfold X9.f;rw [if_pos (by omega)])
 have HH:=zk.mk hh
 have hi:∀ W,Below w1.heap.size w1 W → Calls Tryz.prog 83 #[.slice (some ad) l.length cf,.func (.func 136) #[] #[.pointer (some ⟨w.heap.size,0,none⟩)]] W fun e w'=>e = .returned (.int .i64 (kT (fun x=>x.f1 && gB x n) l 0)) ∧ Below W.heap.size W w':=fun W hb =>
  (zv6 (some ad) cf l W (Kd.za hC1 hb) hl (fun x=>x.f1 && gB x n) 136 #[.pointer (some ⟨w.heap.size,0,none⟩)] (pV Tryz.func136 (by kernel_rfl) rfl)
   (fun V y A3 c3 A4 c4 A5 c5 hm hV p3 g3 p4 g4 p5 g5=>by
    have hb2:=hb.trans (hV.mono hb.size)
    have hlt:=World.block_lt_of_cell? w1 _ hN
    exact (zKU w.heap.size n y A3 c3 A4 c4 A5 c5 V (hG1.under hb2) (hv y hm) ((hb2.cell (p:=⟨w.heap.size,0,none⟩) hlt).trans hN) p3 g3 p4 g4 p5 g5).mono fun e w' ⟨h1,h2⟩=>⟨h1,hV.trans (h2.mono hV.size)⟩))
 have HI:=zk.mk hi
 have hs0:w1.cell? ⟨g,0,none⟩ = some (.slice (some ad) l.length cf):=(zV hS1 0).trans rfl
 have hs1:w1.cell? ⟨g,1,none⟩ = some (.int .i64 f):=(zV hS1 1).trans rfl
 have HS:=zk.mk (fun (W:World) (h:Below w1.heap.size w1 W)=>(show W.cell? ⟨g,0,none⟩ = some (.slice (some ad) l.length cf) ∧ W.cell? ⟨g,1,none⟩ = some (.int .i64 f) ∧ W.cell? ⟨w.heap.size,0,none⟩ = some (.string n) ∧ W.cell? (ad.add (f.toNat * 6)) = some (.string x.f0) ∧ W.cell? ⟨(ad.add (f.toNat * 6)).block,(ad.add (f.toNat * 6)).off + 1,none⟩ = some (.bool x.f1) ∧ W.cell? ⟨(ad.add (f.toNat * 6)).block,(ad.add (f.toNat * 6)).off + 2,none⟩ = some (.int .i64 x.f2) ∧ W.cell? ⟨(ad.add (f.toNat * 6)).block,(ad.add (f.toNat * 6)).off + 3,none⟩ = some (.slice A3 x.f3.length c3) ∧ W.cell? ⟨(ad.add (f.toNat * 6)).block,(ad.add (f.toNat * 6)).off + 4,none⟩ = some (.slice A4 x.f4.length c4) ∧ W.cell? ⟨(ad.add (f.toNat * 6)).block,(ad.add (f.toNat * 6)).off + 5,none⟩ = some (.slice A5 x.f5.length c5) from
  ⟨(h.cell (World.block_lt_of_cell? w1 _ hs0)).trans hs0,(h.cell (World.block_lt_of_cell? w1 _ hs1)).trans hs1,(h.cell (World.block_lt_of_cell? w1 _ hN)).trans hN,(h.cell (World.block_lt_of_cell? w1 _ x0)).trans x0,(h.cell (World.block_lt_of_cell? w1 _ x1)).trans x1,(h.cell (World.block_lt_of_cell? w1 _ x2)).trans x2,(h.cell (World.block_lt_of_cell? w1 _ x3)).trans x3,(h.cell (World.block_lt_of_cell? w1 _ x4)).trans x4,(h.cell (World.block_lt_of_cell? w1 _ x5)).trans x5⟩))
 generalize hR:wZ l f n = R at hhome
 have HR:=zk.mk hhome
 have HB1:=zk.mk hb1
 clear hhome hh hi hS hS1 hN hC hC1 hG hG1 hw hwb hs0 hs1 x0 x1 x2 x3 x4 x5 q3 q4 q5 hv hx hR hz hb1
 go_enter Tryz.func105,Tryz.ntmps105
 go_wp2_with fail
 clear hw1
 cases hb:gu x.f3 n with
 | true =>
  rw [hb,if_pos rfl] at HR
  rw [hb] at HH
  refine RW.rS (n:=13) HS home.zxy home.tZ (by kernel_rfl) rfl rfl (fun w2 H0 T U h=>?_)
  refine RW.rP 0 (some 5) T ?_
  refine RW.rP 1 (some 6) T ?_
  refine RW.rP 2 (some 7) T ?_
  refine RW.rT 3 (some 8) T U h ?_
  refine RW.rP 4 (some 9) T ?_
  refine RW.rP 5 (some 10) T ?_
  refine RW.rP 6 (some 11) T ?_
  refine RW.rP 7 (some 12) T ?_
  refine RW.rT 8 (some 13) T U h ?_
  refine RW.rP 9 (some 14) T ?_
  refine RW.rT 10 (some 15) T U h ?_
  refine RW.rT 11 (some 16) T U h ?_
  clear h
  refine RW.rC 12 (some 17) T HS H0 Tryz.func135 (HH.out _ H0.out) (fun w3 H3 h=>?_) (by kernel_rfl)
  refine um (xK T.out (by kernel_rfl)) ?_
  obtain ⟨h1,h2,h3,h4⟩:=h
  go_wp2_with fail
  go_ret
  exact ⟨by rw [HR.out];rfl,HB1.out.trans (H3.out.mono HB1.out.size)⟩
 | false =>
  rw [hb,if_neg Bool.false_ne_true] at HR
  rw [hb] at HH
  refine RW.rS (n:=13) HS home.zxy home.tZ (by kernel_rfl) rfl rfl (fun w2 H0 T U h=>?_)
  refine RW.rP 0 (some 5) T ?_
  refine RW.rP 1 (some 6) T ?_
  refine RW.rP 2 (some 7) T ?_
  refine RW.rT 3 (some 8) T U h ?_
  refine RW.rP 4 (some 9) T ?_
  refine RW.rP 5 (some 10) T ?_
  refine RW.rP 6 (some 11) T ?_
  refine RW.rP 7 (some 12) T ?_
  refine RW.rT 8 (some 13) T U h ?_
  refine RW.rP 9 (some 14) T ?_
  refine RW.rT 10 (some 15) T U h ?_
  refine RW.rT 11 (some 16) T U h ?_
  clear h
  refine RW.rC 12 (some 17) T HS H0 Tryz.func135 (HH.out _ H0.out) (fun w3 H3 h=>?_) (by kernel_rfl)
  refine um (xK T.out (by kernel_rfl)) ?_
  obtain ⟨h1,h2,h3,h4⟩:=h
  clear h2 h4
  go_wp2_with fail
  refine (HI.out _ H3.out).mono ?_;rintro e w4 ⟨rfl,hb4⟩
  go_wp2_with fail
  go_ret
  exact ⟨by rw [HR.out];rfl,HB1.out.trans ((H3.out.trans (hb4.mono H3.out.size)).mono HB1.out.size)⟩
end Go.Proofs.YtggifbbiiickmaaGreatDoor
namespace Go.Proofs.YtggifbbiiickmaaGreatDoor
open Go.RowKit Go.Proofs.zx.zJ Go.Proofs.zx.zu Go.Proofs.zx.zo Go.Proofs.YtggifbbiiickmaaGreatDoor.PX
set_option linter.unusedSimpArgs false
set_option linter.unusedVariables false
def vL (base B:Nat) (w w':World):Prop:=Below 0 w w' ∧ (∀ (k:Nat) (o:Obj),w.heap[k]? = some o → o.isCells = false → w'.heap[k]? = some o) ∧ ∀ k:Nat,k < base → k ≠ B → w'.heap[k]? = w.heap[k]?
theorem vL.refl (base B:Nat) (w:World):vL base B w w:=⟨Below.refl _ _,fun _ _ h _=>h,fun _ _ _=>rfl⟩
theorem vL.trans {base B:Nat} {a b c:World} (h:vL base B a b) (k:vL base B b c):vL base B a c :=
 ⟨h.1.trans k.1,fun i o hi ho=>k.2.1 i o (h.2.1 i o hi ho) ho,fun i hi hb=>(k.2.2 i hi hb).trans (h.2.2 i hi hb)⟩
theorem vL.below {base B:Nat} {a b:World} (h:Below a.heap.size a b) (hb:base ≤ a.heap.size):vL base B a b :=
 ⟨h.mono (Nat.zero_le _),fun k o hk _=>(h.block k (Array.getElem?_eq_some_iff.1 hk).1).trans hk,fun k hk _=>h.block k (by omega)⟩
theorem vL.set {base B:Nat} {w:World} {cs:Array Value} {t:TypeId} {z:Nat × Nat} (h:w.heap[B]? = some (.cells cs t z)) (j:Nat) (u:Value):vL base B w (w.setCell ⟨B,j,none⟩ u):=by
 refine ⟨(Below.refl _ _).setCell (p:=⟨B,j,none⟩) (Nat.zero_le _) u,fun k o hk ho=>?_,fun k _ hb=>Below.heap_setCell w ⟨B,j,none⟩ u k hb⟩
 by_cases e:k = B
 ·subst e;rw [h] at hk;cases hk;cases ho
 ·rw [Below.heap_setCell w ⟨B,j,none⟩ u k e];exact hk
theorem vL.grown {base B:Nat} {a b:World} {v:Value} {e:TypeId} {size n:Nat} {xs:List Value} (ho:a.ownsRow base e size v n xs) (h:a.grownBy b v.ownBlock) (hb:base ≤ a.heap.size):vL base B a b:=by
 refine ⟨⟨h.os,h.tape,h.output,h.size,fun k hk=>absurd hk (Nat.not_lt_zero _)⟩,fun k o hk hc=>?_,fun k hk _=>h.block k (by omega) (fun e=>?_)⟩
 ·have hlt:=(Array.getElem?_eq_some_iff.1 hk).1
  rw [h.block k hlt (fun e=>?_)]
  ·exact hk
  ·obtain ⟨cells,hcc⟩:=U0 ho k e.symm
   rw [hcc] at hk;cases hk;cases hc
 ·have:=X0 ho k e.symm
  omega
theorem fE {base B n₀:Nat} {W W':World} (h:vL base B W W') (hn:n₀ ≤ B) (hn2:n₀ ≤ base):Below n₀ W W':=⟨h.1.os,h.1.tape,h.1.output,h.1.size,fun k hk=>h.2.2 k (by omega) (by omega)⟩
theorem zal {W W':World} {row:Option Nat} {k:Nat} {cs:Array Value} {t:TypeId} (h:W.heap[k]? = some (.cells cs t (0,0))) (hg:W.grownBy W' row) (hr:∀ r,row = some r → ∃ o:Obj,W.heap[r]? = some o ∧ o.isCells = false):W'.heap[k]? = some (.cells cs t (0,0)) :=
 pQ h hg (fun e=>by obtain ⟨o,ho,hn⟩:=hr k e.symm;rw [h] at ho;cases ho;cases hn)
theorem zwE {α:Type} {d:Kd α} {e base:Nat} {W W':World} {row:Option Nat} {v:Value} {xs:List α} (h:d.R e W base (fun _=>True) v xs) (hg:W.grownBy W' row) (hr:∀ r,row = some r → ∃ o:Obj,W.heap[r]? = some o ∧ o.isCells = false):d.R e W' base (fun _=>True) v xs :=
 Kd.jC (Kd.r9 (Kd.Zg h) hg (fun k hk e=>by
  obtain ⟨_,_,_,q,hq,cells,hc⟩:=hk
  obtain ⟨o,ho,hn⟩:=hr k e.symm
  rw [hc] at ho;cases ho;cases hn)) (fun _ _=>trivial)
end Go.Proofs.YtggifbbiiickmaaGreatDoor
namespace Go.Proofs.YtggifbbiiickmaaGreatDoor
open Go.RowKit Go.Proofs.zx.zJ Go.Proofs.zx.zu Go.Proofs.zx.zo Go.Proofs.YtggifbbiiickmaaGreatDoor.PX
set_option linter.unusedSimpArgs false
set_option linter.unusedVariables false
set_option maxRecDepth 100000 in
set_option maxHeartbeats 4000000 in
theorem zkU (a:ByteArray) (b:Bool) (c:Int) (A3:Option Addr) (c3:Nat) (l3:List yT) (A4:Option Addr) (c4:Nat) (l4:List qW) (A5:Option Addr) (c5:Nat) (l5:List qM) (na nb:ByteArray) (s:Int) (w:World) (hG:GW w) (h3:Kd.C vk w A3 l3.length l3) (g3:l3.length ≤ c3) (h4:Kd.C jg w A4 l4.length l4) (g4:l4.length ≤ c4) (h5:Kd.C jE w A5 l5.length l5) (g5:l5.length ≤ c5) (z3:l3.length ≤ 1000000000) (z4:l4.length ≤ 1000000000) (z5:l5.length ≤ 1000000000) :
  Calls Tryz.prog 21 #[.agg #[.string a,.bool b,.int .i64 c,.slice A3 l3.length c3,.slice A4 l4.length c4,.slice A5 l5.length c5],.string na,.string nb,.int .i64 s] w fun e w'=>e = .returned (.tuple #[.int .i64 (oF (xW a c l3 l4 l5) l5 na nb s).1,.int .i64 (oF (xW a c l3 l4 l5) l5 na nb s).2]) ∧ Below w.heap.size w w':=by
 have hb0:Below w.heap.size w (w.alloc (.cells #[.string a,.bool b,.int .i64 c,.slice A3 l3.length c3,.slice A4 l4.length c4,.slice A5 l5.length c5] 60)):=(Below.refl _ w).alloc (Nat.le_refl _) _
 have hbf:=uV w (.cells #[.string a,.bool b,.int .i64 c,.slice A3 l3.length c3,.slice A4 l4.length c4,.slice A5 l5.length c5] 60)
 have hfair:=jH.calls a b c A3 c3 l3 A4 c4 l4 A5 c5 l5 s (XQ s (xW a c l3 l4 l5)) (w.alloc (.cells #[.string a,.bool b,.int .i64 c,.slice A3 l3.length c3,.slice A4 l4.length c4,.slice A5 l5.length c5] 60)) (Kd.za h3 hb0) g3 (Kd.za h4 hb0) g4 (Kd.za h5 hb0) g5 (hG.under hb0) (zv3 a b c l3 l4 l5 s z3 z4 z5)
 have hval:oF (xW a c l3 l4 l5) l5 na nb s = (if XQ s (xW a c l3 l4 l5) = true then ((match l5.find? (fun x=>decide (x.f0 = na) && decide (x.f1 = nb)) with | some x=>flr s x.f2 | none=>0),0) else (0,1)):=rfl
 have hk:XQ s (xW a c l3 l4 l5) = true → (1 ≤ s ∧ s ≤ 1000) ∧ ∀ x ∈ l5,-500 ≤ x.f2 ∧ x.f2 ≤ 500:=fun h=>by
  obtain ⟨p,q,hv⟩:=iw h
  exact ⟨⟨p,q⟩,(oG hv).2⟩
 generalize oF (xW a c l3 l4 l5) l5 na nb s = R at hval ⊢
 cases Pb:XQ s (xW a c l3 l4 l5) with
 | false =>
  rw [Pb,if_neg (by simp)] at hval
  rw [Pb] at hfair
  subst hval
  clear h3 h4 h5 hk
  go_enter Tryz.func21,Tryz.ntmps21
  go_wp2_with fail
  refine hfair.mono ?_;rintro e w1 ⟨rfl,hb1⟩
  go_wp2
  go_ret2
  exact ⟨rfl,hb0.trans (hb1.mono hb0.size)⟩
 | true =>
 rw [Pb,if_pos rfl] at hval
 rw [Pb] at hfair
 obtain ⟨⟨s1,s2⟩,hkn⟩:=hk Pb
 have Ud:=zk.mk hval
 have HK:=zk.mk hkn
 have H5:=zk.mk h5
 clear h3 h4 h5 hk hval hkn
 go_enter Tryz.func21,Tryz.ntmps21
 go_wp2_with fail
 refine hfair.mono ?_;rintro e w1 ⟨rfl,hb1⟩
 have HB0:=zk.mk (hb0.trans (hb1.mono hb0.size))
 have hc5:w1.cell? ⟨w.heap.size,5,none⟩ = some (.slice A5 l5.length c5):=(zV (yY hbf hb1) 5).trans rfl
 clear hbf hb1 hfair
 go_wp2_with fail
 clear hc5
 go_loopw [19] (fun y W=>∃ i:Nat,y = .int .i64 (i:Int) ∧ i ≤ l5.length ∧ zk (l5.find? (fun x=>decide (x.f0 = na) && decide (x.f1 = nb)) = (l5.drop i).find? (fun x=>decide (x.f0 = na) && decide (x.f1 = nb))) ∧ zk (Below w.heap.size w W)) (fun y _=>l5.length - (intOf y).toNat)
 case atStart=>exact ⟨0,rfl,Nat.zero_le _,⟨by rw [List.drop_zero]⟩,HB0⟩
 case round =>
  clear HB0
  obtain ⟨i,rfl,hi,HX,HB⟩:=hrel
  by_cases hlt:i < l5.length
  ·obtain ⟨ad,e,x0,x1,x2⟩:=zzt (Kd.za H5.out HB.out) (i:Int) (by omega) (by omega)
   cases e
   have e:vB l5 (i:Int) = l5[i]:=by simp [vB,List.getD_eq_getElem?_getD,hlt]
   rw [Int.toNat_natCast,e] at x0 x1 x2
   clear e
   have hx:=HX.out
   rw [List.drop_eq_getElem_cons hlt,List.find?_cons] at hx
   have hm:l5[i] ∈ l5:=List.getElem_mem hlt
   generalize l5[i] = x at x0 x1 x2 hx hm
   have q1:(i:Int) < (l5.length:Int):=by omega
   have q0:(0:Int) ≤ (i:Int):=by omega
   have q3:((i:Int)).toNat = i:=Int.toNat_natCast i
   have hbX:Below wr.heap.size wr (wr.alloc (.cells #[.string x.f0,.string x.f1,.int .i64 x.f2] 111)):=(Below.refl _ wr).alloc (Nat.le_refl _) _
   have hb2:=HB.out.trans (hbX.mono HB.out.size)
   by_cases t0:x.f0 = na
   case neg =>
    have d0:(x.f0.toList == na.toList) = false:=beq_eq_false_iff_ne.2 (fun e=>t0 (nK.1 e))
    rw [decide_eq_false t0,Bool.false_and] at hx
    have fF:=zk.mk hx
    clear hx
    clear hm t0
    go_wp2
    go_roundw
    case rel=>exact ⟨i + 1,by first | rfl | (simp;done) | go_num,by omega,fF,⟨hb2⟩⟩
    case measure=>simp [intOf];omega
   have d0:(x.f0.toList == na.toList) = true:=beq_iff_eq.2 (nK.2 t0)
   by_cases t1:x.f1 = nb
   case neg =>
    have d1:(x.f1.toList == nb.toList) = false:=beq_eq_false_iff_ne.2 (fun e=>t1 (nK.1 e))
    rw [decide_eq_false t1,Bool.and_false] at hx
    have fF:=zk.mk hx
    clear hx t1
    clear hm t0
    go_wp2
    go_roundw
    case rel=>exact ⟨i + 1,by first | rfl | (simp;done) | go_num,by omega,fF,⟨hb2⟩⟩
    case measure=>simp [intOf];omega
   case pos =>
    have d1:(x.f1.toList == nb.toList) = true:=beq_iff_eq.2 (nK.2 t1)
    rw [decide_eq_true t0,decide_eq_true t1] at hx
    simp only [Bool.and_true] at hx
    rw [hx] at Ud
    have hR:=Ud.out
    subst hR
    have hsc:=fun W=>vD.calls x.f2 s (flr s x.f2) W (zv0 x.f2 s s1 s2 (by have:=HK.out x hm;omega) (by have:=HK.out x hm;omega))
    clear hx Ud hm t0 t1
    go_wp2_with fail
    refine (hsc _).mono ?_;rintro e w3 ⟨rfl,⟨nd,rfl⟩⟩
    go_wp2
    go_ret2
    exact ⟨rfl,zC hb2 nd⟩
  ·obtain rfl:i = l5.length:=by omega
   have q1:decide ((l5.length:Int) < (l5.length:Int)) = false:=decide_eq_false (by omega)
   have hx:=HX.out
   rw [List.drop_eq_nil_of_le (Nat.le_refl _),List.find?_nil] at hx
   rw [hx] at Ud
   have hR:=Ud.out
   subst hR
   clear hx Ud
   go_wp2
   go_ret2
   exact ⟨rfl,HB.out⟩
set_option maxRecDepth 100000 in
set_option maxHeartbeats 4000000 in
theorem zK0 (a:ByteArray) (b:Bool) (c:Int) (A3:Option Addr) (c3:Nat) (l3:List yT) (A4:Option Addr) (c4:Nat) (l4:List qW) (A5:Option Addr) (c5:Nat) (l5:List qM) (na nb:ByteArray) (w:World) (hG:GW w) (h3:Kd.C vk w A3 l3.length l3) (g3:l3.length ≤ c3) (h4:Kd.C jg w A4 l4.length l4) (g4:l4.length ≤ c4) (h5:Kd.C jE w A5 l5.length l5) (g5:l5.length ≤ c5) (z3:l3.length ≤ 1000000000) (z4:l4.length ≤ 1000000000) (z5:l5.length ≤ 1000000000) :
  Calls Tryz.prog 45 #[.agg #[.string a,.bool b,.int .i64 c,.slice A3 l3.length c3,.slice A4 l4.length c4,.slice A5 l5.length c5],.string na,.string nb] w fun e w'=>e = .returned (.tuple #[.string (sU (xW a c l3 l4 l5) l4 na nb).1,.bool (sU (xW a c l3 l4 l5) l4 na nb).2]) ∧ Below w.heap.size w w':=by
 have hb0:Below w.heap.size w (w.alloc (.cells #[.string a,.bool b,.int .i64 c,.slice A3 l3.length c3,.slice A4 l4.length c4,.slice A5 l5.length c5] 60)):=(Below.refl _ w).alloc (Nat.le_refl _) _
 have hbf:=uV w (.cells #[.string a,.bool b,.int .i64 c,.slice A3 l3.length c3,.slice A4 l4.length c4,.slice A5 l5.length c5] 60)
 have hvalid:=jo.calls a b c A3 c3 l3 A4 c4 l4 A5 c5 l5 (xW a c l3 l4 l5) (w.alloc (.cells #[.string a,.bool b,.int .i64 c,.slice A3 l3.length c3,.slice A4 l4.length c4,.slice A5 l5.length c5] 60)) (Kd.za h3 hb0) g3 (Kd.za h4 hb0) g4 (Kd.za h5 hb0) g5 (hG.under hb0) (by unfold jo.f;rw [if_pos ⟨z3,z4,z5⟩])
 have hval:sU (xW a c l3 l4 l5) l4 na nb = (if xW a c l3 l4 l5 = true then (match l4.find? (fun x=>decide (x.f0 = na) && decide (x.f1 = nb)) with | some x=>(x.f2,true) | none=>((⟨#[]⟩:ByteArray),false)) else ((⟨#[]⟩:ByteArray),false)):=rfl
 generalize sU (xW a c l3 l4 l5) l4 na nb = R at hval ⊢
 by_cases h0:l4.length = 0
 ·have e:l4 = []:=List.eq_nil_of_length_eq_zero h0
  have hR:R = ((⟨#[]⟩:ByteArray),false):=by rw [hval,e];split <;> rfl
  subst hR
  have d0:((l4.length:Int) == 0) = true:=beq_iff_eq.2 (by omega)
  have d1:decide ((l4.length:Int) = 0) = true:=decide_eq_true (by omega)
  clear h3 h4 h5 hval hvalid e h0
  go_enter Tryz.func45,Tryz.ntmps45
  go_wp2
  go_ret2
  exact ⟨rfl,hb0⟩
 have d0:((l4.length:Int) == 0) = false:=beq_eq_false_iff_ne.2 (by omega)
 have d1:decide ((l4.length:Int) = 0) = false:=decide_eq_false (by omega)
 clear h0
 cases Pb:xW a c l3 l4 l5 with
 | false =>
  rw [Pb,if_neg (by simp)] at hval
  rw [Pb] at hvalid
  subst hval
  clear h3 h4 h5
  go_enter Tryz.func45,Tryz.ntmps45
  go_wp2_with fail
  refine hvalid.mono ?_;rintro e w1 ⟨rfl,hb1⟩
  go_wp2
  go_ret2
  exact ⟨rfl,hb0.trans (hb1.mono hb0.size)⟩
 | true =>
 rw [Pb,if_pos rfl] at hval
 rw [Pb] at hvalid
 have Ud:=zk.mk hval
 have H4:=zk.mk h4
 clear h3 h4 h5 hval
 go_enter Tryz.func45,Tryz.ntmps45
 go_wp2_with fail
 refine hvalid.mono ?_;rintro e w1 ⟨rfl,hb1⟩
 have HB0:=zk.mk (hb0.trans (hb1.mono hb0.size))
 have hc4:w1.cell? ⟨w.heap.size,4,none⟩ = some (.slice A4 l4.length c4):=(zV (yY hbf hb1) 4).trans rfl
 clear hbf hb1 hvalid
 go_wp2_with fail
 clear hc4 d0 d1
 go_loopw [22] (fun y W=>∃ i:Nat,y = .int .i64 (i:Int) ∧ i ≤ l4.length ∧ zk (l4.find? (fun x=>decide (x.f0 = na) && decide (x.f1 = nb)) = (l4.drop i).find? (fun x=>decide (x.f0 = na) && decide (x.f1 = nb))) ∧ zk (Below w.heap.size w W)) (fun y _=>l4.length - (intOf y).toNat)
 case atStart=>exact ⟨0,rfl,Nat.zero_le _,⟨by rw [List.drop_zero]⟩,HB0⟩
 case round =>
  clear HB0
  obtain ⟨i,rfl,hi,HX,HB⟩:=hrel
  by_cases hlt:i < l4.length
  ·obtain ⟨ad,e,x0,x1,x2⟩:=zzs (Kd.za H4.out HB.out) (i:Int) (by omega) (by omega)
   cases e
   have e:vW l4 (i:Int) = l4[i]:=by simp [vW,List.getD_eq_getElem?_getD,hlt]
   rw [Int.toNat_natCast,e] at x0 x1 x2
   clear e
   have hx:=HX.out
   rw [List.drop_eq_getElem_cons hlt,List.find?_cons] at hx
   have hm:l4[i] ∈ l4:=List.getElem_mem hlt
   generalize l4[i] = x at x0 x1 x2 hx hm
   have q1:(i:Int) < (l4.length:Int):=by omega
   have q0:(0:Int) ≤ (i:Int):=by omega
   have q3:((i:Int)).toNat = i:=Int.toNat_natCast i
   have hbX:Below wr.heap.size wr (wr.alloc (.cells #[.string x.f0,.string x.f1,.string x.f2] 108)):=(Below.refl _ wr).alloc (Nat.le_refl _) _
   have hb2:=HB.out.trans (hbX.mono HB.out.size)
   by_cases t0:x.f0 = na
   case neg =>
    have d0:(x.f0.toList == na.toList) = false:=beq_eq_false_iff_ne.2 (fun e=>t0 (nK.1 e))
    rw [decide_eq_false t0,Bool.false_and] at hx
    have fF:=zk.mk hx
    clear hx
    clear hm t0
    go_wp2
    go_roundw
    case rel=>exact ⟨i + 1,by first | rfl | (simp;done) | go_num,by omega,fF,⟨hb2⟩⟩
    case measure=>simp [intOf];omega
   have d0:(x.f0.toList == na.toList) = true:=beq_iff_eq.2 (nK.2 t0)
   by_cases t1:x.f1 = nb
   case neg =>
    have d1:(x.f1.toList == nb.toList) = false:=beq_eq_false_iff_ne.2 (fun e=>t1 (nK.1 e))
    rw [decide_eq_false t1,Bool.and_false] at hx
    have fF:=zk.mk hx
    clear hx t1
    clear hm t0
    go_wp2
    go_roundw
    case rel=>exact ⟨i + 1,by first | rfl | (simp;done) | go_num,by omega,fF,⟨hb2⟩⟩
    case measure=>simp [intOf];omega
   case pos =>
    have d1:(x.f1.toList == nb.toList) = true:=beq_iff_eq.2 (nK.2 t1)
    rw [decide_eq_true t0,decide_eq_true t1] at hx
    simp only [Bool.and_true] at hx
    rw [hx] at Ud
    have hR:=Ud.out
    subst hR
    clear hx Ud hm t0 t1
    go_wp2
    go_ret2
    exact ⟨rfl,hb2⟩
  ·obtain rfl:i = l4.length:=by omega
   have q1:decide ((l4.length:Int) < (l4.length:Int)) = false:=decide_eq_false (by omega)
   have hx:=HX.out
   rw [List.drop_eq_nil_of_le (Nat.le_refl _),List.find?_nil] at hx
   rw [hx] at Ud
   have hR:=Ud.out
   subst hR
   clear hx Ud
   go_wp2
   go_ret2
   exact ⟨rfl,HB.out⟩
end Go.Proofs.YtggifbbiiickmaaGreatDoor
namespace Go.Proofs.YtggifbbiiickmaaGreatDoor
open Go.RowKit Go.Proofs.zx.zJ Go.Proofs.zx.zu Go.Proofs.zx.zo Go.Proofs.YtggifbbiiickmaaGreatDoor.PX
set_option linter.unusedSimpArgs false
set_option linter.unusedVariables false
def WB (base g:Nat) (W:World) (Af:Option Addr) (cf:Nat) (l:List ql) (f s:Int) (yh zT:Bool) (vo vl:Value) (st:List qZ × List ByteArray):Prop :=
 W.heap[g]? = some (.cells #[.slice Af l.length cf,.int .i64 f,.int .i64 s,.bool yh,.bool zT,vo,vl] 90 (0,0)) ∧ Kd.R (Kd.bare qK) 53 W base (fun _=>True) vo st.1 ∧ Kd.R Kd.string 9 W base (fun _=>True) vl st.2
def UO (base g:Nat) (W:World) (Af:Option Addr) (cf:Nat) (l:List ql) (f s:Int) (yh zT:Bool) (st:List qZ × List ByteArray):Prop:=∃ vo vl,WB base g W Af cf l f s yh zT vo vl st
section
variable {base g:Nat} {W:World} {Af:Option Addr} {cf:Nat} {l:List ql} {f s:Int} {yh zT:Bool} {vo vl:Value} {st:List qZ × List ByteArray}
theorem WB.below {W':World} (h:WB base g W Af cf l f s yh zT vo vl st) (hb:Below W.heap.size W W'):WB base g W' Af cf l f s yh zT vo vl st:=⟨yY h.1 hb,Kd.jf h.2.1 hb,Kd.jf h.2.2 hb⟩
theorem zwF {α β:Type} {d:Kd α} {e:TypeId} {dx:Kd β} {ex:TypeId} {W W':World} {v vx:Value} {xs:List α} {ys:List β} (h:d.R e W base (fun _=>True) v xs) (hx:dx.R ex W base (fun _=>True) vx ys) (hg:W.grownBy W' vx.ownBlock) (hE:∀ q,q ∈ e :: d.E → q ≠ ex):d.R e W' base (fun _=>True) v xs:=by
 obtain ⟨inn,hown⟩:=Kd.gQ hx
 exact Kd.jC (Kd.r9 (Kd.jC (Kd.Zg h) (ok':=fun k=>some k ≠ vx.ownBlock) (fun k hk e=>by
  obtain ⟨_,_,_,p,hp,cs,hc⟩:=hk
  obtain ⟨cs',hc'⟩:=U0 hown k e.symm
  rw [hc] at hc'
  injection hc' with hc'
  injection hc' with _ hc'
  exact absurd hc' (hE p hp))) hg (fun k hk=>hk)) (ok':=fun _=>True) (fun _ _=>trivial)
theorem zcY (x:Int) (W:World) (b:Nat) (ok:Nat → Prop):(Kd.bare qK).M W b ok (nY x) [.int .i64 2,.int .i64 x,.int .i64 0,.int .i64 0,.string ⟨#[]⟩,.string ⟨#[]⟩,.slice none 0 0]:=PY _ _ (fun _=>False) (nY x) (Kd.kC _ _ _ _ _)
theorem zcW (x f s:Int) (n:ByteArray) (W:World) (b:Nat) (ok:Nat → Prop):(Kd.bare qK).M W b ok (zz2 x f s n) [.int .i64 0,.int .i64 x,.int .i64 f,.int .i64 s,.string n,.string ⟨#[]⟩,.slice none 0 0]:=PY _ _ (fun _=>False) (zz2 x f s n) (Kd.kC _ _ _ _ _)
theorem zwG {W1 W2:World} {Ao:Option Addr} {co:Nat} {out:List qZ} (h:WB base g W Af cf l f s yh zT vo vl st) (hW:Below W.heap.size W W1) (hg:W1.grownBy W2 vo.ownBlock) (ho:Kd.R (Kd.bare qK) 53 W2 base (fun _=>True) (.slice Ao out.length co) out) (hb:base ≤ W.heap.size) :
  UO base g (W2.setCell ⟨g,5,none⟩ (.slice Ao out.length co)) Af cf l f s yh zT (out,st.2) ∧ vL base g W (W2.setCell ⟨g,5,none⟩ (.slice Ao out.length co)) ∧ W2.cell? ⟨g,5,none⟩ = some vo ∧ W2.frozen? ⟨g,5,none⟩ = false ∧ W2.heap[g]? = some (.cells #[.slice Af l.length cf,.int .i64 f,.int .i64 s,.bool yh,.bool zT,vo,vl] 90 (0,0)):=by
 obtain ⟨h0,hO,hL⟩:=h.below hW
 have hb1:=Nat.le_trans hb hW.size
 have B2:=pQ h0 hg (Kd.mP hO h0 (by decide))
 obtain ⟨inn,hown⟩:=Kd.gQ hO
 have L2:=zwF hL hO hg (by decide)
 refine ⟨⟨_,vl,vY (cs':=#[.slice Af l.length cf,.int .i64 f,.int .i64 s,.bool yh,.bool zT,.slice Ao out.length co,vl]) B2 5 (.slice Ao out.length co) rfl,Kd.YF ho B2 (by decide) 5 _,Kd.YF L2 B2 (by decide) 5 _⟩,
  ((vL.below (B:=g) hW hb).trans (vL.grown (B:=g) hown hg hb1)).trans (vL.set B2 5 _),(zV B2 5).trans rfl,zy B2 5,B2⟩
theorem zK1 {W1 W2:World} {Ao:Option Addr} {co:Nat} {lost:List ByteArray} (h:WB base g W Af cf l f s yh zT vo vl st) (hW:Below W.heap.size W W1) (hg:W1.grownBy W2 vl.ownBlock) (ho:Kd.R Kd.string 9 W2 base (fun _=>True) (.slice Ao lost.length co) lost) (hb:base ≤ W.heap.size) :
  UO base g (W2.setCell ⟨g,6,none⟩ (.slice Ao lost.length co)) Af cf l f s yh zT (st.1,lost) ∧ vL base g W (W2.setCell ⟨g,6,none⟩ (.slice Ao lost.length co)) ∧ W2.cell? ⟨g,6,none⟩ = some vl ∧ W2.frozen? ⟨g,6,none⟩ = false ∧ W2.heap[g]? = some (.cells #[.slice Af l.length cf,.int .i64 f,.int .i64 s,.bool yh,.bool zT,vo,vl] 90 (0,0)):=by
 obtain ⟨h0,hO,hL⟩:=h.below hW
 have hb1:=Nat.le_trans hb hW.size
 have B2:=pQ h0 hg (Kd.mP hL h0 (by decide))
 obtain ⟨inn,hown⟩:=Kd.gQ hL
 have L2:=zwF hO hL hg (by decide)
 refine ⟨⟨vo,_,vY (cs':=#[.slice Af l.length cf,.int .i64 f,.int .i64 s,.bool yh,.bool zT,vo,.slice Ao lost.length co]) B2 6 (.slice Ao lost.length co) rfl,Kd.YF L2 B2 (by decide) 6 _,Kd.YF ho B2 (by decide) 6 _⟩,
  ((vL.below (B:=g) hW hb).trans (vL.grown (B:=g) hown hg hb1)).trans (vL.set B2 6 _),(zV B2 6).trans rfl,zy B2 6,B2⟩
end
def put.T5:Bool × List (List Nat × List Nat):=(true,[([],[]),([0],[0]),([1],[1]),([2],[2]),([],[]),([3,4],[3,4]),([5],[5]),([],[]),([7],[7]),([8],[8]),([9],[9]),([],[]),([11],[11]),([10,12],[10,12]),([13],[13]),([14],[14]),([],[]),([],[]),([17],[17]),([18],[18]),([19],[19]),([20],[20]),([6,15,16,21],[6,15,16,21]),([22],[22]),([23],[23]),([23],[23]),([24,22,0,1,2,3,4,5,6,7,8,9,10,11,12,13,14,15,16,17,18,19,20,21,22,23,24],[24]),([25,26,0,1,2,3,4,5,6,7,8,9,10,11,12,13,14,15,16,17,18,19,20,21,22,23,24,25,26],[25])])
def put.B5:List Nat:=[0,1,3,7,0,31,63,0,128,384,896,0,2048,8064,16256,32640,0,0,131072,393216,917504,1966080,4194303,8388607,16777215,16777215,33554431,134217727]
theorem put.zK2:q9 .any (opsOf Tryz.f46 5) = put.T5:=by kernel_rfl
theorem put.zex:xC put.T5.2 put.B5 = true:=by kernel_rfl
def put.T8:Bool × List (List Nat × List Nat):=(true,[([],[]),([0],[0]),([1],[1]),([2],[2]),([],[]),([3,4],[3,4]),([5],[5]),([],[]),([],[]),([8],[8]),([9],[9]),([10],[10]),([11],[11]),([6,7,12],[6,7,12]),([13],[13]),([14],[14]),([14],[14]),([15,13,0,1,2,3,4,5,6,7,8,9,10,11,12,13,14,15],[15]),([16,17,0,1,2,3,4,5,6,7,8,9,10,11,12,13,14,15,16,17],[16])])
def put.B8:List Nat:=[0,1,3,7,0,31,63,0,0,256,768,1792,3840,8191,16383,32767,32767,65535,262143]
theorem put.zgx:q9 .any (opsOf Tryz.f46 8) = put.T8:=by kernel_rfl
theorem put.zej:xC put.T8.2 put.B8 = true:=by kernel_rfl
def put.T9:Bool × List (List Nat × List Nat):=(true,[([],[]),([],[]),([1],[1]),([2],[2]),([3],[3]),([],[]),([],[]),([],[]),([7],[7]),([8],[8]),([9],[9]),([10],[10]),([],[]),([5,6,11,12],[5,6,11,12]),([13],[13]),([4,14],[4,14]),([0,0,1,2,3,4,5,6,7,8,9,10,11,12,13,14,15],[0]),([16,0,1,2,3,4,5,6,7,8,9,10,11,12,13,14,15],[16]),([17,15,15,0,1,2,3,4,5,6,7,8,9,10,11,12,13,14,15],[15,17])])
def put.B9:List Nat:=[0,0,2,6,14,0,0,0,128,384,896,1920,0,8160,16352,32766,65535,131071,262143]
theorem put.nC:q9 .any (opsOf Tryz.f46 9) = put.T9:=by kernel_rfl
theorem put.WC:xC put.T9.2 put.B9 = true:=by kernel_rfl
set_option maxRecDepth 100000 in
set_option maxHeartbeats 8000000 in
theorem zca (w0:World) (base g:Nat) (Af:Option Addr) (cf:Nat) (l:List ql) (f s:Int) (yh zT:Bool) (st:List qZ × List ByteArray) (n:ByteArray) (w:World) (hG:GW w0) (hC:Kd.C Zw w0 Af l.length l) (hl:l.length ≤ 1000000000) (hf0:0 ≤ f) (hf1:f < (l.length:Int)) (hv:∀ x ∈ l,q8 x = true) (hgb:g < base) (hb:base ≤ w.heap.size) (hg0:w0.heap.size ≤ g) (hw:Below w0.heap.size w0 w) (hlo:st.1.length ≤ 1000000) (hll:st.2.length ≤ 1000000) (vo vl:Value) (hS:WB base g w Af cf l f s yh zT vo vl st) (ha:wZ l f n < 0) :
  Calls Tryz.prog 46 #[.pointer (some ⟨g,0,none⟩),.string n] w fun e w'=>(∃ v,e = .returned v) ∧ UO base g w' Af cf l f s yh zT (st.1,st.2 ++ [n]) ∧ vL base g w w':=by
 have hhome:=zv8 w0 g Af cf l f s yh zT vo vl n w hG hC hl hf0 hf1 hv hw hS.1
 generalize wZ l f n = a at hhome ha
 have d0:decide (a < 0) = true:=decide_eq_true ha
 have HS:=zk.mk hS
 clear hS hv hC hG hw
 go_enter Tryz.func46,Tryz.ntmps46
 go_wp2_with (first | (go_at_call 105;refine hhome.mono ?_;rintro e w1 ⟨rfl,hb1⟩;have S1:=HS.out.below hb1;have k6:w1.cell? ⟨g,6,none⟩ = some vl:=(zV S1.1 6).trans rfl;have fG:=zk.mk S1;have HB1:=zk.mk hb1;clear S1 hb1) | ((with_reducible refine wJ (b:=.append) (xs:=#[.tmp 19,.tmp 21]) rfl ?_);at_builtin;refine Kd.gX Kd.string (w0:=w1) base rfl (.tmp 19) (.tmp 21) 27 9 (.string ⟨#[]⟩) 16 rfl Tryz.underlying27 zdM rfl (by decide) (by omega) vl st.2 n [.string n] (fun _=>True) (fun _=>False) rfl rfl ?aP (fun _ hk=>hk.elim) ?aF ?aO ?aB ?aS ?aL ?_;(case aP=>exact rfl);(case aF=>exact fun _ _=>trivial);(case aO=>exact fG.out.2.2);(case aB=>exact Below.refl _ _);(case aS=>exact Nat.le_trans hb HB1.out.size);(case aL=>omega);intro v1 w2 ho hbw hg hat;obtain ⟨Ao,co,rfl⟩:=Kd.xV ho;have hp:=zK1 fG.out (Below.refl _ _) hg ho (Nat.le_trans hb HB1.out.size);obtain ⟨p1,p2,k7,z7,B7⟩:=hp;have P1:=zk.mk p1;have P2:=zk.mk p2;clear p1 p2 B7 ho hbw hg hat k6;generalize hnn:(st.2 ++ [n]).length = nn at P1 P2 ⊢))
 refine bodyPost_ret (results_none rfl _ _ _) rfl ?_
 exact ⟨⟨_,rfl⟩,P1.out,(vL.below HB1.out hb).trans P2.out⟩
set_option maxRecDepth 100000 in
set_option maxHeartbeats 16000000 in
theorem zam (w0:World) (base g:Nat) (Af:Option Addr) (cf:Nat) (l:List ql) (f s:Int) (yh zT:Bool) (st:List qZ × List ByteArray) (n:ByteArray) (w:World) (hG:GW w0) (hC:Kd.C Zw w0 Af l.length l) (hl:l.length ≤ 1000000000) (hf0:0 ≤ f) (hf1:f < (l.length:Int)) (hv:∀ x ∈ l,q8 x = true) (hgb:g < base) (hb:base ≤ w.heap.size) (hg0:w0.heap.size ≤ g) (hw:Below w0.heap.size w0 w) (hlo:st.1.length ≤ 1000000) (hll:st.2.length ≤ 1000000) (vo vl:Value) (hS:WB base g w Af cf l f s yh zT vo vl st) (ha:0 ≤ wZ l f n) (hs0:1 ≤ s) (hs1:s ≤ 1000) :
  Calls Tryz.prog 46 #[.pointer (some ⟨g,0,none⟩),.string n] w fun e w'=>(∃ v,e = .returned v) ∧ UO base g w' Af cf l f s yh zT (st.1 ++ Ju l s zT st.1 (wZ l f n) n ++ [zz2 (XO (vw l (wZ l f n)) n s).1 (wZ l f n) s n],st.2) ∧ vL base g w w':=by
 have hhome:=zv8 w0 g Af cf l f s yh zT vo vl n w hG hC hl hf0 hf1 hv hw hS.1
 have hlt:=zKT n hf0 hf1
 generalize wZ l f n = a at hhome ha hlt ⊢
 have ha1:a < (l.length:Int):=by omega
 have d0:decide (a < 0) = false:=decide_eq_false (by omega)
 clear hlt
 have hx:=YB hv ha ha1
 have hz:=XJ hx
 obtain ⟨ad,A3,c3,A4,c4,A5,c5,e,x0,x1,x2,x3,x4,x5,g3,q3,g4,q4,g5,q5⟩:=PK hC a ha (by omega)
 subst e
 have e:uE l a = vw l a:=rfl
 rw [e] at x0 x1 x2 x3 x4 x5 g3 q3 g4 q4 g5 q5
 clear e
 have hnil:st.1 = [] → Ju l s zT st.1 a n = []:=fun h=>by unfold Ju;rw [h];rfl
 have hlast:∀ b,st.1.getLast? = some b → Ju l s zT st.1 a n = if zT && decide (b.f2 = a) then (if (Jt (vw l a) b.f4 n s).1 = 0 then [] else [nY (Jt (vw l a) b.f4 n s).1]) else []:=fun b h=>by unfold Ju;rw [h]
 generalize Ju l s zT st.1 a n = kb at hnil hlast ⊢
 generalize vw l a = x at x0 x1 x2 x3 x4 x5 g3 q3 g4 q4 g5 q5 hx hz hlast ⊢
 obtain ⟨Ao,co,evo⟩:=Kd.xV hS.2.1
 subst evo
 obtain ⟨cb,hcb⟩:∃ cb:Bool,cb = (match st.1.getLast? with | none=>false | some b=>zT && decide (b.f2 = a)):=⟨_,rfl⟩
 have zWJ:∀ (m:ByteArray) (W:World),Below w0.heap.size w0 W → Calls Tryz.prog 21 #[.agg #[.string x.f0,.bool x.f1,.int .i64 x.f2,.slice A3 x.f3.length c3,.slice A4 x.f4.length c4,.slice A5 x.f5.length c5],.string m,.string n,.int .i64 s] W fun e w'=>e = .returned (.tuple #[.int .i64 (Jt x m n s).1,.int .i64 (Jt x m n s).2]) ∧ Below W.heap.size W w':=fun m W h =>
  zkU x.f0 x.f1 x.f2 A3 c3 x.f3 A4 c4 x.f4 A5 c5 x.f5 m n s W (hG.under h) (Kd.za q3 h) g3 (Kd.za q4 h) g4 (Kd.za q5 h) g5 (by omega) (by omega) (by omega)
 have hwide:∀ (W:World),Below w0.heap.size w0 W → Calls Tryz.prog 22 #[.agg #[.string x.f0,.bool x.f1,.int .i64 x.f2,.slice A3 x.f3.length c3,.slice A4 x.f4.length c4,.slice A5 x.f5.length c5],.string n,.int .i64 s] W fun e w'=>e = .returned (.tuple #[.int .i64 (XO x n s).1,.int .i64 (XO x n s).2]) ∧ Below W.heap.size W w':=fun W h =>
  Y6.calls x.f0 x.f1 x.f2 A3 c3 x.f3 A4 c4 x.f4 A5 c5 x.f5 n s _ _ W (Kd.za q3 h) g3 (Kd.za q4 h) g4 (Kd.za q5 h) g5 (hG.under h) (zVQ x.f0 x.f1 x.f2 x.f3 x.f4 x.f5 n s (by omega) (by omega) (by omega))
 have zWV:∀ (W:World),Below w0.heap.size w0 W → W.cell? (ad.add (a.toNat * 6)) = some (.string x.f0) ∧ W.cell? ⟨(ad.add (a.toNat * 6)).block,(ad.add (a.toNat * 6)).off + 1,none⟩ = some (.bool x.f1) ∧ W.cell? ⟨(ad.add (a.toNat * 6)).block,(ad.add (a.toNat * 6)).off + 2,none⟩ = some (.int .i64 x.f2) ∧ W.cell? ⟨(ad.add (a.toNat * 6)).block,(ad.add (a.toNat * 6)).off + 3,none⟩ = some (.slice A3 x.f3.length c3) ∧ W.cell? ⟨(ad.add (a.toNat * 6)).block,(ad.add (a.toNat * 6)).off + 4,none⟩ = some (.slice A4 x.f4.length c4) ∧ W.cell? ⟨(ad.add (a.toNat * 6)).block,(ad.add (a.toNat * 6)).off + 5,none⟩ = some (.slice A5 x.f5.length c5):=fun W h=>⟨(h.cell (World.block_lt_of_cell? w0 _ x0)).trans x0,(h.cell (World.block_lt_of_cell? w0 _ x1)).trans x1,(h.cell (World.block_lt_of_cell? w0 _ x2)).trans x2,(h.cell (World.block_lt_of_cell? w0 _ x3)).trans x3,(h.cell (World.block_lt_of_cell? w0 _ x4)).trans x4,(h.cell (World.block_lt_of_cell? w0 _ x5)).trans x5⟩
 have HKN:=zk.mk zWJ
 have HWD:=zk.mk hwide
 have HFT:=zk.mk zWV
 have HNL:=zk.mk hnil
 have HLS:=zk.mk hlast
 have HS:=zk.mk hS
 have HW:=zk.mk hw
 have HHO:=zk.mk hhome
 have HCB:=zk.mk hcb
 clear hcb zWJ hwide zWV hnil hlast hS hw x0 x1 x2 x3 x4 x5 q3 q4 q5 g3 g4 g5 hx hz hv hC hG hhome
 go_enter Tryz.func46,Tryz.ntmps46
 go_upto_region 4 with (go_at_call 105;refine HHO.out.mono ?_;rintro e w1 ⟨rfl,hb1⟩;have S1:=HS.out.below hb1;have k5:w1.cell? ⟨g,5,none⟩ = some (.slice Ao st.1.length co):=(zV S1.1 5).trans rfl;have k4:w1.cell? ⟨g,4,none⟩ = some (.bool zT):=(zV S1.1 4).trans rfl;have fG:=zk.mk S1;have HB1:=zk.mk hb1;clear hb1 S1)
 have HW1:=zk.mk (HW.out.trans (HB1.out.mono HW.out.size))
 have hb1:base ≤ w1.heap.size:=Nat.le_trans hb HB1.out.size
 go_cut [51] (fun s51 wx=>s51 = .bool cb ∧ w1 = wx)
 case first =>
  cases wU:st.1.getLast? with
  | none =>
   have hn0:st.1 = []:=List.getLast?_eq_none_iff.1 wU
   have hz0:st.1.length = 0:=by rw [hn0];rfl
   have hcb:=HCB.out
   rw [wU] at hcb
   subst hcb
   have i0:decide (0 < (st.1.length:Int)) = false:=decide_eq_false (by omega)
   have i00:decide (0 < st.1.length) = false:=decide_eq_false (by omega)
   clear hz0 hn0 wU
   go_wp2_with fail
   go_meet
   exact ⟨rfl,rfl⟩
  | some b =>
   have hpos:0 < st.1.length:=by
    rcases Nat.eq_zero_or_pos st.1.length with h | h
    ·rw [List.eq_nil_of_length_eq_zero h] at wU;cases wU
    ·exact h
   have hget:st.1[st.1.length - 1]? = some b:=by rw [← List.getLast?_eq_getElem?];exact wU
   obtain ⟨_,gO,CO⟩:=Kd.uo fG.out.2.1
   obtain ⟨bd,A6,c6,e,y0,y1,y2,y3,y4,y5,y6,_,_⟩:=yR (show Kd.C qK _ _ _ _ from CO) ((st.1.length:Int) - 1) (by omega) (by omega)
   subst e
   have e1:((st.1.length:Int) - 1).toNat = st.1.length - 1:=by omega
   have e2:zw st.1 ((st.1.length:Int) - 1) = b:=by unfold zw;rw [e1,List.getD_eq_getElem?_getD,hget];rfl
   rw [e2] at y2
   rw [e1] at y2
   have hcb:=HCB.out
   rw [wU] at hcb
   dsimp only at hcb
   clear y0 y1 y3 y4 y5 y6 e2 CO gO hget wU e1
   have i0:decide (0 < (st.1.length:Int)) = true:=decide_eq_true (by omega)
   have i1:(0:Int) ≤ (st.1.length:Int) - 1:=by omega
   have i11:(1:Int) ≤ (st.1.length:Int):=by omega
   have i2:(st.1.length:Int) - 1 < (st.1.length:Int):=by omega
   have i3:wrap64 ((st.1.length:Int) - 1) = (st.1.length:Int) - 1:=pI (by omega) (by omega)
   have zK3:=zk.mk hcb
   clear hcb
   cases zT with
   | false =>
    clear y2
    go_wp2_with fail
    go_meet
    exact ⟨by rw [zK3.out];rfl,rfl⟩
   | true =>
    by_cases hba:b.f2 = a
    case neg =>
     have i4:(b.f2 == a) = false:=beq_eq_false_iff_ne.2 hba
     have i5:decide (b.f2 = a) = false:=decide_eq_false hba
     have ng:=zk.mk (show cb = false by rw [zK3.out,i5];rfl)
     clear hba
     go_wp2_with fail
     go_meet
     exact ⟨by rw [ng.out],rfl⟩
    case pos =>
     have i4:(b.f2 == a) = true:=beq_iff_eq.2 hba
     have i5:decide (b.f2 = a) = true:=decide_eq_true hba
     have ng:=zk.mk (show cb = true by rw [zK3.out,i5];rfl)
     clear hba
     go_wp2_with fail
     go_meet
     exact ⟨by rw [ng.out],rfl⟩
 case rest =>
 obtain ⟨rfl,rfl⟩:=hcut
 clear k5 k4
 go_upto_if 51 with (fail)
 go_cut [5] (fun _ wx=>zk (UO base g wx (some ad) cf l f s yh zT (st.1 ++ kb,st.2)) ∧ zk (vL base g w wx))
 case first =>
  cases cb with
  | false =>
   have hkb:kb = []:=by
    have hcb:=HCB.out
    cases wU:st.1.getLast? with
    | none=>exact HNL.out (List.getLast?_eq_none_iff.1 wU)
    | some b =>
     rw [wU] at hcb
     dsimp only at hcb
     rw [HLS.out b wU,← hcb];rfl
   subst hkb
   go_wp2_with fail
   go_meet
   exact ⟨⟨_,vl,by rw [List.append_nil];exact fG.out⟩,⟨vL.below HB1.out hb⟩⟩
  | true =>
   obtain ⟨b,wU⟩:∃ b,st.1.getLast? = some b:=by
    have hcb:=HCB.out
    cases wU:st.1.getLast? with
    | none=>rw [wU] at hcb;cases hcb
    | some b=>exact ⟨b,rfl⟩
   have hcb:=HCB.out
   rw [wU] at hcb
   dsimp only at hcb
   have hkb:kb = if (Jt x b.f4 n s).1 = 0 then [] else [nY (Jt x b.f4 n s).1]:=by rw [HLS.out b wU,← hcb];rfl
   have hpos:0 < st.1.length:=by
    rcases Nat.eq_zero_or_pos st.1.length with h | h
    ·rw [List.eq_nil_of_length_eq_zero h] at wU;cases wU
    ·exact h
   have hget:st.1[st.1.length - 1]? = some b:=by rw [← List.getLast?_eq_getElem?];exact wU
   obtain ⟨_,gO,CO⟩:=Kd.uo fG.out.2.1
   obtain ⟨bd,A6,c6,e,y0,y1,y2,y3,y4,y5,y6,_,_⟩:=yR (show Kd.C qK _ _ _ _ from CO) ((st.1.length:Int) - 1) (by omega) (by omega)
   subst e
   have e1:((st.1.length:Int) - 1).toNat = st.1.length - 1:=by omega
   have e2:zw st.1 ((st.1.length:Int) - 1) = b:=by unfold zw;rw [e1,List.getD_eq_getElem?_getD,hget];rfl
   rw [e2] at y4
   rw [e1] at y4
   have i1:(0:Int) ≤ (st.1.length:Int) - 1:=by omega
   have i11:(1:Int) ≤ (st.1.length:Int):=by omega
   have i2:(st.1.length:Int) - 1 < (st.1.length:Int):=by omega
   have i3:wrap64 ((st.1.length:Int) - 1) = (st.1.length:Int) - 1:=pI (by omega) (by omega)
   have zcb:=zk.mk (HKN.out b.f4)
   generalize Jt x b.f4 n s = kp at hkb zcb
   obtain ⟨fA,er⟩:=kp
   have HKB:=zk.mk hkb
   have HY4:=zk.mk y4
   clear hkb y0 y1 y2 y3 y4 y5 y6 e2 CO gO hget wU e1 hcb
   go_wp2_with fail
   have ks0:w1.cell? ⟨g,0,none⟩ = some (.slice (some ad) l.length cf):=(zV fG.out.1 0).trans rfl
   have nD:w1.cell? ⟨g,2,none⟩ = some (.int .i64 s):=(zV fG.out.1 2).trans rfl
   have ks5:w1.cell? ⟨g,5,none⟩ = some (.slice (some bd) st.1.length co):=(zV fG.out.1 5).trans rfl
   have kb4:=HY4.out
   have Jo:=zk.mk (fun (W:World) (h:Below w1.heap.size w1 W)=>(show W.cell? ⟨g,0,none⟩ = some (.slice (some ad) l.length cf) ∧ W.cell? ⟨g,2,none⟩ = some (.int .i64 s) ∧ W.cell? ⟨g,5,none⟩ = some (.slice (some bd) st.1.length co) ∧ W.cell? ⟨(bd.add ((st.1.length - 1) * 7)).block,(bd.add ((st.1.length - 1) * 7)).off + 4,none⟩ = some (.string b.f4) ∧ (W.cell? (ad.add (a.toNat * 6)) = some (.string x.f0) ∧ W.cell? ⟨(ad.add (a.toNat * 6)).block,(ad.add (a.toNat * 6)).off + 1,none⟩ = some (.bool x.f1) ∧ W.cell? ⟨(ad.add (a.toNat * 6)).block,(ad.add (a.toNat * 6)).off + 2,none⟩ = some (.int .i64 x.f2) ∧ W.cell? ⟨(ad.add (a.toNat * 6)).block,(ad.add (a.toNat * 6)).off + 3,none⟩ = some (.slice A3 x.f3.length c3) ∧ W.cell? ⟨(ad.add (a.toNat * 6)).block,(ad.add (a.toNat * 6)).off + 4,none⟩ = some (.slice A4 x.f4.length c4) ∧ W.cell? ⟨(ad.add (a.toNat * 6)).block,(ad.add (a.toNat * 6)).off + 5,none⟩ = some (.slice A5 x.f5.length c5)) from
    ⟨(h.cell (World.block_lt_of_cell? w1 _ ks0)).trans ks0,(h.cell (World.block_lt_of_cell? w1 _ nD)).trans nD,(h.cell (World.block_lt_of_cell? w1 _ ks5)).trans ks5,(h.cell (World.block_lt_of_cell? w1 _ kb4)).trans kb4,HFT.out W (HW1.out.trans (h.mono HW1.out.size))⟩))
   clear ks0 nD ks5 kb4
   refine RW.rS (n:=28) Jo put.zK2 put.zex (by kernel_rfl) rfl rfl (fun w3 H0 T U h=>?_)
   refine RW.rP 0 (some 53) T ?_
   refine RW.rP 1 (some 54) T ?_
   refine RW.rP 2 (some 55) T ?_
   refine RW.rT 3 (some 56) T U h ?_
   refine RW.rP 4 (some 57) T ?_
   refine RW.rP 5 (some 58) T ?_
   refine RW.rT 6 (some 59) T U h ?_
   refine RW.rP 7 (some 60) T ?_
   refine RW.rP 8 (some 61) T ?_
   refine RW.rP 9 (some 62) T ?_
   refine RW.rT 10 (some 63) T U h ?_
   refine RW.rP 11 (some 64) T ?_
   refine RW.rP 12 (some 65) T ?_
   refine RW.rP 13 (some 66) T ?_
   refine RW.rP 14 (some 67) T ?_
   refine RW.rT 15 (some 68) T U h ?_
   refine RW.rP 16 (some 69) T ?_
   refine RW.rP 17 (some 70) T ?_
   refine RW.rP 18 (some 71) T ?_
   refine RW.rP 19 (some 72) T ?_
   refine RW.rP 20 (some 73) T ?_
   refine RW.rT 21 (some 74) T U h ?_
   clear h
   refine RW.rC 22 (some 75) T Jo H0 Tryz.func21 (zcb.out _ (HW1.out.trans (H0.out.mono HW1.out.size))) (fun w4 H4 h=>?_) (by kernel_rfl)
   refine RW.rP 23 (some 52) T ?_
   refine RW.rP 24 (some 76) T ?_
   refine RW.rP 25 (some 77) T ?_
   refine RW.rP 26 (some 6) T ?_
   refine RW.rP 27 (some 7) T ?_
   refine um (xK T.out (by kernel_rfl)) ?_
   clear h
   have S4:=fG.out.below H4.out
   have hb4:=Nat.le_trans hb1 H4.out.size
   have LK4:=zk.mk ((vL.below (B:=g) HB1.out hb).trans (vL.below (B:=g) H4.out hb1))
   have o7:=zk.mk S4
   have k5:w4.cell? ⟨g,5,none⟩ = some (.slice (some bd) st.1.length co):=(zV S4.1 5).trans rfl
   clear S4
   by_cases h0:fA = 0
   ·subst h0
    have hkb:kb = []:=by rw [HKB.out];rfl
    subst hkb
    go_wp2_with fail
    go_meet
    exact ⟨⟨_,vl,by rw [List.append_nil];exact o7.out⟩,LK4⟩
   ·have hkb:kb = [nY fA]:=by rw [HKB.out];exact if_neg h0
    subst hkb
    have j0:(fA != 0) = true:=by simpa using h0
    have j1:(!(fA == 0)) = true:=by simpa using h0
    have j2:(fA == 0) = false:=by simpa using h0
    clear h0
    go_wp2_with ((with_reducible refine wJ (b:=.append) (xs:=#[.tmp 84,.tmp 87]) rfl ?_);at_builtin;refine Kd.gX (Kd.bare qK) (w0:=w4) base rfl (.tmp 84) (.tmp 87) 34 53 (.agg #[.int .i64 0,.int .i64 0,.int .i64 0,.int .i64 0,.string ⟨#[]⟩,.string ⟨#[]⟩,.slice none 0 0]) 88 rfl Tryz.underlying34 ny rfl (by decide) (by omega) (.slice (some bd) st.1.length co) st.1 (nY fA) [.int .i64 2,.int .i64 fA,.int .i64 0,.int .i64 0,.string ⟨#[]⟩,.string ⟨#[]⟩,.slice none 0 0] (fun _=>True) (fun _=>False) rfl rfl ?aP (fun _ hk=>hk.elim) ?aF ?aO ?aB ?aS ?aL ?_;(case aP=>exact zcY _ _ _ _);(case aF=>exact fun _ _=>trivial);(case aO=>exact o7.out.2.1);(case aB=>exact Below.refl _ _);(case aS=>exact hb4);(case aL=>omega);intro v1 w5 ho hbw hg hat;obtain ⟨Ao,co,rfl⟩:=Kd.xV ho;have hp:=zwG o7.out (Below.refl _ _) hg ho hb4;obtain ⟨p1,p2,k7,z7,B7⟩:=hp;have P1:=zk.mk p1;have P2:=zk.mk p2;clear p1 p2 B7 ho hbw hg hat k5;generalize hnn:(st.1 ++ [nY fA]).length = nn at P1 P2 ⊢)
    go_meet
    exact ⟨P1,⟨LK4.out.trans P2.out⟩⟩
 case rest =>
  obtain ⟨HS2,HL2⟩:=hcut
  obtain ⟨vo2,vl2,S2⟩:=HS2.out
  have hkl:kb.length ≤ 1:=by
   cases wU:st.1.getLast? with
   | none=>rw [HNL.out (List.getLast?_eq_none_iff.1 wU)];exact Nat.zero_le _
   | some b =>
    rw [HLS.out b wU]
    repeat' split
    all_goals first | exact Nat.zero_le _ | exact Nat.le_refl _
  have hw2:Below w0.heap.size w0 wc:=HW.out.trans (fE HL2.out hg0 (by omega))
  have hb2:base ≤ wc.heap.size:=Nat.le_trans hb HL2.out.1.size
  have ks0:wc.cell? ⟨g,0,none⟩ = some (.slice (some ad) l.length cf):=(zV S2.1 0).trans rfl
  have nD:wc.cell? ⟨g,2,none⟩ = some (.int .i64 s):=(zV S2.1 2).trans rfl
  have Jo:=zk.mk (fun (W:World) (h:Below wc.heap.size wc W)=>(show W.cell? ⟨g,0,none⟩ = some (.slice (some ad) l.length cf) ∧ W.cell? ⟨g,2,none⟩ = some (.int .i64 s) ∧ (W.cell? (ad.add (a.toNat * 6)) = some (.string x.f0) ∧ W.cell? ⟨(ad.add (a.toNat * 6)).block,(ad.add (a.toNat * 6)).off + 1,none⟩ = some (.bool x.f1) ∧ W.cell? ⟨(ad.add (a.toNat * 6)).block,(ad.add (a.toNat * 6)).off + 2,none⟩ = some (.int .i64 x.f2) ∧ W.cell? ⟨(ad.add (a.toNat * 6)).block,(ad.add (a.toNat * 6)).off + 3,none⟩ = some (.slice A3 x.f3.length c3) ∧ W.cell? ⟨(ad.add (a.toNat * 6)).block,(ad.add (a.toNat * 6)).off + 4,none⟩ = some (.slice A4 x.f4.length c4) ∧ W.cell? ⟨(ad.add (a.toNat * 6)).block,(ad.add (a.toNat * 6)).off + 5,none⟩ = some (.slice A5 x.f5.length c5)) from
   ⟨(h.cell (World.block_lt_of_cell? wc _ ks0)).trans ks0,(h.cell (World.block_lt_of_cell? wc _ nD)).trans nD,HFT.out W (hw2.trans (h.mono hw2.size))⟩))
  have HW2:=zk.mk hw2
  have HT2:=zk.mk S2
  clear hw2 S2 ks0 nD HS2
  obtain ⟨wd,hwd⟩:∃ wd,XO x n s = wd:=⟨_,rfl⟩
  rw [hwd] at HWD
  have HWE:=zk.mk hwd
  clear hwd
  obtain ⟨wv,we⟩:=wd
  go_wp2_with fail
  refine RW.rS (n:=19) Jo put.zgx put.zej (by kernel_rfl) rfl rfl (fun w3 H0 T U h=>?_)
  refine RW.rP 0 (some 92) T ?_
  refine RW.rP 1 (some 93) T ?_
  refine RW.rP 2 (some 94) T ?_
  refine RW.rT 3 (some 95) T U h ?_
  refine RW.rP 4 (some 96) T ?_
  refine RW.rP 5 (some 97) T ?_
  refine RW.rT 6 (some 98) T U h ?_
  refine RW.rP 7 (some 99) T ?_
  refine RW.rP 8 (some 100) T ?_
  refine RW.rP 9 (some 101) T ?_
  refine RW.rP 10 (some 102) T ?_
  refine RW.rP 11 (some 103) T ?_
  refine RW.rT 12 (some 104) T U h ?_
  clear h
  refine RW.rC 13 (some 105) T Jo H0 Tryz.func22 (HWD.out _ (HW2.out.trans (H0.out.mono HW2.out.size))) (fun w4 H4 h=>?_) (by kernel_rfl)
  refine RW.rP 14 (some 91) T ?_
  refine RW.rP 15 (some 106) T ?_
  refine RW.rP 16 (some 107) T ?_
  refine RW.rP 17 (some 8) T ?_
  refine RW.rP 18 (some 9) T ?_
  refine um (xK T.out (by kernel_rfl)) ?_
  clear h
  have S4:=HT2.out.below H4.out
  have hb4:=Nat.le_trans hb2 H4.out.size
  have LK4:=zk.mk (HL2.out.trans (vL.below (B:=g) H4.out hb2))
  have ks5:w4.cell? ⟨g,5,none⟩ = some vo2:=(zV S4.1 5).trans rfl
  have nD:w4.cell? ⟨g,2,none⟩ = some (.int .i64 s):=(zV S4.1 2).trans rfl
  have KF:=zk.mk (fun (W:World) (h:Below w4.heap.size w4 W)=>(show W.cell? ⟨g,5,none⟩ = some vo2 ∧ W.cell? ⟨g,2,none⟩ = some (.int .i64 s) from ⟨(h.cell (World.block_lt_of_cell? w4 _ ks5)).trans ks5,(h.cell (World.block_lt_of_cell? w4 _ nD)).trans nD⟩))
  have o7:=zk.mk S4
  clear S4 ks5 nD T U
  go_wp2_with fail
  refine RW.rSD (n:=19) [18] KF put.nC put.WC (by kernel_rfl) rfl rfl (fun w5 H5 T U h=>?_)
  refine RW.rP 0 (some 108) T ?_
  refine RW.rP 1 (some 109) T ?_
  refine RW.rP 2 (some 110) T ?_
  refine RW.rP 3 (some 111) T ?_
  refine RW.rT 4 (some 112) T U h ?_
  refine RW.rP 5 (some 113) T ?_
  refine RW.rP 6 (some 114) T ?_
  refine RW.rP 7 (some 115) T ?_
  refine RW.rP 8 (some 116) T ?_
  refine RW.rP 9 (some 117) T ?_
  refine RW.rP 10 (some 118) T ?_
  refine RW.rT 11 (some 119) T U h ?_
  refine RW.rP 12 (some 120) T ?_
  refine RW.rP 13 (some 121) T ?_
  have S5:=o7.out.below H5.out
  have hb5:=Nat.le_trans hb4 H5.out.size
  clear h
  refine Yr (i:=14) (N:=some 122) #[true,true,true,true,true,true,true,true,true,true,true,true,true,true,true,false,false,false,false] rfl rfl (jY T.out (by kernel_rfl)) (by decide) (fun K hK=>?_)
  refine lN (w1:=?_) (v:=?_) (by rfl) rfl ?_ ?_
  rotate_left 2
  ·have h:=KF.out _ H5.out
   go_simp
   constructor
   ·rfl
   ·rfl
  refine hK.out _ _ (KF.out _ (H5.out.alloc H5.out.size _)) (fun h=>?_)
  clear hK K h
  refine YI (a':=?_) ?_ ?_
  rotate_left
  ·show Act.put _ (some 122) _ = _
   simp only [Act.put,List.setIfInBounds_toArray,List.set_cons_zero,List.set_cons_succ]
   rfl
  refine Yr (i:=15) (N:=some 123) #[true,true,true,true,true,true,true,true,true,true,true,true,true,true,true,true,false,false,false] rfl rfl (jY T.out (by kernel_rfl)) (by decide) (fun K hK=>?_)
  refine Kd.XM (Kd.bare qK) (w0:=w5) base (by rfl) (.tmp 112) (.tmp 122) 34 53 (.agg #[.int .i64 0,.int .i64 0,.int .i64 0,.int .i64 0,.string ⟨#[]⟩,.string ⟨#[]⟩,.slice none 0 0]) 88 rfl Tryz.underlying34 ny rfl (by decide) (by omega) vo2 (st.1 ++ kb) (zz2 wv a s n) [.int .i64 0,.int .i64 wv,.int .i64 a,.int .i64 s,.string n,.string ⟨#[]⟩,.slice none 0 0] (fun _=>True) (fun _=>False) rfl rfl ?aP (fun _ hk=>hk.elim) ?aF ?aO ?aB ?aS ?aL ?_
  (case aP=>exact zcW _ _ _ _ _ _ _)
  (case aF=>exact fun _ _=>trivial)
  (case aO=>exact S5.2.1)
  (case aB=>exact Below.refl base w5)
  (case aS=>exact hb5)
  (case aL=>rw [List.length_append];omega)
  intro v1 w6 ho hbw hg hat
  obtain ⟨Ao,co,eo⟩:=Kd.xV ho
  subst eo
  obtain ⟨p1,p2,k6,z6,B6⟩:=zwG S5 (Below.refl _ _) hg ho hb5
  have S6:w6.cell? ⟨g,5,none⟩ = some vo2 ∧ w6.cell? ⟨g,2,none⟩ = some (.int .i64 s):=⟨k6,(zV B6 2).trans rfl⟩
  have P1:=zk.mk p1
  have P2:=zk.mk ((LK4.out.trans (vL.below (B:=g) H5.out hb4)).trans p2)
  refine hK.out _ _ S6 (fun h=>?_)
  clear hK K h p1 p2 ho hbw hg hat B6 S5 S6
  generalize hnn:(st.1 ++ kb ++ [zz2 wv a s n]).length = nn at P1 P2 ⊢
  refine YI (a':=?_) ?_ ?_
  rotate_left
  ·show Act.put _ (some 123) _ = _
   simp only [Act.put,List.setIfInBounds_toArray,List.set_cons_zero,List.set_cons_succ]
   rfl
  refine RW.rP 16 (some 124) T ?_
  refine RW.rP 17 (some 125) T ?_
  refine sj (i:=18) (N:=none) #[true,true,true,true,true,true,true,true,true,true,true,true,true,true,true,true,true,true,true] rfl rfl (jY T.out (by kernel_rfl)) (by decide) (fun K hK=>?_)
  refine WJ (w1:=?_) (by rfl) rfl ?_ ?_
  rotate_left
  ·go_simp
   rfl
  refine hK.out _ _ ?_
  clear hK K
  refine um (xK T.out (by kernel_rfl)) ?_
  clear k6 z6
  generalize w6.setCell ⟨g,5,none⟩ (.slice Ao nn co) = w7 at P1 P2 ⊢
  go_wp2_with fail
  go_end0
  refine ⟨⟨_,rfl⟩,?_,P2.out⟩
  rw [← List.append_assoc,HWE.out]
  exact P1.out
end Go.Proofs.YtggifbbiiickmaaGreatDoor
namespace Go.Proofs.YtggifbbiiickmaaGreatDoor
open Go.RowKit
def ZV {β:Type} (Bs:Nat) (J:β → World → Prop):Prop:=∀ s W u,J s W → J s (W.setCell ⟨Bs,0,none⟩ u)
theorem ZV.and {β:Type} {Bs:Nat} {I I':β → World → Prop} (h:ZV Bs I) (h':ZV Bs I'):ZV Bs (fun s W=>I s W ∧ I' s W):=fun s W u hs=>⟨h s W u hs.1,h' s W u hs.2⟩
theorem XT {W:World} {Bs k:Nat} {o:Obj} (u:Value) (h:W.heap[k]? = some o) (hne:k ≠ Bs):(W.setCell ⟨Bs,0,none⟩ u).heap[k]? = some o:=(Below.heap_setCell W ⟨Bs,0,none⟩ u k hne).trans h
def zVb {α:Type} (F:Fence) (n:Nat) (P:Program) (g:Nat) (lb:Array Value) (encs:α → Array Value) (Bs:Nat) (Kp:World → World → Prop) (S Sp:List α → Prop) (N:Nat) (w:World):Prop :=
 ∀ (l:Nat) (J Jx:List α → World → Prop) (W:World),Below w.heap.size w W → AbidesFrom W.heap.size J → AbidesFrom W.heap.size Jx → ZV Bs J → ZV Bs Jx →
  (∀ pre x W1,J pre W1 → pre.length < N → YieldAt F (n - 1) P l (encs x) W1 fun e W' =>
   (e = .returned (.bool true) ∧ J (pre ++ [x]) W' ∧ Kp W1 W') ∨ (e = .returned (.bool false) ∧ Jx (pre ++ [x]) W')) →
  J [] W →
  CallsIn F n P g (#[.func (.yield l) #[] #[]] ++ lb) W fun e W'=>(∃ v,e = .returned v) ∧ ((∃ xs,S xs ∧ J xs W') ∨ (∃ pre,Sp pre ∧ Jx pre W'))
def zan {α:Type} (B:Nat) (Kp:World → World → Prop) (I Ix:List α → World → Prop) (xs:List α) (W:World):Exit → Act → World → Prop
 | .normal,_,W'=>KeepsFrom B W W' ∧ Kp W W' ∧ I xs W'
 | .ret,_,W'=>KeepsFrom B W W' ∧ Ix xs W'
 | _,_,_=>False
variable {F:Fence} {n:Nat} {P:Program}
theorem zvy {α:Type} {g:Operand} {ps:Array Tmp} {assign body:Code} {Q:Exit → Act → World → Prop} {a:Act} {w:World}
  (hro:F.round = none) (h1:1 ≤ n) {gf:Nat} {lb:Array Value} (hg:a.eval g = .func (.func gf) #[] lb) (hFg:F.fn gf) (eg:∀ args w,(callFunc gf args).run P w = .ok (.enter gf args) w)
  {encs:α → Array Value} {Bs:Nat} {Kp:World → World → Prop} {S Sp:List α → Prop} {N:Nat} (hseq:zVb F (n - 1) P gf lb encs Bs Kp S Sp N w) (hBs:Bs < w.heap.size)
  (hKt:∀ {A B C:World},Kp A B → Kp B C → Kp A C) (hKb:∀ (W:World) (l:Nat) (o o':Obj),w.heap.size ≤ l → W.heap[l]? = some o → o.isCells = false → o.isWalk = false → Kp W (W.putObj l o')) (hps:∀ x,(encs x).size = ps.size)
  (I Ix:List α → World → Prop) (hI:OwnFrom w.heap.size I) (hIx:OwnFrom w.heap.size Ix) (hIb:ZV Bs I) (zgj:ZV Bs Ix) (h0:I [] w)
  (Ax:α → Act → World → Prop) (hAx:∀ x a',OwnFrom w.heap.size (fun (_:Unit) W=>Ax x a' W))
  (hassign:∀ (l:Nat) (pre:List α) (x:α) (W:World) (K:Act → World → Prop),I pre W → (∀ a' W',KeepsFrom w.heap.size W W' → Kp W W' → I pre W' → Ax x a' W' → K a' W') →
   assign.wpIn (F.inRound l) (n - 1 - 1) P (Exit.then K (fun _ _ _=>False)) { tmps:=(ps.zip (encs x)).foldl (fun t (p,v)=>t.setIfInBounds p v) a.tmps,defers:=[] } W)
  (hbody:∀ (l:Nat) (pre:List α) (x:α) (a':Act) (W:World),w.heap.size ≤ l → (∃ r,W.heap[l]? = some (.loop r)) → I pre W → Ax x a' W → pre.length < N → body.wpIn (F.inRound l) (n - 1 - 1) P (zan w.heap.size Kp I Ix (pre ++ [x]) W) a' W)
  (hdone:∀ (D:Nat) (xs:List α) (W:World),w.heap.size ≤ D → S xs → I xs W → W.heap[D]? = some (.deferred (some [])) → Q .normal { a with defers:={ target:=.collected D,args:=#[] } :: a.defers } W)
  (hstop:∀ (D:Nat) (pre:List α) (W:World),w.heap.size ≤ D → Sp pre → Ix pre W → W.heap[D]? = some (.deferred (some [])) → Code.ret.wpIn F n P Q { a with defers:={ target:=.collected D,args:=#[] } :: a.defers } W) :
  (Code.rangeFunc g ps assign body).wpIn F n P Q a w:=by
 refine wpIn_rangeFunc ?_
 intro fn hfn
 rw [hro]
 obtain ⟨rec,hrec⟩:∃ rec:LoopState → Option Code → Loop,rec = fun st pe=>{ state:=st,pending:=pe,fn,tmps:=a.tmps,params:=ps,assign,body,defers:=w.heap.size }:=⟨_,rfl⟩
 obtain ⟨W1,hW1⟩:∃ W1,(w.alloc (.deferred (some []))).alloc (.loop (rec .ready none)) = W1:=⟨_,rfl⟩
 have hL1:W1.heap[w.heap.size + 1]? = some (.loop (rec .ready none)):=by
  rw [← hW1];have:=World.alloc_heap_new (w.alloc (.deferred (some []))) (.loop (rec .ready none));rwa [World.size_alloc] at this
 have hK1:W1.heap[w.heap.size]? = some (.deferred (some [])):=by
  rw [← hW1];exact (Below.heap_alloc _ _ _ (by simp)).trans (World.alloc_heap_new w _)
 have hI1:I [] W1:=by rw [← hW1];exact hI.alloc _ (hI.alloc _ h0)
 have hb1:Below w.heap.size w W1:=by
  rw [← hW1];exact ((Below.refl _ w).alloc (Nat.le_refl _) _).alloc (by simp) _
 have hz1:W1.heap.size = w.heap.size + 2:=by rw [← hW1];simp
 refine ⟨w.heap.size + 1,[{ target:=.collected w.heap.size,args:=#[] }],W1,{ target:=.fn (.func gf) lb,args:=#[.func (.yield (w.heap.size + 1)) #[] #[]] },W1,gf,
  #[.func (.yield (w.heap.size + 1)) #[] #[]] ++ lb,W1,?_,?_,?_,?_,fun _=>h1,?_⟩
 ·rw [← hW1,hrec];exact run_enterLoop_outer _ _ _ _ _
 ·simp only [resolve,hg]
  simp [go_sem]
 ·intro f' hf';simp [Target.leads] at hf';subst hf';exact hFg
 ·simp [invoke,go_sem,eg]
 ·have hnw:∀ {A B:World} {row:Option Nat},(∀ r,row = some r → W1.heap.size ≤ r ∧ ∃ o:Obj,A.heap[r]? = some o ∧ o.isWalk = true) → (∀ r,row = some r → w.heap.size ≤ r ∧ ∃ o:Obj,A.heap[r]? = some o ∧ o.isCells = false) :=
   fun hr r e=>by obtain ⟨hB,o,ho,hw⟩:=hr r e;exact ⟨by omega,o,ho,Obj.not_cells_of_walk hw⟩
  refine (hseq (w.heap.size + 1)
   (fun pre W=>I pre W ∧ W.heap[w.heap.size + 1]? = some (.loop (rec .ready none)) ∧ W.heap[w.heap.size]? = some (.deferred (some [])))
   (fun pre W=>Ix pre W ∧ W.heap[w.heap.size + 1]? = some (.loop (rec .done (some .ret))) ∧ W.heap[w.heap.size]? = some (.deferred (some [])))
   W1 hb1
   (fun s A B row hs hg' hr=>⟨hI s A B row hs.1 hg' (hnw (B:=B) hr),(grownBy_keeps hg' (fun r e=>(hr r e).2) hs.2.1 rfl).trans hs.2.1,(grownBy_keeps hg' (fun r e=>(hr r e).2) hs.2.2 rfl).trans hs.2.2⟩)
   (fun s A B row hs hg' hr=>⟨hIx s A B row hs.1 hg' (hnw (B:=B) hr),(grownBy_keeps hg' (fun r e=>(hr r e).2) hs.2.1 rfl).trans hs.2.1,(grownBy_keeps hg' (fun r e=>(hr r e).2) hs.2.2 rfl).trans hs.2.2⟩)
   (fun s A u hs=>⟨hIb s A u hs.1,XT u hs.2.1 (by omega),XT u hs.2.2 (by omega)⟩)
   (fun s A u hs=>⟨zgj s A u hs.1,XT u hs.2.1 (by omega),XT u hs.2.2 (by omega)⟩)
   ?_ ⟨hI1,hL1,hK1⟩).mono ?_
  ·rintro pre x W ⟨hi,hl,hk⟩ hlen
   have hlt:w.heap.size + 1 < W.heap.size:=(Array.getElem?_eq_some_iff.1 hl).1
   have hy:=run_yield (P:=P) (args:=encs x) hl (by rw [hrec];exact hps x)
   rw [hrec] at hy
   refine ⟨fn,_,assign,body,hy,roundIn_of_wpIn hfn (hassign _ pre x W _ hi ?_)⟩
   clear hy
   intro a' Wa hkfa hkpa hia hax
   replace hl:=hkfa.same _ _ (by omega) hl rfl
   replace hk:=hkfa.same _ _ (Nat.le_refl _) hk rfl
   replace hlt:w.heap.size + 1 < Wa.heap.size:=(Array.getElem?_eq_some_iff.1 hl).1
   refine ⟨_,run_beginRound hl (by rw [hrec]),?_⟩
   have hl2:(Wa.putObj (w.heap.size + 1) (.loop { rec .ready none with state:=.busy })).heap[w.heap.size + 1]? = some (.loop { rec .ready none with state:=.busy }):=World.putObj_heap_same hlt
   have hk2:(Wa.putObj (w.heap.size + 1) (.loop { rec .ready none with state:=.busy })).heap[w.heap.size]? = some (.deferred (some [])):=(World.putObj_heap_other (by omega)).trans hk
   have hw2:Kp Wa (Wa.putObj (w.heap.size + 1) (.loop { rec .ready none with state:=.busy })):=hKb _ _ _ _ (by omega) hl rfl rfl
   refine wpIn_mono (hbody _ pre x a' _ (by omega) ⟨_,hl2⟩ (hI.putObj _ hia (by omega) hl rfl) ((hAx x a').putObj (s:=()) _ hax (by omega) hl rfl) hlen) ?_
   have fin:∀ (jump:Option Code) (W3:World),KeepsFrom w.heap.size (Wa.putObj (w.heap.size + 1) (.loop { rec .ready none with state:=.busy })) W3 →
     (Instr.endRound (w.heap.size + 1) jump).run P W3 = .ok (.bool jump.isNone) (W3.putObj (w.heap.size + 1) (.loop (rec (if jump.isNone then .ready else .done) jump))) ∧
     W3.heap[w.heap.size + 1]? = some (.loop { rec .ready none with state:=.busy }) ∧
     (W3.putObj (w.heap.size + 1) (.loop (rec (if jump.isNone then .ready else .done) jump))).heap[w.heap.size + 1]? = some (.loop (rec (if jump.isNone then .ready else .done) jump)) ∧
     (W3.putObj (w.heap.size + 1) (.loop (rec (if jump.isNone then .ready else .done) jump))).heap[w.heap.size]? = some (.deferred (some [])):=fun jump W3 hk3=>by
    have hl3:=hk3.same _ _ (by omega) hl2 rfl
    have:=run_endRound (P:=P) jump hl3
    rw [hrec] at this ⊢
    exact ⟨this,by rw [hrec] at hl3;exact hl3,World.putObj_heap_same (Array.getElem?_eq_some_iff.1 hl3).1,(World.putObj_heap_other (by omega)).trans (hk3.same _ _ (Nat.le_refl _) hk2 rfl)⟩
   rintro e a3 W3 hp
   cases e with
   | normal =>
    obtain ⟨hk3,hkp3,hi3⟩:=hp
    obtain ⟨hr,hl3,hl4,hk4⟩:=fin none W3 hk3
    exact ⟨_,_,hr,.inl ⟨rfl,⟨hI.putObj _ hi3 (by omega) hl3 rfl,hl4,hk4⟩,hKt hkpa (hKt (hKt hw2 hkp3) (hKb _ _ _ _ (by omega) hl3 rfl rfl))⟩⟩
   | ret =>
    obtain ⟨hk3,hi3⟩:=hp
    obtain ⟨hr,hl3,hl4,hk4⟩:=fin (some .ret) W3 hk3
    exact ⟨_,_,hr,.inr ⟨rfl,hIx.putObj _ hi3 (by omega) hl3 rfl,hl4,hk4⟩⟩
   | exit id=>exact hp.elim
   | goto t=>exact hp.elim
   | panic ch=>exact hp.elim
   | outgrown=>exact hp.elim
  ·rintro e W2 ⟨⟨v,rfl⟩,(⟨xs,hS,hi,hl,hk⟩ | ⟨pre,hSp,hi,hl,hk⟩)⟩
   ·exact ⟨none,_,by have:=run_endLoop (P:=P) hl (by rw [hrec];simp);rw [hrec] at this;exact this,hdone _ xs _ (Nat.le_refl _) hS (hI.putObj _ hi (by omega) hl rfl) ((World.putObj_heap_other (by omega)).trans hk)⟩
   ·exact ⟨some .ret,_,by have:=run_endLoop (P:=P) hl (by rw [hrec];simp);rw [hrec] at this;exact this,hstop _ pre _ (Nat.le_refl _) hSp (hIx.putObj _ hi (by omega) hl rfl) ((World.putObj_heap_other (by omega)).trans hk)⟩
end Go.Proofs.YtggifbbiiickmaaGreatDoor
namespace Go.Proofs.YtggifbbiiickmaaGreatDoor
open Go.RowKit Go.Proofs.zx.zJ Go.Proofs.zx.zu Go.Proofs.zx.zo Go.Proofs.YtggifbbiiickmaaGreatDoor.PX
attribute [local go_sem] Oper.semAt_some
set_option linter.unusedSimpArgs false
set_option linter.unusedVariables false
abbrev PS:={ p:Z6 // p.f0.size ≤ maxLen ∧ p.f1.size ≤ maxLen }
def zPS:PS:=⟨z80,Nat.zero_le _,Nat.zero_le _⟩
abbrev nE:=Nat × PS
def zvd (x:nE):Array Value:=#[.int .i64 (x.1:Int),.agg #[.string x.2.1.f0,.string x.2.1.f1]]
def nG (pre:List nE):ByteArray → Option ByteArray:=pre.foldl (fun f x s=>if s = x.2.1.f0 then some x.2.1.f1 else f s) (fun _=>none)
theorem zVc (pre:List nE) (x:nE):nG (pre ++ [x]) = fun s=>if s = x.2.1.f0 then some x.2.1.f1 else nG pre s:=by
 unfold nG
 rw [List.foldl_append]
 rfl
def Zf (zs:List PS):Nat → List nE
 | 0=>[]
 | k + 1=>(k,zs.getD k zPS) :: Zf zs k
def XD (zs:List PS) (k:Nat):List nE:=(Zf zs zs.length).take (zs.length - k)
theorem nH (zs:List PS):∀ k,(Zf zs k).length = k
 | 0=>rfl
 | k + 1=>by rw [Zf,List.length_cons,nH zs k]
theorem zj5 (zs:List PS):∀ (n j:Nat) (h:j < n),(Zf zs n)[n - 1 - j]? = some (j,zs.getD j zPS)
 | 0,_,h=>absurd h (Nat.not_lt_zero _)
 | n + 1,j,h=>by
  by_cases e:j = n
  ·subst e
   rw [show j + 1 - 1 - j = 0 by omega];rfl
  ·rw [show n + 1 - 1 - j = (n - 1 - j) + 1 by omega,Zf,List.getElem?_cons_succ]
   exact zj5 zs n j (by omega)
theorem zk0 (zs:List PS) (k:Nat) (h:k < zs.length):XD zs k = XD zs (k + 1) ++ [(k,zs.getD k zPS)]:=by
 have h1:=zj5 zs zs.length k h
 unfold XD
 rw [show zs.length - k = (zs.length - (k + 1)) + 1 by omega,List.take_add_one,show zs.length - (k + 1) = zs.length - 1 - k by omega,h1]
 rfl
theorem zXS (zs:List PS):XD zs 0 = Zf zs zs.length:=by
 unfold XD
 rw [Nat.sub_zero,List.take_of_length_le (by rw [nH];exact Nat.le_refl _)]
theorem zk1 (zs:List PS):XD zs zs.length = []:=by
 unfold XD
 rw [Nat.sub_self,List.take_zero]
theorem zXT (zs:List PS) (k:Nat) (h:k ≤ zs.length):(XD zs k).length = zs.length - k:=by
 unfold XD
 rw [List.length_take,nH]
 omega
def WE (n₀ Bs:Nat) (W W':World):Prop:=Below n₀ W W' ∧ W'.heap[Bs]? = W.heap[Bs]?
theorem zwH {n₀ Bs:Nat} {A B C:World} (h:WE n₀ Bs A B) (k:WE n₀ Bs B C):WE n₀ Bs A C:=⟨h.1.trans k.1,k.2.trans h.2⟩
theorem zao {n₀ Bs:Nat} {w:World} (hn:n₀ ≤ w.heap.size) (hB:Bs < w.heap.size) (W:World) (l:Nat) (o o':Obj) (hl:w.heap.size ≤ l) (h:W.heap[l]? = some o) (h1:o.isCells = false) (h2:o.isWalk = false):WE n₀ Bs W (W.putObj l o') :=
 ⟨belowK_b hn W l o o' hl h h1 h2,World.putObj_heap_other (by omega)⟩
theorem zVd {n₀ Bs:Nat} {t:TypeId} {v:Value} {W W':World} (h:WE n₀ Bs W W') (hb:Boxed W Bs t v):Boxed W' Bs t v:=h.2.trans hb
theorem zj6 (zs:List PS) (s:ByteArray):∀ (k:Nat),k ≤ zs.length → ∀ g:ByteArray → Option ByteArray,(Zf zs k).foldl (fun f x s=>if s = x.2.1.f0 then some x.2.1.f1 else f s) g s = match (zs.take k).find? (fun p=>decide (p.1.f0 = s)) with | some p=>some p.1.f1 | none=>g s
 | 0,_,g=>by rw [List.take_zero];rfl
 | k + 1,hk,g=>by
  have hlt:k < zs.length:=by omega
  have hg:zs.getD k zPS = zs[k]:=by rw [List.getD_eq_getElem?_getD,List.getElem?_eq_getElem hlt];rfl
  rw [Zf,List.foldl_cons,zj6 zs s k (by omega),List.take_add_one,List.getElem?_eq_getElem hlt,Option.toList_some,List.find?_append]
  cases hf:(zs.take k).find? (fun p=>decide (p.1.f0 = s)) with
  | some p=>rfl
  | none =>
   dsimp only
   rw [hg,Option.none_or,List.find?_cons]
   by_cases h:zs[k].1.f0 = s
   ·rw [if_pos h.symm,decide_eq_true h]
   ·rw [if_neg (fun e=>h e.symm),decide_eq_false h]
    rfl
theorem zK4 (zs:List PS) (s:ByteArray):nG (Zf zs zs.length) s = match (zs.map (·.1)).find? (fun p=>decide (p.f0 = s)) with | some p=>some p.f1 | none=>none:=by
 unfold nG
 rw [zj6 zs s zs.length (Nat.le_refl _),List.take_of_length_le (Nat.le_refl _),List.find?_map]
 simp only [Function.comp_def]
 cases zs.find? (fun p=>decide (p.1.f0 = s)) <;> rfl
set_option maxRecDepth 100000 in
set_option maxHeartbeats 4000000 in
theorem zK5 (F:Fence) (n:Nat) (h7:F.fn 104) (hro:F.round = none) (hn:1 ≤ n) (l Bs:Nat) (A0:Option Addr) (c0:Nat) (zs:List PS) (hl:zs.length ≤ 1000000000) (w0:World) (hC:Kd.C VT w0 A0 zs.length (zs.map (·.1))) (J Jx:List nE → World → Prop)
  (hY:∀ pre x W,J pre W → pre.length < zs.length → YieldAt F (n - 1) Tryz.prog l (zvd x) W fun e W' =>
   (e = .returned (.bool true) ∧ J (pre ++ [x]) W' ∧ WE w0.heap.size Bs W W') ∨ (e = .returned (.bool false) ∧ Jx (pre ++ [x]) W'))
  (W:World) (hb:Below w0.heap.size w0 W) (hBs:Boxed W Bs 28 (.slice A0 zs.length c0)) (h0:J [] W) :
  CallsIn F n Tryz.prog 104 #[.func (.yield l) #[] #[],.pointer (some ⟨Bs,0,none⟩)] W fun e W'=>(∃ v,e = .returned v) ∧
   ((∃ ys,ys = Zf zs zs.length ∧ J ys W') ∨ (∃ pre,True ∧ Jx pre W')):=by
 have HC:=zk.mk hC
 have HY:=zk.mk hY
 have HX:=zk.mk hBs
 have hx0:W.cell? ⟨Bs,0,none⟩ = some (.slice A0 zs.length c0):=hBs.cell
 clear hC hY hBs
 refine callsIn_of_wp Tryz.func104 rfl h7 ?_ hro
 simp only [Tryz.ntmps104,List.size_toArray,List.length_cons,List.length_nil,Nat.reduceAdd,Nat.reduceSub,Array.replicate_succ,Array.replicate_zero,List.push_toArray,List.append_toArray,List.nil_append,List.cons_append]
 gi_wp2
 gi_loopw [3] (fun i wr=>∃ k:Nat,k ≤ zs.length ∧ i = .int .i64 ((k:Int) - 1) ∧ zk (J (XD zs k) wr) ∧ zk (WE w0.heap.size Bs W wr)) (fun i _=>(intOf i + 1).toNat)
 case atStart=>exact ⟨zs.length,Nat.le_refl _,rfl,⟨by rw [zk1];exact h0⟩,⟨Below.refl _ _,rfl⟩⟩
 case round =>
  clear hx0
  obtain ⟨k,hk,rfl,HJ,HB⟩:=hrel
  have hs:wr.cell? ⟨Bs,0,none⟩ = some (.slice A0 zs.length c0):=(zVd HB.out HX.out).cell
  by_cases hlt:1 ≤ k
  ·obtain ⟨j,rfl⟩:∃ j,k = j + 1:=⟨k - 1,by omega⟩
   have ej:(((j + 1:Nat):Int) - 1) = (j:Int):=by omega
   rw [ej]
   obtain ⟨ad,e,x0,x1⟩:=zJ2 (Kd.za HC.out (hb.trans HB.out.1)) (j:Int) (by omega) (by omega)
   cases e
   rw [Int.toNat_natCast] at x0 x1
   have e:PW (zs.map (·.1)) (j:Int) = (zs.getD j zPS).1:=by
    have hj:j < zs.length:=by omega
    simp [PW,List.getD_eq_getElem?_getD,hj]
   rw [e] at x0 x1
   clear e
   obtain ⟨fn,tmps,assign,body,hy,hR⟩:=HY.out _ (j,zs.getD j zPS) wr HJ.out (by rw [zXT zs (j + 1) hk];omega)
   unfold zvd at hy
   dsimp only at hy
   have hst:=zk.mk (zk0 zs j (by omega))
   generalize zs.getD j zPS = x at x0 x1 hy hR hst
   have q0:(0:Int) ≤ (j:Int):=by omega
   have q1:(j:Int) < (zs.length:Int):=by omega
   have q3:((j:Int)).toNat = j:=Int.toNat_natCast j
   clear ej
   gi_wp2
   refine hR.mono ?_
   rintro e W3 (⟨rfl,hJ3,hk3⟩ | ⟨rfl,hJx3⟩)
   ·have HJ3:=zk.mk hJ3
    have fH:=zk.mk hk3
    clear hJ3 hk3
    gi_wp2
    go_roundw
    case rel=>exact ⟨j,by omega,rfl,⟨by rw [hst.out];exact HJ3.out⟩,⟨zwH HB.out fH.out⟩⟩
    case measure=>simp [intOf]
   ·have HJ3:=zk.mk hJx3
    clear hJx3
    gi_wp2
    refine bodyPost_ret (results_none rfl _ _ _) rfl ?_
    exact ⟨⟨_,rfl⟩,.inr ⟨_,trivial,HJ3.out⟩⟩
  ·obtain rfl:k = 0:=by omega
   gi_wp2
   go_end0
   exact ⟨⟨_,rfl⟩,.inl ⟨_,rfl,by rw [← zXS];exact HJ.out⟩⟩
set_option maxHeartbeats 1000000 in
theorem zar (F:Fence) (n:Nat) (h5:F.fn 43) (hro:F.round = none) (a:Option Addr) (len cap:Nat) (w:World) :
  CallsIn F n Tryz.prog 43 #[.slice a len cap] w fun e w'=>e = .returned (.func (.func 104) #[] #[.pointer (some ⟨w.heap.size,0,none⟩)]) ∧ w' = w.alloc (.cells #[.slice a len cap] 28):=by
 refine callsIn_of_wp Tryz.func43 rfl h5 ?_ hro
 simp only [Tryz.ntmps43,List.size_toArray,List.length_cons,List.length_nil,Nat.reduceAdd,Nat.reduceSub,Array.replicate_succ,Array.replicate_zero,List.push_toArray,List.append_toArray,List.nil_append,List.cons_append]
 gi_wp2
 go_ret
 exact ⟨rfl,rfl⟩
theorem zK6 (F:Fence) (n:Nat) (h7:F.fn 104) (hro:F.round = none) (hn:1 ≤ n) (Bs:Nat) (A0:Option Addr) (c0:Nat) (zs:List PS) (hl:zs.length ≤ 1000000000) (w0 w:World) (hC:Kd.C VT w0 A0 zs.length (zs.map (·.1))) (hw:Below w0.heap.size w0 w) (hBs:Boxed w Bs 28 (.slice A0 zs.length c0)) :
  zVb F n Tryz.prog 104 #[.pointer (some ⟨Bs,0,none⟩)] zvd Bs (WE w0.heap.size Bs) (fun ys=>ys = Zf zs zs.length) (fun _=>True) zs.length w:=fun l J Jx W hW _ _ _ _ hY h0 =>
 zK5 F n h7 hro hn l Bs A0 c0 zs hl w0 hC J Jx hY W (hw.trans (hW.mono hw.size)) ((hW.block Bs (Boxed.lt hBs)).trans hBs) h0
end Go.Proofs.YtggifbbiiickmaaGreatDoor
namespace Go.Proofs.YtggifbbiiickmaaGreatDoor
open Go.RowKit Go.Proofs.zx.zJ Go.Proofs.zx.zu Go.Proofs.zx.zo Go.Proofs.YtggifbbiiickmaaGreatDoor.PX
set_option linter.unusedSimpArgs false
set_option linter.unusedVariables false
set_option maxRecDepth 100000 in
set_option maxHeartbeats 4000000 in
theorem zK7 (A0:Option Addr) (c0:Nat) (l:List ByteArray) (w:World) (hr:Kd.C Kd.string w A0 l.length l) (hl:l.length ≤ 1000000000) (p:ByteArray → Bool) (g:Nat) (lb:Array Value) (eg:∀ args w,(callFunc g args).run Tryz.prog w = .ok (.enter g args) w)
  (hp:∀ (W:World) (x:ByteArray),x ∈ l → Below w.heap.size w W → Calls Tryz.prog g (#[.string x] ++ lb) W fun e w'=>e = .returned (.bool (p x)) ∧ Below w.heap.size w w') :
  Calls Tryz.prog 102 #[.slice A0 l.length c0,.func (.func g) #[] lb] w fun e w'=>e = .returned (.int .i64 (kT p l 0)) ∧ Below w.heap.size w w':=by
 have H:=zk.mk hr
 have HP:=zk.mk hp
 clear hr hp
 generalize hR:kT p l 0 = R
 have HR:=zk.mk hR
 clear hR
 go_enter Tryz.func102,Tryz.ntmps102
 go_wp2
 go_loopw [8] (fun i W=>∃ k:Nat,k ≤ l.length ∧ i = .int .i64 (k:Int) ∧ zk (kT p l 0 = kT p (l.drop k) k) ∧ zk (Below w.heap.size w W)) (fun i _=>l.length - (intOf i).toNat)
 case atStart=>exact ⟨0,Nat.zero_le _,rfl,⟨by rw [List.drop_zero]⟩,⟨Below.refl _ _⟩⟩
 case round =>
  obtain ⟨k,hk,rfl,HI,HB⟩:=hrel
  by_cases hlt:k < l.length
  ·obtain ⟨ad,e,x0⟩:=Kd.U1 (Kd.za H.out HB.out) (k:Int) (by omega) (by omega)
   cases e
   have e:X3 ByteArray.empty l (k:Int) = l[k]:=by simp [X3,List.getD_eq_getElem?_getD,hlt]
   rw [Int.toNat_natCast] at x0
   rw [e] at x0
   clear e
   have hi:=HI.out
   rw [List.drop_eq_getElem_cons hlt,JJ] at hi
   have hm:l[k] ∈ l:=List.getElem_mem hlt
   generalize l[k] = x at x0 hi hm
   have hcall:=HP.out wr x hm HB.out
   clear hm
   cases hq:p x with
   | true =>
    rw [hq] at hcall
    rw [if_pos hq] at hi
    have HI2:=zk.mk (HR.out.symm.trans hi)
    clear hi hq HI
    go_wp2_with fail
    refine hcall.mono ?_;rintro e w' ⟨rfl,hb'⟩
    go_wp2_with fail
    go_ret
    exact ⟨by rw [HI2.out];rfl,hb'⟩
   | false =>
    rw [hq] at hcall
    rw [if_neg (by rw [hq];exact Bool.false_ne_true)] at hi
    have HI2:=zk.mk hi
    clear hi hq HI
    go_wp2_with fail
    refine hcall.mono ?_;rintro e w' ⟨rfl,hb'⟩
    go_wp2_with fail
    go_roundw
    case rel=>exact ⟨k + 1,by omega,by first | rfl | go_num,HI2,⟨hb'⟩⟩
    case measure=>simp [intOf];omega
  ·obtain rfl:k = l.length:=by omega
   have hi:=HI.out
   rw [List.drop_eq_nil_of_le (Nat.le_refl _)] at hi
   have HI2:=zk.mk (HR.out.symm.trans hi)
   clear hi HI
   go_wp2
   go_ret
   exact ⟨by rw [HI2.out];rfl,HB.out⟩
set_option maxRecDepth 100000 in
theorem zK8 (A0:Option Addr) (c0:Nat) (l:List ByteArray) (w:World) (hr:Kd.C Kd.string w A0 l.length l) (hl:l.length ≤ 1000000000) (p:ByteArray → Bool) (g:Nat) (lb:Array Value) (eg:∀ args w,(callFunc g args).run Tryz.prog w = .ok (.enter g args) w)
  (hp:∀ (W:World) (x:ByteArray),x ∈ l → Below w.heap.size w W → Calls Tryz.prog g (#[.string x] ++ lb) W fun e w'=>e = .returned (.bool (p x)) ∧ Below w.heap.size w w') :
  Calls Tryz.prog 40 #[.slice A0 l.length c0,.func (.func g) #[] lb] w fun e w'=>e = .returned (.bool (l.any p)) ∧ Below w.heap.size w w':=by
 have h:=zK7 A0 c0 l w hr hl p g lb eg hp
 have e:=Ku p l 0
 generalize kT p l 0 = i at h e
 generalize l.any p = b at e ⊢
 subst e
 clear hp hr
 go_enter Tryz.func40,Tryz.ntmps40
 go_wp2_with (go_at_call 102;refine h.mono ?_;rintro e w1 ⟨rfl,hb⟩)
 go_ret
 exact ⟨rfl,hb⟩
end Go.Proofs.YtggifbbiiickmaaGreatDoor
namespace Go.Proofs.YtggifbbiiickmaaGreatDoor
open Go.RowKit Go.Proofs.zx.zJ Go.Proofs.zx.zu Go.Proofs.zx.zo Go.Proofs.YtggifbbiiickmaaGreatDoor.PX
set_option linter.unusedSimpArgs false
set_option linter.unusedVariables false
set_option maxRecDepth 100000 in
set_option maxHeartbeats 4000000 in
theorem zK9 (A0:Option Addr) (c0:Nat) (l:List Z6) (w:World) (hr:Kd.C VT w A0 l.length l) (hl:l.length ≤ 1000000000) (p:Z6 → Bool) (g:Nat) (lb:Array Value) (eg:∀ args w,(callFunc g args).run Tryz.prog w = .ok (.enter g args) w)
  (hp:∀ (W:World) (x:Z6),x ∈ l → Below w.heap.size w W → Calls Tryz.prog g (#[.agg #[.string x.f0,.string x.f1]] ++ lb) W fun e w'=>e = .returned (.bool (p x)) ∧ Below w.heap.size w w') :
  Calls Tryz.prog 103 #[.slice A0 l.length c0,.func (.func g) #[] lb] w fun e w'=>e = .returned (.int .i64 (kT p l 0)) ∧ Below w.heap.size w w':=by
 have H:=zk.mk hr
 have HP:=zk.mk hp
 clear hr hp
 generalize hR:kT p l 0 = R
 have HR:=zk.mk hR
 clear hR
 go_enter Tryz.func103,Tryz.ntmps103
 go_wp2
 go_loopw [8] (fun i W=>∃ k:Nat,k ≤ l.length ∧ i = .int .i64 (k:Int) ∧ zk (kT p l 0 = kT p (l.drop k) k) ∧ zk (Below w.heap.size w W)) (fun i _=>l.length - (intOf i).toNat)
 case atStart=>exact ⟨0,Nat.zero_le _,rfl,⟨by rw [List.drop_zero]⟩,⟨Below.refl _ _⟩⟩
 case round =>
  obtain ⟨k,hk,rfl,HI,HB⟩:=hrel
  by_cases hlt:k < l.length
  ·obtain ⟨ad,e,x0,x1⟩:=zJ2 (Kd.za H.out HB.out) (k:Int) (by omega) (by omega)
   cases e
   have e:PW l (k:Int) = l[k]:=by simp [PW,List.getD_eq_getElem?_getD,hlt]
   rw [Int.toNat_natCast] at x0 x1
   rw [e] at x0 x1
   clear e
   have hi:=HI.out
   rw [List.drop_eq_getElem_cons hlt,JJ] at hi
   have hm:l[k] ∈ l:=List.getElem_mem hlt
   generalize l[k] = x at x0 x1 hi hm
   have hcall:=HP.out wr x hm HB.out
   clear hm
   cases hq:p x with
   | true =>
    rw [hq] at hcall
    rw [if_pos hq] at hi
    have HI2:=zk.mk (HR.out.symm.trans hi)
    clear hi hq HI
    go_wp2_with fail
    refine hcall.mono ?_;rintro e w' ⟨rfl,hb'⟩
    go_wp2_with fail
    go_ret
    exact ⟨by rw [HI2.out];rfl,hb'⟩
   | false =>
    rw [hq] at hcall
    rw [if_neg (by rw [hq];exact Bool.false_ne_true)] at hi
    have HI2:=zk.mk hi
    clear hi hq HI
    go_wp2_with fail
    refine hcall.mono ?_;rintro e w' ⟨rfl,hb'⟩
    go_wp2_with fail
    go_roundw
    case rel=>exact ⟨k + 1,by omega,by first | rfl | go_num,HI2,⟨hb'⟩⟩
    case measure=>simp [intOf];omega
  ·obtain rfl:k = l.length:=by omega
   have hi:=HI.out
   rw [List.drop_eq_nil_of_le (Nat.le_refl _)] at hi
   have HI2:=zk.mk (HR.out.symm.trans hi)
   clear hi HI
   go_wp2
   go_ret
   exact ⟨by rw [HI2.out];rfl,HB.out⟩
set_option maxRecDepth 100000 in
theorem zYz (A0:Option Addr) (c0:Nat) (l:List Z6) (w:World) (hr:Kd.C VT w A0 l.length l) (hl:l.length ≤ 1000000000) (p:Z6 → Bool) (g:Nat) (lb:Array Value) (eg:∀ args w,(callFunc g args).run Tryz.prog w = .ok (.enter g args) w)
  (hp:∀ (W:World) (x:Z6),x ∈ l → Below w.heap.size w W → Calls Tryz.prog g (#[.agg #[.string x.f0,.string x.f1]] ++ lb) W fun e w'=>e = .returned (.bool (p x)) ∧ Below w.heap.size w w') :
  Calls Tryz.prog 41 #[.slice A0 l.length c0,.func (.func g) #[] lb] w fun e w'=>e = .returned (.bool (l.any p)) ∧ Below w.heap.size w w':=by
 have h:=zK9 A0 c0 l w hr hl p g lb eg hp
 have e:=Ku p l 0
 generalize kT p l 0 = i at h e
 generalize l.any p = b at e ⊢
 subst e
 clear hp hr
 go_enter Tryz.func41,Tryz.ntmps41
 go_wp2_with (go_at_call 103;refine h.mono ?_;rintro e w1 ⟨rfl,hb⟩)
 go_ret
 exact ⟨rfl,hb⟩
end Go.Proofs.YtggifbbiiickmaaGreatDoor
namespace Go.Proofs.YtggifbbiiickmaaGreatDoor.o8
open Go.Maps Go.ChangeMaps Go.WideMaps
set_option linter.unusedSimpArgs false
set_option linter.unusedVariables false
def SMap (P:Program) (k e:TypeId) (w:World) (b n:Nat) (f:ByteArray → Option ByteArray):Prop :=
 ∃ D:DataW Unit,w.ownsMap P k (plainElem P e) b n D ∧ IsMap D ∧ ∀ s:ByteArray,s.size ≤ maxLen → ∀ z,D.atKey (.string s.data.toList) z = match f s with | some v=>.lit (.string v.data.toList) | none=>z
section
variable {P:Program} {k e t:TypeId} {w:World} {b n:Nat} {f:ByteArray → Option ByteArray}
theorem SMap.kept {w':World} {row:Option Nat} (h:SMap P k e w b n f) (hg:w.grownBy w' row) (hne:some b ≠ row):SMap P k e w' b n f:=by
 obtain ⟨D,h1,h2,h3⟩:=h
 exact ⟨D,h1.kept hg hne,h2,h3⟩
theorem SMap.lt (h:SMap P k e w b n f):b < w.heap.size:=by
 obtain ⟨D,h1,_,_⟩:=h
 exact h1.lt
theorem SMap.made (w:World):SMap P k e (w.alloc (.map #[] 0)) w.heap.size 0 (fun _=>none) :=
 ⟨.map [],World.ownsMap_made w P k _,⟨_,rfl⟩,fun s _ z=>rfl⟩
theorem SMap.look (h:SMap P k e w b n f) (hk:P.underlying k = some .string) (ht:P.underlying t = some (.map k e)) (he:P.underlying e = some .string) (hz:(zeroValue e).run P w = .ok (.string ⟨#[]⟩) w) (s:ByteArray) (hs:s.size ≤ maxLen) :
  (Instr.lookup t (.map (some b)) (.string s) true).run P w = .ok (match f s with | some v=>.tuple #[.string v,.bool true] | none=>.tuple #[.string ⟨#[]⟩,.bool false]) w:=by
 obtain ⟨D,⟨es,clock,hb,F,_,rfl⟩,_,hf⟩:=h
 have hf:=hf s hs
 rcases fit_look true (string_keyed hk) ht hz hb F (keyOf_string_mk hk hs) with ⟨hrun,_,hat⟩ | ⟨e0,y,_,_,hrun,hRv,hat,_⟩
 ·rw [hrun]
  cases hv:f s with
  | none=>rfl
  | some v =>
   have h1:=(hat .nil).symm.trans (hf .nil)
   rw [hv] at h1
   cases h1
 ·rw [hrun]
  obtain ⟨s',hv',hy,_⟩:=plainElem_string_inv he hRv
  cases hv:f s with
  | none =>
   have h1:=(hat .nil).symm.trans (hf .nil)
   rw [hv,hy] at h1
   cases h1
  | some v =>
   have h1:=(hat .nil).symm.trans (hf .nil)
   rw [hv,hy] at h1
   have h2:s'.data.toList = v.data.toList:=by injection h1 with h1;injection h1
   have h3:s' = v:=by
    cases s';cases v
    congr 1
    exact Array.toList_inj.1 h2
   subst h3
   rw [hv']
   rfl
theorem SMap.put (h:SMap P k e w b n f) (hk:P.underlying k = some .string) (ht:P.underlying t = some (.map k e)) (he:P.underlying e = some .string) (hn:n < maxLen) (s v:ByteArray) (hs:s.size ≤ maxLen) (hv:v.size ≤ maxLen) :
  ∃ w',(Instr.mapUpdate t (.map (some b)) (.string s) (.string v)).run P w = .ok () w' ∧ SMap P k e w' b (n + 1) (fun x=>if x = s then some v else f x) ∧ w.grownBy w' (some b):=by
 obtain ⟨D,h1,h2,h3⟩:=h
 obtain ⟨w',hrun,hown,hg⟩:=h1.update (string_keyed hk) ht hn (keyOf_string_mk hk hs) (plainElem_string he hv)
 refine ⟨w',hrun,⟨_,hown,?_,fun x hx z=>?_⟩,hg⟩
 ·obtain ⟨es,rfl⟩:=h2
  exact ⟨_,rfl⟩
 ·by_cases hxs:x = s
  ·subst hxs
   dsimp only
   rw [if_pos rfl]
   exact atKey_put_same h2 (by trivial) _ _
  ·dsimp only
   rw [if_neg hxs,atKey_put_other (fun e=>hxs (by injection e with e;cases x;cases s;congr 1;exact Array.toList_inj.1 e)) _ _]
   exact h3 x hx z
end
end Go.Proofs.YtggifbbiiickmaaGreatDoor.o8
namespace Go.Proofs.YtggifbbiiickmaaGreatDoor
open Go.RowKit Go.Shelf Go.Proofs.zx.zJ Go.Proofs.zx.zu Go.Proofs.zx.zo Go.Proofs.YtggifbbiiickmaaGreatDoor.PX Go.Proofs.YtggifbbiiickmaaGreatDoor.o8
set_option linter.unusedSimpArgs false
set_option linter.unusedVariables false
set_option maxRecDepth 100000 in
theorem zxw (s:ByteArray) (W:World):Calls Tryz.prog 35 #[.string s] W fun e w'=>e = .returned (.bool (Yq s)) ∧ Below W.heap.size W w':=by
 have h:=oH s W
 unfold Yq
 generalize Zd s.data.toList = b at h ⊢
 go_enter Tryz.func35,Tryz.ntmps35
 go_wp2_with (go_at_call 36;refine h.mono ?_;rintro e w1 ⟨rfl,hb⟩)
 go_ret
 exact ⟨rfl,hb⟩
set_option maxRecDepth 100000 in
theorem zv9 (x:ql) (A3:Option Addr) (c3:Nat) (A4:Option Addr) (c4:Nat) (A5:Option Addr) (c5:Nat) (W:World) (hG:GW W) (hz:x.f3.length ≤ 1000000000 ∧ x.f4.length ≤ 1000000000 ∧ x.f5.length ≤ 1000000000)
  (q3:Kd.C vk W A3 x.f3.length x.f3) (g3:x.f3.length ≤ c3) (q4:Kd.C jg W A4 x.f4.length x.f4) (g4:x.f4.length ≤ c4) (q5:Kd.C jE W A5 x.f5.length x.f5) (g5:x.f5.length ≤ c5) :
  Calls Tryz.prog 38 #[.agg #[.string x.f0,.bool x.f1,.int .i64 x.f2,.slice A3 x.f3.length c3,.slice A4 x.f4.length c4,.slice A5 x.f5.length c5]] W fun e w'=>e = .returned (.bool (!q8 x)) ∧ Below W.heap.size W w':=by
 have hb0:Below W.heap.size W (W.alloc (.cells #[.string x.f0,.bool x.f1,.int .i64 x.f2,.slice A3 x.f3.length c3,.slice A4 x.f4.length c4,.slice A5 x.f5.length c5] 60)):=(Below.refl _ W).alloc (Nat.le_refl _) _
 have h:=jo.calls x.f0 x.f1 x.f2 A3 c3 x.f3 A4 c4 x.f4 A5 c5 x.f5 (q8 x) _ (Kd.za q3 hb0) g3 (Kd.za q4 hb0) g4 (Kd.za q5 hb0) g5 (hG.under hb0) (by unfold jo.f;rw [if_pos hz];rfl)
 generalize q8 x = b at h ⊢
 clear q3 q4 q5 hz
 go_enter Tryz.func38,Tryz.ntmps38
 go_wp2_with (go_at_call 39;refine h.mono ?_;rintro e w1 ⟨rfl,hb⟩)
 go_ret
 exact ⟨rfl,hb0.trans (hb.mono hb0.size)⟩
set_option maxRecDepth 100000 in
theorem zYq (B:Nat) (p:ZJ) (W:World) (hB:W.cell? ⟨B,0,none⟩ = some (.func (.func 35) #[] #[])) :
  Calls Tryz.prog 42 #[.agg #[.string p.f0,.string p.f1],.pointer (some ⟨B,0,none⟩)] W fun e w'=>e = .returned (.bool (gF p)) ∧ Below W.heap.size W w':=by
 have hl:=World.block_lt_of_cell? W _ hB
 have hb0:Below W.heap.size W (W.alloc (.cells #[.string p.f0,.string p.f1] 80)):=(Below.refl _ W).alloc (Nat.le_refl _) _
 have hc:(W.alloc (.cells #[.string p.f0,.string p.f1] 80)).cell? ⟨B,0,none⟩ = some (.func (.func 35) #[] #[]):=(World.cell?_alloc_lt _ _ _ hl).trans hB
 have h1:=zxw p.f0 (W.alloc (.cells #[.string p.f0,.string p.f1] 80))
 have h2:=fun V=>zxw p.f1 V
 unfold gF
 generalize Yq p.f0 = b1 at h1 ⊢
 generalize Yq p.f1 = b2 at h2 ⊢
 cases b1 with
 | true =>
  clear h2
  go_enter Tryz.func42,Tryz.ntmps42
  go_wp2_with (go_at_call 35;refine h1.mono ?_;rintro e w1 ⟨rfl,hb1⟩)
  go_ret
  exact ⟨rfl,hb0.trans (hb1.mono hb0.size)⟩
 | false =>
  go_enter Tryz.func42,Tryz.ntmps42
  go_wp2_with fail
  refine h1.mono ?_;rintro e w1 ⟨rfl,hb1⟩
  have hc1:=(hb1.cell (p:=⟨B,0,none⟩) (by simp;omega)).trans hc
  have k1:w1.cell? ⟨W.heap.size,1,none⟩ = some (.string p.f1):=(hb1.cell (p:=⟨W.heap.size,1,none⟩) (by simp)).trans (by simp)
  clear h1 hc
  go_wp2_with fail
  refine (h2 _).mono ?_;rintro e w2 ⟨rfl,hb2⟩
  go_wp2_with fail
  go_ret
  exact ⟨by first | rfl | (cases b2 <;> rfl),hb0.trans ((hb1.trans (hb2.mono hb1.size)).mono hb0.size)⟩
def XU (f:ByteArray → Option ByteArray) (c:ByteArray):ByteArray:=match f c with | some v=>v | none=>c
theorem zev (w:World):(zeroValue 9).run Tryz.prog w = .ok (.string ⟨#[]⟩) w:=by kernel_rfl
set_option maxRecDepth 100000 in
theorem o9 (B m k:Nat) (f:ByteArray → Option ByteArray) (c:ByteArray) (W:World) (hc:c.size ≤ maxLen) (hB:W.cell? ⟨B,0,none⟩ = some (.map (some m))) (hm:SMap Tryz.prog 9 9 W m k f) :
  Calls Tryz.prog 44 #[.string c,.pointer (some ⟨B,0,none⟩)] W fun e w'=>e = .returned (.string (XU f c)) ∧ W = w':=by
 have hlk:=hm.look (t:=82) Tryz.underlying9 Tryz.underlying82 Tryz.underlying9 (zev W) c hc
 unfold XU
 clear hm
 cases hf:f c with
 | none =>
  rw [hf] at hlk
  clear hf
  go_enter Tryz.func44,Tryz.ntmps44
  go_wp2
  go_ret
  exact ⟨rfl,rfl⟩
 | some v =>
  rw [hf] at hlk
  clear hf
  go_enter Tryz.func44,Tryz.ntmps44
  go_wp2
  go_ret
  exact ⟨rfl,rfl⟩
end Go.Proofs.YtggifbbiiickmaaGreatDoor
namespace Go.Proofs.YtggifbbiiickmaaGreatDoor
open Go.RowKit Go.Shelf Go.Proofs.zx.zJ Go.Proofs.zx.zu Go.Proofs.zx.zo Go.Proofs.YtggifbbiiickmaaGreatDoor.PX Go.Proofs.YtggifbbiiickmaaGreatDoor.o8
set_option linter.unusedSimpArgs false
set_option linter.unusedVariables false
theorem zxZ (Af:Option Addr) (cf:Nat) (l:List ql) (f s:Int) (yh zT:Bool) (Ac:Option Addr) (cc:Nat) (chars:List ByteArray) (Ap:Option Addr) (cp:Nat) (pairs:List ZJ) (w:World) (hG:GW w) (hC:Kd.C Zw w Af l.length l) (hz:∀ x ∈ l,x.f3.length ≤ 1000000000 ∧ x.f4.length ≤ 1000000000 ∧ x.f5.length ≤ 1000000000) (hl:l.length ≤ 1000000000) (hS:Kd.C Kd.string w Ac chars.length chars) (hlc:chars.length ≤ 1000000000) (hP:Kd.C VT w Ap pairs.length pairs) (hlp:pairs.length ≤ 1000000000) (W:World) (hb:Below w.heap.size w W):Calls Tryz.prog 37 #[.slice Af l.length cf,.func (.func 38) #[] #[]] W fun e w'=>e = .returned (.bool (l.any fun x=>!q8 x)) ∧ Below W.heap.size W w' :=
 iK Af cf l W (Kd.za hC hb) hl (fun x=>!q8 x) 38 #[] (pV Tryz.func38 (by kernel_rfl) rfl) (fun V y A3 c3 A4 c4 A5 c5 hm hV p3 g3 p4 g4 p5 g5 =>
  (zv9 y A3 c3 A4 c4 A5 c5 V (hG.under (hb.trans (hV.mono hb.size))) (hz y hm) p3 g3 p4 g4 p5 g5).mono fun e w' ⟨h1,h2⟩=>⟨h1,hV.trans (h2.mono hV.size)⟩)
theorem zxQ (Af:Option Addr) (cf:Nat) (l:List ql) (f s:Int) (yh zT:Bool) (Ac:Option Addr) (cc:Nat) (chars:List ByteArray) (Ap:Option Addr) (cp:Nat) (pairs:List ZJ) (w:World) (hG:GW w) (hC:Kd.C Zw w Af l.length l) (hz:∀ x ∈ l,x.f3.length ≤ 1000000000 ∧ x.f4.length ≤ 1000000000 ∧ x.f5.length ≤ 1000000000) (hl:l.length ≤ 1000000000) (hS:Kd.C Kd.string w Ac chars.length chars) (hlc:chars.length ≤ 1000000000) (hP:Kd.C VT w Ap pairs.length pairs) (hlp:pairs.length ≤ 1000000000) (W:World) (hb:Below w.heap.size w W):Calls Tryz.prog 40 #[.slice Ac chars.length cc,.func (.func 35) #[] #[]] W fun e w'=>e = .returned (.bool (chars.any Yq)) ∧ Below W.heap.size W w' :=
 zK8 Ac cc chars W (Kd.za hS hb) hlc Yq 35 #[] (pV Tryz.func35 (by kernel_rfl) rfl) (fun V y hm hV=>(zxw y V).mono fun e w' ⟨h1,h2⟩=>⟨h1,hV.trans (h2.mono hV.size)⟩)
theorem zxX (Af:Option Addr) (cf:Nat) (l:List ql) (f s:Int) (yh zT:Bool) (Ac:Option Addr) (cc:Nat) (chars:List ByteArray) (Ap:Option Addr) (cp:Nat) (pairs:List ZJ) (w:World) (hG:GW w) (hC:Kd.C Zw w Af l.length l) (hz:∀ x ∈ l,x.f3.length ≤ 1000000000 ∧ x.f4.length ≤ 1000000000 ∧ x.f5.length ≤ 1000000000) (hl:l.length ≤ 1000000000) (hS:Kd.C Kd.string w Ac chars.length chars) (hlc:chars.length ≤ 1000000000) (hP:Kd.C VT w Ap pairs.length pairs) (hlp:pairs.length ≤ 1000000000) (B:Nat) (W:World) (hb:Below w.heap.size w W) (hB:W.cell? ⟨B,0,none⟩ = some (.func (.func 35) #[] #[])):Calls Tryz.prog 41 #[.slice Ap pairs.length cp,.func (.func 42) #[] #[.pointer (some ⟨B,0,none⟩)]] W fun e w'=>e = .returned (.bool (pairs.any gF)) ∧ Below W.heap.size W w' :=
 zYz Ap cp pairs W (Kd.za hP hb) hlp gF 42 #[.pointer (some ⟨B,0,none⟩)] (pV Tryz.func42 (by kernel_rfl) rfl) (fun V y hm hV=>(zYq B y V ((hV.cell (p:=⟨B,0,none⟩) (World.block_lt_of_cell? W _ hB)).trans hB)).mono fun e w' ⟨h1,h2⟩=>⟨h1,hV.trans (h2.mono hV.size)⟩)
def wG (n:Nat) (f s:Int):Bool:=decide (f < 0) || (decide ((n:Int) ≤ f) || (decide (s < 1) || decide (1000 < s)))
set_option maxRecDepth 100000 in
set_option maxHeartbeats 8000000 in
theorem zYx (Af:Option Addr) (cf:Nat) (l:List ql) (f s:Int) (yh zT:Bool) (Ac:Option Addr) (cc:Nat) (chars:List ByteArray) (Ap:Option Addr) (cp:Nat) (pairs:List ZJ) (w:World) (hG:GW w) (hC:Kd.C Zw w Af l.length l) (hz:∀ x ∈ l,x.f3.length ≤ 1000000000 ∧ x.f4.length ≤ 1000000000 ∧ x.f5.length ≤ 1000000000) (hl:l.length ≤ 1000000000) (hS:Kd.C Kd.string w Ac chars.length chars) (hlc:chars.length ≤ 1000000000) (hP:Kd.C VT w Ap pairs.length pairs) (hlp:pairs.length ≤ 1000000000) (h1:(l.any fun x=>!q8 x) = true) :
  Calls Tryz.prog 13 #[.slice Af l.length cf,.agg #[.int .i64 f,.int .i64 s,.bool yh,.bool zT],.slice Ac chars.length cc,.slice Ap pairs.length cp] w fun e w'=>e = .returned (.tuple #[.slice none 0 0,.slice none 0 0,.int .i64 1]) ∧ Below w.heap.size w w':=by
 have hF:=zxZ Af cf l f s yh zT Ac cc chars Ap cp pairs w hG hC hz hl hS hlc hP hlp
 have hQ:=zxQ Af cf l f s yh zT Ac cc chars Ap cp pairs w hG hC hz hl hS hlc hP hlp
 have hR:=zxX Af cf l f s yh zT Ac cc chars Ap cp pairs w hG hC hz hl hS hlc hP hlp (w.heap.size + 1)
 have hb0:Below w.heap.size w ((w.alloc (.cells #[.int .i64 f,.int .i64 s,.bool yh,.bool zT] 26)).alloc (.cells #[.func (.func 35) #[] #[]] 75)):=((Below.refl _ w).alloc (Nat.le_refl _) _).alloc (by simp) _
 have Zh:=kN (uV w (.cells #[.int .i64 f,.int .i64 s,.bool yh,.bool zT] 26)) (.cells #[.func (.func 35) #[] #[]] 75)
 have hbad:Boxed ((w.alloc (.cells #[.int .i64 f,.int .i64 s,.bool yh,.bool zT] 26)).alloc (.cells #[.func (.func 35) #[] #[]] 75)) (w.heap.size + 1) 75 (.func (.func 35) #[] #[]):=by
  have h:=Boxed.new (w.alloc (.cells #[.int .i64 f,.int .i64 s,.bool yh,.bool zT] 26)) 75 (.func (.func 35) #[] #[])
  rwa [World.size_alloc] at h
 rw [h1] at hF
 have HT1:=zk.mk Zh
 have HD1:=zk.mk hbad
 have HB1:=zk.mk hb0
 have HF:=zk.mk hF
 have HQ:=zk.mk hQ
 have HR:=zk.mk hR
 clear Zh hbad hb0 hF hQ hR hG hC hz hS hP
 go_enter Tryz.func13,Tryz.ntmps13
 go_wp2_with fail
 refine (HF.out _ HB1.out).mono ?_;rintro e w2 ⟨rfl,hb2⟩
 go_wp2_with fail
 go_ret3
 exact ⟨rfl,HB1.out.trans (hb2.mono HB1.out.size)⟩
set_option maxRecDepth 100000 in
set_option maxHeartbeats 8000000 in
theorem zYj (Af:Option Addr) (cf:Nat) (l:List ql) (f s:Int) (yh zT:Bool) (Ac:Option Addr) (cc:Nat) (chars:List ByteArray) (Ap:Option Addr) (cp:Nat) (pairs:List ZJ) (w:World) (hG:GW w) (hC:Kd.C Zw w Af l.length l) (hz:∀ x ∈ l,x.f3.length ≤ 1000000000 ∧ x.f4.length ≤ 1000000000 ∧ x.f5.length ≤ 1000000000) (hl:l.length ≤ 1000000000) (hS:Kd.C Kd.string w Ac chars.length chars) (hlc:chars.length ≤ 1000000000) (hP:Kd.C VT w Ap pairs.length pairs) (hlp:pairs.length ≤ 1000000000) (h1:(l.any fun x=>!q8 x) = false) (h2:wG l.length f s = true) :
  Calls Tryz.prog 13 #[.slice Af l.length cf,.agg #[.int .i64 f,.int .i64 s,.bool yh,.bool zT],.slice Ac chars.length cc,.slice Ap pairs.length cp] w fun e w'=>e = .returned (.tuple #[.slice none 0 0,.slice none 0 0,.int .i64 1]) ∧ Below w.heap.size w w':=by
 have hF:=zxZ Af cf l f s yh zT Ac cc chars Ap cp pairs w hG hC hz hl hS hlc hP hlp
 have hQ:=zxQ Af cf l f s yh zT Ac cc chars Ap cp pairs w hG hC hz hl hS hlc hP hlp
 have hR:=zxX Af cf l f s yh zT Ac cc chars Ap cp pairs w hG hC hz hl hS hlc hP hlp (w.heap.size + 1)
 have hb0:Below w.heap.size w ((w.alloc (.cells #[.int .i64 f,.int .i64 s,.bool yh,.bool zT] 26)).alloc (.cells #[.func (.func 35) #[] #[]] 75)):=((Below.refl _ w).alloc (Nat.le_refl _) _).alloc (by simp) _
 have Zh:=kN (uV w (.cells #[.int .i64 f,.int .i64 s,.bool yh,.bool zT] 26)) (.cells #[.func (.func 35) #[] #[]] 75)
 have hbad:Boxed ((w.alloc (.cells #[.int .i64 f,.int .i64 s,.bool yh,.bool zT] 26)).alloc (.cells #[.func (.func 35) #[] #[]] 75)) (w.heap.size + 1) 75 (.func (.func 35) #[] #[]):=by
  have h:=Boxed.new (w.alloc (.cells #[.int .i64 f,.int .i64 s,.bool yh,.bool zT] 26)) 75 (.func (.func 35) #[] #[])
  rwa [World.size_alloc] at h
 rw [h1] at hF
 have HT1:=zk.mk Zh
 have HD1:=zk.mk hbad
 have HB1:=zk.mk hb0
 have HF:=zk.mk hF
 have HQ:=zk.mk hQ
 have HR:=zk.mk hR
 clear Zh hbad hb0 hF hQ hR hG hC hz hS hP
 go_enter Tryz.func13,Tryz.ntmps13
 go_wp2_with fail
 refine (HF.out _ HB1.out).mono ?_;rintro e w2 ⟨rfl,hb2⟩
 have HT2:=zk.mk (yY HT1.out hb2)
 have HD2:=zk.mk (yY HD1.out hb2)
 have HB2:=zk.mk (HB1.out.trans (hb2.mono HB1.out.size))
 clear hb2
 have a2:w2.cell? ⟨w.heap.size,0,none⟩ = some (.int .i64 f):=(zV HT2.out 0).trans rfl
 have b2:w2.cell? ⟨w.heap.size,1,none⟩ = some (.int .i64 s):=(zV HT2.out 1).trans rfl
 have c2:w2.cell? ⟨w.heap.size + 1,0,none⟩ = some (.func (.func 35) #[] #[]):=(zV HD2.out 0).trans rfl
 by_cases g1:f < 0
 ·have d1:decide (f < 0) = true:=decide_eq_true g1
  clear h2
  go_wp2_with fail
  go_ret3
  exact ⟨rfl,HB2.out⟩
 have d1:decide (f < 0) = false:=decide_eq_false g1
 by_cases g2:(l.length:Int) ≤ f
 ·have d2:decide ((l.length:Int) ≤ f) = true:=decide_eq_true g2
  clear h2
  go_wp2_with fail
  go_ret3
  exact ⟨rfl,HB2.out⟩
 have d2:decide ((l.length:Int) ≤ f) = false:=decide_eq_false g2
 by_cases g3:s < 1
 ·have d3:decide (s < 1) = true:=decide_eq_true g3
  clear h2
  go_wp2_with fail
  go_ret3
  exact ⟨rfl,HB2.out⟩
 have d3:decide (s < 1) = false:=decide_eq_false g3
 have g4:1000 < s:=by
  unfold wG at h2
  simp only [d1,d2,d3,Bool.false_or,decide_eq_true_eq] at h2
  exact h2
 have d4:decide (1000 < s) = true:=decide_eq_true g4
 clear h2
 go_wp2_with fail
 go_ret3
 exact ⟨rfl,HB2.out⟩
set_option maxRecDepth 100000 in
set_option maxHeartbeats 8000000 in
theorem zYv (Af:Option Addr) (cf:Nat) (l:List ql) (f s:Int) (yh zT:Bool) (Ac:Option Addr) (cc:Nat) (chars:List ByteArray) (Ap:Option Addr) (cp:Nat) (pairs:List ZJ) (w:World) (hG:GW w) (hC:Kd.C Zw w Af l.length l) (hz:∀ x ∈ l,x.f3.length ≤ 1000000000 ∧ x.f4.length ≤ 1000000000 ∧ x.f5.length ≤ 1000000000) (hl:l.length ≤ 1000000000) (hS:Kd.C Kd.string w Ac chars.length chars) (hlc:chars.length ≤ 1000000000) (hP:Kd.C VT w Ap pairs.length pairs) (hlp:pairs.length ≤ 1000000000) (h1:(l.any fun x=>!q8 x) = false) (h2:wG l.length f s = false) (h3:2000 < chars.length ∨ 100 < pairs.length) :
  Calls Tryz.prog 13 #[.slice Af l.length cf,.agg #[.int .i64 f,.int .i64 s,.bool yh,.bool zT],.slice Ac chars.length cc,.slice Ap pairs.length cp] w fun e w'=>e = .returned (.tuple #[.slice none 0 0,.slice none 0 0,.int .i64 1]) ∧ Below w.heap.size w w':=by
 have d1:decide (f < 0) = false:=by cases h:decide (f < 0) with | false=>rfl | true=>(unfold wG at h2;rw [h,Bool.true_or] at h2;cases h2)
 have d2:decide ((l.length:Int) ≤ f) = false:=by cases h:decide ((l.length:Int) ≤ f) with | false=>rfl | true=>(unfold wG at h2;rw [h,Bool.true_or,Bool.or_true] at h2;cases h2)
 have d3:decide (s < 1) = false:=by cases h:decide (s < 1) with | false=>rfl | true=>(unfold wG at h2;rw [h,Bool.true_or,Bool.or_true,Bool.or_true] at h2;cases h2)
 have d4:decide (1000 < s) = false:=by cases h:decide (1000 < s) with | false=>rfl | true=>(unfold wG at h2;rw [h,Bool.or_true,Bool.or_true,Bool.or_true] at h2;cases h2)
 have r1:=of_decide_eq_false d1
 have r2:=of_decide_eq_false d2
 have r3:=of_decide_eq_false d3
 have r4:=of_decide_eq_false d4
 clear h2
 have hF:=zxZ Af cf l f s yh zT Ac cc chars Ap cp pairs w hG hC hz hl hS hlc hP hlp
 have hQ:=zxQ Af cf l f s yh zT Ac cc chars Ap cp pairs w hG hC hz hl hS hlc hP hlp
 have hR:=zxX Af cf l f s yh zT Ac cc chars Ap cp pairs w hG hC hz hl hS hlc hP hlp (w.heap.size + 1)
 have hb0:Below w.heap.size w ((w.alloc (.cells #[.int .i64 f,.int .i64 s,.bool yh,.bool zT] 26)).alloc (.cells #[.func (.func 35) #[] #[]] 75)):=((Below.refl _ w).alloc (Nat.le_refl _) _).alloc (by simp) _
 have Zh:=kN (uV w (.cells #[.int .i64 f,.int .i64 s,.bool yh,.bool zT] 26)) (.cells #[.func (.func 35) #[] #[]] 75)
 have hbad:Boxed ((w.alloc (.cells #[.int .i64 f,.int .i64 s,.bool yh,.bool zT] 26)).alloc (.cells #[.func (.func 35) #[] #[]] 75)) (w.heap.size + 1) 75 (.func (.func 35) #[] #[]):=by
  have h:=Boxed.new (w.alloc (.cells #[.int .i64 f,.int .i64 s,.bool yh,.bool zT] 26)) 75 (.func (.func 35) #[] #[])
  rwa [World.size_alloc] at h
 rw [h1] at hF
 have HT1:=zk.mk Zh
 have HD1:=zk.mk hbad
 have HB1:=zk.mk hb0
 have HF:=zk.mk hF
 have HQ:=zk.mk hQ
 have HR:=zk.mk hR
 clear Zh hbad hb0 hF hQ hR hG hC hz hS hP
 go_enter Tryz.func13,Tryz.ntmps13
 go_wp2_with fail
 refine (HF.out _ HB1.out).mono ?_;rintro e w2 ⟨rfl,hb2⟩
 have HT2:=zk.mk (yY HT1.out hb2)
 have HD2:=zk.mk (yY HD1.out hb2)
 have HB2:=zk.mk (HB1.out.trans (hb2.mono HB1.out.size))
 clear hb2
 have a2:w2.cell? ⟨w.heap.size,0,none⟩ = some (.int .i64 f):=(zV HT2.out 0).trans rfl
 have b2:w2.cell? ⟨w.heap.size,1,none⟩ = some (.int .i64 s):=(zV HT2.out 1).trans rfl
 have c2:w2.cell? ⟨w.heap.size + 1,0,none⟩ = some (.func (.func 35) #[] #[]):=(zV HD2.out 0).trans rfl
 by_cases g5:2000 < chars.length
 ·have d5:decide ((2000:Int) < (chars.length:Int)) = true:=decide_eq_true (by omega)
  have d5':decide (2000 < chars.length) = true:=decide_eq_true g5
  clear h3
  go_wp2_with fail
  go_ret3
  exact ⟨rfl,HB2.out⟩
 have d5:decide ((2000:Int) < (chars.length:Int)) = false:=decide_eq_false (by omega)
 have g6:100 < pairs.length:=by omega
 have d6:decide ((100:Int) < (pairs.length:Int)) = true:=decide_eq_true (by omega)
 clear h3
 go_wp2_with fail
 go_ret3
 exact ⟨rfl,HB2.out⟩
set_option maxRecDepth 100000 in
set_option maxHeartbeats 8000000 in
theorem zYk (Af:Option Addr) (cf:Nat) (l:List ql) (f s:Int) (yh zT:Bool) (Ac:Option Addr) (cc:Nat) (chars:List ByteArray) (Ap:Option Addr) (cp:Nat) (pairs:List ZJ) (w:World) (hG:GW w) (hC:Kd.C Zw w Af l.length l) (hz:∀ x ∈ l,x.f3.length ≤ 1000000000 ∧ x.f4.length ≤ 1000000000 ∧ x.f5.length ≤ 1000000000) (hl:l.length ≤ 1000000000) (hS:Kd.C Kd.string w Ac chars.length chars) (hlc:chars.length ≤ 1000000000) (hP:Kd.C VT w Ap pairs.length pairs) (hlp:pairs.length ≤ 1000000000) (h1:(l.any fun x=>!q8 x) = false) (h2:wG l.length f s = false) (h3:chars.length ≤ 2000) (h3':pairs.length ≤ 100) (h4:chars.any Yq = true) :
  Calls Tryz.prog 13 #[.slice Af l.length cf,.agg #[.int .i64 f,.int .i64 s,.bool yh,.bool zT],.slice Ac chars.length cc,.slice Ap pairs.length cp] w fun e w'=>e = .returned (.tuple #[.slice none 0 0,.slice none 0 0,.int .i64 1]) ∧ Below w.heap.size w w':=by
 have d1:decide (f < 0) = false:=by cases h:decide (f < 0) with | false=>rfl | true=>(unfold wG at h2;rw [h,Bool.true_or] at h2;cases h2)
 have d2:decide ((l.length:Int) ≤ f) = false:=by cases h:decide ((l.length:Int) ≤ f) with | false=>rfl | true=>(unfold wG at h2;rw [h,Bool.true_or,Bool.or_true] at h2;cases h2)
 have d3:decide (s < 1) = false:=by cases h:decide (s < 1) with | false=>rfl | true=>(unfold wG at h2;rw [h,Bool.true_or,Bool.or_true,Bool.or_true] at h2;cases h2)
 have d4:decide (1000 < s) = false:=by cases h:decide (1000 < s) with | false=>rfl | true=>(unfold wG at h2;rw [h,Bool.or_true,Bool.or_true,Bool.or_true] at h2;cases h2)
 have r1:=of_decide_eq_false d1
 have r2:=of_decide_eq_false d2
 have r3:=of_decide_eq_false d3
 have r4:=of_decide_eq_false d4
 clear h2
 have d5:decide ((2000:Int) < (chars.length:Int)) = false:=decide_eq_false (by omega)
 have d6:decide ((100:Int) < (pairs.length:Int)) = false:=decide_eq_false (by omega)
 have hF:=zxZ Af cf l f s yh zT Ac cc chars Ap cp pairs w hG hC hz hl hS hlc hP hlp
 have hQ:=zxQ Af cf l f s yh zT Ac cc chars Ap cp pairs w hG hC hz hl hS hlc hP hlp
 have hR:=zxX Af cf l f s yh zT Ac cc chars Ap cp pairs w hG hC hz hl hS hlc hP hlp (w.heap.size + 1)
 have hb0:Below w.heap.size w ((w.alloc (.cells #[.int .i64 f,.int .i64 s,.bool yh,.bool zT] 26)).alloc (.cells #[.func (.func 35) #[] #[]] 75)):=((Below.refl _ w).alloc (Nat.le_refl _) _).alloc (by simp) _
 have Zh:=kN (uV w (.cells #[.int .i64 f,.int .i64 s,.bool yh,.bool zT] 26)) (.cells #[.func (.func 35) #[] #[]] 75)
 have hbad:Boxed ((w.alloc (.cells #[.int .i64 f,.int .i64 s,.bool yh,.bool zT] 26)).alloc (.cells #[.func (.func 35) #[] #[]] 75)) (w.heap.size + 1) 75 (.func (.func 35) #[] #[]):=by
  have h:=Boxed.new (w.alloc (.cells #[.int .i64 f,.int .i64 s,.bool yh,.bool zT] 26)) 75 (.func (.func 35) #[] #[])
  rwa [World.size_alloc] at h
 rw [h1] at hF
 rw [h4] at hQ
 have HT1:=zk.mk Zh
 have HD1:=zk.mk hbad
 have HB1:=zk.mk hb0
 have HF:=zk.mk hF
 have HQ:=zk.mk hQ
 have HR:=zk.mk hR
 clear Zh hbad hb0 hF hQ hR hG hC hz hS hP
 go_enter Tryz.func13,Tryz.ntmps13
 go_wp2_with fail
 refine (HF.out _ HB1.out).mono ?_;rintro e w2 ⟨rfl,hb2⟩
 have HT2:=zk.mk (yY HT1.out hb2)
 have HD2:=zk.mk (yY HD1.out hb2)
 have HB2:=zk.mk (HB1.out.trans (hb2.mono HB1.out.size))
 clear hb2
 have a2:w2.cell? ⟨w.heap.size,0,none⟩ = some (.int .i64 f):=(zV HT2.out 0).trans rfl
 have b2:w2.cell? ⟨w.heap.size,1,none⟩ = some (.int .i64 s):=(zV HT2.out 1).trans rfl
 have c2:w2.cell? ⟨w.heap.size + 1,0,none⟩ = some (.func (.func 35) #[] #[]):=(zV HD2.out 0).trans rfl
 go_wp2_with fail
 refine (HQ.out _ HB2.out).mono ?_;rintro e w3 ⟨rfl,hb3⟩
 go_wp2_with fail
 go_ret3
 exact ⟨rfl,HB2.out.trans (hb3.mono HB2.out.size)⟩
set_option maxRecDepth 100000 in
set_option maxHeartbeats 8000000 in
theorem zYy (Af:Option Addr) (cf:Nat) (l:List ql) (f s:Int) (yh zT:Bool) (Ac:Option Addr) (cc:Nat) (chars:List ByteArray) (Ap:Option Addr) (cp:Nat) (pairs:List ZJ) (w:World) (hG:GW w) (hC:Kd.C Zw w Af l.length l) (hz:∀ x ∈ l,x.f3.length ≤ 1000000000 ∧ x.f4.length ≤ 1000000000 ∧ x.f5.length ≤ 1000000000) (hl:l.length ≤ 1000000000) (hS:Kd.C Kd.string w Ac chars.length chars) (hlc:chars.length ≤ 1000000000) (hP:Kd.C VT w Ap pairs.length pairs) (hlp:pairs.length ≤ 1000000000) (h1:(l.any fun x=>!q8 x) = false) (h2:wG l.length f s = false) (h3:chars.length ≤ 2000) (h3':pairs.length ≤ 100) (h4:chars.any Yq = false) (h5:pairs.any gF = true) :
  Calls Tryz.prog 13 #[.slice Af l.length cf,.agg #[.int .i64 f,.int .i64 s,.bool yh,.bool zT],.slice Ac chars.length cc,.slice Ap pairs.length cp] w fun e w'=>e = .returned (.tuple #[.slice none 0 0,.slice none 0 0,.int .i64 1]) ∧ Below w.heap.size w w':=by
 have d1:decide (f < 0) = false:=by cases h:decide (f < 0) with | false=>rfl | true=>(unfold wG at h2;rw [h,Bool.true_or] at h2;cases h2)
 have d2:decide ((l.length:Int) ≤ f) = false:=by cases h:decide ((l.length:Int) ≤ f) with | false=>rfl | true=>(unfold wG at h2;rw [h,Bool.true_or,Bool.or_true] at h2;cases h2)
 have d3:decide (s < 1) = false:=by cases h:decide (s < 1) with | false=>rfl | true=>(unfold wG at h2;rw [h,Bool.true_or,Bool.or_true,Bool.or_true] at h2;cases h2)
 have d4:decide (1000 < s) = false:=by cases h:decide (1000 < s) with | false=>rfl | true=>(unfold wG at h2;rw [h,Bool.or_true,Bool.or_true,Bool.or_true] at h2;cases h2)
 have r1:=of_decide_eq_false d1
 have r2:=of_decide_eq_false d2
 have r3:=of_decide_eq_false d3
 have r4:=of_decide_eq_false d4
 clear h2
 have d5:decide ((2000:Int) < (chars.length:Int)) = false:=decide_eq_false (by omega)
 have d6:decide ((100:Int) < (pairs.length:Int)) = false:=decide_eq_false (by omega)
 have hF:=zxZ Af cf l f s yh zT Ac cc chars Ap cp pairs w hG hC hz hl hS hlc hP hlp
 have hQ:=zxQ Af cf l f s yh zT Ac cc chars Ap cp pairs w hG hC hz hl hS hlc hP hlp
 have hR:=zxX Af cf l f s yh zT Ac cc chars Ap cp pairs w hG hC hz hl hS hlc hP hlp (w.heap.size + 1)
 have hb0:Below w.heap.size w ((w.alloc (.cells #[.int .i64 f,.int .i64 s,.bool yh,.bool zT] 26)).alloc (.cells #[.func (.func 35) #[] #[]] 75)):=((Below.refl _ w).alloc (Nat.le_refl _) _).alloc (by simp) _
 have Zh:=kN (uV w (.cells #[.int .i64 f,.int .i64 s,.bool yh,.bool zT] 26)) (.cells #[.func (.func 35) #[] #[]] 75)
 have hbad:Boxed ((w.alloc (.cells #[.int .i64 f,.int .i64 s,.bool yh,.bool zT] 26)).alloc (.cells #[.func (.func 35) #[] #[]] 75)) (w.heap.size + 1) 75 (.func (.func 35) #[] #[]):=by
  have h:=Boxed.new (w.alloc (.cells #[.int .i64 f,.int .i64 s,.bool yh,.bool zT] 26)) 75 (.func (.func 35) #[] #[])
  rwa [World.size_alloc] at h
 rw [h1] at hF
 rw [h4] at hQ
 rw [h5] at hR
 have HT1:=zk.mk Zh
 have HD1:=zk.mk hbad
 have HB1:=zk.mk hb0
 have HF:=zk.mk hF
 have HQ:=zk.mk hQ
 have HR:=zk.mk hR
 clear Zh hbad hb0 hF hQ hR hG hC hz hS hP
 go_enter Tryz.func13,Tryz.ntmps13
 go_wp2_with fail
 refine (HF.out _ HB1.out).mono ?_;rintro e w2 ⟨rfl,hb2⟩
 have HT2:=zk.mk (yY HT1.out hb2)
 have HD2:=zk.mk (yY HD1.out hb2)
 have HB2:=zk.mk (HB1.out.trans (hb2.mono HB1.out.size))
 clear hb2
 have a2:w2.cell? ⟨w.heap.size,0,none⟩ = some (.int .i64 f):=(zV HT2.out 0).trans rfl
 have b2:w2.cell? ⟨w.heap.size,1,none⟩ = some (.int .i64 s):=(zV HT2.out 1).trans rfl
 have c2:w2.cell? ⟨w.heap.size + 1,0,none⟩ = some (.func (.func 35) #[] #[]):=(zV HD2.out 0).trans rfl
 go_wp2_with fail
 refine (HQ.out _ HB2.out).mono ?_;rintro e w3 ⟨rfl,hb3⟩
 have HT3:=zk.mk (yY HT2.out hb3)
 have HD3:=zk.mk (yY HD2.out hb3)
 have HB3:=zk.mk (HB2.out.trans (hb3.mono HB2.out.size))
 clear hb3
 have a3:w3.cell? ⟨w.heap.size,0,none⟩ = some (.int .i64 f):=(zV HT3.out 0).trans rfl
 have b3:w3.cell? ⟨w.heap.size,1,none⟩ = some (.int .i64 s):=(zV HT3.out 1).trans rfl
 have c3:w3.cell? ⟨w.heap.size + 1,0,none⟩ = some (.func (.func 35) #[] #[]):=(zV HD3.out 0).trans rfl
 go_wp2_with fail
 refine (HR.out _ HB3.out c3).mono ?_;rintro e w4 ⟨rfl,hb4⟩
 go_wp2_with fail
 go_ret3
 exact ⟨rfl,HB3.out.trans (hb4.mono HB3.out.size)⟩
theorem zzq (l:List ql) (f s:Int) (chars:List ByteArray) (pairs:List ZJ):Kt l f s chars pairs = ((l.any fun x=>!q8 x) || wG l.length f s || (decide (2000 < chars.length) || decide (100 < pairs.length)) || chars.any Yq || pairs.any gF):=by
 unfold Kt wG
 simp only [Bool.or_assoc]
set_option maxRecDepth 100000 in
set_option maxHeartbeats 8000000 in
theorem zYw (Af:Option Addr) (cf:Nat) (l:List ql) (f s:Int) (yh zT:Bool) (Ac:Option Addr) (cc:Nat) (chars:List ByteArray) (Ap:Option Addr) (cp:Nat) (pairs:List ZJ) (w:World) (hG:GW w) (hC:Kd.C Zw w Af l.length l) (hz:∀ x ∈ l,x.f3.length ≤ 1000000000 ∧ x.f4.length ≤ 1000000000 ∧ x.f5.length ≤ 1000000000) (hl:l.length ≤ 1000000000) (hS:Kd.C Kd.string w Ac chars.length chars) (hlc:chars.length ≤ 1000000000) (hP:Kd.C VT w Ap pairs.length pairs) (hlp:pairs.length ≤ 1000000000) (h:Kt l f s chars pairs = true) :
  Calls Tryz.prog 13 #[.slice Af l.length cf,.agg #[.int .i64 f,.int .i64 s,.bool yh,.bool zT],.slice Ac chars.length cc,.slice Ap pairs.length cp] w fun e w'=>e = .returned (.tuple #[.slice none 0 0,.slice none 0 0,.int .i64 1]) ∧ Below w.heap.size w w':=by
 rw [zzq] at h
 cases h1:l.any fun x=>!q8 x with
 | true=>exact zYx Af cf l f s yh zT Ac cc chars Ap cp pairs w hG hC hz hl hS hlc hP hlp h1
 | false =>
 cases h2:wG l.length f s with
 | true=>exact zYj Af cf l f s yh zT Ac cc chars Ap cp pairs w hG hC hz hl hS hlc hP hlp h1 h2
 | false =>
 by_cases h3:2000 < chars.length ∨ 100 < pairs.length
 ·exact zYv Af cf l f s yh zT Ac cc chars Ap cp pairs w hG hC hz hl hS hlc hP hlp h1 h2 h3
 cases h4:chars.any Yq with
 | true=>exact zYk Af cf l f s yh zT Ac cc chars Ap cp pairs w hG hC hz hl hS hlc hP hlp h1 h2 (by omega) (by omega) h4
 | false =>
 rw [h1,h2,h4,decide_eq_false (by omega:¬ 2000 < chars.length),decide_eq_false (by omega:¬ 100 < pairs.length)] at h
 exact zYy Af cf l f s yh zT Ac cc chars Ap cp pairs w hG hC hz hl hS hlc hP hlp h1 h2 (by omega) (by omega) h4 (by simpa using h)
end Go.Proofs.YtggifbbiiickmaaGreatDoor
