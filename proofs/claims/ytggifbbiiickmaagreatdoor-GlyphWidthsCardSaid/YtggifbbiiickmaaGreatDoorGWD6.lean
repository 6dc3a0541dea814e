/-
  Texts that lean on one another, laid in one file. No condition.
-/
import Derived.Test.YtggifbbiiickmaaGreatDoorGWD1
import Derived.Test.YtggifbbiiickmaaGreatDoorGWD4
import Derived.Test.YtggifbbiiickmaaGreatDoorGWD5
import Derived.Test.YtggifbbiiickmaaGreatDoorGWD3
import Derived.Test.YtggifbbiiickmaaGreatDoorGWD2
import Derived.Deep.Slices
import Derived.ChangeArms
import Derived.ChangeSlices
import Derived.SizedLaws
import Derived.WideShapes
import Derived.OpenShut
import Derived.Lib.LaidU8
import Derived.Shelf.Vars
namespace Go.Proofs.YtggifbbiiickmaaGreatDoor.PX
open Go.RowKit Go.Proofs.zx.zJ Go.Proofs.zx.zu Go.Proofs.zx.zo
attribute [local go_sem] yU y7 qX qJ yM yN y8 y9   -- for this text's walks alone
set_option linter.unusedVariables false
set_option linter.unusedSimpArgs false
mutual
def zZ.j0:Nat → List (yD) → Bool → Option (Bool)
 | 0,_,_=>none
 | k + 1,x0,x15=>if x15 = true then ((vV.f).bind fun zjh=>(some zjh)) else ((yu.f k x0).bind fun Um=>((yO.f k x0).bind fun VP=>(if Um = VP then ((qO.f x0).bind fun Ji=>((z8.f k x0).bind fun Un=>(zZ.j1 k x0 (Ji.toList != Un.toList)))) else (zZ.j1 k x0 true))))
def zZ.j1:Nat → List (yD) → Bool → Option (Bool)
 | 0,_,_=>none
 | k + 1,x0,x28=>if x28 = true then (some false) else ((wX.f x0).bind fun qh=>((yt.f k x0).bind fun xM=>(if (qh.length:Int) = (xM.length:Int) then (zZ.l0 k x0 0 (⟨#[]⟩:ByteArray) qh xM 0) else (some false))))
def zZ.l0:Nat → List (yD) → Int → ByteArray → List (List (yD)) → List (List (yD)) → Int → Option (Bool)
 | 0,_,_,_,_,_,_=>none
 | k + 1,x0,x3,x4,x5,x6,x7=>if x7 < (x5.length:Int) then (if 0 ≤ x7 then (if x7 < (x6.length:Int) then ((yV.f k (qV x5 x7) (qV x6 x7)).bind fun zJl=>(if zJl = true then ((yu.f k (qV x5 x7)).bind fun YD=>(if x7 > 0 then (if x4.size + 1 ≤ 9223372036854775807 then ((qO.f (qV x5 x7)).bind fun ZR=>(if (x4 ++ (⟨#[32]⟩:ByteArray)).size + ZR.size ≤ 9223372036854775807 then (zZ.l0 k x0 (wrap64 (x3 + YD)) ((x4 ++ (⟨#[32]⟩:ByteArray)) ++ ZR) x5 x6 (wrap64 (x7 + 1))) else (none))) else (none)) else ((qO.f (qV x5 x7)).bind fun Yy=>(if x4.size + Yy.size ≤ 9223372036854775807 then (zZ.l0 k x0 (wrap64 (x3 + YD)) (x4 ++ Yy) x5 x6 (wrap64 (x7 + 1))) else (none))))) else (some false))) else (none)) else (none)) else (zZ.l1 k x0 x3 x4 0)
def zZ.l1:Nat → List (yD) → Int → ByteArray → Int → Option (Bool)
 | 0,_,_,_,_=>none
 | k + 1,x0,x3,x4,x8=>if x8 < (x0.length:Int) then (if 0 ≤ x8 then ((wQ.f ((zw x0 x8).f0) ((zw x0 x8).f1) ((zw x0 x8).f2) ((zw x0 x8).f3) ((zw x0 x8).f4) ((zw x0 x8).f5) ((zw x0 x8).f6)).bind fun QZ=>((zX.f k ((zw x0 x8).f0) ((zw x0 x8).f1) ((zw x0 x8).f2) ((zw x0 x8).f3) ((zw x0 x8).f4) ((zw x0 x8).f5) ((zw x0 x8).f6)).bind fun XA=>(if (QZ != XA) = true then (some false) else ((qE.f ((zw x0 x8).f0) ((zw x0 x8).f1) ((zw x0 x8).f2) ((zw x0 x8).f3) ((zw x0 x8).f4) ((zw x0 x8).f5) ((zw x0 x8).f6)).bind fun ru=>(if ru = true then (zZ.l1 k x0 (wrap64 (x3 + ((zw x0 x8).f1))) x4 (wrap64 (x8 + 1))) else (zZ.l1 k x0 x3 x4 (wrap64 (x8 + 1)))))))) else (none)) else ((yu.f k x0).bind fun Wj=>(if x3 = Wj then ((qO.f x0).bind fun Jl=>(if x4.toList = Jl.toList then ((vV.f).bind fun rA=>(some rA)) else (some false))) else (some false)))
end
def zZ.f (k:Nat) (l0:List (yD)):Option (Bool):=if (l0.length:Int) > 300 then (zZ.j0 k l0 true) else ((qp.f k l0).bind fun lK=>(zZ.j0 k l0 lK))
def zZ.T12:Bool × List (List Nat × List Nat):=(true,[([],[]),([],[]),([0,1],[0,1]),([2],[2]),([],[]),([],[]),([4,5],[4,5]),([6],[6]),([3,7],[3,7]),([8],[8])])
def zZ.B12:List Nat:=[0,0,3,7,0,0,48,112,255,511]
theorem zZ.zJm:q9 .any (opsOf Tryz.f9 12) = zZ.T12:=by kernel_rfl
theorem zZ.zkl:xC zZ.T12.2 zZ.B12 = true:=by kernel_rfl
def zZ.T21:Bool × List (List Nat × List Nat):=(true,[([],[]),([],[]),([0,1],[0,1]),([2],[2]),([3],[3]),([],[]),([],[]),([5,6],[5,6]),([7],[7]),([8,4],[8]),([4,9],[4,9])])
def zZ.B21:List Nat:=[0,0,3,7,15,0,0,96,224,511,1023]
theorem zZ.zJn:q9 .any (opsOf Tryz.f9 21) = zZ.T21:=by kernel_rfl
theorem zZ.zkm:xC zZ.T21.2 zZ.B21 = true:=by kernel_rfl
set_option maxHeartbeats 8000000 in
set_option maxRecDepth 100000 in
theorem zZ.calls (k:Nat) (A0:Option Addr) (c0:Nat) (l0:List (yD)) (r:Bool) (w:World) (hr0:Kd.C qK w A0 l0.length l0) (hc0:l0.length ≤ c0) (hG:GW w) (h:zZ.f k l0 = some r) :
  Calls Tryz.prog 9 #[.slice A0 l0.length c0] w fun e w'=>e = .returned (.bool r) ∧ Below w.heap.size w w':=by
 have zz5:=Tryz.underlying53
 have HG:=zk.mk hG
 clear hG
 have qA:=zk.mk hr0
 have YJ:=zk.mk hc0
 clear hr0 hc0
 have HB:=zk.mk (Below.refl w.heap.size w)
 have H:(if (l0.length:Int) > 300 then (zZ.j0 k l0 true) else ((qp.f k l0).bind fun lK=>(zZ.j0 k l0 lK))) = some r:=h
 clear h
 have ng:=zk.mk H
 clear H
 go_enter Tryz.func9,Tryz.ntmps9
 go_upto_region 1 with (fail)
 go_cut [15] (fun v15 wc=>∃ (kq:Nat) (zvh:Bool),v15 = .bool zvh ∧ zk (zZ.j0 kq l0 zvh = some r) ∧ zk (kq ≤ k) ∧ zk (Below w.heap.size w wc))
 case first =>
  have H:=ng.out
  clear ng
  by_cases c3:(l0.length:Int) > 300
  ·rw [if_pos c3] at H
   have wR:decide (300 < (l0.length:Int)) = true:=decide_eq_true c3
   have mq:decide (300 < l0.length) = true:=decide_eq_true (by omega)
   clear c3
   (first | rw [wR] | (simp only [qR,qU];rw [wR]) | skip)
   have H':=zk.mk H
   clear H
   go_wp2
   go_meet
   case rel=>exact ⟨_,(true),(by first | rfl | (simp;done) | (simp [*];done)),H',⟨by first | omega | exact Nat.le_refl _⟩,⟨zM HB.out⟩⟩
  ·rw [if_neg c3] at H
   have wR:decide (300 < (l0.length:Int)) = false:=decide_eq_false c3
   have mq:decide (300 < l0.length) = false:=decide_eq_false (by omega)
   clear c3
   (first | rw [wR] | (simp only [qR,qU];rw [wR]) | skip)
   replace H:=Option.bind_eq_some_iff.mp H
   obtain ⟨lK,nQ,H⟩:=H
   replace H:(zZ.j0 k l0 lK) = some r:=H
   have A4:=zk.mk nQ
   clear nQ
   have H':=zk.mk H
   clear H
   go_wp2_with (first | (go_at_call 24;(with_reducible refine (qp.calls k _ _ l0 lK _ ?yX ?yE A4.out).mono ?_);(case yX=>exact xZ (Kd.za qA.out HB.out));(case yE=>exact YJ.out);rintro e w' ⟨rfl,⟨nd,rfl⟩⟩))
   go_meet
   case rel=>exact ⟨_,(lK),(by first | rfl | (simp;done) | (simp [*];done)),H',⟨by first | omega | exact Nat.le_refl _⟩,⟨zM HB.out⟩⟩
 case rest =>
  clear ng
  try clear c3
  try clear wR
  try clear mq
  obtain ⟨kq,zvh,rfl,HA,wL,HB⟩:=hcut
  cases kq with
  | zero=>exact absurd HA.out (by simp [zZ.j0])
  | succ YK =>
   have H:=HA.out
   clear HA
   simp only [zZ.j0] at H
   by_cases c5:zvh = true
   ·subst c5
    have H1:((vV.f).bind fun zjh=>(some zjh)) = some r:=by rw [if_pos rfl] at H;exact H
    clear H
    have H:=H1
    clear H1
    replace H:=Option.bind_eq_some_iff.mp H
    obtain ⟨zjh,A60,H⟩:=H
    replace H:(some zjh) = some r:=H
    have A6:=zk.mk A60
    clear A60
    obtain rfl:=Option.some.inj H
    go_wp2_with (first | ((with_reducible refine yw (f:=11) rfl ?_);refine vR (some 16) Tryz.func11 #[] ?_;(with_reducible refine (vV.calls  zjh _ ?yX A6.out).mono ?_);(case yX=>exact GW.under HG.out (zM HB.out));rintro e w7 ⟨rfl,hb⟩;refine ⟨_,rfl,?_⟩;have zh:=zk.mk (zF (zM HB.out) hb);clear HB;have HB:=zh;clear zh;(try clear hb);(try clear hk);(try clear hi)))
    go_ret
    exact ⟨by first | rfl | (simp [zl,zm] <;> rfl) | (simp [*,zl,zm] <;> rfl),by repeat (first | (with_reducible first | exact HB.out | apply zO | apply zC | apply zP) | exact HB.out)⟩
   ·replace c5:=Bool.eq_false_iff.mpr c5
    subst c5
    have H1:((yu.f YK l0).bind fun Um=>((yO.f YK l0).bind fun VP=>(if Um = VP then ((qO.f l0).bind fun Ji=>((z8.f YK l0).bind fun Un=>(zZ.j1 YK l0 (Ji.toList != Un.toList)))) else (zZ.j1 YK l0 true)))) = some r:=by rw [if_neg (show ¬ (false = true) by decide)] at H;exact H
    clear H
    have H:=H1
    clear H1
    have HC8:=zk.mk H
    clear H
    go_upto_region 3 with (fail)
    go_cut [28] (fun v28 wc=>∃ (kq:Nat) (zvi:Bool),v28 = .bool zvi ∧ zk (zZ.j1 kq l0 zvi = some r) ∧ zk (kq ≤ YK) ∧ zk (Below w.heap.size w wc))
    case first =>
     have H:=HC8.out
     clear HC8
     replace H:=Option.bind_eq_some_iff.mp H
     obtain ⟨Um,A90,H⟩:=H
     replace H:((yO.f YK l0).bind fun VP=>(if Um = VP then ((qO.f l0).bind fun Ji=>((z8.f YK l0).bind fun Un=>(zZ.j1 YK l0 (Ji.toList != Un.toList)))) else (zZ.j1 YK l0 true))) = some r:=H
     have A9:=zk.mk A90
     clear A90
     replace H:=Option.bind_eq_some_iff.mp H
     obtain ⟨VP,zvU,H⟩:=H
     replace H:(if Um = VP then ((qO.f l0).bind fun Ji=>((z8.f YK l0).bind fun Un=>(zZ.j1 YK l0 (Ji.toList != Un.toList)))) else (zZ.j1 YK l0 true)) = some r:=H
     have A10:=zk.mk zvU
     clear zvU
     by_cases c11:Um = VP
     ·rw [if_pos c11] at H
      have Yn:(Um == VP) = true:=beq_iff_eq.mpr c11
      have JB:(Um != VP) = false:=bne_eq_false_iff_eq.mpr c11
      clear c11
      (first | rw [Yn] | (simp only [qR,qU];rw [Yn]) | skip)
      replace H:=Option.bind_eq_some_iff.mp H
      obtain ⟨Ji,zdk,H⟩:=H
      replace H:((z8.f YK l0).bind fun Un=>(zZ.j1 YK l0 (Ji.toList != Un.toList))) = some r:=H
      have A12:=zk.mk zdk
      clear zdk
      replace H:=Option.bind_eq_some_iff.mp H
      obtain ⟨Un,zdy,H⟩:=H
      replace H:(zZ.j1 YK l0 (Ji.toList != Un.toList)) = some r:=H
      have A13:=zk.mk zdy
      clear zdy
      have H':=zk.mk H
      clear H
      go_wp2_with (first | ((with_reducible refine yw (f:=23) rfl ?_);refine vR (some 18) Tryz.func23 #[.slice A0 l0.length c0] ?_;(with_reducible refine (yu.calls YK _ _ l0 Um _ ?yX ?yE A9.out).mono ?_);(case yX=>exact xZ (Kd.za qA.out HB.out));(case yE=>exact YJ.out);rintro e w14 ⟨rfl,hb⟩;refine ⟨_,rfl,?_⟩;have zh:=zk.mk (zF (zM HB.out) hb);clear HB;have HB:=zh;clear zh;(try clear hb);(try clear hk);(try clear hi)) | ((with_reducible refine yw (f:=27) rfl ?_);refine vR (some 20) Tryz.func27 #[.slice A0 l0.length c0] ?_;(with_reducible refine (yO.calls YK _ _ l0 VP _ ?yX ?yE A10.out).mono ?_);(case yX=>exact xZ (Kd.za qA.out HB.out));(case yE=>exact YJ.out);rintro e w' ⟨rfl,⟨nd,rfl⟩⟩;refine ⟨_,rfl,?_⟩) | (go_at_call 28;(with_reducible refine (qO.calls _ _ l0 Ji _ ?yX ?yE A12.out).mono ?_);(case yX=>repeat (first | exact (Kd.za qA.out (zM HB.out)) | (with_reducible refine Kd.YG ?_ _) | (with_reducible refine Kd.YH ?_ _) | (with_reducible refine Kd.Va ?_)));(case yE=>exact YJ.out);rintro e Yd ⟨rfl,hb⟩;have zh:=zk.mk (zF (zM HB.out) hb);clear HB;have HB:=zh;clear zh;(try clear hb);(try clear hk);(try clear hi)) | (go_at_call 29;(with_reducible refine (z8.calls YK _ _ l0 Un _ ?yX ?yE A13.out).mono ?_);(case yX=>exact xZ (Kd.za qA.out HB.out));(case yE=>exact YJ.out);rintro e w' ⟨rfl,⟨nd,rfl⟩⟩))
      go_meet
      case rel=>exact ⟨_,((Ji.toList != Un.toList)),(by first | rfl | (simp;done) | (simp [*];done)),H',⟨by have:=wL.out;first | omega | exact Nat.le_refl _⟩,⟨zM HB.out⟩⟩
     ·rw [if_neg c11] at H
      have Yn:(Um == VP) = false:=beq_eq_false_iff_ne.mpr c11
      have JB:(Um != VP) = true:=bne_iff_ne.mpr c11
      (first | rw [Yn] | (simp only [qR,qU];rw [Yn]) | skip)
      have H':=zk.mk H
      clear H
      go_wp2_with (first | ((with_reducible refine yw (f:=23) rfl ?_);refine vR (some 18) Tryz.func23 #[.slice A0 l0.length c0] ?_;(with_reducible refine (yu.calls YK _ _ l0 Um _ ?yX ?yE A9.out).mono ?_);(case yX=>exact xZ (Kd.za qA.out HB.out));(case yE=>exact YJ.out);rintro e w16 ⟨rfl,hb⟩;refine ⟨_,rfl,?_⟩;have zh:=zk.mk (zF (zM HB.out) hb);clear HB;have HB:=zh;clear zh;(try clear hb);(try clear hk);(try clear hi)) | ((with_reducible refine yw (f:=27) rfl ?_);refine vR (some 20) Tryz.func27 #[.slice A0 l0.length c0] ?_;(with_reducible refine (yO.calls YK _ _ l0 VP _ ?yX ?yE A10.out).mono ?_);(case yX=>exact xZ (Kd.za qA.out HB.out));(case yE=>exact YJ.out);rintro e w' ⟨rfl,⟨nd,rfl⟩⟩;refine ⟨_,rfl,?_⟩))
      go_meet
      case rel=>exact ⟨_,(true),(by first | rfl | (simp;done) | (simp [*];done)),H',⟨by have:=wL.out;first | omega | exact Nat.le_refl _⟩,⟨zM HB.out⟩⟩
    case rest =>
     clear HC8
     try clear c3
     try clear wR
     try clear mq
     try clear c5
     try clear c11
     try clear Yn
     try clear JB
     obtain ⟨kq,zvi,rfl,HA,HJ7,HB⟩:=hcut
     cases kq with
     | zero=>exact absurd HA.out (by simp [zZ.j1])
     | succ kj7 =>
      have H:=HA.out
      clear HA
      simp only [zZ.j1] at H
      by_cases c17:zvi = true
      ·subst c17
       have H1:(some false) = some r:=by rw [if_pos rfl] at H;exact H
       clear H
       have H:=H1
       clear H1
       obtain rfl:=Option.some.inj H
       go_wp2
       go_ret
       exact ⟨by first | rfl | (simp [zl,zm] <;> rfl) | (simp [*,zl,zm] <;> rfl),by repeat (first | (with_reducible first | exact HB.out | apply zO | apply zC | apply zP) | exact HB.out)⟩
      ·replace c17:=Bool.eq_false_iff.mpr c17
       subst c17
       have H1:((wX.f l0).bind fun qh=>((yt.f kj7 l0).bind fun xM=>(if (qh.length:Int) = (xM.length:Int) then (zZ.l0 kj7 l0 0 (⟨#[]⟩:ByteArray) qh xM 0) else (some false)))) = some r:=by rw [if_neg (show ¬ (false = true) by decide)] at H;exact H
       clear H
       have H:=H1
       clear H1
       replace H:=Option.bind_eq_some_iff.mp H
       obtain ⟨qh,zdw,H⟩:=H
       replace H:((yt.f kj7 l0).bind fun xM=>(if (qh.length:Int) = (xM.length:Int) then (zZ.l0 kj7 l0 0 (⟨#[]⟩:ByteArray) qh xM 0) else (some false))) = some r:=H
       have A18:=zk.mk zdw
       clear zdw
       replace H:=Option.bind_eq_some_iff.mp H
       obtain ⟨xM,zdZ,H⟩:=H
       replace H:(if (qh.length:Int) = (xM.length:Int) then (zZ.l0 kj7 l0 0 (⟨#[]⟩:ByteArray) qh xM 0) else (some false)) = some r:=H
       have A19:=zk.mk zdZ
       clear zdZ
       by_cases c20:(qh.length:Int) = (xM.length:Int)
       ·rw [if_pos c20] at H
        have zWD:((qh.length:Int) == (xM.length:Int)) = true:=beq_iff_eq.mpr c20
        have zWE:((qh.length:Int) != (xM.length:Int)) = false:=bne_eq_false_iff_eq.mpr c20
        have zWF:(qh.length == xM.length) = true:=by first | simpa using c20 | (simp at c20 ⊢;omega)
        clear c20
        have H':=zk.mk H
        clear H
        go_wp2_with (first | ((with_reducible refine yw (f:=30) rfl ?_);refine vR (some 30) Tryz.func30 #[.slice A0 l0.length c0] ?_;(with_reducible refine (wX.calls _ _ l0 qh _ ?yX ?yE A18.out).mono ?_);(case yX=>exact xZ (Kd.za qA.out HB.out));(case yE=>exact YJ.out);rintro e w21 ⟨zYU,rfl,ho0,hb⟩;refine ⟨_,rfl,?_⟩;have zh:=zk.mk (Kd.sJ (Kd.wI (ok':=fun k_=>True) (zcL ho0) (fun k_ hk_=>trivial)) (zI (zM HB.out)));have zG:=zk.mk (zF (zM HB.out) hb);clear HB;have Yo:=zh;have HB:=zG;clear zh zG;(try clear hb);(try clear hk);(try clear ho0)) | ((with_reducible refine yw (f:=31) rfl ?_);refine vR (some 32) Tryz.func31 #[.slice A0 l0.length c0] ?_;(with_reducible refine (yt.calls kj7 (fun k_=>k_ < w.heap.size) _ _ l0 xM _ ?yX A19.out).mono ?_);(case yX=>exact Kd.X5 YJ.out (Kd.JE (Kd.C_F zvG qA.out) (zM HB.out)));rintro e w22 ⟨zhA,rfl,ho0,hb⟩;refine ⟨_,rfl,?_⟩;have zh:=zk.mk (Kd.zvD (VU Yo.out) (Kd.oq ho0) hb);have zG:=zk.mk (Kd.sJ (Kd.wI (ok':=fun k_=>some k_ ≠ (zYU:Value).ownBlock) ho0 (fun k_ hk_=>Or.elim hk_ (fun hs_=>fun e_=>Nat.not_le.2 hs_ (Kd.oq Yo.out k_ e_.symm)) (fun hn_=>(Kd.fresh' (Kd.zXW (VU Yo.out)) k_ hn_)))) (zI (zM HB.out)));have zU:=zk.mk (zF (zM HB.out) hb);clear Yo;clear HB;have Yo:=zh;have zvl:=zG;have HB:=zU;clear zh zG zU;(try clear hb);(try clear hk);(try clear ho0);obtain ⟨zdQ,zdX,zhB⟩:=Kd.V4 Yo.out;subst zhB;obtain ⟨zdJ,zdV,zhC⟩:=Kd.V4 zvl.out;subst zhC))
        go_loopg [3,4,7] kj7 (fun kq v3 v4 v7 w'=>∃ (VR:Int) (xB:ByteArray) (yF:Int),v3 = .int .i64 VR ∧ v4 = .string xB ∧ v7 = .int .i64 yF ∧ zk (zZ.l0 kq l0 VR xB qh xM yF = some r) ∧ zk (kq ≤ kj7) ∧ zk (Kd.N (Kd.slice 53 qK) 34 w' w.heap.size (fun k_=>some k_ ≠ ((.slice zdJ xM.length zdV):Value).ownBlock) (.slice zdQ qh.length zdX) qh) ∧ zk (Kd.N (Kd.slice 53 qK) 34 w' w.heap.size (fun k_=>some k_ ≠ ((.slice zdQ qh.length zdX):Value).ownBlock) (.slice zdJ xM.length zdV) xM) ∧ zk (Below w.heap.size w w'))
        case atStart=>exact ⟨(0),((⟨#[]⟩:ByteArray)),(0),(by first | rfl | (simp;done) | (simp [*];done)),(by first | rfl | (simp;done) | (simp [*];done)),(by first | rfl | (simp;done) | (simp [*];done)),H',⟨Nat.le_refl _⟩,⟨by (with_reducible repeat (first | apply Kd.uI | apply Kd.uL | apply Kd.uJ));exact Kd.wI Yo.out (fun _ hk=>hk.2)⟩,⟨by (with_reducible repeat (first | apply Kd.uI | apply Kd.uL | apply Kd.uJ));exact zvl.out⟩,⟨zM HB.out⟩⟩
        case round =>
         clear H'
         try clear c3
         try clear wR
         try clear mq
         try clear c5
         try clear c11
         try clear Yn
         try clear JB
         try clear c17
         try clear c20
         try clear zWD
         try clear zWE
         try clear zWF
         obtain ⟨VR,xB,yF,rfl,rfl,rfl,HA,fH,xq,vE,HB⟩:=hrel
         cases gk with
         | zero=>exact absurd HA.out (by simp [zZ.l0])
         | succ k3 =>
          have H:=HA.out
          clear HA
          simp only [zZ.l0] at H
          by_cases c25:yF < (qh.length:Int)
          ·rw [if_pos c25] at H
           have zWG:decide (yF < (qh.length:Int)) = true:=decide_eq_true c25
           clear c25
           by_cases bR:0 ≤ yF
           ·rw [if_pos bR] at H
            have zpV:decide (0 ≤ yF) = true:=decide_eq_true bR
            clear bR
            by_cases c27:yF < (xM.length:Int)
            ·rw [if_pos c27] at H
             have zpK:decide (yF < (xM.length:Int)) = true:=decide_eq_true c27
             clear c27
             replace H:=Option.bind_eq_some_iff.mp H
             obtain ⟨zJl,zdK,H⟩:=H
             replace H:(if zJl = true then ((yu.f k3 (qV qh yF)).bind fun YD=>(if yF > 0 then (if xB.size + 1 ≤ 9223372036854775807 then ((qO.f (qV qh yF)).bind fun ZR=>(if (xB ++ (⟨#[32]⟩:ByteArray)).size + ZR.size ≤ 9223372036854775807 then (zZ.l0 k3 l0 (wrap64 (VR + YD)) ((xB ++ (⟨#[32]⟩:ByteArray)) ++ ZR) qh xM (wrap64 (yF + 1))) else (none))) else (none)) else ((qO.f (qV qh yF)).bind fun Yy=>(if xB.size + Yy.size ≤ 9223372036854775807 then (zZ.l0 k3 l0 (wrap64 (VR + YD)) (xB ++ Yy) qh xM (wrap64 (yF + 1))) else (none))))) else (some false)) = some r:=H
             have A28:=zk.mk zdK
             clear zdK
             by_cases c29:zJl = true
             ·subst c29
              have H1:((yu.f k3 (qV qh yF)).bind fun YD=>(if yF > 0 then (if xB.size + 1 ≤ 9223372036854775807 then ((qO.f (qV qh yF)).bind fun ZR=>(if (xB ++ (⟨#[32]⟩:ByteArray)).size + ZR.size ≤ 9223372036854775807 then (zZ.l0 k3 l0 (wrap64 (VR + YD)) ((xB ++ (⟨#[32]⟩:ByteArray)) ++ ZR) qh xM (wrap64 (yF + 1))) else (none))) else (none)) else ((qO.f (qV qh yF)).bind fun Yy=>(if xB.size + Yy.size ≤ 9223372036854775807 then (zZ.l0 k3 l0 (wrap64 (VR + YD)) (xB ++ Yy) qh xM (wrap64 (yF + 1))) else (none))))) = some r:=by rw [if_pos rfl] at H;exact H
              clear H
              have H:=H1
              clear H1
              replace H:=Option.bind_eq_some_iff.mp H
              obtain ⟨YD,zdY,H⟩:=H
              replace H:(if yF > 0 then (if xB.size + 1 ≤ 9223372036854775807 then ((qO.f (qV qh yF)).bind fun ZR=>(if (xB ++ (⟨#[32]⟩:ByteArray)).size + ZR.size ≤ 9223372036854775807 then (zZ.l0 k3 l0 (wrap64 (VR + YD)) ((xB ++ (⟨#[32]⟩:ByteArray)) ++ ZR) qh xM (wrap64 (yF + 1))) else (none))) else (none)) else ((qO.f (qV qh yF)).bind fun Yy=>(if xB.size + Yy.size ≤ 9223372036854775807 then (zZ.l0 k3 l0 (wrap64 (VR + YD)) (xB ++ Yy) qh xM (wrap64 (yF + 1))) else (none)))) = some r:=H
              have nZ:=zk.mk zdY
              clear zdY
              by_cases c31:yF > 0
              ·rw [if_pos c31] at H
               have zWH:decide (0 < yF) = true:=decide_eq_true c31
               clear c31
               by_cases c32:xB.size + 1 ≤ 9223372036854775807
               ·rw [if_pos c32] at H
                have oI:=eq_true c32
                have oL:decide (xB.size + 1 ≤ 9223372036854775807) = true:=decide_eq_true c32
                try have zpY:(9223372036854775807 < xB.size + 1) = False:=eq_false (Nat.not_lt.2 c32)
                replace H:=Option.bind_eq_some_iff.mp H
                obtain ⟨ZR,zdW,H⟩:=H
                replace H:(if (xB ++ (⟨#[32]⟩:ByteArray)).size + ZR.size ≤ 9223372036854775807 then (zZ.l0 k3 l0 (wrap64 (VR + YD)) ((xB ++ (⟨#[32]⟩:ByteArray)) ++ ZR) qh xM (wrap64 (yF + 1))) else (none)) = some r:=H
                have A33:=zk.mk zdW
                clear zdW
                by_cases c34:(xB ++ (⟨#[32]⟩:ByteArray)).size + ZR.size ≤ 9223372036854775807
                ·rw [if_pos c34] at H
                 have zWu:=eq_true c34
                 have zpW:decide ((xB ++ (⟨#[32]⟩:ByteArray)).size + ZR.size ≤ 9223372036854775807) = true:=decide_eq_true c34
                 try have zpa:(9223372036854775807 < (xB ++ (⟨#[32]⟩:ByteArray)).size + ZR.size) = False:=eq_false (Nat.not_lt.2 c34)
                 try have zpb:(9223372036854775807 < xB.size + 1 + ZR.size) = False:=eq_false (by have h_:=c34;simp only [ByteArray.size_append] at h_;exact Nat.not_lt.2 h_)
                 have H':=zk.mk H
                 clear H
                 try go_wp2
                 have zh:=zk.mk (Kd.uJ xq.out)
                 have zG:=zk.mk (Kd.uJ vE.out)
                 have zU:=zk.mk (zP HB.out)
                 clear xq vE HB
                 have xq:=zh
                 have vE:=zG
                 have HB:=zU
                 clear zh zG zU
                 have QX:0 ≤ (yF:Int):=of_decide_eq_true yj
                 have QJ:yF < (qh.length:Int):=of_decide_eq_true yj
                 obtain ⟨JC,JY,JW,zkn,Zj,Vv,Vk⟩:=XC (Kd.vv xq.out).2.2 yF QX QJ
                 cases zkn
                 obtain ⟨zWI,rD,rE,Ja⟩:=Kd.UM xq.out [] yF QX (by first | exact QJ | exact of_decide_eq_true yj | (have e_:=(Kd.vv xq.out).1;omega))
                 obtain ⟨zQ2,zQ3,rfl,ZT,ZU⟩:=Kd.jW rE
                 have wD:=Ja 0 _ rfl
                 rw [Nat.add_zero,show ((Kd.slice 53 qK)).sz = 1 from rfl,Nat.mul_one] at wD
                 replace wD:=Option.some.inj (wD.symm.trans Zj)
                 injection wD with ug wH uh
                 rw [ug] at ZU
                 rw [uh] at ZT
                 have vX:=zk.mk (show Kd.V qK 53 _ w.heap.size _ _ (qV qh yF) from Kd.X5 ZT ZU)
                 clear ug wH uh ZU ZT Ja rD
                 have xu:=zk.mk Vk
                 have dO:=zk.mk Vv
                 clear Vk Vv
                 replace QX:=eq_true QX
                 replace QJ:=eq_true QJ
                 have QV:0 ≤ (yF:Int):=of_decide_eq_true yj
                 have QK:yF < (xM.length:Int):=of_decide_eq_true yj
                 obtain ⟨zze,Jb,Jc,zko,Zv,Vy,Vw⟩:=XC (Kd.vv vE.out).2.2 yF QV QK
                 cases zko
                 obtain ⟨zWL,rF,rG,Jd⟩:=Kd.UM vE.out [] yF QV (by first | exact QK | exact of_decide_eq_true yj | (have e_:=(Kd.vv vE.out).1;omega))
                 obtain ⟨zQ4,zQ5,rfl,Z0,Z4⟩:=Kd.jW rG
                 have wE:=Jd 0 _ rfl
                 rw [Nat.add_zero,show ((Kd.slice 53 qK)).sz = 1 from rfl,Nat.mul_one] at wE
                 replace wE:=Option.some.inj (wE.symm.trans Zv)
                 injection wE with ug wH uh
                 rw [ug] at Z4
                 rw [uh] at Z0
                 have vJ:=zk.mk (show Kd.V qK 53 _ w.heap.size _ _ (qV xM yF) from Kd.X5 Z0 Z4)
                 clear ug wH uh Z4 Z0 Jd rF
                 have xA:=zk.mk Vw
                 have dP:=zk.mk Vy
                 clear Vw Vy
                 replace QV:=eq_true QV
                 replace QK:=eq_true QK
                 refine pG (n:=10) (S:=fun w'=>w'.cell? (JC.add (yF).toNat) = some (.slice JY (qV qh yF).length JW) ∧ w'.cell? (zze.add (yF).toNat) = some (.slice Jb (qV xM yF).length Jc)) (ds:=[]) #[false,false,false,false,false,false,false,false,false,false] (by kernel_rfl) rfl rfl ⟨Zj,Zv⟩ (fun hHeld=>?_);refine Z5 zZ.zJm zZ.zkl (fun yP YC=>?_)
                 generalize wr.drew = w35 at xq vE HB vX vJ xu xA Zj Zv hHeld ⊢
                 refine jP 0 (some 44) yP ?_
                 refine jP 1 (some 45) yP ?_
                 refine jP 2 (some 46) yP ?_
                 refine jP 4 (some 48) yP ?_
                 refine jP 5 (some 49) yP ?_
                 refine jP 6 (some 50) yP ?_
                 refine mG 3 (some 47) yP YC hHeld ?_
                 refine mG 7 (some 51) yP YC hHeld ?_
                 refine oQ 8 (some 52) yP (fun K hK=>?_)
                 refine YL Tryz.func18 (by kernel_rfl) rfl #[.slice JY (qV qh yF).length JW,.slice Jb (qV xM yF).length Jc] (by rfl) rfl rfl (by (try simp only [List.map_toArray,List.map_cons,List.map_nil]);first | done | rfl | (simp only [List.length_drop,List.length_take];rfl)) ?_
                 with_reducible refine (yV.calls k3 _ _ (qV qh yF) _ _ (qV xM yF) true _ ?yX ?yE ?xQ ?vZ A28.out).mono ?_
                 (case yX=>exact xZ (Zz xu.out))
                 (case yE=>exact dO.out)
                 (case xQ=>exact xZ (Zz xA.out))
                 (case vZ=>exact dP.out)
                 rintro e w36 ⟨rfl,hb⟩
                 have mg:=(hb.cell (World.block_lt_of_cell? _ _ (hHeld.1))).trans (hHeld.1)
                 have mh:=(hb.cell (World.block_lt_of_cell? _ _ (hHeld.2))).trans (hHeld.2)
                 refine ⟨_,rfl,?_⟩
                 have zh:=zk.mk (Kd.uK (VU xq.out) hb)
                 have zG:=zk.mk (Kd.uK (VU vE.out) hb)
                 have zU:=zk.mk (Kd.vG (Qf vX.out) hb)
                 have yc:=zk.mk (Kd.vG (Qf vJ.out) hb)
                 have xJ:=zk.mk (Kd.za (Zz xu.out) hb)
                 have jI:=zk.mk (Kd.za (Zz xA.out) hb)
                 have ZK:=zk.mk (zF (zM HB.out) hb)
                 clear xq vE vX vJ xu xA HB
                 have xq:=zh
                 have vE:=zG
                 have vX:=zU
                 have vJ:=yc
                 have xu:=xJ
                 have xA:=jI
                 have HB:=ZK
                 clear zh zG zU yc xJ jI ZK
                 (try clear hb)
                 (try clear hk)
                 refine hK.out _ _ ⟨mg,mh⟩ (fun hHeld=>?_)
                 clear hK K
                 refine oZ (some 52) ?_
                 refine jP 9 (some 53) yP ?_
                 refine um (xK yP.out (by kernel_rfl)) ?_
                 try clear hHeld
                 try clear mg
                 try clear mh
                 have Px:0 ≤ (yF:Int):=of_decide_eq_true yj
                 have Pj:yF < (qh.length:Int):=of_decide_eq_true yj
                 obtain ⟨zJo,zkp,zkr,zY0,ah,dR,dS⟩:=XC (Kd.vv xq.out).2.2 yF Px Pj
                 obtain rfl:JC = zJo:=(by injection zY0)
                 obtain ⟨zfA,zks,zkt,rH⟩:=Kd.UM xq.out [] yF Px (by first | exact Pj | exact of_decide_eq_true yj | (have e_:=(Kd.vv xq.out).1;omega))
                 obtain ⟨zbp,zbr,rfl,Uo,Ur⟩:=Kd.jW zkt
                 have Xp:=rH 0 _ rfl
                 rw [Nat.add_zero,show ((Kd.slice 53 qK)).sz = 1 from rfl,Nat.mul_one] at Xp
                 replace Xp:=Option.some.inj (Xp.symm.trans ah)
                 injection Xp with ug wH uh
                 rw [ug] at Ur
                 rw [uh] at Uo
                 have pE:=zk.mk (show Kd.V qK 53 _ w.heap.size _ _ (qV qh yF) from Kd.X5 Uo Ur)
                 clear ug wH uh Ur Uo rH zks
                 have wz:=zk.mk dS
                 have zji:=zk.mk dR
                 clear dS dR
                 replace Px:=eq_true Px
                 replace Pj:=eq_true Pj
                 try go_wp2_with (first | ((with_reducible refine yw (f:=23) rfl ?_);refine vR (some 59) Tryz.func23 #[.slice zkp (qV qh yF).length zkr] ?_;(with_reducible refine (yu.calls k3 _ _ (qV qh yF) YD _ ?yX ?yE nZ.out).mono ?_);(case yX=>exact xZ (Zz wz.out));(case yE=>exact zji.out);rintro e w37 ⟨rfl,hb⟩;refine ⟨_,rfl,?_⟩;have zh:=zk.mk (Kd.uK (VU xq.out) hb);have zG:=zk.mk (Kd.uK (VU vE.out) hb);have zU:=zk.mk (Kd.vG (Qf vX.out) hb);have yc:=zk.mk (Kd.vG (Qf vJ.out) hb);have xJ:=zk.mk (Kd.vG (Qf pE.out) hb);have jI:=zk.mk (Kd.za (Zz xu.out) hb);have ZK:=zk.mk (Kd.za (Zz xA.out) hb);have rM:=zk.mk (Kd.za (Zz wz.out) hb);have rO:=zk.mk (zF (zM HB.out) hb);clear xq;clear vE;clear vX;clear vJ;clear pE;clear xu;clear xA;clear wz;clear HB;have xq:=zh;have vE:=zG;have vX:=zU;have vJ:=yc;have pE:=xJ;have xu:=jI;have xA:=ZK;have wz:=rM;have HB:=rO;clear zh zG zU yc xJ jI ZK rM rO;(try clear hb);(try clear hk);have zku:0 ≤ (yF:Int):=of_decide_eq_true yj;have zkA:yF < (qh.length:Int):=of_decide_eq_true yj;obtain ⟨zfB,zda,zdb,zhD,zQ6,zQ7,zQ8⟩:=XC (Kd.vv xq.out).2.2 yF zku zkA;obtain rfl:JC = zfB:=(by injection zhD);obtain ⟨zpc,zdc,zdd,zV0⟩:=Kd.UM xq.out [] yF zku (by first | exact zkA | exact of_decide_eq_true yj | (have e_:=(Kd.vv xq.out).1;omega));obtain ⟨znO,znP,rfl,zjl,zjm⟩:=Kd.jW zdd;have au:=zV0 0 _ rfl;rw [Nat.add_zero,show ((Kd.slice 53 qK)).sz = 1 from rfl,Nat.mul_one] at au;replace au:=Option.some.inj (au.symm.trans zQ6);injection au with ug wH uh;rw [ug] at zjm;rw [uh] at zjl;have zjn:=zk.mk (show Kd.V qK 53 _ w.heap.size _ _ (qV qh yF) from Kd.X5 zjl zjm);clear ug wH uh zjm zjl;clear zV0 zdc;have aA:=zk.mk zQ8;have zbs:=zk.mk zQ7;clear zQ8 zQ7;replace zku:=eq_true zku;replace zkA:=eq_true zkA) | ((with_reducible refine yw (f:=28) rfl ?_);refine vR (some 70) Tryz.func28 #[.slice zda (qV qh yF).length zdb] ?_;(with_reducible refine (qO.calls _ _ (qV qh yF) ZR _ ?yX ?yE A33.out).mono ?_);(case yX=>exact xZ (Zz aA.out));(case yE=>exact zbs.out);rintro e w38 ⟨rfl,hb⟩;refine ⟨_,rfl,?_⟩;have zh:=zk.mk (Kd.uK (VU xq.out) hb);have zG:=zk.mk (Kd.uK (VU vE.out) hb);have zU:=zk.mk (Kd.vG (Qf vX.out) hb);have yc:=zk.mk (Kd.vG (Qf vJ.out) hb);have xJ:=zk.mk (Kd.vG (Qf pE.out) hb);have jI:=zk.mk (Kd.vG (Qf zjn.out) hb);have ZK:=zk.mk (Kd.za (Zz xu.out) hb);have rM:=zk.mk (Kd.za (Zz xA.out) hb);have rO:=zk.mk (Kd.za (Zz wz.out) hb);have n9_:=zk.mk (Kd.za (Zz aA.out) hb);have zkB:=zk.mk (zF (zM HB.out) hb);clear xq;clear vE;clear vX;clear vJ;clear pE;clear zjn;clear xu;clear xA;clear wz;clear aA;clear HB;have xq:=zh;have vE:=zG;have vX:=zU;have vJ:=yc;have pE:=xJ;have zjn:=jI;have xu:=ZK;have xA:=rM;have wz:=rO;have aA:=n9_;have HB:=zkB;clear zh zG zU yc xJ jI ZK rM rO n9_ zkB;(try clear hb);(try clear hk);(try clear hi)))
                 go_roundg k3
                 case measure=>have:=wL.out;have:=HJ7.out;have:=fH.out;omega
                 case rel=>exact ⟨(wrap64 (VR + YD)),((xB ++ (⟨#[32]⟩:ByteArray)) ++ ZR),(wrap64 (yF + 1)),(by first | rfl | (simp;done) | (simp [*];done)),(by first | rfl | (simp;done) | (simp [*];done)),(by first | rfl | (simp;done) | (simp [*];done)),H',⟨by have:=wL.out;have:=HJ7.out;have:=fH.out;omega⟩,⟨by (with_reducible repeat (first | apply Kd.uI | apply Kd.uL | apply Kd.uJ));exact xq.out⟩,⟨by (with_reducible repeat (first | apply Kd.uI | apply Kd.uL | apply Kd.uJ));exact vE.out⟩,⟨zM HB.out⟩⟩
                ·rw [if_neg c34] at H
                 exact absurd H (by simp)
               ·rw [if_neg c32] at H
                exact absurd H (by simp)
              ·rw [if_neg c31] at H
               have zWH:decide (0 < yF) = false:=decide_eq_false c31
               clear c31
               replace H:=Option.bind_eq_some_iff.mp H
               obtain ⟨Yy,zde,H⟩:=H
               replace H:(if xB.size + Yy.size ≤ 9223372036854775807 then (zZ.l0 k3 l0 (wrap64 (VR + YD)) (xB ++ Yy) qh xM (wrap64 (yF + 1))) else (none)) = some r:=H
               have A39:=zk.mk zde
               clear zde
               by_cases c40:xB.size + Yy.size ≤ 9223372036854775807
               ·rw [if_pos c40] at H
                have zfC:=eq_true c40
                have zfD:decide (xB.size + Yy.size ≤ 9223372036854775807) = true:=decide_eq_true c40
                try have zfE:(9223372036854775807 < xB.size + Yy.size) = False:=eq_false (Nat.not_lt.2 c40)
                have H':=zk.mk H
                clear H
                try go_wp2
                have zh:=zk.mk (Kd.uJ xq.out)
                have zG:=zk.mk (Kd.uJ vE.out)
                have zU:=zk.mk (zP HB.out)
                clear xq vE HB
                have xq:=zh
                have vE:=zG
                have HB:=zU
                clear zh zG zU
                have QX:0 ≤ (yF:Int):=of_decide_eq_true yj
                have QJ:yF < (qh.length:Int):=of_decide_eq_true yj
                obtain ⟨JC,JY,JW,zkn,Zj,Vv,Vk⟩:=XC (Kd.vv xq.out).2.2 yF QX QJ
                cases zkn
                obtain ⟨zWI,rD,rE,Ja⟩:=Kd.UM xq.out [] yF QX (by first | exact QJ | exact of_decide_eq_true yj | (have e_:=(Kd.vv xq.out).1;omega))
                obtain ⟨zQ2,zQ3,rfl,ZT,ZU⟩:=Kd.jW rE
                have wD:=Ja 0 _ rfl
                rw [Nat.add_zero,show ((Kd.slice 53 qK)).sz = 1 from rfl,Nat.mul_one] at wD
                replace wD:=Option.some.inj (wD.symm.trans Zj)
                injection wD with ug wH uh
                rw [ug] at ZU
                rw [uh] at ZT
                have vX:=zk.mk (show Kd.V qK 53 _ w.heap.size _ _ (qV qh yF) from Kd.X5 ZT ZU)
                clear ug wH uh ZU ZT Ja rD
                have xu:=zk.mk Vk
                have dO:=zk.mk Vv
                clear Vk Vv
                replace QX:=eq_true QX
                replace QJ:=eq_true QJ
                have QV:0 ≤ (yF:Int):=of_decide_eq_true yj
                have QK:yF < (xM.length:Int):=of_decide_eq_true yj
                obtain ⟨zze,Jb,Jc,zko,Zv,Vy,Vw⟩:=XC (Kd.vv vE.out).2.2 yF QV QK
                cases zko
                obtain ⟨zWL,rF,rG,Jd⟩:=Kd.UM vE.out [] yF QV (by first | exact QK | exact of_decide_eq_true yj | (have e_:=(Kd.vv vE.out).1;omega))
                obtain ⟨zQ4,zQ5,rfl,Z0,Z4⟩:=Kd.jW rG
                have wE:=Jd 0 _ rfl
                rw [Nat.add_zero,show ((Kd.slice 53 qK)).sz = 1 from rfl,Nat.mul_one] at wE
                replace wE:=Option.some.inj (wE.symm.trans Zv)
                injection wE with ug wH uh
                rw [ug] at Z4
                rw [uh] at Z0
                have vJ:=zk.mk (show Kd.V qK 53 _ w.heap.size _ _ (qV xM yF) from Kd.X5 Z0 Z4)
                clear ug wH uh Z4 Z0 Jd rF
                have xA:=zk.mk Vw
                have dP:=zk.mk Vy
                clear Vw Vy
                replace QV:=eq_true QV
                replace QK:=eq_true QK
                refine pG (n:=10) (S:=fun w'=>w'.cell? (JC.add (yF).toNat) = some (.slice JY (qV qh yF).length JW) ∧ w'.cell? (zze.add (yF).toNat) = some (.slice Jb (qV xM yF).length Jc)) (ds:=[]) #[false,false,false,false,false,false,false,false,false,false] (by kernel_rfl) rfl rfl ⟨Zj,Zv⟩ (fun hHeld=>?_);refine Z5 zZ.zJm zZ.zkl (fun yP YC=>?_)
                generalize wr.drew = w41 at xq vE HB vX vJ xu xA Zj Zv hHeld ⊢
                refine jP 0 (some 44) yP ?_
                refine jP 1 (some 45) yP ?_
                refine jP 2 (some 46) yP ?_
                refine jP 4 (some 48) yP ?_
                refine jP 5 (some 49) yP ?_
                refine jP 6 (some 50) yP ?_
                refine mG 3 (some 47) yP YC hHeld ?_
                refine mG 7 (some 51) yP YC hHeld ?_
                refine oQ 8 (some 52) yP (fun K hK=>?_)
                refine YL Tryz.func18 (by kernel_rfl) rfl #[.slice JY (qV qh yF).length JW,.slice Jb (qV xM yF).length Jc] (by rfl) rfl rfl (by (try simp only [List.map_toArray,List.map_cons,List.map_nil]);first | done | rfl | (simp only [List.length_drop,List.length_take];rfl)) ?_
                with_reducible refine (yV.calls k3 _ _ (qV qh yF) _ _ (qV xM yF) true _ ?yX ?yE ?xQ ?vZ A28.out).mono ?_
                (case yX=>exact xZ (Zz xu.out))
                (case yE=>exact dO.out)
                (case xQ=>exact xZ (Zz xA.out))
                (case vZ=>exact dP.out)
                rintro e w42 ⟨rfl,hb⟩
                have mg:=(hb.cell (World.block_lt_of_cell? _ _ (hHeld.1))).trans (hHeld.1)
                have mh:=(hb.cell (World.block_lt_of_cell? _ _ (hHeld.2))).trans (hHeld.2)
                refine ⟨_,rfl,?_⟩
                have zh:=zk.mk (Kd.uK (VU xq.out) hb)
                have zG:=zk.mk (Kd.uK (VU vE.out) hb)
                have zU:=zk.mk (Kd.vG (Qf vX.out) hb)
                have yc:=zk.mk (Kd.vG (Qf vJ.out) hb)
                have xJ:=zk.mk (Kd.za (Zz xu.out) hb)
                have jI:=zk.mk (Kd.za (Zz xA.out) hb)
                have ZK:=zk.mk (zF (zM HB.out) hb)
                clear xq vE vX vJ xu xA HB
                have xq:=zh
                have vE:=zG
                have vX:=zU
                have vJ:=yc
                have xu:=xJ
                have xA:=jI
                have HB:=ZK
                clear zh zG zU yc xJ jI ZK
                (try clear hb)
                (try clear hk)
                refine hK.out _ _ ⟨mg,mh⟩ (fun hHeld=>?_)
                clear hK K
                refine oZ (some 52) ?_
                refine jP 9 (some 53) yP ?_
                refine um (xK yP.out (by kernel_rfl)) ?_
                try clear hHeld
                try clear mg
                try clear mh
                have Px:0 ≤ (yF:Int):=of_decide_eq_true yj
                have Pj:yF < (qh.length:Int):=of_decide_eq_true yj
                obtain ⟨zJo,zkp,zkr,zY0,ah,dR,dS⟩:=XC (Kd.vv xq.out).2.2 yF Px Pj
                obtain rfl:JC = zJo:=(by injection zY0)
                obtain ⟨zfA,zks,zkt,rH⟩:=Kd.UM xq.out [] yF Px (by first | exact Pj | exact of_decide_eq_true yj | (have e_:=(Kd.vv xq.out).1;omega))
                obtain ⟨zbp,zbr,rfl,Uo,Ur⟩:=Kd.jW zkt
                have Xp:=rH 0 _ rfl
                rw [Nat.add_zero,show ((Kd.slice 53 qK)).sz = 1 from rfl,Nat.mul_one] at Xp
                replace Xp:=Option.some.inj (Xp.symm.trans ah)
                injection Xp with ug wH uh
                rw [ug] at Ur
                rw [uh] at Uo
                have pE:=zk.mk (show Kd.V qK 53 _ w.heap.size _ _ (qV qh yF) from Kd.X5 Uo Ur)
                clear ug wH uh Ur Uo rH zks
                have wz:=zk.mk dS
                have zji:=zk.mk dR
                clear dS dR
                replace Px:=eq_true Px
                replace Pj:=eq_true Pj
                try go_wp2_with (first | ((with_reducible refine yw (f:=23) rfl ?_);refine vR (some 59) Tryz.func23 #[.slice zkp (qV qh yF).length zkr] ?_;(with_reducible refine (yu.calls k3 _ _ (qV qh yF) YD _ ?yX ?yE nZ.out).mono ?_);(case yX=>exact xZ (Zz wz.out));(case yE=>exact zji.out);rintro e w43 ⟨rfl,hb⟩;refine ⟨_,rfl,?_⟩;have zh:=zk.mk (Kd.uK (VU xq.out) hb);have zG:=zk.mk (Kd.uK (VU vE.out) hb);have zU:=zk.mk (Kd.vG (Qf vX.out) hb);have yc:=zk.mk (Kd.vG (Qf vJ.out) hb);have xJ:=zk.mk (Kd.vG (Qf pE.out) hb);have jI:=zk.mk (Kd.za (Zz xu.out) hb);have ZK:=zk.mk (Kd.za (Zz xA.out) hb);have rM:=zk.mk (Kd.za (Zz wz.out) hb);have rO:=zk.mk (zF (zM HB.out) hb);clear xq;clear vE;clear vX;clear vJ;clear pE;clear xu;clear xA;clear wz;clear HB;have xq:=zh;have vE:=zG;have vX:=zU;have vJ:=yc;have pE:=xJ;have xu:=jI;have xA:=ZK;have wz:=rM;have HB:=rO;clear zh zG zU yc xJ jI ZK rM rO;(try clear hb);(try clear hk);have zkC:0 ≤ (yF:Int):=of_decide_eq_true yj;have zkD:yF < (qh.length:Int):=of_decide_eq_true yj;obtain ⟨zfF,zdf,zdg,zhE,zQ9,zXz,zXq⟩:=XC (Kd.vv xq.out).2.2 yF zkC zkD;obtain rfl:JC = zfF:=(by injection zhE);obtain ⟨zpd,zdh,zdi,zV1⟩:=Kd.UM xq.out [] yF zkC (by first | exact zkD | exact of_decide_eq_true yj | (have e_:=(Kd.vv xq.out).1;omega));obtain ⟨znR,znS,rfl,zjo,zjr⟩:=Kd.jW zdi;have aC:=zV1 0 _ rfl;rw [Nat.add_zero,show ((Kd.slice 53 qK)).sz = 1 from rfl,Nat.mul_one] at aC;replace aC:=Option.some.inj (aC.symm.trans zQ9);injection aC with ug wH uh;rw [ug] at zjr;rw [uh] at zjo;have zjs:=zk.mk (show Kd.V qK 53 _ w.heap.size _ _ (qV qh yF) from Kd.X5 zjo zjr);clear ug wH uh zjr zjo;clear zV1 zdh;have aD:=zk.mk zXq;have zbt:=zk.mk zXz;clear zXq zXz;replace zkC:=eq_true zkC;replace zkD:=eq_true zkD) | ((with_reducible refine yw (f:=28) rfl ?_);refine vR (some 70) Tryz.func28 #[.slice zdf (qV qh yF).length zdg] ?_;(with_reducible refine (qO.calls _ _ (qV qh yF) Yy _ ?yX ?yE A39.out).mono ?_);(case yX=>exact xZ (Zz aD.out));(case yE=>exact zbt.out);rintro e w44 ⟨rfl,hb⟩;refine ⟨_,rfl,?_⟩;have zh:=zk.mk (Kd.uK (VU xq.out) hb);have zG:=zk.mk (Kd.uK (VU vE.out) hb);have zU:=zk.mk (Kd.vG (Qf vX.out) hb);have yc:=zk.mk (Kd.vG (Qf vJ.out) hb);have xJ:=zk.mk (Kd.vG (Qf pE.out) hb);have jI:=zk.mk (Kd.vG (Qf zjs.out) hb);have ZK:=zk.mk (Kd.za (Zz xu.out) hb);have rM:=zk.mk (Kd.za (Zz xA.out) hb);have rO:=zk.mk (Kd.za (Zz wz.out) hb);have n9_:=zk.mk (Kd.za (Zz aD.out) hb);have zkB:=zk.mk (zF (zM HB.out) hb);clear xq;clear vE;clear vX;clear vJ;clear pE;clear zjs;clear xu;clear xA;clear wz;clear aD;clear HB;have xq:=zh;have vE:=zG;have vX:=zU;have vJ:=yc;have pE:=xJ;have zjs:=jI;have xu:=ZK;have xA:=rM;have wz:=rO;have aD:=n9_;have HB:=zkB;clear zh zG zU yc xJ jI ZK rM rO n9_ zkB;(try clear hb);(try clear hk);(try clear hi)))
                go_roundg k3
                case measure=>have:=wL.out;have:=HJ7.out;have:=fH.out;omega
                case rel=>exact ⟨(wrap64 (VR + YD)),(xB ++ Yy),(wrap64 (yF + 1)),(by first | rfl | (simp;done) | (simp [*];done)),(by first | rfl | (simp;done) | (simp [*];done)),(by first | rfl | (simp;done) | (simp [*];done)),H',⟨by have:=wL.out;have:=HJ7.out;have:=fH.out;omega⟩,⟨by (with_reducible repeat (first | apply Kd.uI | apply Kd.uL | apply Kd.uJ));exact xq.out⟩,⟨by (with_reducible repeat (first | apply Kd.uI | apply Kd.uL | apply Kd.uJ));exact vE.out⟩,⟨zM HB.out⟩⟩
               ·rw [if_neg c40] at H
                exact absurd H (by simp)
             ·replace c29:=Bool.eq_false_iff.mpr c29
              subst c29
              have H1:(some false) = some r:=by rw [if_neg (show ¬ (false = true) by decide)] at H;exact H
              clear H
              have H:=H1
              clear H1
              obtain rfl:=Option.some.inj H
              try go_wp2
              have zh:=zk.mk (Kd.uJ xq.out)
              have zG:=zk.mk (Kd.uJ vE.out)
              have zU:=zk.mk (zP HB.out)
              clear xq vE HB
              have xq:=zh
              have vE:=zG
              have HB:=zU
              clear zh zG zU
              have QX:0 ≤ (yF:Int):=of_decide_eq_true yj
              have QJ:yF < (qh.length:Int):=of_decide_eq_true yj
              obtain ⟨JC,JY,JW,zkn,Zj,Vv,Vk⟩:=XC (Kd.vv xq.out).2.2 yF QX QJ
              cases zkn
              obtain ⟨zWI,rD,rE,Ja⟩:=Kd.UM xq.out [] yF QX (by first | exact QJ | exact of_decide_eq_true yj | (have e_:=(Kd.vv xq.out).1;omega))
              obtain ⟨zQ2,zQ3,rfl,ZT,ZU⟩:=Kd.jW rE
              have wD:=Ja 0 _ rfl
              rw [Nat.add_zero,show ((Kd.slice 53 qK)).sz = 1 from rfl,Nat.mul_one] at wD
              replace wD:=Option.some.inj (wD.symm.trans Zj)
              injection wD with ug wH uh
              rw [ug] at ZU
              rw [uh] at ZT
              have vX:=zk.mk (show Kd.V qK 53 _ w.heap.size _ _ (qV qh yF) from Kd.X5 ZT ZU)
              clear ug wH uh ZU ZT Ja rD
              have xu:=zk.mk Vk
              have dO:=zk.mk Vv
              clear Vk Vv
              replace QX:=eq_true QX
              replace QJ:=eq_true QJ
              have QV:0 ≤ (yF:Int):=of_decide_eq_true yj
              have QK:yF < (xM.length:Int):=of_decide_eq_true yj
              obtain ⟨zze,Jb,Jc,zko,Zv,Vy,Vw⟩:=XC (Kd.vv vE.out).2.2 yF QV QK
              cases zko
              obtain ⟨zWL,rF,rG,Jd⟩:=Kd.UM vE.out [] yF QV (by first | exact QK | exact of_decide_eq_true yj | (have e_:=(Kd.vv vE.out).1;omega))
              obtain ⟨zQ4,zQ5,rfl,Z0,Z4⟩:=Kd.jW rG
              have wE:=Jd 0 _ rfl
              rw [Nat.add_zero,show ((Kd.slice 53 qK)).sz = 1 from rfl,Nat.mul_one] at wE
              replace wE:=Option.some.inj (wE.symm.trans Zv)
              injection wE with ug wH uh
              rw [ug] at Z4
              rw [uh] at Z0
              have vJ:=zk.mk (show Kd.V qK 53 _ w.heap.size _ _ (qV xM yF) from Kd.X5 Z0 Z4)
              clear ug wH uh Z4 Z0 Jd rF
              have xA:=zk.mk Vw
              have dP:=zk.mk Vy
              clear Vw Vy
              replace QV:=eq_true QV
              replace QK:=eq_true QK
              refine pG (n:=10) (S:=fun w'=>w'.cell? (JC.add (yF).toNat) = some (.slice JY (qV qh yF).length JW) ∧ w'.cell? (zze.add (yF).toNat) = some (.slice Jb (qV xM yF).length Jc)) (ds:=[]) #[false,false,false,false,false,false,false,false,false,false] (by kernel_rfl) rfl rfl ⟨Zj,Zv⟩ (fun hHeld=>?_);refine Z5 zZ.zJm zZ.zkl (fun yP YC=>?_)
              generalize wr.drew = w45 at xq vE HB vX vJ xu xA Zj Zv hHeld ⊢
              refine jP 0 (some 44) yP ?_
              refine jP 1 (some 45) yP ?_
              refine jP 2 (some 46) yP ?_
              refine jP 4 (some 48) yP ?_
              refine jP 5 (some 49) yP ?_
              refine jP 6 (some 50) yP ?_
              refine mG 3 (some 47) yP YC hHeld ?_
              refine mG 7 (some 51) yP YC hHeld ?_
              refine oQ 8 (some 52) yP (fun K hK=>?_)
              refine YL Tryz.func18 (by kernel_rfl) rfl #[.slice JY (qV qh yF).length JW,.slice Jb (qV xM yF).length Jc] (by rfl) rfl rfl (by (try simp only [List.map_toArray,List.map_cons,List.map_nil]);first | done | rfl | (simp only [List.length_drop,List.length_take];rfl)) ?_
              with_reducible refine (yV.calls k3 _ _ (qV qh yF) _ _ (qV xM yF) false _ ?yX ?yE ?xQ ?vZ A28.out).mono ?_
              (case yX=>exact xZ (Zz xu.out))
              (case yE=>exact dO.out)
              (case xQ=>exact xZ (Zz xA.out))
              (case vZ=>exact dP.out)
              rintro e w46 ⟨rfl,hb⟩
              have mg:=(hb.cell (World.block_lt_of_cell? _ _ (hHeld.1))).trans (hHeld.1)
              have mh:=(hb.cell (World.block_lt_of_cell? _ _ (hHeld.2))).trans (hHeld.2)
              refine ⟨_,rfl,?_⟩
              have zh:=zk.mk (Kd.uK (VU xq.out) hb)
              have zG:=zk.mk (Kd.uK (VU vE.out) hb)
              have zU:=zk.mk (Kd.vG (Qf vX.out) hb)
              have yc:=zk.mk (Kd.vG (Qf vJ.out) hb)
              have xJ:=zk.mk (Kd.za (Zz xu.out) hb)
              have jI:=zk.mk (Kd.za (Zz xA.out) hb)
              have ZK:=zk.mk (zF (zM HB.out) hb)
              clear xq vE vX vJ xu xA HB
              have xq:=zh
              have vE:=zG
              have vX:=zU
              have vJ:=yc
              have xu:=xJ
              have xA:=jI
              have HB:=ZK
              clear zh zG zU yc xJ jI ZK
              (try clear hb)
              (try clear hk)
              refine hK.out _ _ ⟨mg,mh⟩ (fun hHeld=>?_)
              clear hK K
              refine oZ (some 52) ?_
              refine jP 9 (some 53) yP ?_
              refine um (xK yP.out (by kernel_rfl)) ?_
              try go_wp2
              go_ret
              exact ⟨by first | rfl | (simp [zl,zm] <;> rfl) | (simp [*,zl,zm] <;> rfl),by repeat (first | (with_reducible first | exact HB.out | apply zO | apply zC | apply zP) | exact HB.out)⟩
            ·rw [if_neg c27] at H
             exact absurd H (by simp)
           ·rw [if_neg bR] at H
            exact absurd H (by simp)
          ·rw [if_neg c25] at H
           have zWG:decide (yF < (qh.length:Int)) = false:=decide_eq_false c25
           clear c25
           have H':=zk.mk H
           clear H
           go_wp2
           go_loopg [3,8] k3 (fun kq v3 v8 w'=>∃ (Yw:Int) (zY:Int),v3 = .int .i64 Yw ∧ v8 = .int .i64 zY ∧ zk (zZ.l1 kq l0 Yw xB zY = some r) ∧ zk (kq ≤ k3) ∧ zk (Below w.heap.size w w'))
           case atStart=>exact ⟨(VR),(0),(by first | rfl | (simp;done) | (simp [*];done)),(by first | rfl | (simp;done) | (simp [*];done)),H',⟨Nat.le_refl _⟩,⟨zM HB.out⟩⟩
           case round =>
            clear H'
            try clear c3
            try clear c25
            try clear zWG
            try clear bR
            try clear c27
            try clear c29
            try clear c31
            try clear zWH
            try clear c32
            try clear c34
            try clear c40
            try clear zfC
            try clear zfD
            try clear zfE
            try clear Zj
            try clear Zv
            try clear ah
            try clear zQ6
            try clear zQ9
            try clear QX
            try clear QV
            try clear Px
            try clear zku
            try clear zkC
            try clear QJ
            try clear QK
            try clear Pj
            try clear zkA
            try clear zkD
            obtain ⟨Yw,zY,rfl,rfl,HA,HK4,HB⟩:=hrel
            cases gk with
            | zero=>exact absurd HA.out (by simp [zZ.l1])
            | succ k4 =>
             have H:=HA.out
             clear HA
             simp only [zZ.l1] at H
             by_cases c47:zY < (l0.length:Int)
             ·rw [if_pos c47] at H
              have zfG:decide (zY < (l0.length:Int)) = true:=decide_eq_true c47
              clear c47
              by_cases WA:0 ≤ zY
              ·rw [if_pos WA] at H
               have zvc:decide (0 ≤ zY) = true:=decide_eq_true WA
               clear WA
               replace H:=Option.bind_eq_some_iff.mp H
               obtain ⟨QZ,zdl,H⟩:=H
               replace H:((zX.f k4 ((zw l0 zY).f0) ((zw l0 zY).f1) ((zw l0 zY).f2) ((zw l0 zY).f3) ((zw l0 zY).f4) ((zw l0 zY).f5) ((zw l0 zY).f6)).bind fun XA=>(if (QZ != XA) = true then (some false) else ((qE.f ((zw l0 zY).f0) ((zw l0 zY).f1) ((zw l0 zY).f2) ((zw l0 zY).f3) ((zw l0 zY).f4) ((zw l0 zY).f5) ((zw l0 zY).f6)).bind fun ru=>(if ru = true then (zZ.l1 k4 l0 (wrap64 (Yw + ((zw l0 zY).f1))) xB (wrap64 (zY + 1))) else (zZ.l1 k4 l0 Yw xB (wrap64 (zY + 1))))))) = some r:=H
               have A49:=zk.mk zdl
               clear zdl
               replace H:=Option.bind_eq_some_iff.mp H
               obtain ⟨XA,zdm,H⟩:=H
               replace H:(if (QZ != XA) = true then (some false) else ((qE.f ((zw l0 zY).f0) ((zw l0 zY).f1) ((zw l0 zY).f2) ((zw l0 zY).f3) ((zw l0 zY).f4) ((zw l0 zY).f5) ((zw l0 zY).f6)).bind fun ru=>(if ru = true then (zZ.l1 k4 l0 (wrap64 (Yw + ((zw l0 zY).f1))) xB (wrap64 (zY + 1))) else (zZ.l1 k4 l0 Yw xB (wrap64 (zY + 1)))))) = some r:=H
               have ou:=zk.mk zdm
               clear zdm
               by_cases c51:(QZ != XA) = true
               ·rw [if_pos c51] at H
                have zfH:(QZ != XA) = true:=c51
                (try (have zfI:decide (QZ = XA) = false:=by simpa using c51))
                (try (have zfL:(QZ == XA) = false:=by simpa using c51))
                (try (have zpe:¬ (QZ = XA):=by simpa using c51))
                clear c51
                obtain rfl:=Option.some.inj H
                try go_wp2
                have zh:=zk.mk (zP HB.out)
                clear HB
                have HB:=zh
                clear zh
                have Wv:0 ≤ (zY:Int):=of_decide_eq_true yj
                have Wy:zY < (l0.length:Int):=of_decide_eq_true yj
                obtain ⟨yL,ZY,ZW,zkE,kZ,kQ,kX,kJ,kV,kK,uM,VZ,VQ⟩:=yR qA.out zY Wv Wy
                have uN:=uM
                have uO:=kK
                have uP:=kV
                have uR:=kJ
                have uS:=kX
                have uT:=kQ
                have uU:=kZ
                cases zkE
                replace kZ:=(HB.out.cell (World.block_lt_of_cell? w _ kZ)).trans kZ
                replace kQ:=(HB.out.cell (World.block_lt_of_cell? w _ kQ)).trans kQ
                replace kX:=(HB.out.cell (World.block_lt_of_cell? w _ kX)).trans kX
                replace kJ:=(HB.out.cell (World.block_lt_of_cell? w _ kJ)).trans kJ
                replace kV:=(HB.out.cell (World.block_lt_of_cell? w _ kV)).trans kV
                replace kK:=(HB.out.cell (World.block_lt_of_cell? w _ kK)).trans kK
                replace uM:=(HB.out.cell (World.block_lt_of_cell? w _ uM)).trans uM
                have VX:=zk.mk VQ
                have dU:=zk.mk VZ
                clear VQ VZ
                replace Wv:=eq_true Wv
                replace Wy:=eq_true Wy
                have Ww:0 ≤ (zY:Int):=of_decide_eq_true yj
                have WZ:zY < (l0.length:Int):=of_decide_eq_true yj
                obtain ⟨zzf,zV2,zV3,zkF,kY,kW,kg,ko,kr,ku,jq,VJ,VK⟩:=yR qA.out zY Ww WZ
                have jk:=jq
                have jy:=ku
                have jw:=kr
                have jZ:=ko
                have jQ:=kg
                have jX:=kW
                have jJ:=kY
                obtain rfl:yL = zzf:=(by injection zkF)
                replace kY:=(HB.out.cell (World.block_lt_of_cell? w _ kY)).trans kY
                replace kW:=(HB.out.cell (World.block_lt_of_cell? w _ kW)).trans kW
                replace kg:=(HB.out.cell (World.block_lt_of_cell? w _ kg)).trans kg
                replace ko:=(HB.out.cell (World.block_lt_of_cell? w _ ko)).trans ko
                replace kr:=(HB.out.cell (World.block_lt_of_cell? w _ kr)).trans kr
                replace ku:=(HB.out.cell (World.block_lt_of_cell? w _ ku)).trans ku
                replace jq:=(HB.out.cell (World.block_lt_of_cell? w _ jq)).trans jq
                have VY:=zk.mk VK
                have d9:=zk.mk VJ
                clear VK VJ
                replace Ww:=eq_true Ww
                replace WZ:=eq_true WZ
                have qQ:=Option.some.inj (uM.symm.trans jq)
                injection qQ with qQ vM vN
                subst qQ
                subst vN
                clear vM
                refine pG (n:=11) (S:=fun w'=>w'.cell? (yL.add ((zY).toNat * 7)) = some (.int .i64 ((zw l0 zY).f0)) ∧ w'.cell? ⟨(yL.add ((zY).toNat * 7)).block,(yL.add ((zY).toNat * 7)).off + 1,none⟩ = some (.int .i64 ((zw l0 zY).f1)) ∧ w'.cell? ⟨(yL.add ((zY).toNat * 7)).block,(yL.add ((zY).toNat * 7)).off + 2,none⟩ = some (.int .i64 ((zw l0 zY).f2)) ∧ w'.cell? ⟨(yL.add ((zY).toNat * 7)).block,(yL.add ((zY).toNat * 7)).off + 3,none⟩ = some (.int .i64 ((zw l0 zY).f3)) ∧ w'.cell? ⟨(yL.add ((zY).toNat * 7)).block,(yL.add ((zY).toNat * 7)).off + 4,none⟩ = some (.string ((zw l0 zY).f4)) ∧ w'.cell? ⟨(yL.add ((zY).toNat * 7)).block,(yL.add ((zY).toNat * 7)).off + 5,none⟩ = some (.string ((zw l0 zY).f5)) ∧ w'.cell? ⟨(yL.add ((zY).toNat * 7)).block,(yL.add ((zY).toNat * 7)).off + 6,none⟩ = some (.slice ZY ((zw l0 zY).f6).length ZW) ∧ w'.cell? (yL.add ((zY).toNat * 7)) = some (.int .i64 ((zw l0 zY).f0)) ∧ w'.cell? ⟨(yL.add ((zY).toNat * 7)).block,(yL.add ((zY).toNat * 7)).off + 1,none⟩ = some (.int .i64 ((zw l0 zY).f1)) ∧ w'.cell? ⟨(yL.add ((zY).toNat * 7)).block,(yL.add ((zY).toNat * 7)).off + 2,none⟩ = some (.int .i64 ((zw l0 zY).f2)) ∧ w'.cell? ⟨(yL.add ((zY).toNat * 7)).block,(yL.add ((zY).toNat * 7)).off + 3,none⟩ = some (.int .i64 ((zw l0 zY).f3)) ∧ w'.cell? ⟨(yL.add ((zY).toNat * 7)).block,(yL.add ((zY).toNat * 7)).off + 4,none⟩ = some (.string ((zw l0 zY).f4)) ∧ w'.cell? ⟨(yL.add ((zY).toNat * 7)).block,(yL.add ((zY).toNat * 7)).off + 5,none⟩ = some (.string ((zw l0 zY).f5)) ∧ w'.cell? ⟨(yL.add ((zY).toNat * 7)).block,(yL.add ((zY).toNat * 7)).off + 6,none⟩ = some (.slice ZY ((zw l0 zY).f6).length ZW)) (ds:=[]) #[false,false,false,false,false,false,false,false,false,false,false] (by kernel_rfl) rfl rfl ⟨((HB.out.cell (World.block_lt_of_cell? w _ uU)).trans uU),((HB.out.cell (World.block_lt_of_cell? w _ uT)).trans uT),((HB.out.cell (World.block_lt_of_cell? w _ uS)).trans uS),((HB.out.cell (World.block_lt_of_cell? w _ uR)).trans uR),((HB.out.cell (World.block_lt_of_cell? w _ uP)).trans uP),((HB.out.cell (World.block_lt_of_cell? w _ uO)).trans uO),((HB.out.cell (World.block_lt_of_cell? w _ uN)).trans uN),((HB.out.cell (World.block_lt_of_cell? w _ jJ)).trans jJ),((HB.out.cell (World.block_lt_of_cell? w _ jX)).trans jX),((HB.out.cell (World.block_lt_of_cell? w _ jQ)).trans jQ),((HB.out.cell (World.block_lt_of_cell? w _ jZ)).trans jZ),((HB.out.cell (World.block_lt_of_cell? w _ jw)).trans jw),((HB.out.cell (World.block_lt_of_cell? w _ jy)).trans jy),((HB.out.cell (World.block_lt_of_cell? w _ jk)).trans jk)⟩ (fun hHeld=>?_);refine Z5 zZ.zJn zZ.zkm (fun yP YC=>?_)
                generalize wr.drew = w52 at HB VX VY kZ kQ kX kJ kV kK uM kY kW kg ko kr ku jq hHeld ⊢
                refine jP 0 (some 78) yP ?_
                refine jP 1 (some 79) yP ?_
                refine jP 2 (some 80) yP ?_
                refine jP 5 (some 83) yP ?_
                refine jP 6 (some 84) yP ?_
                refine jP 7 (some 85) yP ?_
                refine mG 3 (some 81) yP YC hHeld ?_
                refine mG 8 (some 86) yP YC hHeld ?_
                refine oQ 4 (some 82) yP (fun K hK=>?_)
                refine YL Tryz.func32 (by kernel_rfl) rfl #[.agg #[.int .i64 ((zw l0 zY).f0),.int .i64 ((zw l0 zY).f1),.int .i64 ((zw l0 zY).f2),.int .i64 ((zw l0 zY).f3),.string ((zw l0 zY).f4),.string ((zw l0 zY).f5),.slice ZY ((zw l0 zY).f6).length ZW]] (by rfl) rfl rfl (by (try simp only [List.map_toArray,List.map_cons,List.map_nil]);first | done | rfl | (simp only [List.length_drop,List.length_take];rfl)) ?_
                with_reducible refine (wQ.calls ((zw l0 zY).f0) ((zw l0 zY).f1) ((zw l0 zY).f2) ((zw l0 zY).f3) ((zw l0 zY).f4) ((zw l0 zY).f5) _ _ ((zw l0 zY).f6) QZ _ ?yX ?yE ?xQ A49.out).mono ?_
                (case yX=>exact xZ (Kd.za VX.out HB.out))
                (case yE=>exact dU.out)
                (case xQ=>exact GW.under HG.out (zM HB.out))
                rintro e w53 ⟨rfl,hb⟩
                refine ⟨_,rfl,?_⟩
                have zh:=zk.mk (zF (zM HB.out) hb)
                clear HB
                have HB:=zh
                clear zh
                (try clear hb)
                (try clear hk)
                refine hK.out _ _ ⟨((HB.out.cell (World.block_lt_of_cell? w _ uU)).trans uU),((HB.out.cell (World.block_lt_of_cell? w _ uT)).trans uT),((HB.out.cell (World.block_lt_of_cell? w _ uS)).trans uS),((HB.out.cell (World.block_lt_of_cell? w _ uR)).trans uR),((HB.out.cell (World.block_lt_of_cell? w _ uP)).trans uP),((HB.out.cell (World.block_lt_of_cell? w _ uO)).trans uO),((HB.out.cell (World.block_lt_of_cell? w _ uN)).trans uN),((HB.out.cell (World.block_lt_of_cell? w _ jJ)).trans jJ),((HB.out.cell (World.block_lt_of_cell? w _ jX)).trans jX),((HB.out.cell (World.block_lt_of_cell? w _ jQ)).trans jQ),((HB.out.cell (World.block_lt_of_cell? w _ jZ)).trans jZ),((HB.out.cell (World.block_lt_of_cell? w _ jw)).trans jw),((HB.out.cell (World.block_lt_of_cell? w _ jy)).trans jy),((HB.out.cell (World.block_lt_of_cell? w _ jk)).trans jk)⟩ (fun hHeld=>?_)
                clear hK K
                refine oZ (some 82) ?_
                refine oQ 9 (some 87) yP (fun K hK=>?_)
                refine YL Tryz.func33 (by kernel_rfl) rfl #[.agg #[.int .i64 ((zw l0 zY).f0),.int .i64 ((zw l0 zY).f1),.int .i64 ((zw l0 zY).f2),.int .i64 ((zw l0 zY).f3),.string ((zw l0 zY).f4),.string ((zw l0 zY).f5),.slice ZY ((zw l0 zY).f6).length ZW]] (by rfl) rfl rfl (by (try simp only [List.map_toArray,List.map_cons,List.map_nil]);first | done | rfl | (simp only [List.length_drop,List.length_take];rfl)) ?_
                with_reducible refine (zX.calls k4 ((zw l0 zY).f0) ((zw l0 zY).f1) ((zw l0 zY).f2) ((zw l0 zY).f3) ((zw l0 zY).f4) ((zw l0 zY).f5) _ _ ((zw l0 zY).f6) XA _ ?yX ?yE ou.out).mono ?_
                (case yX=>exact xZ (Kd.za VY.out HB.out))
                (case yE=>exact d9.out)
                rintro e w54 ⟨rfl,hb⟩
                refine ⟨_,rfl,?_⟩
                have zh:=zk.mk (zF (zM HB.out) hb)
                clear HB
                have HB:=zh
                clear zh
                (try clear hb)
                (try clear hk)
                refine hK.out _ _ ⟨((HB.out.cell (World.block_lt_of_cell? w _ uU)).trans uU),((HB.out.cell (World.block_lt_of_cell? w _ uT)).trans uT),((HB.out.cell (World.block_lt_of_cell? w _ uS)).trans uS),((HB.out.cell (World.block_lt_of_cell? w _ uR)).trans uR),((HB.out.cell (World.block_lt_of_cell? w _ uP)).trans uP),((HB.out.cell (World.block_lt_of_cell? w _ uO)).trans uO),((HB.out.cell (World.block_lt_of_cell? w _ uN)).trans uN),((HB.out.cell (World.block_lt_of_cell? w _ jJ)).trans jJ),((HB.out.cell (World.block_lt_of_cell? w _ jX)).trans jX),((HB.out.cell (World.block_lt_of_cell? w _ jQ)).trans jQ),((HB.out.cell (World.block_lt_of_cell? w _ jZ)).trans jZ),((HB.out.cell (World.block_lt_of_cell? w _ jw)).trans jw),((HB.out.cell (World.block_lt_of_cell? w _ jy)).trans jy),((HB.out.cell (World.block_lt_of_cell? w _ jk)).trans jk)⟩ (fun hHeld=>?_)
                clear hK K
                refine oZ (some 87) ?_
                refine jP 10 (some 88) yP ?_
                refine um (xK yP.out (by kernel_rfl)) ?_
                try go_wp2
                go_ret
                exact ⟨by first | rfl | (simp [zl,zm] <;> rfl) | (simp [*,zl,zm] <;> rfl),by repeat (first | (with_reducible first | exact HB.out | apply zO | apply zC | apply zP) | exact HB.out)⟩
               ·rw [if_neg c51] at H
                have zfH:(QZ != XA) = false:=by simpa using c51
                (try (have zfI:decide (QZ = XA) = true:=by simpa using c51))
                (try (have zfL:(QZ == XA) = true:=by simpa using c51))
                clear c51
                replace H:=Option.bind_eq_some_iff.mp H
                obtain ⟨ru,zdn,H⟩:=H
                replace H:(if ru = true then (zZ.l1 k4 l0 (wrap64 (Yw + ((zw l0 zY).f1))) xB (wrap64 (zY + 1))) else (zZ.l1 k4 l0 Yw xB (wrap64 (zY + 1)))) = some r:=H
                have A55:=zk.mk zdn
                clear zdn
                by_cases nA:ru = true
                ·subst nA
                 have H1:(zZ.l1 k4 l0 (wrap64 (Yw + ((zw l0 zY).f1))) xB (wrap64 (zY + 1))) = some r:=by rw [if_pos rfl] at H;exact H
                 clear H
                 have H:=H1
                 clear H1
                 have H':=zk.mk H
                 clear H
                 try go_wp2
                 have zh:=zk.mk (zP HB.out)
                 clear HB
                 have HB:=zh
                 clear zh
                 have Wv:0 ≤ (zY:Int):=of_decide_eq_true yj
                 have Wy:zY < (l0.length:Int):=of_decide_eq_true yj
                 obtain ⟨yL,ZY,ZW,zkE,kZ,kQ,kX,kJ,kV,kK,uM,VZ,VQ⟩:=yR qA.out zY Wv Wy
                 have uN:=uM
                 have uO:=kK
                 have uP:=kV
                 have uR:=kJ
                 have uS:=kX
                 have uT:=kQ
                 have uU:=kZ
                 cases zkE
                 replace kZ:=(HB.out.cell (World.block_lt_of_cell? w _ kZ)).trans kZ
                 replace kQ:=(HB.out.cell (World.block_lt_of_cell? w _ kQ)).trans kQ
                 replace kX:=(HB.out.cell (World.block_lt_of_cell? w _ kX)).trans kX
                 replace kJ:=(HB.out.cell (World.block_lt_of_cell? w _ kJ)).trans kJ
                 replace kV:=(HB.out.cell (World.block_lt_of_cell? w _ kV)).trans kV
                 replace kK:=(HB.out.cell (World.block_lt_of_cell? w _ kK)).trans kK
                 replace uM:=(HB.out.cell (World.block_lt_of_cell? w _ uM)).trans uM
                 have VX:=zk.mk VQ
                 have dU:=zk.mk VZ
                 clear VQ VZ
                 replace Wv:=eq_true Wv
                 replace Wy:=eq_true Wy
                 have Ww:0 ≤ (zY:Int):=of_decide_eq_true yj
                 have WZ:zY < (l0.length:Int):=of_decide_eq_true yj
                 obtain ⟨zzf,zV2,zV3,zkF,kY,kW,kg,ko,kr,ku,jq,VJ,VK⟩:=yR qA.out zY Ww WZ
                 have jk:=jq
                 have jy:=ku
                 have jw:=kr
                 have jZ:=ko
                 have jQ:=kg
                 have jX:=kW
                 have jJ:=kY
                 obtain rfl:yL = zzf:=(by injection zkF)
                 replace kY:=(HB.out.cell (World.block_lt_of_cell? w _ kY)).trans kY
                 replace kW:=(HB.out.cell (World.block_lt_of_cell? w _ kW)).trans kW
                 replace kg:=(HB.out.cell (World.block_lt_of_cell? w _ kg)).trans kg
                 replace ko:=(HB.out.cell (World.block_lt_of_cell? w _ ko)).trans ko
                 replace kr:=(HB.out.cell (World.block_lt_of_cell? w _ kr)).trans kr
                 replace ku:=(HB.out.cell (World.block_lt_of_cell? w _ ku)).trans ku
                 replace jq:=(HB.out.cell (World.block_lt_of_cell? w _ jq)).trans jq
                 have VY:=zk.mk VK
                 have d9:=zk.mk VJ
                 clear VK VJ
                 replace Ww:=eq_true Ww
                 replace WZ:=eq_true WZ
                 have qQ:=Option.some.inj (uM.symm.trans jq)
                 injection qQ with qQ vM vN
                 subst qQ
                 subst vN
                 clear vM
                 refine pG (n:=11) (S:=fun w'=>w'.cell? (yL.add ((zY).toNat * 7)) = some (.int .i64 ((zw l0 zY).f0)) ∧ w'.cell? ⟨(yL.add ((zY).toNat * 7)).block,(yL.add ((zY).toNat * 7)).off + 1,none⟩ = some (.int .i64 ((zw l0 zY).f1)) ∧ w'.cell? ⟨(yL.add ((zY).toNat * 7)).block,(yL.add ((zY).toNat * 7)).off + 2,none⟩ = some (.int .i64 ((zw l0 zY).f2)) ∧ w'.cell? ⟨(yL.add ((zY).toNat * 7)).block,(yL.add ((zY).toNat * 7)).off + 3,none⟩ = some (.int .i64 ((zw l0 zY).f3)) ∧ w'.cell? ⟨(yL.add ((zY).toNat * 7)).block,(yL.add ((zY).toNat * 7)).off + 4,none⟩ = some (.string ((zw l0 zY).f4)) ∧ w'.cell? ⟨(yL.add ((zY).toNat * 7)).block,(yL.add ((zY).toNat * 7)).off + 5,none⟩ = some (.string ((zw l0 zY).f5)) ∧ w'.cell? ⟨(yL.add ((zY).toNat * 7)).block,(yL.add ((zY).toNat * 7)).off + 6,none⟩ = some (.slice ZY ((zw l0 zY).f6).length ZW) ∧ w'.cell? (yL.add ((zY).toNat * 7)) = some (.int .i64 ((zw l0 zY).f0)) ∧ w'.cell? ⟨(yL.add ((zY).toNat * 7)).block,(yL.add ((zY).toNat * 7)).off + 1,none⟩ = some (.int .i64 ((zw l0 zY).f1)) ∧ w'.cell? ⟨(yL.add ((zY).toNat * 7)).block,(yL.add ((zY).toNat * 7)).off + 2,none⟩ = some (.int .i64 ((zw l0 zY).f2)) ∧ w'.cell? ⟨(yL.add ((zY).toNat * 7)).block,(yL.add ((zY).toNat * 7)).off + 3,none⟩ = some (.int .i64 ((zw l0 zY).f3)) ∧ w'.cell? ⟨(yL.add ((zY).toNat * 7)).block,(yL.add ((zY).toNat * 7)).off + 4,none⟩ = some (.string ((zw l0 zY).f4)) ∧ w'.cell? ⟨(yL.add ((zY).toNat * 7)).block,(yL.add ((zY).toNat * 7)).off + 5,none⟩ = some (.string ((zw l0 zY).f5)) ∧ w'.cell? ⟨(yL.add ((zY).toNat * 7)).block,(yL.add ((zY).toNat * 7)).off + 6,none⟩ = some (.slice ZY ((zw l0 zY).f6).length ZW)) (ds:=[]) #[false,false,false,false,false,false,false,false,false,false,false] (by kernel_rfl) rfl rfl ⟨((HB.out.cell (World.block_lt_of_cell? w _ uU)).trans uU),((HB.out.cell (World.block_lt_of_cell? w _ uT)).trans uT),((HB.out.cell (World.block_lt_of_cell? w _ uS)).trans uS),((HB.out.cell (World.block_lt_of_cell? w _ uR)).trans uR),((HB.out.cell (World.block_lt_of_cell? w _ uP)).trans uP),((HB.out.cell (World.block_lt_of_cell? w _ uO)).trans uO),((HB.out.cell (World.block_lt_of_cell? w _ uN)).trans uN),((HB.out.cell (World.block_lt_of_cell? w _ jJ)).trans jJ),((HB.out.cell (World.block_lt_of_cell? w _ jX)).trans jX),((HB.out.cell (World.block_lt_of_cell? w _ jQ)).trans jQ),((HB.out.cell (World.block_lt_of_cell? w _ jZ)).trans jZ),((HB.out.cell (World.block_lt_of_cell? w _ jw)).trans jw),((HB.out.cell (World.block_lt_of_cell? w _ jy)).trans jy),((HB.out.cell (World.block_lt_of_cell? w _ jk)).trans jk)⟩ (fun hHeld=>?_);refine Z5 zZ.zJn zZ.zkm (fun yP YC=>?_)
                 generalize wr.drew = w57 at HB VX VY kZ kQ kX kJ kV kK uM kY kW kg ko kr ku jq hHeld ⊢
                 refine jP 0 (some 78) yP ?_
                 refine jP 1 (some 79) yP ?_
                 refine jP 2 (some 80) yP ?_
                 refine jP 5 (some 83) yP ?_
                 refine jP 6 (some 84) yP ?_
                 refine jP 7 (some 85) yP ?_
                 refine mG 3 (some 81) yP YC hHeld ?_
                 refine mG 8 (some 86) yP YC hHeld ?_
                 refine oQ 4 (some 82) yP (fun K hK=>?_)
                 refine YL Tryz.func32 (by kernel_rfl) rfl #[.agg #[.int .i64 ((zw l0 zY).f0),.int .i64 ((zw l0 zY).f1),.int .i64 ((zw l0 zY).f2),.int .i64 ((zw l0 zY).f3),.string ((zw l0 zY).f4),.string ((zw l0 zY).f5),.slice ZY ((zw l0 zY).f6).length ZW]] (by rfl) rfl rfl (by (try simp only [List.map_toArray,List.map_cons,List.map_nil]);first | done | rfl | (simp only [List.length_drop,List.length_take];rfl)) ?_
                 with_reducible refine (wQ.calls ((zw l0 zY).f0) ((zw l0 zY).f1) ((zw l0 zY).f2) ((zw l0 zY).f3) ((zw l0 zY).f4) ((zw l0 zY).f5) _ _ ((zw l0 zY).f6) QZ _ ?yX ?yE ?xQ A49.out).mono ?_
                 (case yX=>exact xZ (Kd.za VX.out HB.out))
                 (case yE=>exact dU.out)
                 (case xQ=>exact GW.under HG.out (zM HB.out))
                 rintro e w58 ⟨rfl,hb⟩
                 refine ⟨_,rfl,?_⟩
                 have zh:=zk.mk (zF (zM HB.out) hb)
                 clear HB
                 have HB:=zh
                 clear zh
                 (try clear hb)
                 (try clear hk)
                 refine hK.out _ _ ⟨((HB.out.cell (World.block_lt_of_cell? w _ uU)).trans uU),((HB.out.cell (World.block_lt_of_cell? w _ uT)).trans uT),((HB.out.cell (World.block_lt_of_cell? w _ uS)).trans uS),((HB.out.cell (World.block_lt_of_cell? w _ uR)).trans uR),((HB.out.cell (World.block_lt_of_cell? w _ uP)).trans uP),((HB.out.cell (World.block_lt_of_cell? w _ uO)).trans uO),((HB.out.cell (World.block_lt_of_cell? w _ uN)).trans uN),((HB.out.cell (World.block_lt_of_cell? w _ jJ)).trans jJ),((HB.out.cell (World.block_lt_of_cell? w _ jX)).trans jX),((HB.out.cell (World.block_lt_of_cell? w _ jQ)).trans jQ),((HB.out.cell (World.block_lt_of_cell? w _ jZ)).trans jZ),((HB.out.cell (World.block_lt_of_cell? w _ jw)).trans jw),((HB.out.cell (World.block_lt_of_cell? w _ jy)).trans jy),((HB.out.cell (World.block_lt_of_cell? w _ jk)).trans jk)⟩ (fun hHeld=>?_)
                 clear hK K
                 refine oZ (some 82) ?_
                 refine oQ 9 (some 87) yP (fun K hK=>?_)
                 refine YL Tryz.func33 (by kernel_rfl) rfl #[.agg #[.int .i64 ((zw l0 zY).f0),.int .i64 ((zw l0 zY).f1),.int .i64 ((zw l0 zY).f2),.int .i64 ((zw l0 zY).f3),.string ((zw l0 zY).f4),.string ((zw l0 zY).f5),.slice ZY ((zw l0 zY).f6).length ZW]] (by rfl) rfl rfl (by (try simp only [List.map_toArray,List.map_cons,List.map_nil]);first | done | rfl | (simp only [List.length_drop,List.length_take];rfl)) ?_
                 with_reducible refine (zX.calls k4 ((zw l0 zY).f0) ((zw l0 zY).f1) ((zw l0 zY).f2) ((zw l0 zY).f3) ((zw l0 zY).f4) ((zw l0 zY).f5) _ _ ((zw l0 zY).f6) XA _ ?yX ?yE ou.out).mono ?_
                 (case yX=>exact xZ (Kd.za VY.out HB.out))
                 (case yE=>exact d9.out)
                 rintro e w59 ⟨rfl,hb⟩
                 refine ⟨_,rfl,?_⟩
                 have zh:=zk.mk (zF (zM HB.out) hb)
                 clear HB
                 have HB:=zh
                 clear zh
                 (try clear hb)
                 (try clear hk)
                 refine hK.out _ _ ⟨((HB.out.cell (World.block_lt_of_cell? w _ uU)).trans uU),((HB.out.cell (World.block_lt_of_cell? w _ uT)).trans uT),((HB.out.cell (World.block_lt_of_cell? w _ uS)).trans uS),((HB.out.cell (World.block_lt_of_cell? w _ uR)).trans uR),((HB.out.cell (World.block_lt_of_cell? w _ uP)).trans uP),((HB.out.cell (World.block_lt_of_cell? w _ uO)).trans uO),((HB.out.cell (World.block_lt_of_cell? w _ uN)).trans uN),((HB.out.cell (World.block_lt_of_cell? w _ jJ)).trans jJ),((HB.out.cell (World.block_lt_of_cell? w _ jX)).trans jX),((HB.out.cell (World.block_lt_of_cell? w _ jQ)).trans jQ),((HB.out.cell (World.block_lt_of_cell? w _ jZ)).trans jZ),((HB.out.cell (World.block_lt_of_cell? w _ jw)).trans jw),((HB.out.cell (World.block_lt_of_cell? w _ jy)).trans jy),((HB.out.cell (World.block_lt_of_cell? w _ jk)).trans jk)⟩ (fun hHeld=>?_)
                 clear hK K
                 refine oZ (some 87) ?_
                 refine jP 10 (some 88) yP ?_
                 refine um (xK yP.out (by kernel_rfl)) ?_
                 try clear hHeld
                 try clear mg
                 try clear mh
                 have lY:0 ≤ (zY:Int):=of_decide_eq_true yj
                 have lW:zY < (l0.length:Int):=of_decide_eq_true yj
                 obtain ⟨zJp,zkG,zkH,zY1,Us,Ut,Uu,UA,UC,UD,UE,gq,gy⟩:=yR qA.out zY lY lW
                 obtain rfl:yL = zJp:=(by injection zY1)
                 replace Us:=(HB.out.cell (World.block_lt_of_cell? w _ Us)).trans Us
                 replace Ut:=(HB.out.cell (World.block_lt_of_cell? w _ Ut)).trans Ut
                 replace Uu:=(HB.out.cell (World.block_lt_of_cell? w _ Uu)).trans Uu
                 replace UA:=(HB.out.cell (World.block_lt_of_cell? w _ UA)).trans UA
                 replace UC:=(HB.out.cell (World.block_lt_of_cell? w _ UC)).trans UC
                 replace UD:=(HB.out.cell (World.block_lt_of_cell? w _ UD)).trans UD
                 replace UE:=(HB.out.cell (World.block_lt_of_cell? w _ UE)).trans UE
                 have zjt:=zk.mk gy
                 have zju:=zk.mk gq
                 clear gy gq
                 replace lY:=eq_true lY
                 replace lW:=eq_true lW
                 try go_wp2_with (first | ((with_reducible refine yw (f:=34) rfl ?_);refine vR (some 93) Tryz.func34 #[.agg #[.int .i64 ((zw l0 zY).f0),.int .i64 ((zw l0 zY).f1),.int .i64 ((zw l0 zY).f2),.int .i64 ((zw l0 zY).f3),.string ((zw l0 zY).f4),.string ((zw l0 zY).f5),.slice zkG ((zw l0 zY).f6).length zkH]] ?_;(with_reducible refine (qE.calls ((zw l0 zY).f0) ((zw l0 zY).f1) ((zw l0 zY).f2) ((zw l0 zY).f3) ((zw l0 zY).f4) ((zw l0 zY).f5) _ _ ((zw l0 zY).f6) true _ ?yX ?yE A55.out).mono ?_);(case yX=>exact xZ (Kd.za zjt.out HB.out));(case yE=>exact zju.out);rintro e w60 ⟨rfl,hb⟩;refine ⟨_,rfl,?_⟩;have zh:=zk.mk (zF (zM HB.out) hb);clear HB;have HB:=zh;clear zh;(try clear hb);(try clear hk);have zY2:0 ≤ (zY:Int):=of_decide_eq_true yj;have zY3:zY < (l0.length:Int):=of_decide_eq_true yj;obtain ⟨zfM,zoo,zop,zhF,zjA,zjB,zjC,zjD,zjE,zjF,zjG,zXx,zXj⟩:=yR qA.out zY zY2 zY3;obtain rfl:yL = zfM:=(by injection zhF);replace zjA:=(HB.out.cell (World.block_lt_of_cell? w _ zjA)).trans zjA;replace zjB:=(HB.out.cell (World.block_lt_of_cell? w _ zjB)).trans zjB;replace zjC:=(HB.out.cell (World.block_lt_of_cell? w _ zjC)).trans zjC;replace zjD:=(HB.out.cell (World.block_lt_of_cell? w _ zjD)).trans zjD;replace zjE:=(HB.out.cell (World.block_lt_of_cell? w _ zjE)).trans zjE;replace zjF:=(HB.out.cell (World.block_lt_of_cell? w _ zjF)).trans zjF;replace zjG:=(HB.out.cell (World.block_lt_of_cell? w _ zjG)).trans zjG;have znT:=zk.mk zXj;have znU:=zk.mk zXx;clear zXj zXx;replace zY2:=eq_true zY2;replace zY3:=eq_true zY3))
                 go_roundg k4
                 case measure=>have:=wL.out;have:=HJ7.out;have:=fH.out;have:=HK4.out;omega
                 case rel=>exact ⟨(wrap64 (Yw + ((zw l0 zY).f1))),(wrap64 (zY + 1)),(by first | rfl | (simp;done) | (simp [*];done)),(by first | rfl | (simp;done) | (simp [*];done)),H',⟨by have:=wL.out;have:=HJ7.out;have:=fH.out;have:=HK4.out;omega⟩,⟨zM HB.out⟩⟩
                ·replace nA:=Bool.eq_false_iff.mpr nA
                 subst nA
                 have H1:(zZ.l1 k4 l0 Yw xB (wrap64 (zY + 1))) = some r:=by rw [if_neg (show ¬ (false = true) by decide)] at H;exact H
                 clear H
                 have H:=H1
                 clear H1
                 have H':=zk.mk H
                 clear H
                 try go_wp2
                 have zh:=zk.mk (zP HB.out)
                 clear HB
                 have HB:=zh
                 clear zh
                 have Wv:0 ≤ (zY:Int):=of_decide_eq_true yj
                 have Wy:zY < (l0.length:Int):=of_decide_eq_true yj
                 obtain ⟨yL,ZY,ZW,zkE,kZ,kQ,kX,kJ,kV,kK,uM,VZ,VQ⟩:=yR qA.out zY Wv Wy
                 have uN:=uM
                 have uO:=kK
                 have uP:=kV
                 have uR:=kJ
                 have uS:=kX
                 have uT:=kQ
                 have uU:=kZ
                 cases zkE
                 replace kZ:=(HB.out.cell (World.block_lt_of_cell? w _ kZ)).trans kZ
                 replace kQ:=(HB.out.cell (World.block_lt_of_cell? w _ kQ)).trans kQ
                 replace kX:=(HB.out.cell (World.block_lt_of_cell? w _ kX)).trans kX
                 replace kJ:=(HB.out.cell (World.block_lt_of_cell? w _ kJ)).trans kJ
                 replace kV:=(HB.out.cell (World.block_lt_of_cell? w _ kV)).trans kV
                 replace kK:=(HB.out.cell (World.block_lt_of_cell? w _ kK)).trans kK
                 replace uM:=(HB.out.cell (World.block_lt_of_cell? w _ uM)).trans uM
                 have VX:=zk.mk VQ
                 have dU:=zk.mk VZ
                 clear VQ VZ
                 replace Wv:=eq_true Wv
                 replace Wy:=eq_true Wy
                 have Ww:0 ≤ (zY:Int):=of_decide_eq_true yj
                 have WZ:zY < (l0.length:Int):=of_decide_eq_true yj
                 obtain ⟨zzf,zV2,zV3,zkF,kY,kW,kg,ko,kr,ku,jq,VJ,VK⟩:=yR qA.out zY Ww WZ
                 have jk:=jq
                 have jy:=ku
                 have jw:=kr
                 have jZ:=ko
                 have jQ:=kg
                 have jX:=kW
                 have jJ:=kY
                 obtain rfl:yL = zzf:=(by injection zkF)
                 replace kY:=(HB.out.cell (World.block_lt_of_cell? w _ kY)).trans kY
                 replace kW:=(HB.out.cell (World.block_lt_of_cell? w _ kW)).trans kW
                 replace kg:=(HB.out.cell (World.block_lt_of_cell? w _ kg)).trans kg
                 replace ko:=(HB.out.cell (World.block_lt_of_cell? w _ ko)).trans ko
                 replace kr:=(HB.out.cell (World.block_lt_of_cell? w _ kr)).trans kr
                 replace ku:=(HB.out.cell (World.block_lt_of_cell? w _ ku)).trans ku
                 replace jq:=(HB.out.cell (World.block_lt_of_cell? w _ jq)).trans jq
                 have VY:=zk.mk VK
                 have d9:=zk.mk VJ
                 clear VK VJ
                 replace Ww:=eq_true Ww
                 replace WZ:=eq_true WZ
                 have qQ:=Option.some.inj (uM.symm.trans jq)
                 injection qQ with qQ vM vN
                 subst qQ
                 subst vN
                 clear vM
                 refine pG (n:=11) (S:=fun w'=>w'.cell? (yL.add ((zY).toNat * 7)) = some (.int .i64 ((zw l0 zY).f0)) ∧ w'.cell? ⟨(yL.add ((zY).toNat * 7)).block,(yL.add ((zY).toNat * 7)).off + 1,none⟩ = some (.int .i64 ((zw l0 zY).f1)) ∧ w'.cell? ⟨(yL.add ((zY).toNat * 7)).block,(yL.add ((zY).toNat * 7)).off + 2,none⟩ = some (.int .i64 ((zw l0 zY).f2)) ∧ w'.cell? ⟨(yL.add ((zY).toNat * 7)).block,(yL.add ((zY).toNat * 7)).off + 3,none⟩ = some (.int .i64 ((zw l0 zY).f3)) ∧ w'.cell? ⟨(yL.add ((zY).toNat * 7)).block,(yL.add ((zY).toNat * 7)).off + 4,none⟩ = some (.string ((zw l0 zY).f4)) ∧ w'.cell? ⟨(yL.add ((zY).toNat * 7)).block,(yL.add ((zY).toNat * 7)).off + 5,none⟩ = some (.string ((zw l0 zY).f5)) ∧ w'.cell? ⟨(yL.add ((zY).toNat * 7)).block,(yL.add ((zY).toNat * 7)).off + 6,none⟩ = some (.slice ZY ((zw l0 zY).f6).length ZW) ∧ w'.cell? (yL.add ((zY).toNat * 7)) = some (.int .i64 ((zw l0 zY).f0)) ∧ w'.cell? ⟨(yL.add ((zY).toNat * 7)).block,(yL.add ((zY).toNat * 7)).off + 1,none⟩ = some (.int .i64 ((zw l0 zY).f1)) ∧ w'.cell? ⟨(yL.add ((zY).toNat * 7)).block,(yL.add ((zY).toNat * 7)).off + 2,none⟩ = some (.int .i64 ((zw l0 zY).f2)) ∧ w'.cell? ⟨(yL.add ((zY).toNat * 7)).block,(yL.add ((zY).toNat * 7)).off + 3,none⟩ = some (.int .i64 ((zw l0 zY).f3)) ∧ w'.cell? ⟨(yL.add ((zY).toNat * 7)).block,(yL.add ((zY).toNat * 7)).off + 4,none⟩ = some (.string ((zw l0 zY).f4)) ∧ w'.cell? ⟨(yL.add ((zY).toNat * 7)).block,(yL.add ((zY).toNat * 7)).off + 5,none⟩ = some (.string ((zw l0 zY).f5)) ∧ w'.cell? ⟨(yL.add ((zY).toNat * 7)).block,(yL.add ((zY).toNat * 7)).off + 6,none⟩ = some (.slice ZY ((zw l0 zY).f6).length ZW)) (ds:=[]) #[false,false,false,false,false,false,false,false,false,false,false] (by kernel_rfl) rfl rfl ⟨((HB.out.cell (World.block_lt_of_cell? w _ uU)).trans uU),((HB.out.cell (World.block_lt_of_cell? w _ uT)).trans uT),((HB.out.cell (World.block_lt_of_cell? w _ uS)).trans uS),((HB.out.cell (World.block_lt_of_cell? w _ uR)).trans uR),((HB.out.cell (World.block_lt_of_cell? w _ uP)).trans uP),((HB.out.cell (World.block_lt_of_cell? w _ uO)).trans uO),((HB.out.cell (World.block_lt_of_cell? w _ uN)).trans uN),((HB.out.cell (World.block_lt_of_cell? w _ jJ)).trans jJ),((HB.out.cell (World.block_lt_of_cell? w _ jX)).trans jX),((HB.out.cell (World.block_lt_of_cell? w _ jQ)).trans jQ),((HB.out.cell (World.block_lt_of_cell? w _ jZ)).trans jZ),((HB.out.cell (World.block_lt_of_cell? w _ jw)).trans jw),((HB.out.cell (World.block_lt_of_cell? w _ jy)).trans jy),((HB.out.cell (World.block_lt_of_cell? w _ jk)).trans jk)⟩ (fun hHeld=>?_);refine Z5 zZ.zJn zZ.zkm (fun yP YC=>?_)
                 generalize wr.drew = w61 at HB VX VY kZ kQ kX kJ kV kK uM kY kW kg ko kr ku jq hHeld ⊢
                 refine jP 0 (some 78) yP ?_
                 refine jP 1 (some 79) yP ?_
                 refine jP 2 (some 80) yP ?_
                 refine jP 5 (some 83) yP ?_
                 refine jP 6 (some 84) yP ?_
                 refine jP 7 (some 85) yP ?_
                 refine mG 3 (some 81) yP YC hHeld ?_
                 refine mG 8 (some 86) yP YC hHeld ?_
                 refine oQ 4 (some 82) yP (fun K hK=>?_)
                 refine YL Tryz.func32 (by kernel_rfl) rfl #[.agg #[.int .i64 ((zw l0 zY).f0),.int .i64 ((zw l0 zY).f1),.int .i64 ((zw l0 zY).f2),.int .i64 ((zw l0 zY).f3),.string ((zw l0 zY).f4),.string ((zw l0 zY).f5),.slice ZY ((zw l0 zY).f6).length ZW]] (by rfl) rfl rfl (by (try simp only [List.map_toArray,List.map_cons,List.map_nil]);first | done | rfl | (simp only [List.length_drop,List.length_take];rfl)) ?_
                 with_reducible refine (wQ.calls ((zw l0 zY).f0) ((zw l0 zY).f1) ((zw l0 zY).f2) ((zw l0 zY).f3) ((zw l0 zY).f4) ((zw l0 zY).f5) _ _ ((zw l0 zY).f6) QZ _ ?yX ?yE ?xQ A49.out).mono ?_
                 (case yX=>exact xZ (Kd.za VX.out HB.out))
                 (case yE=>exact dU.out)
                 (case xQ=>exact GW.under HG.out (zM HB.out))
                 rintro e w62 ⟨rfl,hb⟩
                 refine ⟨_,rfl,?_⟩
                 have zh:=zk.mk (zF (zM HB.out) hb)
                 clear HB
                 have HB:=zh
                 clear zh
                 (try clear hb)
                 (try clear hk)
                 refine hK.out _ _ ⟨((HB.out.cell (World.block_lt_of_cell? w _ uU)).trans uU),((HB.out.cell (World.block_lt_of_cell? w _ uT)).trans uT),((HB.out.cell (World.block_lt_of_cell? w _ uS)).trans uS),((HB.out.cell (World.block_lt_of_cell? w _ uR)).trans uR),((HB.out.cell (World.block_lt_of_cell? w _ uP)).trans uP),((HB.out.cell (World.block_lt_of_cell? w _ uO)).trans uO),((HB.out.cell (World.block_lt_of_cell? w _ uN)).trans uN),((HB.out.cell (World.block_lt_of_cell? w _ jJ)).trans jJ),((HB.out.cell (World.block_lt_of_cell? w _ jX)).trans jX),((HB.out.cell (World.block_lt_of_cell? w _ jQ)).trans jQ),((HB.out.cell (World.block_lt_of_cell? w _ jZ)).trans jZ),((HB.out.cell (World.block_lt_of_cell? w _ jw)).trans jw),((HB.out.cell (World.block_lt_of_cell? w _ jy)).trans jy),((HB.out.cell (World.block_lt_of_cell? w _ jk)).trans jk)⟩ (fun hHeld=>?_)
                 clear hK K
                 refine oZ (some 82) ?_
                 refine oQ 9 (some 87) yP (fun K hK=>?_)
                 refine YL Tryz.func33 (by kernel_rfl) rfl #[.agg #[.int .i64 ((zw l0 zY).f0),.int .i64 ((zw l0 zY).f1),.int .i64 ((zw l0 zY).f2),.int .i64 ((zw l0 zY).f3),.string ((zw l0 zY).f4),.string ((zw l0 zY).f5),.slice ZY ((zw l0 zY).f6).length ZW]] (by rfl) rfl rfl (by (try simp only [List.map_toArray,List.map_cons,List.map_nil]);first | done | rfl | (simp only [List.length_drop,List.length_take];rfl)) ?_
                 with_reducible refine (zX.calls k4 ((zw l0 zY).f0) ((zw l0 zY).f1) ((zw l0 zY).f2) ((zw l0 zY).f3) ((zw l0 zY).f4) ((zw l0 zY).f5) _ _ ((zw l0 zY).f6) XA _ ?yX ?yE ou.out).mono ?_
                 (case yX=>exact xZ (Kd.za VY.out HB.out))
                 (case yE=>exact d9.out)
                 rintro e w63 ⟨rfl,hb⟩
                 refine ⟨_,rfl,?_⟩
                 have zh:=zk.mk (zF (zM HB.out) hb)
                 clear HB
                 have HB:=zh
                 clear zh
                 (try clear hb)
                 (try clear hk)
                 refine hK.out _ _ ⟨((HB.out.cell (World.block_lt_of_cell? w _ uU)).trans uU),((HB.out.cell (World.block_lt_of_cell? w _ uT)).trans uT),((HB.out.cell (World.block_lt_of_cell? w _ uS)).trans uS),((HB.out.cell (World.block_lt_of_cell? w _ uR)).trans uR),((HB.out.cell (World.block_lt_of_cell? w _ uP)).trans uP),((HB.out.cell (World.block_lt_of_cell? w _ uO)).trans uO),((HB.out.cell (World.block_lt_of_cell? w _ uN)).trans uN),((HB.out.cell (World.block_lt_of_cell? w _ jJ)).trans jJ),((HB.out.cell (World.block_lt_of_cell? w _ jX)).trans jX),((HB.out.cell (World.block_lt_of_cell? w _ jQ)).trans jQ),((HB.out.cell (World.block_lt_of_cell? w _ jZ)).trans jZ),((HB.out.cell (World.block_lt_of_cell? w _ jw)).trans jw),((HB.out.cell (World.block_lt_of_cell? w _ jy)).trans jy),((HB.out.cell (World.block_lt_of_cell? w _ jk)).trans jk)⟩ (fun hHeld=>?_)
                 clear hK K
                 refine oZ (some 87) ?_
                 refine jP 10 (some 88) yP ?_
                 refine um (xK yP.out (by kernel_rfl)) ?_
                 try clear hHeld
                 try clear mg
                 try clear mh
                 have lY:0 ≤ (zY:Int):=of_decide_eq_true yj
                 have lW:zY < (l0.length:Int):=of_decide_eq_true yj
                 obtain ⟨zJp,zkG,zkH,zY1,Us,Ut,Uu,UA,UC,UD,UE,gq,gy⟩:=yR qA.out zY lY lW
                 obtain rfl:yL = zJp:=(by injection zY1)
                 replace Us:=(HB.out.cell (World.block_lt_of_cell? w _ Us)).trans Us
                 replace Ut:=(HB.out.cell (World.block_lt_of_cell? w _ Ut)).trans Ut
                 replace Uu:=(HB.out.cell (World.block_lt_of_cell? w _ Uu)).trans Uu
                 replace UA:=(HB.out.cell (World.block_lt_of_cell? w _ UA)).trans UA
                 replace UC:=(HB.out.cell (World.block_lt_of_cell? w _ UC)).trans UC
                 replace UD:=(HB.out.cell (World.block_lt_of_cell? w _ UD)).trans UD
                 replace UE:=(HB.out.cell (World.block_lt_of_cell? w _ UE)).trans UE
                 have zjt:=zk.mk gy
                 have zju:=zk.mk gq
                 clear gy gq
                 replace lY:=eq_true lY
                 replace lW:=eq_true lW
                 try go_wp2_with (first | ((with_reducible refine yw (f:=34) rfl ?_);refine vR (some 93) Tryz.func34 #[.agg #[.int .i64 ((zw l0 zY).f0),.int .i64 ((zw l0 zY).f1),.int .i64 ((zw l0 zY).f2),.int .i64 ((zw l0 zY).f3),.string ((zw l0 zY).f4),.string ((zw l0 zY).f5),.slice zkG ((zw l0 zY).f6).length zkH]] ?_;(with_reducible refine (qE.calls ((zw l0 zY).f0) ((zw l0 zY).f1) ((zw l0 zY).f2) ((zw l0 zY).f3) ((zw l0 zY).f4) ((zw l0 zY).f5) _ _ ((zw l0 zY).f6) false _ ?yX ?yE A55.out).mono ?_);(case yX=>exact xZ (Kd.za zjt.out HB.out));(case yE=>exact zju.out);rintro e pI ⟨rfl,hb⟩;refine ⟨_,rfl,?_⟩;have zh:=zk.mk (zF (zM HB.out) hb);clear HB;have HB:=zh;clear zh;(try clear hb);(try clear hk);(try clear hi)))
                 go_roundg k4
                 case measure=>have:=wL.out;have:=HJ7.out;have:=fH.out;have:=HK4.out;omega
                 case rel=>exact ⟨(Yw),(wrap64 (zY + 1)),(by first | rfl | (simp;done) | (simp [*];done)),(by first | rfl | (simp;done) | (simp [*];done)),H',⟨by have:=wL.out;have:=HJ7.out;have:=fH.out;have:=HK4.out;omega⟩,⟨zM HB.out⟩⟩
              ·rw [if_neg WA] at H
               exact absurd H (by simp)
             ·rw [if_neg c47] at H
              have zfG:decide (zY < (l0.length:Int)) = false:=decide_eq_false c47
              clear c47
              replace H:=Option.bind_eq_some_iff.mp H
              obtain ⟨Wj,zdo,H⟩:=H
              replace H:(if Yw = Wj then ((qO.f l0).bind fun Jl=>(if xB.toList = Jl.toList then ((vV.f).bind fun rA=>(some rA)) else (some false))) else (some false)) = some r:=H
              have A65:=zk.mk zdo
              clear zdo
              by_cases KD:Yw = Wj
              ·rw [if_pos KD] at H
               have zXO:(Yw == Wj) = true:=beq_iff_eq.mpr KD
               have zXP:(Yw != Wj) = false:=bne_eq_false_iff_eq.mpr KD
               clear KD
               replace H:=Option.bind_eq_some_iff.mp H
               obtain ⟨Jl,zdp,H⟩:=H
               replace H:(if xB.toList = Jl.toList then ((vV.f).bind fun rA=>(some rA)) else (some false)) = some r:=H
               have A67:=zk.mk zdp
               clear zdp
               by_cases c68:xB.toList = Jl.toList
               ·rw [if_pos c68] at H
                have zfN:(xB.toList == Jl.toList) = true:=beq_iff_eq.mpr c68
                have zfO:(xB.toList != Jl.toList) = false:=bne_eq_false_iff_eq.mpr c68
                clear c68
                replace H:=Option.bind_eq_some_iff.mp H
                obtain ⟨rA,zdr,H⟩:=H
                replace H:(some rA) = some r:=H
                have A69:=zk.mk zdr
                clear zdr
                obtain rfl:=Option.some.inj H
                go_wp2_with (first | ((with_reducible refine yw (f:=23) rfl ?_);refine vR (some 103) Tryz.func23 #[.slice A0 l0.length c0] ?_;(with_reducible refine (yu.calls k4 _ _ l0 Wj _ ?yX ?yE A65.out).mono ?_);(case yX=>exact xZ (Kd.za qA.out HB.out));(case yE=>exact YJ.out);rintro e w70 ⟨rfl,hb⟩;refine ⟨_,rfl,?_⟩;have zh:=zk.mk (zF (zM HB.out) hb);clear HB;have HB:=zh;clear zh;(try clear hb);(try clear hk);(try clear hi)) | (go_at_call 28;(with_reducible refine (qO.calls _ _ l0 Jl _ ?yX ?yE A67.out).mono ?_);(case yX=>exact xZ (Kd.za qA.out HB.out));(case yE=>exact YJ.out);rintro e w71 ⟨rfl,hb⟩;have zh:=zk.mk (zF (zM HB.out) hb);clear HB;have HB:=zh;clear zh;(try clear hb);(try clear hk);(try clear hi)) | (go_at_call 11;(with_reducible refine (vV.calls  rA _ ?yX A69.out).mono ?_);(case yX=>exact GW.under HG.out (zM HB.out));rintro e w72 ⟨rfl,hb⟩;have zh:=zk.mk (zF (zM HB.out) hb);clear HB;have HB:=zh;clear zh;(try clear hb);(try clear hk);(try clear hi)))
                go_ret
                exact ⟨by first | rfl | (simp [zl,zm] <;> rfl) | (simp [*,zl,zm] <;> rfl),by repeat (first | (with_reducible first | exact HB.out | apply zO | apply zC | apply zP) | exact HB.out)⟩
               ·rw [if_neg c68] at H
                have zfN:(xB.toList == Jl.toList) = false:=beq_eq_false_iff_ne.mpr c68
                have zfO:(xB.toList != Jl.toList) = true:=bne_iff_ne.mpr c68
                obtain rfl:=Option.some.inj H
                go_wp2_with (first | ((with_reducible refine yw (f:=23) rfl ?_);refine vR (some 103) Tryz.func23 #[.slice A0 l0.length c0] ?_;(with_reducible refine (yu.calls k4 _ _ l0 Wj _ ?yX ?yE A65.out).mono ?_);(case yX=>exact xZ (Kd.za qA.out HB.out));(case yE=>exact YJ.out);rintro e w73 ⟨rfl,hb⟩;refine ⟨_,rfl,?_⟩;have zh:=zk.mk (zF (zM HB.out) hb);clear HB;have HB:=zh;clear zh;(try clear hb);(try clear hk);(try clear hi)) | (go_at_call 28;(with_reducible refine (qO.calls _ _ l0 Jl _ ?yX ?yE A67.out).mono ?_);(case yX=>exact xZ (Kd.za qA.out HB.out));(case yE=>exact YJ.out);rintro e w74 ⟨rfl,hb⟩;have zh:=zk.mk (zF (zM HB.out) hb);clear HB;have HB:=zh;clear zh;(try clear hb);(try clear hk);(try clear hi)))
                go_ret
                exact ⟨by first | rfl | (simp [zl,zm] <;> rfl) | (simp [*,zl,zm] <;> rfl),by repeat (first | (with_reducible first | exact HB.out | apply zO | apply zC | apply zP) | exact HB.out)⟩
              ·rw [if_neg KD] at H
               have zXO:(Yw == Wj) = false:=beq_eq_false_iff_ne.mpr KD
               have zXP:(Yw != Wj) = true:=bne_iff_ne.mpr KD
               obtain rfl:=Option.some.inj H
               go_wp2_with (first | ((with_reducible refine yw (f:=23) rfl ?_);refine vR (some 103) Tryz.func23 #[.slice A0 l0.length c0] ?_;(with_reducible refine (yu.calls k4 _ _ l0 Wj _ ?yX ?yE A65.out).mono ?_);(case yX=>exact xZ (Kd.za qA.out HB.out));(case yE=>exact YJ.out);rintro e w75 ⟨rfl,hb⟩;refine ⟨_,rfl,?_⟩;have zh:=zk.mk (zF (zM HB.out) hb);clear HB;have HB:=zh;clear zh;(try clear hb);(try clear hk);(try clear hi)))
               go_ret
               exact ⟨by first | rfl | (simp [zl,zm] <;> rfl) | (simp [*,zl,zm] <;> rfl),by repeat (first | (with_reducible first | exact HB.out | apply zO | apply zC | apply zP) | exact HB.out)⟩
       ·rw [if_neg c20] at H
        have zWD:((qh.length:Int) == (xM.length:Int)) = false:=beq_eq_false_iff_ne.mpr c20
        have zWE:((qh.length:Int) != (xM.length:Int)) = true:=bne_iff_ne.mpr c20
        have zWF:(qh.length == xM.length) = false:=by first | simpa using c20 | (simp at c20 ⊢;omega)
        obtain rfl:=Option.some.inj H
        go_wp2_with (first | ((with_reducible refine yw (f:=30) rfl ?_);refine vR (some 30) Tryz.func30 #[.slice A0 l0.length c0] ?_;(with_reducible refine (wX.calls _ _ l0 qh _ ?yX ?yE A18.out).mono ?_);(case yX=>exact xZ (Kd.za qA.out HB.out));(case yE=>exact YJ.out);rintro e w76 ⟨zYU,rfl,ho0,hb⟩;refine ⟨_,rfl,?_⟩;have zh:=zk.mk (Kd.sJ (Kd.wI (ok':=fun k_=>True) (zcL ho0) (fun k_ hk_=>trivial)) (zI (zM HB.out)));have zG:=zk.mk (zF (zM HB.out) hb);clear HB;have Yo:=zh;have HB:=zG;clear zh zG;(try clear hb);(try clear hk);(try clear ho0)) | ((with_reducible refine yw (f:=31) rfl ?_);refine vR (some 32) Tryz.func31 #[.slice A0 l0.length c0] ?_;(with_reducible refine (yt.calls kj7 (fun k_=>k_ < w.heap.size) _ _ l0 xM _ ?yX A19.out).mono ?_);(case yX=>exact Kd.X5 YJ.out (Kd.JE (Kd.C_F zvG qA.out) (zM HB.out)));rintro e w77 ⟨zhA,rfl,ho0,hb⟩;refine ⟨_,rfl,?_⟩;have zh:=zk.mk (Kd.zvD (VU Yo.out) (Kd.oq ho0) hb);have zG:=zk.mk (Kd.sJ (Kd.wI (ok':=fun k_=>some k_ ≠ (zYU:Value).ownBlock) ho0 (fun k_ hk_=>Or.elim hk_ (fun hs_=>fun e_=>Nat.not_le.2 hs_ (Kd.oq Yo.out k_ e_.symm)) (fun hn_=>(Kd.fresh' (Kd.zXW (VU Yo.out)) k_ hn_)))) (zI (zM HB.out)));have zU:=zk.mk (zF (zM HB.out) hb);clear Yo;clear HB;have Yo:=zh;have zvl:=zG;have HB:=zU;clear zh zG zU;(try clear hb);(try clear hk);(try clear ho0);obtain ⟨zpT,zpU,zhG⟩:=Kd.V4 Yo.out;subst zhG;obtain ⟨zp0,zp1,zhH⟩:=Kd.V4 zvl.out;subst zhH))
        go_ret
        exact ⟨by first | rfl | (simp [zl,zm] <;> rfl) | (simp [*,zl,zm] <;> rfl),by repeat (first | (with_reducible first | exact HB.out | apply zO | apply zC | apply zP) | exact HB.out)⟩
end Go.Proofs.YtggifbbiiickmaaGreatDoor.PX
namespace Go.Proofs.YtggifbbiiickmaaGreatDoor
open Go.RowKit Go.Proofs.zx.zJ Go.Proofs.zx.zu Go.Proofs.zx.zo Go.Proofs.YtggifbbiiickmaaGreatDoor.PX
set_option linter.unusedSimpArgs false
set_option linter.unusedVariables false
theorem zds (l:List qZ) (hl:l.length ≤ 1000000000):∀ d i n,i + d = l.length → Ev (fun k=>yu.l0 k n l (l.length:Int) (i:Int)) ((l.drop i).foldl Pz n):=by
 intro d
 induction d with
 | zero =>
  intro i n h
  refine Ev.step (fun k=>by rw [yu.l0]) (yG (by omega) (jR ?_ (Ev.now _)))
  rw [List.drop_eq_nil_of_le (by omega)];rfl
 | succ d ih =>
  intro i n h
  have hi:i < l.length:=by omega
  have hw:wrap64 ((i:Int) + 1) = ((i + 1:Nat):Int):=(pI (by omega) (by omega)).trans (by omega)
  have q1:(i:Int) < (l.length:Int):=by omega
  have q2:(0:Int) ≤ (i:Int):=by omega
  have hr:=fun m=>ih (i + 1) m (by omega)
  have hd:zw l (i:Int) = l[i]:=rdB l i _ (List.getElem?_eq_getElem hi)
  rw [List.drop_eq_getElem_cons hi,List.foldl_cons]
  generalize l[i] = b at hd ⊢
  refine Ev.step (fun k=>by rw [yu.l0,hw,hd]) (zR q1 (zR q2 (zR q1 ?_)))
  have yes:(b.f0 = 0 ∨ b.f0 = 1 ∨ b.f0 = 2 ∨ b.f0 = 4 ∨ b.f0 = 6) → Pz n b = wrap64 (n + b.f1):=fun h=>by
   unfold Pz mK
   rw [decide_eq_false (by omega:¬ b.f0 = 3),decide_eq_false (by omega:¬ b.f0 = 5),decide_eq_true (by omega:0 ≤ b.f0),decide_eq_true (by omega:b.f0 ≤ 6)];rfl
  by_cases h0:b.f0 = 0
  ·rw [yes (by omega)];exact zR h0 (hr _)
  ·refine yG h0 ?_
   by_cases h1:b.f0 = 1
   ·rw [yes (by omega)];exact zR h1 (hr _)
   ·refine yG h1 ?_
    by_cases h2:b.f0 = 2
    ·rw [yes (by omega)];exact zR h2 (hr _)
    ·refine yG h2 ?_
     by_cases h4:b.f0 = 4
     ·rw [yes (by omega)];exact zR h4 (hr _)
     ·refine yG h4 ?_
      by_cases h6:b.f0 = 6
      ·rw [yes (by omega)];exact zR h6 (hr _)
      ·refine yG h6 (jR ?_ (hr n))
       have e:mK b = false:=by
        unfold mK
        by_cases h3:b.f0 = 3
        ·rw [decide_eq_true h3];rfl
        ·by_cases h5:b.f0 = 5
         ·rw [decide_eq_true h5,Bool.not_true,Bool.and_false];rfl
         ·by_cases h7:0 ≤ b.f0
          ·rw [decide_eq_false (by omega:¬ b.f0 ≤ 6),Bool.and_false]
          ·rw [decide_eq_false h7,Bool.and_false];rfl
       unfold Pz
       rw [e,if_neg Bool.false_ne_true]
theorem zjH (l:List qZ) (hl:l.length ≤ 1000000000):Ev (fun k=>yu.f k l) (tT l):=by
 have h:=zds l hl l.length 0 0 (by omega)
 rw [List.drop_zero] at h
 exact Ev.congr (fun k=>by rw [yu.f];rfl) h
def QY (b:qZ):Int:=if mK b then b.f1 else 0
def uG (l:List qZ):Int:=(l.map QY).sum
theorem zY4 (a b:List qZ):uG (a ++ b) = uG a + uG b:=by simp [uG]
theorem zXv {b:qZ} (h1:b.f1 ≤ 1099511627776) (h2:-1099511627776 ≤ b.f1):QY b ≤ 1099511627776 ∧ -1099511627776 ≤ QY b:=by
 unfold QY
 split <;> omega
def Narrow (l:List qZ):Prop:=∀ b ∈ l,b.f1 ≤ 1099511627776 ∧ -1099511627776 ≤ b.f1
theorem zjI:∀ l:List qZ,Narrow l → uG l ≤ (l.length:Int) * 1099511627776 ∧ -((l.length:Int) * 1099511627776) ≤ uG l
 | [],_=>by simp [uG]
 | b :: r,h=>by
  have h1:=zjI r (fun x hx=>h x (.tail _ hx))
  have h2:=zXv (h b (.head _)).1 (h b (.head _)).2
  have e:uG (b :: r) = QY b + uG r:=by simp [uG]
  rw [e,List.length_cons]
  omega
theorem zJr (l:List qZ):Narrow l → ∀ n:Int,l.length ≤ 1000 → -1099511627776000 + (l.length:Int) * 1099511627776 ≤ n → n ≤ 1099511627776000 - (l.length:Int) * 1099511627776 → l.foldl Pz n = n + uG l:=by
 induction l with
 | nil=>intro _ n _ _ _;simp [uG]
 | cons b r ih =>
  intro h n hl h1 h2
  have hb:=zXv (h b (.head _)).1 (h b (.head _)).2
  have e:uG (b :: r) = QY b + uG r:=by simp [uG]
  rw [List.length_cons] at hl h1 h2
  have e1:Pz n b = n + QY b:=by
   unfold Pz QY at *
   split
   ·rename_i hh
    rw [if_pos hh] at hb
    exact pI (by omega) (by omega)
   ·omega
  have h3:=ih (fun x hx=>h x (.tail _ hx)) (n + QY b) (by omega) (by omega) (by omega)
  rw [List.foldl_cons,e1,h3,e]
  omega
theorem fP (l:List qZ) (h:Narrow l) (hl:l.length ≤ 1000):tT l = uG l:=by
 unfold tT
 rw [zJr l h 0 hl (by omega) (by omega)]
 omega
def Jm (b:qZ):Int:=if wN b then b.f1 else 0
def Zc (l:List qZ):Int:=(l.map Jm).sum
theorem zkI (a b:List qZ):Zc (a ++ b) = Zc a + Zc b:=by simp [Zc]
theorem zkL (b:qZ):Zc [b] = Jm b:=by simp [Zc]
theorem zY5 (b:qZ):uG [b] = QY b:=by simp [uG]
def jO (ws:List (List qZ)):Int:=(ws.map uG).sum
theorem rR (a b:List (List qZ)):jO (a ++ b) = jO a + jO b:=by simp [jO]
theorem zj9 (a:List qZ):jO [a] = uG a:=by simp [jO]
theorem zV4 {b:qZ} (h:wN b = true):QY b = b.f1:=by
 unfold wN at h
 rw [Bool.and_eq_true,decide_eq_true_eq] at h
 unfold QY mK
 rw [h.1];rfl
def wO:List (List qZ) → ByteArray
 | []=>⟨#[]⟩
 | w :: r=>r.foldl (fun t x=>t ++ (⟨#[32]⟩:ByteArray) ++ jr x) (jr w)
theorem XI (ws:List (List qZ)) (x:List qZ) (h:ws ≠ []):wO (ws ++ [x]) = wO ws ++ (⟨#[32]⟩:ByteArray) ++ jr x:=by
 cases ws with
 | nil=>exact absurd rfl h
 | cons w r =>
  show (r ++ [x]).foldl _ _ = _
  rw [List.foldl_append];rfl
theorem zV5 (s:ByteArray):(⟨#[]⟩:ByteArray) ++ s = s:=by
 apply ByteArray.ext
 simp
theorem zV6 (s:ByteArray):s ++ (⟨#[]⟩:ByteArray) = s:=by
 apply ByteArray.ext
 simp
theorem zV7 (s t:ByteArray) (b:qZ):pq (s ++ t) b = s ++ pq t b:=by
 unfold pq
 repeat' split
 all_goals simp only [ByteArray.append_assoc]
theorem mo (l:List qZ) (b:qZ):jr (l ++ [b]) = pq (jr l) b:=by
 unfold jr
 rw [List.foldl_append];rfl
theorem zJs (d:List (List qZ)) (x:List qZ) (b:qZ):wO (d ++ [x ++ [b]]) = pq (wO (d ++ [x])) b:=by
 by_cases h:d = []
 ·subst h
  exact mo x b
 ·rw [XI d _ h,XI d _ h,mo,zV7]
theorem zJt (d:List (List qZ)) (x:List qZ) (b:qZ) (hb:wN b = true):wO ((d ++ [x]) ++ [[]]) = pq (wO (d ++ [x])) b:=by
 rw [XI _ _ (by simp)]
 unfold wN at hb
 rw [Bool.and_eq_true,decide_eq_true_eq] at hb
 unfold pq
 rw [if_neg (by rw [hb.1];decide),if_pos (Or.inl hb.1)]
 exact zV6 _
theorem zvz (l:List qZ):∀ k,k ≤ l.length → jO ((kL l k).1 ++ [(kL l k).2]) + Zc (l.take k) = uG (l.take k) ∧ wO ((kL l k).1 ++ [(kL l k).2]) = jr (l.take k) ∧ ∀ w ∈ (kL l k).1 ++ [(kL l k).2],w.length ≤ k ∧ ∀ b ∈ w,b ∈ l
 | 0,_=>⟨rfl,rfl,fun w hw=>by
   have e:w = []:=by simpa [kL] using hw
   subst e
   exact ⟨Nat.le_refl _,fun b hb=>by cases hb⟩⟩
 | k + 1,h=>by
  obtain ⟨h1,h2,h3⟩:=zvz l k (by omega)
  have hk:k < l.length:=by omega
  have hm:=List.getElem_mem hk
  rw [WU l k hk,List.take_succ_eq_append_getElem hk]
  have eG:Zc (l.take k ++ [l[k]]) = Zc (l.take k) + Jm l[k]:=by rw [zkI,zkL]
  have eW:uG (l.take k ++ [l[k]]) = uG (l.take k) + QY l[k]:=by rw [zY4,zY5]
  rw [eG,eW,mo,← h2]
  generalize kL l k = st at h1 h2 h3 ⊢
  generalize l[k] = b at hm ⊢
  unfold XG
  by_cases hp:wN b = true
  ·rw [if_pos hp]
   refine ⟨?_,zJt _ _ _ hp,fun w hw=>?_⟩
   ·have e:Jm b = QY b:=by rw [zV4 hp];unfold Jm;rw [if_pos hp]
    have e2:jO ((st.1 ++ [st.2]) ++ [[]]) = jO (st.1 ++ [st.2]):=by rw [rR];simp [jO,uG]
    show jO ((st.1 ++ [st.2]) ++ [[]]) + _ = _
    rw [e,e2];omega
   ·rcases List.mem_append.1 hw with hw | hw
    ·obtain ⟨a1,a2⟩:=h3 w hw
     exact ⟨by omega,a2⟩
    ·have e:w = []:=by simpa using hw
     subst e
     exact ⟨Nat.zero_le _,fun b hb=>by cases hb⟩
  ·rw [if_neg hp]
   refine ⟨?_,zJs _ _ _,fun w hw=>?_⟩
   ·have e:Jm b = 0:=by unfold Jm;rw [if_neg hp]
    show jO (st.1 ++ [st.2 ++ [b]]) + _ = _
    rw [rR,zj9] at h1 ⊢
    have e3:uG (st.2 ++ [b]) = uG st.2 + QY b:=by simp [uG]
    rw [e,e3];omega
   ·rcases List.mem_append.1 hw with hw | hw
    ·obtain ⟨a1,a2⟩:=h3 w (List.mem_append_left _ hw)
     exact ⟨by omega,a2⟩
    ·have e:w = st.2 ++ [b]:=by simpa using hw
     subst e
     obtain ⟨a1,a2⟩:=h3 st.2 (by simp)
     refine ⟨by simp;omega,fun y hy=>?_⟩
     rcases List.mem_append.1 hy with hy | hy
     ·exact a2 y hy
     ·have:y = b:=by simpa using hy
      rw [this];exact hm
theorem zbu {b:qZ} (h1:b.f1 ≤ 1099511627776) (h2:-1099511627776 ≤ b.f1):Jm b ≤ 1099511627776 ∧ -1099511627776 ≤ Jm b:=by
 unfold Jm
 split <;> omega
theorem zjL:∀ l:List qZ,Narrow l → Zc l ≤ (l.length:Int) * 1099511627776 ∧ -((l.length:Int) * 1099511627776) ≤ Zc l
 | [],_=>by simp [Zc]
 | b :: r,h=>by
  have h1:=zjL r (fun x hx=>h x (.tail _ hx))
  have h2:=zbu (h b (.head _)).1 (h b (.head _)).2
  have e:Zc (b :: r) = Jm b + Zc r:=by simp [Zc]
  rw [e,List.length_cons]
  omega
structure zjM (l:List qZ):Prop where
 len:l.length ≤ 300
 box:∀ b ∈ l,b.f6.length ≤ 100 ∧ b.f4.size ≤ 100 ∧ b.f1 ≤ 1099511627776 ∧ -1099511627776 ≤ b.f1
 col:∀ b ∈ l,b.f5.size ≤ 9223372036854775807
theorem zjM.narrow {l m:List qZ} (h:zjM l) (hm:∀ b ∈ m,b ∈ l):Narrow m:=fun b hb=>⟨(h.box b (hm b hb)).2.2.1,(h.box b (hm b hb)).2.2.2⟩
theorem zkM (m:List qZ) (h1:m.length ≤ 1000000) (h2:∀ b ∈ m,b.f4.size ≤ 100):qO.f m = some (jr m):=by
 unfold qO.f
 rw [if_pos]
 unfold zYC
 rw [Bool.and_eq_true,decide_eq_true_eq]
 exact ⟨h1,List.all_eq_true.2 fun b hb=>decide_eq_true (by have:=h2 b hb;omega)⟩
theorem zV8 (l:List qZ) (hF:zjM l) (S:Int) (T:ByteArray) (hS:S + Zc l = uG l) (hT:T = jr l):∀ d i,i + d = l.length → Ev (fun k=>zZ.l1 k l (S + Zc (l.take i)) T (i:Int)) true:=by
 have hn:Narrow l:=hF.narrow (fun _ h=>h)
 have hln:=hF.len
 have hWl:=zjH l (by omega)
 rw [fP l hn (by omega)] at hWl
 have hTl:=zkM l (by omega) (fun b hb=>(hF.box b hb).2.1)
 have bW:=zjI l hn
 have bG:=zjL l hn
 intro d
 induction d with
 | zero =>
  intro i h
  have e:l.take i = l:=List.take_of_length_le (by omega)
  rw [e,hS]
  refine Ev.step (fun k=>by rw [zZ.l1]) (yG (by omega) (Ev.bind hWl (zR rfl (Vb hTl (zR (congrArg ByteArray.toList hT) (Vb zVs (Ev.now _)))))))
 | succ d ih =>
  intro i h
  have hi:i < l.length:=by omega
  have hw:wrap64 ((i:Int) + 1) = ((i + 1:Nat):Int):=(pI (by omega) (by omega)).trans (by omega)
  have q1:(i:Int) < (l.length:Int):=by omega
  have q2:(0:Int) ≤ (i:Int):=by omega
  have hd:zw l (i:Int) = l[i]:=rdB l i _ (List.getElem?_eq_getElem hi)
  have hr:=ih (i + 1) (by omega)
  rw [List.take_succ_eq_append_getElem hi,zkI,zkL] at hr
  have bT:=zjL (l.take i) (hF.narrow (fun b hb=>List.mem_of_mem_take hb))
  rw [List.length_take,Nat.min_eq_left (by omega)] at bT
  obtain ⟨b6,b4,b1,b2⟩:=hF.box _ (List.getElem_mem hi)
  have b5:=hF.col _ (List.getElem_mem hi)
  generalize l[i] = b at hd hr b1 b2 b4 b5 b6
  generalize Zc (l.take i) = g at hr bT ⊢
  have hv:wQ.f b.f0 b.f1 b.f2 b.f3 b.f4 b.f5 b.f6 = some (VD b.f0 b.f1 b.f2 b.f3 b.f4 b.f5 b.f6):=by
   unfold wQ.f
   rw [decide_eq_true (by omega:b.f6.length ≤ 1000000),decide_eq_true (by omega:b.f4.size ≤ 1000000)];rfl
  have hrv:=zVa b.f0 b.f1 b.f2 b.f3 b.f4 b.f5 b.f6 (by omega) b5 (by omega)
  have hp:qE.f b.f0 b.f1 b.f2 b.f3 b.f4 b.f5 b.f6 = some (wN b):=by
   unfold qE.f wN
   by_cases h1:b.f0 = 1
   ·rw [if_pos h1,decide_eq_true h1];rfl
   ·rw [if_neg h1,decide_eq_false h1];rfl
  generalize VD b.f0 b.f1 b.f2 b.f3 b.f4 b.f5 b.f6 = vb at hv hrv
  have hne:¬ (vb != vb) = true:=by simp
  refine Ev.step (fun k=>by rw [zZ.l1,hw,hd]) (zR q1 (zR q2 (Vb hv (Ev.bind hrv (yG hne (Vb hp ?_))))))
  unfold Jm at hr
  cases hpb:wN b with
  | true =>
   rw [hpb,if_pos rfl] at hr
   have e:wrap64 (S + g + b.f1) = S + (g + b.f1):=(pI (by omega) (by omega)).trans (by omega)
   rw [e]
   exact zR rfl hr
  | false =>
   rw [hpb,if_neg Bool.false_ne_true,Int.add_zero] at hr
   exact yG Bool.false_ne_true hr
theorem zzg (ws:List (List qZ)) (h:∀ w ∈ ws,(jr w).size ≤ 40000):∀ i,i ≤ ws.length → (wO (ws.take i)).size ≤ i * 40001
 | 0,_=>Nat.zero_le _
 | i + 1,hi=>by
  have h1:=zzg ws h i (by omega)
  have h2:=h ws[i] (List.getElem_mem (by omega))
  rw [List.take_succ_eq_append_getElem (by omega)]
  by_cases h0:ws.take i = []
  ·rw [h0]
   show (jr ws[i]).size ≤ _
   omega
  ·rw [XI _ _ h0,ByteArray.size_append,ByteArray.size_append,show (⟨#[32]⟩:ByteArray).size = 1 from rfl]
   omega
theorem zkN (n:Nat):∀ ws:List (List qZ),(∀ w ∈ ws,uG w ≤ (n:Int) ∧ -(n:Int) ≤ uG w) → jO ws ≤ (ws.length:Int) * (n:Int) ∧ -((ws.length:Int) * (n:Int)) ≤ jO ws
 | [],_=>by simp [jO]
 | w :: r,h=>by
  have h1:=zkN n r (fun x hx=>h x (.tail _ hx))
  have h2:=h w (.head _)
  have e:jO (w :: r) = uG w + jO r:=by simp [jO]
  have e2:(((w :: r).length:Nat):Int) * (n:Int) = (r.length:Int) * (n:Int) + (n:Int):=by rw [List.length_cons];push_cast;rw [Int.add_mul,Int.one_mul]
  rw [e,e2]
  omega
theorem rdW (ws:List (List qZ)) (i:Nat) (h:i < ws.length):qV ws (i:Int) = ws[i]:=by simp [qV,List.getD_eq_getElem?_getD,h]
theorem zV9 (l:List qZ) (hF:zjM l) (ws:List (List qZ)) (hwl:ws.length ≤ 301) (hw0:ws ≠ []) (hws:∀ w ∈ ws,w.length ≤ 300 ∧ ∀ b ∈ w,b ∈ l) (hS:jO ws + Zc l = uG l) (hT:wO ws = jr l) :
  ∀ d i,i + d = ws.length → Ev (fun k=>zZ.l0 k l (jO (ws.take i)) (wO (ws.take i)) ws ws (i:Int)) true:=by
 have hsz:∀ w ∈ ws,(jr w).size ≤ 40000:=fun w hw=>by
  have h1:=nU w 100 (fun b hb=>(hF.box b ((hws w hw).2 b hb)).2.1) w.length (Nat.le_refl _)
  rw [List.take_length] at h1
  have:=(hws w hw).1
  omega
 have hsw:∀ w ∈ ws,uG w ≤ ((329853488332800:Nat):Int) ∧ -((329853488332800:Nat):Int) ≤ uG w:=fun w hw=>by
  have h1:=zjI w (hF.narrow (hws w hw).2)
  have:=(hws w hw).1
  omega
 intro d
 induction d with
 | zero =>
  intro i h
  have e:ws.take i = ws:=List.take_of_length_le (by omega)
  have h1:=zV8 l hF (jO ws) (wO ws) hS hT l.length 0 (by omega)
  have e0:jO ws + Zc (l.take 0) = jO ws:=by simp [Zc]
  rw [e0] at h1
  rw [e]
  refine Ev.step (fun k=>by rw [zZ.l0]) (yG (by omega) ?_)
  exact h1
 | succ d ih =>
  intro i h
  have hi:i < ws.length:=by omega
  have hw:wrap64 ((i:Int) + 1) = ((i + 1:Nat):Int):=(pI (by omega) (by omega)).trans (by omega)
  have q1:(i:Int) < (ws.length:Int):=by omega
  have q2:(0:Int) ≤ (i:Int):=by omega
  have hd:=rdW ws i hi
  have hr:=ih (i + 1) (by omega)
  have hm:=List.getElem_mem hi
  obtain ⟨m1,m2⟩:=hws _ hm
  have z1:=hsz _ hm
  have z2:=hsw _ hm
  have z3:=zzg ws hsz i (by omega)
  have z4:=zkN 329853488332800 (ws.take i) (fun w hw=>hsw w (List.mem_of_mem_take hw))
  rw [List.length_take,Nat.min_eq_left (by omega)] at z4
  have hsame:=zVL ws[i] (by omega) (fun b hb=>by have:=(hF.box b (m2 b hb)).1;omega)
  have zdu:=zjH ws[i] (by omega)
  rw [fP _ (hF.narrow m2) (by omega)] at zdu
  have htx:=zkM ws[i] (by omega) (fun b hb=>(hF.box b (m2 b hb)).2.1)
  rw [List.take_succ_eq_append_getElem hi,rR,zj9] at hr
  have e:wrap64 (jO (ws.take i) + uG ws[i]) = jO (ws.take i) + uG ws[i]:=pI (by omega) (by omega)
  refine Ev.step (fun k=>by rw [zZ.l0,hw,hd]) (zR q1 (zR q2 (zR q1 (Ev.bind hsame (zR rfl (Ev.bind zdu ?_))))))
  rw [e]
  by_cases h0:(i:Int) > 0
  ·have hne:ws.take i ≠ []:=fun e=>by
    have:=congrArg List.length e
    rw [List.length_take,List.length_nil] at this
    omega
   rw [XI _ _ hne] at hr
   have s1:(wO (ws.take i)).size + 1 ≤ 9223372036854775807:=by omega
   have s2:(wO (ws.take i) ++ (⟨#[32]⟩:ByteArray)).size + (jr ws[i]).size ≤ 9223372036854775807:=by
    rw [ByteArray.size_append,show (⟨#[32]⟩:ByteArray).size = 1 from rfl];omega
   exact zR h0 (zR s1 (Vb htx (zR s2 hr)))
  ·obtain rfl:i = 0:=by omega
   have s1:(wO (ws.take 0)).size + (jr ws[0]).size ≤ 9223372036854775807:=by omega
   refine yG h0 (Vb htx (zR s1 (jR rfl ?_)))
   have e2:wO (ws.take 0) ++ jr ws[0] = wO (ws.take 0 ++ [ws[0]]):=zV5 _
   rw [e2]
   exact hr
theorem zbA (l:List qZ) (hF:zjM l):wX.f l = some (splitV l):=by
 unfold wX.f
 rw [if_pos]
 unfold zYp
 rw [Bool.and_eq_true,decide_eq_true_eq]
 have:=hF.len
 exact ⟨by omega,List.all_eq_true.2 fun b hb=>decide_eq_true (by have:=(hF.box b hb).1;omega)⟩
theorem zKz (l:List qZ) (h5:∀ b ∈ l,b.f5.size ≤ 9223372036854775807):Ev (fun k=>zZ.f k l) true:=by
 have zWM:Ev (fun k=>zZ.j0 k l true) true:=Ev.step (fun k=>by rw [zZ.j0]) (zR rfl (Vb zVs (Ev.now _)))
 refine Ev.congr (fun k=>by rw [zZ.f]) ?_
 by_cases hc:(l.length:Int) > 300
 ·exact zR hc zWM
 ·refine yG hc (Ev.bind (zdj l (by omega)) ?_)
  cases zvo:l.any zjg with
  | true=>exact zWM
  | false =>
   have hF:zjM l:=⟨by omega,zdv zvo,h5⟩
   have hWl:=zjH l (by omega)
   have hRl:=za9 l (by omega)
   have hTl:=zkM l (by omega) (fun b hb=>(hF.box b hb).2.1)
   have hrt:=zYL l (by omega) (fun b hb=>by have:=(hF.box b hb).2.1;omega)
   have hrs:=zVF l (by omega)
   have hsp:=zbA l hF
   obtain ⟨p1,p2,p3⟩:=zvz l l.length (Nat.le_refl _)
   rw [VL,List.take_length] at p1 p2
   rw [VL] at p3
   have hlen:(splitV l).length ≤ 301:=by
    have h1:=mZ l l.length (Nat.le_refl _)
    rw [← VL,List.length_append,List.length_singleton]
    omega
   have hne:splitV l ≠ []:=by rw [← VL];simp
   have h0:=zV9 l hF (splitV l) hlen hne (fun w hw=>⟨by have:=(p3 w hw).1;omega,(p3 w hw).2⟩) p1 p2 (splitV l).length 0 (by omega)
   have hb:((jr l).toList != (jr l).toList) = false:=by simp
   refine Ev.step (fun k=>by rw [zZ.j0]) (yG Bool.false_ne_true (Ev.bind hWl (Ev.bind hRl (zR rfl (Vb hTl (Ev.bind hrt ?_))))))
   rw [hb]
   refine Ev.step (fun k=>by rw [zZ.j1]) (yG Bool.false_ne_true (Vb hsp (Ev.bind hrs (zR rfl ?_))))
   exact h0
theorem zkO (A0:Option Addr) (c0:Nat) (l:List qZ) (w:World) (hG:GW w) (q0:l.length ≤ c0) (r0:Kd.C qK w A0 l.length l) (h5:∀ b ∈ l,b.f5.size ≤ 9223372036854775807) :
  Calls Tryz.prog 9 #[.slice A0 l.length c0] w fun e w'=>e = .returned (.bool true) ∧ Below w.heap.size w w':=by
 obtain ⟨k,hk⟩:=(zKz l h5).rounds
 exact zZ.calls k A0 c0 l true w r0 q0 hG hk
end Go.Proofs.YtggifbbiiickmaaGreatDoor
namespace Go.Proofs.YtggifbbiiickmaaGreatDoor
open Go.ChangeShapes Go.WideShapes Go.RowKit Go.Deep Go.Proofs.zx.zJ
section
variable {H:Type} {enc:TypeId × Value → H} {P:Program} {w:World} {sp:Nat → Bool} {held:Bool} {α:Type}
theorem zKq [Inhabited α] (d:Kd α) {t e:TypeId} (Good:α → DataW H → Prop) {r:Reach} {b0:Nat} {v:Value} {d0:DataW H} {ps:List MemPlace} (ht:P.underlying t = some (.slice e)) (hc:P.cellsOf e = d.sz)
  (dec:∀ n cs x,DataW.trod enc P w 0 sp held n e cs = some x → ∃ y:α,d.K w y cs ∧ Good y x.1)
  (hval:Value.okWide P w r b0 t v) (h:DataW.Trod enc P w 0 sp held t v d0 ps) :
  ∃ A c l,v = .slice A l.length c ∧ l.length ≤ c ∧ Kd.C d w A l.length l ∧ (l = [] ∨ ∃ elems spare,d0 = .slice elems spare ∧ elems.length = l.length ∧ ∀ x ∈ l,∃ D ∈ elems,Good x D):=by
 obtain ⟨a0,zJu,cap0,rfl⟩:=okWide_slice ht hval
 obtain ⟨fuel,hf⟩:=h
 rcases open_slice ht hf with ⟨hcs,_⟩ | ⟨a,len,cap,m,n,D,Pl,hcs,_,hl,hm,hmm,hx,hel⟩
 ·simp [Value.cells] at hcs
  obtain ⟨rfl,rfl,rfl⟩:=hcs
  exact ⟨none,0,[],rfl,Nat.le_refl _,⟨rfl,by simp,fun h=>by simp at h⟩,.inl rfl⟩
 ·simp [Value.cells] at hcs
  obtain ⟨rfl,rfl,rfl⟩:=hcs
  have hlm:zJu ≤ m:=by rw [hmm];split <;> omega
  obtain ⟨F,hF⟩:=choose_lt (α:=α) (p:=fun i y=>∃ cs',w.cells? 0 (a.add (i * d.sz)) d.sz = some cs' ∧ d.K w y cs' ∧ Good y (D i)) (n:=m) (fun i hi=>by
   obtain ⟨cs',h1,h2⟩:=hel i hi
   rw [hc] at h1
   obtain ⟨y,hy,hg⟩:=dec _ _ _ h2
   exact ⟨y,cs',h1,hy,hg⟩)
  refine ⟨some a,cap0,(List.range zJu).map F,by simp,by simpa using hl,⟨rfl,?_,fun _=>⟨a,rfl,fun j p hj=>?_⟩⟩,.inr ⟨_,_,(Prod.mk.inj hx).1,by simp,fun x hx=>?_⟩⟩
  ·have:maxLen = 9223372036854775807:=rfl
   simp;omega
  ·have hj2:j < zJu:=by
    rcases Nat.lt_or_ge j zJu with h1 | h1
    ·exact h1
    ·rw [List.getElem?_eq_none (by simpa using h1)] at hj;cases hj
   rw [List.getElem?_map,List.getElem?_range hj2] at hj
   cases hj
   obtain ⟨cs',h1,h2,_⟩:=hF j (by omega)
   obtain ⟨_,h3,h4⟩:=World.cells?_some h1
   refine ⟨cs',h3,h2,fun i u hu=>?_⟩
   have hi:i < d.sz:=by
    rw [← h3]
    rcases Nat.lt_or_ge i cs'.length with h1 | h1
    ·exact h1
    ·rw [List.getElem?_eq_none h1] at hu;cases hu
   have:=h4 i hi
   rw [Go.Deep.add_add] at this
   rw [this,hu]
  ·obtain ⟨i,hi,rfl⟩:=List.mem_map.1 hx
   have hi2:=List.mem_range.1 hi
   obtain ⟨_,_,_,hg⟩:=hF i (by omega)
   exact ⟨D i,List.mem_map.2 ⟨i,hi,rfl⟩,hg⟩
end
end Go.Proofs.YtggifbbiiickmaaGreatDoor
namespace Go.Proofs.YtggifbbiiickmaaGreatDoor
open Go.ChangeShapes Go.WideShapes Go.RowKit Go.Deep Go.Proofs.zx.zJ Go.Proofs.YtggifbbiiickmaaGreatDoor.PX
section
variable {H:Type} {enc:TypeId × Value → H} {w:World} {sp:Nat → Bool} {held:Bool}
end
end Go.Proofs.YtggifbbiiickmaaGreatDoor
namespace Go.Proofs.YtggifbbiiickmaaGreatDoor
open Go.ChangeShapes Go.WideShapes Go.RowKit Go.Deep Go.Proofs.zx.zJ Go.Proofs.YtggifbbiiickmaaGreatDoor.PX
set_option linter.unusedSimpArgs false
set_option linter.unusedVariables false
section
variable {H:Type} {enc:TypeId × Value → H} {w:World} {sp:Nat → Bool} {held:Bool}
theorem zKx {α:Type} [Inhabited α] (d:Kd α) {P:Program} {t e:TypeId} (Good:α → DataW H → Prop) {fuel:Nat} {cs:List Value} {x:DataW H × List MemPlace} (ht:P.underlying t = some (.slice e)) (hc:P.cellsOf e = d.sz)
  (dec:∀ n cs x,DataW.trod enc P w 0 sp held n e cs = some x → ∃ y:α,d.K w y cs ∧ Good y x.1) (h:DataW.trod enc P w 0 sp held fuel t cs = some x) :
  ∃ A c l,cs = [.slice A l.length c] ∧ l.length ≤ c ∧ Kd.C d w A l.length l ∧ (l = [] ∨ ∃ elems spare,x.1 = .slice elems spare ∧ elems.length = l.length ∧ ∀ y ∈ l,∃ D ∈ elems,Good y D):=by
 rcases open_slice ht h with ⟨hcs,_⟩ | ⟨a,len,cap,m,n,D,Pl,hcs,_,hl,hm,hmm,hx,hel⟩
 ·exact ⟨none,0,[],hcs,Nat.le_refl _,⟨rfl,by simp,fun h=>by simp at h⟩,.inl rfl⟩
 ·have hlm:len ≤ m:=by rw [hmm];split <;> omega
  obtain ⟨F,hF⟩:=choose_lt (α:=α) (p:=fun i y=>∃ cs',w.cells? 0 (a.add (i * d.sz)) d.sz = some cs' ∧ d.K w y cs' ∧ Good y (D i)) (n:=m) (fun i hi=>by
   obtain ⟨cs',h1,h2⟩:=hel i hi
   rw [hc] at h1
   obtain ⟨y,hy,hg⟩:=dec _ _ _ h2
   exact ⟨y,cs',h1,hy,hg⟩)
  refine ⟨some a,cap,(List.range len).map F,by simp [hcs],by simpa using hl,⟨rfl,?_,fun _=>⟨a,rfl,fun j p hj=>?_⟩⟩,.inr ⟨_,_,by rw [hx],by simp,fun y hy=>?_⟩⟩
  ·have:maxLen = 9223372036854775807:=rfl
   simp;omega
  ·have hj2:j < len:=by
    rcases Nat.lt_or_ge j len with h1 | h1
    ·exact h1
    ·rw [List.getElem?_eq_none (by simpa using h1)] at hj;cases hj
   rw [List.getElem?_map,List.getElem?_range hj2] at hj
   cases hj
   obtain ⟨cs',h1,h2,_⟩:=hF j (by omega)
   obtain ⟨_,h3,h4⟩:=World.cells?_some h1
   refine ⟨cs',h3,h2,fun i u hu=>?_⟩
   have hi:i < d.sz:=by
    rw [← h3]
    rcases Nat.lt_or_ge i cs'.length with h1 | h1
    ·exact h1
    ·rw [List.getElem?_eq_none h1] at hu;cases hu
   have:=h4 i hi
   rw [Go.Deep.add_add] at this
   rw [this,hu]
  ·obtain ⟨i,hi,rfl⟩:=List.mem_map.1 hy
   have hi2:=List.mem_range.1 hi
   obtain ⟨_,_,_,hg⟩:=hF i (by omega)
   exact ⟨D i,List.mem_map.2 ⟨i,hi,rfl⟩,hg⟩
instance:Inhabited pX:=⟨z60⟩
end
end Go.Proofs.YtggifbbiiickmaaGreatDoor
namespace Go.Proofs.YtggifbbiiickmaaGreatDoor
open Go.ChangeShapes Go.WideShapes Go.RowKit Go.Deep Go.Proofs.zx.zJ Go.Proofs.YtggifbbiiickmaaGreatDoor.PX
set_option linter.unusedSimpArgs false
set_option linter.unusedVariables false
section
variable {H:Type} {enc:TypeId × Value → H} {w:World} {sp:Nat → Bool} {held:Bool}
instance:Inhabited Z6:=⟨z80⟩
end
end Go.Proofs.YtggifbbiiickmaaGreatDoor
namespace Go.Proofs.YtggifbbiiickmaaGreatDoor
open Go.ChangeShapes Go.WideShapes Go.RowKit Go.Deep Go.Proofs.zx.zJ Go.Proofs.YtggifbbiiickmaaGreatDoor.PX
set_option linter.unusedSimpArgs false
set_option linter.unusedVariables false
section
variable {H:Type} {enc:TypeId × Value → H} {w:World} {sp:Nat → Bool} {held:Bool}
instance:Inhabited yD:=⟨z53⟩
theorem zhI (n:Nat) (cs:List Value) (x:DataW H × List MemPlace) (h:DataW.trod enc Tryz.prog w 0 sp held n 3 cs = some x):∃ y:Int,(Kd.int .i64).K w y cs ∧ True:=by
 obtain ⟨n0,e0,_⟩:=DataW.trod_int Tryz.underlying3 h
 exact ⟨n0,e0,trivial⟩
set_option maxRecDepth 100000 in
theorem zhL (n:Nat) (cs:List Value) (x:DataW H × List MemPlace) (h:DataW.trod enc Tryz.prog w 0 sp held n 53 cs = some x):∃ y:yD,qK.K w y cs ∧ y.f5.size ≤ 9223372036854775807:=by
 obtain ⟨xs,k,hk,hxy,hcl,hxl,hf⟩:=DataW.trod_struct Tryz.underlying53 h
 have c0:Tryz.prog.cellsOf 53 = 7:=by kernel_rfl
 have c3:Tryz.prog.cellsOf 3 = 1:=by kernel_rfl
 have c9:Tryz.prog.cellsOf 9 = 1:=by kernel_rfl
 have cG:Tryz.prog.cellsOf 51 = 1:=by kernel_rfl
 rw [c0] at hcl
 match xs,hxl,cs,hcl with
 | [y0,y1,y2,y3,y4,y5,y6],_,[v0,v1,v2,v3,v4,v5,v6],_ =>
  have g0:=hf 0 _ rfl
  have g1:=hf 1 _ rfl
  have g2:=hf 2 _ rfl
  have g3:=hf 3 _ rfl
  have g4:=hf 4 _ rfl
  have g5:=hf 5 _ rfl
  have g6:=hf 6 _ rfl
  simp [c3,c9,cG] at g0 g1 g2 g3 g4 g5 g6
  obtain ⟨n0,e0,_⟩:=DataW.trod_int Tryz.underlying3 g0
  obtain ⟨n1,e1,_⟩:=DataW.trod_int Tryz.underlying3 g1
  obtain ⟨n2,e2,_⟩:=DataW.trod_int Tryz.underlying3 g2
  obtain ⟨n3,e3,_⟩:=DataW.trod_int Tryz.underlying3 g3
  obtain ⟨n4,e4,_⟩:=DataW.trod_string Tryz.underlying9 g4
  obtain ⟨n5,e5,_,b5⟩:=DataW.trod_string Tryz.underlying9 g5
  obtain ⟨A6,c6,l6,e6,q6,r6,_⟩:=zKx (Kd.int .i64) (fun (_:Int) (_:DataW H)=>True) Tryz.underlying51 (by kernel_rfl) zhI g6
  cases e0;cases e1;cases e2;cases e3;cases e4;cases e5;cases e6
  exact ⟨⟨n0,n1,n2,n3,n4,n5,l6⟩,zJ1 w ⟨n0,n1,n2,n3,n4,n5,l6⟩ q6 r6,b5⟩
set_option maxRecDepth 100000 in
theorem zJA {r:Reach} {b0:Nat} {v:Value} {d0:DataW H} {ps:List MemPlace} (hval:Value.okWide Tryz.prog w r b0 34 v) (h:DataW.Trod enc Tryz.prog w 0 sp held 34 v d0 ps) :
  ∃ A c l,v = .slice A l.length c ∧ l.length ≤ c ∧ Kd.C qK w A l.length l ∧ ∀ b ∈ l,b.f5.size ≤ 9223372036854775807:=by
 obtain ⟨A,c,l,e,h1,h2,h3⟩:=zKq qK (fun (y:yD) (_:DataW H)=>y.f5.size ≤ 9223372036854775807) Tryz.underlying34 (by kernel_rfl) zhL hval h
 refine ⟨A,c,l,e,h1,h2,fun b hb=>?_⟩
 rcases h3 with rfl | ⟨_,_,_,_,h4⟩
 ·cases hb
 ·obtain ⟨_,_,h⟩:=h4 b hb
  exact h
end
end Go.Proofs.YtggifbbiiickmaaGreatDoor
namespace Go.Proofs.YtggifbbiiickmaaGreatDoor
open Go.RowKit Go.ChangeShapes Go.WideShapes Go.Proofs.zx.zJ
theorem mM {P:Program} {w:World} {l:List (String × DataW Unit)} {n nm:String} {d:DataW Unit} {g:Nat} {t:TypeId} {ms:Array (String × TypeId)} (h:laidMet P l w) (hm:(n,.iface nm d) ∈ l)
  (hg:P.globalNamed n = some g) (ht:(P.globals[g]?).map (·.type) = some t) (hu:P.underlying t = some (.interface ms)):∃ tp p,w.var? P n = some #[.iface tp p]:=by
 obtain ⟨g',t',cs,fuel,p,e1,e2,e3,e4⟩:=Lib.laidMet.reads h hm
 obtain rfl:g' = g:=Option.some.inj (e1.symm.trans hg)
 obtain rfl:t' = t:=Option.some.inj (e2.symm.trans ht)
 cases fuel with
 | zero=>simp [DataW.trod] at e4
 | succ k =>
  unfold DataW.trod at e4
  rw [hu] at e4
  obtain ⟨cl⟩:=cs
  rw [e3]
  match cl,e4 with
  | [],e4=>simp at e4
  | [v],e4 =>
   cases v <;> simp at e4
   exact ⟨_,_,rfl⟩
  | _ :: _ :: _,e4=>simp at e4
theorem zfP {W:World} {l:List (String × DataW Unit)} {ds:DataW Unit} {dr:DataW Unit} {n1 n2:String} (h:laidMet Tryz.prog l W) (hsh:W.ShapedOpen Tryz.prog) (h1:("internal/strconv.uint64pow10",Lib.tabData .u64 Lib.pow10Tab) ∈ l) (h2:("strconv.ErrSyntax",.iface n1 ds) ∈ l) (h3:("strconv.ErrRange",.iface n2 dr) ∈ l) (h4:("strings.asciiSpace",Lib.tabData .u8 Lib.asciiSpaceTab) ∈ l):GW W:=by
 have htab:Lib.TabIs Tryz.prog W "internal/strconv.uint64pow10" .u64 Lib.pow10Tab:=mH (g:=7) (t:=270) (e:=214) (n:=20) (by kernel_rfl) (by kernel_rfl) Tryz.underlying270 Tryz.underlying214 (by kernel_rfl) (by kernel_rfl) h h1
 have zhM:Lib.TabIs Tryz.prog W "strings.asciiSpace" .u8 Lib.asciiSpaceTab:=mH (g:=0) (t:=169) (e:=5) (n:=256) (by kernel_rfl) (by kernel_rfl) Tryz.underlying169 Tryz.underlying5 (by kernel_rfl) (by kernel_rfl) h h4
 refine ⟨htab,mM (g:=3) h h2 (by kernel_rfl) (t:=133) (by kernel_rfl) Tryz.underlying133,mM (g:=4) h h3 (by kernel_rfl) (t:=133) (by kernel_rfl) Tryz.underlying133,zhM,
  cell_of_shapedOpen_int (t:=3) (zero:=#[.int .i64 0]) hsh (of_decide_eq_true (by kernel_rfl)) (by kernel_rfl) rfl (by kernel_rfl) (by kernel_rfl) Tryz.underlying3,?_⟩
 obtain ⟨o,_,h4,_⟩:=hsh.2 11 (of_decide_eq_true (by kernel_rfl)) (of_decide_eq_true (by kernel_rfl))
 rcases Nat.lt_or_ge 11 W.heap.size with h5 | h5
 ·omega
 ·rw [Array.getElem?_eq_none h5] at h4;cases h4
end Go.Proofs.YtggifbbiiickmaaGreatDoor
