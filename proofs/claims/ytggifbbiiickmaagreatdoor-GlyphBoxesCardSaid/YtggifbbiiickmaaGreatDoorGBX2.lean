/-
  Texts that lean on one another, laid in one file. No condition.
-/
import Derived.Test.YtggifbbiiickmaaGreatDoorGBX1
import Derived.IntWalk
import Derived.Outline
import Derived.Lib.Hide
import Derived.StillTailTactics
import Derived.StillTactics
import Derived.Deep.RegionHeld3
import Derived.Shelf.SlicesQ.IndexFunc
import Derived.Deep.QuietTactic
import Derived.BigQuiet
import Derived.RangeFuncRecord
import Derived.Laws.EntriesVeiled
import Derived.Sort.Walk0
namespace Go.Proofs.YtggifbbiiickmaaGreatDoor.PX
open Go.RowKit Go.Proofs.zk.zu Go.Proofs.zk.yD Go.Proofs.zk.yA
attribute [local go_sem] xP xR vG vH xB xC xS xU   -- for this text's walks alone
set_option linter.unusedVariables false
set_option linter.unusedSimpArgs false
def QE.f  : Option ((List (xX))):=some (([(⟨(⟨#[102]⟩:ByteArray),(⟨#[102]⟩:ByteArray),(⟨#[102,102]⟩:ByteArray)⟩:xX),(⟨(⟨#[102]⟩:ByteArray),(⟨#[105]⟩:ByteArray),(⟨#[102,105]⟩:ByteArray)⟩:xX),(⟨(⟨#[102]⟩:ByteArray),(⟨#[108]⟩:ByteArray),(⟨#[102,108]⟩:ByteArray)⟩:xX)]:List (xX)))
set_option maxHeartbeats 8000000 in
set_option maxRecDepth 100000 in
theorem QE.calls  (r:List (xX)) (w:World) (h:QE.f  = some r) :
  Calls Tryz.prog 56 #[] w fun e w'=>∃ Qo:Value,e = .returned (Qo) ∧ Kd.R kS 108 w' w.heap.size (fun _=>True) Qo r ∧ Below w.heap.size w w':=by
 have zDV:=Tryz.underlying108
 have HB:=zx.mk (Below.refl w.heap.size w)
 have H:(some (([(⟨(⟨#[102]⟩:ByteArray),(⟨#[102]⟩:ByteArray),(⟨#[102,102]⟩:ByteArray)⟩:xX),(⟨(⟨#[102]⟩:ByteArray),(⟨#[105]⟩:ByteArray),(⟨#[102,105]⟩:ByteArray)⟩:xX),(⟨(⟨#[102]⟩:ByteArray),(⟨#[108]⟩:ByteArray),(⟨#[102,108]⟩:ByteArray)⟩:xX)]:List (xX)))) = some r:=h
 clear h
 obtain ⟨zrK,zvX⟩:∃ y_:List (xX),y_ = (([(⟨(⟨#[102]⟩:ByteArray),(⟨#[102]⟩:ByteArray),(⟨#[102,102]⟩:ByteArray)⟩:xX),(⟨(⟨#[102]⟩:ByteArray),(⟨#[105]⟩:ByteArray),(⟨#[102,105]⟩:ByteArray)⟩:xX),(⟨(⟨#[102]⟩:ByteArray),(⟨#[108]⟩:ByteArray),(⟨#[102,108]⟩:ByteArray)⟩:xX)]:List (xX))):=⟨_,rfl⟩
 replace H:(some zrK) = some r:=by first | (rw [zvX];with_reducible exact H) | (have jH:=(Option.bind_some _ _).symm.trans H;rw [zvX];with_reducible exact jH) | (have jH:=(Option.bind_some _ _).symm.trans H;with_reducible exact jH) | with_reducible exact H | (rw [zvX];exact H) | exact H
 have zeT:=zx.mk zvX
 clear zvX
 obtain rfl:=Option.some.inj H
 go_enter Tryz.func56,Tryz.ntmps56
 go_wp2_with (first | ((with_reducible refine qA (N:=4) rfl ?_);refine Kd.sP kS _ 108 ?hg (N:=4) ?hd (xs:=([(⟨(⟨#[102]⟩:ByteArray),(⟨#[102]⟩:ByteArray),(⟨#[102,102]⟩:ByteArray)⟩:xX),(⟨(⟨#[102]⟩:ByteArray),(⟨#[105]⟩:ByteArray),(⟨#[102,105]⟩:ByteArray)⟩:xX),(⟨(⟨#[102]⟩:ByteArray),(⟨#[108]⟩:ByteArray),(⟨#[102,108]⟩:ByteArray)⟩:xX)]:List (xX))) (inner:=[.string (⟨#[102]⟩:ByteArray),.string (⟨#[102]⟩:ByteArray),.string (⟨#[102,102]⟩:ByteArray),.string (⟨#[102]⟩:ByteArray),.string (⟨#[105]⟩:ByteArray),.string (⟨#[102,105]⟩:ByteArray),.string (⟨#[102]⟩:ByteArray),.string (⟨#[108]⟩:ByteArray),.string (⟨#[102,108]⟩:ByteArray)]) (ok:=fun _=>True) (kD:=fun _=>True) ?hr ?hp (fun _ hk=>hk) trivial (Below.refl _ _) (Nat.le_refl _) (by simp) ?_;(case hd=>rfl);(case hg=>rfl);(case hr=>first | (go_simp;done) | (go_simp;rfl));(case hp=>exact (xY.c3 (show Kd.M kS _ _ _ (⟨(⟨#[102]⟩:ByteArray),(⟨#[102]⟩:ByteArray),(⟨#[102,102]⟩:ByteArray)⟩:xX) [.string (⟨#[102]⟩:ByteArray),.string (⟨#[102]⟩:ByteArray),.string (⟨#[102,102]⟩:ByteArray)] from (zjj _ _ _ (⟨(⟨#[102]⟩:ByteArray),(⟨#[102]⟩:ByteArray),(⟨#[102,102]⟩:ByteArray)⟩:xX) )) (xY.c3 (show Kd.M kS _ _ _ (⟨(⟨#[102]⟩:ByteArray),(⟨#[105]⟩:ByteArray),(⟨#[102,105]⟩:ByteArray)⟩:xX) [.string (⟨#[102]⟩:ByteArray),.string (⟨#[105]⟩:ByteArray),.string (⟨#[102,105]⟩:ByteArray)] from (zjj _ _ _ (⟨(⟨#[102]⟩:ByteArray),(⟨#[105]⟩:ByteArray),(⟨#[102,105]⟩:ByteArray)⟩:xX) )) (xY.c3 (show Kd.M kS _ _ _ (⟨(⟨#[102]⟩:ByteArray),(⟨#[108]⟩:ByteArray),(⟨#[102,108]⟩:ByteArray)⟩:xX) [.string (⟨#[102]⟩:ByteArray),.string (⟨#[108]⟩:ByteArray),.string (⟨#[102,108]⟩:ByteArray)] from (zjj _ _ _ (⟨(⟨#[102]⟩:ByteArray),(⟨#[108]⟩:ByteArray),(⟨#[102,108]⟩:ByteArray)⟩:xX) )) (xY.none _ _)))));intro zEb w1 ho2 hb hg_ gH;clear hg_ gH;(first | rw [← zeT.out] at ho2 | (simp only [Int.reduceToNat] at ho2;rw [← zeT.out] at ho2));have zW:=zx.mk (Kd.uI ho2 (zf (zG HB.out)));have zh:=zx.mk (zC (zG HB.out) hb);clear HB;have znb:=zW;have HB:=zh;clear zW zh;clear hb ho2))
 go_ret
 exact ⟨_,by first | rfl | (simp [zH,zI] <;> rfl) | (simp [*,zH,zI] <;> rfl),by (with_reducible repeat (first | apply Kd.Ym | apply Kd.Yn | apply Kd.uw));exact znb.out,by repeat (first | (with_reducible first | exact HB.out | apply yX | apply zL | apply zR) | exact HB.out)⟩
def cmp_isNaN_string.f (a0:ByteArray):Option (Bool):=some (a0.toList != a0.toList)
set_option maxHeartbeats 8000000 in
set_option maxRecDepth 100000 in
theorem cmp_isNaN_string.calls (a0:ByteArray) (r:Bool) (w:World) (h:cmp_isNaN_string.f a0 = some r) :
  Calls Tryz.prog 132 #[.string a0] w fun e w'=>e = .returned (.bool r) ∧ yt w w':=by
 have H:(some (a0.toList != a0.toList)) = some r:=h
 clear h
 obtain rfl:=Option.some.inj H
 go_enter Tryz.func132,Tryz.ntmps132
 go_wp2
 go_ret
 exact ⟨by first | rfl | (simp;done) | (simp [*];done),by repeat (first | exact yt.refl _ | apply yt.step)⟩
def jY.f (a0:ByteArray) (a1:ByteArray):Option (Int):=(cmp_isNaN_string.f a0).bind fun zjy=>((cmp_isNaN_string.f a1).bind fun V7=>(if zjy = true then (if V7 = true then (some 0) else (some (-1))) else (if V7 = true then (some 1) else (if (Op.bytesLess a0.toList a1.toList) = true then (some (-1)) else (if (Op.bytesLess a1.toList a0.toList) = true then (some 1) else (some 0))))))
set_option maxHeartbeats 8000000 in
set_option maxRecDepth 100000 in
theorem jY.calls (a0:ByteArray) (a1:ByteArray) (r:Int) (w:World) (h:jY.f a0 a1 = some r) :
  Calls Tryz.prog 91 #[.string a0,.string a1] w fun e w'=>e = .returned (.int .i64 r) ∧ yt w w':=by
 have H:((cmp_isNaN_string.f a0).bind fun zjy=>((cmp_isNaN_string.f a1).bind fun V7=>(if zjy = true then (if V7 = true then (some 0) else (some (-1))) else (if V7 = true then (some 1) else (if (Op.bytesLess a0.toList a1.toList) = true then (some (-1)) else (if (Op.bytesLess a1.toList a0.toList) = true then (some 1) else (some 0))))))) = some r:=h
 clear h
 replace H:=Option.bind_eq_some_iff.mp H
 obtain ⟨zjy,A30,H⟩:=H
 replace H:((cmp_isNaN_string.f a1).bind fun V7=>(if zjy = true then (if V7 = true then (some 0) else (some (-1))) else (if V7 = true then (some 1) else (if (Op.bytesLess a0.toList a1.toList) = true then (some (-1)) else (if (Op.bytesLess a1.toList a0.toList) = true then (some 1) else (some 0)))))) = some r:=H
 have A3:=zx.mk A30
 clear A30
 replace H:=Option.bind_eq_some_iff.mp H
 obtain ⟨V7,gW,H⟩:=H
 replace H:(if zjy = true then (if V7 = true then (some 0) else (some (-1))) else (if V7 = true then (some 1) else (if (Op.bytesLess a0.toList a1.toList) = true then (some (-1)) else (if (Op.bytesLess a1.toList a0.toList) = true then (some 1) else (some 0))))) = some r:=H
 have A4:=zx.mk gW
 clear gW
 by_cases c5:zjy = true
 ·subst c5
  have H1:(if V7 = true then (some 0) else (some (-1))) = some r:=by rw [if_pos rfl] at H;exact H
  clear H
  have H:=H1
  clear H1
  by_cases c6:V7 = true
  ·subst c6
   have H1:(some 0) = some r:=by rw [if_pos rfl] at H;exact H
   clear H
   have H:=H1
   clear H1
   obtain rfl:=Option.some.inj H
   go_enter Tryz.func91,Tryz.ntmps91
   go_wp2_with (first | ((with_reducible refine yE (f:=132) rfl ?_);refine jg (some 8) Tryz.func132 #[.string a0] ?_;(with_reducible refine (cmp_isNaN_string.calls a0 true _ A3.out).mono ?_);rintro e w' ⟨rfl,⟨nd,rfl⟩⟩;refine ⟨_,rfl,?_⟩) | ((with_reducible refine yE (f:=132) rfl ?_);refine jg (some 10) Tryz.func132 #[.string a1] ?_;(with_reducible refine (cmp_isNaN_string.calls a1 true _ A4.out).mono ?_);rintro e w' ⟨rfl,⟨nd,rfl⟩⟩;refine ⟨_,rfl,?_⟩))
   go_ret
   exact ⟨by first | rfl | (simp;done) | (simp [*];done),by repeat (first | exact yt.refl _ | apply yt.step)⟩
  ·replace c6:=Bool.eq_false_iff.mpr c6
   subst c6
   have H1:(some (-1)) = some r:=by rw [if_neg (show ¬ (false = true) by decide)] at H;exact H
   clear H
   have H:=H1
   clear H1
   obtain rfl:=Option.some.inj H
   go_enter Tryz.func91,Tryz.ntmps91
   go_wp2_with (first | ((with_reducible refine yE (f:=132) rfl ?_);refine jg (some 8) Tryz.func132 #[.string a0] ?_;(with_reducible refine (cmp_isNaN_string.calls a0 true _ A3.out).mono ?_);rintro e w' ⟨rfl,⟨nd,rfl⟩⟩;refine ⟨_,rfl,?_⟩) | ((with_reducible refine yE (f:=132) rfl ?_);refine jg (some 10) Tryz.func132 #[.string a1] ?_;(with_reducible refine (cmp_isNaN_string.calls a1 false _ A4.out).mono ?_);rintro e w' ⟨rfl,⟨nd,rfl⟩⟩;refine ⟨_,rfl,?_⟩))
   go_ret
   exact ⟨by first | rfl | (simp;done) | (simp [*];done),by repeat (first | exact yt.refl _ | apply yt.step)⟩
 ·replace c5:=Bool.eq_false_iff.mpr c5
  subst c5
  have H1:(if V7 = true then (some 1) else (if (Op.bytesLess a0.toList a1.toList) = true then (some (-1)) else (if (Op.bytesLess a1.toList a0.toList) = true then (some 1) else (some 0)))) = some r:=by rw [if_neg (show ¬ (false = true) by decide)] at H;exact H
  clear H
  have H:=H1
  clear H1
  by_cases c7:V7 = true
  ·subst c7
   have H1:(some 1) = some r:=by rw [if_pos rfl] at H;exact H
   clear H
   have H:=H1
   clear H1
   obtain rfl:=Option.some.inj H
   go_enter Tryz.func91,Tryz.ntmps91
   go_wp2_with (first | ((with_reducible refine yE (f:=132) rfl ?_);refine jg (some 8) Tryz.func132 #[.string a0] ?_;(with_reducible refine (cmp_isNaN_string.calls a0 false _ A3.out).mono ?_);rintro e w' ⟨rfl,⟨nd,rfl⟩⟩;refine ⟨_,rfl,?_⟩) | ((with_reducible refine yE (f:=132) rfl ?_);refine jg (some 10) Tryz.func132 #[.string a1] ?_;(with_reducible refine (cmp_isNaN_string.calls a1 true _ A4.out).mono ?_);rintro e w' ⟨rfl,⟨nd,rfl⟩⟩;refine ⟨_,rfl,?_⟩))
   go_ret
   exact ⟨by first | rfl | (simp;done) | (simp [*];done),by repeat (first | exact yt.refl _ | apply yt.step)⟩
  ·replace c7:=Bool.eq_false_iff.mpr c7
   subst c7
   have H1:(if (Op.bytesLess a0.toList a1.toList) = true then (some (-1)) else (if (Op.bytesLess a1.toList a0.toList) = true then (some 1) else (some 0))) = some r:=by rw [if_neg (show ¬ (false = true) by decide)] at H;exact H
   clear H
   have H:=H1
   clear H1
   by_cases c8:(Op.bytesLess a0.toList a1.toList) = true
   ·rw [if_pos c8] at H
    have Zt:(Op.bytesLess a0.toList a1.toList) = true:=c8
    have zrY:(!(Op.bytesLess a1.toList a0.toList || a1.toList == a0.toList)) = true:=(mQ _ _).trans (c8)
    have zrW:(a0.toList == a1.toList) = false:=zYD (c8)
    have zra:(a1.toList == a0.toList) = false:=zwD (c8)
    have zEc:Op.bytesLess a1.toList a0.toList = false:=zkq (c8)
    clear c8
    obtain rfl:=Option.some.inj H
    go_enter Tryz.func91,Tryz.ntmps91
    go_wp2_with (first | ((with_reducible refine yE (f:=132) rfl ?_);refine jg (some 8) Tryz.func132 #[.string a0] ?_;(with_reducible refine (cmp_isNaN_string.calls a0 false _ A3.out).mono ?_);rintro e w' ⟨rfl,⟨nd,rfl⟩⟩;refine ⟨_,rfl,?_⟩) | ((with_reducible refine yE (f:=132) rfl ?_);refine jg (some 10) Tryz.func132 #[.string a1] ?_;(with_reducible refine (cmp_isNaN_string.calls a1 false _ A4.out).mono ?_);rintro e w' ⟨rfl,⟨nd,rfl⟩⟩;refine ⟨_,rfl,?_⟩))
    go_ret
    exact ⟨by first | rfl | (simp;done) | (simp [*];done),by repeat (first | exact yt.refl _ | apply yt.step)⟩
   ·rw [if_neg c8] at H
    have Zt:(Op.bytesLess a0.toList a1.toList) = false:=by simpa using c8
    have zrY:(!(Op.bytesLess a1.toList a0.toList || a1.toList == a0.toList)) = false:=(mQ _ _).trans (by simpa using c8)
    try have zrW:(a0.toList == a1.toList) = true:=zxx (x:=a0.toList) (y:=a1.toList) (by assumption) (by assumption)
    try have zra:(a1.toList == a0.toList) = true:=zxx (x:=a1.toList) (y:=a0.toList) (by assumption) (by assumption)
    clear c8
    by_cases c9:(Op.bytesLess a1.toList a0.toList) = true
    ·rw [if_pos c9] at H
     have zqf:(Op.bytesLess a1.toList a0.toList) = true:=c9
     have zrb:(!(Op.bytesLess a0.toList a1.toList || a0.toList == a1.toList)) = true:=(mQ _ _).trans (c9)
     have zrc:(a1.toList == a0.toList) = false:=zYD (c9)
     have zrd:(a0.toList == a1.toList) = false:=zwD (c9)
     have zEd:Op.bytesLess a0.toList a1.toList = false:=zkq (c9)
     clear c9
     obtain rfl:=Option.some.inj H
     go_enter Tryz.func91,Tryz.ntmps91
     go_wp2_with (first | ((with_reducible refine yE (f:=132) rfl ?_);refine jg (some 8) Tryz.func132 #[.string a0] ?_;(with_reducible refine (cmp_isNaN_string.calls a0 false _ A3.out).mono ?_);rintro e w' ⟨rfl,⟨nd,rfl⟩⟩;refine ⟨_,rfl,?_⟩) | ((with_reducible refine yE (f:=132) rfl ?_);refine jg (some 10) Tryz.func132 #[.string a1] ?_;(with_reducible refine (cmp_isNaN_string.calls a1 false _ A4.out).mono ?_);rintro e w' ⟨rfl,⟨nd,rfl⟩⟩;refine ⟨_,rfl,?_⟩))
     go_ret
     exact ⟨by first | rfl | (simp;done) | (simp [*];done),by repeat (first | exact yt.refl _ | apply yt.step)⟩
    ·rw [if_neg c9] at H
     have zqf:(Op.bytesLess a1.toList a0.toList) = false:=by simpa using c9
     have zrb:(!(Op.bytesLess a0.toList a1.toList || a0.toList == a1.toList)) = false:=(mQ _ _).trans (by simpa using c9)
     try have zrc:(a1.toList == a0.toList) = true:=zxx (x:=a1.toList) (y:=a0.toList) (by assumption) (by assumption)
     try have zrd:(a0.toList == a1.toList) = true:=zxx (x:=a0.toList) (y:=a1.toList) (by assumption) (by assumption)
     clear c9
     obtain rfl:=Option.some.inj H
     go_enter Tryz.func91,Tryz.ntmps91
     go_wp2_with (first | ((with_reducible refine yE (f:=132) rfl ?_);refine jg (some 8) Tryz.func132 #[.string a0] ?_;(with_reducible refine (cmp_isNaN_string.calls a0 false _ A3.out).mono ?_);rintro e w' ⟨rfl,⟨nd,rfl⟩⟩;refine ⟨_,rfl,?_⟩) | ((with_reducible refine yE (f:=132) rfl ?_);refine jg (some 10) Tryz.func132 #[.string a1] ?_;(with_reducible refine (cmp_isNaN_string.calls a1 false _ A4.out).mono ?_);rintro e w' ⟨rfl,⟨nd,rfl⟩⟩;refine ⟨_,rfl,?_⟩))
     go_ret
     exact ⟨by first | rfl | (simp;done) | (simp [*];done),by repeat (first | exact yt.refl _ | apply yt.step)⟩
end Go.Proofs.YtggifbbiiickmaaGreatDoor.PX
namespace Go.Proofs.YtggifbbiiickmaaGreatDoor
open Go.RowKit Go.Shelf Go.Proofs.zk.zu Go.Proofs.zk.yA Go.Proofs.YtggifbbiiickmaaGreatDoor.PX
def uM (a b:ByteArray):Int:=if Op.bytesLess a.toList b.toList = true then -1 else if Op.bytesLess b.toList a.toList = true then 1 else 0
theorem UQ (a b:ByteArray):jY.f a b = some (uM a b):=by
 have e1:cmp_isNaN_string.f a = some false:=by unfold cmp_isNaN_string.f;simp
 have e2:cmp_isNaN_string.f b = some false:=by unfold cmp_isNaN_string.f;simp
 unfold jY.f uM
 rw [e1,e2]
 simp only [Option.bind_some,Bool.false_eq_true,if_false]
 by_cases h1:Op.bytesLess a.toList b.toList = true
 ·rw [if_pos h1,if_pos h1]
 ·rw [if_neg h1,if_neg h1]
  by_cases h2:Op.bytesLess b.toList a.toList = true
  ·rw [if_pos h2,if_pos h2]
  ·rw [if_neg h2,if_neg h2]
theorem zx6 (a b:ByteArray) (w:World):Calls Tryz.prog 91 #[.string a,.string b] w fun e w'=>e = .returned (.int .i64 (uM a b)) ∧ Below w.heap.size w w' :=
 (jY.calls a b _ w (UQ a b)).mono fun e w' ⟨h1,n,h2⟩=>⟨h1,by rw [h2];exact ⟨rfl,rfl,rfl,Nat.le_refl _,fun _ _=>rfl⟩⟩
def dO (l:List ql) (n:ByteArray) (i j:Nat):Nat :=
 if h:i < j then
  if uM (qE l (((i + j) / 2:Nat):Int)).f0 n < 0 then dO l n ((i + j) / 2 + 1) j else dO l n i ((i + j) / 2)
 else i
termination_by j - i
def Xp (l:List ql) (n:ByteArray):Int × Bool :=
 let i:=dO l n 0 l.length
 ((i:Int),decide (i < l.length) && decide (uM (qE l (i:Int)).f0 n = 0))
set_option maxRecDepth 100000 in
theorem zx7 (a:ByteArray) (v:Int) (n:ByteArray) (w:World) :
  Calls Tryz.prog 119 #[.agg #[.string a,.int .i64 v],.string n] w fun e w'=>e = .returned (.int .i64 (uM a n)) ∧ Below w.heap.size w w':=by
 have hb0:Below w.heap.size w (w.alloc (.cells #[.string a,.int .i64 v] 105)):=(Below.refl _ w).alloc (Nat.le_refl _) _
 have hc:=zx6 a n (w.alloc (.cells #[.string a,.int .i64 v] 105))
 generalize uM a n = r at hc ⊢
 go_enter Tryz.func119,Tryz.ntmps119
 go_wp2_with (go_at_call 91;refine hc.mono ?_;rintro e w2 ⟨rfl,hb2⟩)
 go_ret
 exact ⟨rfl,hb0.trans (hb2.mono (by simp))⟩
set_option maxRecDepth 100000 in
set_option maxHeartbeats 1000000 in
theorem zYH (A0:Option Addr) (c0:Nat) (l:List ql) (n:ByteArray) (w:World) (hr:Kd.C jy w A0 l.length l) (hl:l.length ≤ 1000000000) :
  Calls Tryz.prog 118 #[.slice A0 l.length c0,.string n,.func (.func 119) #[] #[]] w fun e w'=>e = .returned (.tuple #[.int .i64 (Xp l n).1,.bool (Xp l n).2]) ∧ Below w.heap.size w w':=by
 have hfv:Xp l n = ((dO l n 0 l.length:Int),decide (dO l n 0 l.length < l.length) && decide (uM (qE l (dO l n 0 l.length:Int)).f0 n = 0)):=rfl
 generalize Xp l n = V at hfv ⊢
 have HFV:=Lib.hid hfv
 clear hfv
 go_enter Tryz.func118,Tryz.ntmps118
 go_wp2
 go_loopw [9,10] (fun x y wr=>∃ i j:Nat,x = .int .i64 i ∧ y = .int .i64 j ∧ i ≤ j ∧ j ≤ l.length ∧ Hid (dO l n i j = dO l n 0 l.length) ∧ Below w.heap.size w wr) (fun x y _=>((intOf y) - (intOf x)).toNat)
 case atStart=>exact ⟨0,l.length,rfl,rfl,Nat.zero_le _,Nat.le_refl _,Lib.hid rfl,Below.refl _ _⟩
 case round =>
  obtain ⟨i,j,rfl,rfl,hij,hj,HB,hb⟩:=hrel
  by_cases hlt:i < j
  ·have hm:(i + j) / 2 < l.length:=by omega
   have hst:=HB.out
   rw [dO,dif_pos hlt] at hst
   have hC:=Kd.zm hr hb
   obtain ⟨ad,e,h0,h1⟩:=WL hC (((i + j) / 2:Nat):Int) (by omega) (by omega)
   cases e
   rw [Int.toNat_natCast] at h0 h1
   generalize qE l (((i + j) / 2:Nat):Int) = g at h0 h1 hst
   have hcm:=zx7 g.f0 g.f1 n wr
   generalize uM g.f0 n = r at hcm hst
   have HS:=Lib.hid hst
   have e1:IntKind.i64.wrap ((i:Int) + (j:Int)) = (i:Int) + (j:Int):=IntWalk.i64_in _ (by omega)
   clear hst HB hC hr
   by_cases hr0:r < 0
   ·have d1:decide (r < 0) = true:=decide_eq_true hr0
    rw [if_pos hr0] at HS
    clear hr0
    go_wp2_with fail
    refine hcm.mono ?_;rintro e w2 ⟨rfl,hb2⟩
    go_wp2
    go_roundw
    case rel=>exact ⟨(i + j) / 2 + 1,j,by go_num,rfl,by omega,hj,HS,hb.trans (hb2.mono hb.size)⟩
    case measure=>simp [intOf];omega
   ·have d1:decide (r < 0) = false:=decide_eq_false hr0
    rw [if_neg hr0] at HS
    clear hr0
    go_wp2_with fail
    refine hcm.mono ?_;rintro e w2 ⟨rfl,hb2⟩
    go_wp2
    go_roundw
    case rel=>exact ⟨i,(i + j) / 2,rfl,by go_num,by omega,by omega,HS,hb.trans (hb2.mono hb.size)⟩
    case measure=>simp [intOf];omega
  ·obtain rfl:i = j:=by omega
   have hst:=HB.out
   rw [dO,dif_neg (by omega)] at hst
   by_cases hi:i < l.length
   ·have hC:=Kd.zm hr hb
    obtain ⟨ad,e,h0,h1⟩:=WL hC (i:Int) (by omega) (by omega)
    cases e
    rw [Int.toNat_natCast] at h0 h1
    have hval:V = ((i:Int),decide (i < l.length) && decide (uM (qE l (i:Int)).f0 n = 0)):=by rw [HFV.out,← hst]
    rw [decide_eq_true hi,Bool.true_and] at hval
    generalize qE l (i:Int) = g at h0 h1 hval
    have hcm:=zx7 g.f0 g.f1 n wr
    have hd:(uM g.f0 n == 0) = decide (uM g.f0 n = 0):=rfl
    generalize uM g.f0 n = r at hcm hd hval
    have HV:=Lib.hid hval
    have q2:(i:Int) < (l.length:Int):=by omega
    clear hst HB hC hr hval
    cases hz:decide (r = 0) with
    | true =>
     rw [hz] at hd HV
     clear hz
     go_wp2_with fail
     refine hcm.mono ?_;rintro e w2 ⟨rfl,hb2⟩
     go_wp2
     go_ret2
     exact ⟨by rw [HV.out];rfl,hb.trans (hb2.mono hb.size)⟩
    | false =>
     rw [hz] at hd HV
     clear hz
     go_wp2_with fail
     refine hcm.mono ?_;rintro e w2 ⟨rfl,hb2⟩
     go_wp2
     go_ret2
     exact ⟨by rw [HV.out];rfl,hb.trans (hb2.mono hb.size)⟩
   ·have q1:decide (i < l.length) = false:=decide_eq_false hi
    have hval:V = ((i:Int),false):=by rw [HFV.out,← hst,q1,Bool.false_and]
    have HV:=Lib.hid hval
    have q2:¬ (i:Int) < (l.length:Int):=by omega
    have q3:decide ((i:Int) < (l.length:Int)) = false:=decide_eq_false q2
    clear hst HB hr hval q1
    go_wp2
    go_ret2
    exact ⟨by rw [HV.out];rfl,hb⟩
def wU.f (_:ByteArray) (_:Bool) (_:Int) (zn:List ql) (_:List xX) (_:List vv) (a1:ByteArray):Option (Int × Bool):=if zn.length ≤ 1000000000 then some (Xp zn a1) else none
set_option maxRecDepth 100000 in
theorem wU.calls (zD:ByteArray) (ze:Bool) (za:Int) (yT:Option Addr) (yU:Nat) (zn:List ql) (y7:Option Addr) (y8:Nat) (zF:List xX) (yZ:Option Addr) (yQ:Nat) (zY:List vv) (a1:ByteArray) (r1:Int) (r2:Bool) (w:World) (jq:Kd.C jy w yT zn.length zn) (_:zn.length ≤ yU) (_:Kd.C kS w y7 zF.length zF) (_:zF.length ≤ y8) (_:Kd.C wX w yZ zY.length zY) (_:zY.length ≤ yQ) (_:GW w) (h:wU.f zD ze za zn zF zY a1 = some (r1,r2)) :
  Calls Tryz.prog 64 #[.agg #[.string zD,.bool ze,.int .i64 za,.slice yT zn.length yU,.slice y7 zF.length y8,.slice yZ zY.length yQ],.string a1] w fun e w'=>e = .returned (.tuple #[.int .i64 r1,.bool r2]) ∧ Below w.heap.size w w':=by
 unfold wU.f at h
 split at h
 ·rename_i hl
  have he:=Option.some.inj h
  have hb0:Below w.heap.size w (w.alloc (.cells #[.string zD,.bool ze,.int .i64 za,.slice yT zn.length yU,.slice y7 zF.length y8,.slice yZ zY.length yQ] 60)):=(Below.refl _ w).alloc (Nat.le_refl _) _
  have hs:=zYH yT yU zn a1 _ (Kd.zm jq hb0) hl
  rw [he] at hs
  clear he h hl jq
  go_enter Tryz.func64,Tryz.ntmps64
  go_wp2_with fail
  refine hs.mono ?_;rintro e w2 ⟨rfl,hb2⟩
  go_wp2
  go_ret2
  exact ⟨rfl,hb0.trans (hb2.mono (by simp))⟩
 ·cases h
end Go.Proofs.YtggifbbiiickmaaGreatDoor
namespace Go.Proofs.YtggifbbiiickmaaGreatDoor.PX
open Go.RowKit Go.Proofs.zk.zu Go.Proofs.zk.yD Go.Proofs.zk.yA
attribute [local go_sem] xP xR vG vH xB xC xS xU   -- for this text's walks alone
set_option linter.unusedVariables false
set_option linter.unusedSimpArgs false
def kg.l0:Nat → Int → List Int → Int → Int → Option (Int)
  | 0,_,_,_,_=>none
  | k + 1,x3,x6,x7,x8=>if x8 < x7 then (if 0 ≤ x8 then (if x8 < (x6.length:Int) then (if (rd x6 x8) = x3 then (kg.l0 k x3 x6 x7 (wrap64 (x8 + 1))) else (some (rd x6 x8))) else (none)) else (none)) else (some x3)
def kg.f (k:Nat) (l0:List Int):Option (Int):=kg.l0 k 0 l0 (l0.length:Int) 0
set_option maxHeartbeats 8000000 in
set_option maxRecDepth 100000 in
theorem kg.calls (k:Nat) (A0:Option Addr) (c0:Nat) (l0:List Int) (r:Int) (w:World) (hr0:Kd.C (Kd.int .i64) w A0 l0.length l0) (hc0:l0.length ≤ c0) (h:kg.f k l0 = some r) :
    Calls Tryz.prog 97 #[.slice A0 l0.length c0] w fun e w'=>e = .returned (.int .i64 r) ∧ yt w w':=by
  have ji:=zx.mk hr0
  have Vm:=zx.mk hc0
  clear hr0 hc0
  have H:(kg.l0 k 0 l0 (l0.length:Int) 0) = some r:=h
  clear h
  have H':=zx.mk H
  clear H
  go_enter Tryz.func97,Tryz.ntmps97
  go_wp2
  go_loopg [8] k (fun kq v8 w'=>∃ (yV:Int),v8 = .int .i64 yV ∧ zx (kg.l0 kq 0 l0 (l0.length:Int) yV = some r) ∧ zx (kq ≤ k) ∧ yt w w')
  case atStart=>exact ⟨(0),(by first | rfl | (simp;done) | (simp [*];done)),H',⟨Nat.le_refl _⟩,by repeat (first | exact yt.refl _ | apply yt.step)⟩
  case round =>
    clear H'
    obtain ⟨yV,rfl,HA,uK,⟨m1,rfl⟩⟩:=hrel
    cases gk with
    | zero=>exact absurd HA.out (by simp [kg.l0])
    | succ k1 =>
      have H:=HA.out
      clear HA
      simp only [kg.l0] at H
      by_cases c2:yV < (l0.length:Int)
      · rw [if_pos c2] at H
        have rE:decide (yV < (l0.length:Int)) = true:=decide_eq_true c2
        clear c2
        by_cases c3:0 ≤ yV
        · rw [if_pos c3] at H
          have ZR:decide (0 ≤ yV) = true:=decide_eq_true c3
          clear c3
          by_cases c4:yV < (l0.length:Int)
          · rw [if_pos c4] at H
            have Z8:decide (yV < (l0.length:Int)) = true:=decide_eq_true c4
            clear c4
            by_cases c5:(rd l0 yV) = 0
            · rw [if_pos c5] at H
              have pY:((rd l0 yV) == 0) = true:=beq_iff_eq.mpr c5
              have zkv:((rd l0 yV) != 0) = false:=bne_eq_false_iff_eq.mpr c5
              clear c5
              have H':=zx.mk H
              clear H
              have zjw:0 ≤ (yV:Int):=of_decide_eq_true yF
              have zjZ:yV < (l0.length:Int):=of_decide_eq_true yF
              obtain ⟨znc,zcB,zf7⟩:=Kd.aW ji.out yV zjw zjZ
              cases zcB
              replace zjw:=eq_true zjw
              replace zjZ:=eq_true zjZ
              go_wp2
              go_roundg k1
              case measure=>have:=uK.out;omega
              case rel=>exact ⟨(wrap64 (yV + 1)),(by first | rfl | (simp;done) | (simp [*];done)),H',⟨by have:=uK.out;omega⟩,by repeat (first | exact yt.refl _ | apply yt.step)⟩
            · rw [if_neg c5] at H
              have pY:((rd l0 yV) == 0) = false:=beq_eq_false_iff_ne.mpr c5
              have zkv:((rd l0 yV) != 0) = true:=bne_iff_ne.mpr c5
              obtain rfl:=Option.some.inj H
              have zjw:0 ≤ (yV:Int):=of_decide_eq_true yF
              have zjZ:yV < (l0.length:Int):=of_decide_eq_true yF
              obtain ⟨znc,zcB,zf7⟩:=Kd.aW ji.out yV zjw zjZ
              cases zcB
              replace zjw:=eq_true zjw
              replace zjZ:=eq_true zjZ
              go_wp2
              go_ret
              exact ⟨by first | rfl | (simp;done) | (simp [*];done),by repeat (first | exact yt.refl _ | apply yt.step)⟩
          · rw [if_neg c4] at H
            exact absurd H (by simp)
        · rw [if_neg c3] at H
          exact absurd H (by simp)
      · rw [if_neg c2] at H
        have rE:decide (yV < (l0.length:Int)) = false:=decide_eq_false c2
        clear c2
        obtain rfl:=Option.some.inj H
        go_wp2
        go_ret
        exact ⟨by first | rfl | (simp;done) | (simp [*];done),by repeat (first | exact yt.refl _ | apply yt.step)⟩
end Go.Proofs.YtggifbbiiickmaaGreatDoor.PX
namespace Go.Proofs.YtggifbbiiickmaaGreatDoor
open Go.RowKit Go.Shelf Go.Proofs.zk.zu Go.Proofs.zk.yA Go.Proofs.YtggifbbiiickmaaGreatDoor.PX
def Z9 (c:Nat → Nat → Int) (n:Nat):Bool:=(List.range (n - 1)).all fun i=>decide (c i (i + 1) < 0)
theorem zqg {c:Nat → Nat → Int} {n:Nat} (h:∀ i,i + 1 < n → c i (i + 1) < 0):Z9 c n = true:=by
 unfold Z9
 rw [List.all_eq_true]
 intro i hi
 have:=List.mem_range.1 hi
 simpa using h i (by omega)
theorem zzS {c:Nat → Nat → Int} {n i:Nat} (hi:i + 1 < n) (h:¬ c i (i + 1) < 0):Z9 c n = false:=by
 unfold Z9
 rw [List.all_eq_false]
 exact ⟨i,List.mem_range.2 (by omega),by simpa using h⟩
def V8 (x y:ql):Int:=uM x.f0 y.f0
def orV (a b:Int):Int:=if a = 0 then b else a
def cmpL (x y:xX):Int:=orV (uM x.f0 y.f0) (uM x.f1 y.f1)
def gy (x y:vv):Int:=orV (uM x.f0 y.f0) (uM x.f1 y.f1)
set_option maxRecDepth 100000 in
theorem zcC (x y:ql) (w:World) :
  Calls Tryz.prog 90 #[.agg #[.string x.f0,.int .i64 x.f1],.agg #[.string y.f0,.int .i64 y.f1]] w fun e w'=>e = .returned (.int .i64 (V8 x y)) ∧ Below w.heap.size w w':=by
 unfold V8
 have hb0:Below w.heap.size w ((w.alloc (.cells #[.string x.f0,.int .i64 x.f1] 105)).alloc (.cells #[.string y.f0,.int .i64 y.f1] 105)):=((Below.refl _ w).alloc (Nat.le_refl _) _).alloc (by simp) _
 have hc:=zx6 x.f0 y.f0 ((w.alloc (.cells #[.string x.f0,.int .i64 x.f1] 105)).alloc (.cells #[.string y.f0,.int .i64 y.f1] 105))
 generalize uM x.f0 y.f0 = r at hc ⊢
 go_enter Tryz.func90,Tryz.ntmps90
 go_wp2_with (go_at_call 91;refine hc.mono ?_;rintro e w2 ⟨rfl,hb2⟩)
 go_ret
 exact ⟨rfl,hb0.trans (hb2.mono (by simp;omega))⟩
def znd (l:List ql) (w:World) (x:Value) (wr:World):Prop :=
 ∃ k:Nat,x = .int .i64 k ∧ 1 ≤ k ∧ k ≤ l.length + 1 ∧ (∀ i,i + 1 < k → i + 1 < l.length → V8 (qE l (i:Int)) (qE l ((i + 1:Nat):Int)) < 0) ∧ Below w.heap.size w wr
set_option maxRecDepth 100000 in
set_option maxHeartbeats 1000000 in
theorem zcD (A0:Option Addr) (c0:Nat) (l:List ql) (w:World) (hr:Kd.C jy w A0 l.length l) (hl:l.length ≤ 1000000000) :
  Calls Tryz.prog 89 #[.slice A0 l.length c0,.func (.func 90) #[] #[]] w fun e w'=>e = .returned (.bool (Z9 (fun i j=>V8 (qE l (i:Int)) (qE l (j:Int))) l.length)) ∧ Below w.heap.size w w':=by
 generalize hV:Z9 (fun i j=>V8 (qE l (i:Int)) (qE l (j:Int))) l.length = V
 have HV:=Lib.hid hV
 clear hV
 go_enter Tryz.func89,Tryz.ntmps89
 go_wp2
 go_loopw [5] (fun x wr=>znd l w x wr) (fun x _=>l.length + 1 - (intOf x).toNat)
 case atStart=>exact ⟨1,rfl,by omega,by omega,(fun i h=>by omega),Below.refl _ _⟩
 case round =>
  obtain ⟨k,rfl,hk1,hk,hA,hb⟩:=hrel
  have HA:=Lib.hid hA
  clear hA
  by_cases hlt:k < l.length
  ·obtain ⟨m,rfl⟩:∃ m,k = m + 1:=⟨k - 1,by omega⟩
   have hC:=Kd.zm hr hb
   obtain ⟨ad,e,HH0⟩:=WL hC (m:Int) (by omega) (by omega)
   obtain ⟨ad2,e2,HH1⟩:=WL hC ((m + 1:Nat):Int) (by omega) (by omega)
   cases e
   cases e2
   obtain ⟨h0,h1⟩:=HH0
   obtain ⟨h2,h3⟩:=HH1
   rw [Int.toNat_natCast] at h0 h1 h2 h3
   have hstep:∀ i,i + 1 = m + 1 → V8 (qE l (i:Int)) (qE l ((i + 1:Nat):Int)) = V8 (qE l (m:Int)) (qE l ((m + 1:Nat):Int)):=fun i hi=>by obtain rfl:i = m:=(by omega);rfl
   have hbad:¬ V8 (qE l (m:Int)) (qE l ((m + 1:Nat):Int)) < 0 → V = false:=fun h=>by rw [← HV.out];exact zzS (i:=m) (by omega) h
   have hcm:=fun W=>zcC (qE l (m:Int)) (qE l ((m + 1:Nat):Int)) W
   generalize qE l (m:Int) = x at h0 h1 hstep hcm hbad
   generalize qE l ((m + 1:Nat):Int) = y at h2 h3 hstep hcm hbad
   generalize V8 x y = r at hcm hstep hbad
   have HS:=Lib.hid hstep
   have HB:=Lib.hid hbad
   have e1:IntKind.i64.wrap (((m:Int) + 1) - 1) = (m:Int):=by rw [Int.add_sub_cancel];exact IntWalk.i64_in _ (by omega)
   have q1:(m:Int) < (l.length:Int):=by omega
   have q2:(m:Int) + 1 < (l.length:Int):=by omega
   have q3:((m:Int) + 1).toNat = m + 1:=by omega
   have q4:(0:Int) ≤ (m:Int) + 1:=by omega
   clear hC hr hstep hbad
   have e0:IntKind.i64.wrap (m:Int) = (m:Int):=IntWalk.i64_in _ (by omega)
   have q5:(0:Int) ≤ (m:Int):=by omega
   by_cases hr0:r < 0
   ·have d1:decide (0 ≤ r) = false:=by simp;omega
    have HR:=Lib.hid hr0
    clear hr0
    go_wp2_with fail
    go_region_held3 (fun W=>W.cell? (ad.add (m * 2)) = some (.string x.f0) ∧ W.cell? ⟨(ad.add (m * 2)).block,(ad.add (m * 2)).off + 1,none⟩ = some (.int .i64 x.f1) ∧ W.cell? (ad.add ((m + 1) * 2)) = some (.string y.f0) ∧ W.cell? ⟨(ad.add ((m + 1) * 2)).block,(ad.add ((m + 1) * 2)).off + 1,none⟩ = some (.int .i64 y.f1)) (first | go_keep | exact ⟨(hb2.cell (World.block_lt_of_cell? wr _ h0)).trans h0,(hb2.cell (World.block_lt_of_cell? wr _ h1)).trans h1,(hb2.cell (World.block_lt_of_cell? wr _ h2)).trans h2,(hb2.cell (World.block_lt_of_cell? wr _ h3)).trans h3⟩) ((go_at_call 90;refine (hcm _).mono ?_;rintro e w2 ⟨rfl,hb2⟩))
    clear e0 e1
    have hb3:Below w.heap.size w w2:=(hb.drew).trans (hb2.mono hb.size)
    clear hb2
    go_wp2
    refine ⟨⟨m + 1 + 1,by go_num,by omega,by omega,(fun i h1 h2=>?_),hb3⟩,by simp [intOf];omega⟩
    by_cases e:i + 1 = m + 1
    ·rw [HS.out i e];exact HR.out
    ·exact HA.out i (by omega) h2
   ·have d1:decide (0 ≤ r) = true:=by simp;omega
    have hv:V = false:=HB.out hr0
    have jT:=Lib.hid hv
    clear hr0 hv
    go_wp2_with fail
    go_region_held3 (fun W=>W.cell? (ad.add (m * 2)) = some (.string x.f0) ∧ W.cell? ⟨(ad.add (m * 2)).block,(ad.add (m * 2)).off + 1,none⟩ = some (.int .i64 x.f1) ∧ W.cell? (ad.add ((m + 1) * 2)) = some (.string y.f0) ∧ W.cell? ⟨(ad.add ((m + 1) * 2)).block,(ad.add ((m + 1) * 2)).off + 1,none⟩ = some (.int .i64 y.f1)) (first | go_keep | exact ⟨(hb2.cell (World.block_lt_of_cell? wr _ h0)).trans h0,(hb2.cell (World.block_lt_of_cell? wr _ h1)).trans h1,(hb2.cell (World.block_lt_of_cell? wr _ h2)).trans h2,(hb2.cell (World.block_lt_of_cell? wr _ h3)).trans h3⟩) ((go_at_call 90;refine (hcm _).mono ?_;rintro e w2 ⟨rfl,hb2⟩))
    clear e0 e1
    have hb3:Below w.heap.size w w2:=(hb.drew).trans (hb2.mono hb.size)
    clear hb2
    go_wp2
    go_ret
    exact ⟨by rw [jT.out];rfl,hb3⟩
  ·have hv:V = true:=by rw [← HV.out];exact zqg (fun i hi=>HA.out i (by omega) hi)
   have jT:=Lib.hid hv
   have q1:decide ((k:Int) < (l.length:Int)) = false:=decide_eq_false (by omega)
   clear hv hr
   go_wp2
   go_ret
   exact ⟨by rw [jT.out];rfl,hb⟩
theorem zYI {w w':World} (h:yt w w'):Below w.heap.size w w':=by
 obtain ⟨n,rfl⟩:=h
 exact ⟨rfl,rfl,rfl,Nat.le_refl _,fun _ _=>rfl⟩
theorem zi9 (a b:Int):Ev (fun k=>kg.f k [a,b]) (orV a b):=by
 unfold kg.f orV
 have e1:wrap64 (0 + 1) = 1:=by rw [wK (by omega) (by omega)];rfl
 have e2:wrap64 (1 + 1) = 2:=by rw [wK (by omega) (by omega)];rfl
 have hl:(([a,b]:List Int).length:Int) = 2:=rfl
 refine Ev.step (fun k=>by rw [kg.l0]) ?_
 rw [hl]
 refine yJ (by omega) (yJ (by omega) (yJ (by omega) ?_))
 rw [show rd [a,b] 0 = a from rfl,e1]
 by_cases h1:a = 0
 ·refine yJ h1 ?_
  rw [if_pos h1]
  refine Ev.step (fun k=>by rw [kg.l0]) ?_
  rw [hl]
  refine yJ (by omega) (yJ (by omega) (yJ (by omega) ?_))
  rw [show rd [a,b] 1 = b from rfl,e2]
  by_cases h2:b = 0
  ·refine yJ h2 ?_
   rw [h2]
   refine Ev.step (fun k=>by rw [kg.l0]) ?_
   exact xQ (by omega) (Ev.now _)
  ·exact xQ h2 (Ev.now _)
 ·refine xQ h1 ?_
  rw [if_neg h1];exact Ev.now _
theorem zcE (B:Nat) (a b:Int) (w:World) (h0:w.cell? ⟨B,0,none⟩ = some (.int .i64 a)) (h1:w.cell? ⟨B,1,none⟩ = some (.int .i64 b)):Kd.C (Kd.int .i64) w (some ⟨B,0,none⟩) 2 [a,b]:=by
 have hs:(Kd.int .i64).sz = 1:=rfl
 refine ⟨rfl,by decide,fun _=>⟨_,rfl,fun j p hj=>?_⟩⟩
 rcases j with _ | _ | j
 ·cases hj
  exact ⟨[.int .i64 a],rfl,rfl,fun i u hi=>by rcases i with _ | i;cases hi;simpa [Addr.add_lit] using h0;simp at hi⟩
 ·cases hj
  exact ⟨[.int .i64 b],rfl,rfl,fun i u hi=>by rcases i with _ | i;cases hi;simpa [Addr.add_lit,hs] using h1;simp at hi⟩
 ·simp at hj
theorem zaS (a b:Int) (B:Nat) (w:World) (h0:w.cell? ⟨B,0,none⟩ = some (.int .i64 a)) (h1:w.cell? ⟨B,1,none⟩ = some (.int .i64 b)) :
  Calls Tryz.prog 97 #[.slice (some ⟨B,0,none⟩) 2 2] w fun e w'=>e = .returned (.int .i64 (orV a b)) ∧ Below w.heap.size w w':=by
 obtain ⟨k,hk⟩:=(zi9 a b).rounds
 exact (kg.calls k (some ⟨B,0,none⟩) 2 [a,b] _ w (zcE B a b w h0 h1) (Nat.le_refl _) hk).mono fun e w' h=>⟨h.1,zYI h.2⟩
theorem zre (W:World) (a b:Value) (t:TypeId):(W.alloc (.cells #[a,b] t)).cell? ⟨W.heap.size,0,none⟩ = some a:=by simp
theorem zlz (W:World) (a b:Value) (t:TypeId):(W.alloc (.cells #[a,b] t)).cell? ⟨W.heap.size,1,none⟩ = some b:=by simp
theorem zlq (W:World) (n:Nat) (a b:Value) (t:TypeId):((W.drewN n).alloc (.cells #[a,b] t)).cell? ⟨W.heap.size,0,none⟩ = some a:=zre (W.drewN n) a b t
theorem zlx (W:World) (n:Nat) (a b:Value) (t:TypeId):((W.drewN n).alloc (.cells #[a,b] t)).cell? ⟨W.heap.size,1,none⟩ = some b:=zlz (W.drewN n) a b t
theorem UJ {W w2:World} {n:Nat} {o:Obj} {B i:Nat} {v:Value} (h:Below ((W.drewN n).alloc o).heap.size ((W.drewN n).alloc o) w2) (hc:W.cell? ⟨B,i,none⟩ = some v):w2.cell? ⟨B,i,none⟩ = some v:=by
 have hb:Below W.heap.size W ((W.drewN n).alloc o):=Below.trans (⟨rfl,rfl,rfl,Nat.le_refl _,fun _ _=>rfl⟩:Below W.heap.size W (W.drewN n)) ((Below.refl _ (W.drewN n)).alloc (Nat.le_refl _) o)
 have hl:=World.block_lt_of_cell? W _ hc
 exact (h.cell (p:=⟨B,i,none⟩) (Nat.lt_of_lt_of_le hl hb.size)).trans ((hb.cell (p:=⟨B,i,none⟩) hl).trans hc)
theorem zwq {W w2:World} {n:Nat} {o:Obj} (h:Below ((W.drewN n).alloc o).heap.size ((W.drewN n).alloc o) w2):Below W.heap.size W w2:=by
 have hb:Below W.heap.size W ((W.drewN n).alloc o):=Below.trans (⟨rfl,rfl,rfl,Nat.le_refl _,fun _ _=>rfl⟩:Below W.heap.size W (W.drewN n)) ((Below.refl _ (W.drewN n)).alloc (Nat.le_refl _) o)
 exact hb.trans (h.mono hb.size)
set_option maxRecDepth 100000 in
set_option maxHeartbeats 1000000 in
theorem zcF (x y:xX) (w:World) :
  Calls Tryz.prog 96 #[.agg #[.string x.f0,.string x.f1,.string x.f2],.agg #[.string y.f0,.string y.f1,.string y.f2]] w fun e w'=>e = .returned (.int .i64 (cmpL x y)) ∧ Below w.heap.size w w':=by
 unfold cmpL
 have hb0:Below w.heap.size w ((w.alloc (.cells #[.string x.f0,.string x.f1,.string x.f2] 108)).alloc (.cells #[.string y.f0,.string y.f1,.string y.f2] 108)):=((Below.refl _ w).alloc (Nat.le_refl _) _).alloc (by simp) _
 have hz:((w.alloc (.cells #[.string x.f0,.string x.f1,.string x.f2] 108)).alloc (.cells #[.string y.f0,.string y.f1,.string y.f2] 108)).heap.size = w.heap.size + 2:=by simp
 have c0:((w.alloc (.cells #[.string x.f0,.string x.f1,.string x.f2] 108)).alloc (.cells #[.string y.f0,.string y.f1,.string y.f2] 108)).cell? ⟨w.heap.size,0,none⟩ = some (.string x.f0):=by simp
 have c1:((w.alloc (.cells #[.string x.f0,.string x.f1,.string x.f2] 108)).alloc (.cells #[.string y.f0,.string y.f1,.string y.f2] 108)).cell? ⟨w.heap.size,1,none⟩ = some (.string x.f1):=by simp
 have c2:((w.alloc (.cells #[.string x.f0,.string x.f1,.string x.f2] 108)).alloc (.cells #[.string y.f0,.string y.f1,.string y.f2] 108)).cell? ⟨w.heap.size + 1,0,none⟩ = some (.string y.f0):=by simp
 have c3:((w.alloc (.cells #[.string x.f0,.string x.f1,.string x.f2] 108)).alloc (.cells #[.string y.f0,.string y.f1,.string y.f2] 108)).cell? ⟨w.heap.size + 1,1,none⟩ = some (.string y.f1):=by simp
 have hc1:=fun W=>jY.calls x.f0 y.f0 _ W (UQ x.f0 y.f0)
 have hc2:=fun W=>jY.calls x.f1 y.f1 _ W (UQ x.f1 y.f1)
 generalize uM x.f0 y.f0 = r1 at hc1 ⊢
 generalize uM x.f1 y.f1 = r2 at hc2 ⊢
 have hor:=fun B W h0 h1=>zaS r1 r2 B W h0 h1
 generalize orV r1 r2 = R at hor ⊢
 go_enter Tryz.func96,Tryz.ntmps96
 go_wp2_with fail
 generalize ((w.alloc (.cells #[.string x.f0,.string x.f1,.string x.f2] 108)).alloc (.cells #[.string y.f0,.string y.f1,.string y.f2] 108)) = W0 at hb0 hz c0 c1 c2 c3 ⊢
 have hz1:=Nat.le_of_eq hz
 have hz2:=Nat.le_of_eq hz.symm
 clear hz
 go_region_held3 (fun W=>W.cell? ⟨w.heap.size,0,none⟩ = some (.string x.f0) ∧ W.cell? ⟨w.heap.size,1,none⟩ = some (.string x.f1) ∧ W.cell? ⟨w.heap.size + 1,0,none⟩ = some (.string y.f0) ∧ W.cell? ⟨w.heap.size + 1,1,none⟩ = some (.string y.f1))
  (first | go_keep | exact ⟨UJ hb2 c0,UJ hb2 c1,UJ hb2 c2,UJ hb2 c3⟩)
  (first | (go_at_call 91;((with_reducible refine (hc1 _).mono ?_);rintro e w2 ⟨rfl,nd,rfl⟩)) | (go_at_call 91;((with_reducible refine (hc2 _).mono ?_);rintro e w2 ⟨rfl,nd,rfl⟩)) | (go_at_call 97;((refine (hor _ _ (zlq _ _ _ _ _) (zlx _ _ _ _ _)).mono ?_);rintro e w2 ⟨rfl,hb2⟩)))
 all_goals
  have hb3:=hb0.trans ((zwq hb2).mono hb0.size)
  clear hb2 c0 c1 c2 c3
  go_wp2
  go_ret
  exact ⟨rfl,hb3⟩
set_option maxRecDepth 100000 in
set_option maxHeartbeats 1000000 in
theorem zcG (x y:vv) (w:World) :
  Calls Tryz.prog 101 #[.agg #[.string x.f0,.string x.f1,.int .i64 x.f2],.agg #[.string y.f0,.string y.f1,.int .i64 y.f2]] w fun e w'=>e = .returned (.int .i64 (gy x y)) ∧ Below w.heap.size w w':=by
 unfold gy
 have hb0:Below w.heap.size w ((w.alloc (.cells #[.string x.f0,.string x.f1,.int .i64 x.f2] 111)).alloc (.cells #[.string y.f0,.string y.f1,.int .i64 y.f2] 111)):=((Below.refl _ w).alloc (Nat.le_refl _) _).alloc (by simp) _
 have hz:((w.alloc (.cells #[.string x.f0,.string x.f1,.int .i64 x.f2] 111)).alloc (.cells #[.string y.f0,.string y.f1,.int .i64 y.f2] 111)).heap.size = w.heap.size + 2:=by simp
 have c0:((w.alloc (.cells #[.string x.f0,.string x.f1,.int .i64 x.f2] 111)).alloc (.cells #[.string y.f0,.string y.f1,.int .i64 y.f2] 111)).cell? ⟨w.heap.size,0,none⟩ = some (.string x.f0):=by simp
 have c1:((w.alloc (.cells #[.string x.f0,.string x.f1,.int .i64 x.f2] 111)).alloc (.cells #[.string y.f0,.string y.f1,.int .i64 y.f2] 111)).cell? ⟨w.heap.size,1,none⟩ = some (.string x.f1):=by simp
 have c2:((w.alloc (.cells #[.string x.f0,.string x.f1,.int .i64 x.f2] 111)).alloc (.cells #[.string y.f0,.string y.f1,.int .i64 y.f2] 111)).cell? ⟨w.heap.size + 1,0,none⟩ = some (.string y.f0):=by simp
 have c3:((w.alloc (.cells #[.string x.f0,.string x.f1,.int .i64 x.f2] 111)).alloc (.cells #[.string y.f0,.string y.f1,.int .i64 y.f2] 111)).cell? ⟨w.heap.size + 1,1,none⟩ = some (.string y.f1):=by simp
 have hc1:=fun W=>jY.calls x.f0 y.f0 _ W (UQ x.f0 y.f0)
 have hc2:=fun W=>jY.calls x.f1 y.f1 _ W (UQ x.f1 y.f1)
 generalize uM x.f0 y.f0 = r1 at hc1 ⊢
 generalize uM x.f1 y.f1 = r2 at hc2 ⊢
 have hor:=fun B W h0 h1=>zaS r1 r2 B W h0 h1
 generalize orV r1 r2 = R at hor ⊢
 go_enter Tryz.func101,Tryz.ntmps101
 go_wp2_with fail
 generalize ((w.alloc (.cells #[.string x.f0,.string x.f1,.int .i64 x.f2] 111)).alloc (.cells #[.string y.f0,.string y.f1,.int .i64 y.f2] 111)) = W0 at hb0 hz c0 c1 c2 c3 ⊢
 have hz1:=Nat.le_of_eq hz
 have hz2:=Nat.le_of_eq hz.symm
 clear hz
 go_region_held3 (fun W=>W.cell? ⟨w.heap.size,0,none⟩ = some (.string x.f0) ∧ W.cell? ⟨w.heap.size,1,none⟩ = some (.string x.f1) ∧ W.cell? ⟨w.heap.size + 1,0,none⟩ = some (.string y.f0) ∧ W.cell? ⟨w.heap.size + 1,1,none⟩ = some (.string y.f1))
  (first | go_keep | exact ⟨UJ hb2 c0,UJ hb2 c1,UJ hb2 c2,UJ hb2 c3⟩)
  (first | (go_at_call 91;((with_reducible refine (hc1 _).mono ?_);rintro e w2 ⟨rfl,nd,rfl⟩)) | (go_at_call 91;((with_reducible refine (hc2 _).mono ?_);rintro e w2 ⟨rfl,nd,rfl⟩)) | (go_at_call 97;((refine (hor _ _ (zlq _ _ _ _ _) (zlx _ _ _ _ _)).mono ?_);rintro e w2 ⟨rfl,hb2⟩)))
 all_goals
  have hb3:=hb0.trans ((zwq hb2).mono hb0.size)
  clear hb2 c0 c1 c2 c3
  go_wp2
  go_ret
  exact ⟨rfl,hb3⟩
def zne (l:List xX) (w:World) (x:Value) (wr:World):Prop :=
 ∃ k:Nat,x = .int .i64 k ∧ 1 ≤ k ∧ k ≤ l.length + 1 ∧ (∀ i,i + 1 < k → i + 1 < l.length → cmpL (qR l (i:Int)) (qR l ((i + 1:Nat):Int)) < 0) ∧ Below w.heap.size w wr
set_option maxRecDepth 100000 in
set_option maxHeartbeats 1000000 in
theorem zcH (A0:Option Addr) (c0:Nat) (l:List xX) (w:World) (hr:Kd.C kS w A0 l.length l) (hl:l.length ≤ 1000000000) :
  Calls Tryz.prog 95 #[.slice A0 l.length c0,.func (.func 96) #[] #[]] w fun e w'=>e = .returned (.bool (Z9 (fun i j=>cmpL (qR l (i:Int)) (qR l (j:Int))) l.length)) ∧ Below w.heap.size w w':=by
 generalize hV:Z9 (fun i j=>cmpL (qR l (i:Int)) (qR l (j:Int))) l.length = V
 have HV:=Lib.hid hV
 clear hV
 go_enter Tryz.func95,Tryz.ntmps95
 go_wp2
 go_loopw [5] (fun x wr=>zne l w x wr) (fun x _=>l.length + 1 - (intOf x).toNat)
 case atStart=>exact ⟨1,rfl,by omega,by omega,(fun i h=>by omega),Below.refl _ _⟩
 case round =>
  obtain ⟨k,rfl,hk1,hk,hA,hb⟩:=hrel
  have HA:=Lib.hid hA
  clear hA
  by_cases hlt:k < l.length
  ·obtain ⟨m,rfl⟩:∃ m,k = m + 1:=⟨k - 1,by omega⟩
   have hC:=Kd.zm hr hb
   obtain ⟨ad,e,HH0⟩:=gU hC (m:Int) (by omega) (by omega)
   obtain ⟨ad2,e2,HH1⟩:=gU hC ((m + 1:Nat):Int) (by omega) (by omega)
   cases e
   cases e2
   obtain ⟨h0,h1,h2⟩:=HH0
   obtain ⟨h3,h4,h5⟩:=HH1
   rw [Int.toNat_natCast] at h0 h1 h2 h3 h4 h5
   have hstep:∀ i,i + 1 = m + 1 → cmpL (qR l (i:Int)) (qR l ((i + 1:Nat):Int)) = cmpL (qR l (m:Int)) (qR l ((m + 1:Nat):Int)):=fun i hi=>by obtain rfl:i = m:=(by omega);rfl
   have hbad:¬ cmpL (qR l (m:Int)) (qR l ((m + 1:Nat):Int)) < 0 → V = false:=fun h=>by rw [← HV.out];exact zzS (i:=m) (by omega) h
   have hcm:=fun W=>zcF (qR l (m:Int)) (qR l ((m + 1:Nat):Int)) W
   generalize qR l (m:Int) = x at h0 h1 h2 hstep hcm hbad
   generalize qR l ((m + 1:Nat):Int) = y at h3 h4 h5 hstep hcm hbad
   generalize cmpL x y = r at hcm hstep hbad
   have HS:=Lib.hid hstep
   have HB:=Lib.hid hbad
   have e1:IntKind.i64.wrap (((m:Int) + 1) - 1) = (m:Int):=by rw [Int.add_sub_cancel];exact IntWalk.i64_in _ (by omega)
   have q1:(m:Int) < (l.length:Int):=by omega
   have q2:(m:Int) + 1 < (l.length:Int):=by omega
   have q3:((m:Int) + 1).toNat = m + 1:=by omega
   have q4:(0:Int) ≤ (m:Int) + 1:=by omega
   clear hC hr hstep hbad
   have e0:IntKind.i64.wrap (m:Int) = (m:Int):=IntWalk.i64_in _ (by omega)
   have q5:(0:Int) ≤ (m:Int):=by omega
   by_cases hr0:r < 0
   ·have d1:decide (0 ≤ r) = false:=by simp;omega
    have HR:=Lib.hid hr0
    clear hr0
    go_wp2_with fail
    go_region_held3 (fun W=>W.cell? (ad.add (m * 3)) = some (.string x.f0) ∧ W.cell? ⟨(ad.add (m * 3)).block,(ad.add (m * 3)).off + 1,none⟩ = some (.string x.f1) ∧ W.cell? ⟨(ad.add (m * 3)).block,(ad.add (m * 3)).off + 2,none⟩ = some (.string x.f2) ∧ W.cell? (ad.add ((m + 1) * 3)) = some (.string y.f0) ∧ W.cell? ⟨(ad.add ((m + 1) * 3)).block,(ad.add ((m + 1) * 3)).off + 1,none⟩ = some (.string y.f1) ∧ W.cell? ⟨(ad.add ((m + 1) * 3)).block,(ad.add ((m + 1) * 3)).off + 2,none⟩ = some (.string y.f2)) (first | go_keep | exact ⟨(hb2.cell (World.block_lt_of_cell? wr _ h0)).trans h0,(hb2.cell (World.block_lt_of_cell? wr _ h1)).trans h1,(hb2.cell (World.block_lt_of_cell? wr _ h2)).trans h2,(hb2.cell (World.block_lt_of_cell? wr _ h3)).trans h3,(hb2.cell (World.block_lt_of_cell? wr _ h4)).trans h4,(hb2.cell (World.block_lt_of_cell? wr _ h5)).trans h5⟩) ((go_at_call 96;refine (hcm _).mono ?_;rintro e w2 ⟨rfl,hb2⟩))
    clear e0 e1
    have hb3:Below w.heap.size w w2:=(hb.drew).trans (hb2.mono hb.size)
    clear hb2
    go_wp2
    refine ⟨⟨m + 1 + 1,by go_num,by omega,by omega,(fun i h1 h2=>?_),hb3⟩,by simp [intOf];omega⟩
    by_cases e:i + 1 = m + 1
    ·rw [HS.out i e];exact HR.out
    ·exact HA.out i (by omega) h2
   ·have d1:decide (0 ≤ r) = true:=by simp;omega
    have hv:V = false:=HB.out hr0
    have jT:=Lib.hid hv
    clear hr0 hv
    go_wp2_with fail
    go_region_held3 (fun W=>W.cell? (ad.add (m * 3)) = some (.string x.f0) ∧ W.cell? ⟨(ad.add (m * 3)).block,(ad.add (m * 3)).off + 1,none⟩ = some (.string x.f1) ∧ W.cell? ⟨(ad.add (m * 3)).block,(ad.add (m * 3)).off + 2,none⟩ = some (.string x.f2) ∧ W.cell? (ad.add ((m + 1) * 3)) = some (.string y.f0) ∧ W.cell? ⟨(ad.add ((m + 1) * 3)).block,(ad.add ((m + 1) * 3)).off + 1,none⟩ = some (.string y.f1) ∧ W.cell? ⟨(ad.add ((m + 1) * 3)).block,(ad.add ((m + 1) * 3)).off + 2,none⟩ = some (.string y.f2)) (first | go_keep | exact ⟨(hb2.cell (World.block_lt_of_cell? wr _ h0)).trans h0,(hb2.cell (World.block_lt_of_cell? wr _ h1)).trans h1,(hb2.cell (World.block_lt_of_cell? wr _ h2)).trans h2,(hb2.cell (World.block_lt_of_cell? wr _ h3)).trans h3,(hb2.cell (World.block_lt_of_cell? wr _ h4)).trans h4,(hb2.cell (World.block_lt_of_cell? wr _ h5)).trans h5⟩) ((go_at_call 96;refine (hcm _).mono ?_;rintro e w2 ⟨rfl,hb2⟩))
    clear e0 e1
    have hb3:Below w.heap.size w w2:=(hb.drew).trans (hb2.mono hb.size)
    clear hb2
    go_wp2
    go_ret
    exact ⟨by rw [jT.out];rfl,hb3⟩
  ·have hv:V = true:=by rw [← HV.out];exact zqg (fun i hi=>HA.out i (by omega) hi)
   have jT:=Lib.hid hv
   have q1:decide ((k:Int) < (l.length:Int)) = false:=decide_eq_false (by omega)
   clear hv hr
   go_wp2
   go_ret
   exact ⟨by rw [jT.out];rfl,hb⟩
def znf (l:List vv) (w:World) (x:Value) (wr:World):Prop :=
 ∃ k:Nat,x = .int .i64 k ∧ 1 ≤ k ∧ k ≤ l.length + 1 ∧ (∀ i,i + 1 < k → i + 1 < l.length → gy (q9 l (i:Int)) (q9 l ((i + 1:Nat):Int)) < 0) ∧ Below w.heap.size w wr
set_option maxRecDepth 100000 in
set_option maxHeartbeats 1000000 in
theorem zcI (A0:Option Addr) (c0:Nat) (l:List vv) (w:World) (hr:Kd.C wX w A0 l.length l) (hl:l.length ≤ 1000000000) :
  Calls Tryz.prog 100 #[.slice A0 l.length c0,.func (.func 101) #[] #[]] w fun e w'=>e = .returned (.bool (Z9 (fun i j=>gy (q9 l (i:Int)) (q9 l (j:Int))) l.length)) ∧ Below w.heap.size w w':=by
 generalize hV:Z9 (fun i j=>gy (q9 l (i:Int)) (q9 l (j:Int))) l.length = V
 have HV:=Lib.hid hV
 clear hV
 go_enter Tryz.func100,Tryz.ntmps100
 go_wp2
 go_loopw [5] (fun x wr=>znf l w x wr) (fun x _=>l.length + 1 - (intOf x).toNat)
 case atStart=>exact ⟨1,rfl,by omega,by omega,(fun i h=>by omega),Below.refl _ _⟩
 case round =>
  obtain ⟨k,rfl,hk1,hk,hA,hb⟩:=hrel
  have HA:=Lib.hid hA
  clear hA
  by_cases hlt:k < l.length
  ·obtain ⟨m,rfl⟩:∃ m,k = m + 1:=⟨k - 1,by omega⟩
   have hC:=Kd.zm hr hb
   obtain ⟨ad,e,HH0⟩:=mq hC (m:Int) (by omega) (by omega)
   obtain ⟨ad2,e2,HH1⟩:=mq hC ((m + 1:Nat):Int) (by omega) (by omega)
   cases e
   cases e2
   obtain ⟨h0,h1,h2⟩:=HH0
   obtain ⟨h3,h4,h5⟩:=HH1
   rw [Int.toNat_natCast] at h0 h1 h2 h3 h4 h5
   have hstep:∀ i,i + 1 = m + 1 → gy (q9 l (i:Int)) (q9 l ((i + 1:Nat):Int)) = gy (q9 l (m:Int)) (q9 l ((m + 1:Nat):Int)):=fun i hi=>by obtain rfl:i = m:=(by omega);rfl
   have hbad:¬ gy (q9 l (m:Int)) (q9 l ((m + 1:Nat):Int)) < 0 → V = false:=fun h=>by rw [← HV.out];exact zzS (i:=m) (by omega) h
   have hcm:=fun W=>zcG (q9 l (m:Int)) (q9 l ((m + 1:Nat):Int)) W
   generalize q9 l (m:Int) = x at h0 h1 h2 hstep hcm hbad
   generalize q9 l ((m + 1:Nat):Int) = y at h3 h4 h5 hstep hcm hbad
   generalize gy x y = r at hcm hstep hbad
   have HS:=Lib.hid hstep
   have HB:=Lib.hid hbad
   have e1:IntKind.i64.wrap (((m:Int) + 1) - 1) = (m:Int):=by rw [Int.add_sub_cancel];exact IntWalk.i64_in _ (by omega)
   have q1:(m:Int) < (l.length:Int):=by omega
   have q2:(m:Int) + 1 < (l.length:Int):=by omega
   have q3:((m:Int) + 1).toNat = m + 1:=by omega
   have q4:(0:Int) ≤ (m:Int) + 1:=by omega
   clear hC hr hstep hbad
   have e0:IntKind.i64.wrap (m:Int) = (m:Int):=IntWalk.i64_in _ (by omega)
   have q5:(0:Int) ≤ (m:Int):=by omega
   by_cases hr0:r < 0
   ·have d1:decide (0 ≤ r) = false:=by simp;omega
    have HR:=Lib.hid hr0
    clear hr0
    go_wp2_with fail
    go_region_held3 (fun W=>W.cell? (ad.add (m * 3)) = some (.string x.f0) ∧ W.cell? ⟨(ad.add (m * 3)).block,(ad.add (m * 3)).off + 1,none⟩ = some (.string x.f1) ∧ W.cell? ⟨(ad.add (m * 3)).block,(ad.add (m * 3)).off + 2,none⟩ = some (.int .i64 x.f2) ∧ W.cell? (ad.add ((m + 1) * 3)) = some (.string y.f0) ∧ W.cell? ⟨(ad.add ((m + 1) * 3)).block,(ad.add ((m + 1) * 3)).off + 1,none⟩ = some (.string y.f1) ∧ W.cell? ⟨(ad.add ((m + 1) * 3)).block,(ad.add ((m + 1) * 3)).off + 2,none⟩ = some (.int .i64 y.f2)) (first | go_keep | exact ⟨(hb2.cell (World.block_lt_of_cell? wr _ h0)).trans h0,(hb2.cell (World.block_lt_of_cell? wr _ h1)).trans h1,(hb2.cell (World.block_lt_of_cell? wr _ h2)).trans h2,(hb2.cell (World.block_lt_of_cell? wr _ h3)).trans h3,(hb2.cell (World.block_lt_of_cell? wr _ h4)).trans h4,(hb2.cell (World.block_lt_of_cell? wr _ h5)).trans h5⟩) ((go_at_call 101;refine (hcm _).mono ?_;rintro e w2 ⟨rfl,hb2⟩))
    clear e0 e1
    have hb3:Below w.heap.size w w2:=(hb.drew).trans (hb2.mono hb.size)
    clear hb2
    go_wp2
    refine ⟨⟨m + 1 + 1,by go_num,by omega,by omega,(fun i h1 h2=>?_),hb3⟩,by simp [intOf];omega⟩
    by_cases e:i + 1 = m + 1
    ·rw [HS.out i e];exact HR.out
    ·exact HA.out i (by omega) h2
   ·have d1:decide (0 ≤ r) = true:=by simp;omega
    have hv:V = false:=HB.out hr0
    have jT:=Lib.hid hv
    clear hr0 hv
    go_wp2_with fail
    go_region_held3 (fun W=>W.cell? (ad.add (m * 3)) = some (.string x.f0) ∧ W.cell? ⟨(ad.add (m * 3)).block,(ad.add (m * 3)).off + 1,none⟩ = some (.string x.f1) ∧ W.cell? ⟨(ad.add (m * 3)).block,(ad.add (m * 3)).off + 2,none⟩ = some (.int .i64 x.f2) ∧ W.cell? (ad.add ((m + 1) * 3)) = some (.string y.f0) ∧ W.cell? ⟨(ad.add ((m + 1) * 3)).block,(ad.add ((m + 1) * 3)).off + 1,none⟩ = some (.string y.f1) ∧ W.cell? ⟨(ad.add ((m + 1) * 3)).block,(ad.add ((m + 1) * 3)).off + 2,none⟩ = some (.int .i64 y.f2)) (first | go_keep | exact ⟨(hb2.cell (World.block_lt_of_cell? wr _ h0)).trans h0,(hb2.cell (World.block_lt_of_cell? wr _ h1)).trans h1,(hb2.cell (World.block_lt_of_cell? wr _ h2)).trans h2,(hb2.cell (World.block_lt_of_cell? wr _ h3)).trans h3,(hb2.cell (World.block_lt_of_cell? wr _ h4)).trans h4,(hb2.cell (World.block_lt_of_cell? wr _ h5)).trans h5⟩) ((go_at_call 101;refine (hcm _).mono ?_;rintro e w2 ⟨rfl,hb2⟩))
    clear e0 e1
    have hb3:Below w.heap.size w w2:=(hb.drew).trans (hb2.mono hb.size)
    clear hb2
    go_wp2
    go_ret
    exact ⟨by rw [jT.out];rfl,hb3⟩
  ·have hv:V = true:=by rw [← HV.out];exact zqg (fun i hi=>HA.out i (by omega) hi)
   have jT:=Lib.hid hv
   have q1:decide ((k:Int) < (l.length:Int)) = false:=decide_eq_false (by omega)
   clear hv hr
   go_wp2
   go_ret
   exact ⟨by rw [jT.out];rfl,hb⟩
end Go.Proofs.YtggifbbiiickmaaGreatDoor
namespace Go.Proofs.YtggifbbiiickmaaGreatDoor.PX
open Go.RowKit Go.Proofs.zk.zu Go.Proofs.zk.yD Go.Proofs.zk.yA
attribute [local go_sem] xP xR vG vH xB xC xS xU   -- for this text's walks alone
set_option linter.unusedVariables false
set_option linter.unusedSimpArgs false
def pW.l0:Nat → List ByteArray → Int → Int → ByteArray → Bool → Int → List (ql) → List (xX) → List (vv) → Option (Bool)
 | 0,_,_,_,_,_,_,_,_,_=>none
 | k + 1,x9,x10,wM,zQp,zQr,zQs,zQt,zQu,zQA=>if wM < x10 then (if 0 ≤ wM then (if wM < (x9.length:Int) then ((wU.f zQp zQr zQs zQt zQu zQA (qb ByteArray.empty x9 wM)).bind fun zng=>(if zng.2 = true then (pW.l0 k x9 x10 (wrap64 (wM + 1)) zQp zQr zQs zQt zQu zQA) else (some false))) else (none)) else (none)) else (some true)
def pW.f (k:Nat) (zD:ByteArray) (ze:Bool) (za:Int) (zn:List (ql)) (zF:List (xX)) (zY:List (vv)) (l1:List ByteArray):Option (Bool):=pW.l0 k l1 (l1.length:Int) 0 zD ze za zn zF zY
set_option maxHeartbeats 8000000 in
set_option maxRecDepth 100000 in
theorem pW.calls (k:Nat) (zD:ByteArray) (ze:Bool) (za:Int) (yT:Option Addr) (yU:Nat) (zn:List (ql)) (y7:Option Addr) (y8:Nat) (zF:List (xX)) (yZ:Option Addr) (yQ:Nat) (zY:List (vv)) (A1:Option Addr) (c1:Nat) (l1:List ByteArray) (r:Bool) (w:World) (jq:Kd.C jy w yT zn.length zn) (jN:zn.length ≤ yU) (jO:Kd.C kS w y7 zF.length zF) (jP:zF.length ≤ y8) (jm:Kd.C wX w yZ zY.length zY) (jo:zY.length ≤ yQ) (hr1:Kd.C Kd.string w A1 l1.length l1) (hc1:l1.length ≤ c1) (hG:GW w) (h:pW.f k zD ze za zn zF zY l1 = some r) :
  Calls Tryz.prog 94 #[.agg #[.string zD,.bool ze,.int .i64 za,.slice yT zn.length yU,.slice y7 zF.length y8,.slice yZ zY.length yQ],.slice A1 l1.length c1] w fun e w'=>e = .returned (.bool r) ∧ Below w.heap.size w w':=by
 have zlj:=Tryz.underlying60
 have HG:=zx.mk hG
 clear hG
 have jF:=zx.mk jq
 have kU:=zx.mk jN
 clear jq jN
 have jG:=zx.mk jO
 have wz:=zx.mk jP
 clear jO jP
 have uD:=zx.mk jm
 have jh:=zx.mk jo
 clear jm jo
 have HR1:=zx.mk hr1
 have HC1:=zx.mk hc1
 clear hr1 hc1
 have HB:=zx.mk (Below.refl w.heap.size w)
 have H:(pW.l0 k l1 (l1.length:Int) 0 zD ze za zn zF zY) = some r:=h
 clear h
 have H':=zx.mk H
 clear H
 go_enter Tryz.func94,Tryz.ntmps94
 go_wp2_with (first | ((with_reducible refine qA (N:=2) rfl ?_);refine qH ?hg (N:=2) ?hd (cs:=#[.string zD,.bool ze,.int .i64 za,.slice yT zn.length yU,.slice y7 zF.length y8,.slice yZ zY.length yQ]) (t:=60) ?hr ?_;(case hd=>rfl);(case hg=>rfl);(case hr=>first | (go_simp;done) | (go_simp;rfl));intro Yt hg w3 qd hb;have zW:=zx.mk (zC (zG HB.out) hb);have zh:=zx.mk (qd);have zo:=zx.mk ((by rw [hg];exact (zf (zG HB.out)):w.heap.size ≤ Yt));have zM:=zx.mk ((by rw [hg];exact (zf (zG HB.out)):w.heap.size ≤ Yt));clear HB;have HB:=zW;have j3:=zh;have zDK:=zo;have zeU:=zM;clear zW zh zo zM;clear hb qd hg))
 go_loopg [11] k (fun kq v11 w'=>∃ (Zw:Int),v11 = .int .i64 Zw ∧ zx (pW.l0 kq l1 (l1.length:Int) Zw zD ze za zn zF zY = some r) ∧ zx (kq ≤ k) ∧ zx (w'.heap[Yt]? = some (.cells #[.string zD,.bool ze,.int .i64 za,(.slice yT zn.length yU),(.slice y7 zF.length y8),(.slice yZ zY.length yQ)] 60 (0,0))) ∧ zx (Below w.heap.size w w'))
 case atStart=>exact ⟨(0),(by first | rfl | (simp;done) | (simp [*];done)),H',⟨Nat.le_refl _⟩,⟨qV j3.out⟩,⟨zG HB.out⟩⟩
 case round =>
  clear H'
  try clear c1
  obtain ⟨Zw,rfl,HA,uK,j3,HB⟩:=hrel
  cases gk with
  | zero=>exact absurd HA.out (by simp [pW.l0])
  | succ k1 =>
   have H:=HA.out
   clear HA
   simp only [pW.l0] at H
   by_cases c4:Zw < (l1.length:Int)
   ·rw [if_pos c4] at H
    have Z8:decide (Zw < (l1.length:Int)) = true:=decide_eq_true c4
    clear c4
    by_cases c5:0 ≤ Zw
    ·rw [if_pos c5] at H
     have pY:decide (0 ≤ Zw) = true:=decide_eq_true c5
     clear c5
     by_cases c6:Zw < (l1.length:Int)
     ·rw [if_pos c6] at H
      have wP:decide (Zw < (l1.length:Int)) = true:=decide_eq_true c6
      clear c6
      replace H:=Option.bind_eq_some_iff.mp H
      obtain ⟨⟨zlv,zlk⟩,A70,H⟩:=H
      replace H:(if zlk = true then (pW.l0 k1 l1 (l1.length:Int) (wrap64 (Zw + 1)) zD ze za zn zF zY) else (some false)) = some r:=H
      have A7:=zx.mk A70
      clear A70
      by_cases c8:zlk = true
      ·subst c8
       have H1:(pW.l0 k1 l1 (l1.length:Int) (wrap64 (Zw + 1)) zD ze za zn zF zY) = some r:=by rw [if_pos rfl] at H;exact H
       clear H
       have H:=H1
       clear H1
       have H':=zx.mk H
       clear H
       have zjQ:0 ≤ (Zw:Int):=of_decide_eq_true yF
       have zjX:Zw < (l1.length:Int):=of_decide_eq_true yF
       obtain ⟨znh,zcL,WT⟩:=Kd.uQ HR1.out Zw zjQ zjX
       cases zcL
       replace WT:=(HB.out.cell (World.block_lt_of_cell? w _ WT)).trans WT
       replace zjQ:=eq_true zjQ
       replace zjX:=eq_true zjX
       have Wy:wr.cell? ⟨Yt,0,none⟩ = some (.string zD):=zw j3 0
       have Ww:wr.cell? ⟨Yt,1,none⟩ = some (.bool ze):=zw j3 1
       have WZ:wr.cell? ⟨Yt,2,none⟩ = some (.int .i64 za):=zw j3 2
       have WQ:wr.cell? ⟨Yt,3,none⟩ = some (.slice yT zn.length yU):=zw j3 3
       have dI:wr.cell? ⟨Yt,4,none⟩ = some (.slice y7 zF.length y8):=zw j3 4
       have dL:wr.cell? ⟨Yt,5,none⟩ = some (.slice yZ zY.length yQ):=zw j3 5
       have WX:=zy j3.out 0
       have WJ:=zy j3.out 1
       have WV:=zy j3.out 2
       have WK:=zy j3.out 3
       have dM:=zy j3.out 4
       have dN:=zy j3.out 5
       go_wp2_with (first | ((with_reducible refine yE (f:=64) rfl ?_);refine jg (some 18) Tryz.func64 #[.agg #[.string zD,.bool ze,.int .i64 za,.slice yT zn.length yU,.slice y7 zF.length y8,.slice yZ zY.length yQ],.string (qb ByteArray.empty l1 Zw)] ?_;(with_reducible refine (wU.calls zD ze za _ _ zn _ _ zF _ _ zY (qb ByteArray.empty l1 Zw) zlv true _ ?yc ?yG ?qZ ?qQ ?qB ?qC ?j4 A7.out).mono ?_);(case yc=>exact qY (Kd.zm jF.out HB.out));(case yG=>exact kU.out);(case qZ=>exact qY (Kd.zm jG.out HB.out));(case qQ=>exact wz.out);(case qB=>exact qY (Kd.zm uD.out HB.out));(case qC=>exact jh.out);(case j4=>exact GW.under HG.out (zG HB.out));rintro e Xm ⟨rfl,hb⟩;refine ⟨_,rfl,?_⟩;have zW:=zx.mk (yj (g:=Yt) (o:=.cells #[.string zD,.bool ze,.int .i64 za,.slice yT zn.length yU,.slice y7 zF.length y8,.slice yZ zY.length yQ] 60 (0,0)) (qV j3.out) hb);have zh:=zx.mk (zC (zG HB.out) hb);clear j3;clear HB;have j3:=zW;have HB:=zh;clear zW zh;(try clear hb);(try clear hi)))
       go_roundg k1
       case measure=>have:=uK.out;omega
       case rel=>exact ⟨(wrap64 (Zw + 1)),(by first | rfl | (simp;done) | (simp [*];done)),H',⟨by have:=uK.out;omega⟩,⟨qV j3.out⟩,⟨zG HB.out⟩⟩
      ·replace c8:=Bool.eq_false_iff.mpr c8
       subst c8
       have H1:(some false) = some r:=by rw [if_neg (show ¬ (false = true) by decide)] at H;exact H
       clear H
       have H:=H1
       clear H1
       obtain rfl:=Option.some.inj H
       have zjQ:0 ≤ (Zw:Int):=of_decide_eq_true yF
       have zjX:Zw < (l1.length:Int):=of_decide_eq_true yF
       obtain ⟨znh,zcL,WT⟩:=Kd.uQ HR1.out Zw zjQ zjX
       cases zcL
       replace WT:=(HB.out.cell (World.block_lt_of_cell? w _ WT)).trans WT
       replace zjQ:=eq_true zjQ
       replace zjX:=eq_true zjX
       have WU:wr.cell? ⟨Yt,0,none⟩ = some (.string zD):=zw j3 0
       have Pz:wr.cell? ⟨Yt,1,none⟩ = some (.bool ze):=zw j3 1
       have Pq:wr.cell? ⟨Yt,2,none⟩ = some (.int .i64 za):=zw j3 2
       have Px:wr.cell? ⟨Yt,3,none⟩ = some (.slice yT zn.length yU):=zw j3 3
       have mX:wr.cell? ⟨Yt,4,none⟩ = some (.slice y7 zF.length y8):=zw j3 4
       have mJ:wr.cell? ⟨Yt,5,none⟩ = some (.slice yZ zY.length yQ):=zw j3 5
       have Pj:=zy j3.out 0
       have Pv:=zy j3.out 1
       have Pk:=zy j3.out 2
       have Py:=zy j3.out 3
       have mV:=zy j3.out 4
       have mK:=zy j3.out 5
       go_wp2_with (first | ((with_reducible refine yE (f:=64) rfl ?_);refine jg (some 18) Tryz.func64 #[.agg #[.string zD,.bool ze,.int .i64 za,.slice yT zn.length yU,.slice y7 zF.length y8,.slice yZ zY.length yQ],.string (qb ByteArray.empty l1 Zw)] ?_;(with_reducible refine (wU.calls zD ze za _ _ zn _ _ zF _ _ zY (qb ByteArray.empty l1 Zw) zlv false _ ?yc ?yG ?qZ ?qQ ?qB ?qC ?j4 A7.out).mono ?_);(case yc=>exact qY (Kd.zm jF.out HB.out));(case yG=>exact kU.out);(case qZ=>exact qY (Kd.zm jG.out HB.out));(case qQ=>exact wz.out);(case qB=>exact qY (Kd.zm uD.out HB.out));(case qC=>exact jh.out);(case j4=>exact GW.under HG.out (zG HB.out));rintro e YK ⟨rfl,hb⟩;refine ⟨_,rfl,?_⟩;have zW:=zx.mk (yj (g:=Yt) (o:=.cells #[.string zD,.bool ze,.int .i64 za,.slice yT zn.length yU,.slice y7 zF.length y8,.slice yZ zY.length yQ] 60 (0,0)) (qV j3.out) hb);have zh:=zx.mk (zC (zG HB.out) hb);clear j3;clear HB;have j3:=zW;have HB:=zh;clear zW zh;(try clear hb);(try clear hi)))
       go_ret
       exact ⟨by first | rfl | (simp [zH,zI] <;> rfl) | (simp [*,zH,zI] <;> rfl),by repeat (first | (with_reducible first | exact HB.out | apply yX | apply zL | apply zR | refine qK ?_ zeU.out) | exact HB.out)⟩
     ·rw [if_neg c6] at H
      exact absurd H (by simp)
    ·rw [if_neg c5] at H
     exact absurd H (by simp)
   ·rw [if_neg c4] at H
    have Z8:decide (Zw < (l1.length:Int)) = false:=decide_eq_false c4
    clear c4
    obtain rfl:=Option.some.inj H
    go_wp2
    go_ret
    exact ⟨by first | rfl | (simp [zH,zI] <;> rfl) | (simp [*,zH,zI] <;> rfl),by repeat (first | (with_reducible first | exact HB.out | apply yX | apply zL | apply zR | refine qK ?_ zeU.out) | exact HB.out)⟩
end Go.Proofs.YtggifbbiiickmaaGreatDoor.PX
namespace Go.Proofs.YtggifbbiiickmaaGreatDoor
open Go.RowKit Go.Shelf Go.Proofs.zk.zu Go.Proofs.zk.yA Go.Proofs.YtggifbbiiickmaaGreatDoor.PX
instance:Inhabited ql:=⟨z105⟩
instance:Inhabited xX:=⟨zcf⟩
instance:Inhabited vv:=⟨zcg⟩
def ZU (x:ql):List Value:=[.string x.f0,.int .i64 x.f1]
def zwL (x:xX):List Value:=[.string x.f0,.string x.f1,.string x.f2]
def zwM (x:vv):List Value:=[.string x.f0,.string x.f1,.int .i64 x.f2]
theorem zjJ {α:Type} [Inhabited α] (d:Kd α) (enc:α → List Value) (hopen:∀ (w:World) (x:α) (c:List Value),d.K w x c → c = enc x) (hne:∀ x,enc x ≠ []) {w:World} {A:Option Addr} {l:List α} (h:Kd.C d w A l.length l) (h0:l ≠ []) :
  ∃ b off,A = some ⟨b,off,none⟩ ∧ b < w.heap.size ∧ ∀ j,j < l.length → ∀ i v,(enc l[j]!)[i]? = some v → w.cell? ⟨b,off + j * d.sz + i,none⟩ = some v:=by
 have hl:0 < l.length:=List.length_pos_iff.2 h0
 obtain ⟨_,_,h3⟩:=h
 obtain ⟨ad,rfl,hc⟩:=h3 hl
 obtain ⟨b,off,spot⟩:=ad
 have hcell:∀ j,j < l.length → ∀ i v,(enc l[j]!)[i]? = some v → w.cell? ((⟨b,off,spot⟩:Addr).add (j * d.sz + i)) = some v:=by
  intro j hj i v hv
  obtain ⟨c,_,hK,hcc⟩:=hc j l[j] (List.getElem?_eq_getElem hj)
  have e:=hopen w _ c hK
  rw [getElem!_pos l j hj,← e] at hv
  exact hcc i v hv
 obtain ⟨v,hv⟩:∃ v,(enc l[0]!)[0]? = some v:=by
  cases he:enc l[0]! with
  | nil=>exact absurd he (hne _)
  | cons v r=>exact ⟨v,rfl⟩
 have hc0:=hcell 0 hl 0 v hv
 have hspot:spot = none:=by simpa [Addr.add] using World.cell?_spot hc0
 subst hspot
 refine ⟨b,off,rfl,?_,fun j hj i v hv=>?_⟩
 ·have:=World.block_lt_of_cell? w _ hc0
  simpa [Addr.add] using this
 ·have:=hcell j hj i v hv
  rwa [Addr.add_lit,← Nat.add_assoc] at this
set_option maxRecDepth 100000 in
theorem zaT (A0:Option Addr) (c0:Nat) (fv:Value) (w:World):Calls Tryz.prog 130 #[.slice A0 0 c0,fv] w fun e w'=>e = .returned (.int .i64 (-1)) ∧ Below w.heap.size w w':=by
 go_enter Tryz.func130,Tryz.ntmps130
 go_wp2
 go_loop [8] (fun i=>i = .int .i64 0) (fun _=>0)
 case atStart=>rfl
 case round =>
  obtain rfl:=hrel
  go_wp2
  go_ret
  exact ⟨rfl,Below.refl _ _⟩
set_option maxRecDepth 100000 in
theorem zwN (A0:Option Addr) (c0:Nat) (l:List ql) (w:World) (hr:Kd.C jy w A0 l.length l) (hl:l.length ≤ 1000000000) (p:ql → Bool) (g:Nat) (lb:Array Value) (eg:∀ args w,(callFunc g args).run Tryz.prog w = .ok (.enter g args) w)
  (hp:PredBelow Tryz.prog g lb (fun x=>.agg (ZU x).toArray) p w) :
  Calls Tryz.prog 86 #[.slice A0 l.length c0,.func (.func g) #[] lb] w fun e w'=>e = .returned (.bool (l.any p)) ∧ Below w.heap.size w w':=by
 by_cases h0:l = []
 ·subst h0
  have h:=zaT A0 c0 (.func (.func g) #[] lb) w
  go_enter Tryz.func86,Tryz.ntmps86
  go_wp2_with (go_at_call 130;refine h.mono ?_;rintro e w1 ⟨rfl,hb⟩)
  go_ret
  exact ⟨rfl,hb⟩
 ·obtain ⟨b,off,rfl,hb,hc⟩:=zjJ jy ZU (fun w x c h=>zy7 h) (fun x=>by simp [ZU]) hr h0
  have:=AnyQ.slices_ContainsFunc Tryz.hasG 2 Tryz.isAgg105 Tryz.sizeOf105 ZU (fun _=>rfl) p g lb eg b off l.length c0 l w hp (Nat.le_refl _) (by omega) hb hc
  rw [List.take_length] at this
  exact this
set_option maxRecDepth 100000 in
theorem zaU (A0:Option Addr) (c0:Nat) (fv:Value) (w:World):Calls Tryz.prog 133 #[.slice A0 0 c0,fv] w fun e w'=>e = .returned (.int .i64 (-1)) ∧ Below w.heap.size w w':=by
 go_enter Tryz.func133,Tryz.ntmps133
 go_wp2
 go_loop [8] (fun i=>i = .int .i64 0) (fun _=>0)
 case atStart=>rfl
 case round =>
  obtain rfl:=hrel
  go_wp2
  go_ret
  exact ⟨rfl,Below.refl _ _⟩
set_option maxRecDepth 100000 in
theorem zcM (A0:Option Addr) (c0:Nat) (l:List xX) (w:World) (hr:Kd.C kS w A0 l.length l) (hl:l.length ≤ 1000000000) (p:xX → Bool) (g:Nat) (lb:Array Value) (eg:∀ args w,(callFunc g args).run Tryz.prog w = .ok (.enter g args) w)
  (hp:PredBelow Tryz.prog g lb (fun x=>.agg (zwL x).toArray) p w) :
  Calls Tryz.prog 92 #[.slice A0 l.length c0,.func (.func g) #[] lb] w fun e w'=>e = .returned (.bool (l.any p)) ∧ Below w.heap.size w w':=by
 by_cases h0:l = []
 ·subst h0
  have h:=zaU A0 c0 (.func (.func g) #[] lb) w
  go_enter Tryz.func92,Tryz.ntmps92
  go_wp2_with (go_at_call 133;refine h.mono ?_;rintro e w1 ⟨rfl,hb⟩)
  go_ret
  exact ⟨rfl,hb⟩
 ·obtain ⟨b,off,rfl,hb,hc⟩:=zjJ kS zwL (fun w x c h=>zy8 h) (fun x=>by simp [zwL]) hr h0
  have:=AnyQ.slices_ContainsFunc Tryz.hasL 3 Tryz.isAgg108 Tryz.sizeOf108 zwL (fun _=>rfl) p g lb eg b off l.length c0 l w hp (Nat.le_refl _) (by omega) hb hc
  rw [List.take_length] at this
  exact this
set_option maxRecDepth 100000 in
theorem za0 (A0:Option Addr) (c0:Nat) (fv:Value) (w:World):Calls Tryz.prog 134 #[.slice A0 0 c0,fv] w fun e w'=>e = .returned (.int .i64 (-1)) ∧ Below w.heap.size w w':=by
 go_enter Tryz.func134,Tryz.ntmps134
 go_wp2
 go_loop [8] (fun i=>i = .int .i64 0) (fun _=>0)
 case atStart=>rfl
 case round =>
  obtain rfl:=hrel
  go_wp2
  go_ret
  exact ⟨rfl,Below.refl _ _⟩
set_option maxRecDepth 100000 in
theorem zcN (A0:Option Addr) (c0:Nat) (l:List vv) (w:World) (hr:Kd.C wX w A0 l.length l) (hl:l.length ≤ 1000000000) (p:vv → Bool) (g:Nat) (lb:Array Value) (eg:∀ args w,(callFunc g args).run Tryz.prog w = .ok (.enter g args) w)
  (hp:PredBelow Tryz.prog g lb (fun x=>.agg (zwM x).toArray) p w) :
  Calls Tryz.prog 99 #[.slice A0 l.length c0,.func (.func g) #[] lb] w fun e w'=>e = .returned (.bool (l.any p)) ∧ Below w.heap.size w w':=by
 by_cases h0:l = []
 ·subst h0
  have h:=za0 A0 c0 (.func (.func g) #[] lb) w
  go_enter Tryz.func99,Tryz.ntmps99
  go_wp2_with (go_at_call 134;refine h.mono ?_;rintro e w1 ⟨rfl,hb⟩)
  go_ret
  exact ⟨rfl,hb⟩
 ·obtain ⟨b,off,rfl,hb,hc⟩:=zjJ wX zwM (fun w x c h=>zy9 h) (fun x=>by simp [zwM]) hr h0
  have:=AnyQ.slices_ContainsFunc Tryz.hasK 3 Tryz.isAgg111 Tryz.sizeOf111 zwM (fun _=>rfl) p g lb eg b off l.length c0 l w hp (Nat.le_refl _) (by omega) hb hc
  rw [List.take_length] at this
  exact this
def VI (n:Int):Bool:=decide (n < 0) || decide (3000 < n)
set_option maxRecDepth 100000 in
theorem zwO (n:Int) (w:World):Calls Tryz.prog 84 #[.int .i64 n] w fun e w'=>e = .returned (.bool (VI n)) ∧ w' = w:=by
 unfold VI
 by_cases h1:n < 0
 ·have d1:decide (n < 0) = true:=decide_eq_true h1
  rw [d1];clear h1
  go_enter Tryz.func84,Tryz.ntmps84
  go_wp2
  go_ret
  exact ⟨rfl,rfl⟩
 ·have d1:decide (n < 0) = false:=decide_eq_false h1
  rw [d1];clear h1
  cases hd:decide (3000 < n) with
  | true =>
   go_enter Tryz.func84,Tryz.ntmps84
   go_wp2
   go_ret
   exact ⟨rfl,rfl⟩
  | false =>
   go_enter Tryz.func84,Tryz.ntmps84
   go_wp2
   go_ret
   exact ⟨rfl,rfl⟩
def aZ (x:ql):Bool:=!Zi x.f0.data.toList || VI x.f1
set_option maxRecDepth 100000 in
theorem zcO (B:Nat) (w:World) (hB:w.cell? ⟨B,0,none⟩ = some (.func (.func 84) #[] #[])) :
  PredBelow Tryz.prog 87 #[.pointer (some ⟨B,0,none⟩)] (fun x=>.agg (ZU x).toArray) aZ w:=fun W x hb=>by
 have hl:=World.block_lt_of_cell? w _ hB
 have hc:W.cell? ⟨B,0,none⟩ = some (.func (.func 84) #[] #[]):=(hb.cell hl).trans hB
 have hlW:B < W.heap.size:=Nat.lt_of_lt_of_le hl hb.size
 show Calls Tryz.prog 87 #[.agg #[.string x.f0,.int .i64 x.f1],.pointer (some ⟨B,0,none⟩)] W _
 have hb0:Below w.heap.size w (W.alloc (.cells #[.string x.f0,.int .i64 x.f1] 105)):=hb.alloc hb.size _
 have hbW:Below W.heap.size W (W.alloc (.cells #[.string x.f0,.int .i64 x.f1] 105)):=(Below.refl _ W).alloc (Nat.le_refl _) _
 have hn:=zaC x.f0 (W.alloc (.cells #[.string x.f0,.int .i64 x.f1] 105))
 have hw:=fun W=>zwO x.f1 W
 have hv:aZ x = (!Zi x.f0.data.toList || VI x.f1):=rfl
 rw [hv]
 clear hv hb
 generalize Zi x.f0.data.toList = b1 at hn ⊢
 generalize VI x.f1 = b2 at hw ⊢
 cases b1 with
 | false =>
  go_enter Tryz.func87,Tryz.ntmps87
  go_wp2_with (go_at_call 88;refine hn.mono ?_;rintro e w1 ⟨rfl,hb1⟩)
  go_ret
  exact ⟨rfl,hb0.trans (hb1.mono hb0.size)⟩
 | true =>
  go_enter Tryz.func87,Tryz.ntmps87
  go_wp2_with (first | (go_at_call 88;refine hn.mono ?_;rintro e w1 ⟨rfl,hb1⟩;have hc1:=(hb1.cell (p:=⟨B,0,none⟩) (by simp;omega)).trans ((hbW.cell (p:=⟨B,0,none⟩) hlW).trans hc);have k1:=(hb1.cell (p:=⟨W.heap.size,1,none⟩) (by simp)).trans (zlz W (.string x.f0) (.int .i64 x.f1) _)) | (go_at_call 84;refine (hw _).mono ?_;rintro e w2 ⟨rfl,rfl⟩))
  go_ret
  exact ⟨by first | rfl | (cases b2 <;> rfl),hb0.trans (hb1.mono hb0.size)⟩
def zzT (l:List ql) (ns:List ByteArray):Bool:=ns.all fun n=>(Xp l n).2
theorem zni (a:ByteArray) (b:Bool) (c:Int) (l3:List ql) (l4:List xX) (l5:List vv) (h3:l3.length ≤ 1000000000) (ns:List ByteArray) (hn:ns.length ≤ 1000):∀ (d i:Nat),i + d = ns.length →
  Ev (fun k=>pW.l0 k ns (ns.length:Int) (i:Int) a b c l3 l4 l5) (zzT l3 (ns.drop i)):=by
 intro d
 induction d with
 | zero =>
  intro i h
  rw [List.drop_eq_nil_of_le (by omega)]
  refine Ev.step (fun k=>by rw [pW.l0]) ?_
  exact xQ (by omega) (Ev.now _)
 | succ d ih =>
  intro i h
  have hi:i < ns.length:=by omega
  have e2:wrap64 ((i:Int) + 1) = ((i + 1:Nat):Int):=by rw [wK (by omega) (by omega)];rfl
  have hg:qb ByteArray.empty ns (i:Int) = ns[i]:=by rw [zwF,List.getD_eq_getElem?_getD,List.getElem?_eq_getElem hi];rfl
  have hd:ns.drop i = ns[i] :: ns.drop (i + 1):=List.drop_eq_getElem_cons hi
  refine Ev.step (fun k=>by rw [pW.l0]) ?_
  refine yJ (by omega) (yJ (by omega) (yJ (by omega) ?_))
  rw [hg,e2]
  refine Wv (y:=Xp l3 ns[i]) (by unfold wU.f;rw [if_pos h3]) ?_
  rw [hd]
  show Ev _ ((Xp l3 ns[i]).2 && zzT l3 (ns.drop (i + 1)))
  cases hb:(Xp l3 ns[i]).2 with
  | true=>exact yJ rfl (ih (i + 1) (by omega))
  | false=>exact xQ (by simp) (Ev.now _)
theorem zQB (a:ByteArray) (b:Bool) (c:Int) (A3:Option Addr) (c3:Nat) (l3:List ql) (A4:Option Addr) (c4:Nat) (l4:List xX) (A5:Option Addr) (c5:Nat) (l5:List vv) (A:Option Addr) (cn:Nat) (ns:List ByteArray) (w:World)
  (h3:Kd.C jy w A3 l3.length l3) (g3:l3.length ≤ c3) (h4:Kd.C kS w A4 l4.length l4) (g4:l4.length ≤ c4) (h5:Kd.C wX w A5 l5.length l5) (g5:l5.length ≤ c5) (hn:Kd.C Kd.string w A ns.length ns) (gn:ns.length ≤ cn) (hG:GW w) (hl3:l3.length ≤ 1000000000) (hln:ns.length ≤ 1000) :
  Calls Tryz.prog 94 #[.agg #[.string a,.bool b,.int .i64 c,.slice A3 l3.length c3,.slice A4 l4.length c4,.slice A5 l5.length c5],.slice A ns.length cn] w fun e w'=>e = .returned (.bool (zzT l3 ns)) ∧ Below w.heap.size w w':=by
 obtain ⟨k,hk⟩:=(zni a b c l3 l4 l5 hl3 ns hln ns.length 0 (by omega)).rounds
 exact pW.calls k a b c A3 c3 l3 A4 c4 l4 A5 c5 l5 A cn ns _ w h3 g3 h4 g4 h5 g5 hn gn hG hk
structure XG (w:World) (B:Nat) (a:ByteArray) (b:Bool) (c:Int) (A3:Option Addr) (c3:Nat) (l3:List ql) (A4:Option Addr) (c4:Nat) (l4:List xX) (A5:Option Addr) (c5:Nat) (l5:List vv):Prop where
 blk:w.heap[B]? = some (.cells #[.string a,.bool b,.int .i64 c,.slice A3 l3.length c3,.slice A4 l4.length c4,.slice A5 l5.length c5] 60 (0,0))
 h3:Kd.C jy w A3 l3.length l3
 h4:Kd.C kS w A4 l4.length l4
 h5:Kd.C wX w A5 l5.length l5
 gw:GW w
theorem XG.below {w w':World} {B:Nat} {a:ByteArray} {b:Bool} {c:Int} {A3:Option Addr} {c3:Nat} {l3:List ql} {A4:Option Addr} {c4:Nat} {l4:List xX} {A5:Option Addr} {c5:Nat} {l5:List vv}
  (h:XG w B a b c A3 c3 l3 A4 c4 l4 A5 c5 l5) (hb:Below w.heap.size w w'):XG w' B a b c A3 c3 l3 A4 c4 l4 A5 c5 l5 :=
 ⟨(hb.block B (Array.getElem?_eq_some_iff.1 h.blk).1).trans h.blk,Kd.zm h.h3 hb,Kd.zm h.h4 hb,Kd.zm h.h5 hb,h.gw.under hb⟩
theorem xK {w:World} {B:Nat} {cs:Array Value} {t:TypeId} (h:w.heap[B]? = some (.cells cs t (0,0))) (i:Nat) (v:Value) (hv:cs[i]? = some v):w.cell? ⟨B,i,none⟩ = some v:=by
 simp only [World.cell?,h]
 exact hv
end Go.Proofs.YtggifbbiiickmaaGreatDoor
namespace Go.Proofs.YtggifbbiiickmaaGreatDoor
open Go.RowKit Go.Proofs.zk.zu Go.Proofs.zk.yD Go.Proofs.zk.yA Go.Proofs.YtggifbbiiickmaaGreatDoor.PX
set_option linter.unusedSimpArgs false
set_option linter.unusedVariables false
def ko (l:List uX) (n:ByteArray):Bool:=l.any fun x=>x.f0.toList == n.toList
def VD (a b c d:ByteArray):Bool:=Op.bytesLess a.toList c.toList || (a.toList == c.toList && Op.bytesLess b.toList d.toList)
def Zb (n:Int):Bool:=decide (n < 0) || decide (3000 < n)
def V9 (l:List uX) (i:Nat):Bool:=Zi (vK l (i:Int)).f0.data.toList && (!Zb (vK l (i:Int)).f1 && (decide (i = 0) || Op.bytesLess (vK l ((i:Int) - 1)).f0.toList (vK l (i:Int)).f0.toList))
def Vo (l3:List uX) (l:List uG) (i:Nat):Bool:=ko l3 (xM l (i:Int)).f0 && (ko l3 (xM l (i:Int)).f1 && (ko l3 (xM l (i:Int)).f2 && (decide (i = 0) || VD (xM l ((i:Int) - 1)).f0 (xM l ((i:Int) - 1)).f1 (xM l (i:Int)).f0 (xM l (i:Int)).f1)))
def Vp (l3:List uX) (l:List uN) (i:Nat):Bool:=ko l3 (xZ l (i:Int)).f0 && (ko l3 (xZ l (i:Int)).f1 && (!decide ((xZ l (i:Int)).f2 = 0) && (!decide ((xZ l (i:Int)).f2 < -500) && (!decide (500 < (xZ l (i:Int)).f2) && (decide (i = 0) || VD (xZ l ((i:Int) - 1)).f0 (xZ l ((i:Int) - 1)).f1 (xZ l (i:Int)).f0 (xZ l (i:Int)).f1)))))
def mY (a:ByteArray) (c:Int) (l3:List uX) (l4:List uG) (l5:List uN):Bool :=
 (XF a.data.toList && (!Zb c && (decide (l3.length ≤ 400) && (decide (l4.length ≤ 50) && decide (l5.length ≤ 500))))) && ((List.range l3.length).all (V9 l3) && ((List.range l4.length).all (Vo l3 l4) && (List.range l5.length).all (Vp l3 l5)))
theorem zjV {f:Nat → Bool} {n:Nat} (h:∀ i,i < n → f i = true):(List.range n).all f = true:=List.all_eq_true.2 fun i hi=>h i (List.mem_range.1 hi)
theorem uR {f:Nat → Bool} {n i:Nat} (hi:i < n) (h:f i = false):(List.range n).all f = false:=by
 cases e:(List.range n).all f with
 | false=>rfl
 | true=>exact absurd (List.all_eq_true.1 e i (List.mem_range.2 hi)) (by rw [h];simp)
theorem hasL (a:ByteArray) (b:Bool) (c:Int) (l:List uX) (l4:List uG) (l5:List uN) (n:ByteArray) (hl:l.length ≤ 1000000000):∀ d i,l.length - i = d → i ≤ l.length → Ev (fun k=>qg.l0 k n (i:Int) a b c l l4 l5) (ko (l.drop i) n):=by
 intro d
 induction d with
 | zero =>
  intro i hd hi
  rw [List.drop_eq_nil_of_le (by omega)]
  refine jM (r:=false) rfl (Ev.step (fun k=>by rw [qg.l0]) (xQ (by omega) (Ev.now _)))
 | succ d ih =>
  intro i hd hi
  have h1:i < l.length:=by omega
  have q0:(0:Int) ≤ (i:Int):=by omega
  have q1:(i:Int) < (l.length:Int):=by omega
  have hw:wrap64 ((i:Int) + 1) = ((i + 1:Nat):Int):=(wK (by omega) (by omega)).trans (by omega)
  have hr:=ih (i + 1) (by omega) (by omega)
  have e:vK l (i:Int) = l[i]:=by simp [vK,List.getD_eq_getElem?_getD,h1]
  rw [List.drop_eq_getElem_cons h1]
  unfold ko
  rw [List.any_cons]
  refine Ev.step (fun k=>by rw [qg.l0,hw,e]) (yJ q1 (yJ q0 ?_))
  by_cases hx:l[i].f0.toList = n.toList
  ·refine yJ hx (jM ?_ (Ev.now _))
   rw [beq_iff_eq.2 hx,Bool.true_or]
  ·refine xQ hx (jM ?_ hr)
   rw [beq_eq_false_iff_ne.2 hx,Bool.false_or];rfl
theorem zwb (a:ByteArray) (b:Bool) (c:Int) (A3:Option Addr) (c3:Nat) (l3:List uX) (A4:Option Addr) (c4:Nat) (l4:List uG) (A5:Option Addr) (c5:Nat) (l5:List uN) (n:ByteArray) (w:World) (h3:Kd.C Yi w A3 l3.length l3) (g3:l3.length ≤ c3) (h4:Kd.C YE w A4 l4.length l4) (g4:l4.length ≤ c4) (h5:Kd.C YP w A5 l5.length l5) (g5:l5.length ≤ c5) (hl3:l3.length ≤ 1000000000) :
  Calls Tryz.prog 139 #[.agg #[.string a,.bool b,.int .i64 c,.slice A3 l3.length c3,.slice A4 l4.length c4,.slice A5 l5.length c5],.string n] w fun e w'=>e = .returned (.bool (ko l3 n)) ∧ Below w.heap.size w w':=by
 have h1:Ev (fun k=>qg.l0 k n 0 a b c l3 l4 l5) _:=hasL a b c l3 l4 l5 n hl3 _ 0 rfl (Nat.zero_le _)
 have h2:Ev (fun k=>qg.f k a b c l3 l4 l5 n) (ko l3 n):=Ev.congr (fun k=>by rw [qg.f]) h1
 obtain ⟨k,hk⟩:=h2.rounds
 exact qg.calls k a b c A3 c3 l3 A4 c4 l4 A5 c5 l5 n _ w h3 g3 h4 g4 h5 g5 hk
theorem zQC (a b c d:ByteArray) (w:World):Calls Tryz.prog 140 #[.string a,.string b,.string c,.string d] w fun e w'=>e = .returned (.bool (VD a b c d)) ∧ yt w w':=by
 refine Yr.calls a b c d _ w ?_
 unfold Yr.f VD
 by_cases h1:Op.bytesLess a.toList c.toList = true
 ·rw [if_pos h1,h1,Bool.true_or]
 ·rw [if_neg h1]
  by_cases h2:a.toList = c.toList
  ·rw [if_pos h2,(by simpa using h1:Op.bytesLess a.toList c.toList = false),beq_iff_eq.2 h2,Bool.false_or,Bool.true_and]
  ·rw [if_neg h2,(by simpa using h1:Op.bytesLess a.toList c.toList = false),beq_eq_false_iff_ne.2 h2,Bool.false_or,Bool.false_and]
theorem kL {w w':World} (h:yt w w'):Below w.heap.size w w':=by
 obtain ⟨⟨n,rfl⟩⟩:=h
 exact zL (Below.refl _ _) n
end Go.Proofs.YtggifbbiiickmaaGreatDoor
namespace Go.Proofs.YtggifbbiiickmaaGreatDoor
open Go.RowKit Go.Proofs.zk.zu Go.Proofs.zk.yD Go.Proofs.zk.yA Go.Proofs.YtggifbbiiickmaaGreatDoor.PX
set_option linter.unusedSimpArgs false
set_option linter.unusedVariables false
section
variable {P:Program} {ops:Array Oper} {Q:Exit → Act → World → Prop} {md:Region.Mode} {S:World → Prop} {ds:List Nat} {T:Bool × List (List Nat × List Nat)} {oi:Oper} {v:Value} {fuel:Nat} {l:Array Bool} {a a':Act} {w:World}
theorem rP (i:Nat) (N:Option Tmp) (HT:zx (uj md ops = T)) (h:qj P md ops Q S ds fuel (l.setIfInBounds i true) a' w)
    (hi:ops[i]? = some oi:=by exact rfl) (hN:oi.dst = N:=by exact rfl) (hc:zjq T l.toList (l.setIfInBounds i true).toList i = true:=by kernel_rfl) (hQ:∀ c a w,Q (.panic c) (a.put oi.dst v) w → Q (.panic c) a w:=by exact fun _ _ _ h=>h)
    (hg:Region.wanted oi (yielded ops a.tmps) = true:=by rfl) (hy:∀ w,(execOp a.eval oi).run P w = .ok (.value v) w:=by intro w';go_simp;with_reducible rfl) (ha:a.put N v = a':=by simp only [Act.put,List.setIfInBounds_toArray,List.set_cons_zero,List.set_cons_succ,vU,uW];rfl) :
    qj P md ops Q S ds (fuel + 1) l a w:=uY _ hi hN (vE HT.out hc) hQ (Or.inl ⟨hg,hy⟩) ha h
theorem rU (i:Nat) (N:Option Tmp) (HT:zx (uj md ops = T)) (h:qj P md ops Q S ds fuel (l.setIfInBounds i true) a' w)
    (hi:ops[i]? = some oi:=by exact rfl) (hN:oi.dst = N:=by exact rfl) (hc:zjq T l.toList (l.setIfInBounds i true).toList i = true:=by kernel_rfl) (hQ:∀ c a w,Q (.panic c) (a.put oi.dst undef) w → Q (.panic c) a w:=by exact fun _ _ _ h=>h)
    (hg:Region.wanted oi (yielded ops a.tmps) = false:=by rfl) (ha:a.put N undef = a':=by simp only [Act.put,List.setIfInBounds_toArray,List.set_cons_zero,List.set_cons_succ,vU,uW];rfl) :
    qj P md ops Q S ds (fuel + 1) l a w:=uY _ hi hN (vE HT.out hc) hQ (Or.inr ⟨hg,rfl⟩) ha h
theorem rT {B:List Nat} (i:Nat) (N:Option Tmp) (HT:zx (uj md ops = T)) (HW:zx (uh T.2 B = true)) (hS:S w) (h:qj P md ops Q S ds fuel (l.setIfInBounds i true) a' w)
    (hi:ops[i]? = some oi:=by exact rfl) (hN:oi.dst = N:=by exact rfl) (hc:zvj T B ds l.toList (l.setIfInBounds i true).toList i = true:=by kernel_rfl) (hQ:∀ c a w,Q (.panic c) (a.put oi.dst v) w → Q (.panic c) a w:=by exact fun _ _ _ h=>h)
    (hg:Region.wanted oi (yielded ops a.tmps) = true:=by rfl) (hy:∀ w,S w → (execOp a.eval oi).run P w = .ok (.value v) w:=by intro w' hs_;go_simp;with_reducible rfl) (ha:a.put N v = a':=by simp only [Act.put,List.setIfInBounds_toArray,List.set_cons_zero,List.set_cons_succ,vU,uW];rfl) :
    qj P md ops Q S ds (fuel + 1) l a w:=Qu _ hi hN (V5 HT.out HW.out hc) hQ (Or.inl ⟨hg,hy⟩) hS ha h
theorem rS {X:World} {B:List Nat} {n id:Nat} (HS:zx (∀ W,Below X.heap.size X W → S W)) (hT:uj .any ops = T) (hB:uh T.2 B = true) (hm:P.follows .mixedOrders = true) (hn:ops.size = n) (hl:Array.replicate n false = l)
    (h:∀ w,zx (Below X.heap.size X w) → zx (uj .any ops = T) → zx (uh T.2 B = true) → S w → qj P .any ops Q S [] n l a w):(Code.region id ops true).wp P Q a X :=
  jr _ hm hn hl (HS.out _ (Below.refl _ _).drew) fun hH=>h _ ⟨(Below.refl _ _).drew⟩ ⟨hT⟩ ⟨hB⟩ hH
theorem rC {X:World} {f:FuncId} {fn:Func} {aps:Array Operand} {ts:Array TypeId} {args:Array Value} (i:Nat) (N:Option Tmp) (HT:zx (uj md ops = T)) (HS:zx (∀ W,Below X.heap.size X W → S W)) (HY:zx (Below X.heap.size X w)) (hf:P.funcs[f]? = some fn)
    (hcall:Calls P f args w fun e w'=>e = .returned v ∧ Below w.heap.size w w') (h:∀ w',zx (Below X.heap.size X w') → S w' → qj P md ops Q S ds fuel (l.setIfInBounds i true) a' w') (hname:(fn.name == "runtime.NumGoroutine") = false)
    (hi:ops[i]? = some oi:=by exact rfl) (hN:oi.dst = N:=by exact rfl) (hc:(dF T.2 l.toList == [i] && l.toList.set i true == (l.setIfInBounds i true).toList) = true:=by kernel_rfl) (hd:i ∉ ds:=by decide) (hb:fn.body.isSome = true:=by exact rfl) (hw:Region.wanted oi (yielded ops a.tmps) = true:=by rfl)
    (hop:oi.op = .call { callee:=.value (.func f),args:=aps,argTypes:=ts }:=by exact rfl) (hargs:aps.map a.eval = args:=by (try simp only [List.map_toArray,List.map_cons,List.map_nil]);first | done | rfl) (ha:a.put N v = a':=by simp only [Act.put,List.setIfInBounds_toArray,List.set_cons_zero,List.set_cons_succ,vU,uW];rfl) :
    qj P md ops Q S ds (fuel + 1) l a w:=by
  refine V4 _ hi hN (Zv HT.out hc) hd fun K hK=>?_
  refine wS hf hname hb args hw hN hop hargs (hcall.mono ?_)
  rintro e w' ⟨rfl,hk⟩
  have h2:=HY.out.trans (hk.mono HY.out.size)
  refine ⟨_,rfl,hK.out _ _ (HS.out _ h2) fun hH=>?_⟩
  rw [ha]
  exact h _ ⟨h2⟩ hH
end
def rval.T13:Bool × List (List Nat × List Nat):=(true,[([],[]),([],[]),([1],[1]),([0,2],[0,2]),([3],[3]),([4,3],[4]),([5],[5]),([5],[5]),([7,5],[5,7]),([6,8,5,5],[5,6,8]),([9,5],[5,9]),([5,10],[5,10]),([11,9],[11]),([12],[12]),([12],[12]),([14,12],[12,14]),([13,15,12,12],[12,13,15]),([16,12],[12,16]),([12,17],[12,17]),([18,16],[18]),([19],[19]),([20,19],[19,20]),([21,19,19],[19,21]),([22],[22]),([23,22],[22,23]),([22],[22]),([25,22],[22,25]),([24,26,22],[22,24,26]),([27,22],[22,27]),([28,22],[22,28]),([22],[22]),([30,22],[22,30]),([22],[22]),([32,22],[22,32]),([31,33,22],[22,31,33]),([34,22],[22,34]),([35,22],[22,35]),([22],[22]),([37,22],[22,37]),([22],[22]),([39,22],[22,39]),([29,36,38,40,22,22],[22,29,36,38,40]),([41,22],[22,41]),([22,42,19],[19,22,42]),([19,43],[19,43])])
def rval.B13:List Nat:=[0,0,2,7,15,31,63,63,191,511,1023,2047,4095,8191,8191,24575,65535,131071,262143,524287,1048575,2097151,4194303,8388607,16777215,8388607,41943039,134217727,268435455,536870911,8388607,1082130431,8388607,4303355903,16114515967,33294385151,67654123519,8388607,137447342079,8388607,549764202495,2199023255551,4398046511103,8796093022207,17592186044415]
theorem rval.WY:uj .any (opsOf Tryz.f106 13) = rval.T13:=by kernel_rfl
theorem rval.Qp:uh rval.T13.2 rval.B13 = true:=by kernel_rfl
def rval.T19:Bool × List (List Nat × List Nat):=(true,[([],[]),([],[]),([1],[1]),([0,2],[0,2]),([3],[3]),([4,3],[4]),([5],[5]),([5],[5]),([7,5],[5,7]),([6,8,5,5],[5,6,8]),([9,5],[5,9]),([5,10],[5,10]),([11,9],[11]),([12],[12]),([13,12],[12,13]),([14,12],[12,14]),([12,15],[12,15]),([16,12],[16]),([17],[17]),([18,17],[17,18]),([19,17],[17,19]),([17,20],[17,20]),([21,17],[21]),([22],[22]),([23,22],[22,23]),([24,22],[22,24]),([22,25],[22,25]),([26,22],[26]),([27],[27]),([28,27],[27,28]),([29,27,27],[27,29]),([30],[30]),([31,30],[30,31]),([30],[30]),([33,30],[30,33]),([32,34,30],[30,32,34]),([35,30],[30,35]),([36,30],[30,36]),([30],[30]),([38,30],[30,38]),([30],[30]),([40,30],[30,40]),([39,41,30],[30,39,41]),([42,30],[30,42]),([43,30],[30,43]),([30],[30]),([45,30],[30,45]),([30],[30]),([47,30],[30,47]),([37,44,46,48,30,30],[30,37,44,46,48]),([49,30],[30,49]),([30,50,27],[27,30,50]),([27,51],[27,51])])
def rval.B19:List Nat:=[0,0,2,7,15,31,63,63,191,511,1023,2047,4095,8191,16383,32767,65535,131071,262143,524287,1048575,2097151,4194303,8388607,16777215,33554431,67108863,134217727,268435455,536870911,1073741823,2147483647,4294967295,2147483647,10737418239,34359738367,68719476735,137438953471,2147483647,277025390591,2147483647,1101659111423,4125316087807,8523362598911,17319455621119,2147483647,35186519572479,2147483647,140739635838975,562949953421311,1125899906842623,2251799813685247,4503599627370495]
theorem rval.Xr:uj .any (opsOf Tryz.f106 19) = rval.T19:=by kernel_rfl
theorem rval.YW:uh rval.T19.2 rval.B19 = true:=by kernel_rfl
set_option maxRecDepth 100000 in
set_option maxHeartbeats 16000000 in
theorem zYL (a:ByteArray) (b:Bool) (c:Int) (A3:Option Addr) (c3:Nat) (l3:List uX) (A4:Option Addr) (c4:Nat) (l4:List uG) (A5:Option Addr) (c5:Nat) (l5:List uN) (w:World) (h3:Kd.C Yi w A3 l3.length l3) (g3:l3.length ≤ c3) (h4:Kd.C YE w A4 l4.length l4) (g4:l4.length ≤ c4) (h5:Kd.C YP w A5 l5.length l5) (g5:l5.length ≤ c5) (hl3:l3.length ≤ 1000000000) (hl4:l4.length ≤ 1000000000) (hl5:l5.length ≤ 1000000000) (ha:a.size ≤ 140737488355328) (hz:∀ x ∈ l3,x.f0.size ≤ 140737488355328) :
    Calls Tryz.prog 106 #[.agg #[.string a,.bool b,.int .i64 c,.slice A3 l3.length c3,.slice A4 l4.length c4,.slice A5 l5.length c5]] w fun e w'=>e = .returned (.bool (mY a c l3 l4 l5)) ∧ Below w.heap.size w w':=by
  have hV0:mY a c l3 l4 l5 = ((XF a.data.toList && (!Zb c && (decide (l3.length ≤ 400) && (decide (l4.length ≤ 50) && decide (l5.length ≤ 500))))) && ((List.range l3.length).all (V9 l3) && ((List.range l4.length).all (Vo l3 l4) && (List.range l5.length).all (Vp l3 l5)))):=rfl
  generalize mY a c l3 l4 l5 = V at hV0 ⊢
  have HV:=zx.mk hV0
  clear hV0
  have hbf:(w.alloc (.cells #[.string a,.bool b,.int .i64 c,.slice A3 l3.length c3,.slice A4 l4.length c4,.slice A5 l5.length c5] 101)).heap[w.heap.size]? = some (.cells #[.string a,.bool b,.int .i64 c,.slice A3 l3.length c3,.slice A4 l4.length c4,.slice A5 l5.length c5] 101 (0,0)):=kI _ _
  have hb0:Below w.heap.size w (w.alloc (.cells #[.string a,.bool b,.int .i64 c,.slice A3 l3.length c3,.slice A4 l4.length c4,.slice A5 l5.length c5] 101)):=(Below.refl _ w).alloc (Nat.le_refl _) _
  have HF:=zx.mk (fun (W:World) (h:Below (w.alloc (.cells #[.string a,.bool b,.int .i64 c,.slice A3 l3.length c3,.slice A4 l4.length c4,.slice A5 l5.length c5] 101)).heap.size (w.alloc (.cells #[.string a,.bool b,.int .i64 c,.slice A3 l3.length c3,.slice A4 l4.length c4,.slice A5 l5.length c5] 101)) W)=>yj hbf h)
  have HW:=zx.mk (fun (W:World) (h:Below (w.alloc (.cells #[.string a,.bool b,.int .i64 c,.slice A3 l3.length c3,.slice A4 l4.length c4,.slice A5 l5.length c5] 101)).heap.size (w.alloc (.cells #[.string a,.bool b,.int .i64 c,.slice A3 l3.length c3,.slice A4 l4.length c4,.slice A5 l5.length c5] 101)) W)=>hb0.trans (h.mono hb0.size))
  have H3:=zx.mk h3;have H4:=zx.mk h4;have H5:=zx.mk h5;have G3:=zx.mk g3;have G4:=zx.mk g4;have G5:=zx.mk g5
  have HZ:=zx.mk hz
  clear h3 h4 h5 g3 g4 g5 hbf hb0 hz
  have hfn:=zx.mk (fun W=>zf0 a ha W)
  cases hf:XF a.data.toList with
  | false =>
    have hv:V = false:=by rw [HV.out,hf];rfl
    subst hv
    rw [hf] at hfn
    go_enter Tryz.func106,Tryz.ntmps106
    go_wp2_with (go_at_call 137;refine (hfn.out _).mono ?_;rintro e w1 ⟨rfl,hd1⟩)
    go_ret
    exact ⟨rfl,HW.out _ (kL hd1)⟩
  | true =>
  rw [hf] at hfn
  by_cases hbad:c < 0 ∨ 3000 < c ∨ 400 < l3.length ∨ 50 < l4.length ∨ 500 < l5.length
  · have hv:V = false:=by
      rw [HV.out]
      unfold Zb
      rcases hbad with h | h | h | h | h
      · simp [h]
      · simp [h]
      · simp [show ¬ l3.length ≤ 400 by omega]
      · simp [show ¬ l4.length ≤ 50 by omega]
      · simp [show ¬ l5.length ≤ 500 by omega]
    subst hv
    by_cases b1:c < 0
    case' neg =>
      by_cases b2:3000 < c
      case' neg =>
        by_cases b3:400 < l3.length
        case' neg =>
          by_cases b4:50 < l4.length
          case' neg=>have b5:500 < l5.length:=by omega
    all_goals
      clear hbad HV HZ
      go_enter Tryz.func106,Tryz.ntmps106
      go_wp2_with (go_at_call 137;refine (hfn.out _).mono ?_;rintro e w1 ⟨rfl,hd1⟩;have hc2:=(zX (HF.out _ (kL hd1)) 2).trans rfl;have hc3:=(zX (HF.out _ (kL hd1)) 3).trans rfl;have hc4:=(zX (HF.out _ (kL hd1)) 4).trans rfl;have hc5:=(zX (HF.out _ (kL hd1)) 5).trans rfl)
      go_ret
      exact ⟨rfl,HW.out _ (kL hd1)⟩
  · have hc0:0 ≤ c ∧ c ≤ 3000:=by omega
    have hn:l3.length ≤ 400 ∧ l4.length ≤ 50 ∧ l5.length ≤ 500:=by omega
    have jT:zx (V = ((List.range l3.length).all (V9 l3) && ((List.range l4.length).all (Vo l3 l4) && (List.range l5.length).all (Vp l3 l5)))):=⟨by
      rw [HV.out,hf]
      unfold Zb
      rw [decide_eq_false (by omega:¬ c < 0),decide_eq_false (by omega:¬ 3000 < c),decide_eq_true hn.1,decide_eq_true hn.2.1,decide_eq_true hn.2.2]
      rfl⟩
    obtain ⟨b1,b2⟩:=hc0
    obtain ⟨b3,b4,b5⟩:=hn
    clear HV hbad
    go_enter Tryz.func106,Tryz.ntmps106
    go_wp2_with (go_at_call 137;refine (hfn.out _).mono ?_;rintro e w1 ⟨rfl,hd1⟩;have hc2:=(zX (HF.out _ (kL hd1)) 2).trans rfl;have hc3:=(zX (HF.out _ (kL hd1)) 3).trans rfl;have hc4:=(zX (HF.out _ (kL hd1)) 4).trans rfl;have hc5:=(zX (HF.out _ (kL hd1)) 5).trans rfl)
    clear hfn
    go_loopw [3] (fun y W=>∃ i:Nat,y = .int .i64 (i:Int) ∧ i ≤ l3.length ∧ zx (Below (w.alloc (.cells #[.string a,.bool b,.int .i64 c,.slice A3 l3.length c3,.slice A4 l4.length c4,.slice A5 l5.length c5] 101)).heap.size (w.alloc (.cells #[.string a,.bool b,.int .i64 c,.slice A3 l3.length c3,.slice A4 l4.length c4,.slice A5 l5.length c5] 101)) W) ∧ zx (∀ j,j < i → V9 l3 j = true)) (fun y _=>l3.length - (intOf y).toNat)
    case atStart=>exact ⟨0,rfl,Nat.zero_le _,⟨kL hd1⟩,⟨fun _ h=>absurd h (Nat.not_lt_zero _)⟩⟩
    case round =>
      clear hc2 hc3 hc4 hc5 hd1
      obtain ⟨i,rfl,hi,HB3,rF⟩:=hrel
      have hcf:=(zX (HF.out _ HB3.out) 3).trans rfl
      by_cases hlt:i < l3.length
      · have hC:=Kd.zm H3.out (HW.out _ HB3.out)
        have hbX:Below wr.heap.size wr (wr.alloc (.cells #[] 0)):=(Below.refl _ wr).alloc (Nat.le_refl _) _
        clear hbX
        obtain ⟨ad,e,x0,x1⟩:=WM hC (i:Int) (by omega) (by omega)
        have hA:=e
        rw [Int.toNat_natCast] at x0 x1
        have hlA:w.heap.size < wr.heap.size:=Zx (HF.out _ HB3.out)
        rcases Nat.eq_zero_or_pos i with hi0 | hi0
        · subst hi0
          simp only [Nat.zero_mul,Addr.add_zero'] at x0 x1
          have hok:V9 l3 0 = (Zi (vK l3 ((0:Nat):Int)).f0.data.toList && (!Zb (vK l3 ((0:Nat):Int)).f1 && true)):=by
            unfold V9
            rw [decide_eq_true rfl,Bool.true_or]
          have hzx:(vK l3 ((0:Nat):Int)) ∈ l3:=by
            have e9:vK l3 ((0:Nat):Int) = l3[0]:=by simp only [vK,Int.toNat_natCast,List.getD_eq_getElem?_getD,List.getElem?_eq_getElem hlt,Option.getD_some]
            rw [e9];exact List.getElem_mem hlt
          generalize vK l3 ((0:Nat):Int) = x at x0 x1 hok hzx
          have hnq:=fun W=>(zaG x.f0 (HZ.out x hzx) W).mono fun e w' h=>And.intro h.1 h.2.out
          have q1:(0:Int) < (l3.length:Int):=by omega
          have q6:decide ((0:Int) < (l3.length:Int)) = true:=decide_eq_true q1
          rw [hA] at hcf
          clear hzx
          go_wp2_with fail
          have hbX:Below wr.heap.size wr (wr.alloc (.cells #[.string x.f0,.int .i64 x.f1] 106)):=(Below.refl _ wr).alloc (Nat.le_refl _) _
          have xD:=zx.mk (HB3.out.trans (hbX.mono HB3.out.size))
          have hbk:=kI wr (.cells #[.string x.f0,.int .i64 x.f1] 106)
          have hX0:(wr.alloc (.cells #[.string x.f0,.int .i64 x.f1] 106)).cell? ⟨wr.heap.size,0,none⟩ = some (.string x.f0):=(zX hbk 0).trans rfl
          have hX1:(wr.alloc (.cells #[.string x.f0,.int .i64 x.f1] 106)).cell? ⟨wr.heap.size,1,none⟩ = some (.int .i64 x.f1):=(zX hbk 1).trans rfl
          clear hbk hbX x0 x1  hC hcf
          generalize wr.heap.size = g4 at hX0 hlA hX1 ⊢
          generalize (wr.alloc (.cells #[.string x.f0,.int .i64 x.f1] 106)) = X at xD hX0 hX1  ⊢
          cases hnm:Zi x.f0.data.toList with
          | false =>
            simp only [hnm] at hnq
            have hv:V = false:=by
              rw [jT.out,uR (i:=0) hlt (by rw [hok,hnm];simp)]
              rfl
            subst hv
            go_quiet ((go_at_call 138;exact Calls.quiet_of (hnq _)))
            go_wp2
            go_ret
            exact ⟨rfl,HW.out _ (zL xD.out nq)⟩
          | true =>
            simp only [hnm] at hnq
            by_cases d1:x.f1 < 0
            · have dd1:decide (x.f1 < 0) = true:=decide_eq_true d1
              have hv:V = false:=by
                rw [jT.out,uR (i:=0) hlt (by rw [hok,hnm,(by unfold Zb;rw [dd1];rfl:Zb x.f1 = true)];simp)]
                rfl
              subst hv
              go_quiet ((go_at_call 138;exact Calls.quiet_of (hnq _)))
              go_wp2
              go_ret
              exact ⟨rfl,HW.out _ (zL xD.out nq)⟩
            have dd1:decide (x.f1 < 0) = false:=decide_eq_false d1
            by_cases d2:3000 < x.f1
            · have dd2:decide (3000 < x.f1) = true:=decide_eq_true d2
              have hv:V = false:=by
                rw [jT.out,uR (i:=0) hlt (by rw [hok,hnm,(by unfold Zb;rw [dd2,Bool.or_true]:Zb x.f1 = true)];simp)]
                rfl
              subst hv
              go_quiet ((go_at_call 138;exact Calls.quiet_of (hnq _)))
              go_wp2
              go_ret
              exact ⟨rfl,HW.out _ (zL xD.out nq)⟩
            have dd2:decide (3000 < x.f1) = false:=decide_eq_false d2
            have hwd:Zb x.f1 = false:=by unfold Zb;rw [dd1,dd2];rfl
            have hok2:V9 l3 0 = true:=by rw [hok,hnm,hwd];rfl
            go_quiet ((go_at_call 138;exact Calls.quiet_of (hnq _)))
            have wm:=zL xD.out nq
            go_wp2
            go_roundw
            case rel=>exact ⟨0 + 1,by first | rfl | (simp;done) | go_num,by omega,⟨wm⟩,⟨fun j hj=>(Nat.lt_succ_iff_lt_or_eq.1 hj).elim (rF.out j) (fun e=>by rw [e];exact hok2)⟩⟩
            case measure=>simp [intOf];omega
        · obtain ⟨m,rfl⟩:∃ m,i = m + 1:=⟨i - 1,by omega⟩
          obtain ⟨ad2,e2,y0,y1⟩:=WM hC (m:Int) (by omega) (by omega)
          have e3:ad = ad2:=by rw [hA] at e2;injection e2 with e2
          subst e3
          rw [Int.toNat_natCast] at y0 y1
          have hpr:(((m + 1:Nat):Int) - 1) = (m:Int):=by omega
          have hok:V9 l3 (m + 1) = (Zi (vK l3 (((m + 1):Nat):Int)).f0.data.toList && (!Zb (vK l3 (((m + 1):Nat):Int)).f1 && Op.bytesLess (vK l3 (m:Int)).f0.toList (vK l3 (((m + 1):Nat):Int)).f0.toList)):=by
            unfold V9
            rw [decide_eq_false (by omega:¬ m + 1 = 0),Bool.false_or,hpr]
          have hzx:(vK l3 (((m + 1):Nat):Int)) ∈ l3:=by
            have e9:vK l3 (((m + 1):Nat):Int) = l3[(m + 1)]:=by simp only [vK,Int.toNat_natCast,List.getD_eq_getElem?_getD,List.getElem?_eq_getElem hlt,Option.getD_some]
            rw [e9];exact List.getElem_mem hlt
          generalize vK l3 (((m + 1):Nat):Int) = x at x0 x1 hok hzx
          generalize vK l3 (m:Int) = p at y0 y1 hok
          have hnq:=fun W=>(zaG x.f0 (HZ.out x hzx) W).mono fun e w' h=>And.intro h.1 h.2.out
          have e1:IntKind.i64.wrap (((m:Int) + 1) - 1) = (m:Int):=by rw [Int.add_sub_cancel];exact IntWalk.i64_in _ (by omega)
          have q1:(m:Int) < (l3.length:Int):=by omega
          have q2:(m:Int) + 1 < (l3.length:Int):=by omega
          have q3:((m:Int) + 1).toNat = m + 1:=by omega
          have q4:(0:Int) ≤ (m:Int) + 1:=by omega
          have e0:IntKind.i64.wrap (m:Int) = (m:Int):=IntWalk.i64_in _ (by omega)
          have q5:(0:Int) ≤ (m:Int):=by omega
          have q7:decide (0 < (m:Int) + 1) = true:=decide_eq_true (by omega)
          have q8:decide ((m:Int) + 1 < (l3.length:Int)) = true:=decide_eq_true q2
          rw [hA] at hcf
          clear hzx
          go_wp2_with fail
          have hbX:Below wr.heap.size wr (wr.alloc (.cells #[.string x.f0,.int .i64 x.f1] 106)):=(Below.refl _ wr).alloc (Nat.le_refl _) _
          have xD:=zx.mk (HB3.out.trans (hbX.mono HB3.out.size))
          have hbk:=kI wr (.cells #[.string x.f0,.int .i64 x.f1] 106)
          have hX0:(wr.alloc (.cells #[.string x.f0,.int .i64 x.f1] 106)).cell? ⟨wr.heap.size,0,none⟩ = some (.string x.f0):=(zX hbk 0).trans rfl
          have hX1:(wr.alloc (.cells #[.string x.f0,.int .i64 x.f1] 106)).cell? ⟨wr.heap.size,1,none⟩ = some (.int .i64 x.f1):=(zX hbk 1).trans rfl
          have dP:(wr.alloc (.cells #[.string x.f0,.int .i64 x.f1] 106)).cell? ⟨w.heap.size,3,none⟩ = some (.slice (some ad) l3.length c3):=(zX (HF.out _ xD.out) 3).trans (by rw [hA];rfl)
          have hP0:=(hbX.cell (World.block_lt_of_cell? wr _ y0)).trans y0
          clear hbk hbX x0 x1 y0 y1 hC hcf
          generalize wr.heap.size = g4 at hX0 hlA hX1 ⊢
          generalize (wr.alloc (.cells #[.string x.f0,.int .i64 x.f1] 106)) = X at xD hX0 hX1 dP hP0  ⊢
          cases hnm:Zi x.f0.data.toList with
          | false =>
            simp only [hnm] at hnq
            have hv:V = false:=by
              rw [jT.out,uR (i:=(m + 1)) hlt (by rw [hok,hnm];simp)]
              rfl
            subst hv
            go_quiet ((go_at_call 138;exact Calls.quiet_of (hnq _)))
            go_wp2
            go_ret
            exact ⟨rfl,HW.out _ (zL xD.out nq)⟩
          | true =>
            simp only [hnm] at hnq
            by_cases d1:x.f1 < 0
            · have dd1:decide (x.f1 < 0) = true:=decide_eq_true d1
              have hv:V = false:=by
                rw [jT.out,uR (i:=(m + 1)) hlt (by rw [hok,hnm,(by unfold Zb;rw [dd1];rfl:Zb x.f1 = true)];simp)]
                rfl
              subst hv
              go_quiet ((go_at_call 138;exact Calls.quiet_of (hnq _)))
              go_wp2
              go_ret
              exact ⟨rfl,HW.out _ (zL xD.out nq)⟩
            have dd1:decide (x.f1 < 0) = false:=decide_eq_false d1
            by_cases d2:3000 < x.f1
            · have dd2:decide (3000 < x.f1) = true:=decide_eq_true d2
              have hv:V = false:=by
                rw [jT.out,uR (i:=(m + 1)) hlt (by rw [hok,hnm,(by unfold Zb;rw [dd2,Bool.or_true]:Zb x.f1 = true)];simp)]
                rfl
              subst hv
              go_quiet ((go_at_call 138;exact Calls.quiet_of (hnq _)))
              go_wp2
              go_ret
              exact ⟨rfl,HW.out _ (zL xD.out nq)⟩
            have dd2:decide (3000 < x.f1) = false:=decide_eq_false d2
            have hwd:Zb x.f1 = false:=by unfold Zb;rw [dd1,dd2];rfl
            cases hls:Op.bytesLess p.f0.toList x.f0.toList with
            | false =>
              have hv:V = false:=by
                rw [jT.out,uR (i:=(m + 1)) hlt (by rw [hok,hnm,hwd,hls];simp)]
                rfl
              subst hv
              go_quiet ((go_at_call 138;exact Calls.quiet_of (hnq _)))
              go_wp2
              go_ret
              exact ⟨rfl,HW.out _ (zL xD.out nq)⟩
            | true =>
              have hok2:V9 l3 (m + 1) = true:=by rw [hok,hnm,hwd,hls];rfl
              go_quiet ((go_at_call 138;exact Calls.quiet_of (hnq _)))
              have wm:=zL xD.out nq
              clear e0 e1
              go_wp2
              go_roundw
              case rel=>exact ⟨m + 1 + 1,by first | rfl | (simp;done) | go_num,by omega,⟨wm⟩,⟨fun j hj=>(Nat.lt_succ_iff_lt_or_eq.1 hj).elim (rF.out j) (fun e=>by rw [e];exact hok2)⟩⟩
              case measure=>simp [intOf];omega
      · obtain rfl:i = l3.length:=by omega
        have q2:decide ((l3.length:Int) < (l3.length:Int)) = false:=decide_eq_false (by omega)
        have q1:¬ (l3.length:Int) < (l3.length:Int):=by omega
        have jT:zx (V = ((List.range l4.length).all (Vo l3 l4) && (List.range l5.length).all (Vp l3 l5))):=⟨by rw [jT.out,zjV rF.out,Bool.true_and]⟩
        go_wp2
        go_loopw [5] (fun y W=>∃ i:Nat,y = .int .i64 (i:Int) ∧ i ≤ l4.length ∧ zx (Below (w.alloc (.cells #[.string a,.bool b,.int .i64 c,.slice A3 l3.length c3,.slice A4 l4.length c4,.slice A5 l5.length c5] 101)).heap.size (w.alloc (.cells #[.string a,.bool b,.int .i64 c,.slice A3 l3.length c3,.slice A4 l4.length c4,.slice A5 l5.length c5] 101)) W) ∧ zx (∀ j,j < i → Vo l3 l4 j = true)) (fun y _=>l4.length - (intOf y).toNat)
        case atStart=>exact ⟨0,rfl,Nat.zero_le _,HB3,⟨fun _ h=>absurd h (Nat.not_lt_zero _)⟩⟩
        case round =>
          skip
          obtain ⟨i,rfl,hi,WA,HK4⟩:=hrel
          have hcf:=(zX (HF.out _ WA.out) 4).trans rfl
          by_cases hlt:i < l4.length
          · have hC:=Kd.zm H4.out (HW.out _ WA.out)
            have hbX:Below wr.heap.size wr (wr.alloc (.cells #[] 0)):=(Below.refl _ wr).alloc (Nat.le_refl _) _
            clear hbX
            obtain ⟨ad,e,x0,x1,x2⟩:=Uw hC (i:Int) (by omega) (by omega)
            have hA:=e
            rw [Int.toNat_natCast] at x0 x1 x2
            have hlA:w.heap.size < wr.heap.size:=Zx (HF.out _ WA.out)
            rcases Nat.eq_zero_or_pos i with hi0 | hi0
            · subst hi0
              simp only [Nat.zero_mul,Addr.add_zero'] at x0 x1 x2
              have hok:Vo l3 l4 0 = (ko l3 (xM l4 ((0:Nat):Int)).f0 && (ko l3 (xM l4 ((0:Nat):Int)).f1 && (ko l3 (xM l4 ((0:Nat):Int)).f2 && true))):=by
                unfold Vo
                rw [decide_eq_true rfl,Bool.true_or]
              have hzx:(xM l4 ((0:Nat):Int)) ∈ l4:=by
                have e9:xM l4 ((0:Nat):Int) = l4[0]:=by simp only [xM,Int.toNat_natCast,List.getD_eq_getElem?_getD,List.getElem?_eq_getElem hlt,Option.getD_some]
                rw [e9];exact List.getElem_mem hlt
              generalize xM l4 ((0:Nat):Int) = x at x0 x1 x2 hok hzx
              have q1:(0:Int) < (l4.length:Int):=by omega
              have q6:decide ((0:Int) < (l4.length:Int)) = true:=decide_eq_true q1
              rw [hA] at hcf
              clear hzx
              go_wp2_with fail
              have hbX:Below wr.heap.size wr (wr.alloc (.cells #[.string x.f0,.string x.f1,.string x.f2] 109)):=(Below.refl _ wr).alloc (Nat.le_refl _) _
              have xD:=zx.mk (WA.out.trans (hbX.mono WA.out.size))
              have hbk:=kI wr (.cells #[.string x.f0,.string x.f1,.string x.f2] 109)
              have hX0:(wr.alloc (.cells #[.string x.f0,.string x.f1,.string x.f2] 109)).cell? ⟨wr.heap.size,0,none⟩ = some (.string x.f0):=(zX hbk 0).trans rfl
              have hX1:(wr.alloc (.cells #[.string x.f0,.string x.f1,.string x.f2] 109)).cell? ⟨wr.heap.size,1,none⟩ = some (.string x.f1):=(zX hbk 1).trans rfl
              have hX2:(wr.alloc (.cells #[.string x.f0,.string x.f1,.string x.f2] 109)).cell? ⟨wr.heap.size,2,none⟩ = some (.string x.f2):=(zX hbk 2).trans rfl
              have rG:(wr.alloc (.cells #[.string x.f0,.string x.f1,.string x.f2] 109)).cell? ⟨w.heap.size,0,none⟩ = some (.string a):=(zX (HF.out _ xD.out) 0).trans rfl
              have hF1:(wr.alloc (.cells #[.string x.f0,.string x.f1,.string x.f2] 109)).cell? ⟨w.heap.size,1,none⟩ = some (.bool b):=(zX (HF.out _ xD.out) 1).trans rfl
              have hF2:(wr.alloc (.cells #[.string x.f0,.string x.f1,.string x.f2] 109)).cell? ⟨w.heap.size,2,none⟩ = some (.int .i64 c):=(zX (HF.out _ xD.out) 2).trans rfl
              have dP:(wr.alloc (.cells #[.string x.f0,.string x.f1,.string x.f2] 109)).cell? ⟨w.heap.size,3,none⟩ = some (.slice A3 l3.length c3):=(zX (HF.out _ xD.out) 3).trans rfl
              have rH:(wr.alloc (.cells #[.string x.f0,.string x.f1,.string x.f2] 109)).cell? ⟨w.heap.size,4,none⟩ = some (.slice (some ad) l4.length c4):=(zX (HF.out _ xD.out) 4).trans (by rw [hA];rfl)
              have rM:(wr.alloc (.cells #[.string x.f0,.string x.f1,.string x.f2] 109)).cell? ⟨w.heap.size,5,none⟩ = some (.slice A5 l5.length c5):=(zX (HF.out _ xD.out) 5).trans rfl
              have hq:=fun (W:World) (n:ByteArray) (h:Below (wr.alloc (.cells #[.string x.f0,.string x.f1,.string x.f2] 109)).heap.size (wr.alloc (.cells #[.string x.f0,.string x.f1,.string x.f2] 109)) W)=>zwb a b c A3 c3 l3 A4 c4 l4 A5 c5 l5 n W (Kd.zm H3.out ((HW.out _ xD.out).trans (h.mono (HW.out _ xD.out).size))) G3.out (Kd.zm H4.out ((HW.out _ xD.out).trans (h.mono (HW.out _ xD.out).size))) G4.out (Kd.zm H5.out ((HW.out _ xD.out).trans (h.mono (HW.out _ xD.out).size))) G5.out hl3
              rw [hA] at hq
              clear hbk hbX x0 x1 x2  hC hcf
              generalize wr.heap.size = g4 at hX0 hlA hX1 hX2 ⊢
              generalize (wr.alloc (.cells #[.string x.f0,.string x.f1,.string x.f2] 109)) = X at xD hX0 hX1 hX2 rG hF1 hF2 dP rH rM hq ⊢
              have HS:=zx.mk (fun (W:World) (h:Below X.heap.size X W)=>(show W.cell? ⟨g4,0,none⟩ = some (.string x.f0) ∧ W.cell? ⟨g4,1,none⟩ = some (.string x.f1) ∧ W.cell? ⟨g4,2,none⟩ = some (.string x.f2) ∧ W.cell? ⟨w.heap.size,0,none⟩ = some (.string a) ∧ W.cell? ⟨w.heap.size,1,none⟩ = some (.bool b) ∧ W.cell? ⟨w.heap.size,2,none⟩ = some (.int .i64 c) ∧ W.cell? ⟨w.heap.size,3,none⟩ = some (.slice A3 l3.length c3) ∧ W.cell? ⟨w.heap.size,4,none⟩ = some (.slice (some ad) l4.length c4) ∧ W.cell? ⟨w.heap.size,5,none⟩ = some (.slice A5 l5.length c5) from ⟨(h.cell (World.block_lt_of_cell? X _ hX0)).trans hX0,(h.cell (World.block_lt_of_cell? X _ hX1)).trans hX1,(h.cell (World.block_lt_of_cell? X _ hX2)).trans hX2,(h.cell (World.block_lt_of_cell? X _ rG)).trans rG,(h.cell (World.block_lt_of_cell? X _ hF1)).trans hF1,(h.cell (World.block_lt_of_cell? X _ hF2)).trans hF2,(h.cell (World.block_lt_of_cell? X _ dP)).trans dP,(h.cell (World.block_lt_of_cell? X _ rH)).trans rH,(h.cell (World.block_lt_of_cell? X _ rM)).trans rM⟩))
              cases r0:ko l3 x.f0 with
              | false =>
                have h0:=fun (W:World) (h:Below X.heap.size X W)=>hq W x.f0 h
                simp only [r0] at h0
                as_aux_lemma =>
                 have hv:V = false:=by
                   rw [jT.out,uR (i:=0) hlt (by rw [hok,r0];simp)]
                   simp
                 subst hv
                 refine rS (n:=45) HS rval.WY rval.Qp (by kernel_rfl) rfl rfl (fun w0 H0 T U h=>?_)
                 refine rP 1 (some 96) T ?_;refine rT 0 (some 95) T U h ?_;refine rT 2 (some 97) T U h ?_
                 clear h;refine rC 3 (some 98) T HS H0 Tryz.func139 (h0 _ H0.out) (fun w1 H1 h=>?_) (by kernel_rfl)
                 refine rP 4 (some 99) T ?_;refine rP 5 (some 100) T ?_;refine rU 6 (some 101) T ?_;refine rU 7 (some 102) T ?_;refine rU 8 (some 103) T ?_;refine rU 9 (some 104) T ?_;refine rU 10 (some 105) T ?_;refine rP 11 (some 106) T ?_;refine rP 12 (some 107) T ?_;refine rU 13 (some 108) T ?_;refine rU 14 (some 109) T ?_;refine rU 15 (some 110) T ?_;refine rU 16 (some 111) T ?_;refine rU 17 (some 112) T ?_;refine rP 18 (some 113) T ?_;refine rP 19 (some 114) T ?_;refine rU 20 (some 115) T ?_;refine rU 21 (some 116) T ?_;refine rU 22 (some 117) T ?_;refine rU 23 (some 118) T ?_;refine rU 24 (some 119) T ?_;refine rU 25 (some 120) T ?_;refine rU 26 (some 121) T ?_;refine rU 27 (some 122) T ?_;refine rU 28 (some 123) T ?_;refine rU 29 (some 124) T ?_;refine rU 30 (some 125) T ?_;refine rU 31 (some 126) T ?_;refine rU 32 (some 127) T ?_;refine rU 33 (some 128) T ?_;refine rU 34 (some 129) T ?_;refine rU 35 (some 130) T ?_;refine rU 36 (some 131) T ?_;refine rU 37 (some 132) T ?_;refine rU 38 (some 133) T ?_;refine rU 39 (some 134) T ?_;refine rU 40 (some 135) T ?_;refine rU 41 (some 136) T ?_;refine rU 42 (some 137) T ?_;refine rU 43 (some 138) T ?_;refine rP 44 (some 139) T ?_
                 refine vW (qP T.out (by kernel_rfl)) ?_;have wm:=xD.out.trans (H1.out.mono xD.out.size);clear h;try go_wp2
                 go_ret
                 exact ⟨rfl,HW.out _ wm⟩
              | true =>
              have h0:=fun (W:World) (h:Below X.heap.size X W)=>hq W x.f0 h
              simp only [r0] at h0
              cases r1:ko l3 x.f1 with
              | false =>
                have h1:=fun (W:World) (h:Below X.heap.size X W)=>hq W x.f1 h
                simp only [r1] at h1
                as_aux_lemma =>
                 have hv:V = false:=by
                   rw [jT.out,uR (i:=0) hlt (by rw [hok,r0,r1];simp)]
                   simp
                 subst hv
                 refine rS (n:=45) HS rval.WY rval.Qp (by kernel_rfl) rfl rfl (fun w0 H0 T U h=>?_)
                 refine rP 1 (some 96) T ?_;refine rT 0 (some 95) T U h ?_;refine rT 2 (some 97) T U h ?_
                 clear h;refine rC 3 (some 98) T HS H0 Tryz.func139 (h0 _ H0.out) (fun w1 H1 h=>?_) (by kernel_rfl)
                 refine rP 4 (some 99) T ?_;refine rP 5 (some 100) T ?_;refine rP 7 (some 102) T ?_;refine rT 6 (some 101) T U h ?_;refine rT 8 (some 103) T U h ?_
                 clear h;refine rC 9 (some 104) T HS H1 Tryz.func139 (h1 _ H1.out) (fun w2 H2 h=>?_) (by kernel_rfl)
                 refine rP 10 (some 105) T ?_;refine rP 11 (some 106) T ?_;refine rP 12 (some 107) T ?_;refine rU 13 (some 108) T ?_;refine rU 14 (some 109) T ?_;refine rU 15 (some 110) T ?_;refine rU 16 (some 111) T ?_;refine rU 17 (some 112) T ?_;refine rP 18 (some 113) T ?_;refine rP 19 (some 114) T ?_;refine rU 20 (some 115) T ?_;refine rU 21 (some 116) T ?_;refine rU 22 (some 117) T ?_;refine rU 23 (some 118) T ?_;refine rU 24 (some 119) T ?_;refine rU 25 (some 120) T ?_;refine rU 26 (some 121) T ?_;refine rU 27 (some 122) T ?_;refine rU 28 (some 123) T ?_;refine rU 29 (some 124) T ?_;refine rU 30 (some 125) T ?_;refine rU 31 (some 126) T ?_;refine rU 32 (some 127) T ?_;refine rU 33 (some 128) T ?_;refine rU 34 (some 129) T ?_;refine rU 35 (some 130) T ?_;refine rU 36 (some 131) T ?_;refine rU 37 (some 132) T ?_;refine rU 38 (some 133) T ?_;refine rU 39 (some 134) T ?_;refine rU 40 (some 135) T ?_;refine rU 41 (some 136) T ?_;refine rU 42 (some 137) T ?_;refine rU 43 (some 138) T ?_;refine rP 44 (some 139) T ?_
                 refine vW (qP T.out (by kernel_rfl)) ?_;have wm:=xD.out.trans (H2.out.mono xD.out.size);clear h;try go_wp2
                 go_ret
                 exact ⟨rfl,HW.out _ wm⟩
              | true =>
              have h1:=fun (W:World) (h:Below X.heap.size X W)=>hq W x.f1 h
              simp only [r1] at h1
              cases r2:ko l3 x.f2 with
              | false =>
                have h2:=fun (W:World) (h:Below X.heap.size X W)=>hq W x.f2 h
                simp only [r2] at h2
                as_aux_lemma =>
                 have hv:V = false:=by
                   rw [jT.out,uR (i:=0) hlt (by rw [hok,r0,r1,r2];simp)]
                   simp
                 subst hv
                 refine rS (n:=45) HS rval.WY rval.Qp (by kernel_rfl) rfl rfl (fun w0 H0 T U h=>?_)
                 refine rP 1 (some 96) T ?_;refine rT 0 (some 95) T U h ?_;refine rT 2 (some 97) T U h ?_
                 clear h;refine rC 3 (some 98) T HS H0 Tryz.func139 (h0 _ H0.out) (fun w1 H1 h=>?_) (by kernel_rfl)
                 refine rP 4 (some 99) T ?_;refine rP 5 (some 100) T ?_;refine rP 7 (some 102) T ?_;refine rT 6 (some 101) T U h ?_;refine rT 8 (some 103) T U h ?_
                 clear h;refine rC 9 (some 104) T HS H1 Tryz.func139 (h1 _ H1.out) (fun w2 H2 h=>?_) (by kernel_rfl)
                 refine rP 10 (some 105) T ?_;refine rP 11 (some 106) T ?_;refine rP 12 (some 107) T ?_;refine rP 14 (some 109) T ?_;refine rT 13 (some 108) T U h ?_;refine rT 15 (some 110) T U h ?_
                 clear h;refine rC 16 (some 111) T HS H2 Tryz.func139 (h2 _ H2.out) (fun w3 H3 h=>?_) (by kernel_rfl)
                 refine rP 17 (some 112) T ?_;refine rP 18 (some 113) T ?_;refine rP 19 (some 114) T ?_;refine rU 20 (some 115) T ?_;refine rU 21 (some 116) T ?_;refine rU 22 (some 117) T ?_;refine rU 23 (some 118) T ?_;refine rU 24 (some 119) T ?_;refine rU 25 (some 120) T ?_;refine rU 26 (some 121) T ?_;refine rU 27 (some 122) T ?_;refine rU 28 (some 123) T ?_;refine rU 29 (some 124) T ?_;refine rU 30 (some 125) T ?_;refine rU 31 (some 126) T ?_;refine rU 32 (some 127) T ?_;refine rU 33 (some 128) T ?_;refine rU 34 (some 129) T ?_;refine rU 35 (some 130) T ?_;refine rU 36 (some 131) T ?_;refine rU 37 (some 132) T ?_;refine rU 38 (some 133) T ?_;refine rU 39 (some 134) T ?_;refine rU 40 (some 135) T ?_;refine rU 41 (some 136) T ?_;refine rU 42 (some 137) T ?_;refine rU 43 (some 138) T ?_;refine rP 44 (some 139) T ?_
                 refine vW (qP T.out (by kernel_rfl)) ?_;have wm:=xD.out.trans (H3.out.mono xD.out.size);clear h;try go_wp2
                 go_ret
                 exact ⟨rfl,HW.out _ wm⟩
              | true =>
              have h2:=fun (W:World) (h:Below X.heap.size X W)=>hq W x.f2 h
              simp only [r2] at h2
              as_aux_lemma =>
              have hok2:Vo l3 l4 0 = true:=by rw [hok,r0,r1,r2];rfl
              refine rS (n:=45) HS rval.WY rval.Qp (by kernel_rfl) rfl rfl (fun w0 H0 T U h=>?_)
              refine rP 1 (some 96) T ?_;refine rT 0 (some 95) T U h ?_;refine rT 2 (some 97) T U h ?_
              clear h;refine rC 3 (some 98) T HS H0 Tryz.func139 (h0 _ H0.out) (fun w1 H1 h=>?_) (by kernel_rfl)
              refine rP 4 (some 99) T ?_;refine rP 5 (some 100) T ?_;refine rP 7 (some 102) T ?_;refine rT 6 (some 101) T U h ?_;refine rT 8 (some 103) T U h ?_
              clear h;refine rC 9 (some 104) T HS H1 Tryz.func139 (h1 _ H1.out) (fun w2 H2 h=>?_) (by kernel_rfl)
              refine rP 10 (some 105) T ?_;refine rP 11 (some 106) T ?_;refine rP 12 (some 107) T ?_;refine rP 14 (some 109) T ?_;refine rT 13 (some 108) T U h ?_;refine rT 15 (some 110) T U h ?_
              clear h;refine rC 16 (some 111) T HS H2 Tryz.func139 (h2 _ H2.out) (fun w3 H3 h=>?_) (by kernel_rfl)
              refine rP 17 (some 112) T ?_;refine rP 18 (some 113) T ?_;refine rP 19 (some 114) T ?_;refine rP 20 (some 115) T ?_;refine rP 21 (some 116) T ?_;refine rP 22 (some 117) T ?_;refine rU 23 (some 118) T ?_;refine rU 24 (some 119) T ?_;refine rU 25 (some 120) T ?_;refine rU 26 (some 121) T ?_;refine rU 27 (some 122) T ?_;refine rU 28 (some 123) T ?_;refine rU 29 (some 124) T ?_;refine rU 30 (some 125) T ?_;refine rU 31 (some 126) T ?_;refine rU 32 (some 127) T ?_;refine rU 33 (some 128) T ?_;refine rU 34 (some 129) T ?_;refine rU 35 (some 130) T ?_;refine rU 36 (some 131) T ?_;refine rU 37 (some 132) T ?_;refine rU 38 (some 133) T ?_;refine rU 39 (some 134) T ?_;refine rU 40 (some 135) T ?_;refine rU 41 (some 136) T ?_;refine rU 42 (some 137) T ?_;refine rP 43 (some 138) T ?_;refine rP 44 (some 139) T ?_
              refine vW (qP T.out (by kernel_rfl)) ?_;have wm:=xD.out.trans (H3.out.mono xD.out.size);clear h;try go_wp2
              go_roundw
              case rel=>exact ⟨0 + 1,by first | rfl | (simp;done) | go_num,by omega,⟨wm⟩,⟨fun j hj=>(Nat.lt_succ_iff_lt_or_eq.1 hj).elim (HK4.out j) (fun e=>by rw [e];exact hok2)⟩⟩
              case measure=>simp [intOf];omega
            · obtain ⟨m,rfl⟩:∃ m,i = m + 1:=⟨i - 1,by omega⟩
              obtain ⟨ad2,e2,y0,y1,y2⟩:=Uw hC (m:Int) (by omega) (by omega)
              have e3:ad = ad2:=by rw [hA] at e2;injection e2 with e2
              subst e3
              rw [Int.toNat_natCast] at y0 y1 y2
              have hpr:(((m + 1:Nat):Int) - 1) = (m:Int):=by omega
              have hok:Vo l3 l4 (m + 1) = (ko l3 (xM l4 (((m + 1):Nat):Int)).f0 && (ko l3 (xM l4 (((m + 1):Nat):Int)).f1 && (ko l3 (xM l4 (((m + 1):Nat):Int)).f2 && VD (xM l4 (m:Int)).f0 (xM l4 (m:Int)).f1 (xM l4 (((m + 1):Nat):Int)).f0 (xM l4 (((m + 1):Nat):Int)).f1))):=by
                unfold Vo
                rw [decide_eq_false (by omega:¬ m + 1 = 0),Bool.false_or,hpr]
              have hzx:(xM l4 (((m + 1):Nat):Int)) ∈ l4:=by
                have e9:xM l4 (((m + 1):Nat):Int) = l4[(m + 1)]:=by simp only [xM,Int.toNat_natCast,List.getD_eq_getElem?_getD,List.getElem?_eq_getElem hlt,Option.getD_some]
                rw [e9];exact List.getElem_mem hlt
              generalize xM l4 (((m + 1):Nat):Int) = x at x0 x1 x2 hok hzx
              generalize xM l4 (m:Int) = p at y0 y1 y2 hok
              have e1:IntKind.i64.wrap (((m:Int) + 1) - 1) = (m:Int):=by rw [Int.add_sub_cancel];exact IntWalk.i64_in _ (by omega)
              have q1:(m:Int) < (l4.length:Int):=by omega
              have q2:(m:Int) + 1 < (l4.length:Int):=by omega
              have q3:((m:Int) + 1).toNat = m + 1:=by omega
              have q4:(0:Int) ≤ (m:Int) + 1:=by omega
              have e0:IntKind.i64.wrap (m:Int) = (m:Int):=IntWalk.i64_in _ (by omega)
              have q5:(0:Int) ≤ (m:Int):=by omega
              have q7:decide (0 < (m:Int) + 1) = true:=decide_eq_true (by omega)
              have q8:decide ((m:Int) + 1 < (l4.length:Int)) = true:=decide_eq_true q2
              rw [hA] at hcf
              clear hzx
              go_wp2_with fail
              have hbX:Below wr.heap.size wr (wr.alloc (.cells #[.string x.f0,.string x.f1,.string x.f2] 109)):=(Below.refl _ wr).alloc (Nat.le_refl _) _
              have xD:=zx.mk (WA.out.trans (hbX.mono WA.out.size))
              have hbk:=kI wr (.cells #[.string x.f0,.string x.f1,.string x.f2] 109)
              have hX0:(wr.alloc (.cells #[.string x.f0,.string x.f1,.string x.f2] 109)).cell? ⟨wr.heap.size,0,none⟩ = some (.string x.f0):=(zX hbk 0).trans rfl
              have hX1:(wr.alloc (.cells #[.string x.f0,.string x.f1,.string x.f2] 109)).cell? ⟨wr.heap.size,1,none⟩ = some (.string x.f1):=(zX hbk 1).trans rfl
              have hX2:(wr.alloc (.cells #[.string x.f0,.string x.f1,.string x.f2] 109)).cell? ⟨wr.heap.size,2,none⟩ = some (.string x.f2):=(zX hbk 2).trans rfl
              have rG:(wr.alloc (.cells #[.string x.f0,.string x.f1,.string x.f2] 109)).cell? ⟨w.heap.size,0,none⟩ = some (.string a):=(zX (HF.out _ xD.out) 0).trans rfl
              have hF1:(wr.alloc (.cells #[.string x.f0,.string x.f1,.string x.f2] 109)).cell? ⟨w.heap.size,1,none⟩ = some (.bool b):=(zX (HF.out _ xD.out) 1).trans rfl
              have hF2:(wr.alloc (.cells #[.string x.f0,.string x.f1,.string x.f2] 109)).cell? ⟨w.heap.size,2,none⟩ = some (.int .i64 c):=(zX (HF.out _ xD.out) 2).trans rfl
              have dP:(wr.alloc (.cells #[.string x.f0,.string x.f1,.string x.f2] 109)).cell? ⟨w.heap.size,3,none⟩ = some (.slice A3 l3.length c3):=(zX (HF.out _ xD.out) 3).trans rfl
              have rH:(wr.alloc (.cells #[.string x.f0,.string x.f1,.string x.f2] 109)).cell? ⟨w.heap.size,4,none⟩ = some (.slice (some ad) l4.length c4):=(zX (HF.out _ xD.out) 4).trans (by rw [hA];rfl)
              have rM:(wr.alloc (.cells #[.string x.f0,.string x.f1,.string x.f2] 109)).cell? ⟨w.heap.size,5,none⟩ = some (.slice A5 l5.length c5):=(zX (HF.out _ xD.out) 5).trans rfl
              have hP0:=(hbX.cell (World.block_lt_of_cell? wr _ y0)).trans y0
              have hP1:=(hbX.cell (World.block_lt_of_cell? wr _ y1)).trans y1
              have hq:=fun (W:World) (n:ByteArray) (h:Below (wr.alloc (.cells #[.string x.f0,.string x.f1,.string x.f2] 109)).heap.size (wr.alloc (.cells #[.string x.f0,.string x.f1,.string x.f2] 109)) W)=>zwb a b c A3 c3 l3 A4 c4 l4 A5 c5 l5 n W (Kd.zm H3.out ((HW.out _ xD.out).trans (h.mono (HW.out _ xD.out).size))) G3.out (Kd.zm H4.out ((HW.out _ xD.out).trans (h.mono (HW.out _ xD.out).size))) G4.out (Kd.zm H5.out ((HW.out _ xD.out).trans (h.mono (HW.out _ xD.out).size))) G5.out hl3
              rw [hA] at hq
              clear hbk hbX x0 x1 x2 y0 y1 y2 hC hcf
              generalize wr.heap.size = g4 at hX0 hlA hX1 hX2 ⊢
              generalize (wr.alloc (.cells #[.string x.f0,.string x.f1,.string x.f2] 109)) = X at xD hX0 hX1 hX2 rG hF1 hF2 dP rH rM hP0 hP1 hq ⊢
              have HS:=zx.mk (fun (W:World) (h:Below X.heap.size X W)=>(show W.cell? ⟨g4,0,none⟩ = some (.string x.f0) ∧ W.cell? ⟨g4,1,none⟩ = some (.string x.f1) ∧ W.cell? ⟨g4,2,none⟩ = some (.string x.f2) ∧ W.cell? ⟨w.heap.size,0,none⟩ = some (.string a) ∧ W.cell? ⟨w.heap.size,1,none⟩ = some (.bool b) ∧ W.cell? ⟨w.heap.size,2,none⟩ = some (.int .i64 c) ∧ W.cell? ⟨w.heap.size,3,none⟩ = some (.slice A3 l3.length c3) ∧ W.cell? ⟨w.heap.size,4,none⟩ = some (.slice (some ad) l4.length c4) ∧ W.cell? ⟨w.heap.size,5,none⟩ = some (.slice A5 l5.length c5) ∧ W.cell? (ad.add (m * 3)) = some (.string p.f0) ∧ W.cell? ⟨(ad.add (m * 3)).block,(ad.add (m * 3)).off + 1,none⟩ = some (.string p.f1) from ⟨(h.cell (World.block_lt_of_cell? X _ hX0)).trans hX0,(h.cell (World.block_lt_of_cell? X _ hX1)).trans hX1,(h.cell (World.block_lt_of_cell? X _ hX2)).trans hX2,(h.cell (World.block_lt_of_cell? X _ rG)).trans rG,(h.cell (World.block_lt_of_cell? X _ hF1)).trans hF1,(h.cell (World.block_lt_of_cell? X _ hF2)).trans hF2,(h.cell (World.block_lt_of_cell? X _ dP)).trans dP,(h.cell (World.block_lt_of_cell? X _ rH)).trans rH,(h.cell (World.block_lt_of_cell? X _ rM)).trans rM,(h.cell (World.block_lt_of_cell? X _ hP0)).trans hP0,(h.cell (World.block_lt_of_cell? X _ hP1)).trans hP1⟩))
              cases r0:ko l3 x.f0 with
              | false =>
                have h0:=fun (W:World) (h:Below X.heap.size X W)=>hq W x.f0 h
                simp only [r0] at h0
                as_aux_lemma =>
                 have hv:V = false:=by
                   rw [jT.out,uR (i:=(m + 1)) hlt (by rw [hok,r0];simp)]
                   simp
                 subst hv
                 refine rS (n:=45) HS rval.WY rval.Qp (by kernel_rfl) rfl rfl (fun w0 H0 T U h=>?_)
                 refine rP 1 (some 96) T ?_;refine rT 0 (some 95) T U h ?_;refine rT 2 (some 97) T U h ?_
                 clear h;refine rC 3 (some 98) T HS H0 Tryz.func139 (h0 _ H0.out) (fun w1 H1 h=>?_) (by kernel_rfl)
                 refine rP 4 (some 99) T ?_;refine rP 5 (some 100) T ?_;refine rU 6 (some 101) T ?_;refine rU 7 (some 102) T ?_;refine rU 8 (some 103) T ?_;refine rU 9 (some 104) T ?_;refine rU 10 (some 105) T ?_;refine rP 11 (some 106) T ?_;refine rP 12 (some 107) T ?_;refine rU 13 (some 108) T ?_;refine rU 14 (some 109) T ?_;refine rU 15 (some 110) T ?_;refine rU 16 (some 111) T ?_;refine rU 17 (some 112) T ?_;refine rP 18 (some 113) T ?_;refine rP 19 (some 114) T ?_;refine rU 20 (some 115) T ?_;refine rU 21 (some 116) T ?_;refine rU 22 (some 117) T ?_;refine rU 23 (some 118) T ?_;refine rU 24 (some 119) T ?_;refine rU 25 (some 120) T ?_;refine rU 26 (some 121) T ?_;refine rU 27 (some 122) T ?_;refine rU 28 (some 123) T ?_;refine rU 29 (some 124) T ?_;refine rU 30 (some 125) T ?_;refine rU 31 (some 126) T ?_;refine rU 32 (some 127) T ?_;refine rU 33 (some 128) T ?_;refine rU 34 (some 129) T ?_;refine rU 35 (some 130) T ?_;refine rU 36 (some 131) T ?_;refine rU 37 (some 132) T ?_;refine rU 38 (some 133) T ?_;refine rU 39 (some 134) T ?_;refine rU 40 (some 135) T ?_;refine rU 41 (some 136) T ?_;refine rU 42 (some 137) T ?_;refine rU 43 (some 138) T ?_;refine rP 44 (some 139) T ?_
                 refine vW (qP T.out (by kernel_rfl)) ?_;have wm:=xD.out.trans (H1.out.mono xD.out.size);clear h;try go_wp2
                 go_ret
                 exact ⟨rfl,HW.out _ wm⟩
              | true =>
              have h0:=fun (W:World) (h:Below X.heap.size X W)=>hq W x.f0 h
              simp only [r0] at h0
              cases r1:ko l3 x.f1 with
              | false =>
                have h1:=fun (W:World) (h:Below X.heap.size X W)=>hq W x.f1 h
                simp only [r1] at h1
                as_aux_lemma =>
                 have hv:V = false:=by
                   rw [jT.out,uR (i:=(m + 1)) hlt (by rw [hok,r0,r1];simp)]
                   simp
                 subst hv
                 refine rS (n:=45) HS rval.WY rval.Qp (by kernel_rfl) rfl rfl (fun w0 H0 T U h=>?_)
                 refine rP 1 (some 96) T ?_;refine rT 0 (some 95) T U h ?_;refine rT 2 (some 97) T U h ?_
                 clear h;refine rC 3 (some 98) T HS H0 Tryz.func139 (h0 _ H0.out) (fun w1 H1 h=>?_) (by kernel_rfl)
                 refine rP 4 (some 99) T ?_;refine rP 5 (some 100) T ?_;refine rP 7 (some 102) T ?_;refine rT 6 (some 101) T U h ?_;refine rT 8 (some 103) T U h ?_
                 clear h;refine rC 9 (some 104) T HS H1 Tryz.func139 (h1 _ H1.out) (fun w2 H2 h=>?_) (by kernel_rfl)
                 refine rP 10 (some 105) T ?_;refine rP 11 (some 106) T ?_;refine rP 12 (some 107) T ?_;refine rU 13 (some 108) T ?_;refine rU 14 (some 109) T ?_;refine rU 15 (some 110) T ?_;refine rU 16 (some 111) T ?_;refine rU 17 (some 112) T ?_;refine rP 18 (some 113) T ?_;refine rP 19 (some 114) T ?_;refine rU 20 (some 115) T ?_;refine rU 21 (some 116) T ?_;refine rU 22 (some 117) T ?_;refine rU 23 (some 118) T ?_;refine rU 24 (some 119) T ?_;refine rU 25 (some 120) T ?_;refine rU 26 (some 121) T ?_;refine rU 27 (some 122) T ?_;refine rU 28 (some 123) T ?_;refine rU 29 (some 124) T ?_;refine rU 30 (some 125) T ?_;refine rU 31 (some 126) T ?_;refine rU 32 (some 127) T ?_;refine rU 33 (some 128) T ?_;refine rU 34 (some 129) T ?_;refine rU 35 (some 130) T ?_;refine rU 36 (some 131) T ?_;refine rU 37 (some 132) T ?_;refine rU 38 (some 133) T ?_;refine rU 39 (some 134) T ?_;refine rU 40 (some 135) T ?_;refine rU 41 (some 136) T ?_;refine rU 42 (some 137) T ?_;refine rU 43 (some 138) T ?_;refine rP 44 (some 139) T ?_
                 refine vW (qP T.out (by kernel_rfl)) ?_;have wm:=xD.out.trans (H2.out.mono xD.out.size);clear h;try go_wp2
                 go_ret
                 exact ⟨rfl,HW.out _ wm⟩
              | true =>
              have h1:=fun (W:World) (h:Below X.heap.size X W)=>hq W x.f1 h
              simp only [r1] at h1
              cases r2:ko l3 x.f2 with
              | false =>
                have h2:=fun (W:World) (h:Below X.heap.size X W)=>hq W x.f2 h
                simp only [r2] at h2
                as_aux_lemma =>
                 have hv:V = false:=by
                   rw [jT.out,uR (i:=(m + 1)) hlt (by rw [hok,r0,r1,r2];simp)]
                   simp
                 subst hv
                 refine rS (n:=45) HS rval.WY rval.Qp (by kernel_rfl) rfl rfl (fun w0 H0 T U h=>?_)
                 refine rP 1 (some 96) T ?_;refine rT 0 (some 95) T U h ?_;refine rT 2 (some 97) T U h ?_
                 clear h;refine rC 3 (some 98) T HS H0 Tryz.func139 (h0 _ H0.out) (fun w1 H1 h=>?_) (by kernel_rfl)
                 refine rP 4 (some 99) T ?_;refine rP 5 (some 100) T ?_;refine rP 7 (some 102) T ?_;refine rT 6 (some 101) T U h ?_;refine rT 8 (some 103) T U h ?_
                 clear h;refine rC 9 (some 104) T HS H1 Tryz.func139 (h1 _ H1.out) (fun w2 H2 h=>?_) (by kernel_rfl)
                 refine rP 10 (some 105) T ?_;refine rP 11 (some 106) T ?_;refine rP 12 (some 107) T ?_;refine rP 14 (some 109) T ?_;refine rT 13 (some 108) T U h ?_;refine rT 15 (some 110) T U h ?_
                 clear h;refine rC 16 (some 111) T HS H2 Tryz.func139 (h2 _ H2.out) (fun w3 H3 h=>?_) (by kernel_rfl)
                 refine rP 17 (some 112) T ?_;refine rP 18 (some 113) T ?_;refine rP 19 (some 114) T ?_;refine rU 20 (some 115) T ?_;refine rU 21 (some 116) T ?_;refine rU 22 (some 117) T ?_;refine rU 23 (some 118) T ?_;refine rU 24 (some 119) T ?_;refine rU 25 (some 120) T ?_;refine rU 26 (some 121) T ?_;refine rU 27 (some 122) T ?_;refine rU 28 (some 123) T ?_;refine rU 29 (some 124) T ?_;refine rU 30 (some 125) T ?_;refine rU 31 (some 126) T ?_;refine rU 32 (some 127) T ?_;refine rU 33 (some 128) T ?_;refine rU 34 (some 129) T ?_;refine rU 35 (some 130) T ?_;refine rU 36 (some 131) T ?_;refine rU 37 (some 132) T ?_;refine rU 38 (some 133) T ?_;refine rU 39 (some 134) T ?_;refine rU 40 (some 135) T ?_;refine rU 41 (some 136) T ?_;refine rU 42 (some 137) T ?_;refine rU 43 (some 138) T ?_;refine rP 44 (some 139) T ?_
                 refine vW (qP T.out (by kernel_rfl)) ?_;have wm:=xD.out.trans (H3.out.mono xD.out.size);clear h;try go_wp2
                 go_ret
                 exact ⟨rfl,HW.out _ wm⟩
              | true =>
              have h2:=fun (W:World) (h:Below X.heap.size X W)=>hq W x.f2 h
              simp only [r2] at h2
              have hah:=fun W=>(zQC p.f0 p.f1 x.f0 x.f1 W).mono fun e w' k=>And.intro k.1 (kL k.2)
              cases ra:VD p.f0 p.f1 x.f0 x.f1 with
              | false =>
                simp only [ra] at hah
                as_aux_lemma =>
                 have hv:V = false:=by
                   rw [jT.out,uR (i:=(m + 1)) hlt (by rw [hok,r0,r1,r2,ra];simp)]
                   simp
                 subst hv
                 refine rS (n:=45) HS rval.WY rval.Qp (by kernel_rfl) rfl rfl (fun w0 H0 T U h=>?_)
                 refine rP 1 (some 96) T ?_;refine rT 0 (some 95) T U h ?_;refine rT 2 (some 97) T U h ?_
                 clear h;refine rC 3 (some 98) T HS H0 Tryz.func139 (h0 _ H0.out) (fun w1 H1 h=>?_) (by kernel_rfl)
                 refine rP 4 (some 99) T ?_;refine rP 5 (some 100) T ?_;refine rP 7 (some 102) T ?_;refine rT 6 (some 101) T U h ?_;refine rT 8 (some 103) T U h ?_
                 clear h;refine rC 9 (some 104) T HS H1 Tryz.func139 (h1 _ H1.out) (fun w2 H2 h=>?_) (by kernel_rfl)
                 refine rP 10 (some 105) T ?_;refine rP 11 (some 106) T ?_;refine rP 12 (some 107) T ?_;refine rP 14 (some 109) T ?_;refine rT 13 (some 108) T U h ?_;refine rT 15 (some 110) T U h ?_
                 clear h;refine rC 16 (some 111) T HS H2 Tryz.func139 (h2 _ H2.out) (fun w3 H3 h=>?_) (by kernel_rfl)
                 refine rP 17 (some 112) T ?_;refine rP 18 (some 113) T ?_;refine rP 19 (some 114) T ?_;refine rP 20 (some 115) T ?_;refine rP 21 (some 116) T ?_;refine rP 22 (some 117) T ?_;refine rP 23 (some 118) T ?_;refine rP 25 (some 120) T ?_;refine rP 26 (some 121) T ?_;refine rP 30 (some 125) T ?_;refine rP 32 (some 127) T ?_;refine rP 33 (some 128) T ?_;refine rP 37 (some 132) T ?_;refine rP 39 (some 134) T ?_;refine rT 24 (some 119) T U h ?_;refine rP 27 (some 122) T ?_;refine rP 28 (some 123) T ?_;refine rT 29 (some 124) T U h ?_;refine rT 31 (some 126) T U h ?_;refine rP 34 (some 129) T ?_;refine rP 35 (some 130) T ?_;refine rT 36 (some 131) T U h ?_;refine rT 38 (some 133) T U h ?_;refine rT 40 (some 135) T U h ?_
                 clear h;refine rC 41 (some 136) T HS H3 Tryz.func140 (hah _) (fun w4 H4 h=>?_) (by kernel_rfl)
                 refine rP 42 (some 137) T ?_;refine rP 43 (some 138) T ?_;refine rP 44 (some 139) T ?_
                 refine vW (qP T.out (by kernel_rfl)) ?_;have wm:=xD.out.trans (H4.out.mono xD.out.size);clear h;try go_wp2
                 go_ret
                 exact ⟨rfl,HW.out _ wm⟩
              | true =>
              simp only [ra] at hah
              as_aux_lemma =>
              have hok2:Vo l3 l4 (m + 1) = true:=by rw [hok,r0,r1,r2,ra];rfl
              refine rS (n:=45) HS rval.WY rval.Qp (by kernel_rfl) rfl rfl (fun w0 H0 T U h=>?_)
              refine rP 1 (some 96) T ?_;refine rT 0 (some 95) T U h ?_;refine rT 2 (some 97) T U h ?_
              clear h;refine rC 3 (some 98) T HS H0 Tryz.func139 (h0 _ H0.out) (fun w1 H1 h=>?_) (by kernel_rfl)
              refine rP 4 (some 99) T ?_;refine rP 5 (some 100) T ?_;refine rP 7 (some 102) T ?_;refine rT 6 (some 101) T U h ?_;refine rT 8 (some 103) T U h ?_
              clear h;refine rC 9 (some 104) T HS H1 Tryz.func139 (h1 _ H1.out) (fun w2 H2 h=>?_) (by kernel_rfl)
              refine rP 10 (some 105) T ?_;refine rP 11 (some 106) T ?_;refine rP 12 (some 107) T ?_;refine rP 14 (some 109) T ?_;refine rT 13 (some 108) T U h ?_;refine rT 15 (some 110) T U h ?_
              clear h;refine rC 16 (some 111) T HS H2 Tryz.func139 (h2 _ H2.out) (fun w3 H3 h=>?_) (by kernel_rfl)
              refine rP 17 (some 112) T ?_;refine rP 18 (some 113) T ?_;refine rP 19 (some 114) T ?_;refine rP 20 (some 115) T ?_;refine rP 21 (some 116) T ?_;refine rP 22 (some 117) T ?_;refine rP 23 (some 118) T ?_;refine rP 25 (some 120) T ?_;refine rP 26 (some 121) T ?_;refine rP 30 (some 125) T ?_;refine rP 32 (some 127) T ?_;refine rP 33 (some 128) T ?_;refine rP 37 (some 132) T ?_;refine rP 39 (some 134) T ?_;refine rT 24 (some 119) T U h ?_;refine rP 27 (some 122) T ?_;refine rP 28 (some 123) T ?_;refine rT 29 (some 124) T U h ?_;refine rT 31 (some 126) T U h ?_;refine rP 34 (some 129) T ?_;refine rP 35 (some 130) T ?_;refine rT 36 (some 131) T U h ?_;refine rT 38 (some 133) T U h ?_;refine rT 40 (some 135) T U h ?_
              clear h;refine rC 41 (some 136) T HS H3 Tryz.func140 (hah _) (fun w4 H4 h=>?_) (by kernel_rfl)
              refine rP 42 (some 137) T ?_;refine rP 43 (some 138) T ?_;refine rP 44 (some 139) T ?_
              refine vW (qP T.out (by kernel_rfl)) ?_;have wm:=xD.out.trans (H4.out.mono xD.out.size);clear h;try go_wp2
              go_roundw
              case rel=>exact ⟨m + 1 + 1,by first | rfl | (simp;done) | go_num,by omega,⟨wm⟩,⟨fun j hj=>(Nat.lt_succ_iff_lt_or_eq.1 hj).elim (HK4.out j) (fun e=>by rw [e];exact hok2)⟩⟩
              case measure=>simp [intOf];omega
          · obtain rfl:i = l4.length:=by omega
            have q2:decide ((l4.length:Int) < (l4.length:Int)) = false:=decide_eq_false (by omega)
            have q1:¬ (l4.length:Int) < (l4.length:Int):=by omega
            have jT:zx (V = ((List.range l5.length).all (Vp l3 l5))):=⟨by rw [jT.out,zjV HK4.out,Bool.true_and]⟩
            go_wp2
            go_loopw [7] (fun y W=>∃ i:Nat,y = .int .i64 (i:Int) ∧ i ≤ l5.length ∧ zx (Below (w.alloc (.cells #[.string a,.bool b,.int .i64 c,.slice A3 l3.length c3,.slice A4 l4.length c4,.slice A5 l5.length c5] 101)).heap.size (w.alloc (.cells #[.string a,.bool b,.int .i64 c,.slice A3 l3.length c3,.slice A4 l4.length c4,.slice A5 l5.length c5] 101)) W) ∧ zx (∀ j,j < i → Vp l3 l5 j = true)) (fun y _=>l5.length - (intOf y).toNat)
            case atStart=>exact ⟨0,rfl,Nat.zero_le _,WA,⟨fun _ h=>absurd h (Nat.not_lt_zero _)⟩⟩
            case round =>
              skip
              obtain ⟨i,rfl,hi,gu,HK5⟩:=hrel
              have hcf:=(zX (HF.out _ gu.out) 5).trans rfl
              by_cases hlt:i < l5.length
              · have hC:=Kd.zm H5.out (HW.out _ gu.out)
                have hbX:Below wr.heap.size wr (wr.alloc (.cells #[] 0)):=(Below.refl _ wr).alloc (Nat.le_refl _) _
                clear hbX
                obtain ⟨ad,e,x0,x1,x2⟩:=UZ hC (i:Int) (by omega) (by omega)
                have hA:=e
                rw [Int.toNat_natCast] at x0 x1 x2
                have hlA:w.heap.size < wr.heap.size:=Zx (HF.out _ gu.out)
                rcases Nat.eq_zero_or_pos i with hi0 | hi0
                · subst hi0
                  simp only [Nat.zero_mul,Addr.add_zero'] at x0 x1 x2
                  have hok:Vp l3 l5 0 = (ko l3 (xZ l5 ((0:Nat):Int)).f0 && (ko l3 (xZ l5 ((0:Nat):Int)).f1 && (!decide ((xZ l5 ((0:Nat):Int)).f2 = 0) && (!decide ((xZ l5 ((0:Nat):Int)).f2 < -500) && (!decide (500 < (xZ l5 ((0:Nat):Int)).f2) && true))))):=by
                    unfold Vp
                    rw [decide_eq_true rfl,Bool.true_or]
                  have hzx:(xZ l5 ((0:Nat):Int)) ∈ l5:=by
                    have e9:xZ l5 ((0:Nat):Int) = l5[0]:=by simp only [xZ,Int.toNat_natCast,List.getD_eq_getElem?_getD,List.getElem?_eq_getElem hlt,Option.getD_some]
                    rw [e9];exact List.getElem_mem hlt
                  generalize xZ l5 ((0:Nat):Int) = x at x0 x1 x2 hok hzx
                  have q1:(0:Int) < (l5.length:Int):=by omega
                  have q6:decide ((0:Int) < (l5.length:Int)) = true:=decide_eq_true q1
                  rw [hA] at hcf
                  clear hzx
                  go_wp2_with fail
                  have hbX:Below wr.heap.size wr (wr.alloc (.cells #[.string x.f0,.string x.f1,.int .i64 x.f2] 112)):=(Below.refl _ wr).alloc (Nat.le_refl _) _
                  have xD:=zx.mk (gu.out.trans (hbX.mono gu.out.size))
                  have hbk:=kI wr (.cells #[.string x.f0,.string x.f1,.int .i64 x.f2] 112)
                  have hX0:(wr.alloc (.cells #[.string x.f0,.string x.f1,.int .i64 x.f2] 112)).cell? ⟨wr.heap.size,0,none⟩ = some (.string x.f0):=(zX hbk 0).trans rfl
                  have hX1:(wr.alloc (.cells #[.string x.f0,.string x.f1,.int .i64 x.f2] 112)).cell? ⟨wr.heap.size,1,none⟩ = some (.string x.f1):=(zX hbk 1).trans rfl
                  have hX2:(wr.alloc (.cells #[.string x.f0,.string x.f1,.int .i64 x.f2] 112)).cell? ⟨wr.heap.size,2,none⟩ = some (.int .i64 x.f2):=(zX hbk 2).trans rfl
                  have rG:(wr.alloc (.cells #[.string x.f0,.string x.f1,.int .i64 x.f2] 112)).cell? ⟨w.heap.size,0,none⟩ = some (.string a):=(zX (HF.out _ xD.out) 0).trans rfl
                  have hF1:(wr.alloc (.cells #[.string x.f0,.string x.f1,.int .i64 x.f2] 112)).cell? ⟨w.heap.size,1,none⟩ = some (.bool b):=(zX (HF.out _ xD.out) 1).trans rfl
                  have hF2:(wr.alloc (.cells #[.string x.f0,.string x.f1,.int .i64 x.f2] 112)).cell? ⟨w.heap.size,2,none⟩ = some (.int .i64 c):=(zX (HF.out _ xD.out) 2).trans rfl
                  have dP:(wr.alloc (.cells #[.string x.f0,.string x.f1,.int .i64 x.f2] 112)).cell? ⟨w.heap.size,3,none⟩ = some (.slice A3 l3.length c3):=(zX (HF.out _ xD.out) 3).trans rfl
                  have rH:(wr.alloc (.cells #[.string x.f0,.string x.f1,.int .i64 x.f2] 112)).cell? ⟨w.heap.size,4,none⟩ = some (.slice A4 l4.length c4):=(zX (HF.out _ xD.out) 4).trans rfl
                  have rM:(wr.alloc (.cells #[.string x.f0,.string x.f1,.int .i64 x.f2] 112)).cell? ⟨w.heap.size,5,none⟩ = some (.slice (some ad) l5.length c5):=(zX (HF.out _ xD.out) 5).trans (by rw [hA];rfl)
                  have hq:=fun (W:World) (n:ByteArray) (h:Below (wr.alloc (.cells #[.string x.f0,.string x.f1,.int .i64 x.f2] 112)).heap.size (wr.alloc (.cells #[.string x.f0,.string x.f1,.int .i64 x.f2] 112)) W)=>zwb a b c A3 c3 l3 A4 c4 l4 A5 c5 l5 n W (Kd.zm H3.out ((HW.out _ xD.out).trans (h.mono (HW.out _ xD.out).size))) G3.out (Kd.zm H4.out ((HW.out _ xD.out).trans (h.mono (HW.out _ xD.out).size))) G4.out (Kd.zm H5.out ((HW.out _ xD.out).trans (h.mono (HW.out _ xD.out).size))) G5.out hl3
                  rw [hA] at hq
                  clear hbk hbX x0 x1 x2  hC hcf
                  generalize wr.heap.size = g4 at hX0 hlA hX1 hX2 ⊢
                  generalize (wr.alloc (.cells #[.string x.f0,.string x.f1,.int .i64 x.f2] 112)) = X at xD hX0 hX1 hX2 rG hF1 hF2 dP rH rM hq ⊢
                  have HS:=zx.mk (fun (W:World) (h:Below X.heap.size X W)=>(show W.cell? ⟨g4,0,none⟩ = some (.string x.f0) ∧ W.cell? ⟨g4,1,none⟩ = some (.string x.f1) ∧ W.cell? ⟨g4,2,none⟩ = some (.int .i64 x.f2) ∧ W.cell? ⟨w.heap.size,0,none⟩ = some (.string a) ∧ W.cell? ⟨w.heap.size,1,none⟩ = some (.bool b) ∧ W.cell? ⟨w.heap.size,2,none⟩ = some (.int .i64 c) ∧ W.cell? ⟨w.heap.size,3,none⟩ = some (.slice A3 l3.length c3) ∧ W.cell? ⟨w.heap.size,4,none⟩ = some (.slice A4 l4.length c4) ∧ W.cell? ⟨w.heap.size,5,none⟩ = some (.slice (some ad) l5.length c5) from ⟨(h.cell (World.block_lt_of_cell? X _ hX0)).trans hX0,(h.cell (World.block_lt_of_cell? X _ hX1)).trans hX1,(h.cell (World.block_lt_of_cell? X _ hX2)).trans hX2,(h.cell (World.block_lt_of_cell? X _ rG)).trans rG,(h.cell (World.block_lt_of_cell? X _ hF1)).trans hF1,(h.cell (World.block_lt_of_cell? X _ hF2)).trans hF2,(h.cell (World.block_lt_of_cell? X _ dP)).trans dP,(h.cell (World.block_lt_of_cell? X _ rH)).trans rH,(h.cell (World.block_lt_of_cell? X _ rM)).trans rM⟩))
                  cases r0:ko l3 x.f0 with
                  | false =>
                    have h0:=fun (W:World) (h:Below X.heap.size X W)=>hq W x.f0 h
                    simp only [r0] at h0
                    as_aux_lemma =>
                     have hv:V = false:=by
                       rw [jT.out,uR (i:=0) hlt (by rw [hok,r0];simp)]
                       done
                     subst hv
                     refine rS (n:=53) HS rval.Xr rval.YW (by kernel_rfl) rfl rfl (fun w0 H0 T U h=>?_)
                     refine rP 1 (some 153) T ?_;refine rT 0 (some 152) T U h ?_;refine rT 2 (some 154) T U h ?_
                     clear h;refine rC 3 (some 155) T HS H0 Tryz.func139 (h0 _ H0.out) (fun w1 H1 h=>?_) (by kernel_rfl)
                     refine rP 4 (some 156) T ?_;refine rP 5 (some 157) T ?_;refine rU 6 (some 158) T ?_;refine rU 7 (some 159) T ?_;refine rU 8 (some 160) T ?_;refine rU 9 (some 161) T ?_;refine rU 10 (some 162) T ?_;refine rP 11 (some 163) T ?_;refine rP 12 (some 164) T ?_;refine rU 13 (some 165) T ?_;refine rU 14 (some 166) T ?_;refine rU 15 (some 167) T ?_;refine rP 16 (some 168) T ?_;refine rP 17 (some 169) T ?_;refine rU 18 (some 170) T ?_;refine rU 19 (some 171) T ?_;refine rU 20 (some 172) T ?_;refine rP 21 (some 173) T ?_;refine rP 22 (some 174) T ?_;refine rU 23 (some 175) T ?_;refine rU 24 (some 176) T ?_;refine rU 25 (some 177) T ?_;refine rP 26 (some 178) T ?_;refine rP 27 (some 179) T ?_;refine rU 28 (some 180) T ?_;refine rU 29 (some 181) T ?_;refine rU 30 (some 182) T ?_;refine rU 31 (some 183) T ?_;refine rU 32 (some 184) T ?_;refine rU 33 (some 185) T ?_;refine rU 34 (some 186) T ?_;refine rU 35 (some 187) T ?_;refine rU 36 (some 188) T ?_;refine rU 37 (some 189) T ?_;refine rU 38 (some 190) T ?_;refine rU 39 (some 191) T ?_;refine rU 40 (some 192) T ?_;refine rU 41 (some 193) T ?_;refine rU 42 (some 194) T ?_;refine rU 43 (some 195) T ?_;refine rU 44 (some 196) T ?_;refine rU 45 (some 197) T ?_;refine rU 46 (some 198) T ?_;refine rU 47 (some 199) T ?_;refine rU 48 (some 200) T ?_;refine rU 49 (some 201) T ?_;refine rU 50 (some 202) T ?_;refine rU 51 (some 203) T ?_;refine rP 52 (some 204) T ?_
                     refine vW (qP T.out (by kernel_rfl)) ?_;have wm:=xD.out.trans (H1.out.mono xD.out.size);clear h;try go_wp2
                     go_ret
                     exact ⟨rfl,HW.out _ wm⟩
                  | true =>
                  have h0:=fun (W:World) (h:Below X.heap.size X W)=>hq W x.f0 h
                  simp only [r0] at h0
                  cases r1:ko l3 x.f1 with
                  | false =>
                    have h1:=fun (W:World) (h:Below X.heap.size X W)=>hq W x.f1 h
                    simp only [r1] at h1
                    as_aux_lemma =>
                     have hv:V = false:=by
                       rw [jT.out,uR (i:=0) hlt (by rw [hok,r0,r1];simp)]
                       done
                     subst hv
                     refine rS (n:=53) HS rval.Xr rval.YW (by kernel_rfl) rfl rfl (fun w0 H0 T U h=>?_)
                     refine rP 1 (some 153) T ?_;refine rT 0 (some 152) T U h ?_;refine rT 2 (some 154) T U h ?_
                     clear h;refine rC 3 (some 155) T HS H0 Tryz.func139 (h0 _ H0.out) (fun w1 H1 h=>?_) (by kernel_rfl)
                     refine rP 4 (some 156) T ?_;refine rP 5 (some 157) T ?_;refine rP 7 (some 159) T ?_;refine rT 6 (some 158) T U h ?_;refine rT 8 (some 160) T U h ?_
                     clear h;refine rC 9 (some 161) T HS H1 Tryz.func139 (h1 _ H1.out) (fun w2 H2 h=>?_) (by kernel_rfl)
                     refine rP 10 (some 162) T ?_;refine rP 11 (some 163) T ?_;refine rP 12 (some 164) T ?_;refine rU 13 (some 165) T ?_;refine rU 14 (some 166) T ?_;refine rU 15 (some 167) T ?_;refine rP 16 (some 168) T ?_;refine rP 17 (some 169) T ?_;refine rU 18 (some 170) T ?_;refine rU 19 (some 171) T ?_;refine rU 20 (some 172) T ?_;refine rP 21 (some 173) T ?_;refine rP 22 (some 174) T ?_;refine rU 23 (some 175) T ?_;refine rU 24 (some 176) T ?_;refine rU 25 (some 177) T ?_;refine rP 26 (some 178) T ?_;refine rP 27 (some 179) T ?_;refine rU 28 (some 180) T ?_;refine rU 29 (some 181) T ?_;refine rU 30 (some 182) T ?_;refine rU 31 (some 183) T ?_;refine rU 32 (some 184) T ?_;refine rU 33 (some 185) T ?_;refine rU 34 (some 186) T ?_;refine rU 35 (some 187) T ?_;refine rU 36 (some 188) T ?_;refine rU 37 (some 189) T ?_;refine rU 38 (some 190) T ?_;refine rU 39 (some 191) T ?_;refine rU 40 (some 192) T ?_;refine rU 41 (some 193) T ?_;refine rU 42 (some 194) T ?_;refine rU 43 (some 195) T ?_;refine rU 44 (some 196) T ?_;refine rU 45 (some 197) T ?_;refine rU 46 (some 198) T ?_;refine rU 47 (some 199) T ?_;refine rU 48 (some 200) T ?_;refine rU 49 (some 201) T ?_;refine rU 50 (some 202) T ?_;refine rU 51 (some 203) T ?_;refine rP 52 (some 204) T ?_
                     refine vW (qP T.out (by kernel_rfl)) ?_;have wm:=xD.out.trans (H2.out.mono xD.out.size);clear h;try go_wp2
                     go_ret
                     exact ⟨rfl,HW.out _ wm⟩
                  | true =>
                  have h1:=fun (W:World) (h:Below X.heap.size X W)=>hq W x.f1 h
                  simp only [r1] at h1
                  by_cases tz:x.f2 = 0
                  · have dz:decide (x.f2 = 0) = true:=decide_eq_true tz
                    have dz2:(x.f2 == 0) = true:=beq_iff_eq.2 tz
                    as_aux_lemma =>
                     have hv:V = false:=by
                       rw [jT.out,uR (i:=0) hlt (by rw [hok,r0,r1,dz];simp)]
                       done
                     subst hv
                     refine rS (n:=53) HS rval.Xr rval.YW (by kernel_rfl) rfl rfl (fun w0 H0 T U h=>?_)
                     refine rP 1 (some 153) T ?_;refine rT 0 (some 152) T U h ?_;refine rT 2 (some 154) T U h ?_
                     clear h;refine rC 3 (some 155) T HS H0 Tryz.func139 (h0 _ H0.out) (fun w1 H1 h=>?_) (by kernel_rfl)
                     refine rP 4 (some 156) T ?_;refine rP 5 (some 157) T ?_;refine rP 7 (some 159) T ?_;refine rT 6 (some 158) T U h ?_;refine rT 8 (some 160) T U h ?_
                     clear h;refine rC 9 (some 161) T HS H1 Tryz.func139 (h1 _ H1.out) (fun w2 H2 h=>?_) (by kernel_rfl)
                     refine rP 10 (some 162) T ?_;refine rP 11 (some 163) T ?_;refine rP 12 (some 164) T ?_;refine rP 13 (some 165) T ?_;refine rT 14 (some 166) T U h ?_;refine rP 15 (some 167) T ?_;refine rP 16 (some 168) T ?_;refine rP 17 (some 169) T ?_;refine rU 18 (some 170) T ?_;refine rU 19 (some 171) T ?_;refine rU 20 (some 172) T ?_;refine rP 21 (some 173) T ?_;refine rP 22 (some 174) T ?_;refine rU 23 (some 175) T ?_;refine rU 24 (some 176) T ?_;refine rU 25 (some 177) T ?_;refine rP 26 (some 178) T ?_;refine rP 27 (some 179) T ?_;refine rU 28 (some 180) T ?_;refine rU 29 (some 181) T ?_;refine rU 30 (some 182) T ?_;refine rU 31 (some 183) T ?_;refine rU 32 (some 184) T ?_;refine rU 33 (some 185) T ?_;refine rU 34 (some 186) T ?_;refine rU 35 (some 187) T ?_;refine rU 36 (some 188) T ?_;refine rU 37 (some 189) T ?_;refine rU 38 (some 190) T ?_;refine rU 39 (some 191) T ?_;refine rU 40 (some 192) T ?_;refine rU 41 (some 193) T ?_;refine rU 42 (some 194) T ?_;refine rU 43 (some 195) T ?_;refine rU 44 (some 196) T ?_;refine rU 45 (some 197) T ?_;refine rU 46 (some 198) T ?_;refine rU 47 (some 199) T ?_;refine rU 48 (some 200) T ?_;refine rU 49 (some 201) T ?_;refine rU 50 (some 202) T ?_;refine rU 51 (some 203) T ?_;refine rP 52 (some 204) T ?_
                     refine vW (qP T.out (by kernel_rfl)) ?_;have wm:=xD.out.trans (H2.out.mono xD.out.size);clear h;try go_wp2
                     go_ret
                     exact ⟨rfl,HW.out _ wm⟩
                  have dz:decide (x.f2 = 0) = false:=decide_eq_false tz
                  have dz2:(x.f2 == 0) = false:=beq_eq_false_iff_ne.2 tz
                  by_cases tlt:x.f2 < -500
                  · have dlt:decide (x.f2 < -500) = true:=decide_eq_true tlt
                    skip
                    as_aux_lemma =>
                     have hv:V = false:=by
                       rw [jT.out,uR (i:=0) hlt (by rw [hok,r0,r1,dz,dlt];simp)]
                       done
                     subst hv
                     refine rS (n:=53) HS rval.Xr rval.YW (by kernel_rfl) rfl rfl (fun w0 H0 T U h=>?_)
                     refine rP 1 (some 153) T ?_;refine rT 0 (some 152) T U h ?_;refine rT 2 (some 154) T U h ?_
                     clear h;refine rC 3 (some 155) T HS H0 Tryz.func139 (h0 _ H0.out) (fun w1 H1 h=>?_) (by kernel_rfl)
                     refine rP 4 (some 156) T ?_;refine rP 5 (some 157) T ?_;refine rP 7 (some 159) T ?_;refine rT 6 (some 158) T U h ?_;refine rT 8 (some 160) T U h ?_
                     clear h;refine rC 9 (some 161) T HS H1 Tryz.func139 (h1 _ H1.out) (fun w2 H2 h=>?_) (by kernel_rfl)
                     refine rP 10 (some 162) T ?_;refine rP 11 (some 163) T ?_;refine rP 12 (some 164) T ?_;refine rP 13 (some 165) T ?_;refine rT 14 (some 166) T U h ?_;refine rP 15 (some 167) T ?_;refine rP 16 (some 168) T ?_;refine rP 17 (some 169) T ?_;refine rP 18 (some 170) T ?_;refine rT 19 (some 171) T U h ?_;refine rP 20 (some 172) T ?_;refine rP 21 (some 173) T ?_;refine rP 22 (some 174) T ?_;refine rU 23 (some 175) T ?_;refine rU 24 (some 176) T ?_;refine rU 25 (some 177) T ?_;refine rP 26 (some 178) T ?_;refine rP 27 (some 179) T ?_;refine rU 28 (some 180) T ?_;refine rU 29 (some 181) T ?_;refine rU 30 (some 182) T ?_;refine rU 31 (some 183) T ?_;refine rU 32 (some 184) T ?_;refine rU 33 (some 185) T ?_;refine rU 34 (some 186) T ?_;refine rU 35 (some 187) T ?_;refine rU 36 (some 188) T ?_;refine rU 37 (some 189) T ?_;refine rU 38 (some 190) T ?_;refine rU 39 (some 191) T ?_;refine rU 40 (some 192) T ?_;refine rU 41 (some 193) T ?_;refine rU 42 (some 194) T ?_;refine rU 43 (some 195) T ?_;refine rU 44 (some 196) T ?_;refine rU 45 (some 197) T ?_;refine rU 46 (some 198) T ?_;refine rU 47 (some 199) T ?_;refine rU 48 (some 200) T ?_;refine rU 49 (some 201) T ?_;refine rU 50 (some 202) T ?_;refine rU 51 (some 203) T ?_;refine rP 52 (some 204) T ?_
                     refine vW (qP T.out (by kernel_rfl)) ?_;have wm:=xD.out.trans (H2.out.mono xD.out.size);clear h;try go_wp2
                     go_ret
                     exact ⟨rfl,HW.out _ wm⟩
                  have dlt:decide (x.f2 < -500) = false:=decide_eq_false tlt
                  skip
                  by_cases tgt:500 < x.f2
                  · have dgt:decide (500 < x.f2) = true:=decide_eq_true tgt
                    skip
                    as_aux_lemma =>
                     have hv:V = false:=by
                       rw [jT.out,uR (i:=0) hlt (by rw [hok,r0,r1,dz,dlt,dgt];simp)]
                       done
                     subst hv
                     refine rS (n:=53) HS rval.Xr rval.YW (by kernel_rfl) rfl rfl (fun w0 H0 T U h=>?_)
                     refine rP 1 (some 153) T ?_;refine rT 0 (some 152) T U h ?_;refine rT 2 (some 154) T U h ?_
                     clear h;refine rC 3 (some 155) T HS H0 Tryz.func139 (h0 _ H0.out) (fun w1 H1 h=>?_) (by kernel_rfl)
                     refine rP 4 (some 156) T ?_;refine rP 5 (some 157) T ?_;refine rP 7 (some 159) T ?_;refine rT 6 (some 158) T U h ?_;refine rT 8 (some 160) T U h ?_
                     clear h;refine rC 9 (some 161) T HS H1 Tryz.func139 (h1 _ H1.out) (fun w2 H2 h=>?_) (by kernel_rfl)
                     refine rP 10 (some 162) T ?_;refine rP 11 (some 163) T ?_;refine rP 12 (some 164) T ?_;refine rP 13 (some 165) T ?_;refine rT 14 (some 166) T U h ?_;refine rP 15 (some 167) T ?_;refine rP 16 (some 168) T ?_;refine rP 17 (some 169) T ?_;refine rP 18 (some 170) T ?_;refine rT 19 (some 171) T U h ?_;refine rP 20 (some 172) T ?_;refine rP 21 (some 173) T ?_;refine rP 22 (some 174) T ?_;refine rP 23 (some 175) T ?_;refine rT 24 (some 176) T U h ?_;refine rP 25 (some 177) T ?_;refine rP 26 (some 178) T ?_;refine rP 27 (some 179) T ?_;refine rU 28 (some 180) T ?_;refine rU 29 (some 181) T ?_;refine rU 30 (some 182) T ?_;refine rU 31 (some 183) T ?_;refine rU 32 (some 184) T ?_;refine rU 33 (some 185) T ?_;refine rU 34 (some 186) T ?_;refine rU 35 (some 187) T ?_;refine rU 36 (some 188) T ?_;refine rU 37 (some 189) T ?_;refine rU 38 (some 190) T ?_;refine rU 39 (some 191) T ?_;refine rU 40 (some 192) T ?_;refine rU 41 (some 193) T ?_;refine rU 42 (some 194) T ?_;refine rU 43 (some 195) T ?_;refine rU 44 (some 196) T ?_;refine rU 45 (some 197) T ?_;refine rU 46 (some 198) T ?_;refine rU 47 (some 199) T ?_;refine rU 48 (some 200) T ?_;refine rU 49 (some 201) T ?_;refine rU 50 (some 202) T ?_;refine rU 51 (some 203) T ?_;refine rP 52 (some 204) T ?_
                     refine vW (qP T.out (by kernel_rfl)) ?_;have wm:=xD.out.trans (H2.out.mono xD.out.size);clear h;try go_wp2
                     go_ret
                     exact ⟨rfl,HW.out _ wm⟩
                  have dgt:decide (500 < x.f2) = false:=decide_eq_false tgt
                  skip
                  as_aux_lemma =>
                  have hok2:Vp l3 l5 0 = true:=by rw [hok,r0,r1,dz,dlt,dgt];rfl
                  refine rS (n:=53) HS rval.Xr rval.YW (by kernel_rfl) rfl rfl (fun w0 H0 T U h=>?_)
                  refine rP 1 (some 153) T ?_;refine rT 0 (some 152) T U h ?_;refine rT 2 (some 154) T U h ?_
                  clear h;refine rC 3 (some 155) T HS H0 Tryz.func139 (h0 _ H0.out) (fun w1 H1 h=>?_) (by kernel_rfl)
                  refine rP 4 (some 156) T ?_;refine rP 5 (some 157) T ?_;refine rP 7 (some 159) T ?_;refine rT 6 (some 158) T U h ?_;refine rT 8 (some 160) T U h ?_
                  clear h;refine rC 9 (some 161) T HS H1 Tryz.func139 (h1 _ H1.out) (fun w2 H2 h=>?_) (by kernel_rfl)
                  refine rP 10 (some 162) T ?_;refine rP 11 (some 163) T ?_;refine rP 12 (some 164) T ?_;refine rP 13 (some 165) T ?_;refine rT 14 (some 166) T U h ?_;refine rP 15 (some 167) T ?_;refine rP 16 (some 168) T ?_;refine rP 17 (some 169) T ?_;refine rP 18 (some 170) T ?_;refine rT 19 (some 171) T U h ?_;refine rP 20 (some 172) T ?_;refine rP 21 (some 173) T ?_;refine rP 22 (some 174) T ?_;refine rP 23 (some 175) T ?_;refine rT 24 (some 176) T U h ?_;refine rP 25 (some 177) T ?_;refine rP 26 (some 178) T ?_;refine rP 27 (some 179) T ?_;refine rP 28 (some 180) T ?_;refine rP 29 (some 181) T ?_;refine rP 30 (some 182) T ?_;refine rU 31 (some 183) T ?_;refine rU 32 (some 184) T ?_;refine rU 33 (some 185) T ?_;refine rU 34 (some 186) T ?_;refine rU 35 (some 187) T ?_;refine rU 36 (some 188) T ?_;refine rU 37 (some 189) T ?_;refine rU 38 (some 190) T ?_;refine rU 39 (some 191) T ?_;refine rU 40 (some 192) T ?_;refine rU 41 (some 193) T ?_;refine rU 42 (some 194) T ?_;refine rU 43 (some 195) T ?_;refine rU 44 (some 196) T ?_;refine rU 45 (some 197) T ?_;refine rU 46 (some 198) T ?_;refine rU 47 (some 199) T ?_;refine rU 48 (some 200) T ?_;refine rU 49 (some 201) T ?_;refine rU 50 (some 202) T ?_;refine rP 51 (some 203) T ?_;refine rP 52 (some 204) T ?_
                  refine vW (qP T.out (by kernel_rfl)) ?_;have wm:=xD.out.trans (H2.out.mono xD.out.size);clear h;try go_wp2
                  go_roundw
                  case rel=>exact ⟨0 + 1,by first | rfl | (simp;done) | go_num,by omega,⟨wm⟩,⟨fun j hj=>(Nat.lt_succ_iff_lt_or_eq.1 hj).elim (HK5.out j) (fun e=>by rw [e];exact hok2)⟩⟩
                  case measure=>simp [intOf];omega
                · obtain ⟨m,rfl⟩:∃ m,i = m + 1:=⟨i - 1,by omega⟩
                  obtain ⟨ad2,e2,y0,y1,y2⟩:=UZ hC (m:Int) (by omega) (by omega)
                  have e3:ad = ad2:=by rw [hA] at e2;injection e2 with e2
                  subst e3
                  rw [Int.toNat_natCast] at y0 y1 y2
                  have hpr:(((m + 1:Nat):Int) - 1) = (m:Int):=by omega
                  have hok:Vp l3 l5 (m + 1) = (ko l3 (xZ l5 (((m + 1):Nat):Int)).f0 && (ko l3 (xZ l5 (((m + 1):Nat):Int)).f1 && (!decide ((xZ l5 (((m + 1):Nat):Int)).f2 = 0) && (!decide ((xZ l5 (((m + 1):Nat):Int)).f2 < -500) && (!decide (500 < (xZ l5 (((m + 1):Nat):Int)).f2) && VD (xZ l5 (m:Int)).f0 (xZ l5 (m:Int)).f1 (xZ l5 (((m + 1):Nat):Int)).f0 (xZ l5 (((m + 1):Nat):Int)).f1))))):=by
                    unfold Vp
                    rw [decide_eq_false (by omega:¬ m + 1 = 0),Bool.false_or,hpr]
                  have hzx:(xZ l5 (((m + 1):Nat):Int)) ∈ l5:=by
                    have e9:xZ l5 (((m + 1):Nat):Int) = l5[(m + 1)]:=by simp only [xZ,Int.toNat_natCast,List.getD_eq_getElem?_getD,List.getElem?_eq_getElem hlt,Option.getD_some]
                    rw [e9];exact List.getElem_mem hlt
                  generalize xZ l5 (((m + 1):Nat):Int) = x at x0 x1 x2 hok hzx
                  generalize xZ l5 (m:Int) = p at y0 y1 y2 hok
                  have e1:IntKind.i64.wrap (((m:Int) + 1) - 1) = (m:Int):=by rw [Int.add_sub_cancel];exact IntWalk.i64_in _ (by omega)
                  have q1:(m:Int) < (l5.length:Int):=by omega
                  have q2:(m:Int) + 1 < (l5.length:Int):=by omega
                  have q3:((m:Int) + 1).toNat = m + 1:=by omega
                  have q4:(0:Int) ≤ (m:Int) + 1:=by omega
                  have e0:IntKind.i64.wrap (m:Int) = (m:Int):=IntWalk.i64_in _ (by omega)
                  have q5:(0:Int) ≤ (m:Int):=by omega
                  have q7:decide (0 < (m:Int) + 1) = true:=decide_eq_true (by omega)
                  have q8:decide ((m:Int) + 1 < (l5.length:Int)) = true:=decide_eq_true q2
                  rw [hA] at hcf
                  clear hzx
                  go_wp2_with fail
                  have hbX:Below wr.heap.size wr (wr.alloc (.cells #[.string x.f0,.string x.f1,.int .i64 x.f2] 112)):=(Below.refl _ wr).alloc (Nat.le_refl _) _
                  have xD:=zx.mk (gu.out.trans (hbX.mono gu.out.size))
                  have hbk:=kI wr (.cells #[.string x.f0,.string x.f1,.int .i64 x.f2] 112)
                  have hX0:(wr.alloc (.cells #[.string x.f0,.string x.f1,.int .i64 x.f2] 112)).cell? ⟨wr.heap.size,0,none⟩ = some (.string x.f0):=(zX hbk 0).trans rfl
                  have hX1:(wr.alloc (.cells #[.string x.f0,.string x.f1,.int .i64 x.f2] 112)).cell? ⟨wr.heap.size,1,none⟩ = some (.string x.f1):=(zX hbk 1).trans rfl
                  have hX2:(wr.alloc (.cells #[.string x.f0,.string x.f1,.int .i64 x.f2] 112)).cell? ⟨wr.heap.size,2,none⟩ = some (.int .i64 x.f2):=(zX hbk 2).trans rfl
                  have rG:(wr.alloc (.cells #[.string x.f0,.string x.f1,.int .i64 x.f2] 112)).cell? ⟨w.heap.size,0,none⟩ = some (.string a):=(zX (HF.out _ xD.out) 0).trans rfl
                  have hF1:(wr.alloc (.cells #[.string x.f0,.string x.f1,.int .i64 x.f2] 112)).cell? ⟨w.heap.size,1,none⟩ = some (.bool b):=(zX (HF.out _ xD.out) 1).trans rfl
                  have hF2:(wr.alloc (.cells #[.string x.f0,.string x.f1,.int .i64 x.f2] 112)).cell? ⟨w.heap.size,2,none⟩ = some (.int .i64 c):=(zX (HF.out _ xD.out) 2).trans rfl
                  have dP:(wr.alloc (.cells #[.string x.f0,.string x.f1,.int .i64 x.f2] 112)).cell? ⟨w.heap.size,3,none⟩ = some (.slice A3 l3.length c3):=(zX (HF.out _ xD.out) 3).trans rfl
                  have rH:(wr.alloc (.cells #[.string x.f0,.string x.f1,.int .i64 x.f2] 112)).cell? ⟨w.heap.size,4,none⟩ = some (.slice A4 l4.length c4):=(zX (HF.out _ xD.out) 4).trans rfl
                  have rM:(wr.alloc (.cells #[.string x.f0,.string x.f1,.int .i64 x.f2] 112)).cell? ⟨w.heap.size,5,none⟩ = some (.slice (some ad) l5.length c5):=(zX (HF.out _ xD.out) 5).trans (by rw [hA];rfl)
                  have hP0:=(hbX.cell (World.block_lt_of_cell? wr _ y0)).trans y0
                  have hP1:=(hbX.cell (World.block_lt_of_cell? wr _ y1)).trans y1
                  have hq:=fun (W:World) (n:ByteArray) (h:Below (wr.alloc (.cells #[.string x.f0,.string x.f1,.int .i64 x.f2] 112)).heap.size (wr.alloc (.cells #[.string x.f0,.string x.f1,.int .i64 x.f2] 112)) W)=>zwb a b c A3 c3 l3 A4 c4 l4 A5 c5 l5 n W (Kd.zm H3.out ((HW.out _ xD.out).trans (h.mono (HW.out _ xD.out).size))) G3.out (Kd.zm H4.out ((HW.out _ xD.out).trans (h.mono (HW.out _ xD.out).size))) G4.out (Kd.zm H5.out ((HW.out _ xD.out).trans (h.mono (HW.out _ xD.out).size))) G5.out hl3
                  rw [hA] at hq
                  clear hbk hbX x0 x1 x2 y0 y1 y2 hC hcf
                  generalize wr.heap.size = g4 at hX0 hlA hX1 hX2 ⊢
                  generalize (wr.alloc (.cells #[.string x.f0,.string x.f1,.int .i64 x.f2] 112)) = X at xD hX0 hX1 hX2 rG hF1 hF2 dP rH rM hP0 hP1 hq ⊢
                  have HS:=zx.mk (fun (W:World) (h:Below X.heap.size X W)=>(show W.cell? ⟨g4,0,none⟩ = some (.string x.f0) ∧ W.cell? ⟨g4,1,none⟩ = some (.string x.f1) ∧ W.cell? ⟨g4,2,none⟩ = some (.int .i64 x.f2) ∧ W.cell? ⟨w.heap.size,0,none⟩ = some (.string a) ∧ W.cell? ⟨w.heap.size,1,none⟩ = some (.bool b) ∧ W.cell? ⟨w.heap.size,2,none⟩ = some (.int .i64 c) ∧ W.cell? ⟨w.heap.size,3,none⟩ = some (.slice A3 l3.length c3) ∧ W.cell? ⟨w.heap.size,4,none⟩ = some (.slice A4 l4.length c4) ∧ W.cell? ⟨w.heap.size,5,none⟩ = some (.slice (some ad) l5.length c5) ∧ W.cell? (ad.add (m * 3)) = some (.string p.f0) ∧ W.cell? ⟨(ad.add (m * 3)).block,(ad.add (m * 3)).off + 1,none⟩ = some (.string p.f1) from ⟨(h.cell (World.block_lt_of_cell? X _ hX0)).trans hX0,(h.cell (World.block_lt_of_cell? X _ hX1)).trans hX1,(h.cell (World.block_lt_of_cell? X _ hX2)).trans hX2,(h.cell (World.block_lt_of_cell? X _ rG)).trans rG,(h.cell (World.block_lt_of_cell? X _ hF1)).trans hF1,(h.cell (World.block_lt_of_cell? X _ hF2)).trans hF2,(h.cell (World.block_lt_of_cell? X _ dP)).trans dP,(h.cell (World.block_lt_of_cell? X _ rH)).trans rH,(h.cell (World.block_lt_of_cell? X _ rM)).trans rM,(h.cell (World.block_lt_of_cell? X _ hP0)).trans hP0,(h.cell (World.block_lt_of_cell? X _ hP1)).trans hP1⟩))
                  cases r0:ko l3 x.f0 with
                  | false =>
                    have h0:=fun (W:World) (h:Below X.heap.size X W)=>hq W x.f0 h
                    simp only [r0] at h0
                    as_aux_lemma =>
                     have hv:V = false:=by
                       rw [jT.out,uR (i:=(m + 1)) hlt (by rw [hok,r0];simp)]
                       done
                     subst hv
                     refine rS (n:=53) HS rval.Xr rval.YW (by kernel_rfl) rfl rfl (fun w0 H0 T U h=>?_)
                     refine rP 1 (some 153) T ?_;refine rT 0 (some 152) T U h ?_;refine rT 2 (some 154) T U h ?_
                     clear h;refine rC 3 (some 155) T HS H0 Tryz.func139 (h0 _ H0.out) (fun w1 H1 h=>?_) (by kernel_rfl)
                     refine rP 4 (some 156) T ?_;refine rP 5 (some 157) T ?_;refine rU 6 (some 158) T ?_;refine rU 7 (some 159) T ?_;refine rU 8 (some 160) T ?_;refine rU 9 (some 161) T ?_;refine rU 10 (some 162) T ?_;refine rP 11 (some 163) T ?_;refine rP 12 (some 164) T ?_;refine rU 13 (some 165) T ?_;refine rU 14 (some 166) T ?_;refine rU 15 (some 167) T ?_;refine rP 16 (some 168) T ?_;refine rP 17 (some 169) T ?_;refine rU 18 (some 170) T ?_;refine rU 19 (some 171) T ?_;refine rU 20 (some 172) T ?_;refine rP 21 (some 173) T ?_;refine rP 22 (some 174) T ?_;refine rU 23 (some 175) T ?_;refine rU 24 (some 176) T ?_;refine rU 25 (some 177) T ?_;refine rP 26 (some 178) T ?_;refine rP 27 (some 179) T ?_;refine rU 28 (some 180) T ?_;refine rU 29 (some 181) T ?_;refine rU 30 (some 182) T ?_;refine rU 31 (some 183) T ?_;refine rU 32 (some 184) T ?_;refine rU 33 (some 185) T ?_;refine rU 34 (some 186) T ?_;refine rU 35 (some 187) T ?_;refine rU 36 (some 188) T ?_;refine rU 37 (some 189) T ?_;refine rU 38 (some 190) T ?_;refine rU 39 (some 191) T ?_;refine rU 40 (some 192) T ?_;refine rU 41 (some 193) T ?_;refine rU 42 (some 194) T ?_;refine rU 43 (some 195) T ?_;refine rU 44 (some 196) T ?_;refine rU 45 (some 197) T ?_;refine rU 46 (some 198) T ?_;refine rU 47 (some 199) T ?_;refine rU 48 (some 200) T ?_;refine rU 49 (some 201) T ?_;refine rU 50 (some 202) T ?_;refine rU 51 (some 203) T ?_;refine rP 52 (some 204) T ?_
                     refine vW (qP T.out (by kernel_rfl)) ?_;have wm:=xD.out.trans (H1.out.mono xD.out.size);clear h;try go_wp2
                     go_ret
                     exact ⟨rfl,HW.out _ wm⟩
                  | true =>
                  have h0:=fun (W:World) (h:Below X.heap.size X W)=>hq W x.f0 h
                  simp only [r0] at h0
                  cases r1:ko l3 x.f1 with
                  | false =>
                    have h1:=fun (W:World) (h:Below X.heap.size X W)=>hq W x.f1 h
                    simp only [r1] at h1
                    as_aux_lemma =>
                     have hv:V = false:=by
                       rw [jT.out,uR (i:=(m + 1)) hlt (by rw [hok,r0,r1];simp)]
                       done
                     subst hv
                     refine rS (n:=53) HS rval.Xr rval.YW (by kernel_rfl) rfl rfl (fun w0 H0 T U h=>?_)
                     refine rP 1 (some 153) T ?_;refine rT 0 (some 152) T U h ?_;refine rT 2 (some 154) T U h ?_
                     clear h;refine rC 3 (some 155) T HS H0 Tryz.func139 (h0 _ H0.out) (fun w1 H1 h=>?_) (by kernel_rfl)
                     refine rP 4 (some 156) T ?_;refine rP 5 (some 157) T ?_;refine rP 7 (some 159) T ?_;refine rT 6 (some 158) T U h ?_;refine rT 8 (some 160) T U h ?_
                     clear h;refine rC 9 (some 161) T HS H1 Tryz.func139 (h1 _ H1.out) (fun w2 H2 h=>?_) (by kernel_rfl)
                     refine rP 10 (some 162) T ?_;refine rP 11 (some 163) T ?_;refine rP 12 (some 164) T ?_;refine rU 13 (some 165) T ?_;refine rU 14 (some 166) T ?_;refine rU 15 (some 167) T ?_;refine rP 16 (some 168) T ?_;refine rP 17 (some 169) T ?_;refine rU 18 (some 170) T ?_;refine rU 19 (some 171) T ?_;refine rU 20 (some 172) T ?_;refine rP 21 (some 173) T ?_;refine rP 22 (some 174) T ?_;refine rU 23 (some 175) T ?_;refine rU 24 (some 176) T ?_;refine rU 25 (some 177) T ?_;refine rP 26 (some 178) T ?_;refine rP 27 (some 179) T ?_;refine rU 28 (some 180) T ?_;refine rU 29 (some 181) T ?_;refine rU 30 (some 182) T ?_;refine rU 31 (some 183) T ?_;refine rU 32 (some 184) T ?_;refine rU 33 (some 185) T ?_;refine rU 34 (some 186) T ?_;refine rU 35 (some 187) T ?_;refine rU 36 (some 188) T ?_;refine rU 37 (some 189) T ?_;refine rU 38 (some 190) T ?_;refine rU 39 (some 191) T ?_;refine rU 40 (some 192) T ?_;refine rU 41 (some 193) T ?_;refine rU 42 (some 194) T ?_;refine rU 43 (some 195) T ?_;refine rU 44 (some 196) T ?_;refine rU 45 (some 197) T ?_;refine rU 46 (some 198) T ?_;refine rU 47 (some 199) T ?_;refine rU 48 (some 200) T ?_;refine rU 49 (some 201) T ?_;refine rU 50 (some 202) T ?_;refine rU 51 (some 203) T ?_;refine rP 52 (some 204) T ?_
                     refine vW (qP T.out (by kernel_rfl)) ?_;have wm:=xD.out.trans (H2.out.mono xD.out.size);clear h;try go_wp2
                     go_ret
                     exact ⟨rfl,HW.out _ wm⟩
                  | true =>
                  have h1:=fun (W:World) (h:Below X.heap.size X W)=>hq W x.f1 h
                  simp only [r1] at h1
                  by_cases tz:x.f2 = 0
                  · have dz:decide (x.f2 = 0) = true:=decide_eq_true tz
                    have dz2:(x.f2 == 0) = true:=beq_iff_eq.2 tz
                    as_aux_lemma =>
                     have hv:V = false:=by
                       rw [jT.out,uR (i:=(m + 1)) hlt (by rw [hok,r0,r1,dz];simp)]
                       done
                     subst hv
                     refine rS (n:=53) HS rval.Xr rval.YW (by kernel_rfl) rfl rfl (fun w0 H0 T U h=>?_)
                     refine rP 1 (some 153) T ?_;refine rT 0 (some 152) T U h ?_;refine rT 2 (some 154) T U h ?_
                     clear h;refine rC 3 (some 155) T HS H0 Tryz.func139 (h0 _ H0.out) (fun w1 H1 h=>?_) (by kernel_rfl)
                     refine rP 4 (some 156) T ?_;refine rP 5 (some 157) T ?_;refine rP 7 (some 159) T ?_;refine rT 6 (some 158) T U h ?_;refine rT 8 (some 160) T U h ?_
                     clear h;refine rC 9 (some 161) T HS H1 Tryz.func139 (h1 _ H1.out) (fun w2 H2 h=>?_) (by kernel_rfl)
                     refine rP 10 (some 162) T ?_;refine rP 11 (some 163) T ?_;refine rP 12 (some 164) T ?_;refine rP 13 (some 165) T ?_;refine rT 14 (some 166) T U h ?_;refine rP 15 (some 167) T ?_;refine rP 16 (some 168) T ?_;refine rP 17 (some 169) T ?_;refine rU 18 (some 170) T ?_;refine rU 19 (some 171) T ?_;refine rU 20 (some 172) T ?_;refine rP 21 (some 173) T ?_;refine rP 22 (some 174) T ?_;refine rU 23 (some 175) T ?_;refine rU 24 (some 176) T ?_;refine rU 25 (some 177) T ?_;refine rP 26 (some 178) T ?_;refine rP 27 (some 179) T ?_;refine rU 28 (some 180) T ?_;refine rU 29 (some 181) T ?_;refine rU 30 (some 182) T ?_;refine rU 31 (some 183) T ?_;refine rU 32 (some 184) T ?_;refine rU 33 (some 185) T ?_;refine rU 34 (some 186) T ?_;refine rU 35 (some 187) T ?_;refine rU 36 (some 188) T ?_;refine rU 37 (some 189) T ?_;refine rU 38 (some 190) T ?_;refine rU 39 (some 191) T ?_;refine rU 40 (some 192) T ?_;refine rU 41 (some 193) T ?_;refine rU 42 (some 194) T ?_;refine rU 43 (some 195) T ?_;refine rU 44 (some 196) T ?_;refine rU 45 (some 197) T ?_;refine rU 46 (some 198) T ?_;refine rU 47 (some 199) T ?_;refine rU 48 (some 200) T ?_;refine rU 49 (some 201) T ?_;refine rU 50 (some 202) T ?_;refine rU 51 (some 203) T ?_;refine rP 52 (some 204) T ?_
                     refine vW (qP T.out (by kernel_rfl)) ?_;have wm:=xD.out.trans (H2.out.mono xD.out.size);clear h;try go_wp2
                     go_ret
                     exact ⟨rfl,HW.out _ wm⟩
                  have dz:decide (x.f2 = 0) = false:=decide_eq_false tz
                  have dz2:(x.f2 == 0) = false:=beq_eq_false_iff_ne.2 tz
                  by_cases tlt:x.f2 < -500
                  · have dlt:decide (x.f2 < -500) = true:=decide_eq_true tlt
                    skip
                    as_aux_lemma =>
                     have hv:V = false:=by
                       rw [jT.out,uR (i:=(m + 1)) hlt (by rw [hok,r0,r1,dz,dlt];simp)]
                       done
                     subst hv
                     refine rS (n:=53) HS rval.Xr rval.YW (by kernel_rfl) rfl rfl (fun w0 H0 T U h=>?_)
                     refine rP 1 (some 153) T ?_;refine rT 0 (some 152) T U h ?_;refine rT 2 (some 154) T U h ?_
                     clear h;refine rC 3 (some 155) T HS H0 Tryz.func139 (h0 _ H0.out) (fun w1 H1 h=>?_) (by kernel_rfl)
                     refine rP 4 (some 156) T ?_;refine rP 5 (some 157) T ?_;refine rP 7 (some 159) T ?_;refine rT 6 (some 158) T U h ?_;refine rT 8 (some 160) T U h ?_
                     clear h;refine rC 9 (some 161) T HS H1 Tryz.func139 (h1 _ H1.out) (fun w2 H2 h=>?_) (by kernel_rfl)
                     refine rP 10 (some 162) T ?_;refine rP 11 (some 163) T ?_;refine rP 12 (some 164) T ?_;refine rP 13 (some 165) T ?_;refine rT 14 (some 166) T U h ?_;refine rP 15 (some 167) T ?_;refine rP 16 (some 168) T ?_;refine rP 17 (some 169) T ?_;refine rP 18 (some 170) T ?_;refine rT 19 (some 171) T U h ?_;refine rP 20 (some 172) T ?_;refine rP 21 (some 173) T ?_;refine rP 22 (some 174) T ?_;refine rU 23 (some 175) T ?_;refine rU 24 (some 176) T ?_;refine rU 25 (some 177) T ?_;refine rP 26 (some 178) T ?_;refine rP 27 (some 179) T ?_;refine rU 28 (some 180) T ?_;refine rU 29 (some 181) T ?_;refine rU 30 (some 182) T ?_;refine rU 31 (some 183) T ?_;refine rU 32 (some 184) T ?_;refine rU 33 (some 185) T ?_;refine rU 34 (some 186) T ?_;refine rU 35 (some 187) T ?_;refine rU 36 (some 188) T ?_;refine rU 37 (some 189) T ?_;refine rU 38 (some 190) T ?_;refine rU 39 (some 191) T ?_;refine rU 40 (some 192) T ?_;refine rU 41 (some 193) T ?_;refine rU 42 (some 194) T ?_;refine rU 43 (some 195) T ?_;refine rU 44 (some 196) T ?_;refine rU 45 (some 197) T ?_;refine rU 46 (some 198) T ?_;refine rU 47 (some 199) T ?_;refine rU 48 (some 200) T ?_;refine rU 49 (some 201) T ?_;refine rU 50 (some 202) T ?_;refine rU 51 (some 203) T ?_;refine rP 52 (some 204) T ?_
                     refine vW (qP T.out (by kernel_rfl)) ?_;have wm:=xD.out.trans (H2.out.mono xD.out.size);clear h;try go_wp2
                     go_ret
                     exact ⟨rfl,HW.out _ wm⟩
                  have dlt:decide (x.f2 < -500) = false:=decide_eq_false tlt
                  skip
                  by_cases tgt:500 < x.f2
                  · have dgt:decide (500 < x.f2) = true:=decide_eq_true tgt
                    skip
                    as_aux_lemma =>
                     have hv:V = false:=by
                       rw [jT.out,uR (i:=(m + 1)) hlt (by rw [hok,r0,r1,dz,dlt,dgt];simp)]
                       done
                     subst hv
                     refine rS (n:=53) HS rval.Xr rval.YW (by kernel_rfl) rfl rfl (fun w0 H0 T U h=>?_)
                     refine rP 1 (some 153) T ?_;refine rT 0 (some 152) T U h ?_;refine rT 2 (some 154) T U h ?_
                     clear h;refine rC 3 (some 155) T HS H0 Tryz.func139 (h0 _ H0.out) (fun w1 H1 h=>?_) (by kernel_rfl)
                     refine rP 4 (some 156) T ?_;refine rP 5 (some 157) T ?_;refine rP 7 (some 159) T ?_;refine rT 6 (some 158) T U h ?_;refine rT 8 (some 160) T U h ?_
                     clear h;refine rC 9 (some 161) T HS H1 Tryz.func139 (h1 _ H1.out) (fun w2 H2 h=>?_) (by kernel_rfl)
                     refine rP 10 (some 162) T ?_;refine rP 11 (some 163) T ?_;refine rP 12 (some 164) T ?_;refine rP 13 (some 165) T ?_;refine rT 14 (some 166) T U h ?_;refine rP 15 (some 167) T ?_;refine rP 16 (some 168) T ?_;refine rP 17 (some 169) T ?_;refine rP 18 (some 170) T ?_;refine rT 19 (some 171) T U h ?_;refine rP 20 (some 172) T ?_;refine rP 21 (some 173) T ?_;refine rP 22 (some 174) T ?_;refine rP 23 (some 175) T ?_;refine rT 24 (some 176) T U h ?_;refine rP 25 (some 177) T ?_;refine rP 26 (some 178) T ?_;refine rP 27 (some 179) T ?_;refine rU 28 (some 180) T ?_;refine rU 29 (some 181) T ?_;refine rU 30 (some 182) T ?_;refine rU 31 (some 183) T ?_;refine rU 32 (some 184) T ?_;refine rU 33 (some 185) T ?_;refine rU 34 (some 186) T ?_;refine rU 35 (some 187) T ?_;refine rU 36 (some 188) T ?_;refine rU 37 (some 189) T ?_;refine rU 38 (some 190) T ?_;refine rU 39 (some 191) T ?_;refine rU 40 (some 192) T ?_;refine rU 41 (some 193) T ?_;refine rU 42 (some 194) T ?_;refine rU 43 (some 195) T ?_;refine rU 44 (some 196) T ?_;refine rU 45 (some 197) T ?_;refine rU 46 (some 198) T ?_;refine rU 47 (some 199) T ?_;refine rU 48 (some 200) T ?_;refine rU 49 (some 201) T ?_;refine rU 50 (some 202) T ?_;refine rU 51 (some 203) T ?_;refine rP 52 (some 204) T ?_
                     refine vW (qP T.out (by kernel_rfl)) ?_;have wm:=xD.out.trans (H2.out.mono xD.out.size);clear h;try go_wp2
                     go_ret
                     exact ⟨rfl,HW.out _ wm⟩
                  have dgt:decide (500 < x.f2) = false:=decide_eq_false tgt
                  skip
                  have hah:=fun W=>(zQC p.f0 p.f1 x.f0 x.f1 W).mono fun e w' k=>And.intro k.1 (kL k.2)
                  cases ra:VD p.f0 p.f1 x.f0 x.f1 with
                  | false =>
                    simp only [ra] at hah
                    as_aux_lemma =>
                     have hv:V = false:=by
                       rw [jT.out,uR (i:=(m + 1)) hlt (by rw [hok,r0,r1,dz,dlt,dgt,ra];simp)]
                       done
                     subst hv
                     refine rS (n:=53) HS rval.Xr rval.YW (by kernel_rfl) rfl rfl (fun w0 H0 T U h=>?_)
                     refine rP 1 (some 153) T ?_;refine rT 0 (some 152) T U h ?_;refine rT 2 (some 154) T U h ?_
                     clear h;refine rC 3 (some 155) T HS H0 Tryz.func139 (h0 _ H0.out) (fun w1 H1 h=>?_) (by kernel_rfl)
                     refine rP 4 (some 156) T ?_;refine rP 5 (some 157) T ?_;refine rP 7 (some 159) T ?_;refine rT 6 (some 158) T U h ?_;refine rT 8 (some 160) T U h ?_
                     clear h;refine rC 9 (some 161) T HS H1 Tryz.func139 (h1 _ H1.out) (fun w2 H2 h=>?_) (by kernel_rfl)
                     refine rP 10 (some 162) T ?_;refine rP 11 (some 163) T ?_;refine rP 12 (some 164) T ?_;refine rP 13 (some 165) T ?_;refine rT 14 (some 166) T U h ?_;refine rP 15 (some 167) T ?_;refine rP 16 (some 168) T ?_;refine rP 17 (some 169) T ?_;refine rP 18 (some 170) T ?_;refine rT 19 (some 171) T U h ?_;refine rP 20 (some 172) T ?_;refine rP 21 (some 173) T ?_;refine rP 22 (some 174) T ?_;refine rP 23 (some 175) T ?_;refine rT 24 (some 176) T U h ?_;refine rP 25 (some 177) T ?_;refine rP 26 (some 178) T ?_;refine rP 27 (some 179) T ?_;refine rP 28 (some 180) T ?_;refine rP 29 (some 181) T ?_;refine rP 30 (some 182) T ?_;refine rP 31 (some 183) T ?_;refine rP 33 (some 185) T ?_;refine rP 34 (some 186) T ?_;refine rP 38 (some 190) T ?_;refine rP 40 (some 192) T ?_;refine rP 41 (some 193) T ?_;refine rP 45 (some 197) T ?_;refine rP 47 (some 199) T ?_;refine rT 32 (some 184) T U h ?_;refine rP 35 (some 187) T ?_;refine rP 36 (some 188) T ?_;refine rT 37 (some 189) T U h ?_;refine rT 39 (some 191) T U h ?_;refine rP 42 (some 194) T ?_;refine rP 43 (some 195) T ?_;refine rT 44 (some 196) T U h ?_;refine rT 46 (some 198) T U h ?_;refine rT 48 (some 200) T U h ?_
                     clear h;refine rC 49 (some 201) T HS H2 Tryz.func140 (hah _) (fun w3 H3 h=>?_) (by kernel_rfl)
                     refine rP 50 (some 202) T ?_;refine rP 51 (some 203) T ?_;refine rP 52 (some 204) T ?_
                     refine vW (qP T.out (by kernel_rfl)) ?_;have wm:=xD.out.trans (H3.out.mono xD.out.size);clear h;try go_wp2
                     go_ret
                     exact ⟨rfl,HW.out _ wm⟩
                  | true =>
                  simp only [ra] at hah
                  as_aux_lemma =>
                  have hok2:Vp l3 l5 (m + 1) = true:=by rw [hok,r0,r1,dz,dlt,dgt,ra];rfl
                  refine rS (n:=53) HS rval.Xr rval.YW (by kernel_rfl) rfl rfl (fun w0 H0 T U h=>?_)
                  refine rP 1 (some 153) T ?_;refine rT 0 (some 152) T U h ?_;refine rT 2 (some 154) T U h ?_
                  clear h;refine rC 3 (some 155) T HS H0 Tryz.func139 (h0 _ H0.out) (fun w1 H1 h=>?_) (by kernel_rfl)
                  refine rP 4 (some 156) T ?_;refine rP 5 (some 157) T ?_;refine rP 7 (some 159) T ?_;refine rT 6 (some 158) T U h ?_;refine rT 8 (some 160) T U h ?_
                  clear h;refine rC 9 (some 161) T HS H1 Tryz.func139 (h1 _ H1.out) (fun w2 H2 h=>?_) (by kernel_rfl)
                  refine rP 10 (some 162) T ?_;refine rP 11 (some 163) T ?_;refine rP 12 (some 164) T ?_;refine rP 13 (some 165) T ?_;refine rT 14 (some 166) T U h ?_;refine rP 15 (some 167) T ?_;refine rP 16 (some 168) T ?_;refine rP 17 (some 169) T ?_;refine rP 18 (some 170) T ?_;refine rT 19 (some 171) T U h ?_;refine rP 20 (some 172) T ?_;refine rP 21 (some 173) T ?_;refine rP 22 (some 174) T ?_;refine rP 23 (some 175) T ?_;refine rT 24 (some 176) T U h ?_;refine rP 25 (some 177) T ?_;refine rP 26 (some 178) T ?_;refine rP 27 (some 179) T ?_;refine rP 28 (some 180) T ?_;refine rP 29 (some 181) T ?_;refine rP 30 (some 182) T ?_;refine rP 31 (some 183) T ?_;refine rP 33 (some 185) T ?_;refine rP 34 (some 186) T ?_;refine rP 38 (some 190) T ?_;refine rP 40 (some 192) T ?_;refine rP 41 (some 193) T ?_;refine rP 45 (some 197) T ?_;refine rP 47 (some 199) T ?_;refine rT 32 (some 184) T U h ?_;refine rP 35 (some 187) T ?_;refine rP 36 (some 188) T ?_;refine rT 37 (some 189) T U h ?_;refine rT 39 (some 191) T U h ?_;refine rP 42 (some 194) T ?_;refine rP 43 (some 195) T ?_;refine rT 44 (some 196) T U h ?_;refine rT 46 (some 198) T U h ?_;refine rT 48 (some 200) T U h ?_
                  clear h;refine rC 49 (some 201) T HS H2 Tryz.func140 (hah _) (fun w3 H3 h=>?_) (by kernel_rfl)
                  refine rP 50 (some 202) T ?_;refine rP 51 (some 203) T ?_;refine rP 52 (some 204) T ?_
                  refine vW (qP T.out (by kernel_rfl)) ?_;have wm:=xD.out.trans (H3.out.mono xD.out.size);clear h;try go_wp2
                  go_roundw
                  case rel=>exact ⟨m + 1 + 1,by first | rfl | (simp;done) | go_num,by omega,⟨wm⟩,⟨fun j hj=>(Nat.lt_succ_iff_lt_or_eq.1 hj).elim (HK5.out j) (fun e=>by rw [e];exact hok2)⟩⟩
                  case measure=>simp [intOf];omega
              · obtain rfl:i = l5.length:=by omega
                have q2:decide ((l5.length:Int) < (l5.length:Int)) = false:=decide_eq_false (by omega)
                have q1:¬ (l5.length:Int) < (l5.length:Int):=by omega
                have jT:zx (V = true):=⟨by rw [jT.out,zjV HK5.out]⟩
                go_wp2
                go_ret
                exact ⟨by rw [jT.out];rfl,HW.out _ gu.out⟩
def xJ.f (a:ByteArray) (_:Bool) (c:Int) (l3:List uX) (l4:List uG) (l5:List uN):Option Bool :=
  if l3.length ≤ 1000000000 ∧ l4.length ≤ 1000000000 ∧ l5.length ≤ 1000000000 ∧ a.size ≤ 140737488355328 ∧ (l3.all fun x=>decide (x.f0.size ≤ 140737488355328)) = true then some (mY a c l3 l4 l5) else none
theorem xJ.calls (a:ByteArray) (b:Bool) (c:Int) (A3:Option Addr) (c3:Nat) (l3:List uX) (A4:Option Addr) (c4:Nat) (l4:List uG) (A5:Option Addr) (c5:Nat) (l5:List uN) (r:Bool) (w:World) (h3:Kd.C Yi w A3 l3.length l3) (g3:l3.length ≤ c3) (h4:Kd.C YE w A4 l4.length l4) (g4:l4.length ≤ c4) (h5:Kd.C YP w A5 l5.length l5) (g5:l5.length ≤ c5) (h:xJ.f a b c l3 l4 l5 = some r) :
    Calls Tryz.prog 106 #[.agg #[.string a,.bool b,.int .i64 c,.slice A3 l3.length c3,.slice A4 l4.length c4,.slice A5 l5.length c5]] w fun e w'=>e = .returned (.bool r) ∧ Below w.heap.size w w':=by
  unfold xJ.f at h
  split at h
  · rename_i hl
    obtain rfl:=Option.some.inj h
    exact zYL a b c A3 c3 l3 A4 c4 l4 A5 c5 l5 w h3 g3 h4 g4 h5 g5 hl.1 hl.2.1 hl.2.2.1 hl.2.2.2.1 (fun x hx=>of_decide_eq_true (List.all_eq_true.1 hl.2.2.2.2 x hx))
  · cases h
end Go.Proofs.YtggifbbiiickmaaGreatDoor
namespace Go.Proofs.YtggifbbiiickmaaGreatDoor
open Go.RowKit Go.Shelf Go.Proofs.zk.zu Go.Proofs.zk.yA Go.Proofs.YtggifbbiiickmaaGreatDoor.PX
set_option linter.unusedSimpArgs false
set_option linter.unusedVariables false
theorem zQD {w:World} {g:Nat} {ns:List ByteArray} {t:TypeId} (h:w.heap[g]? = some (.cells (ns.map Value.string).toArray t (0,0))) (hn:ns.length ≤ 1000):Kd.C Kd.string w (some ⟨g,0,none⟩) ns.length ns:=by
 refine ⟨rfl,by omega,fun _=>⟨_,rfl,fun j p hj=>⟨[.string p],rfl,rfl,fun i u hi=>?_⟩⟩⟩
 rcases i with _ | i
 ·cases hi
  have hs:Kd.string.sz = 1:=rfl
  rw [Addr.add_lit,hs]
  refine xK h _ _ ?_
  simp [hj]
 ·simp at hi
def zzU (l3:List ql) (x:xX):Bool:=!zzT l3 [x.f0,x.f1,x.f2]
def aQ (l3:List ql) (x:vv):Bool:=decide (x.f2 = 0) || (decide (x.f2 < -500) || (decide (500 < x.f2) || !zzT l3 [x.f0,x.f1]))
set_option maxRecDepth 100000 in
set_option maxHeartbeats 1000000 in
theorem zcP (B:Nat) (a:ByteArray) (b:Bool) (c:Int) (A3:Option Addr) (c3:Nat) (l3:List ql) (A4:Option Addr) (c4:Nat) (l4:List xX) (A5:Option Addr) (c5:Nat) (l5:List vv) (g3:l3.length ≤ c3) (g4:l4.length ≤ c4) (g5:l5.length ≤ c5) (hl3:l3.length ≤ 1000000000) (w:World) (hF:XG w B a b c A3 c3 l3 A4 c4 l4 A5 c5 l5) :
  PredBelow Tryz.prog 93 #[.pointer (some ⟨B,0,none⟩)] (fun x=>.agg (zwL x).toArray) (zzU l3) w:=fun W x hb=>by
 have hl:=(Array.getElem?_eq_some_iff.1 hF.blk).1
 have UK:=hF.below hb
 have hlW:B < W.heap.size:=Nat.lt_of_lt_of_le hl hb.size
 show Calls Tryz.prog 93 #[.agg #[.string x.f0,.string x.f1,.string x.f2],.pointer (some ⟨B,0,none⟩)] W _
 have hbW:Below W.heap.size W ((W.alloc (.cells #[.string x.f0,.string x.f1,.string x.f2] 108)).alloc (.cells #[.string x.f0,.string x.f1,.string x.f2] 9)):=((Below.refl _ W).alloc (Nat.le_refl _) _).alloc (by simp) _
 have hF2:=UK.below hbW
 have hblk:((W.alloc (.cells #[.string x.f0,.string x.f1,.string x.f2] 108)).alloc (.cells #[.string x.f0,.string x.f1,.string x.f2] 9)).heap[W.heap.size + 1]? = some (.cells (([x.f0,x.f1,x.f2].map Value.string).toArray) 9 (0,0)):=by
  have:=World.alloc_heap_new (W.alloc (.cells #[.string x.f0,.string x.f1,.string x.f2] 108)) (.cells #[.string x.f0,.string x.f1,.string x.f2] 9)
  rwa [World.size_alloc] at this
 have ha:=zQB a b c A3 c3 l3 A4 c4 l4 A5 c5 l5 _ 3 [x.f0,x.f1,x.f2] _ hF2.h3 g3 hF2.h4 g4 hF2.h5 g5 (zQD hblk (by simp)) (by simp) hF2.gw hl3 (by simp)
 have k0:=xK UK.blk 0 _ rfl
 have k1:=xK UK.blk 1 _ rfl
 have k2:=xK UK.blk 2 _ rfl
 have k3:=xK UK.blk 3 _ rfl
 have k4:=xK UK.blk 4 _ rfl
 have k5:=xK UK.blk 5 _ rfl
 have hend:=hb.trans (hbW.mono hb.size)
 unfold zzU
 generalize zzT l3 [x.f0,x.f1,x.f2] = r at ha ⊢
 clear hF UK hF2 hblk hb g3 g4 g5
 go_enter Tryz.func93,Tryz.ntmps93
 go_wp2_with (go_at_call 94;refine ha.mono ?_;rintro e w1 ⟨rfl,hb1⟩)
 go_ret
 exact ⟨rfl,hend.trans (hb1.mono hend.size)⟩
set_option maxRecDepth 100000 in
set_option maxHeartbeats 1000000 in
theorem zcR (B:Nat) (a:ByteArray) (b:Bool) (c:Int) (A3:Option Addr) (c3:Nat) (l3:List ql) (A4:Option Addr) (c4:Nat) (l4:List xX) (A5:Option Addr) (c5:Nat) (l5:List vv) (g3:l3.length ≤ c3) (g4:l4.length ≤ c4) (g5:l5.length ≤ c5) (hl3:l3.length ≤ 1000000000) (w:World) (hF:XG w B a b c A3 c3 l3 A4 c4 l4 A5 c5 l5) :
  PredBelow Tryz.prog 98 #[.pointer (some ⟨B,0,none⟩)] (fun x=>.agg (zwM x).toArray) (aQ l3) w:=fun W x hb=>by
 have hl:=(Array.getElem?_eq_some_iff.1 hF.blk).1
 have UK:=hF.below hb
 have hlW:B < W.heap.size:=Nat.lt_of_lt_of_le hl hb.size
 show Calls Tryz.prog 98 #[.agg #[.string x.f0,.string x.f1,.int .i64 x.f2],.pointer (some ⟨B,0,none⟩)] W _
 have hb1:Below w.heap.size w (W.alloc (.cells #[.string x.f0,.string x.f1,.int .i64 x.f2] 111)):=hb.alloc hb.size _
 unfold aQ
 by_cases q0:x.f2 = 0
 ·have d0:(x.f2 == 0) = true:=beq_iff_eq.2 q0
  rw [decide_eq_true q0]
  clear q0 hF UK
  go_enter Tryz.func98,Tryz.ntmps98
  go_wp2
  go_ret
  exact ⟨rfl,hb1⟩
 ·have d0:(x.f2 == 0) = false:=beq_eq_false_iff_ne.2 q0
  rw [decide_eq_false q0,Bool.false_or]
  clear q0
  by_cases q1:x.f2 < -500
  ·have d1:decide (x.f2 < -500) = true:=decide_eq_true q1
   rw [d1]
   clear q1 hF UK
   go_enter Tryz.func98,Tryz.ntmps98
   go_wp2
   go_ret
   exact ⟨rfl,hb1⟩
  ·have d1:decide (x.f2 < -500) = false:=decide_eq_false q1
   rw [d1,Bool.false_or]
   clear q1
   by_cases q2:500 < x.f2
   ·have d2:decide (500 < x.f2) = true:=decide_eq_true q2
    rw [d2]
    clear q2 hF UK
    go_enter Tryz.func98,Tryz.ntmps98
    go_wp2
    go_ret
    exact ⟨rfl,hb1⟩
   ·have d2:decide (500 < x.f2) = false:=decide_eq_false q2
    rw [d2,Bool.false_or]
    clear q2
    have hbW:Below W.heap.size W ((W.alloc (.cells #[.string x.f0,.string x.f1,.int .i64 x.f2] 111)).alloc (.cells #[.string x.f0,.string x.f1] 9)):=((Below.refl _ W).alloc (Nat.le_refl _) _).alloc (by simp) _
    have hF2:=UK.below hbW
    have hblk:((W.alloc (.cells #[.string x.f0,.string x.f1,.int .i64 x.f2] 111)).alloc (.cells #[.string x.f0,.string x.f1] 9)).heap[W.heap.size + 1]? = some (.cells (([x.f0,x.f1].map Value.string).toArray) 9 (0,0)):=by
     have:=World.alloc_heap_new (W.alloc (.cells #[.string x.f0,.string x.f1,.int .i64 x.f2] 111)) (.cells #[.string x.f0,.string x.f1] 9)
     rwa [World.size_alloc] at this
    have ha:=zQB a b c A3 c3 l3 A4 c4 l4 A5 c5 l5 _ 2 [x.f0,x.f1] _ hF2.h3 g3 hF2.h4 g4 hF2.h5 g5 (zQD hblk (by simp)) (by simp) hF2.gw hl3 (by simp)
    have k0:=xK UK.blk 0 _ rfl
    have k1:=xK UK.blk 1 _ rfl
    have k2:=xK UK.blk 2 _ rfl
    have k3:=xK UK.blk 3 _ rfl
    have k4:=xK UK.blk 4 _ rfl
    have k5:=xK UK.blk 5 _ rfl
    have hend:=hb.trans (hbW.mono hb.size)
    generalize zzT l3 [x.f0,x.f1] = r at ha ⊢
    clear hF UK hF2 hblk hb g3 g4 g5
    go_enter Tryz.func98,Tryz.ntmps98
    go_wp2_with (go_at_call 94;refine ha.mono ?_;rintro e w1 ⟨rfl,hb1⟩)
    go_ret
    exact ⟨rfl,hend.trans (hb1.mono hend.size)⟩
def vN (a:ByteArray) (c:Int) (l3:List ql) (l4:List xX) (l5:List vv):Bool :=
 if (!XF a.data.toList || (VI c || (decide (400 < l3.length) || (decide (50 < l4.length) || decide (500 < l5.length))))) = true then false
 else if (l3.any aZ || !Z9 (fun i j=>V8 (qE l3 (i:Int)) (qE l3 (j:Int))) l3.length) = true then false
 else if (l4.any (zzU l3) || !Z9 (fun i j=>cmpL (qR l4 (i:Int)) (qR l4 (j:Int))) l4.length) = true then false
 else !l5.any (aQ l3) && Z9 (fun i j=>gy (q9 l5 (i:Int)) (q9 l5 (j:Int))) l5.length
set_option maxRecDepth 100000 in
set_option maxHeartbeats 4000000 in
theorem za1 (a:ByteArray) (b:Bool) (c:Int) (A3:Option Addr) (c3:Nat) (l3:List ql) (A4:Option Addr) (c4:Nat) (l4:List xX) (A5:Option Addr) (c5:Nat) (l5:List vv) (g3:l3.length ≤ c3) (g4:l4.length ≤ c4) (g5:l5.length ≤ c5) (hl3:l3.length ≤ 1000000000) (hl4:l4.length ≤ 1000000000) (hl5:l5.length ≤ 1000000000) (w:World) (h3:Kd.C jy w A3 l3.length l3) (h4:Kd.C kS w A4 l4.length l4) (h5:Kd.C wX w A5 l5.length l5) (hG:GW w) :
  Calls Tryz.prog 39 #[.agg #[.string a,.bool b,.int .i64 c,.slice A3 l3.length c3,.slice A4 l4.length c4,.slice A5 l5.length c5]] w fun e w'=>e = .returned (.bool (vN a c l3 l4 l5)) ∧ Below w.heap.size w w':=by
 have hw1:Below w.heap.size w ((w.alloc (.cells #[.string a,.bool b,.int .i64 c,.slice A3 l3.length c3,.slice A4 l4.length c4,.slice A5 l5.length c5] 60)).alloc (.cells #[.func (.func 84) #[] #[]] 138)):=((Below.refl _ w).alloc (Nat.le_refl _) _).alloc (by simp) _
 have hblk:((w.alloc (.cells #[.string a,.bool b,.int .i64 c,.slice A3 l3.length c3,.slice A4 l4.length c4,.slice A5 l5.length c5] 60)).alloc (.cells #[.func (.func 84) #[] #[]] 138)).heap[w.heap.size]? = some (.cells #[.string a,.bool b,.int .i64 c,.slice A3 l3.length c3,.slice A4 l4.length c4,.slice A5 l5.length c5] 60 (0,0)) :=
  (Below.heap_alloc _ _ _ (by simp)).trans (World.alloc_heap_new w _)
 have aH:((w.alloc (.cells #[.string a,.bool b,.int .i64 c,.slice A3 l3.length c3,.slice A4 l4.length c4,.slice A5 l5.length c5] 60)).alloc (.cells #[.func (.func 84) #[] #[]] 138)).heap[w.heap.size + 1]? = some (.cells #[.func (.func 84) #[] #[]] 138 (0,0)):=by
  have:=World.alloc_heap_new (w.alloc (.cells #[.string a,.bool b,.int .i64 c,.slice A3 l3.length c3,.slice A4 l4.length c4,.slice A5 l5.length c5] 60)) (.cells #[.func (.func 84) #[] #[]] 138)
  rwa [World.size_alloc] at this
 have hF:XG ((w.alloc (.cells #[.string a,.bool b,.int .i64 c,.slice A3 l3.length c3,.slice A4 l4.length c4,.slice A5 l5.length c5] 60)).alloc (.cells #[.func (.func 84) #[] #[]] 138)) w.heap.size a b c A3 c3 l3 A4 c4 l4 A5 c5 l5:=⟨hblk,Kd.zm h3 hw1,Kd.zm h4 hw1,Kd.zm h5 hw1,hG.under hw1⟩
 have hfn:=zwX a ((w.alloc (.cells #[.string a,.bool b,.int .i64 c,.slice A3 l3.length c3,.slice A4 l4.length c4,.slice A5 l5.length c5] 60)).alloc (.cells #[.func (.func 84) #[] #[]] 138))
 have hwd:=fun W=>zwO c W
 have hhG:=fun W (hF:XG W w.heap.size a b c A3 c3 l3 A4 c4 l4 A5 c5 l5) (hB:W.cell? ⟨w.heap.size + 1,0,none⟩ = some (.func (.func 84) #[] #[]))=>zwN A3 c3 l3 W hF.h3 hl3 aZ 87 #[.pointer (some ⟨w.heap.size + 1,0,none⟩)] (enters_of Tryz.func87 (by kernel_rfl) rfl) (zcO _ W hB)
 have haG:=fun W (hF:XG W w.heap.size a b c A3 c3 l3 A4 c4 l4 A5 c5 l5)=>zcD A3 c3 l3 W hF.h3 hl3
 have hhL:=fun W (hF:XG W w.heap.size a b c A3 c3 l3 A4 c4 l4 A5 c5 l5)=>zcM A4 c4 l4 W hF.h4 hl4 (zzU l3) 93 #[.pointer (some ⟨w.heap.size,0,none⟩)] (enters_of Tryz.func93 (by kernel_rfl) rfl) (zcP _ a b c A3 c3 l3 A4 c4 l4 A5 c5 l5 g3 g4 g5 hl3 W hF)
 have haL:=fun W (hF:XG W w.heap.size a b c A3 c3 l3 A4 c4 l4 A5 c5 l5)=>zcH A4 c4 l4 W hF.h4 hl4
 have hhK:=fun W (hF:XG W w.heap.size a b c A3 c3 l3 A4 c4 l4 A5 c5 l5)=>zcN A5 c5 l5 W hF.h5 hl5 (aQ l3) 98 #[.pointer (some ⟨w.heap.size,0,none⟩)] (enters_of Tryz.func98 (by kernel_rfl) rfl) (zcR _ a b c A3 c3 l3 A4 c4 l4 A5 c5 l5 g3 g4 g5 hl3 W hF)
 have haK:=fun W (hF:XG W w.heap.size a b c A3 c3 l3 A4 c4 l4 A5 c5 l5)=>zcI A5 c5 l5 W hF.h5 hl5
 generalize hR:vN a c l3 l4 l5 = R
 have HR:=Lib.hid hR
 unfold vN at hR
 generalize XF a.data.toList = b1 at hfn hR
 generalize VI c = b2 at hwd hR
 generalize l3.any aZ = b6 at hhG hR
 generalize Z9 (fun i j=>V8 (qE l3 (i:Int)) (qE l3 (j:Int))) l3.length = b7 at haG hR
 generalize l4.any (zzU l3) = b8 at hhL hR
 generalize Z9 (fun i j=>cmpL (qR l4 (i:Int)) (qR l4 (j:Int))) l4.length = b9 at haL hR
 generalize l5.any (aQ l3) = b10 at hhK hR
 generalize Z9 (fun i j=>gy (q9 l5 (i:Int)) (q9 l5 (j:Int))) l5.length = b11 at haK hR
 clear g3 g4 g5 h3 h4 h5 hG HR
 go_enter Tryz.func39,Tryz.ntmps39
 have HF0:=Lib.hid hF
 have K0:=Lib.hid (xK aH 0 _ rfl)
 have HW0:=Lib.hid hw1
 have c0:=xK hblk 0 _ rfl
 have c2:=xK hblk 2 _ rfl
 have tX:=xK hblk 3 _ rfl
 have tJ:=xK hblk 4 _ rfl
 have tV:=xK hblk 5 _ rfl
 clear hF hblk aH hw1
 go_wp2_with fail
 generalize ((w.alloc (.cells #[.string a,.bool b,.int .i64 c,.slice A3 l3.length c3,.slice A4 l4.length c4,.slice A5 l5.length c5] 60)).alloc (.cells #[.func (.func 84) #[] #[]] 138)) = W0 at hfn HF0 K0 HW0 c0 c2 tX tJ tV ⊢
 refine hfn.mono ?_;rintro e W1 ⟨rfl,hb1⟩
 clear hfn c0 c2 tX tJ tV
 have HF1:=Lib.hid (HF0.out.below hb1)
 have K1:=Lib.hid ((hb1.cell (World.block_lt_of_cell? _ _ K0.out)).trans K0.out)
 have HW1:=Lib.hid (HW0.out.trans (hb1.mono HW0.out.size))
 clear hb1
 have c2:=xK HF1.out.blk 2 _ rfl
 have tX:=xK HF1.out.blk 3 _ rfl
 have tJ:=xK HF1.out.blk 4 _ rfl
 have tV:=xK HF1.out.blk 5 _ rfl
 have cb:=K1.out
 cases b1 with
 | false =>
  obtain rfl:false = R:=by simpa using hR
  clear hR
  go_wp2_with fail
  go_ret
  exact ⟨rfl,HW1.out⟩
 | true =>
  go_wp2_with fail
  refine (hwd _).mono ?_;rintro e W1x ⟨rfl,hx⟩;subst hx
  cases b2 with
  | false =>
   by_cases q3:400 < l3.length
   ·have dq3:decide ((400:Int) < (l3.length:Int)) = true:=decide_eq_true (by omega)
    rw [decide_eq_true q3] at hR
    clear q3
    obtain rfl:false = R:=by simpa using hR
    clear hR
    go_wp2_with fail
    go_ret
    exact ⟨rfl,HW1.out⟩
   ·have dq3:decide ((400:Int) < (l3.length:Int)) = false:=decide_eq_false (by omega)
    rw [decide_eq_false q3] at hR
    clear q3
    by_cases q4:50 < l4.length
    ·have dq4:decide ((50:Int) < (l4.length:Int)) = true:=decide_eq_true (by omega)
     rw [decide_eq_true q4] at hR
     clear q4
     obtain rfl:false = R:=by simpa using hR
     clear hR
     go_wp2_with fail
     go_ret
     exact ⟨rfl,HW1.out⟩
    ·have dq4:decide ((50:Int) < (l4.length:Int)) = false:=decide_eq_false (by omega)
     rw [decide_eq_false q4] at hR
     clear q4
     by_cases q5:500 < l5.length
     ·have dq5:decide ((500:Int) < (l5.length:Int)) = true:=decide_eq_true (by omega)
      rw [decide_eq_true q5] at hR
      clear q5
      obtain rfl:false = R:=by simpa using hR
      clear hR
      go_wp2_with fail
      go_ret
      exact ⟨rfl,HW1.out⟩
     ·have dq5:decide ((500:Int) < (l5.length:Int)) = false:=decide_eq_false (by omega)
      rw [decide_eq_false q5] at hR
      clear q5
      simp only [Bool.not_true,Bool.or_self,Bool.false_eq_true,if_false,Bool.or_false] at hR
      go_wp2_with fail
      refine (hhG _ HF1.out K1.out).mono ?_;rintro e W2 ⟨rfl,hb2⟩
      clear c2 tX tJ tV cb
      have HF2:=Lib.hid (HF1.out.below hb2)
      have K2:=Lib.hid ((hb2.cell (World.block_lt_of_cell? _ _ K1.out)).trans K1.out)
      have HW2:=Lib.hid (HW1.out.trans (hb2.mono HW1.out.size))
      clear hb2
      have c2:=xK HF2.out.blk 2 _ rfl
      have tX:=xK HF2.out.blk 3 _ rfl
      have tJ:=xK HF2.out.blk 4 _ rfl
      have tV:=xK HF2.out.blk 5 _ rfl
      have cb:=K2.out
      cases b6 with
      | false =>
       go_wp2_with fail
       refine (haG _ HF2.out).mono ?_;rintro e W3 ⟨rfl,hb3⟩
       clear c2 tX tJ tV cb
       have HF3:=Lib.hid (HF2.out.below hb3)
       have K3:=Lib.hid ((hb3.cell (World.block_lt_of_cell? _ _ K2.out)).trans K2.out)
       have HW3:=Lib.hid (HW2.out.trans (hb3.mono HW2.out.size))
       clear hb3
       have c2:=xK HF3.out.blk 2 _ rfl
       have tX:=xK HF3.out.blk 3 _ rfl
       have tJ:=xK HF3.out.blk 4 _ rfl
       have tV:=xK HF3.out.blk 5 _ rfl
       have cb:=K3.out
       cases b7 with
       | false =>
        obtain rfl:false = R:=by simpa using hR
        clear hR
        go_wp2_with fail
        go_ret
        exact ⟨rfl,HW3.out⟩
       | true =>
        go_wp2_with fail
        refine (hhL _ HF3.out).mono ?_;rintro e W4 ⟨rfl,hb4⟩
        clear c2 tX tJ tV cb
        have HF4:=Lib.hid (HF3.out.below hb4)
        have K4:=Lib.hid ((hb4.cell (World.block_lt_of_cell? _ _ K3.out)).trans K3.out)
        have HW4:=Lib.hid (HW3.out.trans (hb4.mono HW3.out.size))
        clear hb4
        have c2:=xK HF4.out.blk 2 _ rfl
        have tX:=xK HF4.out.blk 3 _ rfl
        have tJ:=xK HF4.out.blk 4 _ rfl
        have tV:=xK HF4.out.blk 5 _ rfl
        have cb:=K4.out
        cases b8 with
        | false =>
         go_wp2_with fail
         refine (haL _ HF4.out).mono ?_;rintro e W5 ⟨rfl,hb5⟩
         clear c2 tX tJ tV cb
         have HF5:=Lib.hid (HF4.out.below hb5)
         have K5:=Lib.hid ((hb5.cell (World.block_lt_of_cell? _ _ K4.out)).trans K4.out)
         have HW5:=Lib.hid (HW4.out.trans (hb5.mono HW4.out.size))
         clear hb5
         have c2:=xK HF5.out.blk 2 _ rfl
         have tX:=xK HF5.out.blk 3 _ rfl
         have tJ:=xK HF5.out.blk 4 _ rfl
         have tV:=xK HF5.out.blk 5 _ rfl
         have cb:=K5.out
         cases b9 with
         | false =>
          obtain rfl:false = R:=by simpa using hR
          clear hR
          go_wp2_with fail
          go_ret
          exact ⟨rfl,HW5.out⟩
         | true =>
          go_wp2_with fail
          refine (hhK _ HF5.out).mono ?_;rintro e W6 ⟨rfl,hb6⟩
          clear c2 tX tJ tV cb
          have HF6:=Lib.hid (HF5.out.below hb6)
          have K6:=Lib.hid ((hb6.cell (World.block_lt_of_cell? _ _ K5.out)).trans K5.out)
          have HW6:=Lib.hid (HW5.out.trans (hb6.mono HW5.out.size))
          clear hb6
          have c2:=xK HF6.out.blk 2 _ rfl
          have tX:=xK HF6.out.blk 3 _ rfl
          have tJ:=xK HF6.out.blk 4 _ rfl
          have tV:=xK HF6.out.blk 5 _ rfl
          have cb:=K6.out
          cases b10 with
          | false =>
           go_wp2_with fail
           refine (haK _ HF6.out).mono ?_;rintro e W7 ⟨rfl,hb7⟩
           clear c2 tX tJ tV cb
           have HF7:=Lib.hid (HF6.out.below hb7)
           have K7:=Lib.hid ((hb7.cell (World.block_lt_of_cell? _ _ K6.out)).trans K6.out)
           have HW7:=Lib.hid (HW6.out.trans (hb7.mono HW6.out.size))
           clear hb7
           obtain rfl:b11 = R:=by simpa using hR
           clear hR
           go_wp2_with fail
           go_ret
           exact ⟨rfl,HW7.out⟩
          | true =>
           obtain rfl:false = R:=by simpa using hR
           clear hR
           go_wp2_with fail
           go_ret
           exact ⟨rfl,HW6.out⟩
        | true =>
         obtain rfl:false = R:=by simpa using hR
         clear hR
         go_wp2_with fail
         go_ret
         exact ⟨rfl,HW4.out⟩
      | true =>
       obtain rfl:false = R:=by simpa using hR
       clear hR
       go_wp2_with fail
       go_ret
       exact ⟨rfl,HW2.out⟩
  | true =>
   obtain rfl:false = R:=by simpa using hR
   clear hR
   go_wp2_with fail
   go_ret
   exact ⟨rfl,HW1.out⟩
def ZQ.f (zD:ByteArray) (_:Bool) (za:Int) (zn:List ql) (zF:List xX) (zY:List vv):Option Bool:=if zn.length ≤ 1000000000 ∧ zF.length ≤ 1000000000 ∧ zY.length ≤ 1000000000 then some (vN zD za zn zF zY) else none
theorem ZQ.calls (zD:ByteArray) (ze:Bool) (za:Int) (yT:Option Addr) (yU:Nat) (zn:List ql) (y7:Option Addr) (y8:Nat) (zF:List xX) (yZ:Option Addr) (yQ:Nat) (zY:List vv) (r:Bool) (w:World) (jq:Kd.C jy w yT zn.length zn) (jN:zn.length ≤ yU) (jO:Kd.C kS w y7 zF.length zF) (jP:zF.length ≤ y8) (jm:Kd.C wX w yZ zY.length zY) (jo:zY.length ≤ yQ) (hG:GW w) (h:ZQ.f zD ze za zn zF zY = some r) :
  Calls Tryz.prog 39 #[.agg #[.string zD,.bool ze,.int .i64 za,.slice yT zn.length yU,.slice y7 zF.length y8,.slice yZ zY.length yQ]] w fun e w'=>e = .returned (.bool r) ∧ Below w.heap.size w w':=by
 unfold ZQ.f at h
 split at h
 ·rename_i hl
  obtain rfl:=Option.some.inj h
  exact za1 zD ze za yT yU zn y7 y8 zF yZ yQ zY jN jP jo hl.1 hl.2.1 hl.2.2 w jq jO jm hG
 ·cases h
end Go.Proofs.YtggifbbiiickmaaGreatDoor
namespace Go.Proofs.YtggifbbiiickmaaGreatDoor
open Go.RowKit Go.Proofs.zk.zu Go.Proofs.zk.yA Go.Proofs.YtggifbbiiickmaaGreatDoor.PX
set_option linter.unusedSimpArgs false
set_option linter.unusedVariables false
theorem dR (a b:ByteArray):Op.bytesLess a.toList b.toList = true ↔ a.toList < b.toList:=by rw [Go.Proofs.bytesLess_eq];exact decide_eq_true_iff
theorem Uz {a b:ByteArray}:uM a b < 0 ↔ a.toList < b.toList:=by
 rw [← dR]
 unfold uM
 by_cases h1:Op.bytesLess a.toList b.toList = true
 ·simp [h1]
 ·by_cases h2:Op.bytesLess b.toList a.toList = true <;> simp [h1,h2]
theorem dh {a b:ByteArray}:a.toList = b.toList ↔ a = b:=by
 constructor
 ·intro h
  rw [Lib.toList_data,Lib.toList_data] at h
  exact ByteArray.ext (Array.toList_inj.1 h)
 ·rintro rfl
  rfl
theorem zqh (a:ByteArray):uM a a = 0:=by
 unfold uM
 have h:¬ Op.bytesLess a.toList a.toList = true:=by rw [dR];exact List.lt_irrefl _
 rw [if_neg h,if_neg h]
theorem zwx {a b:ByteArray}:uM a b = 0 ↔ a = b:=by
 constructor
 ·intro h
  unfold uM at h
  by_cases h1:Op.bytesLess a.toList b.toList = true
  ·rw [if_pos h1] at h;cases h
  ·rw [if_neg h1] at h
   by_cases h2:Op.bytesLess b.toList a.toList = true
   ·rw [if_pos h2] at h;cases h
   ·rw [dR] at h1 h2
    exact dh.1 (List.le_antisymm (List.not_lt.1 h2) (List.not_lt.1 h1))
 ·rintro rfl
  exact zqh a
theorem gZ (l:List ql) (i:Nat) (h:i < l.length):qE l (i:Int) = l[i]:=by simp [qE,List.getD_eq_getElem?_getD,h]
def Asc (l:List ql):Prop:=∀ (i j:Nat) (hi:i < l.length) (hj:j < l.length),i < j → l[i].f0.toList < l[j].f0.toList
theorem za2 {l:List ql} (h:Z9 (fun i j=>V8 (qE l (i:Int)) (qE l (j:Int))) l.length = true):Asc l:=by
 have h1:∀ (i:Nat) (hi:i + 1 < l.length),l[i].f0.toList < l[i + 1].f0.toList:=by
  intro i hi
  have h2:=List.all_eq_true.1 h i (List.mem_range.2 (by omega))
  rw [decide_eq_true_iff] at h2
  have h2:V8 (qE l (i:Int)) (qE l ((i + 1:Nat):Int)) < 0:=h2
  rw [gZ l i (by omega),gZ l (i + 1) hi] at h2
  exact Uz.1 h2
 have h3:∀ (d i:Nat) (hi:i + d + 1 < l.length),l[i].f0.toList < l[i + d + 1].f0.toList:=by
  intro d
  induction d with
  | zero=>intro i hi;exact h1 i hi
  | succ d ih=>intro i hi;exact List.lt_trans (ih i (by omega)) (h1 (i + d + 1) hi)
 intro i j hi hj hij
 have h4:=h3 (j - i - 1) i (by omega)
 have e:i + (j - i - 1) + 1 = j:=by omega
 simpa only [e] using h4
theorem zcS (l:List ql) (n:ByteArray) (ha:Asc l) (i j:Nat) (hij:i ≤ j) (hj:j ≤ l.length) (h1:∀ (m:Nat) (hm:m < l.length),m < i → l[m].f0.toList < n.toList) (h2:∀ (m:Nat) (hm:m < l.length),j ≤ m → ¬ l[m].f0.toList < n.toList) :
  (∀ (m:Nat) (hm:m < l.length),m < dO l n i j → l[m].f0.toList < n.toList) ∧ (∀ (m:Nat) (hm:m < l.length),dO l n i j ≤ m → ¬ l[m].f0.toList < n.toList):=by
 fun_induction dO l n i j with
 | case1 i j hlt hc ih =>
  have hm:(i + j) / 2 < l.length:=by omega
  rw [gZ l _ hm,Uz] at hc
  refine ih (by omega) hj (fun m hml hmi=>?_) h2
  by_cases he:m = (i + j) / 2
  ·subst he;exact hc
  ·exact List.lt_trans (ha m _ hml hm (by omega)) hc
 | case2 i j hlt hc ih =>
  have hm:(i + j) / 2 < l.length:=by omega
  rw [gZ l _ hm,Uz] at hc
  refine ih (by omega) (by omega) h1 (fun m hml hmi hlt'=>?_)
  by_cases he:m = (i + j) / 2
  ·subst he;exact hc hlt'
  ·exact hc (List.lt_trans (ha _ m hm hml (by omega)) hlt')
 | case3 i j hlt =>
  obtain rfl:i = j:=by omega
  exact ⟨h1,h2⟩
theorem zQE (l:List ql) (ha:Asc l) (m:Nat) (hm:m < l.length):Xp l l[m].f0 = ((m:Int),true):=by
 obtain ⟨h1,h2⟩:=zcS l l[m].f0 ha 0 l.length (Nat.zero_le _) (Nat.le_refl _) (fun m _ h=>absurd h (Nat.not_lt_zero _)) (fun m hm h=>absurd hm (by omega))
 have e:dO l l[m].f0 0 l.length = m:=by
  rcases Nat.lt_trichotomy (dO l l[m].f0 0 l.length) m with h | h | h
  ·exact absurd (ha _ m (by omega) hm h) (h2 _ (by omega) (Nat.le_refl _))
  ·exact h
  ·exact absurd (h1 m hm h) (List.lt_irrefl _)
 unfold Xp
 simp only [e,decide_eq_true hm,Bool.true_and,gZ l m hm]
 rw [zqh]
 rfl
theorem zQF (l:List ql) (n:ByteArray) (h:∀ x ∈ l,x.f0 ≠ n):(Xp l n).2 = false:=by
 unfold Xp
 simp only
 by_cases hi:dO l n 0 l.length < l.length
 ·rw [gZ l _ hi]
  have:¬ uM l[dO l n 0 l.length].f0 n = 0:=fun e=>h _ (List.getElem_mem hi) (zwx.1 e)
  rw [decide_eq_false this,Bool.and_false]
 ·rw [decide_eq_false hi,Bool.false_and]
theorem zcT (l:List ql) (ha:Asc l) (n:ByteArray):(Xp l n).2 = l.any fun x=>decide (x.f0 = n):=by
 by_cases h:∃ x ∈ l,x.f0 = n
 ·obtain ⟨x,hx,rfl⟩:=h
  obtain ⟨m,hm,rfl⟩:=List.getElem_of_mem hx
  rw [zQE l ha m hm]
  exact (List.any_eq_true.2 ⟨_,hx,by simp⟩).symm
 ·rw [zQF l n (fun x hx e=>h ⟨x,hx,e⟩)]
  refine (List.any_eq_false.2 fun x hx=>?_).symm
  simpa using fun e=>h ⟨x,hx,e⟩
end Go.Proofs.YtggifbbiiickmaaGreatDoor
namespace Go.Proofs.YtggifbbiiickmaaGreatDoor
open Go.RowKit Go.Shelf Go.Proofs.zk.zu Go.Proofs.zk.yD Go.Proofs.zk.yA Go.Proofs.YtggifbbiiickmaaGreatDoor.PX
set_option linter.unusedSimpArgs false
set_option linter.unusedVariables false
set_option maxRecDepth 100000 in
theorem za3 (B:Nat) (n:ByteArray) (w:World) (hB:w.cell? ⟨B,0,none⟩ = some (.string n)) :
  PredBelow Tryz.prog 160 #[.pointer (some ⟨B,0,none⟩)] (fun x=>.agg (ZU x).toArray) (fun x:ql=>x.f0.toList == n.toList) w:=fun W x hb=>by
 have hl:=World.block_lt_of_cell? w _ hB
 have hlW:B < W.heap.size:=Nat.lt_of_lt_of_le hl hb.size
 have hc:(W.alloc (.cells #[.string x.f0,.int .i64 x.f1] 105)).cell? ⟨B,0,none⟩ = some (.string n):=(World.cell?_alloc_lt _ _ _ hlW).trans ((hb.cell hl).trans hB)
 have hb0:Below w.heap.size w (W.alloc (.cells #[.string x.f0,.int .i64 x.f1] 105)):=hb.alloc hb.size _
 show Calls Tryz.prog 160 #[.agg #[.string x.f0,.int .i64 x.f1],.pointer (some ⟨B,0,none⟩)] W _
 clear hb hB hl
 go_enter Tryz.func160,Tryz.ntmps160
 go_wp2
 go_ret
 exact ⟨by first | rfl | (simp;done),hb0⟩
def Ya (l:List ql) (n:ByteArray):Bool:=l.any fun x=>x.f0.toList == n.toList
def Uq.f (_:ByteArray) (_:Bool) (_:Int) (zn:List ql) (_:List xX) (_:List vv) (a1:ByteArray):Option Bool:=if zn.length ≤ 1000000000 then some (Ya zn a1) else none
theorem Uq.calls (zD:ByteArray) (ze:Bool) (za:Int) (yT:Option Addr) (yU:Nat) (zn:List ql) (y7:Option Addr) (y8:Nat) (zF:List xX) (yZ:Option Addr) (yQ:Nat) (zY:List vv) (a1:ByteArray) (r:Bool) (w:World) (jq:Kd.C jy w yT zn.length zn) (_:zn.length ≤ yU) (_:Kd.C kS w y7 zF.length zF) (_:zF.length ≤ y8) (_:Kd.C wX w yZ zY.length zY) (_:zY.length ≤ yQ) (_:GW w) (h:Uq.f zD ze za zn zF zY a1 = some r) :
  Calls Tryz.prog 135 #[.agg #[.string zD,.bool ze,.int .i64 za,.slice yT zn.length yU,.slice y7 zF.length y8,.slice yZ zY.length yQ],.string a1] w fun e w'=>e = .returned (.bool r) ∧ Below w.heap.size w w':=by
 unfold Uq.f at h
 split at h
 ·rename_i hl
  obtain rfl:=Option.some.inj h
  have hb0:Below w.heap.size w ((w.alloc (.cells #[.string zD,.bool ze,.int .i64 za,.slice yT zn.length yU,.slice y7 zF.length y8,.slice yZ zY.length yQ] 60)).alloc (.cells #[.string a1] 9)):=((Below.refl _ w).alloc (Nat.le_refl _) _).alloc (by simp) _
  have hcell:((w.alloc (.cells #[.string zD,.bool ze,.int .i64 za,.slice yT zn.length yU,.slice y7 zF.length y8,.slice yZ zY.length yQ] 60)).alloc (.cells #[.string a1] 9)).cell? ⟨w.heap.size + 1,0,none⟩ = some (.string a1):=by simp
  have hs:=zwN yT yU zn _ (Kd.zm jq hb0) hl (fun x=>x.f0.toList == a1.toList) 160 #[.pointer (some ⟨w.heap.size + 1,0,none⟩)] (XH Tryz.func160 (by kernel_rfl) rfl) (za3 (w.heap.size + 1) a1 _ hcell)
  unfold Ya
  generalize (zn.any fun x=>x.f0.toList == a1.toList) = R at hs ⊢
  clear hcell jq hl h
  go_enter Tryz.func135,Tryz.ntmps135
  go_wp2_with fail
  refine hs.mono ?_;rintro e w2 ⟨rfl,hb2⟩
  go_wp2
  go_ret
  exact ⟨rfl,hb0.trans (hb2.mono hb0.size)⟩
 ·cases h
end Go.Proofs.YtggifbbiiickmaaGreatDoor
namespace Go.Proofs.YtggifbbiiickmaaGreatDoor.PX
open Go.RowKit Go.Proofs.zk.zu Go.Proofs.zk.yD Go.Proofs.zk.yA
attribute [local go_sem] xP xR vG vH xB xC xS xU   -- for this text's walks alone
set_option linter.unusedVariables false
set_option linter.unusedSimpArgs false
def Yw.f (zD:ByteArray) (ze:Bool) (za:Int) (zn:List (ql)) (zF:List (xX)) (zY:List (vv)) (a1:Int):Option (Bool):=if a1 ≥ 1 then (if a1 ≤ 1000 then ((ZQ.f zD ze za zn zF zY).bind fun zkk=>(some zkk)) else (some false)) else (some false)
set_option maxHeartbeats 8000000 in
set_option maxRecDepth 100000 in
theorem Yw.calls (zD:ByteArray) (ze:Bool) (za:Int) (yT:Option Addr) (yU:Nat) (zn:List (ql)) (y7:Option Addr) (y8:Nat) (zF:List (xX)) (yZ:Option Addr) (yQ:Nat) (zY:List (vv)) (a1:Int) (r:Bool) (w:World) (jq:Kd.C jy w yT zn.length zn) (jN:zn.length ≤ yU) (jO:Kd.C kS w y7 zF.length zF) (jP:zF.length ≤ y8) (jm:Kd.C wX w yZ zY.length zY) (jo:zY.length ≤ yQ) (hG:GW w) (h:Yw.f zD ze za zn zF zY a1 = some r) :
  Calls Tryz.prog 62 #[.agg #[.string zD,.bool ze,.int .i64 za,.slice yT zn.length yU,.slice y7 zF.length y8,.slice yZ zY.length yQ],.int .i64 a1] w fun e w'=>e = .returned (.bool r) ∧ Below w.heap.size w w':=by
 have zlj:=Tryz.underlying60
 have HG:=zx.mk hG
 clear hG
 have jF:=zx.mk jq
 have kU:=zx.mk jN
 clear jq jN
 have jG:=zx.mk jO
 have wz:=zx.mk jP
 clear jO jP
 have uD:=zx.mk jm
 have jh:=zx.mk jo
 clear jm jo
 have HB:=zx.mk (Below.refl w.heap.size w)
 have H:(if a1 ≥ 1 then (if a1 ≤ 1000 then ((ZQ.f zD ze za zn zF zY).bind fun zkk=>(some zkk)) else (some false)) else (some false)) = some r:=h
 clear h
 by_cases c3:a1 ≥ 1
 ·rw [if_pos c3] at H
  have ZR:decide (1 ≤ a1) = true:=decide_eq_true c3
  clear c3
  by_cases c4:a1 ≤ 1000
  ·rw [if_pos c4] at H
   have Z8:decide (a1 ≤ 1000) = true:=decide_eq_true c4
   clear c4
   replace H:=Option.bind_eq_some_iff.mp H
   obtain ⟨zkk,A50,H⟩:=H
   replace H:(some zkk) = some r:=H
   have A5:=zx.mk A50
   clear A50
   obtain rfl:=Option.some.inj H
   go_enter Tryz.func62,Tryz.ntmps62
   go_wp2_with (first | ((with_reducible refine qA (N:=2) rfl ?_);refine qH ?hg (N:=2) ?hd (cs:=#[.string zD,.bool ze,.int .i64 za,.slice yT zn.length yU,.slice y7 zF.length y8,.slice yZ zY.length yQ]) (t:=60) ?hr ?_;(case hd=>rfl);(case hg=>rfl);(case hr=>first | (go_simp;done) | (go_simp;rfl));intro Xt hg w6 qd hb;have zW:=zx.mk (zC (zG HB.out) hb);have zh:=zx.mk (qd);have zo:=zx.mk ((by rw [hg];exact (zf (zG HB.out)):w.heap.size ≤ Xt));have zM:=zx.mk ((by rw [hg];exact (zf (zG HB.out)):w.heap.size ≤ Xt));clear HB;have HB:=zW;have Yu:=zh;have ze0:=zo;have zvJ:=zM;clear zW zh zo zM;clear hb qd hg;have zwH:w6.cell? ⟨Xt,0,none⟩ = some (.string zD):=zw Yu 0;have zaH:w6.cell? ⟨Xt,1,none⟩ = some (.bool ze):=zw Yu 1;have zaI:w6.cell? ⟨Xt,2,none⟩ = some (.int .i64 za):=zw Yu 2;have zaL:w6.cell? ⟨Xt,3,none⟩ = some (.slice yT zn.length yU):=zw Yu 3;have ziP:w6.cell? ⟨Xt,4,none⟩ = some (.slice y7 zF.length y8):=zw Yu 4;have ziR:w6.cell? ⟨Xt,5,none⟩ = some (.slice yZ zY.length yQ):=zw Yu 5;have zwI:=zy Yu.out 0;have zaM:=zy Yu.out 1;have zaN:=zy Yu.out 2;have zaO:=zy Yu.out 3;have ziS:=zy Yu.out 4;have ziT:=zy Yu.out 5) | (go_at_call 39;(with_reducible refine (ZQ.calls zD ze za _ _ zn _ _ zF _ _ zY zkk _ ?yc ?yG ?qZ ?qQ ?qB ?qC ?j4 A5.out).mono ?_);(case yc=>exact qY (Kd.zm jF.out HB.out));(case yG=>exact kU.out);(case qZ=>exact qY (Kd.zm jG.out HB.out));(case qQ=>exact wz.out);(case qB=>exact qY (Kd.zm uD.out HB.out));(case qC=>exact jh.out);(case j4=>exact GW.under HG.out (zG HB.out));rintro e w8 ⟨rfl,hb⟩;have zW:=zx.mk (yj (g:=Xt) (o:=.cells #[.string zD,.bool ze,.int .i64 za,.slice yT zn.length yU,.slice y7 zF.length y8,.slice yZ zY.length yQ] 60 (0,0)) (qV Yu.out) hb);have zh:=zx.mk (zC (zG HB.out) hb);clear Yu;clear HB;have Yu:=zW;have HB:=zh;clear zW zh;(try clear hb);(try clear hi)))
   go_ret
   exact ⟨by first | rfl | (simp [zH,zI] <;> rfl) | (simp [*,zH,zI] <;> rfl),by repeat (first | (with_reducible first | exact HB.out | apply yX | apply zL | apply zR | refine qK ?_ zvJ.out) | exact HB.out)⟩
  ·rw [if_neg c4] at H
   have Z8:decide (a1 ≤ 1000) = false:=decide_eq_false c4
   clear c4
   obtain rfl:=Option.some.inj H
   go_enter Tryz.func62,Tryz.ntmps62
   go_wp2_with (first | ((with_reducible refine qA (N:=2) rfl ?_);refine qH ?hg (N:=2) ?hd (cs:=#[.string zD,.bool ze,.int .i64 za,.slice yT zn.length yU,.slice y7 zF.length y8,.slice yZ zY.length yQ]) (t:=60) ?hr ?_;(case hd=>rfl);(case hg=>rfl);(case hr=>first | (go_simp;done) | (go_simp;rfl));intro Xt hg w9 qd hb;have zW:=zx.mk (zC (zG HB.out) hb);have zh:=zx.mk (qd);have zo:=zx.mk ((by rw [hg];exact (zf (zG HB.out)):w.heap.size ≤ Xt));have zM:=zx.mk ((by rw [hg];exact (zf (zG HB.out)):w.heap.size ≤ Xt));clear HB;have HB:=zW;have Yu:=zh;have ze0:=zo;have zvJ:=zM;clear zW zh zo zM;clear hb qd hg))
   go_ret
   exact ⟨by first | rfl | (simp [zH,zI] <;> rfl) | (simp [*,zH,zI] <;> rfl),by repeat (first | (with_reducible first | exact HB.out | apply yX | apply zL | apply zR | refine qK ?_ zvJ.out) | exact HB.out)⟩
 ·rw [if_neg c3] at H
  have ZR:decide (1 ≤ a1) = false:=decide_eq_false c3
  clear c3
  obtain rfl:=Option.some.inj H
  go_enter Tryz.func62,Tryz.ntmps62
  go_wp2_with (first | ((with_reducible refine qA (N:=2) rfl ?_);refine qH ?hg (N:=2) ?hd (cs:=#[.string zD,.bool ze,.int .i64 za,.slice yT zn.length yU,.slice y7 zF.length y8,.slice yZ zY.length yQ]) (t:=60) ?hr ?_;(case hd=>rfl);(case hg=>rfl);(case hr=>first | (go_simp;done) | (go_simp;rfl));intro Xt hg Xm qd hb;have zW:=zx.mk (zC (zG HB.out) hb);have zh:=zx.mk (qd);have zo:=zx.mk ((by rw [hg];exact (zf (zG HB.out)):w.heap.size ≤ Xt));have zM:=zx.mk ((by rw [hg];exact (zf (zG HB.out)):w.heap.size ≤ Xt));clear HB;have HB:=zW;have Yu:=zh;have ze0:=zo;have zvJ:=zM;clear zW zh zo zM;clear hb qd hg))
  go_ret
  exact ⟨by first | rfl | (simp [zH,zI] <;> rfl) | (simp [*,zH,zI] <;> rfl),by repeat (first | (with_reducible first | exact HB.out | apply yX | apply zL | apply zR | refine qK ?_ zvJ.out) | exact HB.out)⟩
def QF.f (a0:Int) (a1:Int):Option (Int):=if a0 < 0 then (if a1 = 0 then (none) else (some (wrap64 (-(wrap64 (Int.tdiv (wrap64 ((wrap64 ((wrap64 (-a0)) + a1)) - 1)) a1)))))) else (if a1 = 0 then (none) else (some (wrap64 (Int.tdiv a0 a1))))
set_option maxHeartbeats 8000000 in
set_option maxRecDepth 100000 in
theorem QF.calls (a0:Int) (a1:Int) (r:Int) (w:World) (h:QF.f a0 a1 = some r) :
  Calls Tryz.prog 117 #[.int .i64 a0,.int .i64 a1] w fun e w'=>e = .returned (.int .i64 r) ∧ yt w w':=by
 have H:(if a0 < 0 then (if a1 = 0 then (none) else (some (wrap64 (-(wrap64 (Int.tdiv (wrap64 ((wrap64 ((wrap64 (-a0)) + a1)) - 1)) a1)))))) else (if a1 = 0 then (none) else (some (wrap64 (Int.tdiv a0 a1))))) = some r:=h
 clear h
 by_cases c3:a0 < 0
 ·rw [if_pos c3] at H
  have ZR:decide (a0 < 0) = true:=decide_eq_true c3
  clear c3
  by_cases c4:a1 = 0
  ·rw [if_pos c4] at H
   exact absurd H (by simp)
  ·rw [if_neg c4] at H
   have Z8:(a1 == 0) = false:=beq_eq_false_iff_ne.mpr c4
   have zly:(a1 != 0) = true:=bne_iff_ne.mpr c4
   obtain rfl:=Option.some.inj H
   go_enter Tryz.func117,Tryz.ntmps117
   go_wp2
   go_ret
   exact ⟨by first | rfl | (simp;done) | (simp [*];done),by repeat (first | exact yt.refl _ | apply yt.step)⟩
 ·rw [if_neg c3] at H
  have ZR:decide (a0 < 0) = false:=decide_eq_false c3
  clear c3
  by_cases c5:a1 = 0
  ·rw [if_pos c5] at H
   exact absurd H (by simp)
  ·rw [if_neg c5] at H
   have pY:(a1 == 0) = false:=beq_eq_false_iff_ne.mpr c5
   have zkv:(a1 != 0) = true:=bne_iff_ne.mpr c5
   obtain rfl:=Option.some.inj H
   go_enter Tryz.func117,Tryz.ntmps117
   go_wp2
   go_ret
   exact ⟨by first | rfl | (simp;done) | (simp [*];done),by repeat (first | exact yt.refl _ | apply yt.step)⟩
def pJ.f (a0:Int) (a1:Int):Option (Int):=(QF.f (wrap64 ((wrap64 (10 * a1)) * a0)) 1000).bind fun zky=>(some zky)
set_option maxHeartbeats 8000000 in
set_option maxRecDepth 100000 in
theorem pJ.calls (a0:Int) (a1:Int) (r:Int) (w:World) (h:pJ.f a0 a1 = some r) :
  Calls Tryz.prog 63 #[.int .i64 a0,.int .i64 a1] w fun e w'=>e = .returned (.int .i64 r) ∧ yt w w':=by
 have H:((QF.f (wrap64 ((wrap64 (10 * a1)) * a0)) 1000).bind fun zky=>(some zky)) = some r:=h
 clear h
 replace H:=Option.bind_eq_some_iff.mp H
 obtain ⟨zky,A30,H⟩:=H
 replace H:(some zky) = some r:=H
 have A3:=zx.mk A30
 clear A30
 obtain rfl:=Option.some.inj H
 go_enter Tryz.func63,Tryz.ntmps63
 go_wp2_with (first | ((with_reducible refine yE (f:=117) rfl ?_);refine jg (some 9) Tryz.func117 #[.int .i64 (wrap64 ((wrap64 (10 * a1)) * a0)),.int .i64 1000] ?_;(with_reducible refine (QF.calls (wrap64 ((wrap64 (10 * a1)) * a0)) 1000 zky _ A3.out).mono ?_);rintro e w' ⟨rfl,⟨nd,rfl⟩⟩;refine ⟨_,rfl,?_⟩))
 go_ret
 exact ⟨by first | rfl | (simp;done) | (simp [*];done),by repeat (first | exact yt.refl _ | apply yt.step)⟩
end Go.Proofs.YtggifbbiiickmaaGreatDoor.PX
namespace Go.Proofs.YtggifbbiiickmaaGreatDoor.PX
open Go.RowKit Go.Proofs.zk.zu Go.Proofs.zk.yD Go.Proofs.zk.yA
attribute [local go_sem] xP xR vG vH xB xC xS xU   -- for this text's walks alone
set_option linter.unusedVariables false
set_option linter.unusedSimpArgs false
def WW.f (zD:ByteArray) (ze:Bool) (za:Int) (zn:List (ql)) (zF:List (xX)) (zY:List (vv)) (a1:ByteArray) (a2:Int):Option (Int × Int):=(Yw.f zD ze za zn zF zY a2).bind fun zkw=>(if zkw = true then ((wU.f zD ze za zn zF zY a1).bind fun Yz=>(if Yz.2 = true then (if 0 ≤ Yz.1 then (if Yz.1 < (zn.length:Int) then ((pJ.f ((qE zn Yz.1).f1) a2).bind fun Wd=>(some (Wd,0))) else (none)) else (none)) else (some (0,3)))) else (some (0,1)))
set_option maxHeartbeats 8000000 in
set_option maxRecDepth 100000 in
theorem WW.calls (zD:ByteArray) (ze:Bool) (za:Int) (yT:Option Addr) (yU:Nat) (zn:List (ql)) (y7:Option Addr) (y8:Nat) (zF:List (xX)) (yZ:Option Addr) (yQ:Nat) (zY:List (vv)) (a1:ByteArray) (a2:Int) (r1:Int) (r2:Int) (w:World) (jq:Kd.C jy w yT zn.length zn) (jN:zn.length ≤ yU) (jO:Kd.C kS w y7 zF.length zF) (jP:zF.length ≤ y8) (jm:Kd.C wX w yZ zY.length zY) (jo:zY.length ≤ yQ) (hG:GW w) (h:WW.f zD ze za zn zF zY a1 a2 = some (r1,r2)) :
  Calls Tryz.prog 22 #[.agg #[.string zD,.bool ze,.int .i64 za,.slice yT zn.length yU,.slice y7 zF.length y8,.slice yZ zY.length yQ],.string a1,.int .i64 a2] w fun e w'=>e = .returned (.tuple #[.int .i64 r1,.int .i64 r2]) ∧ Below w.heap.size w w':=by
 have zlj:=Tryz.underlying60
 have HG:=zx.mk hG
 clear hG
 have jF:=zx.mk jq
 have kU:=zx.mk jN
 clear jq jN
 have jG:=zx.mk jO
 have wz:=zx.mk jP
 clear jO jP
 have uD:=zx.mk jm
 have jh:=zx.mk jo
 clear jm jo
 have HB:=zx.mk (Below.refl w.heap.size w)
 have H:((Yw.f zD ze za zn zF zY a2).bind fun zkw=>(if zkw = true then ((wU.f zD ze za zn zF zY a1).bind fun Yz=>(if Yz.2 = true then (if 0 ≤ Yz.1 then (if Yz.1 < (zn.length:Int) then ((pJ.f ((qE zn Yz.1).f1) a2).bind fun Wd=>(some (Wd,0))) else (none)) else (none)) else (some (0,3)))) else (some (0,1)))) = some (r1,r2):=h
 clear h
 replace H:=Option.bind_eq_some_iff.mp H
 obtain ⟨zkw,gW,H⟩:=H
 replace H:(if zkw = true then ((wU.f zD ze za zn zF zY a1).bind fun Yz=>(if Yz.2 = true then (if 0 ≤ Yz.1 then (if Yz.1 < (zn.length:Int) then ((pJ.f ((qE zn Yz.1).f1) a2).bind fun Wd=>(some (Wd,0))) else (none)) else (none)) else (some (0,3)))) else (some (0,1))) = some (r1,r2):=H
 have A4:=zx.mk gW
 clear gW
 by_cases c5:zkw = true
 ·subst c5
  have H1:((wU.f zD ze za zn zF zY a1).bind fun Yz=>(if Yz.2 = true then (if 0 ≤ Yz.1 then (if Yz.1 < (zn.length:Int) then ((pJ.f ((qE zn Yz.1).f1) a2).bind fun Wd=>(some (Wd,0))) else (none)) else (none)) else (some (0,3)))) = some (r1,r2):=by rw [if_pos rfl] at H;exact H
  clear H
  have H:=H1
  clear H1
  replace H:=Option.bind_eq_some_iff.mp H
  obtain ⟨⟨Qr,zlw⟩,A60,H⟩:=H
  replace H:(if zlw = true then (if 0 ≤ Qr then (if Qr < (zn.length:Int) then ((pJ.f ((qE zn Qr).f1) a2).bind fun Wd=>(some (Wd,0))) else (none)) else (none)) else (some (0,3))) = some (r1,r2):=H
  have A6:=zx.mk A60
  clear A60
  by_cases c7:zlw = true
  ·subst c7
   have H1:(if 0 ≤ Qr then (if Qr < (zn.length:Int) then ((pJ.f ((qE zn Qr).f1) a2).bind fun Wd=>(some (Wd,0))) else (none)) else (none)) = some (r1,r2):=by rw [if_pos rfl] at H;exact H
   clear H
   have H:=H1
   clear H1
   by_cases c8:0 ≤ Qr
   ·rw [if_pos c8] at H
    have Zt:decide (0 ≤ Qr) = true:=decide_eq_true c8
    clear c8
    by_cases c9:Qr < (zn.length:Int)
    ·rw [if_pos c9] at H
     have zqf:decide (Qr < (zn.length:Int)) = true:=decide_eq_true c9
     clear c9
     replace H:=Option.bind_eq_some_iff.mp H
     obtain ⟨Wd,zwP,H⟩:=H
     replace H:(some (Wd,0)) = some (r1,r2):=H
     have A10:=zx.mk zwP
     clear zwP
     simp only [Option.some.injEq,Prod.mk.injEq] at H
     obtain ⟨rfl,rfl⟩:=H
     go_enter Tryz.func22,Tryz.ntmps22
     go_wp2_with (first | ((with_reducible refine qA (N:=3) rfl ?_);refine qH ?hg (N:=3) ?hd (cs:=#[.string zD,.bool ze,.int .i64 za,.slice yT zn.length yU,.slice y7 zF.length y8,.slice yZ zY.length yQ]) (t:=60) ?hr ?_;(case hd=>rfl);(case hg=>rfl);(case hr=>first | (go_simp;done) | (go_simp;rfl));intro uz hg w11 qd hb;have zW:=zx.mk (zC (zG HB.out) hb);have zh:=zx.mk (qd);have zo:=zx.mk ((by rw [hg];exact (zf (zG HB.out)):w.heap.size ≤ uz));have zM:=zx.mk ((by rw [hg];exact (zf (zG HB.out)):w.heap.size ≤ uz));clear HB;have HB:=zW;have qm:=zh;have ze1:=zo;have zvV:=zM;clear zW zh zo zM;clear hb qd hg;have aI:w11.cell? ⟨uz,0,none⟩ = some (.string zD):=zw qm 0;have aM:w11.cell? ⟨uz,1,none⟩ = some (.bool ze):=zw qm 1;have aN:w11.cell? ⟨uz,2,none⟩ = some (.int .i64 za):=zw qm 2;have aT:w11.cell? ⟨uz,3,none⟩ = some (.slice yT zn.length yU):=zw qm 3;have aU:w11.cell? ⟨uz,4,none⟩ = some (.slice y7 zF.length y8):=zw qm 4;have fq:w11.cell? ⟨uz,5,none⟩ = some (.slice yZ zY.length yQ):=zw qm 5;have fZ:=zy qm.out 0;have fQ:=zy qm.out 1;have fJ:=zy qm.out 2;have fV:=zy qm.out 3;have fK:=zy qm.out 4;have fu:=zy qm.out 5) | ((with_reducible refine yE (f:=62) rfl ?_);refine jg (some 12) Tryz.func62 #[.agg #[.string zD,.bool ze,.int .i64 za,.slice yT zn.length yU,.slice y7 zF.length y8,.slice yZ zY.length yQ],.int .i64 a2] ?_;(with_reducible refine (Yw.calls zD ze za _ _ zn _ _ zF _ _ zY a2 true _ ?yc ?yG ?qZ ?qQ ?qB ?qC ?j4 A4.out).mono ?_);(case yc=>exact qY (Kd.zm jF.out HB.out));(case yG=>exact kU.out);(case qZ=>exact qY (Kd.zm jG.out HB.out));(case qQ=>exact wz.out);(case qB=>exact qY (Kd.zm uD.out HB.out));(case qC=>exact jh.out);(case j4=>exact GW.under HG.out (zG HB.out));rintro e gB ⟨rfl,hb⟩;refine ⟨_,rfl,?_⟩;have zW:=zx.mk (yj (g:=uz) (o:=.cells #[.string zD,.bool ze,.int .i64 za,.slice yT zn.length yU,.slice y7 zF.length y8,.slice yZ zY.length yQ] 60 (0,0)) (qV qm.out) hb);have zh:=zx.mk (zC (zG HB.out) hb);clear qm;clear HB;have qm:=zW;have HB:=zh;clear zW zh;(try clear hb);have UY:gB.cell? ⟨uz,0,none⟩ = some (.string zD):=zw qm 0;have UW:gB.cell? ⟨uz,1,none⟩ = some (.bool ze):=zw qm 1;have Ua:gB.cell? ⟨uz,2,none⟩ = some (.int .i64 za):=zw qm 2;have Ub:gB.cell? ⟨uz,3,none⟩ = some (.slice yT zn.length yU):=zw qm 3;have Uc:gB.cell? ⟨uz,4,none⟩ = some (.slice y7 zF.length y8):=zw qm 4;have Ud:gB.cell? ⟨uz,5,none⟩ = some (.slice yZ zY.length yQ):=zw qm 5;have Ue:=zy qm.out 0;have Uf:=zy qm.out 1;have Ug:=zy qm.out 2;have Uh:=zy qm.out 3;have Ui:=zy qm.out 4;have Ul:=zy qm.out 5) | ((with_reducible refine yE (f:=64) rfl ?_);refine jg (some 17) Tryz.func64 #[.agg #[.string zD,.bool ze,.int .i64 za,.slice yT zn.length yU,.slice y7 zF.length y8,.slice yZ zY.length yQ],.string a1] ?_;(with_reducible refine (wU.calls zD ze za _ _ zn _ _ zF _ _ zY a1 Qr true _ ?yc ?yG ?qZ ?qQ ?qB ?qC ?j4 A6.out).mono ?_);(case yc=>exact qY (Kd.zm jF.out HB.out));(case yG=>exact kU.out);(case qZ=>exact qY (Kd.zm jG.out HB.out));(case qQ=>exact wz.out);(case qB=>exact qY (Kd.zm uD.out HB.out));(case qC=>exact jh.out);(case j4=>exact GW.under HG.out (zG HB.out));rintro e Zu ⟨rfl,hb⟩;refine ⟨_,rfl,?_⟩;have zW:=zx.mk (yj (g:=uz) (o:=.cells #[.string zD,.bool ze,.int .i64 za,.slice yT zn.length yU,.slice y7 zF.length y8,.slice yZ zY.length yQ] 60 (0,0)) (qV qm.out) hb);have zh:=zx.mk (zC (zG HB.out) hb);clear qm;clear HB;have qm:=zW;have HB:=zh;clear zW zh;(try clear hb);have Um:Zu.cell? ⟨uz,0,none⟩ = some (.string zD):=zw qm 0;have Un:Zu.cell? ⟨uz,1,none⟩ = some (.bool ze):=zw qm 1;have Uo:Zu.cell? ⟨uz,2,none⟩ = some (.int .i64 za):=zw qm 2;have Ur:Zu.cell? ⟨uz,3,none⟩ = some (.slice yT zn.length yU):=zw qm 3;have zxj:Zu.cell? ⟨uz,4,none⟩ = some (.slice y7 zF.length y8):=zw qm 4;have zxv:Zu.cell? ⟨uz,5,none⟩ = some (.slice yZ zY.length yQ):=zw qm 5;have Us:=zy qm.out 0;have Ut:=zy qm.out 1;have Uu:=zy qm.out 2;have UA:=zy qm.out 3;have zxk:=zy qm.out 4;have zxy:=zy qm.out 5;have zcU:0 ≤ (Qr:Int):=of_decide_eq_true yF;have zc0:Qr < (zn.length:Int):=of_decide_eq_true yF;obtain ⟨zDY,zrf,zkZ,zkQ⟩:=WL jF.out Qr zcU zc0;cases zrf;replace zkZ:=(HB.out.cell (World.block_lt_of_cell? w _ zkZ)).trans zkZ;replace zkQ:=(HB.out.cell (World.block_lt_of_cell? w _ zkQ)).trans zkQ;replace zcU:=eq_true zcU;replace zc0:=eq_true zc0) | ((with_reducible refine yE (f:=63) rfl ?_);refine jg (some 29) Tryz.func63 #[.int .i64 ((qE zn Qr).f1),.int .i64 a2] ?_;(with_reducible refine (pJ.calls ((qE zn Qr).f1) a2 Wd _ A10.out).mono ?_);rintro e w' ⟨rfl,⟨nd,rfl⟩⟩;refine ⟨_,rfl,?_⟩))
     go_ret2
     exact ⟨by first | rfl | (simp [zH,zI] <;> rfl) | (simp [*,zH,zI] <;> rfl),by repeat (first | (with_reducible first | exact HB.out | apply yX | apply zL | apply zR | refine qK ?_ zvV.out) | exact HB.out)⟩
    ·rw [if_neg c9] at H
     exact absurd H (by simp)
   ·rw [if_neg c8] at H
    exact absurd H (by simp)
  ·replace c7:=Bool.eq_false_iff.mpr c7
   subst c7
   have H1:(some (0,3)) = some (r1,r2):=by rw [if_neg (show ¬ (false = true) by decide)] at H;exact H
   clear H
   have H:=H1
   clear H1
   simp only [Option.some.injEq,Prod.mk.injEq] at H
   obtain ⟨rfl,rfl⟩:=H
   go_enter Tryz.func22,Tryz.ntmps22
   go_wp2_with (first | ((with_reducible refine qA (N:=3) rfl ?_);refine qH ?hg (N:=3) ?hd (cs:=#[.string zD,.bool ze,.int .i64 za,.slice yT zn.length yU,.slice y7 zF.length y8,.slice yZ zY.length yQ]) (t:=60) ?hr ?_;(case hd=>rfl);(case hg=>rfl);(case hr=>first | (go_simp;done) | (go_simp;rfl));intro uz hg Vn qd hb;have zW:=zx.mk (zC (zG HB.out) hb);have zh:=zx.mk (qd);have zo:=zx.mk ((by rw [hg];exact (zf (zG HB.out)):w.heap.size ≤ uz));have zM:=zx.mk ((by rw [hg];exact (zf (zG HB.out)):w.heap.size ≤ uz));clear HB;have HB:=zW;have qm:=zh;have ze1:=zo;have zvV:=zM;clear zW zh zo zM;clear hb qd hg;have zf8:Vn.cell? ⟨uz,0,none⟩ = some (.string zD):=zw qm 0;have zf9:Vn.cell? ⟨uz,1,none⟩ = some (.bool ze):=zw qm 1;have zgz:Vn.cell? ⟨uz,2,none⟩ = some (.int .i64 za):=zw qm 2;have zgq:Vn.cell? ⟨uz,3,none⟩ = some (.slice yT zn.length yU):=zw qm 3;have zgx:Vn.cell? ⟨uz,4,none⟩ = some (.slice y7 zF.length y8):=zw qm 4;have zgj:Vn.cell? ⟨uz,5,none⟩ = some (.slice yZ zY.length yQ):=zw qm 5;have zgv:=zy qm.out 0;have zgk:=zy qm.out 1;have zgy:=zy qm.out 2;have zgw:=zy qm.out 3;have zgZ:=zy qm.out 4;have zgQ:=zy qm.out 5) | ((with_reducible refine yE (f:=62) rfl ?_);refine jg (some 12) Tryz.func62 #[.agg #[.string zD,.bool ze,.int .i64 za,.slice yT zn.length yU,.slice y7 zF.length y8,.slice yZ zY.length yQ],.int .i64 a2] ?_;(with_reducible refine (Yw.calls zD ze za _ _ zn _ _ zF _ _ zY a2 true _ ?yc ?yG ?qZ ?qQ ?qB ?qC ?j4 A4.out).mono ?_);(case yc=>exact qY (Kd.zm jF.out HB.out));(case yG=>exact kU.out);(case qZ=>exact qY (Kd.zm jG.out HB.out));(case qQ=>exact wz.out);(case qB=>exact qY (Kd.zm uD.out HB.out));(case qC=>exact jh.out);(case j4=>exact GW.under HG.out (zG HB.out));rintro e w19 ⟨rfl,hb⟩;refine ⟨_,rfl,?_⟩;have zW:=zx.mk (yj (g:=uz) (o:=.cells #[.string zD,.bool ze,.int .i64 za,.slice yT zn.length yU,.slice y7 zF.length y8,.slice yZ zY.length yQ] 60 (0,0)) (qV qm.out) hb);have zh:=zx.mk (zC (zG HB.out) hb);clear qm;clear HB;have qm:=zW;have HB:=zh;clear zW zh;(try clear hb);have fA:w19.cell? ⟨uz,0,none⟩ = some (.string zD):=zw qm 0;have fB:w19.cell? ⟨uz,1,none⟩ = some (.bool ze):=zw qm 1;have fC:w19.cell? ⟨uz,2,none⟩ = some (.int .i64 za):=zw qm 2;have fD:w19.cell? ⟨uz,3,none⟩ = some (.slice yT zn.length yU):=zw qm 3;have fE:w19.cell? ⟨uz,4,none⟩ = some (.slice y7 zF.length y8):=zw qm 4;have fF:w19.cell? ⟨uz,5,none⟩ = some (.slice yZ zY.length yQ):=zw qm 5;have fG:=zy qm.out 0;have fH:=zy qm.out 1;have fI:=zy qm.out 2;have fM:=zy qm.out 3;have fO:=zy qm.out 4;have fP:=zy qm.out 5) | ((with_reducible refine yE (f:=64) rfl ?_);refine jg (some 17) Tryz.func64 #[.agg #[.string zD,.bool ze,.int .i64 za,.slice yT zn.length yU,.slice y7 zF.length y8,.slice yZ zY.length yQ],.string a1] ?_;(with_reducible refine (wU.calls zD ze za _ _ zn _ _ zF _ _ zY a1 Qr false _ ?yc ?yG ?qZ ?qQ ?qB ?qC ?j4 A6.out).mono ?_);(case yc=>exact qY (Kd.zm jF.out HB.out));(case yG=>exact kU.out);(case qZ=>exact qY (Kd.zm jG.out HB.out));(case qQ=>exact wz.out);(case qB=>exact qY (Kd.zm uD.out HB.out));(case qC=>exact jh.out);(case j4=>exact GW.under HG.out (zG HB.out));rintro e WB ⟨rfl,hb⟩;refine ⟨_,rfl,?_⟩;have zW:=zx.mk (yj (g:=uz) (o:=.cells #[.string zD,.bool ze,.int .i64 za,.slice yT zn.length yU,.slice y7 zF.length y8,.slice yZ zY.length yQ] 60 (0,0)) (qV qm.out) hb);have zh:=zx.mk (zC (zG HB.out) hb);clear qm;clear HB;have qm:=zW;have HB:=zh;clear zW zh;(try clear hb);(try clear hi)))
   go_ret2
   exact ⟨by first | rfl | (simp [zH,zI] <;> rfl) | (simp [*,zH,zI] <;> rfl),by repeat (first | (with_reducible first | exact HB.out | apply yX | apply zL | apply zR | refine qK ?_ zvV.out) | exact HB.out)⟩
 ·replace c5:=Bool.eq_false_iff.mpr c5
  subst c5
  have H1:(some (0,1)) = some (r1,r2):=by rw [if_neg (show ¬ (false = true) by decide)] at H;exact H
  clear H
  have H:=H1
  clear H1
  simp only [Option.some.injEq,Prod.mk.injEq] at H
  obtain ⟨rfl,rfl⟩:=H
  go_enter Tryz.func22,Tryz.ntmps22
  go_wp2_with (first | ((with_reducible refine qA (N:=3) rfl ?_);refine qH ?hg (N:=3) ?hd (cs:=#[.string zD,.bool ze,.int .i64 za,.slice yT zn.length yU,.slice y7 zF.length y8,.slice yZ zY.length yQ]) (t:=60) ?hr ?_;(case hd=>rfl);(case hg=>rfl);(case hr=>first | (go_simp;done) | (go_simp;rfl));intro uz hg w22 qd hb;have zW:=zx.mk (zC (zG HB.out) hb);have zh:=zx.mk (qd);have zo:=zx.mk ((by rw [hg];exact (zf (zG HB.out)):w.heap.size ≤ uz));have zM:=zx.mk ((by rw [hg];exact (zf (zG HB.out)):w.heap.size ≤ uz));clear HB;have HB:=zW;have qm:=zh;have ze1:=zo;have zvV:=zM;clear zW zh zo zM;clear hb qd hg;have fT:w22.cell? ⟨uz,0,none⟩ = some (.string zD):=zw qm 0;have fU:w22.cell? ⟨uz,1,none⟩ = some (.bool ze):=zw qm 1;have eZ:w22.cell? ⟨uz,2,none⟩ = some (.int .i64 za):=zw qm 2;have eX:w22.cell? ⟨uz,3,none⟩ = some (.slice yT zn.length yU):=zw qm 3;have zkX:w22.cell? ⟨uz,4,none⟩ = some (.slice y7 zF.length y8):=zw qm 4;have zkJ:w22.cell? ⟨uz,5,none⟩ = some (.slice yZ zY.length yQ):=zw qm 5;have eY:=zy qm.out 0;have eB:=zy qm.out 1;have eD:=zy qm.out 2;have eG:=zy qm.out 3;have zkV:=zy qm.out 4;have zkK:=zy qm.out 5) | ((with_reducible refine yE (f:=62) rfl ?_);refine jg (some 12) Tryz.func62 #[.agg #[.string zD,.bool ze,.int .i64 za,.slice yT zn.length yU,.slice y7 zF.length y8,.slice yZ zY.length yQ],.int .i64 a2] ?_;(with_reducible refine (Yw.calls zD ze za _ _ zn _ _ zF _ _ zY a2 false _ ?yc ?yG ?qZ ?qQ ?qB ?qC ?j4 A4.out).mono ?_);(case yc=>exact qY (Kd.zm jF.out HB.out));(case yG=>exact kU.out);(case qZ=>exact qY (Kd.zm jG.out HB.out));(case qQ=>exact wz.out);(case qB=>exact qY (Kd.zm uD.out HB.out));(case qC=>exact jh.out);(case j4=>exact GW.under HG.out (zG HB.out));rintro e w24 ⟨rfl,hb⟩;refine ⟨_,rfl,?_⟩;have zW:=zx.mk (yj (g:=uz) (o:=.cells #[.string zD,.bool ze,.int .i64 za,.slice yT zn.length yU,.slice y7 zF.length y8,.slice yZ zY.length yQ] 60 (0,0)) (qV qm.out) hb);have zh:=zx.mk (zC (zG HB.out) hb);clear qm;clear HB;have qm:=zW;have HB:=zh;clear zW zh;(try clear hb);(try clear hi)))
  go_ret2
  exact ⟨by first | rfl | (simp [zH,zI] <;> rfl) | (simp [*,zH,zI] <;> rfl),by repeat (first | (with_reducible first | exact HB.out | apply yX | apply zL | apply zR | refine qK ?_ zvV.out) | exact HB.out)⟩
end Go.Proofs.YtggifbbiiickmaaGreatDoor.PX
namespace Go.Proofs.YtggifbbiiickmaaGreatDoor.PX
open Go.RowKit Go.Proofs.zk.zu Go.Proofs.zk.yD Go.Proofs.zk.yA
attribute [local go_sem] xP xR vG vH xB xC xS xU   -- for this text's walks alone
set_option linter.unusedVariables false
set_option linter.unusedSimpArgs false
end Go.Proofs.YtggifbbiiickmaaGreatDoor.PX
namespace Go.Proofs.YtggifbbiiickmaaGreatDoor
open Go.RowKit Go.Shelf Go.Proofs.zk.zu Go.Proofs.zk.yD Go.Proofs.zk.yA Go.Proofs.YtggifbbiiickmaaGreatDoor.PX
set_option linter.unusedSimpArgs false
set_option linter.unusedVariables false
theorem za4 {a:ByteArray} {c:Int} {l3:List ql} {l4:List xX} {l5:List vv} (h:vN a c l3 l4 l5 = true):l3.length ≤ 400 ∧ l4.length ≤ 50 ∧ l5.length ≤ 500:=by
 unfold vN at h
 split at h
 ·cases h
 ·rename_i q1
  simp only [Bool.or_eq_true,not_or,decide_eq_true_eq] at q1
  omega
theorem za5 {a:ByteArray} {c:Int} {l3:List ql} {l4:List xX} {l5:List vv} (h:vN a c l3 l4 l5 = true):Asc l3:=by
 unfold vN at h
 split at h
 ·cases h
 ·split at h
  ·cases h
  ·rename_i q2
   simp only [Bool.or_eq_true,not_or,Bool.not_eq_true,Bool.not_eq_false'] at q2
   exact za2 q2.2
theorem zvK {a:ByteArray} {c:Int} {l3:List ql} {l4:List xX} {l5:List vv} (h:vN a c l3 l4 l5 = true):∀ x ∈ l3,0 ≤ x.f1 ∧ x.f1 ≤ 3000:=by
 unfold vN at h
 split at h
 ·cases h
 ·split at h
  ·cases h
  ·rename_i q2
   intro x hx
   simp only [Bool.or_eq_true,not_or,Bool.not_eq_true,Bool.not_eq_false'] at q2
   have h1:=List.any_eq_false.1 q2.1 x hx
   unfold aZ VI at h1
   simp only [Bool.or_eq_true,not_or,decide_eq_true_eq] at h1
   omega
def flr (s n:Int):Int:=10 * (s * n) / 1000
theorem zwj (s n:Int) (hs:1 ≤ s) (hs1:s ≤ 1000) (h0:-3000 ≤ n) (h1:n ≤ 3000):-3000000 ≤ s * n ∧ s * n ≤ 3000000:=by
 have a1:=Int.mul_le_mul_of_nonneg_left h1 (by omega:(0:Int) ≤ s)
 have a2:=Int.mul_le_mul_of_nonneg_left h0 (by omega:(0:Int) ≤ s)
 omega
theorem za6 (n s:Int) (hs:1 ≤ s) (hs1:s ≤ 1000) (h0:-3000 ≤ n) (h1:n ≤ 3000):pJ.f n s = some (flr s n):=by
 have hr:=zwj s n hs hs1 h0 h1
 have e:10 * s * n = 10 * (s * n):=Int.mul_assoc _ _ _
 unfold pJ.f flr
 rw [wK (x:=10 * s) (by omega) (by omega),e]
 generalize s * n = p at hr
 rw [wK (x:=10 * p) (by omega) (by omega)]
 unfold QF.f
 by_cases hp:10 * p < 0
 ·rw [if_pos hp,if_neg (by omega),wK (x:=-(10 * p)) (by omega) (by omega),wK (x:=-(10 * p) + 1000) (by omega) (by omega),wK (x:=-(10 * p) + 1000 - 1) (by omega) (by omega),Int.tdiv_eq_ediv_of_nonneg (by omega),wK (x:=(-(10 * p) + 1000 - 1) / 1000) (by omega) (by omega),wK (by omega) (by omega)]
  simp only [Option.bind_some]
  congr 1
  omega
 ·rw [if_neg hp,if_neg (by omega),Int.tdiv_eq_ediv_of_nonneg (by omega),wK (by omega) (by omega)]
  rfl
def QG (s:Int) (V:Bool):Bool:=decide (1 ≤ s) && (decide (s ≤ 1000) && V)
def zqi (V:Bool) (l:List ql) (n:ByteArray) (s:Int):Int × Int:=if QG s V = true then (match l.find? (fun x=>decide (x.f0 = n)) with | some x=>(flr s x.f1,0) | none=>(0,3)) else (0,1)
def zz0 (V:Bool) (l:List vv) (n m:ByteArray) (s:Int):Int × Int:=if QG s V = true then ((match l.find? (fun x=>decide (x.f0 = n) && decide (x.f1 = m)) with | some x=>flr s x.f2 | none=>0),0) else (0,1)
def tK (V:Bool) (l:List xX) (n m:ByteArray):ByteArray × Bool:=if V = true then (match l.find? (fun x=>decide (x.f0 = n) && decide (x.f1 = m)) with | some x=>(x.f2,true) | none=>((⟨#[]⟩:ByteArray),false)) else ((⟨#[]⟩:ByteArray),false)
theorem za7 (a:ByteArray) (b:Bool) (c:Int) (l3:List ql) (l4:List xX) (l5:List vv) (s:Int) (h3:l3.length ≤ 1000000000) (h4:l4.length ≤ 1000000000) (h5:l5.length ≤ 1000000000):Yw.f a b c l3 l4 l5 s = some (QG s (vN a c l3 l4 l5)):=by
 unfold Yw.f QG ZQ.f
 by_cases h1:s ≥ 1
 ·rw [if_pos h1,decide_eq_true h1]
  by_cases h2:s ≤ 1000
  ·rw [if_pos h2,decide_eq_true h2,if_pos ⟨h3,h4,h5⟩];rfl
  ·rw [if_neg h2,decide_eq_false h2];rfl
 ·rw [if_neg h1,decide_eq_false h1];rfl
theorem zwR {s:Int} {V:Bool} (h:QG s V = true):1 ≤ s ∧ s ≤ 1000 ∧ V = true:=by
 unfold QG at h
 simp only [Bool.and_eq_true,decide_eq_true_eq] at h
 exact h
theorem zvY {a:ByteArray} {c:Int} {l3:List ql} {l4:List xX} {l5:List vv} (h:vN a c l3 l4 l5 = true):(0 ≤ c ∧ c ≤ 3000) ∧ ∀ x ∈ l5,-500 ≤ x.f2 ∧ x.f2 ≤ 500:=by
 unfold vN at h
 split at h
 ·cases h
 ·rename_i q1
  split at h
  ·cases h
  ·split at h
   ·cases h
   ·simp only [Bool.or_eq_true,not_or,decide_eq_true_eq,VI] at q1
    rw [Bool.and_eq_true] at h
    refine ⟨by omega,fun x hx=>?_⟩
    have h2:l5.any (aQ l3) = false:=by simpa using h.1
    have h1:=List.any_eq_false.1 h2 x hx
    unfold aQ at h1
    simp only [Bool.or_eq_true,not_or,decide_eq_true_eq] at h1
    omega
theorem zlZ (a:ByteArray) (b:Bool) (c:Int) (l3:List ql) (l4:List xX) (l5:List vv) (n:ByteArray) (s:Int) (h3:l3.length ≤ 1000000000) (h4:l4.length ≤ 1000000000) (h5:l5.length ≤ 1000000000):WW.f a b c l3 l4 l5 n s = some (zqi (vN a c l3 l4 l5) l3 n s):=by
 unfold WW.f zqi
 rw [za7 a b c l3 l4 l5 s h3 h4 h5]
 simp only [Option.bind_some]
 by_cases h:QG s (vN a c l3 l4 l5) = true
 ·obtain ⟨p,q,hv⟩:=zwR h
  rw [if_pos h,if_pos h]
  unfold wU.f
  rw [if_pos h3]
  simp only [Option.bind_some]
  cases hf:l3.find? (fun x=>decide (x.f0 = n)) with
  | none =>
   rw [List.find?_eq_none] at hf
   rw [zQF l3 n (fun x hx e=>hf x hx (decide_eq_true e)),if_neg (by simp)]
  | some x =>
   have hx:=List.mem_of_find?_eq_some hf
   have he:x.f0 = n:=by have:=List.find?_some hf;simpa using this
   obtain ⟨m,hm,rfl⟩:=List.getElem_of_mem hx
   subst he
   have hw:=zvK hv _ hx
   rw [zQE l3 (za5 hv) m hm]
   simp only [if_true]
   rw [if_pos (by omega),if_pos (by omega),gZ l3 m hm,za6 _ s p q (by omega) (by omega)];rfl
 ·rw [if_neg h,if_neg h]
theorem YR {x y:ByteArray}:x.toList = y.toList ↔ x = y:=dh
end Go.Proofs.YtggifbbiiickmaaGreatDoor
namespace Go.Proofs.YtggifbbiiickmaaGreatDoor
open Go.RowKit Go.Shelf Go.Proofs.zk.zu Go.Proofs.zk.yD Go.Proofs.zk.yA Go.Proofs.YtggifbbiiickmaaGreatDoor.PX
set_option linter.unusedSimpArgs false
set_option linter.unusedVariables false
def kV (x:ql):uX:=⟨x.f0,x.f1⟩
def wo (x:xX):uG:=⟨x.f0,x.f1,x.f2⟩
def wu (x:vv):uN:=⟨x.f0,x.f1,x.f2⟩
end Go.Proofs.YtggifbbiiickmaaGreatDoor
namespace Go.Proofs.YtggifbbiiickmaaGreatDoor
open Go.RowKit Go.Proofs.zk.zu Go.Proofs.zk.yD Go.Proofs.zk.yA Go.Proofs.YtggifbbiiickmaaGreatDoor.PX
set_option linter.unusedSimpArgs false
set_option linter.unusedVariables false
theorem zkY (l:List ql) (i:Nat) (h:i < l.length):vK (l.map kV) (i:Int) = kV l[i]:=by simp [vK,List.getD_eq_getElem?_getD,h]
theorem zkW (l:List xX) (i:Nat) (h:i < l.length):xM (l.map wo) (i:Int) = wo l[i]:=by simp [xM,List.getD_eq_getElem?_getD,h]
theorem zka (l:List vv) (i:Nat) (h:i < l.length):xZ (l.map wu) (i:Int) = wu l[i]:=by simp [xZ,List.getD_eq_getElem?_getD,h]
theorem zwS (l:List xX) (i:Nat) (h:i < l.length):qR l (i:Int) = l[i]:=by simp [qR,List.getD_eq_getElem?_getD,h]
theorem zwT (l:List vv) (i:Nat) (h:i < l.length):q9 l (i:Int) = l[i]:=by simp [q9,List.getD_eq_getElem?_getD,h]
theorem UC (l:List ql) (n:ByteArray):ko (l.map kV) n = Ya l n:=by
 unfold ko Ya
 rw [List.any_map];rfl
theorem rO (l:List ql) (ha:Asc l) (n:ByteArray):Ya l n = (Xp l n).2:=by
 rw [zcT l ha n]
 unfold Ya
 refine List.any_congr rfl (fun x=>?_)
 by_cases h:x.f0 = n
 ·rw [h];simp
 ·rw [decide_eq_false h]
  exact beq_eq_false_iff_ne.2 (fun e=>h (dh.1 e))
theorem tY (a b c d:ByteArray):VD a b c d = true ↔ orV (uM a c) (uM b d) < 0:=by
 unfold VD orV
 by_cases h0:a = c
 ·subst h0
  have h1:¬ Op.bytesLess a.toList a.toList = true:=by rw [dR];exact List.lt_irrefl _
  have h2:Op.bytesLess a.toList a.toList = false:=by simpa using h1
  rw [zqh,if_pos rfl,h2,Bool.false_or,beq_self_eq_true,Bool.true_and,Uz,dR]
 ·rw [if_neg (fun e=>h0 (zwx.1 e)),Uz,← dR]
  have h1:(a.toList == c.toList) = false:=beq_eq_false_iff_ne.2 (fun e=>h0 (dh.1 e))
  rw [h1,Bool.false_and,Bool.or_false]
theorem zql {α:Type} (l:List α) (P:α → Prop):(∀ x ∈ l,P x) ↔ ∀ (i:Nat) (h:i < l.length),P l[i]:=by
 constructor
 ·intro h i hi;exact h _ (List.getElem_mem hi)
 ·intro h x hx
  obtain ⟨i,hi,rfl⟩:=List.getElem_of_mem hx
  exact h i hi
theorem Wh {f:Nat → Bool} {n:Nat}:(List.range n).all f = true ↔ ∀ i,i < n → f i = true:=by
 rw [List.all_eq_true]
 exact ⟨fun h i hi=>h i (List.mem_range.2 hi),fun h i hi=>h i (List.mem_range.1 hi)⟩
theorem zkb {c:Nat → Nat → Int} {n:Nat}:Z9 c n = true ↔ ∀ i,i + 1 < n → c i (i + 1) < 0:=by
 unfold Z9
 rw [Wh]
 exact ⟨fun h i hi=>of_decide_eq_true (h i (by omega)),fun h i hi=>decide_eq_true (h i (by omega))⟩
theorem zQG (l:List ql):(List.range l.length).all (V9 (l.map kV)) = true ↔ l.any aZ = false ∧ Z9 (fun i j=>V8 (qE l (i:Int)) (qE l (j:Int))) l.length = true:=by
 rw [Wh,zkb,List.any_eq_false,zql]
 constructor
 ·intro h
  refine ⟨fun i hi=>?_,fun i hi=>?_⟩
  ·have h1:=h i hi
   unfold V9 at h1
   rw [zkY l i hi] at h1
   simp only [Bool.and_eq_true,Bool.not_eq_true'] at h1
   unfold aZ
   have e:VI l[i].f1 = Zb (kV l[i]).f1:=rfl
   rw [e,h1.2.1,Bool.or_false]
   have e2:Zi l[i].f0.data.toList = true:=h1.1
   rw [e2];simp
  ·have h1:=h (i + 1) hi
   unfold V9 at h1
   rw [zkY l (i + 1) hi,show (((i + 1:Nat):Int) - 1) = (i:Int) by omega,zkY l i (by omega),decide_eq_false (by omega:¬ i + 1 = 0),Bool.false_or] at h1
   simp only [Bool.and_eq_true] at h1
   show uM _ _ < 0
   rw [gZ l i (by omega),gZ l (i + 1) hi,Uz,← dR]
   exact h1.2.2
 ·rintro ⟨h1,h2⟩ i hi
  unfold V9
  have h3:=h1 i hi
  unfold aZ at h3
  simp only [Bool.or_eq_true,not_or,Bool.not_eq_true,Bool.not_eq_false'] at h3
  rw [zkY l i hi]
  have e2:Zi (kV l[i]).f0.data.toList = true:=h3.1
  have e3:Zb (kV l[i]).f1 = false:=h3.2
  rw [e2,e3,Bool.true_and,Bool.not_false,Bool.true_and]
  cases i with
  | zero=>rfl
  | succ m =>
   have h4:uM _ _ < 0:=h2 m hi
   rw [gZ l m (by omega),gZ l (m + 1) hi,Uz,← dR] at h4
   rw [decide_eq_false (by omega:¬ m + 1 = 0),Bool.false_or,show (((m + 1:Nat):Int) - 1) = (m:Int) by omega,zkY l m (by omega)]
   exact h4
theorem zQH (l3:List ql) (ha:Asc l3) (l:List xX):(List.range l.length).all (Vo (l3.map kV) (l.map wo)) = true ↔ l.any (zzU l3) = false ∧ Z9 (fun i j=>cmpL (qR l (i:Int)) (qR l (j:Int))) l.length = true:=by
 have hb:∀ x:xX,zzU l3 x = false ↔ Ya l3 x.f0 = true ∧ Ya l3 x.f1 = true ∧ Ya l3 x.f2 = true:=by
  intro x
  unfold zzU zzT
  rw [rO l3 ha,rO l3 ha,rO l3 ha]
  simp
 rw [Wh,zkb,List.any_eq_false,zql]
 constructor
 ·intro h
  refine ⟨fun i hi=>?_,fun i hi=>?_⟩
  ·have h1:=h i hi
   unfold Vo at h1
   rw [zkW l i hi] at h1
   simp only [Bool.and_eq_true,UC] at h1
   rw [Bool.not_eq_true]
   exact (hb l[i]).2 ⟨h1.1,h1.2.1,h1.2.2.1⟩
  ·have h1:=h (i + 1) hi
   unfold Vo at h1
   rw [zkW l (i + 1) hi,show (((i + 1:Nat):Int) - 1) = (i:Int) by omega,zkW l i (by omega),decide_eq_false (by omega:¬ i + 1 = 0),Bool.false_or] at h1
   simp only [Bool.and_eq_true] at h1
   have h2:=(tY _ _ _ _).1 h1.2.2.2
   rw [zwS l i (by omega),zwS l (i + 1) hi]
   exact h2
 ·rintro ⟨h1,h2⟩ i hi
  unfold Vo
  have h3:=(hb l[i]).1 (by simpa using h1 i hi)
  rw [zkW l i hi,UC,UC,UC]
  have e0:Ya l3 (wo l[i]).f0 = true:=h3.1
  have e1:Ya l3 (wo l[i]).f1 = true:=h3.2.1
  have e2:Ya l3 (wo l[i]).f2 = true:=h3.2.2
  rw [e0,e1,e2,Bool.true_and,Bool.true_and,Bool.true_and]
  cases i with
  | zero=>rfl
  | succ m =>
   have h4:=h2 m hi
   rw [zwS l m (by omega),zwS l (m + 1) hi] at h4
   rw [decide_eq_false (by omega:¬ m + 1 = 0),Bool.false_or,show (((m + 1:Nat):Int) - 1) = (m:Int) by omega,zkW l m (by omega)]
   exact (tY _ _ _ _).2 h4
theorem zgX (l3:List ql) (ha:Asc l3) (l:List vv):(List.range l.length).all (Vp (l3.map kV) (l.map wu)) = true ↔ l.any (aQ l3) = false ∧ Z9 (fun i j=>gy (q9 l (i:Int)) (q9 l (j:Int))) l.length = true:=by
 have hb:∀ x:vv,aQ l3 x = false ↔ Ya l3 x.f0 = true ∧ Ya l3 x.f1 = true ∧ ¬ x.f2 = 0 ∧ ¬ x.f2 < -500 ∧ ¬ 500 < x.f2:=by
  intro x
  unfold aQ zzT
  rw [rO l3 ha,rO l3 ha]
  simp only [Bool.or_eq_false_iff,decide_eq_false_iff_not,Bool.not_eq_false',List.all_cons,List.all_nil,Bool.and_true,Bool.and_eq_true]
  constructor
  ·rintro ⟨p1,p2,p3,p4,p5⟩;exact ⟨p4,p5,p1,p2,p3⟩
  ·rintro ⟨p4,p5,p1,p2,p3⟩;exact ⟨p1,p2,p3,p4,p5⟩
 rw [Wh,zkb,List.any_eq_false,zql]
 constructor
 ·intro h
  refine ⟨fun i hi=>?_,fun i hi=>?_⟩
  ·have h1:=h i hi
   unfold Vp at h1
   rw [zka l i hi] at h1
   simp only [Bool.and_eq_true,UC,Bool.not_eq_true',decide_eq_false_iff_not] at h1
   rw [Bool.not_eq_true]
   exact (hb l[i]).2 ⟨h1.1,h1.2.1,h1.2.2.1,h1.2.2.2.1,h1.2.2.2.2.1⟩
  ·have h1:=h (i + 1) hi
   unfold Vp at h1
   rw [zka l (i + 1) hi,show (((i + 1:Nat):Int) - 1) = (i:Int) by omega,zka l i (by omega),decide_eq_false (by omega:¬ i + 1 = 0),Bool.false_or] at h1
   simp only [Bool.and_eq_true] at h1
   have h2:=(tY _ _ _ _).1 h1.2.2.2.2.2
   rw [zwT l i (by omega),zwT l (i + 1) hi]
   exact h2
 ·rintro ⟨h1,h2⟩ i hi
  unfold Vp
  have h3:=(hb l[i]).1 (by simpa using h1 i hi)
  rw [zka l i hi,UC,UC]
  have e0:Ya l3 (wu l[i]).f0 = true:=h3.1
  have e1:Ya l3 (wu l[i]).f1 = true:=h3.2.1
  have e2:decide ((wu l[i]).f2 = 0) = false:=decide_eq_false h3.2.2.1
  have e3:decide ((wu l[i]).f2 < -500) = false:=decide_eq_false h3.2.2.2.1
  have e4:decide (500 < (wu l[i]).f2) = false:=decide_eq_false h3.2.2.2.2
  rw [e0,e1,e2,e3,e4,Bool.true_and,Bool.true_and,Bool.not_false,Bool.true_and,Bool.true_and,Bool.true_and]
  cases i with
  | zero=>rfl
  | succ m =>
   have h4:=h2 m hi
   rw [zwT l m (by omega),zwT l (m + 1) hi] at h4
   rw [decide_eq_false (by omega:¬ m + 1 = 0),Bool.false_or,show (((m + 1:Nat):Int) - 1) = (m:Int) by omega,zka l m (by omega)]
   exact (tY _ _ _ _).2 h4
theorem zYM (a:ByteArray) (c:Int) (l3:List ql) (l4:List xX) (l5:List vv):mY a c (l3.map kV) (l4.map wo) (l5.map wu) = vN a c l3 l4 l5:=by
 unfold mY vN
 rw [List.length_map,List.length_map,List.length_map]
 have e0:Zb c = VI c:=rfl
 by_cases h0:(!XF a.data.toList || (VI c || (decide (400 < l3.length) || (decide (50 < l4.length) || decide (500 < l5.length))))) = true
 ·rw [if_pos h0,e0]
  simp only [Bool.or_eq_true,Bool.not_eq_true',decide_eq_true_eq] at h0
  rcases h0 with h | h | h | h | h
  ·rw [h];rfl
  ·rw [h];simp
  ·simp [show ¬ l3.length ≤ 400 by omega]
  ·simp [show ¬ l4.length ≤ 50 by omega]
  ·simp [show ¬ l5.length ≤ 500 by omega]
 ·rw [if_neg h0,e0]
  simp only [Bool.or_eq_true,Bool.not_eq_true',decide_eq_true_eq,not_or,Bool.not_eq_false,Bool.not_eq_true] at h0
  rw [h0.1,h0.2.1,decide_eq_true (by omega:l3.length ≤ 400),decide_eq_true (by omega:l4.length ≤ 50),decide_eq_true (by omega:l5.length ≤ 500),Bool.not_false,Bool.true_and,Bool.true_and,Bool.true_and,Bool.true_and,Bool.true_and]
  by_cases h1:(l3.any aZ || !Z9 (fun i j=>V8 (qE l3 (i:Int)) (qE l3 (j:Int))) l3.length) = true
  ·rw [if_pos h1]
   have:¬ (List.range l3.length).all (V9 (l3.map kV)) = true:=by
    rw [zQG]
    rintro ⟨p,q⟩
    rw [p,q] at h1;cases h1
   rw [Bool.not_eq_true] at this
   rw [this,Bool.false_and]
  ·rw [if_neg h1]
   simp only [Bool.or_eq_true,Bool.not_eq_true',not_or,Bool.not_eq_true,Bool.not_eq_false] at h1
   rw [(zQG l3).2 h1,Bool.true_and]
   have ha:=za2 h1.2
   by_cases h2:(l4.any (zzU l3) || !Z9 (fun i j=>cmpL (qR l4 (i:Int)) (qR l4 (j:Int))) l4.length) = true
   ·rw [if_pos h2]
    have:¬ (List.range l4.length).all (Vo (l3.map kV) (l4.map wo)) = true:=by
     rw [zQH l3 ha]
     rintro ⟨p,q⟩
     rw [p,q] at h2;cases h2
    rw [Bool.not_eq_true] at this
    rw [this,Bool.false_and]
   ·rw [if_neg h2]
    simp only [Bool.or_eq_true,Bool.not_eq_true',not_or,Bool.not_eq_true,Bool.not_eq_false] at h2
    rw [(zQH l3 ha l4).2 h2,Bool.true_and,Bool.eq_iff_iff,zgX l3 ha l5,Bool.and_eq_true,Bool.not_eq_true']
end Go.Proofs.YtggifbbiiickmaaGreatDoor
namespace Go.Proofs.YtggifbbiiickmaaGreatDoor.PX
open Go.RowKit Go.Proofs.zk.zu Go.Proofs.zk.yD Go.Proofs.zk.yA
attribute [local go_sem] xP xR vG vH xB xC xS xU   -- for this text's walks alone
set_option linter.unusedVariables false
set_option linter.unusedSimpArgs false
def pI.f (a0:Int) (a1:Int):Option (Int):=if a1 = 0 then (none) else (if (Int.tmod a0 a1) < 0 then (some (wrap64 ((wrap64 (Int.tdiv a0 a1)) - 1))) else (some (wrap64 (Int.tdiv a0 a1))))
set_option maxHeartbeats 8000000 in
set_option maxRecDepth 100000 in
theorem pI.calls (a0:Int) (a1:Int) (r:Int) (w:World) (h:pI.f a0 a1 = some r) :
  Calls Tryz.prog 149 #[.int .i64 a0,.int .i64 a1] w fun e w'=>e = .returned (.int .i64 r) ∧ yt w w':=by
 have H:(if a1 = 0 then (none) else (if (Int.tmod a0 a1) < 0 then (some (wrap64 ((wrap64 (Int.tdiv a0 a1)) - 1))) else (some (wrap64 (Int.tdiv a0 a1))))) = some r:=h
 clear h
 by_cases c3:a1 = 0
 ·rw [if_pos c3] at H
  exact absurd H (by simp)
 ·rw [if_neg c3] at H
  have ZR:(a1 == 0) = false:=beq_eq_false_iff_ne.mpr c3
  have zqm:(a1 != 0) = true:=bne_iff_ne.mpr c3
  by_cases c4:(Int.tmod a0 a1) < 0
  ·rw [if_pos c4] at H
   have Z8:decide ((Int.tmod a0 a1) < 0) = true:=decide_eq_true c4
   clear c4
   obtain rfl:=Option.some.inj H
   go_enter Tryz.func149,Tryz.ntmps149
   go_wp2
   go_ret
   exact ⟨by first | rfl | (simp;done) | (simp [*];done),by repeat (first | exact yt.refl _ | apply yt.step)⟩
  ·rw [if_neg c4] at H
   have Z8:decide ((Int.tmod a0 a1) < 0) = false:=decide_eq_false c4
   clear c4
   obtain rfl:=Option.some.inj H
   go_enter Tryz.func149,Tryz.ntmps149
   go_wp2
   go_ret
   exact ⟨by first | rfl | (simp;done) | (simp [*];done),by repeat (first | exact yt.refl _ | apply yt.step)⟩
def kY.f (a0:Int) (a1:Int):Option (Int):=(pI.f (wrap64 ((wrap64 (10 * a1)) * a0)) 1000).bind fun t156=>(some t156)
set_option maxHeartbeats 8000000 in
set_option maxRecDepth 100000 in
theorem kY.calls (a0:Int) (a1:Int) (r:Int) (w:World) (h:kY.f a0 a1 = some r) :
  Calls Tryz.prog 122 #[.int .i64 a0,.int .i64 a1] w fun e w'=>e = .returned (.int .i64 r) ∧ yt w w':=by
 have H:((pI.f (wrap64 ((wrap64 (10 * a1)) * a0)) 1000).bind fun t156=>(some t156)) = some r:=h
 clear h
 replace H:=Option.bind_eq_some_iff.mp H
 obtain ⟨t156,A30,H⟩:=H
 replace H:(some t156) = some r:=H
 have A3:=zx.mk A30
 clear A30
 obtain rfl:=Option.some.inj H
 go_enter Tryz.func122,Tryz.ntmps122
 go_wp2_with (first | ((with_reducible refine yE (f:=149) rfl ?_);refine jg (some 9) Tryz.func149 #[.int .i64 (wrap64 ((wrap64 (10 * a1)) * a0)),.int .i64 1000] ?_;(with_reducible refine (pI.calls (wrap64 ((wrap64 (10 * a1)) * a0)) 1000 t156 _ A3.out).mono ?_);rintro e w' ⟨rfl,⟨nd,rfl⟩⟩;refine ⟨_,rfl,?_⟩))
 go_ret
 exact ⟨by first | rfl | (simp;done) | (simp [*];done),by repeat (first | exact yt.refl _ | apply yt.step)⟩
end Go.Proofs.YtggifbbiiickmaaGreatDoor.PX
