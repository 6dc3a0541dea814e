/-
  Texts that lean on one another, laid in one file. No condition.
-/
import Derived.Test.YtggifbbiiickmaaGreatDoorGWD1
import Derived.IntWalk
import Derived.Outline
import Derived.Lib.Hide
import Derived.StillTailTactics
import Derived.StillTactics
import Derived.Deep.RegionHeld3
import Derived.Shelf.SlicesQ.IndexFunc
import Derived.Deep.QuietTactic
import Derived.BigQuiet
import Derived.RangeFuncRecord
import Derived.Laws.EntriesVeiled
import Derived.Sort.Walk0
import Derived.WalkKit
import Derived.WalkSpells
import Derived.WalkLawsBesides
import Derived.Deep.DeepCutAuto
namespace Go.Proofs.YtggifbbiiickmaaGreatDoor.PX
open Go.RowKit Go.Proofs.zx.zJ Go.Proofs.zx.zu Go.Proofs.zx.zo
attribute [local go_sem] yU y7 qX qJ yM yN y8 y9   -- for this text's walks alone
set_option linter.unusedVariables false
set_option linter.unusedSimpArgs false
def YN.f  : Option ((List (qW))):=some (([(⟨(⟨#[102]⟩:ByteArray),(⟨#[102]⟩:ByteArray),(⟨#[102,102]⟩:ByteArray)⟩:qW),(⟨(⟨#[102]⟩:ByteArray),(⟨#[105]⟩:ByteArray),(⟨#[102,105]⟩:ByteArray)⟩:qW),(⟨(⟨#[102]⟩:ByteArray),(⟨#[108]⟩:ByteArray),(⟨#[102,108]⟩:ByteArray)⟩:qW)]:List (qW)))
set_option maxHeartbeats 8000000 in
set_option maxRecDepth 100000 in
theorem YN.calls  (r:List (qW)) (w:World) (h:YN.f  = some r) :
  Calls Tryz.prog 56 #[] w fun e w'=>∃ U5:Value,e = .returned (U5) ∧ Kd.R jg 108 w' w.heap.size (fun _=>True) U5 r ∧ Below w.heap.size w w':=by
 have zos:=Tryz.underlying108
 have HB:=zk.mk (Below.refl w.heap.size w)
 have H:(some (([(⟨(⟨#[102]⟩:ByteArray),(⟨#[102]⟩:ByteArray),(⟨#[102,102]⟩:ByteArray)⟩:qW),(⟨(⟨#[102]⟩:ByteArray),(⟨#[105]⟩:ByteArray),(⟨#[102,105]⟩:ByteArray)⟩:qW),(⟨(⟨#[102]⟩:ByteArray),(⟨#[108]⟩:ByteArray),(⟨#[102,108]⟩:ByteArray)⟩:qW)]:List (qW)))) = some r:=h
 clear h
 obtain ⟨zf1,oW⟩:∃ y_:List (qW),y_ = (([(⟨(⟨#[102]⟩:ByteArray),(⟨#[102]⟩:ByteArray),(⟨#[102,102]⟩:ByteArray)⟩:qW),(⟨(⟨#[102]⟩:ByteArray),(⟨#[105]⟩:ByteArray),(⟨#[102,105]⟩:ByteArray)⟩:qW),(⟨(⟨#[102]⟩:ByteArray),(⟨#[108]⟩:ByteArray),(⟨#[102,108]⟩:ByteArray)⟩:qW)]:List (qW))):=⟨_,rfl⟩
 replace H:(some zf1) = some r:=by first | (rw [oW];with_reducible exact H) | (have Vd:=(Option.bind_some _ _).symm.trans H;rw [oW];with_reducible exact Vd) | (have Vd:=(Option.bind_some _ _).symm.trans H;with_reducible exact Vd) | with_reducible exact H | (rw [oW];exact H) | exact H
 have zWx:=zk.mk oW
 clear oW
 obtain rfl:=Option.some.inj H
 go_enter Tryz.func56,Tryz.ntmps56
 go_wp2_with (first | ((with_reducible refine qY (N:=4) rfl ?_);refine Kd.WQ jg _ 108 ?hg (N:=4) ?hd (xs:=([(⟨(⟨#[102]⟩:ByteArray),(⟨#[102]⟩:ByteArray),(⟨#[102,102]⟩:ByteArray)⟩:qW),(⟨(⟨#[102]⟩:ByteArray),(⟨#[105]⟩:ByteArray),(⟨#[102,105]⟩:ByteArray)⟩:qW),(⟨(⟨#[102]⟩:ByteArray),(⟨#[108]⟩:ByteArray),(⟨#[102,108]⟩:ByteArray)⟩:qW)]:List (qW))) (inner:=[.string (⟨#[102]⟩:ByteArray),.string (⟨#[102]⟩:ByteArray),.string (⟨#[102,102]⟩:ByteArray),.string (⟨#[102]⟩:ByteArray),.string (⟨#[105]⟩:ByteArray),.string (⟨#[102,105]⟩:ByteArray),.string (⟨#[102]⟩:ByteArray),.string (⟨#[108]⟩:ByteArray),.string (⟨#[102,108]⟩:ByteArray)]) (ok:=fun _=>True) (xU:=fun _=>True) ?hr ?hp (fun _ hk=>hk) trivial (Below.refl _ _) (Nat.le_refl _) (by simp) ?_;(case hd=>rfl);(case hg=>rfl);(case hr=>first | (go_simp;done) | (go_simp;rfl));(case hp=>exact (qx.c3 (show Kd.M jg _ _ _ (⟨(⟨#[102]⟩:ByteArray),(⟨#[102]⟩:ByteArray),(⟨#[102,102]⟩:ByteArray)⟩:qW) [.string (⟨#[102]⟩:ByteArray),.string (⟨#[102]⟩:ByteArray),.string (⟨#[102,102]⟩:ByteArray)] from (eX _ _ _ (⟨(⟨#[102]⟩:ByteArray),(⟨#[102]⟩:ByteArray),(⟨#[102,102]⟩:ByteArray)⟩:qW) )) (qx.c3 (show Kd.M jg _ _ _ (⟨(⟨#[102]⟩:ByteArray),(⟨#[105]⟩:ByteArray),(⟨#[102,105]⟩:ByteArray)⟩:qW) [.string (⟨#[102]⟩:ByteArray),.string (⟨#[105]⟩:ByteArray),.string (⟨#[102,105]⟩:ByteArray)] from (eX _ _ _ (⟨(⟨#[102]⟩:ByteArray),(⟨#[105]⟩:ByteArray),(⟨#[102,105]⟩:ByteArray)⟩:qW) )) (qx.c3 (show Kd.M jg _ _ _ (⟨(⟨#[102]⟩:ByteArray),(⟨#[108]⟩:ByteArray),(⟨#[102,108]⟩:ByteArray)⟩:qW) [.string (⟨#[102]⟩:ByteArray),.string (⟨#[108]⟩:ByteArray),.string (⟨#[102,108]⟩:ByteArray)] from (eX _ _ _ (⟨(⟨#[102]⟩:ByteArray),(⟨#[108]⟩:ByteArray),(⟨#[102,108]⟩:ByteArray)⟩:qW) )) (qx.none _ _)))));intro zpf w1 ho2 hb oh Jr;clear oh Jr;(first | rw [← zWx.out] at ho2 | (simp only [Int.reduceToNat] at ho2;rw [← zWx.out] at ho2));have zh:=zk.mk (Kd.uH ho2 (zI (zM HB.out)));have zG:=zk.mk (zF (zM HB.out) hb);clear HB;have zdO:=zh;have HB:=zG;clear zh zG;clear hb ho2))
 go_ret
 exact ⟨_,by first | rfl | (simp [zl,zm] <;> rfl) | (simp [*,zl,zm] <;> rfl),by (with_reducible repeat (first | apply Kd.zk7 | apply Kd.zk8 | apply Kd.lF));exact zdO.out,by repeat (first | (with_reducible first | exact HB.out | apply zO | apply zC | apply zP) | exact HB.out)⟩
def cmp_isNaN_string.f (a0:ByteArray):Option (Bool):=some (a0.toList != a0.toList)
set_option maxHeartbeats 8000000 in
set_option maxRecDepth 100000 in
theorem cmp_isNaN_string.calls (a0:ByteArray) (r:Bool) (w:World) (h:cmp_isNaN_string.f a0 = some r) :
  Calls Tryz.prog 132 #[.string a0] w fun e w'=>e = .returned (.bool r) ∧ zL w w':=by
 have H:(some (a0.toList != a0.toList)) = some r:=h
 clear h
 obtain rfl:=Option.some.inj H
 go_enter Tryz.func132,Tryz.ntmps132
 go_wp2
 go_ret
 exact ⟨by first | rfl | (simp;done) | (simp [*];done),by repeat (first | exact zL.refl _ | apply zL.step)⟩
def xP.f (a0:ByteArray) (a1:ByteArray):Option (Int):=(cmp_isNaN_string.f a0).bind fun eY=>((cmp_isNaN_string.f a1).bind fun X8=>(if eY = true then (if X8 = true then (some 0) else (some (-1))) else (if X8 = true then (some 1) else (if (Op.bytesLess a0.toList a1.toList) = true then (some (-1)) else (if (Op.bytesLess a1.toList a0.toList) = true then (some 1) else (some 0))))))
set_option maxHeartbeats 8000000 in
set_option maxRecDepth 100000 in
theorem xP.calls (a0:ByteArray) (a1:ByteArray) (r:Int) (w:World) (h:xP.f a0 a1 = some r) :
  Calls Tryz.prog 91 #[.string a0,.string a1] w fun e w'=>e = .returned (.int .i64 r) ∧ zL w w':=by
 have H:((cmp_isNaN_string.f a0).bind fun eY=>((cmp_isNaN_string.f a1).bind fun X8=>(if eY = true then (if X8 = true then (some 0) else (some (-1))) else (if X8 = true then (some 1) else (if (Op.bytesLess a0.toList a1.toList) = true then (some (-1)) else (if (Op.bytesLess a1.toList a0.toList) = true then (some 1) else (some 0))))))) = some r:=h
 clear h
 replace H:=Option.bind_eq_some_iff.mp H
 obtain ⟨eY,nZ,H⟩:=H
 replace H:((cmp_isNaN_string.f a1).bind fun X8=>(if eY = true then (if X8 = true then (some 0) else (some (-1))) else (if X8 = true then (some 1) else (if (Op.bytesLess a0.toList a1.toList) = true then (some (-1)) else (if (Op.bytesLess a1.toList a0.toList) = true then (some 1) else (some 0)))))) = some r:=H
 have A3:=zk.mk nZ
 clear nZ
 replace H:=Option.bind_eq_some_iff.mp H
 obtain ⟨X8,nQ,H⟩:=H
 replace H:(if eY = true then (if X8 = true then (some 0) else (some (-1))) else (if X8 = true then (some 1) else (if (Op.bytesLess a0.toList a1.toList) = true then (some (-1)) else (if (Op.bytesLess a1.toList a0.toList) = true then (some 1) else (some 0))))) = some r:=H
 have A4:=zk.mk nQ
 clear nQ
 by_cases c5:eY = true
 ·subst c5
  have H1:(if X8 = true then (some 0) else (some (-1))) = some r:=by rw [if_pos rfl] at H;exact H
  clear H
  have H:=H1
  clear H1
  by_cases c6:X8 = true
  ·subst c6
   have H1:(some 0) = some r:=by rw [if_pos rfl] at H;exact H
   clear H
   have H:=H1
   clear H1
   obtain rfl:=Option.some.inj H
   go_enter Tryz.func91,Tryz.ntmps91
   go_wp2_with (first | ((with_reducible refine yw (f:=132) rfl ?_);refine vR (some 8) Tryz.func132 #[.string a0] ?_;(with_reducible refine (cmp_isNaN_string.calls a0 true _ A3.out).mono ?_);rintro e w' ⟨rfl,⟨nd,rfl⟩⟩;refine ⟨_,rfl,?_⟩) | ((with_reducible refine yw (f:=132) rfl ?_);refine vR (some 10) Tryz.func132 #[.string a1] ?_;(with_reducible refine (cmp_isNaN_string.calls a1 true _ A4.out).mono ?_);rintro e w' ⟨rfl,⟨nd,rfl⟩⟩;refine ⟨_,rfl,?_⟩))
   go_ret
   exact ⟨by first | rfl | (simp;done) | (simp [*];done),by repeat (first | exact zL.refl _ | apply zL.step)⟩
  ·replace c6:=Bool.eq_false_iff.mpr c6
   subst c6
   have H1:(some (-1)) = some r:=by rw [if_neg (show ¬ (false = true) by decide)] at H;exact H
   clear H
   have H:=H1
   clear H1
   obtain rfl:=Option.some.inj H
   go_enter Tryz.func91,Tryz.ntmps91
   go_wp2_with (first | ((with_reducible refine yw (f:=132) rfl ?_);refine vR (some 8) Tryz.func132 #[.string a0] ?_;(with_reducible refine (cmp_isNaN_string.calls a0 true _ A3.out).mono ?_);rintro e w' ⟨rfl,⟨nd,rfl⟩⟩;refine ⟨_,rfl,?_⟩) | ((with_reducible refine yw (f:=132) rfl ?_);refine vR (some 10) Tryz.func132 #[.string a1] ?_;(with_reducible refine (cmp_isNaN_string.calls a1 false _ A4.out).mono ?_);rintro e w' ⟨rfl,⟨nd,rfl⟩⟩;refine ⟨_,rfl,?_⟩))
   go_ret
   exact ⟨by first | rfl | (simp;done) | (simp [*];done),by repeat (first | exact zL.refl _ | apply zL.step)⟩
 ·replace c5:=Bool.eq_false_iff.mpr c5
  subst c5
  have H1:(if X8 = true then (some 1) else (if (Op.bytesLess a0.toList a1.toList) = true then (some (-1)) else (if (Op.bytesLess a1.toList a0.toList) = true then (some 1) else (some 0)))) = some r:=by rw [if_neg (show ¬ (false = true) by decide)] at H;exact H
  clear H
  have H:=H1
  clear H1
  by_cases c7:X8 = true
  ·subst c7
   have H1:(some 1) = some r:=by rw [if_pos rfl] at H;exact H
   clear H
   have H:=H1
   clear H1
   obtain rfl:=Option.some.inj H
   go_enter Tryz.func91,Tryz.ntmps91
   go_wp2_with (first | ((with_reducible refine yw (f:=132) rfl ?_);refine vR (some 8) Tryz.func132 #[.string a0] ?_;(with_reducible refine (cmp_isNaN_string.calls a0 false _ A3.out).mono ?_);rintro e w' ⟨rfl,⟨nd,rfl⟩⟩;refine ⟨_,rfl,?_⟩) | ((with_reducible refine yw (f:=132) rfl ?_);refine vR (some 10) Tryz.func132 #[.string a1] ?_;(with_reducible refine (cmp_isNaN_string.calls a1 true _ A4.out).mono ?_);rintro e w' ⟨rfl,⟨nd,rfl⟩⟩;refine ⟨_,rfl,?_⟩))
   go_ret
   exact ⟨by first | rfl | (simp;done) | (simp [*];done),by repeat (first | exact zL.refl _ | apply zL.step)⟩
  ·replace c7:=Bool.eq_false_iff.mpr c7
   subst c7
   have H1:(if (Op.bytesLess a0.toList a1.toList) = true then (some (-1)) else (if (Op.bytesLess a1.toList a0.toList) = true then (some 1) else (some 0))) = some r:=by rw [if_neg (show ¬ (false = true) by decide)] at H;exact H
   clear H
   have H:=H1
   clear H1
   by_cases c8:(Op.bytesLess a0.toList a1.toList) = true
   ·rw [if_pos c8] at H
    have Z8:(Op.bytesLess a0.toList a1.toList) = true:=c8
    have zf2:(!(Op.bytesLess a1.toList a0.toList || a1.toList == a0.toList)) = true:=(sK _ _).trans (c8)
    have zf3:(a0.toList == a1.toList) = false:=zWq (c8)
    have zf4:(a1.toList == a0.toList) = false:=zJ3 (c8)
    have zpg:Op.bytesLess a1.toList a0.toList = false:=zyv (c8)
    clear c8
    obtain rfl:=Option.some.inj H
    go_enter Tryz.func91,Tryz.ntmps91
    go_wp2_with (first | ((with_reducible refine yw (f:=132) rfl ?_);refine vR (some 8) Tryz.func132 #[.string a0] ?_;(with_reducible refine (cmp_isNaN_string.calls a0 false _ A3.out).mono ?_);rintro e w' ⟨rfl,⟨nd,rfl⟩⟩;refine ⟨_,rfl,?_⟩) | ((with_reducible refine yw (f:=132) rfl ?_);refine vR (some 10) Tryz.func132 #[.string a1] ?_;(with_reducible refine (cmp_isNaN_string.calls a1 false _ A4.out).mono ?_);rintro e w' ⟨rfl,⟨nd,rfl⟩⟩;refine ⟨_,rfl,?_⟩))
    go_ret
    exact ⟨by first | rfl | (simp;done) | (simp [*];done),by repeat (first | exact zL.refl _ | apply zL.step)⟩
   ·rw [if_neg c8] at H
    have Z8:(Op.bytesLess a0.toList a1.toList) = false:=by simpa using c8
    have zf2:(!(Op.bytesLess a1.toList a0.toList || a1.toList == a0.toList)) = false:=(sK _ _).trans (by simpa using c8)
    try have zf3:(a0.toList == a1.toList) = true:=zvZ (x:=a0.toList) (y:=a1.toList) (by assumption) (by assumption)
    try have zf4:(a1.toList == a0.toList) = true:=zvZ (x:=a1.toList) (y:=a0.toList) (by assumption) (by assumption)
    clear c8
    by_cases c9:(Op.bytesLess a1.toList a0.toList) = true
    ·rw [if_pos c9] at H
     have eB:(Op.bytesLess a1.toList a0.toList) = true:=c9
     have zf5:(!(Op.bytesLess a0.toList a1.toList || a0.toList == a1.toList)) = true:=(sK _ _).trans (c9)
     have zf6:(a1.toList == a0.toList) = false:=zWq (c9)
     have zf7:(a0.toList == a1.toList) = false:=zJ3 (c9)
     have zph:Op.bytesLess a0.toList a1.toList = false:=zyv (c9)
     clear c9
     obtain rfl:=Option.some.inj H
     go_enter Tryz.func91,Tryz.ntmps91
     go_wp2_with (first | ((with_reducible refine yw (f:=132) rfl ?_);refine vR (some 8) Tryz.func132 #[.string a0] ?_;(with_reducible refine (cmp_isNaN_string.calls a0 false _ A3.out).mono ?_);rintro e w' ⟨rfl,⟨nd,rfl⟩⟩;refine ⟨_,rfl,?_⟩) | ((with_reducible refine yw (f:=132) rfl ?_);refine vR (some 10) Tryz.func132 #[.string a1] ?_;(with_reducible refine (cmp_isNaN_string.calls a1 false _ A4.out).mono ?_);rintro e w' ⟨rfl,⟨nd,rfl⟩⟩;refine ⟨_,rfl,?_⟩))
     go_ret
     exact ⟨by first | rfl | (simp;done) | (simp [*];done),by repeat (first | exact zL.refl _ | apply zL.step)⟩
    ·rw [if_neg c9] at H
     have eB:(Op.bytesLess a1.toList a0.toList) = false:=by simpa using c9
     have zf5:(!(Op.bytesLess a0.toList a1.toList || a0.toList == a1.toList)) = false:=(sK _ _).trans (by simpa using c9)
     try have zf6:(a1.toList == a0.toList) = true:=zvZ (x:=a1.toList) (y:=a0.toList) (by assumption) (by assumption)
     try have zf7:(a0.toList == a1.toList) = true:=zvZ (x:=a0.toList) (y:=a1.toList) (by assumption) (by assumption)
     clear c9
     obtain rfl:=Option.some.inj H
     go_enter Tryz.func91,Tryz.ntmps91
     go_wp2_with (first | ((with_reducible refine yw (f:=132) rfl ?_);refine vR (some 8) Tryz.func132 #[.string a0] ?_;(with_reducible refine (cmp_isNaN_string.calls a0 false _ A3.out).mono ?_);rintro e w' ⟨rfl,⟨nd,rfl⟩⟩;refine ⟨_,rfl,?_⟩) | ((with_reducible refine yw (f:=132) rfl ?_);refine vR (some 10) Tryz.func132 #[.string a1] ?_;(with_reducible refine (cmp_isNaN_string.calls a1 false _ A4.out).mono ?_);rintro e w' ⟨rfl,⟨nd,rfl⟩⟩;refine ⟨_,rfl,?_⟩))
     go_ret
     exact ⟨by first | rfl | (simp;done) | (simp [*];done),by repeat (first | exact zL.refl _ | apply zL.step)⟩
end Go.Proofs.YtggifbbiiickmaaGreatDoor.PX
namespace Go.Proofs.YtggifbbiiickmaaGreatDoor
open Go.RowKit Go.Shelf Go.Proofs.zx.zJ Go.Proofs.zx.zo Go.Proofs.YtggifbbiiickmaaGreatDoor.PX
def xE (a b:ByteArray):Int:=if Op.bytesLess a.toList b.toList = true then -1 else if Op.bytesLess b.toList a.toList = true then 1 else 0
theorem Qg (a b:ByteArray):xP.f a b = some (xE a b):=by
 have e1:cmp_isNaN_string.f a = some false:=by unfold cmp_isNaN_string.f;simp
 have e2:cmp_isNaN_string.f b = some false:=by unfold cmp_isNaN_string.f;simp
 unfold xP.f xE
 rw [e1,e2]
 simp only [Option.bind_some,Bool.false_eq_true,if_false]
 by_cases h1:Op.bytesLess a.toList b.toList = true
 ·rw [if_pos h1,if_pos h1]
 ·rw [if_neg h1,if_neg h1]
  by_cases h2:Op.bytesLess b.toList a.toList = true
  ·rw [if_pos h2,if_pos h2]
  ·rw [if_neg h2,if_neg h2]
theorem fQ (a b:ByteArray) (w:World):Calls Tryz.prog 91 #[.string a,.string b] w fun e w'=>e = .returned (.int .i64 (xE a b)) ∧ Below w.heap.size w w' :=
 (xP.calls a b _ w (Qg a b)).mono fun e w' ⟨h1,n,h2⟩=>⟨h1,by rw [h2];exact ⟨rfl,rfl,rfl,Nat.le_refl _,fun _ _=>rfl⟩⟩
def U6 (l:List yT) (n:ByteArray) (i j:Nat):Nat :=
 if h:i < j then
  if xE (qb l (((i + j) / 2:Nat):Int)).f0 n < 0 then U6 l n ((i + j) / 2 + 1) j else U6 l n i ((i + j) / 2)
 else i
termination_by j - i
def YO (l:List yT) (n:ByteArray):Int × Bool :=
 let i:=U6 l n 0 l.length
 ((i:Int),decide (i < l.length) && decide (xE (qb l (i:Int)).f0 n = 0))
set_option maxRecDepth 100000 in
theorem fJ (a:ByteArray) (v:Int) (n:ByteArray) (w:World) :
  Calls Tryz.prog 119 #[.agg #[.string a,.int .i64 v],.string n] w fun e w'=>e = .returned (.int .i64 (xE a n)) ∧ Below w.heap.size w w':=by
 have hb0:Below w.heap.size w (w.alloc (.cells #[.string a,.int .i64 v] 105)):=(Below.refl _ w).alloc (Nat.le_refl _) _
 have hc:=fQ a n (w.alloc (.cells #[.string a,.int .i64 v] 105))
 generalize xE a n = r at hc ⊢
 go_enter Tryz.func119,Tryz.ntmps119
 go_wp2_with (go_at_call 91;refine hc.mono ?_;rintro e w2 ⟨rfl,hb2⟩)
 go_ret
 exact ⟨rfl,hb0.trans (hb2.mono (by simp))⟩
set_option maxRecDepth 100000 in
set_option maxHeartbeats 1000000 in
theorem zXi (A0:Option Addr) (c0:Nat) (l:List yT) (n:ByteArray) (w:World) (hr:Kd.C vk w A0 l.length l) (hl:l.length ≤ 1000000000) :
  Calls Tryz.prog 118 #[.slice A0 l.length c0,.string n,.func (.func 119) #[] #[]] w fun e w'=>e = .returned (.tuple #[.int .i64 (YO l n).1,.bool (YO l n).2]) ∧ Below w.heap.size w w':=by
 have hfv:YO l n = ((U6 l n 0 l.length:Int),decide (U6 l n 0 l.length < l.length) && decide (xE (qb l (U6 l n 0 l.length:Int)).f0 n = 0)):=rfl
 generalize YO l n = V at hfv ⊢
 have HFV:=Lib.hid hfv
 clear hfv
 go_enter Tryz.func118,Tryz.ntmps118
 go_wp2
 go_loopw [9,10] (fun x y wr=>∃ i j:Nat,x = .int .i64 i ∧ y = .int .i64 j ∧ i ≤ j ∧ j ≤ l.length ∧ Hid (U6 l n i j = U6 l n 0 l.length) ∧ Below w.heap.size w wr) (fun x y _=>((intOf y) - (intOf x)).toNat)
 case atStart=>exact ⟨0,l.length,rfl,rfl,Nat.zero_le _,Nat.le_refl _,Lib.hid rfl,Below.refl _ _⟩
 case round =>
  obtain ⟨i,j,rfl,rfl,hij,hj,HB,hb⟩:=hrel
  by_cases hlt:i < j
  ·have hm:(i + j) / 2 < l.length:=by omega
   have hst:=HB.out
   rw [U6,dif_pos hlt] at hst
   have hC:=Kd.za hr hb
   obtain ⟨ad,e,h0,h1⟩:=PV hC (((i + j) / 2:Nat):Int) (by omega) (by omega)
   cases e
   rw [Int.toNat_natCast] at h0 h1
   generalize qb l (((i + j) / 2:Nat):Int) = g at h0 h1 hst
   have hcm:=fJ g.f0 g.f1 n wr
   generalize xE g.f0 n = r at hcm hst
   have HS:=Lib.hid hst
   have e1:IntKind.i64.wrap ((i:Int) + (j:Int)) = (i:Int) + (j:Int):=IntWalk.i64_in _ (by omega)
   clear hst HB hC hr
   by_cases hr0:r < 0
   ·have d1:decide (r < 0) = true:=decide_eq_true hr0
    rw [if_pos hr0] at HS
    clear hr0
    go_wp2_with fail
    refine hcm.mono ?_;rintro e w2 ⟨rfl,hb2⟩
    go_wp2
    go_roundw
    case rel=>exact ⟨(i + j) / 2 + 1,j,by go_num,rfl,by omega,hj,HS,hb.trans (hb2.mono hb.size)⟩
    case measure=>simp [intOf];omega
   ·have d1:decide (r < 0) = false:=decide_eq_false hr0
    rw [if_neg hr0] at HS
    clear hr0
    go_wp2_with fail
    refine hcm.mono ?_;rintro e w2 ⟨rfl,hb2⟩
    go_wp2
    go_roundw
    case rel=>exact ⟨i,(i + j) / 2,rfl,by go_num,by omega,by omega,HS,hb.trans (hb2.mono hb.size)⟩
    case measure=>simp [intOf];omega
  ·obtain rfl:i = j:=by omega
   have hst:=HB.out
   rw [U6,dif_neg (by omega)] at hst
   by_cases hi:i < l.length
   ·have hC:=Kd.za hr hb
    obtain ⟨ad,e,h0,h1⟩:=PV hC (i:Int) (by omega) (by omega)
    cases e
    rw [Int.toNat_natCast] at h0 h1
    have hval:V = ((i:Int),decide (i < l.length) && decide (xE (qb l (i:Int)).f0 n = 0)):=by rw [HFV.out,← hst]
    rw [decide_eq_true hi,Bool.true_and] at hval
    generalize qb l (i:Int) = g at h0 h1 hval
    have hcm:=fJ g.f0 g.f1 n wr
    have hd:(xE g.f0 n == 0) = decide (xE g.f0 n = 0):=rfl
    generalize xE g.f0 n = r at hcm hd hval
    have HV:=Lib.hid hval
    have q2:(i:Int) < (l.length:Int):=by omega
    clear hst HB hC hr hval
    cases hz:decide (r = 0) with
    | true =>
     rw [hz] at hd HV
     clear hz
     go_wp2_with fail
     refine hcm.mono ?_;rintro e w2 ⟨rfl,hb2⟩
     go_wp2
     go_ret2
     exact ⟨by rw [HV.out];rfl,hb.trans (hb2.mono hb.size)⟩
    | false =>
     rw [hz] at hd HV
     clear hz
     go_wp2_with fail
     refine hcm.mono ?_;rintro e w2 ⟨rfl,hb2⟩
     go_wp2
     go_ret2
     exact ⟨by rw [HV.out];rfl,hb.trans (hb2.mono hb.size)⟩
   ·have q1:decide (i < l.length) = false:=decide_eq_false hi
    have hval:V = ((i:Int),false):=by rw [HFV.out,← hst,q1,Bool.false_and]
    have HV:=Lib.hid hval
    have q2:¬ (i:Int) < (l.length:Int):=by omega
    have q3:decide ((i:Int) < (l.length:Int)) = false:=decide_eq_false q2
    clear hst HB hr hval q1
    go_wp2
    go_ret2
    exact ⟨by rw [HV.out];rfl,hb⟩
def jG.f (_:ByteArray) (_:Bool) (_:Int) (yZ:List yT) (_:List qW) (_:List qM) (a1:ByteArray):Option (Int × Bool):=if yZ.length ≤ 1000000000 then some (YO yZ a1) else none
set_option maxRecDepth 100000 in
theorem jG.calls (ze:ByteArray) (zn:Bool) (zi:Int) (qB:Option Addr) (qC:Nat) (yZ:List yT) (qF:Option Addr) (qG:Nat) (yB:List qW) (qH:Option Addr) (qI:Nat) (yC:List qM) (a1:ByteArray) (r1:Int) (r2:Bool) (w:World) (wP:Kd.C vk w qB yZ.length yZ) (_:yZ.length ≤ qC) (_:Kd.C jg w qF yB.length yB) (_:yB.length ≤ qG) (_:Kd.C jE w qH yC.length yC) (_:yC.length ≤ qI) (_:GW w) (h:jG.f ze zn zi yZ yB yC a1 = some (r1,r2)) :
  Calls Tryz.prog 64 #[.agg #[.string ze,.bool zn,.int .i64 zi,.slice qB yZ.length qC,.slice qF yB.length qG,.slice qH yC.length qI],.string a1] w fun e w'=>e = .returned (.tuple #[.int .i64 r1,.bool r2]) ∧ Below w.heap.size w w':=by
 unfold jG.f at h
 split at h
 ·rename_i hl
  have he:=Option.some.inj h
  have hb0:Below w.heap.size w (w.alloc (.cells #[.string ze,.bool zn,.int .i64 zi,.slice qB yZ.length qC,.slice qF yB.length qG,.slice qH yC.length qI] 60)):=(Below.refl _ w).alloc (Nat.le_refl _) _
  have hs:=zXi qB qC yZ a1 _ (Kd.za wP hb0) hl
  rw [he] at hs
  clear he h hl wP
  go_enter Tryz.func64,Tryz.ntmps64
  go_wp2_with fail
  refine hs.mono ?_;rintro e w2 ⟨rfl,hb2⟩
  go_wp2
  go_ret2
  exact ⟨rfl,hb0.trans (hb2.mono (by simp))⟩
 ·cases h
end Go.Proofs.YtggifbbiiickmaaGreatDoor
namespace Go.Proofs.YtggifbbiiickmaaGreatDoor.PX
open Go.RowKit Go.Proofs.zx.zJ Go.Proofs.zx.zu Go.Proofs.zx.zo
attribute [local go_sem] yU y7 qX qJ yM yN y8 y9   -- for this text's walks alone
set_option linter.unusedVariables false
set_option linter.unusedSimpArgs false
def uY.l0:Nat → Int → List Int → Int → Int → Option (Int)
  | 0,_,_,_,_=>none
  | k + 1,x3,x6,x7,x8=>if x8 < x7 then (if 0 ≤ x8 then (if x8 < (x6.length:Int) then (if (rd x6 x8) = x3 then (uY.l0 k x3 x6 x7 (wrap64 (x8 + 1))) else (some (rd x6 x8))) else (none)) else (none)) else (some x3)
def uY.f (k:Nat) (l0:List Int):Option (Int):=uY.l0 k 0 l0 (l0.length:Int) 0
set_option maxHeartbeats 8000000 in
set_option maxRecDepth 100000 in
theorem uY.calls (k:Nat) (A0:Option Addr) (c0:Nat) (l0:List Int) (r:Int) (w:World) (hr0:Kd.C (Kd.int .i64) w A0 l0.length l0) (hc0:l0.length ≤ c0) (h:uY.f k l0 = some r) :
    Calls Tryz.prog 97 #[.slice A0 l0.length c0] w fun e w'=>e = .returned (.int .i64 r) ∧ zL w w':=by
  have qA:=zk.mk hr0
  have YJ:=zk.mk hc0
  clear hr0 hc0
  have H:(uY.l0 k 0 l0 (l0.length:Int) 0) = some r:=h
  clear h
  have H':=zk.mk H
  clear H
  go_enter Tryz.func97,Tryz.ntmps97
  go_wp2
  go_loopg [8] k (fun kq v8 w'=>∃ (qj:Int),v8 = .int .i64 qj ∧ zk (uY.l0 kq 0 l0 (l0.length:Int) qj = some r) ∧ zk (kq ≤ k) ∧ zL w w')
  case atStart=>exact ⟨(0),(by first | rfl | (simp;done) | (simp [*];done)),H',⟨Nat.le_refl _⟩,by repeat (first | exact zL.refl _ | apply zL.step)⟩
  case round =>
    clear H'
    obtain ⟨qj,rfl,HA,vQ,⟨m1,rfl⟩⟩:=hrel
    cases gk with
    | zero=>exact absurd HA.out (by simp [uY.l0])
    | succ k1 =>
      have H:=HA.out
      clear HA
      simp only [uY.l0] at H
      by_cases c2:qj < (l0.length:Int)
      · rw [if_pos c2] at H
        have Ya:decide (qj < (l0.length:Int)) = true:=decide_eq_true c2
        clear c2
        by_cases c3:0 ≤ qj
        · rw [if_pos c3] at H
          have wR:decide (0 ≤ qj) = true:=decide_eq_true c3
          clear c3
          by_cases c4:qj < (l0.length:Int)
          · rw [if_pos c4] at H
            have kD:decide (qj < (l0.length:Int)) = true:=decide_eq_true c4
            clear c4
            by_cases c5:(rd l0 qj) = 0
            · rw [if_pos c5] at H
              have Z9:((rd l0 qj) == 0) = true:=beq_iff_eq.mpr c5
              have Kl:((rd l0 qj) != 0) = false:=bne_eq_false_iff_eq.mpr c5
              clear c5
              have H':=zk.mk H
              clear H
              have eD:0 ≤ (qj:Int):=of_decide_eq_true yj
              have eF:qj < (l0.length:Int):=of_decide_eq_true yj
              obtain ⟨zdP,zKg,zay⟩:=Kd.XB qA.out qj eD eF
              cases zKg
              replace eD:=eq_true eD
              replace eF:=eq_true eF
              go_wp2
              go_roundg k1
              case measure=>have:=vQ.out;omega
              case rel=>exact ⟨(wrap64 (qj + 1)),(by first | rfl | (simp;done) | (simp [*];done)),H',⟨by have:=vQ.out;omega⟩,by repeat (first | exact zL.refl _ | apply zL.step)⟩
            · rw [if_neg c5] at H
              have Z9:((rd l0 qj) == 0) = false:=beq_eq_false_iff_ne.mpr c5
              have Kl:((rd l0 qj) != 0) = true:=bne_iff_ne.mpr c5
              obtain rfl:=Option.some.inj H
              have eD:0 ≤ (qj:Int):=of_decide_eq_true yj
              have eF:qj < (l0.length:Int):=of_decide_eq_true yj
              obtain ⟨zdP,zKg,zay⟩:=Kd.XB qA.out qj eD eF
              cases zKg
              replace eD:=eq_true eD
              replace eF:=eq_true eF
              go_wp2
              go_ret
              exact ⟨by first | rfl | (simp;done) | (simp [*];done),by repeat (first | exact zL.refl _ | apply zL.step)⟩
          · rw [if_neg c4] at H
            exact absurd H (by simp)
        · rw [if_neg c3] at H
          exact absurd H (by simp)
      · rw [if_neg c2] at H
        have Ya:decide (qj < (l0.length:Int)) = false:=decide_eq_false c2
        clear c2
        obtain rfl:=Option.some.inj H
        go_wp2
        go_ret
        exact ⟨by first | rfl | (simp;done) | (simp [*];done),by repeat (first | exact zL.refl _ | apply zL.step)⟩
end Go.Proofs.YtggifbbiiickmaaGreatDoor.PX
namespace Go.Proofs.YtggifbbiiickmaaGreatDoor
open Go.RowKit Go.Shelf Go.Proofs.zx.zJ Go.Proofs.zx.zo Go.Proofs.YtggifbbiiickmaaGreatDoor.PX
def Yt (c:Nat → Nat → Int) (n:Nat):Bool:=(List.range (n - 1)).all fun i=>decide (c i (i + 1) < 0)
theorem nX {c:Nat → Nat → Int} {n:Nat} (h:∀ i,i + 1 < n → c i (i + 1) < 0):Yt c n = true:=by
 unfold Yt
 rw [List.all_eq_true]
 intro i hi
 have:=List.mem_range.1 hi
 simpa using h i (by omega)
theorem gW {c:Nat → Nat → Int} {n i:Nat} (hi:i + 1 < n) (h:¬ c i (i + 1) < 0):Yt c n = false:=by
 unfold Yt
 rw [List.all_eq_false]
 exact ⟨i,List.mem_range.2 (by omega),by simpa using h⟩
def V7 (x y:yT):Int:=xE x.f0 y.f0
def orV (a b:Int):Int:=if a = 0 then b else a
def cmpL (x y:qW):Int:=orV (xE x.f0 y.f0) (xE x.f1 y.f1)
def Km (x y:qM):Int:=orV (xE x.f0 y.f0) (xE x.f1 y.f1)
set_option maxRecDepth 100000 in
theorem zKh (x y:yT) (w:World) :
  Calls Tryz.prog 90 #[.agg #[.string x.f0,.int .i64 x.f1],.agg #[.string y.f0,.int .i64 y.f1]] w fun e w'=>e = .returned (.int .i64 (V7 x y)) ∧ Below w.heap.size w w':=by
 unfold V7
 have hb0:Below w.heap.size w ((w.alloc (.cells #[.string x.f0,.int .i64 x.f1] 105)).alloc (.cells #[.string y.f0,.int .i64 y.f1] 105)):=((Below.refl _ w).alloc (Nat.le_refl _) _).alloc (by simp) _
 have hc:=fQ x.f0 y.f0 ((w.alloc (.cells #[.string x.f0,.int .i64 x.f1] 105)).alloc (.cells #[.string y.f0,.int .i64 y.f1] 105))
 generalize xE x.f0 y.f0 = r at hc ⊢
 go_enter Tryz.func90,Tryz.ntmps90
 go_wp2_with (go_at_call 91;refine hc.mono ?_;rintro e w2 ⟨rfl,hb2⟩)
 go_ret
 exact ⟨rfl,hb0.trans (hb2.mono (by simp;omega))⟩
def zdR (l:List yT) (w:World) (x:Value) (wr:World):Prop :=
 ∃ k:Nat,x = .int .i64 k ∧ 1 ≤ k ∧ k ≤ l.length + 1 ∧ (∀ i,i + 1 < k → i + 1 < l.length → V7 (qb l (i:Int)) (qb l ((i + 1:Nat):Int)) < 0) ∧ Below w.heap.size w wr
set_option maxRecDepth 100000 in
set_option maxHeartbeats 1000000 in
theorem zKi (A0:Option Addr) (c0:Nat) (l:List yT) (w:World) (hr:Kd.C vk w A0 l.length l) (hl:l.length ≤ 1000000000) :
  Calls Tryz.prog 89 #[.slice A0 l.length c0,.func (.func 90) #[] #[]] w fun e w'=>e = .returned (.bool (Yt (fun i j=>V7 (qb l (i:Int)) (qb l (j:Int))) l.length)) ∧ Below w.heap.size w w':=by
 generalize hV:Yt (fun i j=>V7 (qb l (i:Int)) (qb l (j:Int))) l.length = V
 have HV:=Lib.hid hV
 clear hV
 go_enter Tryz.func89,Tryz.ntmps89
 go_wp2
 go_loopw [5] (fun x wr=>zdR l w x wr) (fun x _=>l.length + 1 - (intOf x).toNat)
 case atStart=>exact ⟨1,rfl,by omega,by omega,(fun i h=>by omega),Below.refl _ _⟩
 case round =>
  obtain ⟨k,rfl,hk1,hk,hA,hb⟩:=hrel
  have HA:=Lib.hid hA
  clear hA
  by_cases hlt:k < l.length
  ·obtain ⟨m,rfl⟩:∃ m,k = m + 1:=⟨k - 1,by omega⟩
   have hC:=Kd.za hr hb
   obtain ⟨ad,e,HH0⟩:=PV hC (m:Int) (by omega) (by omega)
   obtain ⟨ad2,e2,HH1⟩:=PV hC ((m + 1:Nat):Int) (by omega) (by omega)
   cases e
   cases e2
   obtain ⟨h0,h1⟩:=HH0
   obtain ⟨h2,h3⟩:=HH1
   rw [Int.toNat_natCast] at h0 h1 h2 h3
   have hstep:∀ i,i + 1 = m + 1 → V7 (qb l (i:Int)) (qb l ((i + 1:Nat):Int)) = V7 (qb l (m:Int)) (qb l ((m + 1:Nat):Int)):=fun i hi=>by obtain rfl:i = m:=(by omega);rfl
   have hbad:¬ V7 (qb l (m:Int)) (qb l ((m + 1:Nat):Int)) < 0 → V = false:=fun h=>by rw [← HV.out];exact gW (i:=m) (by omega) h
   have hcm:=fun W=>zKh (qb l (m:Int)) (qb l ((m + 1:Nat):Int)) W
   generalize qb l (m:Int) = x at h0 h1 hstep hcm hbad
   generalize qb l ((m + 1:Nat):Int) = y at h2 h3 hstep hcm hbad
   generalize V7 x y = r at hcm hstep hbad
   have HS:=Lib.hid hstep
   have HB:=Lib.hid hbad
   have e1:IntKind.i64.wrap (((m:Int) + 1) - 1) = (m:Int):=by rw [Int.add_sub_cancel];exact IntWalk.i64_in _ (by omega)
   have q1:(m:Int) < (l.length:Int):=by omega
   have q2:(m:Int) + 1 < (l.length:Int):=by omega
   have q3:((m:Int) + 1).toNat = m + 1:=by omega
   have q4:(0:Int) ≤ (m:Int) + 1:=by omega
   clear hC hr hstep hbad
   have e0:IntKind.i64.wrap (m:Int) = (m:Int):=IntWalk.i64_in _ (by omega)
   have q5:(0:Int) ≤ (m:Int):=by omega
   by_cases hr0:r < 0
   ·have d1:decide (0 ≤ r) = false:=by simp;omega
    have HR:=Lib.hid hr0
    clear hr0
    go_wp2_with fail
    go_region_held3 (fun W=>W.cell? (ad.add (m * 2)) = some (.string x.f0) ∧ W.cell? ⟨(ad.add (m * 2)).block,(ad.add (m * 2)).off + 1,none⟩ = some (.int .i64 x.f1) ∧ W.cell? (ad.add ((m + 1) * 2)) = some (.string y.f0) ∧ W.cell? ⟨(ad.add ((m + 1) * 2)).block,(ad.add ((m + 1) * 2)).off + 1,none⟩ = some (.int .i64 y.f1)) (first | go_keep | exact ⟨(hb2.cell (World.block_lt_of_cell? wr _ h0)).trans h0,(hb2.cell (World.block_lt_of_cell? wr _ h1)).trans h1,(hb2.cell (World.block_lt_of_cell? wr _ h2)).trans h2,(hb2.cell (World.block_lt_of_cell? wr _ h3)).trans h3⟩) ((go_at_call 90;refine (hcm _).mono ?_;rintro e w2 ⟨rfl,hb2⟩))
    clear e0 e1
    have hb3:Below w.heap.size w w2:=(hb.drew).trans (hb2.mono hb.size)
    clear hb2
    go_wp2
    refine ⟨⟨m + 1 + 1,by go_num,by omega,by omega,(fun i h1 h2=>?_),hb3⟩,by simp [intOf];omega⟩
    by_cases e:i + 1 = m + 1
    ·rw [HS.out i e];exact HR.out
    ·exact HA.out i (by omega) h2
   ·have d1:decide (0 ≤ r) = true:=by simp;omega
    have hv:V = false:=HB.out hr0
    have nJ:=Lib.hid hv
    clear hr0 hv
    go_wp2_with fail
    go_region_held3 (fun W=>W.cell? (ad.add (m * 2)) = some (.string x.f0) ∧ W.cell? ⟨(ad.add (m * 2)).block,(ad.add (m * 2)).off + 1,none⟩ = some (.int .i64 x.f1) ∧ W.cell? (ad.add ((m + 1) * 2)) = some (.string y.f0) ∧ W.cell? ⟨(ad.add ((m + 1) * 2)).block,(ad.add ((m + 1) * 2)).off + 1,none⟩ = some (.int .i64 y.f1)) (first | go_keep | exact ⟨(hb2.cell (World.block_lt_of_cell? wr _ h0)).trans h0,(hb2.cell (World.block_lt_of_cell? wr _ h1)).trans h1,(hb2.cell (World.block_lt_of_cell? wr _ h2)).trans h2,(hb2.cell (World.block_lt_of_cell? wr _ h3)).trans h3⟩) ((go_at_call 90;refine (hcm _).mono ?_;rintro e w2 ⟨rfl,hb2⟩))
    clear e0 e1
    have hb3:Below w.heap.size w w2:=(hb.drew).trans (hb2.mono hb.size)
    clear hb2
    go_wp2
    go_ret
    exact ⟨by rw [nJ.out];rfl,hb3⟩
  ·have hv:V = true:=by rw [← HV.out];exact nX (fun i hi=>HA.out i (by omega) hi)
   have nJ:=Lib.hid hv
   have q1:decide ((k:Int) < (l.length:Int)) = false:=decide_eq_false (by omega)
   clear hv hr
   go_wp2
   go_ret
   exact ⟨by rw [nJ.out];rfl,hb⟩
theorem zXl {w w':World} (h:zL w w'):Below w.heap.size w w':=by
 obtain ⟨n,rfl⟩:=h
 exact ⟨rfl,rfl,rfl,Nat.le_refl _,fun _ _=>rfl⟩
theorem zb6 (a b:Int):Ev (fun k=>uY.f k [a,b]) (orV a b):=by
 unfold uY.f orV
 have e1:wrap64 (0 + 1) = 1:=by rw [pI (by omega) (by omega)];rfl
 have e2:wrap64 (1 + 1) = 2:=by rw [pI (by omega) (by omega)];rfl
 have hl:(([a,b]:List Int).length:Int) = 2:=rfl
 refine Ev.step (fun k=>by rw [uY.l0]) ?_
 rw [hl]
 refine zR (by omega) (zR (by omega) (zR (by omega) ?_))
 rw [show rd [a,b] 0 = a from rfl,e1]
 by_cases h1:a = 0
 ·refine zR h1 ?_
  rw [if_pos h1]
  refine Ev.step (fun k=>by rw [uY.l0]) ?_
  rw [hl]
  refine zR (by omega) (zR (by omega) (zR (by omega) ?_))
  rw [show rd [a,b] 1 = b from rfl,e2]
  by_cases h2:b = 0
  ·refine zR h2 ?_
   rw [h2]
   refine Ev.step (fun k=>by rw [uY.l0]) ?_
   exact yG (by omega) (Ev.now _)
  ·exact yG h2 (Ev.now _)
 ·refine yG h1 ?_
  rw [if_neg h1];exact Ev.now _
theorem zKl (B:Nat) (a b:Int) (w:World) (h0:w.cell? ⟨B,0,none⟩ = some (.int .i64 a)) (h1:w.cell? ⟨B,1,none⟩ = some (.int .i64 b)):Kd.C (Kd.int .i64) w (some ⟨B,0,none⟩) 2 [a,b]:=by
 have hs:(Kd.int .i64).sz = 1:=rfl
 refine ⟨rfl,by decide,fun _=>⟨_,rfl,fun j p hj=>?_⟩⟩
 rcases j with _ | _ | j
 ·cases hj
  exact ⟨[.int .i64 a],rfl,rfl,fun i u hi=>by rcases i with _ | i;cases hi;simpa [Addr.add_lit] using h0;simp at hi⟩
 ·cases hj
  exact ⟨[.int .i64 b],rfl,rfl,fun i u hi=>by rcases i with _ | i;cases hi;simpa [Addr.add_lit,hs] using h1;simp at hi⟩
 ·simp at hj
theorem zJ8 (a b:Int) (B:Nat) (w:World) (h0:w.cell? ⟨B,0,none⟩ = some (.int .i64 a)) (h1:w.cell? ⟨B,1,none⟩ = some (.int .i64 b)) :
  Calls Tryz.prog 97 #[.slice (some ⟨B,0,none⟩) 2 2] w fun e w'=>e = .returned (.int .i64 (orV a b)) ∧ Below w.heap.size w w':=by
 obtain ⟨k,hk⟩:=(zb6 a b).rounds
 exact (uY.calls k (some ⟨B,0,none⟩) 2 [a,b] _ w (zKl B a b w h0 h1) (Nat.le_refl _) hk).mono fun e w' h=>⟨h.1,zXl h.2⟩
theorem zf8 (W:World) (a b:Value) (t:TypeId):(W.alloc (.cells #[a,b] t)).cell? ⟨W.heap.size,0,none⟩ = some a:=by simp
theorem zb7 (W:World) (a b:Value) (t:TypeId):(W.alloc (.cells #[a,b] t)).cell? ⟨W.heap.size,1,none⟩ = some b:=by simp
theorem zb8 (W:World) (n:Nat) (a b:Value) (t:TypeId):((W.drewN n).alloc (.cells #[a,b] t)).cell? ⟨W.heap.size,0,none⟩ = some a:=zf8 (W.drewN n) a b t
theorem zb9 (W:World) (n:Nat) (a b:Value) (t:TypeId):((W.drewN n).alloc (.cells #[a,b] t)).cell? ⟨W.heap.size,1,none⟩ = some b:=zb7 (W.drewN n) a b t
theorem Qh {W w2:World} {n:Nat} {o:Obj} {B i:Nat} {v:Value} (h:Below ((W.drewN n).alloc o).heap.size ((W.drewN n).alloc o) w2) (hc:W.cell? ⟨B,i,none⟩ = some v):w2.cell? ⟨B,i,none⟩ = some v:=by
 have hb:Below W.heap.size W ((W.drewN n).alloc o):=Below.trans (⟨rfl,rfl,rfl,Nat.le_refl _,fun _ _=>rfl⟩:Below W.heap.size W (W.drewN n)) ((Below.refl _ (W.drewN n)).alloc (Nat.le_refl _) o)
 have hl:=World.block_lt_of_cell? W _ hc
 exact (h.cell (p:=⟨B,i,none⟩) (Nat.lt_of_lt_of_le hl hb.size)).trans ((hb.cell (p:=⟨B,i,none⟩) hl).trans hc)
theorem zj1 {W w2:World} {n:Nat} {o:Obj} (h:Below ((W.drewN n).alloc o).heap.size ((W.drewN n).alloc o) w2):Below W.heap.size W w2:=by
 have hb:Below W.heap.size W ((W.drewN n).alloc o):=Below.trans (⟨rfl,rfl,rfl,Nat.le_refl _,fun _ _=>rfl⟩:Below W.heap.size W (W.drewN n)) ((Below.refl _ (W.drewN n)).alloc (Nat.le_refl _) o)
 exact hb.trans (h.mono hb.size)
set_option maxRecDepth 100000 in
set_option maxHeartbeats 1000000 in
theorem zKm (x y:qW) (w:World) :
  Calls Tryz.prog 96 #[.agg #[.string x.f0,.string x.f1,.string x.f2],.agg #[.string y.f0,.string y.f1,.string y.f2]] w fun e w'=>e = .returned (.int .i64 (cmpL x y)) ∧ Below w.heap.size w w':=by
 unfold cmpL
 have hb0:Below w.heap.size w ((w.alloc (.cells #[.string x.f0,.string x.f1,.string x.f2] 108)).alloc (.cells #[.string y.f0,.string y.f1,.string y.f2] 108)):=((Below.refl _ w).alloc (Nat.le_refl _) _).alloc (by simp) _
 have hz:((w.alloc (.cells #[.string x.f0,.string x.f1,.string x.f2] 108)).alloc (.cells #[.string y.f0,.string y.f1,.string y.f2] 108)).heap.size = w.heap.size + 2:=by simp
 have c0:((w.alloc (.cells #[.string x.f0,.string x.f1,.string x.f2] 108)).alloc (.cells #[.string y.f0,.string y.f1,.string y.f2] 108)).cell? ⟨w.heap.size,0,none⟩ = some (.string x.f0):=by simp
 have c1:((w.alloc (.cells #[.string x.f0,.string x.f1,.string x.f2] 108)).alloc (.cells #[.string y.f0,.string y.f1,.string y.f2] 108)).cell? ⟨w.heap.size,1,none⟩ = some (.string x.f1):=by simp
 have c2:((w.alloc (.cells #[.string x.f0,.string x.f1,.string x.f2] 108)).alloc (.cells #[.string y.f0,.string y.f1,.string y.f2] 108)).cell? ⟨w.heap.size + 1,0,none⟩ = some (.string y.f0):=by simp
 have c3:((w.alloc (.cells #[.string x.f0,.string x.f1,.string x.f2] 108)).alloc (.cells #[.string y.f0,.string y.f1,.string y.f2] 108)).cell? ⟨w.heap.size + 1,1,none⟩ = some (.string y.f1):=by simp
 have hc1:=fun W=>xP.calls x.f0 y.f0 _ W (Qg x.f0 y.f0)
 have hc2:=fun W=>xP.calls x.f1 y.f1 _ W (Qg x.f1 y.f1)
 generalize xE x.f0 y.f0 = r1 at hc1 ⊢
 generalize xE x.f1 y.f1 = r2 at hc2 ⊢
 have hor:=fun B W h0 h1=>zJ8 r1 r2 B W h0 h1
 generalize orV r1 r2 = R at hor ⊢
 go_enter Tryz.func96,Tryz.ntmps96
 go_wp2_with fail
 generalize ((w.alloc (.cells #[.string x.f0,.string x.f1,.string x.f2] 108)).alloc (.cells #[.string y.f0,.string y.f1,.string y.f2] 108)) = W0 at hb0 hz c0 c1 c2 c3 ⊢
 have hz1:=Nat.le_of_eq hz
 have hz2:=Nat.le_of_eq hz.symm
 clear hz
 go_region_held3 (fun W=>W.cell? ⟨w.heap.size,0,none⟩ = some (.string x.f0) ∧ W.cell? ⟨w.heap.size,1,none⟩ = some (.string x.f1) ∧ W.cell? ⟨w.heap.size + 1,0,none⟩ = some (.string y.f0) ∧ W.cell? ⟨w.heap.size + 1,1,none⟩ = some (.string y.f1))
  (first | go_keep | exact ⟨Qh hb2 c0,Qh hb2 c1,Qh hb2 c2,Qh hb2 c3⟩)
  (first | (go_at_call 91;((with_reducible refine (hc1 _).mono ?_);rintro e w2 ⟨rfl,nd,rfl⟩)) | (go_at_call 91;((with_reducible refine (hc2 _).mono ?_);rintro e w2 ⟨rfl,nd,rfl⟩)) | (go_at_call 97;((refine (hor _ _ (zb8 _ _ _ _ _) (zb9 _ _ _ _ _)).mono ?_);rintro e w2 ⟨rfl,hb2⟩)))
 all_goals
  have hb3:=hb0.trans ((zj1 hb2).mono hb0.size)
  clear hb2 c0 c1 c2 c3
  go_wp2
  go_ret
  exact ⟨rfl,hb3⟩
set_option maxRecDepth 100000 in
set_option maxHeartbeats 1000000 in
theorem zKn (x y:qM) (w:World) :
  Calls Tryz.prog 101 #[.agg #[.string x.f0,.string x.f1,.int .i64 x.f2],.agg #[.string y.f0,.string y.f1,.int .i64 y.f2]] w fun e w'=>e = .returned (.int .i64 (Km x y)) ∧ Below w.heap.size w w':=by
 unfold Km
 have hb0:Below w.heap.size w ((w.alloc (.cells #[.string x.f0,.string x.f1,.int .i64 x.f2] 111)).alloc (.cells #[.string y.f0,.string y.f1,.int .i64 y.f2] 111)):=((Below.refl _ w).alloc (Nat.le_refl _) _).alloc (by simp) _
 have hz:((w.alloc (.cells #[.string x.f0,.string x.f1,.int .i64 x.f2] 111)).alloc (.cells #[.string y.f0,.string y.f1,.int .i64 y.f2] 111)).heap.size = w.heap.size + 2:=by simp
 have c0:((w.alloc (.cells #[.string x.f0,.string x.f1,.int .i64 x.f2] 111)).alloc (.cells #[.string y.f0,.string y.f1,.int .i64 y.f2] 111)).cell? ⟨w.heap.size,0,none⟩ = some (.string x.f0):=by simp
 have c1:((w.alloc (.cells #[.string x.f0,.string x.f1,.int .i64 x.f2] 111)).alloc (.cells #[.string y.f0,.string y.f1,.int .i64 y.f2] 111)).cell? ⟨w.heap.size,1,none⟩ = some (.string x.f1):=by simp
 have c2:((w.alloc (.cells #[.string x.f0,.string x.f1,.int .i64 x.f2] 111)).alloc (.cells #[.string y.f0,.string y.f1,.int .i64 y.f2] 111)).cell? ⟨w.heap.size + 1,0,none⟩ = some (.string y.f0):=by simp
 have c3:((w.alloc (.cells #[.string x.f0,.string x.f1,.int .i64 x.f2] 111)).alloc (.cells #[.string y.f0,.string y.f1,.int .i64 y.f2] 111)).cell? ⟨w.heap.size + 1,1,none⟩ = some (.string y.f1):=by simp
 have hc1:=fun W=>xP.calls x.f0 y.f0 _ W (Qg x.f0 y.f0)
 have hc2:=fun W=>xP.calls x.f1 y.f1 _ W (Qg x.f1 y.f1)
 generalize xE x.f0 y.f0 = r1 at hc1 ⊢
 generalize xE x.f1 y.f1 = r2 at hc2 ⊢
 have hor:=fun B W h0 h1=>zJ8 r1 r2 B W h0 h1
 generalize orV r1 r2 = R at hor ⊢
 go_enter Tryz.func101,Tryz.ntmps101
 go_wp2_with fail
 generalize ((w.alloc (.cells #[.string x.f0,.string x.f1,.int .i64 x.f2] 111)).alloc (.cells #[.string y.f0,.string y.f1,.int .i64 y.f2] 111)) = W0 at hb0 hz c0 c1 c2 c3 ⊢
 have hz1:=Nat.le_of_eq hz
 have hz2:=Nat.le_of_eq hz.symm
 clear hz
 go_region_held3 (fun W=>W.cell? ⟨w.heap.size,0,none⟩ = some (.string x.f0) ∧ W.cell? ⟨w.heap.size,1,none⟩ = some (.string x.f1) ∧ W.cell? ⟨w.heap.size + 1,0,none⟩ = some (.string y.f0) ∧ W.cell? ⟨w.heap.size + 1,1,none⟩ = some (.string y.f1))
  (first | go_keep | exact ⟨Qh hb2 c0,Qh hb2 c1,Qh hb2 c2,Qh hb2 c3⟩)
  (first | (go_at_call 91;((with_reducible refine (hc1 _).mono ?_);rintro e w2 ⟨rfl,nd,rfl⟩)) | (go_at_call 91;((with_reducible refine (hc2 _).mono ?_);rintro e w2 ⟨rfl,nd,rfl⟩)) | (go_at_call 97;((refine (hor _ _ (zb8 _ _ _ _ _) (zb9 _ _ _ _ _)).mono ?_);rintro e w2 ⟨rfl,hb2⟩)))
 all_goals
  have hb3:=hb0.trans ((zj1 hb2).mono hb0.size)
  clear hb2 c0 c1 c2 c3
  go_wp2
  go_ret
  exact ⟨rfl,hb3⟩
def zdS (l:List qW) (w:World) (x:Value) (wr:World):Prop :=
 ∃ k:Nat,x = .int .i64 k ∧ 1 ≤ k ∧ k ≤ l.length + 1 ∧ (∀ i,i + 1 < k → i + 1 < l.length → cmpL (vW l (i:Int)) (vW l ((i + 1:Nat):Int)) < 0) ∧ Below w.heap.size w wr
set_option maxRecDepth 100000 in
set_option maxHeartbeats 1000000 in
theorem zKo (A0:Option Addr) (c0:Nat) (l:List qW) (w:World) (hr:Kd.C jg w A0 l.length l) (hl:l.length ≤ 1000000000) :
  Calls Tryz.prog 95 #[.slice A0 l.length c0,.func (.func 96) #[] #[]] w fun e w'=>e = .returned (.bool (Yt (fun i j=>cmpL (vW l (i:Int)) (vW l (j:Int))) l.length)) ∧ Below w.heap.size w w':=by
 generalize hV:Yt (fun i j=>cmpL (vW l (i:Int)) (vW l (j:Int))) l.length = V
 have HV:=Lib.hid hV
 clear hV
 go_enter Tryz.func95,Tryz.ntmps95
 go_wp2
 go_loopw [5] (fun x wr=>zdS l w x wr) (fun x _=>l.length + 1 - (intOf x).toNat)
 case atStart=>exact ⟨1,rfl,by omega,by omega,(fun i h=>by omega),Below.refl _ _⟩
 case round =>
  obtain ⟨k,rfl,hk1,hk,hA,hb⟩:=hrel
  have HA:=Lib.hid hA
  clear hA
  by_cases hlt:k < l.length
  ·obtain ⟨m,rfl⟩:∃ m,k = m + 1:=⟨k - 1,by omega⟩
   have hC:=Kd.za hr hb
   obtain ⟨ad,e,HH0⟩:=zzs hC (m:Int) (by omega) (by omega)
   obtain ⟨ad2,e2,HH1⟩:=zzs hC ((m + 1:Nat):Int) (by omega) (by omega)
   cases e
   cases e2
   obtain ⟨h0,h1,h2⟩:=HH0
   obtain ⟨h3,h4,h5⟩:=HH1
   rw [Int.toNat_natCast] at h0 h1 h2 h3 h4 h5
   have hstep:∀ i,i + 1 = m + 1 → cmpL (vW l (i:Int)) (vW l ((i + 1:Nat):Int)) = cmpL (vW l (m:Int)) (vW l ((m + 1:Nat):Int)):=fun i hi=>by obtain rfl:i = m:=(by omega);rfl
   have hbad:¬ cmpL (vW l (m:Int)) (vW l ((m + 1:Nat):Int)) < 0 → V = false:=fun h=>by rw [← HV.out];exact gW (i:=m) (by omega) h
   have hcm:=fun W=>zKm (vW l (m:Int)) (vW l ((m + 1:Nat):Int)) W
   generalize vW l (m:Int) = x at h0 h1 h2 hstep hcm hbad
   generalize vW l ((m + 1:Nat):Int) = y at h3 h4 h5 hstep hcm hbad
   generalize cmpL x y = r at hcm hstep hbad
   have HS:=Lib.hid hstep
   have HB:=Lib.hid hbad
   have e1:IntKind.i64.wrap (((m:Int) + 1) - 1) = (m:Int):=by rw [Int.add_sub_cancel];exact IntWalk.i64_in _ (by omega)
   have q1:(m:Int) < (l.length:Int):=by omega
   have q2:(m:Int) + 1 < (l.length:Int):=by omega
   have q3:((m:Int) + 1).toNat = m + 1:=by omega
   have q4:(0:Int) ≤ (m:Int) + 1:=by omega
   clear hC hr hstep hbad
   have e0:IntKind.i64.wrap (m:Int) = (m:Int):=IntWalk.i64_in _ (by omega)
   have q5:(0:Int) ≤ (m:Int):=by omega
   by_cases hr0:r < 0
   ·have d1:decide (0 ≤ r) = false:=by simp;omega
    have HR:=Lib.hid hr0
    clear hr0
    go_wp2_with fail
    go_region_held3 (fun W=>W.cell? (ad.add (m * 3)) = some (.string x.f0) ∧ W.cell? ⟨(ad.add (m * 3)).block,(ad.add (m * 3)).off + 1,none⟩ = some (.string x.f1) ∧ W.cell? ⟨(ad.add (m * 3)).block,(ad.add (m * 3)).off + 2,none⟩ = some (.string x.f2) ∧ W.cell? (ad.add ((m + 1) * 3)) = some (.string y.f0) ∧ W.cell? ⟨(ad.add ((m + 1) * 3)).block,(ad.add ((m + 1) * 3)).off + 1,none⟩ = some (.string y.f1) ∧ W.cell? ⟨(ad.add ((m + 1) * 3)).block,(ad.add ((m + 1) * 3)).off + 2,none⟩ = some (.string y.f2)) (first | go_keep | exact ⟨(hb2.cell (World.block_lt_of_cell? wr _ h0)).trans h0,(hb2.cell (World.block_lt_of_cell? wr _ h1)).trans h1,(hb2.cell (World.block_lt_of_cell? wr _ h2)).trans h2,(hb2.cell (World.block_lt_of_cell? wr _ h3)).trans h3,(hb2.cell (World.block_lt_of_cell? wr _ h4)).trans h4,(hb2.cell (World.block_lt_of_cell? wr _ h5)).trans h5⟩) ((go_at_call 96;refine (hcm _).mono ?_;rintro e w2 ⟨rfl,hb2⟩))
    clear e0 e1
    have hb3:Below w.heap.size w w2:=(hb.drew).trans (hb2.mono hb.size)
    clear hb2
    go_wp2
    refine ⟨⟨m + 1 + 1,by go_num,by omega,by omega,(fun i h1 h2=>?_),hb3⟩,by simp [intOf];omega⟩
    by_cases e:i + 1 = m + 1
    ·rw [HS.out i e];exact HR.out
    ·exact HA.out i (by omega) h2
   ·have d1:decide (0 ≤ r) = true:=by simp;omega
    have hv:V = false:=HB.out hr0
    have nJ:=Lib.hid hv
    clear hr0 hv
    go_wp2_with fail
    go_region_held3 (fun W=>W.cell? (ad.add (m * 3)) = some (.string x.f0) ∧ W.cell? ⟨(ad.add (m * 3)).block,(ad.add (m * 3)).off + 1,none⟩ = some (.string x.f1) ∧ W.cell? ⟨(ad.add (m * 3)).block,(ad.add (m * 3)).off + 2,none⟩ = some (.string x.f2) ∧ W.cell? (ad.add ((m + 1) * 3)) = some (.string y.f0) ∧ W.cell? ⟨(ad.add ((m + 1) * 3)).block,(ad.add ((m + 1) * 3)).off + 1,none⟩ = some (.string y.f1) ∧ W.cell? ⟨(ad.add ((m + 1) * 3)).block,(ad.add ((m + 1) * 3)).off + 2,none⟩ = some (.string y.f2)) (first | go_keep | exact ⟨(hb2.cell (World.block_lt_of_cell? wr _ h0)).trans h0,(hb2.cell (World.block_lt_of_cell? wr _ h1)).trans h1,(hb2.cell (World.block_lt_of_cell? wr _ h2)).trans h2,(hb2.cell (World.block_lt_of_cell? wr _ h3)).trans h3,(hb2.cell (World.block_lt_of_cell? wr _ h4)).trans h4,(hb2.cell (World.block_lt_of_cell? wr _ h5)).trans h5⟩) ((go_at_call 96;refine (hcm _).mono ?_;rintro e w2 ⟨rfl,hb2⟩))
    clear e0 e1
    have hb3:Below w.heap.size w w2:=(hb.drew).trans (hb2.mono hb.size)
    clear hb2
    go_wp2
    go_ret
    exact ⟨by rw [nJ.out];rfl,hb3⟩
  ·have hv:V = true:=by rw [← HV.out];exact nX (fun i hi=>HA.out i (by omega) hi)
   have nJ:=Lib.hid hv
   have q1:decide ((k:Int) < (l.length:Int)) = false:=decide_eq_false (by omega)
   clear hv hr
   go_wp2
   go_ret
   exact ⟨by rw [nJ.out];rfl,hb⟩
def zdT (l:List qM) (w:World) (x:Value) (wr:World):Prop :=
 ∃ k:Nat,x = .int .i64 k ∧ 1 ≤ k ∧ k ≤ l.length + 1 ∧ (∀ i,i + 1 < k → i + 1 < l.length → Km (vB l (i:Int)) (vB l ((i + 1:Nat):Int)) < 0) ∧ Below w.heap.size w wr
set_option maxRecDepth 100000 in
set_option maxHeartbeats 1000000 in
theorem zKp (A0:Option Addr) (c0:Nat) (l:List qM) (w:World) (hr:Kd.C jE w A0 l.length l) (hl:l.length ≤ 1000000000) :
  Calls Tryz.prog 100 #[.slice A0 l.length c0,.func (.func 101) #[] #[]] w fun e w'=>e = .returned (.bool (Yt (fun i j=>Km (vB l (i:Int)) (vB l (j:Int))) l.length)) ∧ Below w.heap.size w w':=by
 generalize hV:Yt (fun i j=>Km (vB l (i:Int)) (vB l (j:Int))) l.length = V
 have HV:=Lib.hid hV
 clear hV
 go_enter Tryz.func100,Tryz.ntmps100
 go_wp2
 go_loopw [5] (fun x wr=>zdT l w x wr) (fun x _=>l.length + 1 - (intOf x).toNat)
 case atStart=>exact ⟨1,rfl,by omega,by omega,(fun i h=>by omega),Below.refl _ _⟩
 case round =>
  obtain ⟨k,rfl,hk1,hk,hA,hb⟩:=hrel
  have HA:=Lib.hid hA
  clear hA
  by_cases hlt:k < l.length
  ·obtain ⟨m,rfl⟩:∃ m,k = m + 1:=⟨k - 1,by omega⟩
   have hC:=Kd.za hr hb
   obtain ⟨ad,e,HH0⟩:=zzt hC (m:Int) (by omega) (by omega)
   obtain ⟨ad2,e2,HH1⟩:=zzt hC ((m + 1:Nat):Int) (by omega) (by omega)
   cases e
   cases e2
   obtain ⟨h0,h1,h2⟩:=HH0
   obtain ⟨h3,h4,h5⟩:=HH1
   rw [Int.toNat_natCast] at h0 h1 h2 h3 h4 h5
   have hstep:∀ i,i + 1 = m + 1 → Km (vB l (i:Int)) (vB l ((i + 1:Nat):Int)) = Km (vB l (m:Int)) (vB l ((m + 1:Nat):Int)):=fun i hi=>by obtain rfl:i = m:=(by omega);rfl
   have hbad:¬ Km (vB l (m:Int)) (vB l ((m + 1:Nat):Int)) < 0 → V = false:=fun h=>by rw [← HV.out];exact gW (i:=m) (by omega) h
   have hcm:=fun W=>zKn (vB l (m:Int)) (vB l ((m + 1:Nat):Int)) W
   generalize vB l (m:Int) = x at h0 h1 h2 hstep hcm hbad
   generalize vB l ((m + 1:Nat):Int) = y at h3 h4 h5 hstep hcm hbad
   generalize Km x y = r at hcm hstep hbad
   have HS:=Lib.hid hstep
   have HB:=Lib.hid hbad
   have e1:IntKind.i64.wrap (((m:Int) + 1) - 1) = (m:Int):=by rw [Int.add_sub_cancel];exact IntWalk.i64_in _ (by omega)
   have q1:(m:Int) < (l.length:Int):=by omega
   have q2:(m:Int) + 1 < (l.length:Int):=by omega
   have q3:((m:Int) + 1).toNat = m + 1:=by omega
   have q4:(0:Int) ≤ (m:Int) + 1:=by omega
   clear hC hr hstep hbad
   have e0:IntKind.i64.wrap (m:Int) = (m:Int):=IntWalk.i64_in _ (by omega)
   have q5:(0:Int) ≤ (m:Int):=by omega
   by_cases hr0:r < 0
   ·have d1:decide (0 ≤ r) = false:=by simp;omega
    have HR:=Lib.hid hr0
    clear hr0
    go_wp2_with fail
    go_region_held3 (fun W=>W.cell? (ad.add (m * 3)) = some (.string x.f0) ∧ W.cell? ⟨(ad.add (m * 3)).block,(ad.add (m * 3)).off + 1,none⟩ = some (.string x.f1) ∧ W.cell? ⟨(ad.add (m * 3)).block,(ad.add (m * 3)).off + 2,none⟩ = some (.int .i64 x.f2) ∧ W.cell? (ad.add ((m + 1) * 3)) = some (.string y.f0) ∧ W.cell? ⟨(ad.add ((m + 1) * 3)).block,(ad.add ((m + 1) * 3)).off + 1,none⟩ = some (.string y.f1) ∧ W.cell? ⟨(ad.add ((m + 1) * 3)).block,(ad.add ((m + 1) * 3)).off + 2,none⟩ = some (.int .i64 y.f2)) (first | go_keep | exact ⟨(hb2.cell (World.block_lt_of_cell? wr _ h0)).trans h0,(hb2.cell (World.block_lt_of_cell? wr _ h1)).trans h1,(hb2.cell (World.block_lt_of_cell? wr _ h2)).trans h2,(hb2.cell (World.block_lt_of_cell? wr _ h3)).trans h3,(hb2.cell (World.block_lt_of_cell? wr _ h4)).trans h4,(hb2.cell (World.block_lt_of_cell? wr _ h5)).trans h5⟩) ((go_at_call 101;refine (hcm _).mono ?_;rintro e w2 ⟨rfl,hb2⟩))
    clear e0 e1
    have hb3:Below w.heap.size w w2:=(hb.drew).trans (hb2.mono hb.size)
    clear hb2
    go_wp2
    refine ⟨⟨m + 1 + 1,by go_num,by omega,by omega,(fun i h1 h2=>?_),hb3⟩,by simp [intOf];omega⟩
    by_cases e:i + 1 = m + 1
    ·rw [HS.out i e];exact HR.out
    ·exact HA.out i (by omega) h2
   ·have d1:decide (0 ≤ r) = true:=by simp;omega
    have hv:V = false:=HB.out hr0
    have nJ:=Lib.hid hv
    clear hr0 hv
    go_wp2_with fail
    go_region_held3 (fun W=>W.cell? (ad.add (m * 3)) = some (.string x.f0) ∧ W.cell? ⟨(ad.add (m * 3)).block,(ad.add (m * 3)).off + 1,none⟩ = some (.string x.f1) ∧ W.cell? ⟨(ad.add (m * 3)).block,(ad.add (m * 3)).off + 2,none⟩ = some (.int .i64 x.f2) ∧ W.cell? (ad.add ((m + 1) * 3)) = some (.string y.f0) ∧ W.cell? ⟨(ad.add ((m + 1) * 3)).block,(ad.add ((m + 1) * 3)).off + 1,none⟩ = some (.string y.f1) ∧ W.cell? ⟨(ad.add ((m + 1) * 3)).block,(ad.add ((m + 1) * 3)).off + 2,none⟩ = some (.int .i64 y.f2)) (first | go_keep | exact ⟨(hb2.cell (World.block_lt_of_cell? wr _ h0)).trans h0,(hb2.cell (World.block_lt_of_cell? wr _ h1)).trans h1,(hb2.cell (World.block_lt_of_cell? wr _ h2)).trans h2,(hb2.cell (World.block_lt_of_cell? wr _ h3)).trans h3,(hb2.cell (World.block_lt_of_cell? wr _ h4)).trans h4,(hb2.cell (World.block_lt_of_cell? wr _ h5)).trans h5⟩) ((go_at_call 101;refine (hcm _).mono ?_;rintro e w2 ⟨rfl,hb2⟩))
    clear e0 e1
    have hb3:Below w.heap.size w w2:=(hb.drew).trans (hb2.mono hb.size)
    clear hb2
    go_wp2
    go_ret
    exact ⟨by rw [nJ.out];rfl,hb3⟩
  ·have hv:V = true:=by rw [← HV.out];exact nX (fun i hi=>HA.out i (by omega) hi)
   have nJ:=Lib.hid hv
   have q1:decide ((k:Int) < (l.length:Int)) = false:=decide_eq_false (by omega)
   clear hv hr
   go_wp2
   go_ret
   exact ⟨by rw [nJ.out];rfl,hb⟩
end Go.Proofs.YtggifbbiiickmaaGreatDoor
namespace Go.Proofs.YtggifbbiiickmaaGreatDoor.PX
open Go.RowKit Go.Proofs.zx.zJ Go.Proofs.zx.zu Go.Proofs.zx.zo
attribute [local go_sem] yU y7 qX qJ yM yN y8 y9   -- for this text's walks alone
set_option linter.unusedVariables false
set_option linter.unusedSimpArgs false
def jS.l0:Nat → List ByteArray → Int → Int → ByteArray → Bool → Int → List (yT) → List (qW) → List (qM) → Option (Bool)
 | 0,_,_,_,_,_,_,_,_,_=>none
 | k + 1,x9,x10,x11,zyw,zyZ,zyQ,zyX,zyJ,zyV=>if x11 < x10 then (if 0 ≤ x11 then (if x11 < (x9.length:Int) then ((jG.f zyw zyZ zyQ zyX zyJ zyV (X3 ByteArray.empty x9 x11)).bind fun zdU=>(if zdU.2 = true then (jS.l0 k x9 x10 (wrap64 (x11 + 1)) zyw zyZ zyQ zyX zyJ zyV) else (some false))) else (none)) else (none)) else (some true)
def jS.f (k:Nat) (ze:ByteArray) (zn:Bool) (zi:Int) (yZ:List (yT)) (yB:List (qW)) (yC:List (qM)) (l1:List ByteArray):Option (Bool):=jS.l0 k l1 (l1.length:Int) 0 ze zn zi yZ yB yC
set_option maxHeartbeats 8000000 in
set_option maxRecDepth 100000 in
theorem jS.calls (k:Nat) (ze:ByteArray) (zn:Bool) (zi:Int) (qB:Option Addr) (qC:Nat) (yZ:List (yT)) (qF:Option Addr) (qG:Nat) (yB:List (qW)) (qH:Option Addr) (qI:Nat) (yC:List (qM)) (A1:Option Addr) (c1:Nat) (l1:List ByteArray) (r:Bool) (w:World) (wP:Kd.C vk w qB yZ.length yZ) (YP:yZ.length ≤ qC) (YR:Kd.C jg w qF yB.length yB) (YS:yB.length ≤ qG) (YT:Kd.C jE w qH yC.length yC) (YU:yC.length ≤ qI) (hr1:Kd.C Kd.string w A1 l1.length l1) (hc1:l1.length ≤ c1) (hG:GW w) (h:jS.f k ze zn zi yZ yB yC l1 = some r) :
  Calls Tryz.prog 94 #[.agg #[.string ze,.bool zn,.int .i64 zi,.slice qB yZ.length qC,.slice qF yB.length qG,.slice qH yC.length qI],.slice A1 l1.length c1] w fun e w'=>e = .returned (.bool r) ∧ Below w.heap.size w w':=by
 have zKr:=Tryz.underlying60
 have HG:=zk.mk hG
 clear hG
 have Yc:=zk.mk wP
 have Y0:=zk.mk YP
 clear wP YP
 have Y1:=zk.mk YR
 have Y2:=zk.mk YS
 clear YR YS
 have Y3:=zk.mk YT
 have Y4:=zk.mk YU
 clear YT YU
 have HR1:=zk.mk hr1
 have HC1:=zk.mk hc1
 clear hr1 hc1
 have HB:=zk.mk (Below.refl w.heap.size w)
 have H:(jS.l0 k l1 (l1.length:Int) 0 ze zn zi yZ yB yC) = some r:=h
 clear h
 have H':=zk.mk H
 clear H
 go_enter Tryz.func94,Tryz.ntmps94
 go_wp2_with (first | ((with_reducible refine qY (N:=2) rfl ?_);refine qm ?hg (N:=2) ?hd (cs:=#[.string ze,.bool zn,.int .i64 zi,.slice qB yZ.length qC,.slice qF yB.length qG,.slice qH yC.length qI]) (t:=60) ?hr ?_;(case hd=>rfl);(case hg=>rfl);(case hr=>first | (go_simp;done) | (go_simp;rfl));intro ZQ hg w3 qo hb;have zh:=zk.mk (zF (zM HB.out) hb);have zG:=zk.mk (qo);have zU:=zk.mk ((by rw [hg];exact (zI (zM HB.out)):w.heap.size ≤ ZQ));have yc:=zk.mk ((by rw [hg];exact (zI (zM HB.out)):w.heap.size ≤ ZQ));clear HB;have HB:=zh;have vO:=zG;have zot:=zU;have zWj:=yc;clear zh zG zU yc;clear hb qo hg))
 go_loopg [11] k (fun kq v11 w'=>∃ (kH:Int),v11 = .int .i64 kH ∧ zk (jS.l0 kq l1 (l1.length:Int) kH ze zn zi yZ yB yC = some r) ∧ zk (kq ≤ k) ∧ zk (w'.heap[ZQ]? = some (.cells #[.string ze,.bool zn,.int .i64 zi,(.slice qB yZ.length qC),(.slice qF yB.length qG),(.slice qH yC.length qI)] 60 (0,0))) ∧ zk (Below w.heap.size w w'))
 case atStart=>exact ⟨(0),(by first | rfl | (simp;done) | (simp [*];done)),H',⟨Nat.le_refl _⟩,⟨vK vO.out⟩,⟨zM HB.out⟩⟩
 case round =>
  clear H'
  try clear c1
  obtain ⟨kH,rfl,HA,vQ,vO,HB⟩:=hrel
  cases gk with
  | zero=>exact absurd HA.out (by simp [jS.l0])
  | succ k1 =>
   have H:=HA.out
   clear HA
   simp only [jS.l0] at H
   by_cases c4:kH < (l1.length:Int)
   ·rw [if_pos c4] at H
    have kD:decide (kH < (l1.length:Int)) = true:=decide_eq_true c4
    clear c4
    by_cases c5:0 ≤ kH
    ·rw [if_pos c5] at H
     have Z9:decide (0 ≤ kH) = true:=decide_eq_true c5
     clear c5
     by_cases c6:kH < (l1.length:Int)
     ·rw [if_pos c6] at H
      have Zx:decide (kH < (l1.length:Int)) = true:=decide_eq_true c6
      clear c6
      replace H:=Option.bind_eq_some_iff.mp H
      obtain ⟨⟨zcz,zcq⟩,A70,H⟩:=H
      replace H:(if zcq = true then (jS.l0 k1 l1 (l1.length:Int) (wrap64 (kH + 1)) ze zn zi yZ yB yC) else (some false)) = some r:=H
      have A7:=zk.mk A70
      clear A70
      by_cases c8:zcq = true
      ·subst c8
       have H1:(jS.l0 k1 l1 (l1.length:Int) (wrap64 (kH + 1)) ze zn zi yZ yB yC) = some r:=by rw [if_pos rfl] at H;exact H
       clear H
       have H:=H1
       clear H1
       have H':=zk.mk H
       clear H
       have eH:0 ≤ (kH:Int):=of_decide_eq_true yj
       have eO:kH < (l1.length:Int):=of_decide_eq_true yj
       obtain ⟨zd0,zKs,V8⟩:=Kd.U1 HR1.out kH eH eO
       cases zKs
       replace V8:=(HB.out.cell (World.block_lt_of_cell? w _ V8)).trans V8
       replace eH:=eq_true eH
       replace eO:=eq_true eO
       have U7:wr.cell? ⟨ZQ,0,none⟩ = some (.string ze):=zK vO 0
       have U8:wr.cell? ⟨ZQ,1,none⟩ = some (.bool zn):=zK vO 1
       have U9:wr.cell? ⟨ZQ,2,none⟩ = some (.int .i64 zi):=zK vO 2
       have Jz:wr.cell? ⟨ZQ,3,none⟩ = some (.slice qB yZ.length qC):=zK vO 3
       have Jq:wr.cell? ⟨ZQ,4,none⟩ = some (.slice qF yB.length qG):=zK vO 4
       have Jj:wr.cell? ⟨ZQ,5,none⟩ = some (.slice qH yC.length qI):=zK vO 5
       have Jv:=zy vO.out 0
       have Jk:=zy vO.out 1
       have Jy:=zy vO.out 2
       have Jw:=zy vO.out 3
       have JZ:=zy vO.out 4
       have JQ:=zy vO.out 5
       go_wp2_with (first | ((with_reducible refine yw (f:=64) rfl ?_);refine vR (some 18) Tryz.func64 #[.agg #[.string ze,.bool zn,.int .i64 zi,.slice qB yZ.length qC,.slice qF yB.length qG,.slice qH yC.length qI],.string (X3 ByteArray.empty l1 kH)] ?_;(with_reducible refine (jG.calls ze zn zi _ _ yZ _ _ yB _ _ yC (X3 ByteArray.empty l1 kH) zcz true _ ?yX ?yE ?xQ ?vZ ?ji ?jl ?jm A7.out).mono ?_);(case yX=>exact xZ (Kd.za Yc.out HB.out));(case yE=>exact Y0.out);(case xQ=>exact xZ (Kd.za Y1.out HB.out));(case vZ=>exact Y2.out);(case ji=>exact xZ (Kd.za Y3.out HB.out));(case jl=>exact Y4.out);(case jm=>exact GW.under HG.out (zM HB.out));rintro e JX ⟨rfl,hb⟩;refine ⟨_,rfl,?_⟩;have zh:=zk.mk (yY (g:=ZQ) (o:=.cells #[.string ze,.bool zn,.int .i64 zi,.slice qB yZ.length qC,.slice qF yB.length qG,.slice qH yC.length qI] 60 (0,0)) (vK vO.out) hb);have zG:=zk.mk (zF (zM HB.out) hb);clear vO;clear HB;have vO:=zh;have HB:=zG;clear zh zG;(try clear hb);(try clear hi)))
       go_roundg k1
       case measure=>have:=vQ.out;omega
       case rel=>exact ⟨(wrap64 (kH + 1)),(by first | rfl | (simp;done) | (simp [*];done)),H',⟨by have:=vQ.out;omega⟩,⟨vK vO.out⟩,⟨zM HB.out⟩⟩
      ·replace c8:=Bool.eq_false_iff.mpr c8
       subst c8
       have H1:(some false) = some r:=by rw [if_neg (show ¬ (false = true) by decide)] at H;exact H
       clear H
       have H:=H1
       clear H1
       obtain rfl:=Option.some.inj H
       have eH:0 ≤ (kH:Int):=of_decide_eq_true yj
       have eO:kH < (l1.length:Int):=of_decide_eq_true yj
       obtain ⟨zd0,zKs,V8⟩:=Kd.U1 HR1.out kH eH eO
       cases zKs
       replace V8:=(HB.out.cell (World.block_lt_of_cell? w _ V8)).trans V8
       replace eH:=eq_true eH
       replace eO:=eq_true eO
       have zaw:wr.cell? ⟨ZQ,0,none⟩ = some (.string ze):=zK vO 0
       have zaZ:wr.cell? ⟨ZQ,1,none⟩ = some (.bool zn):=zK vO 1
       have zaQ:wr.cell? ⟨ZQ,2,none⟩ = some (.int .i64 zi):=zK vO 2
       have zaX:wr.cell? ⟨ZQ,3,none⟩ = some (.slice qB yZ.length qC):=zK vO 3
       have zaJ:wr.cell? ⟨ZQ,4,none⟩ = some (.slice qF yB.length qG):=zK vO 4
       have zaV:wr.cell? ⟨ZQ,5,none⟩ = some (.slice qH yC.length qI):=zK vO 5
       have zaK:=zy vO.out 0
       have zaY:=zy vO.out 1
       have zaW:=zy vO.out 2
       have zaa:=zy vO.out 3
       have zab:=zy vO.out 4
       have zac:=zy vO.out 5
       go_wp2_with (first | ((with_reducible refine yw (f:=64) rfl ?_);refine vR (some 18) Tryz.func64 #[.agg #[.string ze,.bool zn,.int .i64 zi,.slice qB yZ.length qC,.slice qF yB.length qG,.slice qH yC.length qI],.string (X3 ByteArray.empty l1 kH)] ?_;(with_reducible refine (jG.calls ze zn zi _ _ yZ _ _ yB _ _ yC (X3 ByteArray.empty l1 kH) zcz false _ ?yX ?yE ?xQ ?vZ ?ji ?jl ?jm A7.out).mono ?_);(case yX=>exact xZ (Kd.za Yc.out HB.out));(case yE=>exact Y0.out);(case xQ=>exact xZ (Kd.za Y1.out HB.out));(case vZ=>exact Y2.out);(case ji=>exact xZ (Kd.za Y3.out HB.out));(case jl=>exact Y4.out);(case jm=>exact GW.under HG.out (zM HB.out));rintro e Kn ⟨rfl,hb⟩;refine ⟨_,rfl,?_⟩;have zh:=zk.mk (yY (g:=ZQ) (o:=.cells #[.string ze,.bool zn,.int .i64 zi,.slice qB yZ.length qC,.slice qF yB.length qG,.slice qH yC.length qI] 60 (0,0)) (vK vO.out) hb);have zG:=zk.mk (zF (zM HB.out) hb);clear vO;clear HB;have vO:=zh;have HB:=zG;clear zh zG;(try clear hb);(try clear hi)))
       go_ret
       exact ⟨by first | rfl | (simp [zl,zm] <;> rfl) | (simp [*,zl,zm] <;> rfl),by repeat (first | (with_reducible first | exact HB.out | apply zO | apply zC | apply zP | refine qw ?_ zWj.out) | exact HB.out)⟩
     ·rw [if_neg c6] at H
      exact absurd H (by simp)
    ·rw [if_neg c5] at H
     exact absurd H (by simp)
   ·rw [if_neg c4] at H
    have kD:decide (kH < (l1.length:Int)) = false:=decide_eq_false c4
    clear c4
    obtain rfl:=Option.some.inj H
    go_wp2
    go_ret
    exact ⟨by first | rfl | (simp [zl,zm] <;> rfl) | (simp [*,zl,zm] <;> rfl),by repeat (first | (with_reducible first | exact HB.out | apply zO | apply zC | apply zP | refine qw ?_ zWj.out) | exact HB.out)⟩
end Go.Proofs.YtggifbbiiickmaaGreatDoor.PX
namespace Go.Proofs.YtggifbbiiickmaaGreatDoor
open Go.RowKit Go.Shelf Go.Proofs.zx.zJ Go.Proofs.zx.zo Go.Proofs.YtggifbbiiickmaaGreatDoor.PX
instance:Inhabited yT:=⟨z105⟩
instance:Inhabited qW:=⟨zKY⟩
instance:Inhabited qM:=⟨zKW⟩
def wF (x:yT):List Value:=[.string x.f0,.int .i64 x.f1]
def zvN (x:qW):List Value:=[.string x.f0,.string x.f1,.string x.f2]
def zvO (x:qM):List Value:=[.string x.f0,.string x.f1,.int .i64 x.f2]
theorem eP {α:Type} [Inhabited α] (d:Kd α) (enc:α → List Value) (hopen:∀ (w:World) (x:α) (c:List Value),d.K w x c → c = enc x) (hne:∀ x,enc x ≠ []) {w:World} {A:Option Addr} {l:List α} (h:Kd.C d w A l.length l) (h0:l ≠ []) :
  ∃ b off,A = some ⟨b,off,none⟩ ∧ b < w.heap.size ∧ ∀ j,j < l.length → ∀ i v,(enc l[j]!)[i]? = some v → w.cell? ⟨b,off + j * d.sz + i,none⟩ = some v:=by
 have hl:0 < l.length:=List.length_pos_iff.2 h0
 obtain ⟨_,_,h3⟩:=h
 obtain ⟨ad,rfl,hc⟩:=h3 hl
 obtain ⟨b,off,spot⟩:=ad
 have hcell:∀ j,j < l.length → ∀ i v,(enc l[j]!)[i]? = some v → w.cell? ((⟨b,off,spot⟩:Addr).add (j * d.sz + i)) = some v:=by
  intro j hj i v hv
  obtain ⟨c,_,hK,hcc⟩:=hc j l[j] (List.getElem?_eq_getElem hj)
  have e:=hopen w _ c hK
  rw [getElem!_pos l j hj,← e] at hv
  exact hcc i v hv
 obtain ⟨v,hv⟩:∃ v,(enc l[0]!)[0]? = some v:=by
  cases he:enc l[0]! with
  | nil=>exact absurd he (hne _)
  | cons v r=>exact ⟨v,rfl⟩
 have hc0:=hcell 0 hl 0 v hv
 have hspot:spot = none:=by simpa [Addr.add] using World.cell?_spot hc0
 subst hspot
 refine ⟨b,off,rfl,?_,fun j hj i v hv=>?_⟩
 ·have:=World.block_lt_of_cell? w _ hc0
  simpa [Addr.add] using this
 ·have:=hcell j hj i v hv
  rwa [Addr.add_lit,← Nat.add_assoc] at this
set_option maxRecDepth 100000 in
theorem zJ9 (A0:Option Addr) (c0:Nat) (fv:Value) (w:World):Calls Tryz.prog 130 #[.slice A0 0 c0,fv] w fun e w'=>e = .returned (.int .i64 (-1)) ∧ Below w.heap.size w w':=by
 go_enter Tryz.func130,Tryz.ntmps130
 go_wp2
 go_loop [8] (fun i=>i = .int .i64 0) (fun _=>0)
 case atStart=>rfl
 case round =>
  obtain rfl:=hrel
  go_wp2
  go_ret
  exact ⟨rfl,Below.refl _ _⟩
set_option maxRecDepth 100000 in
theorem zvP (A0:Option Addr) (c0:Nat) (l:List yT) (w:World) (hr:Kd.C vk w A0 l.length l) (hl:l.length ≤ 1000000000) (p:yT → Bool) (g:Nat) (lb:Array Value) (eg:∀ args w,(callFunc g args).run Tryz.prog w = .ok (.enter g args) w)
  (hp:PredBelow Tryz.prog g lb (fun x=>.agg (wF x).toArray) p w) :
  Calls Tryz.prog 86 #[.slice A0 l.length c0,.func (.func g) #[] lb] w fun e w'=>e = .returned (.bool (l.any p)) ∧ Below w.heap.size w w':=by
 by_cases h0:l = []
 ·subst h0
  have h:=zJ9 A0 c0 (.func (.func g) #[] lb) w
  go_enter Tryz.func86,Tryz.ntmps86
  go_wp2_with (go_at_call 130;refine h.mono ?_;rintro e w1 ⟨rfl,hb⟩)
  go_ret
  exact ⟨rfl,hb⟩
 ·obtain ⟨b,off,rfl,hb,hc⟩:=eP vk wF (fun w x c h=>zjS h) (fun x=>by simp [wF]) hr h0
  have:=AnyQ.slices_ContainsFunc Tryz.hasG 2 Tryz.isAgg105 Tryz.sizeOf105 wF (fun _=>rfl) p g lb eg b off l.length c0 l w hp (Nat.le_refl _) (by omega) hb hc
  rw [List.take_length] at this
  exact this
set_option maxRecDepth 100000 in
theorem zVz (A0:Option Addr) (c0:Nat) (fv:Value) (w:World):Calls Tryz.prog 133 #[.slice A0 0 c0,fv] w fun e w'=>e = .returned (.int .i64 (-1)) ∧ Below w.heap.size w w':=by
 go_enter Tryz.func133,Tryz.ntmps133
 go_wp2
 go_loop [8] (fun i=>i = .int .i64 0) (fun _=>0)
 case atStart=>rfl
 case round =>
  obtain rfl:=hrel
  go_wp2
  go_ret
  exact ⟨rfl,Below.refl _ _⟩
set_option maxRecDepth 100000 in
theorem zKt (A0:Option Addr) (c0:Nat) (l:List qW) (w:World) (hr:Kd.C jg w A0 l.length l) (hl:l.length ≤ 1000000000) (p:qW → Bool) (g:Nat) (lb:Array Value) (eg:∀ args w,(callFunc g args).run Tryz.prog w = .ok (.enter g args) w)
  (hp:PredBelow Tryz.prog g lb (fun x=>.agg (zvN x).toArray) p w) :
  Calls Tryz.prog 92 #[.slice A0 l.length c0,.func (.func g) #[] lb] w fun e w'=>e = .returned (.bool (l.any p)) ∧ Below w.heap.size w w':=by
 by_cases h0:l = []
 ·subst h0
  have h:=zVz A0 c0 (.func (.func g) #[] lb) w
  go_enter Tryz.func92,Tryz.ntmps92
  go_wp2_with (go_at_call 133;refine h.mono ?_;rintro e w1 ⟨rfl,hb⟩)
  go_ret
  exact ⟨rfl,hb⟩
 ·obtain ⟨b,off,rfl,hb,hc⟩:=eP jg zvN (fun w x c h=>zjT h) (fun x=>by simp [zvN]) hr h0
  have:=AnyQ.slices_ContainsFunc Tryz.hasL 3 Tryz.isAgg108 Tryz.sizeOf108 zvN (fun _=>rfl) p g lb eg b off l.length c0 l w hp (Nat.le_refl _) (by omega) hb hc
  rw [List.take_length] at this
  exact this
set_option maxRecDepth 100000 in
theorem zVq (A0:Option Addr) (c0:Nat) (fv:Value) (w:World):Calls Tryz.prog 134 #[.slice A0 0 c0,fv] w fun e w'=>e = .returned (.int .i64 (-1)) ∧ Below w.heap.size w w':=by
 go_enter Tryz.func134,Tryz.ntmps134
 go_wp2
 go_loop [8] (fun i=>i = .int .i64 0) (fun _=>0)
 case atStart=>rfl
 case round =>
  obtain rfl:=hrel
  go_wp2
  go_ret
  exact ⟨rfl,Below.refl _ _⟩
set_option maxRecDepth 100000 in
theorem zKu (A0:Option Addr) (c0:Nat) (l:List qM) (w:World) (hr:Kd.C jE w A0 l.length l) (hl:l.length ≤ 1000000000) (p:qM → Bool) (g:Nat) (lb:Array Value) (eg:∀ args w,(callFunc g args).run Tryz.prog w = .ok (.enter g args) w)
  (hp:PredBelow Tryz.prog g lb (fun x=>.agg (zvO x).toArray) p w) :
  Calls Tryz.prog 99 #[.slice A0 l.length c0,.func (.func g) #[] lb] w fun e w'=>e = .returned (.bool (l.any p)) ∧ Below w.heap.size w w':=by
 by_cases h0:l = []
 ·subst h0
  have h:=zVq A0 c0 (.func (.func g) #[] lb) w
  go_enter Tryz.func99,Tryz.ntmps99
  go_wp2_with (go_at_call 134;refine h.mono ?_;rintro e w1 ⟨rfl,hb⟩)
  go_ret
  exact ⟨rfl,hb⟩
 ·obtain ⟨b,off,rfl,hb,hc⟩:=eP jE zvO (fun w x c h=>zjU h) (fun x=>by simp [zvO]) hr h0
  have:=AnyQ.slices_ContainsFunc Tryz.hasK 3 Tryz.isAgg111 Tryz.sizeOf111 zvO (fun _=>rfl) p g lb eg b off l.length c0 l w hp (Nat.le_refl _) (by omega) hb hc
  rw [List.take_length] at this
  exact this
def Js (n:Int):Bool:=decide (n < 0) || decide (3000 < n)
set_option maxRecDepth 100000 in
theorem zvR (n:Int) (w:World):Calls Tryz.prog 84 #[.int .i64 n] w fun e w'=>e = .returned (.bool (Js n)) ∧ w' = w:=by
 unfold Js
 by_cases h1:n < 0
 ·have d1:decide (n < 0) = true:=decide_eq_true h1
  rw [d1];clear h1
  go_enter Tryz.func84,Tryz.ntmps84
  go_wp2
  go_ret
  exact ⟨rfl,rfl⟩
 ·have d1:decide (n < 0) = false:=decide_eq_false h1
  rw [d1];clear h1
  cases hd:decide (3000 < n) with
  | true =>
   go_enter Tryz.func84,Tryz.ntmps84
   go_wp2
   go_ret
   exact ⟨rfl,rfl⟩
  | false =>
   go_enter Tryz.func84,Tryz.ntmps84
   go_wp2
   go_ret
   exact ⟨rfl,rfl⟩
def zzC (x:yT):Bool:=!Zd x.f0.data.toList || Js x.f1
set_option maxRecDepth 100000 in
theorem zKA (B:Nat) (w:World) (hB:w.cell? ⟨B,0,none⟩ = some (.func (.func 84) #[] #[])) :
  PredBelow Tryz.prog 87 #[.pointer (some ⟨B,0,none⟩)] (fun x=>.agg (wF x).toArray) zzC w:=fun W x hb=>by
 have hl:=World.block_lt_of_cell? w _ hB
 have hc:W.cell? ⟨B,0,none⟩ = some (.func (.func 84) #[] #[]):=(hb.cell hl).trans hB
 have hlW:B < W.heap.size:=Nat.lt_of_lt_of_le hl hb.size
 show Calls Tryz.prog 87 #[.agg #[.string x.f0,.int .i64 x.f1],.pointer (some ⟨B,0,none⟩)] W _
 have hb0:Below w.heap.size w (W.alloc (.cells #[.string x.f0,.int .i64 x.f1] 105)):=hb.alloc hb.size _
 have hbW:Below W.heap.size W (W.alloc (.cells #[.string x.f0,.int .i64 x.f1] 105)):=(Below.refl _ W).alloc (Nat.le_refl _) _
 have hn:=zJ4 x.f0 (W.alloc (.cells #[.string x.f0,.int .i64 x.f1] 105))
 have hw:=fun W=>zvR x.f1 W
 have hv:zzC x = (!Zd x.f0.data.toList || Js x.f1):=rfl
 rw [hv]
 clear hv hb
 generalize Zd x.f0.data.toList = b1 at hn ⊢
 generalize Js x.f1 = b2 at hw ⊢
 cases b1 with
 | false =>
  go_enter Tryz.func87,Tryz.ntmps87
  go_wp2_with (go_at_call 88;refine hn.mono ?_;rintro e w1 ⟨rfl,hb1⟩)
  go_ret
  exact ⟨rfl,hb0.trans (hb1.mono hb0.size)⟩
 | true =>
  go_enter Tryz.func87,Tryz.ntmps87
  go_wp2_with (first | (go_at_call 88;refine hn.mono ?_;rintro e w1 ⟨rfl,hb1⟩;have hc1:=(hb1.cell (p:=⟨B,0,none⟩) (by simp;omega)).trans ((hbW.cell (p:=⟨B,0,none⟩) hlW).trans hc);have k1:=(hb1.cell (p:=⟨W.heap.size,1,none⟩) (by simp)).trans (zb7 W (.string x.f0) (.int .i64 x.f1) _)) | (go_at_call 84;refine (hw _).mono ?_;rintro e w2 ⟨rfl,rfl⟩))
  go_ret
  exact ⟨by first | rfl | (cases b2 <;> rfl),hb0.trans (hb1.mono hb0.size)⟩
def eT (l:List yT) (ns:List ByteArray):Bool:=ns.all fun n=>(YO l n).2
theorem zd1 (a:ByteArray) (b:Bool) (c:Int) (l3:List yT) (l4:List qW) (l5:List qM) (h3:l3.length ≤ 1000000000) (ns:List ByteArray) (hn:ns.length ≤ 1000):∀ (d i:Nat),i + d = ns.length →
  Ev (fun k=>jS.l0 k ns (ns.length:Int) (i:Int) a b c l3 l4 l5) (eT l3 (ns.drop i)):=by
 intro d
 induction d with
 | zero =>
  intro i h
  rw [List.drop_eq_nil_of_le (by omega)]
  refine Ev.step (fun k=>by rw [jS.l0]) ?_
  exact yG (by omega) (Ev.now _)
 | succ d ih =>
  intro i h
  have hi:i < ns.length:=by omega
  have e2:wrap64 ((i:Int) + 1) = ((i + 1:Nat):Int):=by rw [pI (by omega) (by omega)];rfl
  have hg:X3 ByteArray.empty ns (i:Int) = ns[i]:=by rw [zKd,List.getD_eq_getElem?_getD,List.getElem?_eq_getElem hi];rfl
  have hd:ns.drop i = ns[i] :: ns.drop (i + 1):=List.drop_eq_getElem_cons hi
  refine Ev.step (fun k=>by rw [jS.l0]) ?_
  refine zR (by omega) (zR (by omega) (zR (by omega) ?_))
  rw [hg,e2]
  refine Vb (y:=YO l3 ns[i]) (by unfold jG.f;rw [if_pos h3]) ?_
  rw [hd]
  show Ev _ ((YO l3 ns[i]).2 && eT l3 (ns.drop (i + 1)))
  cases hb:(YO l3 ns[i]).2 with
  | true=>exact zR rfl (ih (i + 1) (by omega))
  | false=>exact yG (by simp) (Ev.now _)
theorem zyK (a:ByteArray) (b:Bool) (c:Int) (A3:Option Addr) (c3:Nat) (l3:List yT) (A4:Option Addr) (c4:Nat) (l4:List qW) (A5:Option Addr) (c5:Nat) (l5:List qM) (A:Option Addr) (cn:Nat) (ns:List ByteArray) (w:World)
  (h3:Kd.C vk w A3 l3.length l3) (g3:l3.length ≤ c3) (h4:Kd.C jg w A4 l4.length l4) (g4:l4.length ≤ c4) (h5:Kd.C jE w A5 l5.length l5) (g5:l5.length ≤ c5) (hn:Kd.C Kd.string w A ns.length ns) (gn:ns.length ≤ cn) (hG:GW w) (hl3:l3.length ≤ 1000000000) (hln:ns.length ≤ 1000) :
  Calls Tryz.prog 94 #[.agg #[.string a,.bool b,.int .i64 c,.slice A3 l3.length c3,.slice A4 l4.length c4,.slice A5 l5.length c5],.slice A ns.length cn] w fun e w'=>e = .returned (.bool (eT l3 ns)) ∧ Below w.heap.size w w':=by
 obtain ⟨k,hk⟩:=(zd1 a b c l3 l4 l5 hl3 ns hln ns.length 0 (by omega)).rounds
 exact jS.calls k a b c A3 c3 l3 A4 c4 l4 A5 c5 l5 A cn ns _ w h3 g3 h4 g4 h5 g5 hn gn hG hk
structure YV (w:World) (B:Nat) (a:ByteArray) (b:Bool) (c:Int) (A3:Option Addr) (c3:Nat) (l3:List yT) (A4:Option Addr) (c4:Nat) (l4:List qW) (A5:Option Addr) (c5:Nat) (l5:List qM):Prop where
 blk:w.heap[B]? = some (.cells #[.string a,.bool b,.int .i64 c,.slice A3 l3.length c3,.slice A4 l4.length c4,.slice A5 l5.length c5] 60 (0,0))
 h3:Kd.C vk w A3 l3.length l3
 h4:Kd.C jg w A4 l4.length l4
 h5:Kd.C jE w A5 l5.length l5
 gw:GW w
theorem YV.below {w w':World} {B:Nat} {a:ByteArray} {b:Bool} {c:Int} {A3:Option Addr} {c3:Nat} {l3:List yT} {A4:Option Addr} {c4:Nat} {l4:List qW} {A5:Option Addr} {c5:Nat} {l5:List qM}
  (h:YV w B a b c A3 c3 l3 A4 c4 l4 A5 c5 l5) (hb:Below w.heap.size w w'):YV w' B a b c A3 c3 l3 A4 c4 l4 A5 c5 l5 :=
 ⟨(hb.block B (Array.getElem?_eq_some_iff.1 h.blk).1).trans h.blk,Kd.za h.h3 hb,Kd.za h.h4 hb,Kd.za h.h5 hb,h.gw.under hb⟩
theorem qy {w:World} {B:Nat} {cs:Array Value} {t:TypeId} (h:w.heap[B]? = some (.cells cs t (0,0))) (i:Nat) (v:Value) (hv:cs[i]? = some v):w.cell? ⟨B,i,none⟩ = some v:=by
 simp only [World.cell?,h]
 exact hv
end Go.Proofs.YtggifbbiiickmaaGreatDoor
namespace Go.Proofs.YtggifbbiiickmaaGreatDoor
open Go.RowKit Go.Proofs.zx.zJ Go.Proofs.zx.zu Go.Proofs.zx.zo Go.Proofs.YtggifbbiiickmaaGreatDoor.PX
set_option linter.unusedSimpArgs false
set_option linter.unusedVariables false
def zWv (l:List zzu) (n:ByteArray):Bool:=l.any fun x=>x.f0.toList == n.toList
theorem hasL (a:ByteArray) (b:Bool) (c:Int) (l:List zzu) (l4:List zb1) (l5:List zb2) (n:ByteArray) (hl:l.length ≤ 1000000000):∀ d i,l.length - i = d → i ≤ l.length → Ev (fun k=>Z7.l0 k n (i:Int) a b c l l4 l5) (zWv (l.drop i) n):=by
 intro d
 induction d with
 | zero =>
  intro i hd hi
  rw [List.drop_eq_nil_of_le (by omega)]
  refine jR (r:=false) rfl (Ev.step (fun k=>by rw [Z7.l0]) (yG (by omega) (Ev.now _)))
 | succ d ih =>
  intro i hd hi
  have h1:i < l.length:=by omega
  have q0:(0:Int) ≤ (i:Int):=by omega
  have q1:(i:Int) < (l.length:Int):=by omega
  have hw:wrap64 ((i:Int) + 1) = ((i + 1:Nat):Int):=(pI (by omega) (by omega)).trans (by omega)
  have hr:=ih (i + 1) (by omega) (by omega)
  have e:zzA l (i:Int) = l[i]:=by simp [zzA,List.getD_eq_getElem?_getD,h1]
  rw [List.drop_eq_getElem_cons h1]
  unfold zWv
  rw [List.any_cons]
  refine Ev.step (fun k=>by rw [Z7.l0,hw,e]) (zR q1 (zR q0 ?_))
  by_cases hx:l[i].f0.toList = n.toList
  ·refine zR hx (jR ?_ (Ev.now _))
   rw [beq_iff_eq.2 hx,Bool.true_or]
  ·refine yG hx (jR ?_ hr)
   rw [beq_eq_false_iff_ne.2 hx,Bool.false_or];rfl
end Go.Proofs.YtggifbbiiickmaaGreatDoor
namespace Go.Proofs.YtggifbbiiickmaaGreatDoor
open Go.RowKit Go.Proofs.zx.zJ Go.Proofs.zx.zu Go.Proofs.zx.zo Go.Proofs.YtggifbbiiickmaaGreatDoor.PX
set_option linter.unusedSimpArgs false
set_option linter.unusedVariables false
section
variable {P:Program} {ops:Array Oper} {Q:Exit → Act → World → Prop} {md:Region.Mode} {S:World → Prop} {ds:List Nat} {T:Bool × List (List Nat × List Nat)} {oi:Oper} {v:Value} {fuel:Nat} {l:Array Bool} {a a':Act} {w:World}
theorem rP (i:Nat) (N:Option Tmp) (HT:zk (q9 md ops = T)) (h:yK P md ops Q S ds fuel (l.setIfInBounds i true) a' w)
    (hi:ops[i]? = some oi:=by exact rfl) (hN:oi.dst = N:=by exact rfl) (hc:fU T l.toList (l.setIfInBounds i true).toList i = true:=by kernel_rfl) (hQ:∀ c a w,Q (.panic c) (a.put oi.dst v) w → Q (.panic c) a w:=by exact fun _ _ _ h=>h)
    (hg:Region.wanted oi (yielded ops a.tmps) = true:=by rfl) (hy:∀ w,(execOp a.eval oi).run P w = .ok (.value v) w:=by intro w';go_simp;with_reducible rfl) (ha:a.put N v = a':=by simp only [Act.put,List.setIfInBounds_toArray,List.set_cons_zero,List.set_cons_succ,qR,qU];rfl) :
    yK P md ops Q S ds (fuel + 1) l a w:=xk _ hi hN (qD HT.out hc) hQ (Or.inl ⟨hg,hy⟩) ha h
theorem rU (i:Nat) (N:Option Tmp) (HT:zk (q9 md ops = T)) (h:yK P md ops Q S ds fuel (l.setIfInBounds i true) a' w)
    (hi:ops[i]? = some oi:=by exact rfl) (hN:oi.dst = N:=by exact rfl) (hc:fU T l.toList (l.setIfInBounds i true).toList i = true:=by kernel_rfl) (hQ:∀ c a w,Q (.panic c) (a.put oi.dst undef) w → Q (.panic c) a w:=by exact fun _ _ _ h=>h)
    (hg:Region.wanted oi (yielded ops a.tmps) = false:=by rfl) (ha:a.put N undef = a':=by simp only [Act.put,List.setIfInBounds_toArray,List.set_cons_zero,List.set_cons_succ,qR,qU];rfl) :
    yK P md ops Q S ds (fuel + 1) l a w:=xk _ hi hN (qD HT.out hc) hQ (Or.inr ⟨hg,rfl⟩) ha h
theorem rT {B:List Nat} (i:Nat) (N:Option Tmp) (HT:zk (q9 md ops = T)) (HW:zk (xC T.2 B = true)) (hS:S w) (h:yK P md ops Q S ds fuel (l.setIfInBounds i true) a' w)
    (hi:ops[i]? = some oi:=by exact rfl) (hN:oi.dst = N:=by exact rfl) (hc:lT T B ds l.toList (l.setIfInBounds i true).toList i = true:=by kernel_rfl) (hQ:∀ c a w,Q (.panic c) (a.put oi.dst v) w → Q (.panic c) a w:=by exact fun _ _ _ h=>h)
    (hg:Region.wanted oi (yielded ops a.tmps) = true:=by rfl) (hy:∀ w,S w → (execOp a.eval oi).run P w = .ok (.value v) w:=by intro w' hs_;go_simp;with_reducible rfl) (ha:a.put N v = a':=by simp only [Act.put,List.setIfInBounds_toArray,List.set_cons_zero,List.set_cons_succ,qR,qU];rfl) :
    yK P md ops Q S ds (fuel + 1) l a w:=XL _ hi hN (X4 HT.out HW.out hc) hQ (Or.inl ⟨hg,hy⟩) hS ha h
theorem rS {X:World} {B:List Nat} {n id:Nat} (HS:zk (∀ W,Below X.heap.size X W → S W)) (hT:q9 .any ops = T) (hB:xC T.2 B = true) (hm:P.follows .mixedOrders = true) (hn:ops.size = n) (hl:Array.replicate n false = l)
    (h:∀ w,zk (Below X.heap.size X w) → zk (q9 .any ops = T) → zk (xC T.2 B = true) → S w → yK P .any ops Q S [] n l a w):(Code.region id ops true).wp P Q a X :=
  pG _ hm hn hl (HS.out _ (Below.refl _ _).drew) fun hH=>h _ ⟨(Below.refl _ _).drew⟩ ⟨hT⟩ ⟨hB⟩ hH
theorem rC {X:World} {f:FuncId} {fn:Func} {aps:Array Operand} {ts:Array TypeId} {args:Array Value} (i:Nat) (N:Option Tmp) (HT:zk (q9 md ops = T)) (HS:zk (∀ W,Below X.heap.size X W → S W)) (HY:zk (Below X.heap.size X w)) (hf:P.funcs[f]? = some fn)
    (hcall:Calls P f args w fun e w'=>e = .returned v ∧ Below w.heap.size w w') (h:∀ w',zk (Below X.heap.size X w') → S w' → yK P md ops Q S ds fuel (l.setIfInBounds i true) a' w') (hname:(fn.name == "runtime.NumGoroutine") = false)
    (hi:ops[i]? = some oi:=by exact rfl) (hN:oi.dst = N:=by exact rfl) (hc:(U2 T.2 l.toList == [i] && l.toList.set i true == (l.setIfInBounds i true).toList) = true:=by kernel_rfl) (hd:i ∉ ds:=by decide) (hb:fn.body.isSome = true:=by exact rfl) (hw:Region.wanted oi (yielded ops a.tmps) = true:=by rfl)
    (hop:oi.op = .call { callee:=.value (.func f),args:=aps,argTypes:=ts }:=by exact rfl) (hargs:aps.map a.eval = args:=by (try simp only [List.map_toArray,List.map_cons,List.map_nil]);first | done | rfl) (ha:a.put N v = a':=by simp only [Act.put,List.setIfInBounds_toArray,List.set_cons_zero,List.set_cons_succ,qR,qU];rfl) :
    yK P md ops Q S ds (fuel + 1) l a w:=by
  refine Yr _ hi hN (jY HT.out hc) hd fun K hK=>?_
  refine YL hf hname hb args hw hN hop hargs (hcall.mono ?_)
  rintro e w' ⟨rfl,hk⟩
  have h2:=HY.out.trans (hk.mono HY.out.size)
  refine ⟨_,rfl,hK.out _ _ (HS.out _ h2) fun hH=>?_⟩
  rw [ha]
  exact h _ ⟨h2⟩ hH
end
def rval.T19:Bool × List (List Nat × List Nat):=(true,[([],[]),([],[]),([1],[1]),([0,2],[0,2]),([3],[3]),([4,3],[4]),([5],[5]),([5],[5]),([7,5],[5,7]),([6,8,5,5],[5,6,8]),([9,5],[5,9]),([5,10],[5,10]),([11,9],[11]),([12],[12]),([13,12],[12,13]),([14,12],[12,14]),([12,15],[12,15]),([16,12],[16]),([17],[17]),([18,17],[17,18]),([19,17],[17,19]),([17,20],[17,20]),([21,17],[21]),([22],[22]),([23,22],[22,23]),([24,22],[22,24]),([22,25],[22,25]),([26,22],[26]),([27],[27]),([28,27],[27,28]),([29,27,27],[27,29]),([30],[30]),([31,30],[30,31]),([30],[30]),([33,30],[30,33]),([32,34,30],[30,32,34]),([35,30],[30,35]),([36,30],[30,36]),([30],[30]),([38,30],[30,38]),([30],[30]),([40,30],[30,40]),([39,41,30],[30,39,41]),([42,30],[30,42]),([43,30],[30,43]),([30],[30]),([45,30],[30,45]),([30],[30]),([47,30],[30,47]),([37,44,46,48,30,30],[30,37,44,46,48]),([49,30],[30,49]),([30,50,27],[27,30,50]),([27,51],[27,51])])
def rval.B19:List Nat:=[0,0,2,7,15,31,63,63,191,511,1023,2047,4095,8191,16383,32767,65535,131071,262143,524287,1048575,2097151,4194303,8388607,16777215,33554431,67108863,134217727,268435455,536870911,1073741823,2147483647,4294967295,2147483647,10737418239,34359738367,68719476735,137438953471,2147483647,277025390591,2147483647,1101659111423,4125316087807,8523362598911,17319455621119,2147483647,35186519572479,2147483647,140739635838975,562949953421311,1125899906842623,2251799813685247,4503599627370495]
theorem rval.zWk:q9 .any (opsOf Tryz.f106 19) = rval.T19:=by kernel_rfl
theorem rval.zVx:xC rval.T19.2 rval.B19 = true:=by kernel_rfl
end Go.Proofs.YtggifbbiiickmaaGreatDoor
namespace Go.Proofs.YtggifbbiiickmaaGreatDoor
open Go.RowKit Go.Shelf Go.Proofs.zx.zJ Go.Proofs.zx.zo Go.Proofs.YtggifbbiiickmaaGreatDoor.PX
set_option linter.unusedSimpArgs false
set_option linter.unusedVariables false
theorem zyY {w:World} {g:Nat} {ns:List ByteArray} {t:TypeId} (h:w.heap[g]? = some (.cells (ns.map Value.string).toArray t (0,0))) (hn:ns.length ≤ 1000):Kd.C Kd.string w (some ⟨g,0,none⟩) ns.length ns:=by
 refine ⟨rfl,by omega,fun _=>⟨_,rfl,fun j p hj=>⟨[.string p],rfl,rfl,fun i u hi=>?_⟩⟩⟩
 rcases i with _ | i
 ·cases hi
  have hs:Kd.string.sz = 1:=rfl
  rw [Addr.add_lit,hs]
  refine qy h _ _ ?_
  simp [hj]
 ·simp at hi
def zvS (l3:List yT) (x:qW):Bool:=!eT l3 [x.f0,x.f1,x.f2]
def eU (l3:List yT) (x:qM):Bool:=decide (x.f2 = 0) || (decide (x.f2 < -500) || (decide (500 < x.f2) || !eT l3 [x.f0,x.f1]))
set_option maxRecDepth 100000 in
set_option maxHeartbeats 1000000 in
theorem zKB (B:Nat) (a:ByteArray) (b:Bool) (c:Int) (A3:Option Addr) (c3:Nat) (l3:List yT) (A4:Option Addr) (c4:Nat) (l4:List qW) (A5:Option Addr) (c5:Nat) (l5:List qM) (g3:l3.length ≤ c3) (g4:l4.length ≤ c4) (g5:l5.length ≤ c5) (hl3:l3.length ≤ 1000000000) (w:World) (hF:YV w B a b c A3 c3 l3 A4 c4 l4 A5 c5 l5) :
  PredBelow Tryz.prog 93 #[.pointer (some ⟨B,0,none⟩)] (fun x=>.agg (zvN x).toArray) (zvS l3) w:=fun W x hb=>by
 have hl:=(Array.getElem?_eq_some_iff.1 hF.blk).1
 have Qi:=hF.below hb
 have hlW:B < W.heap.size:=Nat.lt_of_lt_of_le hl hb.size
 show Calls Tryz.prog 93 #[.agg #[.string x.f0,.string x.f1,.string x.f2],.pointer (some ⟨B,0,none⟩)] W _
 have hbW:Below W.heap.size W ((W.alloc (.cells #[.string x.f0,.string x.f1,.string x.f2] 108)).alloc (.cells #[.string x.f0,.string x.f1,.string x.f2] 9)):=((Below.refl _ W).alloc (Nat.le_refl _) _).alloc (by simp) _
 have hF2:=Qi.below hbW
 have hblk:((W.alloc (.cells #[.string x.f0,.string x.f1,.string x.f2] 108)).alloc (.cells #[.string x.f0,.string x.f1,.string x.f2] 9)).heap[W.heap.size + 1]? = some (.cells (([x.f0,x.f1,x.f2].map Value.string).toArray) 9 (0,0)):=by
  have:=World.alloc_heap_new (W.alloc (.cells #[.string x.f0,.string x.f1,.string x.f2] 108)) (.cells #[.string x.f0,.string x.f1,.string x.f2] 9)
  rwa [World.size_alloc] at this
 have ha:=zyK a b c A3 c3 l3 A4 c4 l4 A5 c5 l5 _ 3 [x.f0,x.f1,x.f2] _ hF2.h3 g3 hF2.h4 g4 hF2.h5 g5 (zyY hblk (by simp)) (by simp) hF2.gw hl3 (by simp)
 have k0:=qy Qi.blk 0 _ rfl
 have k1:=qy Qi.blk 1 _ rfl
 have k2:=qy Qi.blk 2 _ rfl
 have k3:=qy Qi.blk 3 _ rfl
 have k4:=qy Qi.blk 4 _ rfl
 have k5:=qy Qi.blk 5 _ rfl
 have hend:=hb.trans (hbW.mono hb.size)
 unfold zvS
 generalize eT l3 [x.f0,x.f1,x.f2] = r at ha ⊢
 clear hF Qi hF2 hblk hb g3 g4 g5
 go_enter Tryz.func93,Tryz.ntmps93
 go_wp2_with (go_at_call 94;refine ha.mono ?_;rintro e w1 ⟨rfl,hb1⟩)
 go_ret
 exact ⟨rfl,hend.trans (hb1.mono hend.size)⟩
set_option maxRecDepth 100000 in
set_option maxHeartbeats 1000000 in
theorem zKC (B:Nat) (a:ByteArray) (b:Bool) (c:Int) (A3:Option Addr) (c3:Nat) (l3:List yT) (A4:Option Addr) (c4:Nat) (l4:List qW) (A5:Option Addr) (c5:Nat) (l5:List qM) (g3:l3.length ≤ c3) (g4:l4.length ≤ c4) (g5:l5.length ≤ c5) (hl3:l3.length ≤ 1000000000) (w:World) (hF:YV w B a b c A3 c3 l3 A4 c4 l4 A5 c5 l5) :
  PredBelow Tryz.prog 98 #[.pointer (some ⟨B,0,none⟩)] (fun x=>.agg (zvO x).toArray) (eU l3) w:=fun W x hb=>by
 have hl:=(Array.getElem?_eq_some_iff.1 hF.blk).1
 have Qi:=hF.below hb
 have hlW:B < W.heap.size:=Nat.lt_of_lt_of_le hl hb.size
 show Calls Tryz.prog 98 #[.agg #[.string x.f0,.string x.f1,.int .i64 x.f2],.pointer (some ⟨B,0,none⟩)] W _
 have hb1:Below w.heap.size w (W.alloc (.cells #[.string x.f0,.string x.f1,.int .i64 x.f2] 111)):=hb.alloc hb.size _
 unfold eU
 by_cases q0:x.f2 = 0
 ·have d0:(x.f2 == 0) = true:=beq_iff_eq.2 q0
  rw [decide_eq_true q0]
  clear q0 hF Qi
  go_enter Tryz.func98,Tryz.ntmps98
  go_wp2
  go_ret
  exact ⟨rfl,hb1⟩
 ·have d0:(x.f2 == 0) = false:=beq_eq_false_iff_ne.2 q0
  rw [decide_eq_false q0,Bool.false_or]
  clear q0
  by_cases q1:x.f2 < -500
  ·have d1:decide (x.f2 < -500) = true:=decide_eq_true q1
   rw [d1]
   clear q1 hF Qi
   go_enter Tryz.func98,Tryz.ntmps98
   go_wp2
   go_ret
   exact ⟨rfl,hb1⟩
  ·have d1:decide (x.f2 < -500) = false:=decide_eq_false q1
   rw [d1,Bool.false_or]
   clear q1
   by_cases q2:500 < x.f2
   ·have d2:decide (500 < x.f2) = true:=decide_eq_true q2
    rw [d2]
    clear q2 hF Qi
    go_enter Tryz.func98,Tryz.ntmps98
    go_wp2
    go_ret
    exact ⟨rfl,hb1⟩
   ·have d2:decide (500 < x.f2) = false:=decide_eq_false q2
    rw [d2,Bool.false_or]
    clear q2
    have hbW:Below W.heap.size W ((W.alloc (.cells #[.string x.f0,.string x.f1,.int .i64 x.f2] 111)).alloc (.cells #[.string x.f0,.string x.f1] 9)):=((Below.refl _ W).alloc (Nat.le_refl _) _).alloc (by simp) _
    have hF2:=Qi.below hbW
    have hblk:((W.alloc (.cells #[.string x.f0,.string x.f1,.int .i64 x.f2] 111)).alloc (.cells #[.string x.f0,.string x.f1] 9)).heap[W.heap.size + 1]? = some (.cells (([x.f0,x.f1].map Value.string).toArray) 9 (0,0)):=by
     have:=World.alloc_heap_new (W.alloc (.cells #[.string x.f0,.string x.f1,.int .i64 x.f2] 111)) (.cells #[.string x.f0,.string x.f1] 9)
     rwa [World.size_alloc] at this
    have ha:=zyK a b c A3 c3 l3 A4 c4 l4 A5 c5 l5 _ 2 [x.f0,x.f1] _ hF2.h3 g3 hF2.h4 g4 hF2.h5 g5 (zyY hblk (by simp)) (by simp) hF2.gw hl3 (by simp)
    have k0:=qy Qi.blk 0 _ rfl
    have k1:=qy Qi.blk 1 _ rfl
    have k2:=qy Qi.blk 2 _ rfl
    have k3:=qy Qi.blk 3 _ rfl
    have k4:=qy Qi.blk 4 _ rfl
    have k5:=qy Qi.blk 5 _ rfl
    have hend:=hb.trans (hbW.mono hb.size)
    generalize eT l3 [x.f0,x.f1] = r at ha ⊢
    clear hF Qi hF2 hblk hb g3 g4 g5
    go_enter Tryz.func98,Tryz.ntmps98
    go_wp2_with (go_at_call 94;refine ha.mono ?_;rintro e w1 ⟨rfl,hb1⟩)
    go_ret
    exact ⟨rfl,hend.trans (hb1.mono hend.size)⟩
def xW (a:ByteArray) (c:Int) (l3:List yT) (l4:List qW) (l5:List qM):Bool :=
 if (!oK a.data.toList || (Js c || (decide (400 < l3.length) || (decide (50 < l4.length) || decide (500 < l5.length))))) = true then false
 else if (l3.any zzC || !Yt (fun i j=>V7 (qb l3 (i:Int)) (qb l3 (j:Int))) l3.length) = true then false
 else if (l4.any (zvS l3) || !Yt (fun i j=>cmpL (vW l4 (i:Int)) (vW l4 (j:Int))) l4.length) = true then false
 else !l5.any (eU l3) && Yt (fun i j=>Km (vB l5 (i:Int)) (vB l5 (j:Int))) l5.length
set_option maxRecDepth 100000 in
set_option maxHeartbeats 4000000 in
theorem zVj (a:ByteArray) (b:Bool) (c:Int) (A3:Option Addr) (c3:Nat) (l3:List yT) (A4:Option Addr) (c4:Nat) (l4:List qW) (A5:Option Addr) (c5:Nat) (l5:List qM) (g3:l3.length ≤ c3) (g4:l4.length ≤ c4) (g5:l5.length ≤ c5) (hl3:l3.length ≤ 1000000000) (hl4:l4.length ≤ 1000000000) (hl5:l5.length ≤ 1000000000) (w:World) (h3:Kd.C vk w A3 l3.length l3) (h4:Kd.C jg w A4 l4.length l4) (h5:Kd.C jE w A5 l5.length l5) (hG:GW w) :
  Calls Tryz.prog 39 #[.agg #[.string a,.bool b,.int .i64 c,.slice A3 l3.length c3,.slice A4 l4.length c4,.slice A5 l5.length c5]] w fun e w'=>e = .returned (.bool (xW a c l3 l4 l5)) ∧ Below w.heap.size w w':=by
 have hw1:Below w.heap.size w ((w.alloc (.cells #[.string a,.bool b,.int .i64 c,.slice A3 l3.length c3,.slice A4 l4.length c4,.slice A5 l5.length c5] 60)).alloc (.cells #[.func (.func 84) #[] #[]] 138)):=((Below.refl _ w).alloc (Nat.le_refl _) _).alloc (by simp) _
 have hblk:((w.alloc (.cells #[.string a,.bool b,.int .i64 c,.slice A3 l3.length c3,.slice A4 l4.length c4,.slice A5 l5.length c5] 60)).alloc (.cells #[.func (.func 84) #[] #[]] 138)).heap[w.heap.size]? = some (.cells #[.string a,.bool b,.int .i64 c,.slice A3 l3.length c3,.slice A4 l4.length c4,.slice A5 l5.length c5] 60 (0,0)) :=
  (Below.heap_alloc _ _ _ (by simp)).trans (World.alloc_heap_new w _)
 have Pb:((w.alloc (.cells #[.string a,.bool b,.int .i64 c,.slice A3 l3.length c3,.slice A4 l4.length c4,.slice A5 l5.length c5] 60)).alloc (.cells #[.func (.func 84) #[] #[]] 138)).heap[w.heap.size + 1]? = some (.cells #[.func (.func 84) #[] #[]] 138 (0,0)):=by
  have:=World.alloc_heap_new (w.alloc (.cells #[.string a,.bool b,.int .i64 c,.slice A3 l3.length c3,.slice A4 l4.length c4,.slice A5 l5.length c5] 60)) (.cells #[.func (.func 84) #[] #[]] 138)
  rwa [World.size_alloc] at this
 have hF:YV ((w.alloc (.cells #[.string a,.bool b,.int .i64 c,.slice A3 l3.length c3,.slice A4 l4.length c4,.slice A5 l5.length c5] 60)).alloc (.cells #[.func (.func 84) #[] #[]] 138)) w.heap.size a b c A3 c3 l3 A4 c4 l4 A5 c5 l5:=⟨hblk,Kd.za h3 hw1,Kd.za h4 hw1,Kd.za h5 hw1,hG.under hw1⟩
 have hfn:=zvk a ((w.alloc (.cells #[.string a,.bool b,.int .i64 c,.slice A3 l3.length c3,.slice A4 l4.length c4,.slice A5 l5.length c5] 60)).alloc (.cells #[.func (.func 84) #[] #[]] 138))
 have hwd:=fun W=>zvR c W
 have hhG:=fun W (hF:YV W w.heap.size a b c A3 c3 l3 A4 c4 l4 A5 c5 l5) (hB:W.cell? ⟨w.heap.size + 1,0,none⟩ = some (.func (.func 84) #[] #[]))=>zvP A3 c3 l3 W hF.h3 hl3 zzC 87 #[.pointer (some ⟨w.heap.size + 1,0,none⟩)] (enters_of Tryz.func87 (by kernel_rfl) rfl) (zKA _ W hB)
 have haG:=fun W (hF:YV W w.heap.size a b c A3 c3 l3 A4 c4 l4 A5 c5 l5)=>zKi A3 c3 l3 W hF.h3 hl3
 have hhL:=fun W (hF:YV W w.heap.size a b c A3 c3 l3 A4 c4 l4 A5 c5 l5)=>zKt A4 c4 l4 W hF.h4 hl4 (zvS l3) 93 #[.pointer (some ⟨w.heap.size,0,none⟩)] (enters_of Tryz.func93 (by kernel_rfl) rfl) (zKB _ a b c A3 c3 l3 A4 c4 l4 A5 c5 l5 g3 g4 g5 hl3 W hF)
 have haL:=fun W (hF:YV W w.heap.size a b c A3 c3 l3 A4 c4 l4 A5 c5 l5)=>zKo A4 c4 l4 W hF.h4 hl4
 have hhK:=fun W (hF:YV W w.heap.size a b c A3 c3 l3 A4 c4 l4 A5 c5 l5)=>zKu A5 c5 l5 W hF.h5 hl5 (eU l3) 98 #[.pointer (some ⟨w.heap.size,0,none⟩)] (enters_of Tryz.func98 (by kernel_rfl) rfl) (zKC _ a b c A3 c3 l3 A4 c4 l4 A5 c5 l5 g3 g4 g5 hl3 W hF)
 have haK:=fun W (hF:YV W w.heap.size a b c A3 c3 l3 A4 c4 l4 A5 c5 l5)=>zKp A5 c5 l5 W hF.h5 hl5
 generalize hR:xW a c l3 l4 l5 = R
 have HR:=Lib.hid hR
 unfold xW at hR
 generalize oK a.data.toList = b1 at hfn hR
 generalize Js c = b2 at hwd hR
 generalize l3.any zzC = b6 at hhG hR
 generalize Yt (fun i j=>V7 (qb l3 (i:Int)) (qb l3 (j:Int))) l3.length = b7 at haG hR
 generalize l4.any (zvS l3) = b8 at hhL hR
 generalize Yt (fun i j=>cmpL (vW l4 (i:Int)) (vW l4 (j:Int))) l4.length = b9 at haL hR
 generalize l5.any (eU l3) = b10 at hhK hR
 generalize Yt (fun i j=>Km (vB l5 (i:Int)) (vB l5 (j:Int))) l5.length = b11 at haK hR
 clear g3 g4 g5 h3 h4 h5 hG HR
 go_enter Tryz.func39,Tryz.ntmps39
 have HF0:=Lib.hid hF
 have K0:=Lib.hid (qy Pb 0 _ rfl)
 have HW0:=Lib.hid hw1
 have c0:=qy hblk 0 _ rfl
 have c2:=qy hblk 2 _ rfl
 have Wh:=qy hblk 3 _ rfl
 have Wi:=qy hblk 4 _ rfl
 have Wm:=qy hblk 5 _ rfl
 clear hF hblk Pb hw1
 go_wp2_with fail
 generalize ((w.alloc (.cells #[.string a,.bool b,.int .i64 c,.slice A3 l3.length c3,.slice A4 l4.length c4,.slice A5 l5.length c5] 60)).alloc (.cells #[.func (.func 84) #[] #[]] 138)) = W0 at hfn HF0 K0 HW0 c0 c2 Wh Wi Wm ⊢
 refine hfn.mono ?_;rintro e W1 ⟨rfl,hb1⟩
 clear hfn c0 c2 Wh Wi Wm
 have HF1:=Lib.hid (HF0.out.below hb1)
 have K1:=Lib.hid ((hb1.cell (World.block_lt_of_cell? _ _ K0.out)).trans K0.out)
 have HW1:=Lib.hid (HW0.out.trans (hb1.mono HW0.out.size))
 clear hb1
 have c2:=qy HF1.out.blk 2 _ rfl
 have Wh:=qy HF1.out.blk 3 _ rfl
 have Wi:=qy HF1.out.blk 4 _ rfl
 have Wm:=qy HF1.out.blk 5 _ rfl
 have cb:=K1.out
 cases b1 with
 | false =>
  obtain rfl:false = R:=by simpa using hR
  clear hR
  go_wp2_with fail
  go_ret
  exact ⟨rfl,HW1.out⟩
 | true =>
  go_wp2_with fail
  refine (hwd _).mono ?_;rintro e W1x ⟨rfl,hx⟩;subst hx
  cases b2 with
  | false =>
   by_cases q3:400 < l3.length
   ·have dq3:decide ((400:Int) < (l3.length:Int)) = true:=decide_eq_true (by omega)
    rw [decide_eq_true q3] at hR
    clear q3
    obtain rfl:false = R:=by simpa using hR
    clear hR
    go_wp2_with fail
    go_ret
    exact ⟨rfl,HW1.out⟩
   ·have dq3:decide ((400:Int) < (l3.length:Int)) = false:=decide_eq_false (by omega)
    rw [decide_eq_false q3] at hR
    clear q3
    by_cases q4:50 < l4.length
    ·have dq4:decide ((50:Int) < (l4.length:Int)) = true:=decide_eq_true (by omega)
     rw [decide_eq_true q4] at hR
     clear q4
     obtain rfl:false = R:=by simpa using hR
     clear hR
     go_wp2_with fail
     go_ret
     exact ⟨rfl,HW1.out⟩
    ·have dq4:decide ((50:Int) < (l4.length:Int)) = false:=decide_eq_false (by omega)
     rw [decide_eq_false q4] at hR
     clear q4
     by_cases q5:500 < l5.length
     ·have dq5:decide ((500:Int) < (l5.length:Int)) = true:=decide_eq_true (by omega)
      rw [decide_eq_true q5] at hR
      clear q5
      obtain rfl:false = R:=by simpa using hR
      clear hR
      go_wp2_with fail
      go_ret
      exact ⟨rfl,HW1.out⟩
     ·have dq5:decide ((500:Int) < (l5.length:Int)) = false:=decide_eq_false (by omega)
      rw [decide_eq_false q5] at hR
      clear q5
      simp only [Bool.not_true,Bool.or_self,Bool.false_eq_true,if_false,Bool.or_false] at hR
      go_wp2_with fail
      refine (hhG _ HF1.out K1.out).mono ?_;rintro e W2 ⟨rfl,hb2⟩
      clear c2 Wh Wi Wm cb
      have om:=Lib.hid (HF1.out.below hb2)
      have K2:=Lib.hid ((hb2.cell (World.block_lt_of_cell? _ _ K1.out)).trans K1.out)
      have HW2:=Lib.hid (HW1.out.trans (hb2.mono HW1.out.size))
      clear hb2
      have c2:=qy om.out.blk 2 _ rfl
      have Wh:=qy om.out.blk 3 _ rfl
      have Wi:=qy om.out.blk 4 _ rfl
      have Wm:=qy om.out.blk 5 _ rfl
      have cb:=K2.out
      cases b6 with
      | false =>
       go_wp2_with fail
       refine (haG _ om.out).mono ?_;rintro e W3 ⟨rfl,hb3⟩
       clear c2 Wh Wi Wm cb
       have HF3:=Lib.hid (om.out.below hb3)
       have K3:=Lib.hid ((hb3.cell (World.block_lt_of_cell? _ _ K2.out)).trans K2.out)
       have HW3:=Lib.hid (HW2.out.trans (hb3.mono HW2.out.size))
       clear hb3
       have c2:=qy HF3.out.blk 2 _ rfl
       have Wh:=qy HF3.out.blk 3 _ rfl
       have Wi:=qy HF3.out.blk 4 _ rfl
       have Wm:=qy HF3.out.blk 5 _ rfl
       have cb:=K3.out
       cases b7 with
       | false =>
        obtain rfl:false = R:=by simpa using hR
        clear hR
        go_wp2_with fail
        go_ret
        exact ⟨rfl,HW3.out⟩
       | true =>
        go_wp2_with fail
        refine (hhL _ HF3.out).mono ?_;rintro e W4 ⟨rfl,hb4⟩
        clear c2 Wh Wi Wm cb
        have HF4:=Lib.hid (HF3.out.below hb4)
        have K4:=Lib.hid ((hb4.cell (World.block_lt_of_cell? _ _ K3.out)).trans K3.out)
        have HW4:=Lib.hid (HW3.out.trans (hb4.mono HW3.out.size))
        clear hb4
        have c2:=qy HF4.out.blk 2 _ rfl
        have Wh:=qy HF4.out.blk 3 _ rfl
        have Wi:=qy HF4.out.blk 4 _ rfl
        have Wm:=qy HF4.out.blk 5 _ rfl
        have cb:=K4.out
        cases b8 with
        | false =>
         go_wp2_with fail
         refine (haL _ HF4.out).mono ?_;rintro e W5 ⟨rfl,hb5⟩
         clear c2 Wh Wi Wm cb
         have HF5:=Lib.hid (HF4.out.below hb5)
         have K5:=Lib.hid ((hb5.cell (World.block_lt_of_cell? _ _ K4.out)).trans K4.out)
         have oo:=Lib.hid (HW4.out.trans (hb5.mono HW4.out.size))
         clear hb5
         have c2:=qy HF5.out.blk 2 _ rfl
         have Wh:=qy HF5.out.blk 3 _ rfl
         have Wi:=qy HF5.out.blk 4 _ rfl
         have Wm:=qy HF5.out.blk 5 _ rfl
         have cb:=K5.out
         cases b9 with
         | false =>
          obtain rfl:false = R:=by simpa using hR
          clear hR
          go_wp2_with fail
          go_ret
          exact ⟨rfl,oo.out⟩
         | true =>
          go_wp2_with fail
          refine (hhK _ HF5.out).mono ?_;rintro e W6 ⟨rfl,hb6⟩
          clear c2 Wh Wi Wm cb
          have HF6:=Lib.hid (HF5.out.below hb6)
          have K6:=Lib.hid ((hb6.cell (World.block_lt_of_cell? _ _ K5.out)).trans K5.out)
          have nV:=Lib.hid (oo.out.trans (hb6.mono oo.out.size))
          clear hb6
          have c2:=qy HF6.out.blk 2 _ rfl
          have Wh:=qy HF6.out.blk 3 _ rfl
          have Wi:=qy HF6.out.blk 4 _ rfl
          have Wm:=qy HF6.out.blk 5 _ rfl
          have cb:=K6.out
          cases b10 with
          | false =>
           go_wp2_with fail
           refine (haK _ HF6.out).mono ?_;rintro e W7 ⟨rfl,hb7⟩
           clear c2 Wh Wi Wm cb
           have HF7:=Lib.hid (HF6.out.below hb7)
           have K7:=Lib.hid ((hb7.cell (World.block_lt_of_cell? _ _ K6.out)).trans K6.out)
           have HW7:=Lib.hid (nV.out.trans (hb7.mono nV.out.size))
           clear hb7
           obtain rfl:b11 = R:=by simpa using hR
           clear hR
           go_wp2_with fail
           go_ret
           exact ⟨rfl,HW7.out⟩
          | true =>
           obtain rfl:false = R:=by simpa using hR
           clear hR
           go_wp2_with fail
           go_ret
           exact ⟨rfl,nV.out⟩
        | true =>
         obtain rfl:false = R:=by simpa using hR
         clear hR
         go_wp2_with fail
         go_ret
         exact ⟨rfl,HW4.out⟩
      | true =>
       obtain rfl:false = R:=by simpa using hR
       clear hR
       go_wp2_with fail
       go_ret
       exact ⟨rfl,HW2.out⟩
  | true =>
   obtain rfl:false = R:=by simpa using hR
   clear hR
   go_wp2_with fail
   go_ret
   exact ⟨rfl,HW1.out⟩
def jo.f (ze:ByteArray) (_:Bool) (zi:Int) (yZ:List yT) (yB:List qW) (yC:List qM):Option Bool:=if yZ.length ≤ 1000000000 ∧ yB.length ≤ 1000000000 ∧ yC.length ≤ 1000000000 then some (xW ze zi yZ yB yC) else none
theorem jo.calls (ze:ByteArray) (zn:Bool) (zi:Int) (qB:Option Addr) (qC:Nat) (yZ:List yT) (qF:Option Addr) (qG:Nat) (yB:List qW) (qH:Option Addr) (qI:Nat) (yC:List qM) (r:Bool) (w:World) (wP:Kd.C vk w qB yZ.length yZ) (YP:yZ.length ≤ qC) (YR:Kd.C jg w qF yB.length yB) (YS:yB.length ≤ qG) (YT:Kd.C jE w qH yC.length yC) (YU:yC.length ≤ qI) (hG:GW w) (h:jo.f ze zn zi yZ yB yC = some r) :
  Calls Tryz.prog 39 #[.agg #[.string ze,.bool zn,.int .i64 zi,.slice qB yZ.length qC,.slice qF yB.length qG,.slice qH yC.length qI]] w fun e w'=>e = .returned (.bool r) ∧ Below w.heap.size w w':=by
 unfold jo.f at h
 split at h
 ·rename_i hl
  obtain rfl:=Option.some.inj h
  exact zVj ze zn zi qB qC yZ qF qG yB qH qI yC YP YS YU hl.1 hl.2.1 hl.2.2 w wP YR YT hG
 ·cases h
end Go.Proofs.YtggifbbiiickmaaGreatDoor
namespace Go.Proofs.YtggifbbiiickmaaGreatDoor
open Go.RowKit Go.Proofs.zx.zJ Go.Proofs.zx.zo Go.Proofs.YtggifbbiiickmaaGreatDoor.PX
set_option linter.unusedSimpArgs false
set_option linter.unusedVariables false
theorem zvT (a b:ByteArray):Op.bytesLess a.toList b.toList = true ↔ a.toList < b.toList:=by rw [Go.Proofs.bytesLess_eq];exact decide_eq_true_iff
theorem iq {a b:ByteArray}:xE a b < 0 ↔ a.toList < b.toList:=by
 rw [← zvT]
 unfold xE
 by_cases h1:Op.bytesLess a.toList b.toList = true
 ·simp [h1]
 ·by_cases h2:Op.bytesLess b.toList a.toList = true <;> simp [h1,h2]
theorem fV {a b:ByteArray}:a.toList = b.toList ↔ a = b:=by
 constructor
 ·intro h
  rw [Lib.toList_data,Lib.toList_data] at h
  exact ByteArray.ext (Array.toList_inj.1 h)
 ·rintro rfl
  rfl
theorem zj2 (a:ByteArray):xE a a = 0:=by
 unfold xE
 have h:¬ Op.bytesLess a.toList a.toList = true:=by rw [zvT];exact List.lt_irrefl _
 rw [if_neg h,if_neg h]
theorem zVv {a b:ByteArray}:xE a b = 0 ↔ a = b:=by
 constructor
 ·intro h
  unfold xE at h
  by_cases h1:Op.bytesLess a.toList b.toList = true
  ·rw [if_pos h1] at h;cases h
  ·rw [if_neg h1] at h
   by_cases h2:Op.bytesLess b.toList a.toList = true
   ·rw [if_pos h2] at h;cases h
   ·rw [zvT] at h1 h2
    exact fV.1 (List.le_antisymm (List.not_lt.1 h2) (List.not_lt.1 h1))
 ·rintro rfl
  exact zj2 a
theorem iy (l:List yT) (i:Nat) (h:i < l.length):qb l (i:Int) = l[i]:=by simp [qb,List.getD_eq_getElem?_getD,h]
def Asc (l:List yT):Prop:=∀ (i j:Nat) (hi:i < l.length) (hj:j < l.length),i < j → l[i].f0.toList < l[j].f0.toList
theorem zcx {l:List yT} (h:Yt (fun i j=>V7 (qb l (i:Int)) (qb l (j:Int))) l.length = true):Asc l:=by
 have h1:∀ (i:Nat) (hi:i + 1 < l.length),l[i].f0.toList < l[i + 1].f0.toList:=by
  intro i hi
  have h2:=List.all_eq_true.1 h i (List.mem_range.2 (by omega))
  rw [decide_eq_true_iff] at h2
  have h2:V7 (qb l (i:Int)) (qb l ((i + 1:Nat):Int)) < 0:=h2
  rw [iy l i (by omega),iy l (i + 1) hi] at h2
  exact iq.1 h2
 have h3:∀ (d i:Nat) (hi:i + d + 1 < l.length),l[i].f0.toList < l[i + d + 1].f0.toList:=by
  intro d
  induction d with
  | zero=>intro i hi;exact h1 i hi
  | succ d ih=>intro i hi;exact List.lt_trans (ih i (by omega)) (h1 (i + d + 1) hi)
 intro i j hi hj hij
 have h4:=h3 (j - i - 1) i (by omega)
 have e:i + (j - i - 1) + 1 = j:=by omega
 simpa only [e] using h4
theorem zKD (l:List yT) (n:ByteArray) (ha:Asc l) (i j:Nat) (hij:i ≤ j) (hj:j ≤ l.length) (h1:∀ (m:Nat) (hm:m < l.length),m < i → l[m].f0.toList < n.toList) (h2:∀ (m:Nat) (hm:m < l.length),j ≤ m → ¬ l[m].f0.toList < n.toList) :
  (∀ (m:Nat) (hm:m < l.length),m < U6 l n i j → l[m].f0.toList < n.toList) ∧ (∀ (m:Nat) (hm:m < l.length),U6 l n i j ≤ m → ¬ l[m].f0.toList < n.toList):=by
 fun_induction U6 l n i j with
 | case1 i j hlt hc ih =>
  have hm:(i + j) / 2 < l.length:=by omega
  rw [iy l _ hm,iq] at hc
  refine ih (by omega) hj (fun m hml aT=>?_) h2
  by_cases he:m = (i + j) / 2
  ·subst he;exact hc
  ·exact List.lt_trans (ha m _ hml hm (by omega)) hc
 | case2 i j hlt hc ih =>
  have hm:(i + j) / 2 < l.length:=by omega
  rw [iy l _ hm,iq] at hc
  refine ih (by omega) (by omega) h1 (fun m hml aT hlt'=>?_)
  by_cases he:m = (i + j) / 2
  ·subst he;exact hc hlt'
  ·exact hc (List.lt_trans (ha _ m hm hml (by omega)) hlt')
 | case3 i j hlt =>
  obtain rfl:i = j:=by omega
  exact ⟨h1,h2⟩
theorem zad (l:List yT) (ha:Asc l) (m:Nat) (hm:m < l.length):YO l l[m].f0 = ((m:Int),true):=by
 obtain ⟨h1,h2⟩:=zKD l l[m].f0 ha 0 l.length (Nat.zero_le _) (Nat.le_refl _) (fun m _ h=>absurd h (Nat.not_lt_zero _)) (fun m hm h=>absurd hm (by omega))
 have e:U6 l l[m].f0 0 l.length = m:=by
  rcases Nat.lt_trichotomy (U6 l l[m].f0 0 l.length) m with h | h | h
  ·exact absurd (ha _ m (by omega) hm h) (h2 _ (by omega) (Nat.le_refl _))
  ·exact h
  ·exact absurd (h1 m hm h) (List.lt_irrefl _)
 unfold YO
 simp only [e,decide_eq_true hm,Bool.true_and,iy l m hm]
 rw [zj2]
 rfl
theorem zae (l:List yT) (n:ByteArray) (h:∀ x ∈ l,x.f0 ≠ n):(YO l n).2 = false:=by
 unfold YO
 simp only
 by_cases hi:U6 l n 0 l.length < l.length
 ·rw [iy l _ hi]
  have:¬ xE l[U6 l n 0 l.length].f0 n = 0:=fun e=>h _ (List.getElem_mem hi) (zVv.1 e)
  rw [decide_eq_false this,Bool.and_false]
 ·rw [decide_eq_false hi,Bool.false_and]
end Go.Proofs.YtggifbbiiickmaaGreatDoor
namespace Go.Proofs.YtggifbbiiickmaaGreatDoor
open Go.RowKit Go.Shelf Go.Proofs.zx.zJ Go.Proofs.zx.zu Go.Proofs.zx.zo Go.Proofs.YtggifbbiiickmaaGreatDoor.PX
set_option linter.unusedSimpArgs false
set_option linter.unusedVariables false
set_option maxRecDepth 100000 in
theorem zVk (B:Nat) (n:ByteArray) (w:World) (hB:w.cell? ⟨B,0,none⟩ = some (.string n)) :
  PredBelow Tryz.prog 160 #[.pointer (some ⟨B,0,none⟩)] (fun x=>.agg (wF x).toArray) (fun x:yT=>x.f0.toList == n.toList) w:=fun W x hb=>by
 have hl:=World.block_lt_of_cell? w _ hB
 have hlW:B < W.heap.size:=Nat.lt_of_lt_of_le hl hb.size
 have hc:(W.alloc (.cells #[.string x.f0,.int .i64 x.f1] 105)).cell? ⟨B,0,none⟩ = some (.string n):=(World.cell?_alloc_lt _ _ _ hlW).trans ((hb.cell hl).trans hB)
 have hb0:Below w.heap.size w (W.alloc (.cells #[.string x.f0,.int .i64 x.f1] 105)):=hb.alloc hb.size _
 show Calls Tryz.prog 160 #[.agg #[.string x.f0,.int .i64 x.f1],.pointer (some ⟨B,0,none⟩)] W _
 clear hb hB hl
 go_enter Tryz.func160,Tryz.ntmps160
 go_wp2
 go_ret
 exact ⟨by first | rfl | (simp;done),hb0⟩
def gu (l:List yT) (n:ByteArray):Bool:=l.any fun x=>x.f0.toList == n.toList
def X9.f (_:ByteArray) (_:Bool) (_:Int) (yZ:List yT) (_:List qW) (_:List qM) (a1:ByteArray):Option Bool:=if yZ.length ≤ 1000000000 then some (gu yZ a1) else none
theorem X9.calls (ze:ByteArray) (zn:Bool) (zi:Int) (qB:Option Addr) (qC:Nat) (yZ:List yT) (qF:Option Addr) (qG:Nat) (yB:List qW) (qH:Option Addr) (qI:Nat) (yC:List qM) (a1:ByteArray) (r:Bool) (w:World) (wP:Kd.C vk w qB yZ.length yZ) (_:yZ.length ≤ qC) (_:Kd.C jg w qF yB.length yB) (_:yB.length ≤ qG) (_:Kd.C jE w qH yC.length yC) (_:yC.length ≤ qI) (_:GW w) (h:X9.f ze zn zi yZ yB yC a1 = some r) :
  Calls Tryz.prog 135 #[.agg #[.string ze,.bool zn,.int .i64 zi,.slice qB yZ.length qC,.slice qF yB.length qG,.slice qH yC.length qI],.string a1] w fun e w'=>e = .returned (.bool r) ∧ Below w.heap.size w w':=by
 unfold X9.f at h
 split at h
 ·rename_i hl
  obtain rfl:=Option.some.inj h
  have hb0:Below w.heap.size w ((w.alloc (.cells #[.string ze,.bool zn,.int .i64 zi,.slice qB yZ.length qC,.slice qF yB.length qG,.slice qH yC.length qI] 60)).alloc (.cells #[.string a1] 9)):=((Below.refl _ w).alloc (Nat.le_refl _) _).alloc (by simp) _
  have hcell:((w.alloc (.cells #[.string ze,.bool zn,.int .i64 zi,.slice qB yZ.length qC,.slice qF yB.length qG,.slice qH yC.length qI] 60)).alloc (.cells #[.string a1] 9)).cell? ⟨w.heap.size + 1,0,none⟩ = some (.string a1):=by simp
  have hs:=zvP qB qC yZ _ (Kd.za wP hb0) hl (fun x=>x.f0.toList == a1.toList) 160 #[.pointer (some ⟨w.heap.size + 1,0,none⟩)] (pV Tryz.func160 (by kernel_rfl) rfl) (zVk (w.heap.size + 1) a1 _ hcell)
  unfold gu
  generalize (yZ.any fun x=>x.f0.toList == a1.toList) = R at hs ⊢
  clear hcell wP hl h
  go_enter Tryz.func135,Tryz.ntmps135
  go_wp2_with fail
  refine hs.mono ?_;rintro e w2 ⟨rfl,hb2⟩
  go_wp2
  go_ret
  exact ⟨rfl,hb0.trans (hb2.mono hb0.size)⟩
 ·cases h
end Go.Proofs.YtggifbbiiickmaaGreatDoor
namespace Go.Proofs.YtggifbbiiickmaaGreatDoor.PX
open Go.RowKit Go.Proofs.zx.zJ Go.Proofs.zx.zu Go.Proofs.zx.zo
attribute [local go_sem] yU y7 qX qJ yM yN y8 y9   -- for this text's walks alone
set_option linter.unusedVariables false
set_option linter.unusedSimpArgs false
def jH.f (ze:ByteArray) (zn:Bool) (zi:Int) (yZ:List (yT)) (yB:List (qW)) (yC:List (qM)) (a1:Int):Option (Bool):=if a1 ≥ 1 then (if a1 ≤ 1000 then ((jo.f ze zn zi yZ yB yC).bind fun zzD=>(some zzD)) else (some false)) else (some false)
set_option maxHeartbeats 8000000 in
set_option maxRecDepth 100000 in
theorem jH.calls (ze:ByteArray) (zn:Bool) (zi:Int) (qB:Option Addr) (qC:Nat) (yZ:List (yT)) (qF:Option Addr) (qG:Nat) (yB:List (qW)) (qH:Option Addr) (qI:Nat) (yC:List (qM)) (a1:Int) (r:Bool) (w:World) (wP:Kd.C vk w qB yZ.length yZ) (YP:yZ.length ≤ qC) (YR:Kd.C jg w qF yB.length yB) (YS:yB.length ≤ qG) (YT:Kd.C jE w qH yC.length yC) (YU:yC.length ≤ qI) (hG:GW w) (h:jH.f ze zn zi yZ yB yC a1 = some r) :
  Calls Tryz.prog 62 #[.agg #[.string ze,.bool zn,.int .i64 zi,.slice qB yZ.length qC,.slice qF yB.length qG,.slice qH yC.length qI],.int .i64 a1] w fun e w'=>e = .returned (.bool r) ∧ Below w.heap.size w w':=by
 have zKr:=Tryz.underlying60
 have HG:=zk.mk hG
 clear hG
 have Yc:=zk.mk wP
 have Y0:=zk.mk YP
 clear wP YP
 have Y1:=zk.mk YR
 have Y2:=zk.mk YS
 clear YR YS
 have Y3:=zk.mk YT
 have Y4:=zk.mk YU
 clear YT YU
 have HB:=zk.mk (Below.refl w.heap.size w)
 have H:(if a1 ≥ 1 then (if a1 ≤ 1000 then ((jo.f ze zn zi yZ yB yC).bind fun zzD=>(some zzD)) else (some false)) else (some false)) = some r:=h
 clear h
 by_cases c3:a1 ≥ 1
 ·rw [if_pos c3] at H
  have wR:decide (1 ≤ a1) = true:=decide_eq_true c3
  clear c3
  by_cases c4:a1 ≤ 1000
  ·rw [if_pos c4] at H
   have kD:decide (a1 ≤ 1000) = true:=decide_eq_true c4
   clear c4
   replace H:=Option.bind_eq_some_iff.mp H
   obtain ⟨zzD,ou,H⟩:=H
   replace H:(some zzD) = some r:=H
   have A5:=zk.mk ou
   clear ou
   obtain rfl:=Option.some.inj H
   go_enter Tryz.func62,Tryz.ntmps62
   go_wp2_with (first | ((with_reducible refine qY (N:=2) rfl ?_);refine qm ?hg (N:=2) ?hd (cs:=#[.string ze,.bool zn,.int .i64 zi,.slice qB yZ.length qC,.slice qF yB.length qG,.slice qH yC.length qI]) (t:=60) ?hr ?_;(case hd=>rfl);(case hg=>rfl);(case hr=>first | (go_simp;done) | (go_simp;rfl));intro Yz hg w6 qo hb;have zh:=zk.mk (zF (zM HB.out) hb);have zG:=zk.mk (qo);have zU:=zk.mk ((by rw [hg];exact (zI (zM HB.out)):w.heap.size ≤ Yz));have yc:=zk.mk ((by rw [hg];exact (zI (zM HB.out)):w.heap.size ≤ Yz));clear HB;have HB:=zh;have ZX:=zG;have zWy:=zU;have oC:=yc;clear zh zG zU yc;clear hb qo hg;have Ve:w6.cell? ⟨Yz,0,none⟩ = some (.string ze):=zK ZX 0;have Vf:w6.cell? ⟨Yz,1,none⟩ = some (.bool zn):=zK ZX 1;have Vg:w6.cell? ⟨Yz,2,none⟩ = some (.int .i64 zi):=zK ZX 2;have Vh:w6.cell? ⟨Yz,3,none⟩ = some (.slice qB yZ.length qC):=zK ZX 3;have Vi:w6.cell? ⟨Yz,4,none⟩ = some (.slice qF yB.length qG):=zK ZX 4;have Vl:w6.cell? ⟨Yz,5,none⟩ = some (.slice qH yC.length qI):=zK ZX 5;have Vm:=zy ZX.out 0;have Vn:=zy ZX.out 1;have Vo:=zy ZX.out 2;have Vp:=zy ZX.out 3;have Vr:=zy ZX.out 4;have Vs:=zy ZX.out 5) | (go_at_call 39;(with_reducible refine (jo.calls ze zn zi _ _ yZ _ _ yB _ _ yC zzD _ ?yX ?yE ?xQ ?vZ ?ji ?jl ?jm A5.out).mono ?_);(case yX=>exact xZ (Kd.za Yc.out HB.out));(case yE=>exact Y0.out);(case xQ=>exact xZ (Kd.za Y1.out HB.out));(case vZ=>exact Y2.out);(case ji=>exact xZ (Kd.za Y3.out HB.out));(case jl=>exact Y4.out);(case jm=>exact GW.under HG.out (zM HB.out));rintro e w8 ⟨rfl,hb⟩;have zh:=zk.mk (yY (g:=Yz) (o:=.cells #[.string ze,.bool zn,.int .i64 zi,.slice qB yZ.length qC,.slice qF yB.length qG,.slice qH yC.length qI] 60 (0,0)) (vK ZX.out) hb);have zG:=zk.mk (zF (zM HB.out) hb);clear ZX;clear HB;have ZX:=zh;have HB:=zG;clear zh zG;(try clear hb);(try clear hi)))
   go_ret
   exact ⟨by first | rfl | (simp [zl,zm] <;> rfl) | (simp [*,zl,zm] <;> rfl),by repeat (first | (with_reducible first | exact HB.out | apply zO | apply zC | apply zP | refine qw ?_ oC.out) | exact HB.out)⟩
  ·rw [if_neg c4] at H
   have kD:decide (a1 ≤ 1000) = false:=decide_eq_false c4
   clear c4
   obtain rfl:=Option.some.inj H
   go_enter Tryz.func62,Tryz.ntmps62
   go_wp2_with (first | ((with_reducible refine qY (N:=2) rfl ?_);refine qm ?hg (N:=2) ?hd (cs:=#[.string ze,.bool zn,.int .i64 zi,.slice qB yZ.length qC,.slice qF yB.length qG,.slice qH yC.length qI]) (t:=60) ?hr ?_;(case hd=>rfl);(case hg=>rfl);(case hr=>first | (go_simp;done) | (go_simp;rfl));intro Yz hg w9 qo hb;have zh:=zk.mk (zF (zM HB.out) hb);have zG:=zk.mk (qo);have zU:=zk.mk ((by rw [hg];exact (zI (zM HB.out)):w.heap.size ≤ Yz));have yc:=zk.mk ((by rw [hg];exact (zI (zM HB.out)):w.heap.size ≤ Yz));clear HB;have HB:=zh;have ZX:=zG;have zWy:=zU;have oC:=yc;clear zh zG zU yc;clear hb qo hg))
   go_ret
   exact ⟨by first | rfl | (simp [zl,zm] <;> rfl) | (simp [*,zl,zm] <;> rfl),by repeat (first | (with_reducible first | exact HB.out | apply zO | apply zC | apply zP | refine qw ?_ oC.out) | exact HB.out)⟩
 ·rw [if_neg c3] at H
  have wR:decide (1 ≤ a1) = false:=decide_eq_false c3
  clear c3
  obtain rfl:=Option.some.inj H
  go_enter Tryz.func62,Tryz.ntmps62
  go_wp2_with (first | ((with_reducible refine qY (N:=2) rfl ?_);refine qm ?hg (N:=2) ?hd (cs:=#[.string ze,.bool zn,.int .i64 zi,.slice qB yZ.length qC,.slice qF yB.length qG,.slice qH yC.length qI]) (t:=60) ?hr ?_;(case hd=>rfl);(case hg=>rfl);(case hr=>first | (go_simp;done) | (go_simp;rfl));intro Yz hg JX qo hb;have zh:=zk.mk (zF (zM HB.out) hb);have zG:=zk.mk (qo);have zU:=zk.mk ((by rw [hg];exact (zI (zM HB.out)):w.heap.size ≤ Yz));have yc:=zk.mk ((by rw [hg];exact (zI (zM HB.out)):w.heap.size ≤ Yz));clear HB;have HB:=zh;have ZX:=zG;have zWy:=zU;have oC:=yc;clear zh zG zU yc;clear hb qo hg))
  go_ret
  exact ⟨by first | rfl | (simp [zl,zm] <;> rfl) | (simp [*,zl,zm] <;> rfl),by repeat (first | (with_reducible first | exact HB.out | apply zO | apply zC | apply zP | refine qw ?_ oC.out) | exact HB.out)⟩
def Y5.f (a0:Int) (a1:Int):Option (Int):=if a0 < 0 then (if a1 = 0 then (none) else (some (wrap64 (-(wrap64 (Int.tdiv (wrap64 ((wrap64 ((wrap64 (-a0)) + a1)) - 1)) a1)))))) else (if a1 = 0 then (none) else (some (wrap64 (Int.tdiv a0 a1))))
set_option maxHeartbeats 8000000 in
set_option maxRecDepth 100000 in
theorem Y5.calls (a0:Int) (a1:Int) (r:Int) (w:World) (h:Y5.f a0 a1 = some r) :
  Calls Tryz.prog 117 #[.int .i64 a0,.int .i64 a1] w fun e w'=>e = .returned (.int .i64 r) ∧ zL w w':=by
 have H:(if a0 < 0 then (if a1 = 0 then (none) else (some (wrap64 (-(wrap64 (Int.tdiv (wrap64 ((wrap64 ((wrap64 (-a0)) + a1)) - 1)) a1)))))) else (if a1 = 0 then (none) else (some (wrap64 (Int.tdiv a0 a1))))) = some r:=h
 clear h
 by_cases c3:a0 < 0
 ·rw [if_pos c3] at H
  have wR:decide (a0 < 0) = true:=decide_eq_true c3
  clear c3
  by_cases c4:a1 = 0
  ·rw [if_pos c4] at H
   exact absurd H (by simp)
  ·rw [if_neg c4] at H
   have kD:(a1 == 0) = false:=beq_eq_false_iff_ne.mpr c4
   have zXm:(a1 != 0) = true:=bne_iff_ne.mpr c4
   obtain rfl:=Option.some.inj H
   go_enter Tryz.func117,Tryz.ntmps117
   go_wp2
   go_ret
   exact ⟨by first | rfl | (simp;done) | (simp [*];done),by repeat (first | exact zL.refl _ | apply zL.step)⟩
 ·rw [if_neg c3] at H
  have wR:decide (a0 < 0) = false:=decide_eq_false c3
  clear c3
  by_cases c5:a1 = 0
  ·rw [if_pos c5] at H
   exact absurd H (by simp)
  ·rw [if_neg c5] at H
   have Z9:(a1 == 0) = false:=beq_eq_false_iff_ne.mpr c5
   have Kl:(a1 != 0) = true:=bne_iff_ne.mpr c5
   obtain rfl:=Option.some.inj H
   go_enter Tryz.func117,Tryz.ntmps117
   go_wp2
   go_ret
   exact ⟨by first | rfl | (simp;done) | (simp [*];done),by repeat (first | exact zL.refl _ | apply zL.step)⟩
def vD.f (a0:Int) (a1:Int):Option (Int):=(Y5.f (wrap64 ((wrap64 (10 * a1)) * a0)) 1000).bind fun zzE=>(some zzE)
set_option maxHeartbeats 8000000 in
set_option maxRecDepth 100000 in
theorem vD.calls (a0:Int) (a1:Int) (r:Int) (w:World) (h:vD.f a0 a1 = some r) :
  Calls Tryz.prog 63 #[.int .i64 a0,.int .i64 a1] w fun e w'=>e = .returned (.int .i64 r) ∧ zL w w':=by
 have H:((Y5.f (wrap64 ((wrap64 (10 * a1)) * a0)) 1000).bind fun zzE=>(some zzE)) = some r:=h
 clear h
 replace H:=Option.bind_eq_some_iff.mp H
 obtain ⟨zzE,nZ,H⟩:=H
 replace H:(some zzE) = some r:=H
 have A3:=zk.mk nZ
 clear nZ
 obtain rfl:=Option.some.inj H
 go_enter Tryz.func63,Tryz.ntmps63
 go_wp2_with (first | ((with_reducible refine yw (f:=117) rfl ?_);refine vR (some 9) Tryz.func117 #[.int .i64 (wrap64 ((wrap64 (10 * a1)) * a0)),.int .i64 1000] ?_;(with_reducible refine (Y5.calls (wrap64 ((wrap64 (10 * a1)) * a0)) 1000 zzE _ A3.out).mono ?_);rintro e w' ⟨rfl,⟨nd,rfl⟩⟩;refine ⟨_,rfl,?_⟩))
 go_ret
 exact ⟨by first | rfl | (simp;done) | (simp [*];done),by repeat (first | exact zL.refl _ | apply zL.step)⟩
end Go.Proofs.YtggifbbiiickmaaGreatDoor.PX
namespace Go.Proofs.YtggifbbiiickmaaGreatDoor.PX
open Go.RowKit Go.Proofs.zx.zJ Go.Proofs.zx.zu Go.Proofs.zx.zo
attribute [local go_sem] yU y7 qX qJ yM yN y8 y9   -- for this text's walks alone
set_option linter.unusedVariables false
set_option linter.unusedSimpArgs false
def Y6.f (ze:ByteArray) (zn:Bool) (zi:Int) (yZ:List (yT)) (yB:List (qW)) (yC:List (qM)) (a1:ByteArray) (a2:Int):Option (Int × Int):=(jH.f ze zn zi yZ yB yC a2).bind fun zzF=>(if zzF = true then ((jG.f ze zn zi yZ yB yC a1).bind fun wS=>(if wS.2 = true then (if 0 ≤ wS.1 then (if wS.1 < (yZ.length:Int) then ((vD.f ((qb yZ wS.1).f1) a2).bind fun Vt=>(some (Vt,0))) else (none)) else (none)) else (some (0,3)))) else (some (0,1)))
set_option maxHeartbeats 8000000 in
set_option maxRecDepth 100000 in
theorem Y6.calls (ze:ByteArray) (zn:Bool) (zi:Int) (qB:Option Addr) (qC:Nat) (yZ:List (yT)) (qF:Option Addr) (qG:Nat) (yB:List (qW)) (qH:Option Addr) (qI:Nat) (yC:List (qM)) (a1:ByteArray) (a2:Int) (r1:Int) (r2:Int) (w:World) (wP:Kd.C vk w qB yZ.length yZ) (YP:yZ.length ≤ qC) (YR:Kd.C jg w qF yB.length yB) (YS:yB.length ≤ qG) (YT:Kd.C jE w qH yC.length yC) (YU:yC.length ≤ qI) (hG:GW w) (h:Y6.f ze zn zi yZ yB yC a1 a2 = some (r1,r2)) :
  Calls Tryz.prog 22 #[.agg #[.string ze,.bool zn,.int .i64 zi,.slice qB yZ.length qC,.slice qF yB.length qG,.slice qH yC.length qI],.string a1,.int .i64 a2] w fun e w'=>e = .returned (.tuple #[.int .i64 r1,.int .i64 r2]) ∧ Below w.heap.size w w':=by
 have zKr:=Tryz.underlying60
 have HG:=zk.mk hG
 clear hG
 have Yc:=zk.mk wP
 have Y0:=zk.mk YP
 clear wP YP
 have Y1:=zk.mk YR
 have Y2:=zk.mk YS
 clear YR YS
 have Y3:=zk.mk YT
 have Y4:=zk.mk YU
 clear YT YU
 have HB:=zk.mk (Below.refl w.heap.size w)
 have H:((jH.f ze zn zi yZ yB yC a2).bind fun zzF=>(if zzF = true then ((jG.f ze zn zi yZ yB yC a1).bind fun wS=>(if wS.2 = true then (if 0 ≤ wS.1 then (if wS.1 < (yZ.length:Int) then ((vD.f ((qb yZ wS.1).f1) a2).bind fun Vt=>(some (Vt,0))) else (none)) else (none)) else (some (0,3)))) else (some (0,1)))) = some (r1,r2):=h
 clear h
 replace H:=Option.bind_eq_some_iff.mp H
 obtain ⟨zzF,nQ,H⟩:=H
 replace H:(if zzF = true then ((jG.f ze zn zi yZ yB yC a1).bind fun wS=>(if wS.2 = true then (if 0 ≤ wS.1 then (if wS.1 < (yZ.length:Int) then ((vD.f ((qb yZ wS.1).f1) a2).bind fun Vt=>(some (Vt,0))) else (none)) else (none)) else (some (0,3)))) else (some (0,1))) = some (r1,r2):=H
 have A4:=zk.mk nQ
 clear nQ
 by_cases c5:zzF = true
 ·subst c5
  have H1:((jG.f ze zn zi yZ yB yC a1).bind fun wS=>(if wS.2 = true then (if 0 ≤ wS.1 then (if wS.1 < (yZ.length:Int) then ((vD.f ((qb yZ wS.1).f1) a2).bind fun Vt=>(some (Vt,0))) else (none)) else (none)) else (some (0,3)))) = some (r1,r2):=by rw [if_pos rfl] at H;exact H
  clear H
  have H:=H1
  clear H1
  replace H:=Option.bind_eq_some_iff.mp H
  obtain ⟨⟨Yu,zcj⟩,A60,H⟩:=H
  replace H:(if zcj = true then (if 0 ≤ Yu then (if Yu < (yZ.length:Int) then ((vD.f ((qb yZ Yu).f1) a2).bind fun Vt=>(some (Vt,0))) else (none)) else (none)) else (some (0,3))) = some (r1,r2):=H
  have A6:=zk.mk A60
  clear A60
  by_cases c7:zcj = true
  ·subst c7
   have H1:(if 0 ≤ Yu then (if Yu < (yZ.length:Int) then ((vD.f ((qb yZ Yu).f1) a2).bind fun Vt=>(some (Vt,0))) else (none)) else (none)) = some (r1,r2):=by rw [if_pos rfl] at H;exact H
   clear H
   have H:=H1
   clear H1
   by_cases c8:0 ≤ Yu
   ·rw [if_pos c8] at H
    have Z8:decide (0 ≤ Yu) = true:=decide_eq_true c8
    clear c8
    by_cases c9:Yu < (yZ.length:Int)
    ·rw [if_pos c9] at H
     have eB:decide (Yu < (yZ.length:Int)) = true:=decide_eq_true c9
     clear c9
     replace H:=Option.bind_eq_some_iff.mp H
     obtain ⟨Vt,zvU,H⟩:=H
     replace H:(some (Vt,0)) = some (r1,r2):=H
     have A10:=zk.mk zvU
     clear zvU
     simp only [Option.some.injEq,Prod.mk.injEq] at H
     obtain ⟨rfl,rfl⟩:=H
     go_enter Tryz.func22,Tryz.ntmps22
     go_wp2_with (first | ((with_reducible refine qY (N:=3) rfl ?_);refine qm ?hg (N:=3) ?hd (cs:=#[.string ze,.bool zn,.int .i64 zi,.slice qB yZ.length qC,.slice qF yB.length qG,.slice qH yC.length qI]) (t:=60) ?hr ?_;(case hd=>rfl);(case hg=>rfl);(case hr=>first | (go_simp;done) | (go_simp;rfl));intro qN hg fK qo hb;have zh:=zk.mk (zF (zM HB.out) hb);have zG:=zk.mk (qo);have zU:=zk.mk ((by rw [hg];exact (zI (zM HB.out)):w.heap.size ≤ qN));have yc:=zk.mk ((by rw [hg];exact (zI (zM HB.out)):w.heap.size ≤ qN));clear HB;have HB:=zh;have yH:=zG;have zWw:=zU;have oD:=yc;clear zh zG zU yc;clear hb qo hg;have zhN:fK.cell? ⟨qN,0,none⟩ = some (.string ze):=zK yH 0;have zhO:fK.cell? ⟨qN,1,none⟩ = some (.bool zn):=zK yH 1;have zhP:fK.cell? ⟨qN,2,none⟩ = some (.int .i64 zi):=zK yH 2;have zhR:fK.cell? ⟨qN,3,none⟩ = some (.slice qB yZ.length qC):=zK yH 3;have zhS:fK.cell? ⟨qN,4,none⟩ = some (.slice qF yB.length qG):=zK yH 4;have zhT:fK.cell? ⟨qN,5,none⟩ = some (.slice qH yC.length qI):=zK yH 5;have zhU:=zy yH.out 0;have zh0:=zy yH.out 1;have zh1:=zy yH.out 2;have zh2:=zy yH.out 3;have zh3:=zy yH.out 4;have zh4:=zy yH.out 5) | ((with_reducible refine yw (f:=62) rfl ?_);refine vR (some 12) Tryz.func62 #[.agg #[.string ze,.bool zn,.int .i64 zi,.slice qB yZ.length qC,.slice qF yB.length qG,.slice qH yC.length qI],.int .i64 a2] ?_;(with_reducible refine (jH.calls ze zn zi _ _ yZ _ _ yB _ _ yC a2 true _ ?yX ?yE ?xQ ?vZ ?ji ?jl ?jm A4.out).mono ?_);(case yX=>exact xZ (Kd.za Yc.out HB.out));(case yE=>exact Y0.out);(case xQ=>exact xZ (Kd.za Y1.out HB.out));(case vZ=>exact Y2.out);(case ji=>exact xZ (Kd.za Y3.out HB.out));(case jl=>exact Y4.out);(case jm=>exact GW.under HG.out (zM HB.out));rintro e w13 ⟨rfl,hb⟩;refine ⟨_,rfl,?_⟩;have zh:=zk.mk (yY (g:=qN) (o:=.cells #[.string ze,.bool zn,.int .i64 zi,.slice qB yZ.length qC,.slice qF yB.length qG,.slice qH yC.length qI] 60 (0,0)) (vK yH.out) hb);have zG:=zk.mk (zF (zM HB.out) hb);clear yH;clear HB;have yH:=zh;have HB:=zG;clear zh zG;(try clear hb);have Y7:w13.cell? ⟨qN,0,none⟩ = some (.string ze):=zK yH 0;have Y8:w13.cell? ⟨qN,1,none⟩ = some (.bool zn):=zK yH 1;have Y9:w13.cell? ⟨qN,2,none⟩ = some (.int .i64 zi):=zK yH 2;have Xz:w13.cell? ⟨qN,3,none⟩ = some (.slice qB yZ.length qC):=zK yH 3;have Xq:w13.cell? ⟨qN,4,none⟩ = some (.slice qF yB.length qG):=zK yH 4;have Xx:w13.cell? ⟨qN,5,none⟩ = some (.slice qH yC.length qI):=zK yH 5;have Xj:=zy yH.out 0;have Xv:=zy yH.out 1;have Xk:=zy yH.out 2;have Xy:=zy yH.out 3;have Xw:=zy yH.out 4;have XZ:=zy yH.out 5) | ((with_reducible refine yw (f:=64) rfl ?_);refine vR (some 17) Tryz.func64 #[.agg #[.string ze,.bool zn,.int .i64 zi,.slice qB yZ.length qC,.slice qF yB.length qG,.slice qH yC.length qI],.string a1] ?_;(with_reducible refine (jG.calls ze zn zi _ _ yZ _ _ yB _ _ yC a1 Yu true _ ?yX ?yE ?xQ ?vZ ?ji ?jl ?jm A6.out).mono ?_);(case yX=>exact xZ (Kd.za Yc.out HB.out));(case yE=>exact Y0.out);(case xQ=>exact xZ (Kd.za Y1.out HB.out));(case vZ=>exact Y2.out);(case ji=>exact xZ (Kd.za Y3.out HB.out));(case jl=>exact Y4.out);(case jm=>exact GW.under HG.out (zM HB.out));rintro e Yd ⟨rfl,hb⟩;refine ⟨_,rfl,?_⟩;have zh:=zk.mk (yY (g:=qN) (o:=.cells #[.string ze,.bool zn,.int .i64 zi,.slice qB yZ.length qC,.slice qF yB.length qG,.slice qH yC.length qI] 60 (0,0)) (vK yH.out) hb);have zG:=zk.mk (zF (zM HB.out) hb);clear yH;clear HB;have yH:=zh;have HB:=zG;clear zh zG;(try clear hb);have sW:Yd.cell? ⟨qN,0,none⟩ = some (.string ze):=zK yH 0;have su:Yd.cell? ⟨qN,1,none⟩ = some (.bool zn):=zK yH 1;have sD:Yd.cell? ⟨qN,2,none⟩ = some (.int .i64 zi):=zK yH 2;have sF:Yd.cell? ⟨qN,3,none⟩ = some (.slice qB yZ.length qC):=zK yH 3;have sG:Yd.cell? ⟨qN,4,none⟩ = some (.slice qF yB.length qG):=zK yH 4;have sH:Yd.cell? ⟨qN,5,none⟩ = some (.slice qH yC.length qI):=zK yH 5;have sI:=zy yH.out 0;have sM:=zy yH.out 1;have sN:=zy yH.out 2;have sO:=zy yH.out 3;have sP:=zy yH.out 4;have sS:=zy yH.out 5;have zKE:0 ≤ (Yu:Int):=of_decide_eq_true yj;have zKF:Yu < (yZ.length:Int):=of_decide_eq_true yj;obtain ⟨zou,zf9,zzG,zzH⟩:=PV Yc.out Yu zKE zKF;cases zf9;replace zzG:=(HB.out.cell (World.block_lt_of_cell? w _ zzG)).trans zzG;replace zzH:=(HB.out.cell (World.block_lt_of_cell? w _ zzH)).trans zzH;replace zKE:=eq_true zKE;replace zKF:=eq_true zKF) | ((with_reducible refine yw (f:=63) rfl ?_);refine vR (some 29) Tryz.func63 #[.int .i64 ((qb yZ Yu).f1),.int .i64 a2] ?_;(with_reducible refine (vD.calls ((qb yZ Yu).f1) a2 Vt _ A10.out).mono ?_);rintro e w' ⟨rfl,⟨nd,rfl⟩⟩;refine ⟨_,rfl,?_⟩))
     go_ret2
     exact ⟨by first | rfl | (simp [zl,zm] <;> rfl) | (simp [*,zl,zm] <;> rfl),by repeat (first | (with_reducible first | exact HB.out | apply zO | apply zC | apply zP | refine qw ?_ oD.out) | exact HB.out)⟩
    ·rw [if_neg c9] at H
     exact absurd H (by simp)
   ·rw [if_neg c8] at H
    exact absurd H (by simp)
  ·replace c7:=Bool.eq_false_iff.mpr c7
   subst c7
   have H1:(some (0,3)) = some (r1,r2):=by rw [if_neg (show ¬ (false = true) by decide)] at H;exact H
   clear H
   have H:=H1
   clear H1
   simp only [Option.some.injEq,Prod.mk.injEq] at H
   obtain ⟨rfl,rfl⟩:=H
   go_enter Tryz.func22,Tryz.ntmps22
   go_wp2_with (first | ((with_reducible refine qY (N:=3) rfl ?_);refine qm ?hg (N:=3) ?hd (cs:=#[.string ze,.bool zn,.int .i64 zi,.slice qB yZ.length qC,.slice qF yB.length qG,.slice qH yC.length qI]) (t:=60) ?hr ?_;(case hd=>rfl);(case hg=>rfl);(case hr=>first | (go_simp;done) | (go_simp;rfl));intro qN hg fu qo hb;have zh:=zk.mk (zF (zM HB.out) hb);have zG:=zk.mk (qo);have zU:=zk.mk ((by rw [hg];exact (zI (zM HB.out)):w.heap.size ≤ qN));have yc:=zk.mk ((by rw [hg];exact (zI (zM HB.out)):w.heap.size ≤ qN));clear HB;have HB:=zh;have yH:=zG;have zWw:=zU;have oD:=yc;clear zh zG zU yc;clear hb qo hg;have zh5:fu.cell? ⟨qN,0,none⟩ = some (.string ze):=zK yH 0;have zh6:fu.cell? ⟨qN,1,none⟩ = some (.bool zn):=zK yH 1;have zh7:fu.cell? ⟨qN,2,none⟩ = some (.int .i64 zi):=zK yH 2;have zh8:fu.cell? ⟨qN,3,none⟩ = some (.slice qB yZ.length qC):=zK yH 3;have zh9:fu.cell? ⟨qN,4,none⟩ = some (.slice qF yB.length qG):=zK yH 4;have ziz:fu.cell? ⟨qN,5,none⟩ = some (.slice qH yC.length qI):=zK yH 5;have ziq:=zy yH.out 0;have zix:=zy yH.out 1;have zij:=zy yH.out 2;have ziv:=zy yH.out 3;have zik:=zy yH.out 4;have ziy:=zy yH.out 5) | ((with_reducible refine yw (f:=62) rfl ?_);refine vR (some 12) Tryz.func62 #[.agg #[.string ze,.bool zn,.int .i64 zi,.slice qB yZ.length qC,.slice qF yB.length qG,.slice qH yC.length qI],.int .i64 a2] ?_;(with_reducible refine (jH.calls ze zn zi _ _ yZ _ _ yB _ _ yC a2 true _ ?yX ?yE ?xQ ?vZ ?ji ?jl ?jm A4.out).mono ?_);(case yX=>exact xZ (Kd.za Yc.out HB.out));(case yE=>exact Y0.out);(case xQ=>exact xZ (Kd.za Y1.out HB.out));(case vZ=>exact Y2.out);(case ji=>exact xZ (Kd.za Y3.out HB.out));(case jl=>exact Y4.out);(case jm=>exact GW.under HG.out (zM HB.out));rintro e w19 ⟨rfl,hb⟩;refine ⟨_,rfl,?_⟩;have zh:=zk.mk (yY (g:=qN) (o:=.cells #[.string ze,.bool zn,.int .i64 zi,.slice qB yZ.length qC,.slice qF yB.length qG,.slice qH yC.length qI] 60 (0,0)) (vK yH.out) hb);have zG:=zk.mk (zF (zM HB.out) hb);clear yH;clear HB;have yH:=zh;have HB:=zG;clear zh zG;(try clear hb);have Ql:w19.cell? ⟨qN,0,none⟩ = some (.string ze):=zK yH 0;have Qm:w19.cell? ⟨qN,1,none⟩ = some (.bool zn):=zK yH 1;have Qn:w19.cell? ⟨qN,2,none⟩ = some (.int .i64 zi):=zK yH 2;have Qo:w19.cell? ⟨qN,3,none⟩ = some (.slice qB yZ.length qC):=zK yH 3;have Qp:w19.cell? ⟨qN,4,none⟩ = some (.slice qF yB.length qG):=zK yH 4;have Qr:w19.cell? ⟨qN,5,none⟩ = some (.slice qH yC.length qI):=zK yH 5;have Qs:=zy yH.out 0;have Qt:=zy yH.out 1;have Qu:=zy yH.out 2;have QA:=zy yH.out 3;have QB:=zy yH.out 4;have QC:=zy yH.out 5) | ((with_reducible refine yw (f:=64) rfl ?_);refine vR (some 17) Tryz.func64 #[.agg #[.string ze,.bool zn,.int .i64 zi,.slice qB yZ.length qC,.slice qF yB.length qG,.slice qH yC.length qI],.string a1] ?_;(with_reducible refine (jG.calls ze zn zi _ _ yZ _ _ yB _ _ yC a1 Yu false _ ?yX ?yE ?xQ ?vZ ?ji ?jl ?jm A6.out).mono ?_);(case yX=>exact xZ (Kd.za Yc.out HB.out));(case yE=>exact Y0.out);(case xQ=>exact xZ (Kd.za Y1.out HB.out));(case vZ=>exact Y2.out);(case ji=>exact xZ (Kd.za Y3.out HB.out));(case jl=>exact Y4.out);(case jm=>exact GW.under HG.out (zM HB.out));rintro e w21 ⟨rfl,hb⟩;refine ⟨_,rfl,?_⟩;have zh:=zk.mk (yY (g:=qN) (o:=.cells #[.string ze,.bool zn,.int .i64 zi,.slice qB yZ.length qC,.slice qF yB.length qG,.slice qH yC.length qI] 60 (0,0)) (vK yH.out) hb);have zG:=zk.mk (zF (zM HB.out) hb);clear yH;clear HB;have yH:=zh;have HB:=zG;clear zh zG;(try clear hb);(try clear hi)))
   go_ret2
   exact ⟨by first | rfl | (simp [zl,zm] <;> rfl) | (simp [*,zl,zm] <;> rfl),by repeat (first | (with_reducible first | exact HB.out | apply zO | apply zC | apply zP | refine qw ?_ oD.out) | exact HB.out)⟩
 ·replace c5:=Bool.eq_false_iff.mpr c5
  subst c5
  have H1:(some (0,1)) = some (r1,r2):=by rw [if_neg (show ¬ (false = true) by decide)] at H;exact H
  clear H
  have H:=H1
  clear H1
  simp only [Option.some.injEq,Prod.mk.injEq] at H
  obtain ⟨rfl,rfl⟩:=H
  go_enter Tryz.func22,Tryz.ntmps22
  go_wp2_with (first | ((with_reducible refine qY (N:=3) rfl ?_);refine qm ?hg (N:=3) ?hd (cs:=#[.string ze,.bool zn,.int .i64 zi,.slice qB yZ.length qC,.slice qF yB.length qG,.slice qH yC.length qI]) (t:=60) ?hr ?_;(case hd=>rfl);(case hg=>rfl);(case hr=>first | (go_simp;done) | (go_simp;rfl));intro qN hg w22 qo hb;have zh:=zk.mk (zF (zM HB.out) hb);have zG:=zk.mk (qo);have zU:=zk.mk ((by rw [hg];exact (zI (zM HB.out)):w.heap.size ≤ qN));have yc:=zk.mk ((by rw [hg];exact (zI (zM HB.out)):w.heap.size ≤ qN));clear HB;have HB:=zh;have yH:=zG;have zWw:=zU;have oD:=yc;clear zh zG zU yc;clear hb qo hg;have zzI:w22.cell? ⟨qN,0,none⟩ = some (.string ze):=zK yH 0;have zzL:w22.cell? ⟨qN,1,none⟩ = some (.bool zn):=zK yH 1;have zzM:w22.cell? ⟨qN,2,none⟩ = some (.int .i64 zi):=zK yH 2;have zzN:w22.cell? ⟨qN,3,none⟩ = some (.slice qB yZ.length qC):=zK yH 3;have zzO:w22.cell? ⟨qN,4,none⟩ = some (.slice qF yB.length qG):=zK yH 4;have zzP:w22.cell? ⟨qN,5,none⟩ = some (.slice qH yC.length qI):=zK yH 5;have zzR:=zy yH.out 0;have zzS:=zy yH.out 1;have zzT:=zy yH.out 2;have zzU:=zy yH.out 3;have zz0:=zy yH.out 4;have zz1:=zy yH.out 5) | ((with_reducible refine yw (f:=62) rfl ?_);refine vR (some 12) Tryz.func62 #[.agg #[.string ze,.bool zn,.int .i64 zi,.slice qB yZ.length qC,.slice qF yB.length qG,.slice qH yC.length qI],.int .i64 a2] ?_;(with_reducible refine (jH.calls ze zn zi _ _ yZ _ _ yB _ _ yC a2 false _ ?yX ?yE ?xQ ?vZ ?ji ?jl ?jm A4.out).mono ?_);(case yX=>exact xZ (Kd.za Yc.out HB.out));(case yE=>exact Y0.out);(case xQ=>exact xZ (Kd.za Y1.out HB.out));(case vZ=>exact Y2.out);(case ji=>exact xZ (Kd.za Y3.out HB.out));(case jl=>exact Y4.out);(case jm=>exact GW.under HG.out (zM HB.out));rintro e w24 ⟨rfl,hb⟩;refine ⟨_,rfl,?_⟩;have zh:=zk.mk (yY (g:=qN) (o:=.cells #[.string ze,.bool zn,.int .i64 zi,.slice qB yZ.length qC,.slice qF yB.length qG,.slice qH yC.length qI] 60 (0,0)) (vK yH.out) hb);have zG:=zk.mk (zF (zM HB.out) hb);clear yH;clear HB;have yH:=zh;have HB:=zG;clear zh zG;(try clear hb);(try clear hi)))
  go_ret2
  exact ⟨by first | rfl | (simp [zl,zm] <;> rfl) | (simp [*,zl,zm] <;> rfl),by repeat (first | (with_reducible first | exact HB.out | apply zO | apply zC | apply zP | refine qw ?_ oD.out) | exact HB.out)⟩
end Go.Proofs.YtggifbbiiickmaaGreatDoor.PX
namespace Go.Proofs.YtggifbbiiickmaaGreatDoor.PX
open Go.RowKit Go.Proofs.zx.zJ Go.Proofs.zx.zu Go.Proofs.zx.zo
attribute [local go_sem] yU y7 qX qJ yM yN y8 y9   -- for this text's walks alone
set_option linter.unusedVariables false
set_option linter.unusedSimpArgs false
def Vu.f (ze:ByteArray) (zn:Bool) (zi:Int) (yZ:List (yT)) (yB:List (qW)) (yC:List (qM)) (a1:Int):Option (Int × Int):=(jH.f ze zn zi yZ yB yC a1).bind fun t105=>(if t105 = true then ((vD.f zi a1).bind fun WR=>(some (WR,0))) else (some (0,1)))
set_option maxHeartbeats 8000000 in
set_option maxRecDepth 100000 in
theorem Vu.calls (ze:ByteArray) (zn:Bool) (zi:Int) (qB:Option Addr) (qC:Nat) (yZ:List (yT)) (qF:Option Addr) (qG:Nat) (yB:List (qW)) (qH:Option Addr) (qI:Nat) (yC:List (qM)) (a1:Int) (r1:Int) (r2:Int) (w:World) (wP:Kd.C vk w qB yZ.length yZ) (YP:yZ.length ≤ qC) (YR:Kd.C jg w qF yB.length yB) (YS:yB.length ≤ qG) (YT:Kd.C jE w qH yC.length yC) (YU:yC.length ≤ qI) (hG:GW w) (h:Vu.f ze zn zi yZ yB yC a1 = some (r1,r2)) :
  Calls Tryz.prog 68 #[.agg #[.string ze,.bool zn,.int .i64 zi,.slice qB yZ.length qC,.slice qF yB.length qG,.slice qH yC.length qI],.int .i64 a1] w fun e w'=>e = .returned (.tuple #[.int .i64 r1,.int .i64 r2]) ∧ Below w.heap.size w w':=by
 have zKr:=Tryz.underlying60
 have HG:=zk.mk hG
 clear hG
 have Yc:=zk.mk wP
 have Y0:=zk.mk YP
 clear wP YP
 have Y1:=zk.mk YR
 have Y2:=zk.mk YS
 clear YR YS
 have Y3:=zk.mk YT
 have Y4:=zk.mk YU
 clear YT YU
 have HB:=zk.mk (Below.refl w.heap.size w)
 have H:((jH.f ze zn zi yZ yB yC a1).bind fun t105=>(if t105 = true then ((vD.f zi a1).bind fun WR=>(some (WR,0))) else (some (0,1)))) = some (r1,r2):=h
 clear h
 replace H:=Option.bind_eq_some_iff.mp H
 obtain ⟨t105,nZ,H⟩:=H
 replace H:(if t105 = true then ((vD.f zi a1).bind fun WR=>(some (WR,0))) else (some (0,1))) = some (r1,r2):=H
 have A3:=zk.mk nZ
 clear nZ
 by_cases c4:t105 = true
 ·subst c4
  have H1:((vD.f zi a1).bind fun WR=>(some (WR,0))) = some (r1,r2):=by rw [if_pos rfl] at H;exact H
  clear H
  have H:=H1
  clear H1
  replace H:=Option.bind_eq_some_iff.mp H
  obtain ⟨WR,ou,H⟩:=H
  replace H:(some (WR,0)) = some (r1,r2):=H
  have A5:=zk.mk ou
  clear ou
  simp only [Option.some.injEq,Prod.mk.injEq] at H
  obtain ⟨rfl,rfl⟩:=H
  go_enter Tryz.func68,Tryz.ntmps68
  go_wp2_with (first | ((with_reducible refine qY (N:=2) rfl ?_);refine qm ?hg (N:=2) ?hd (cs:=#[.string ze,.bool zn,.int .i64 zi,.slice qB yZ.length qC,.slice qF yB.length qG,.slice qH yC.length qI]) (t:=60) ?hr ?_;(case hd=>rfl);(case hg=>rfl);(case hr=>first | (go_simp;done) | (go_simp;rfl));intro jN hg w6 qo hb;have zh:=zk.mk (zF (zM HB.out) hb);have zG:=zk.mk (qo);have zU:=zk.mk ((by rw [hg];exact (zI (zM HB.out)):w.heap.size ≤ jN));have yc:=zk.mk ((by rw [hg];exact (zI (zM HB.out)):w.heap.size ≤ jN));clear HB;have HB:=zh;have xX:=zG;have zd2:=zU;have zXn:=yc;clear zh zG zU yc;clear hb qo hg;have Ve:w6.cell? ⟨jN,0,none⟩ = some (.string ze):=zK xX 0;have Vf:w6.cell? ⟨jN,1,none⟩ = some (.bool zn):=zK xX 1;have Vg:w6.cell? ⟨jN,2,none⟩ = some (.int .i64 zi):=zK xX 2;have Vh:w6.cell? ⟨jN,3,none⟩ = some (.slice qB yZ.length qC):=zK xX 3;have Vi:w6.cell? ⟨jN,4,none⟩ = some (.slice qF yB.length qG):=zK xX 4;have Vl:w6.cell? ⟨jN,5,none⟩ = some (.slice qH yC.length qI):=zK xX 5;have Vm:=zy xX.out 0;have Vn:=zy xX.out 1;have Vo:=zy xX.out 2;have Vp:=zy xX.out 3;have Vr:=zy xX.out 4;have Vs:=zy xX.out 5) | ((with_reducible refine yw (f:=62) rfl ?_);refine vR (some 8) Tryz.func62 #[.agg #[.string ze,.bool zn,.int .i64 zi,.slice qB yZ.length qC,.slice qF yB.length qG,.slice qH yC.length qI],.int .i64 a1] ?_;(with_reducible refine (jH.calls ze zn zi _ _ yZ _ _ yB _ _ yC a1 true _ ?yX ?yE ?xQ ?vZ ?ji ?jl ?jm A3.out).mono ?_);(case yX=>exact xZ (Kd.za Yc.out HB.out));(case yE=>exact Y0.out);(case xQ=>exact xZ (Kd.za Y1.out HB.out));(case vZ=>exact Y2.out);(case ji=>exact xZ (Kd.za Y3.out HB.out));(case jl=>exact Y4.out);(case jm=>exact GW.under HG.out (zM HB.out));rintro e w8 ⟨rfl,hb⟩;refine ⟨_,rfl,?_⟩;have zh:=zk.mk (yY (g:=jN) (o:=.cells #[.string ze,.bool zn,.int .i64 zi,.slice qB yZ.length qC,.slice qF yB.length qG,.slice qH yC.length qI] 60 (0,0)) (vK xX.out) hb);have zG:=zk.mk (zF (zM HB.out) hb);clear xX;clear HB;have xX:=zh;have HB:=zG;clear zh zG;(try clear hb);have U7:w8.cell? ⟨jN,0,none⟩ = some (.string ze):=zK xX 0;have U8:w8.cell? ⟨jN,1,none⟩ = some (.bool zn):=zK xX 1;have U9:w8.cell? ⟨jN,2,none⟩ = some (.int .i64 zi):=zK xX 2;have Jz:w8.cell? ⟨jN,3,none⟩ = some (.slice qB yZ.length qC):=zK xX 3;have Jq:w8.cell? ⟨jN,4,none⟩ = some (.slice qF yB.length qG):=zK xX 4;have Jj:w8.cell? ⟨jN,5,none⟩ = some (.slice qH yC.length qI):=zK xX 5;have Jv:=zy xX.out 0;have Jk:=zy xX.out 1;have Jy:=zy xX.out 2;have Jw:=zy xX.out 3;have JZ:=zy xX.out 4;have JQ:=zy xX.out 5) | ((with_reducible refine yw (f:=63) rfl ?_);refine vR (some 13) Tryz.func63 #[.int .i64 zi,.int .i64 a1] ?_;(with_reducible refine (vD.calls zi a1 WR _ A5.out).mono ?_);rintro e w' ⟨rfl,⟨nd,rfl⟩⟩;refine ⟨_,rfl,?_⟩))
  go_ret2
  exact ⟨by first | rfl | (simp [zl,zm] <;> rfl) | (simp [*,zl,zm] <;> rfl),by repeat (first | (with_reducible first | exact HB.out | apply zO | apply zC | apply zP | refine qw ?_ zXn.out) | exact HB.out)⟩
 ·replace c4:=Bool.eq_false_iff.mpr c4
  subst c4
  have H1:(some (0,1)) = some (r1,r2):=by rw [if_neg (show ¬ (false = true) by decide)] at H;exact H
  clear H
  have H:=H1
  clear H1
  simp only [Option.some.injEq,Prod.mk.injEq] at H
  obtain ⟨rfl,rfl⟩:=H
  go_enter Tryz.func68,Tryz.ntmps68
  go_wp2_with (first | ((with_reducible refine qY (N:=2) rfl ?_);refine qm ?hg (N:=2) ?hd (cs:=#[.string ze,.bool zn,.int .i64 zi,.slice qB yZ.length qC,.slice qF yB.length qG,.slice qH yC.length qI]) (t:=60) ?hr ?_;(case hd=>rfl);(case hg=>rfl);(case hr=>first | (go_simp;done) | (go_simp;rfl));intro jN hg JX qo hb;have zh:=zk.mk (zF (zM HB.out) hb);have zG:=zk.mk (qo);have zU:=zk.mk ((by rw [hg];exact (zI (zM HB.out)):w.heap.size ≤ jN));have yc:=zk.mk ((by rw [hg];exact (zI (zM HB.out)):w.heap.size ≤ jN));clear HB;have HB:=zh;have xX:=zG;have zd2:=zU;have zXn:=yc;clear zh zG zU yc;clear hb qo hg;have zaw:JX.cell? ⟨jN,0,none⟩ = some (.string ze):=zK xX 0;have zaZ:JX.cell? ⟨jN,1,none⟩ = some (.bool zn):=zK xX 1;have zaQ:JX.cell? ⟨jN,2,none⟩ = some (.int .i64 zi):=zK xX 2;have zaX:JX.cell? ⟨jN,3,none⟩ = some (.slice qB yZ.length qC):=zK xX 3;have zaJ:JX.cell? ⟨jN,4,none⟩ = some (.slice qF yB.length qG):=zK xX 4;have zaV:JX.cell? ⟨jN,5,none⟩ = some (.slice qH yC.length qI):=zK xX 5;have zaK:=zy xX.out 0;have zaY:=zy xX.out 1;have zaW:=zy xX.out 2;have zaa:=zy xX.out 3;have zab:=zy xX.out 4;have zac:=zy xX.out 5) | ((with_reducible refine yw (f:=62) rfl ?_);refine vR (some 8) Tryz.func62 #[.agg #[.string ze,.bool zn,.int .i64 zi,.slice qB yZ.length qC,.slice qF yB.length qG,.slice qH yC.length qI],.int .i64 a1] ?_;(with_reducible refine (jH.calls ze zn zi _ _ yZ _ _ yB _ _ yC a1 false _ ?yX ?yE ?xQ ?vZ ?ji ?jl ?jm A3.out).mono ?_);(case yX=>exact xZ (Kd.za Yc.out HB.out));(case yE=>exact Y0.out);(case xQ=>exact xZ (Kd.za Y1.out HB.out));(case vZ=>exact Y2.out);(case ji=>exact xZ (Kd.za Y3.out HB.out));(case jl=>exact Y4.out);(case jm=>exact GW.under HG.out (zM HB.out));rintro e Kn ⟨rfl,hb⟩;refine ⟨_,rfl,?_⟩;have zh:=zk.mk (yY (g:=jN) (o:=.cells #[.string ze,.bool zn,.int .i64 zi,.slice qB yZ.length qC,.slice qF yB.length qG,.slice qH yC.length qI] 60 (0,0)) (vK xX.out) hb);have zG:=zk.mk (zF (zM HB.out) hb);clear xX;clear HB;have xX:=zh;have HB:=zG;clear zh zG;(try clear hb);(try clear hi)))
  go_ret2
  exact ⟨by first | rfl | (simp [zl,zm] <;> rfl) | (simp [*,zl,zm] <;> rfl),by repeat (first | (with_reducible first | exact HB.out | apply zO | apply zC | apply zP | refine qw ?_ zXn.out) | exact HB.out)⟩
end Go.Proofs.YtggifbbiiickmaaGreatDoor.PX
namespace Go.Proofs.YtggifbbiiickmaaGreatDoor
open Go.RowKit Go.Shelf Go.Proofs.zx.zJ Go.Proofs.zx.zu Go.Proofs.zx.zo Go.Proofs.YtggifbbiiickmaaGreatDoor.PX
set_option linter.unusedSimpArgs false
set_option linter.unusedVariables false
theorem zVy {a:ByteArray} {c:Int} {l3:List yT} {l4:List qW} {l5:List qM} (h:xW a c l3 l4 l5 = true):l3.length ≤ 400 ∧ l4.length ≤ 50 ∧ l5.length ≤ 500:=by
 unfold xW at h
 split at h
 ·cases h
 ·rename_i q1
  simp only [Bool.or_eq_true,not_or,decide_eq_true_eq] at q1
  omega
theorem zVw {a:ByteArray} {c:Int} {l3:List yT} {l4:List qW} {l5:List qM} (h:xW a c l3 l4 l5 = true):Asc l3:=by
 unfold xW at h
 split at h
 ·cases h
 ·split at h
  ·cases h
  ·rename_i q2
   simp only [Bool.or_eq_true,not_or,Bool.not_eq_true,Bool.not_eq_false'] at q2
   exact zcx q2.2
theorem zXo {a:ByteArray} {c:Int} {l3:List yT} {l4:List qW} {l5:List qM} (h:xW a c l3 l4 l5 = true):∀ x ∈ l3,0 ≤ x.f1 ∧ x.f1 ≤ 3000:=by
 unfold xW at h
 split at h
 ·cases h
 ·split at h
  ·cases h
  ·rename_i q2
   intro x hx
   simp only [Bool.or_eq_true,not_or,Bool.not_eq_true,Bool.not_eq_false'] at q2
   have h1:=List.any_eq_false.1 q2.1 x hx
   unfold zzC Js at h1
   simp only [Bool.or_eq_true,not_or,decide_eq_true_eq] at h1
   omega
def flr (s n:Int):Int:=10 * (s * n) / 1000
theorem zVZ (s n:Int) (hs:1 ≤ s) (hs1:s ≤ 1000) (h0:-3000 ≤ n) (h1:n ≤ 3000):-3000000 ≤ s * n ∧ s * n ≤ 3000000:=by
 have a1:=Int.mul_le_mul_of_nonneg_left h1 (by omega:(0:Int) ≤ s)
 have a2:=Int.mul_le_mul_of_nonneg_left h0 (by omega:(0:Int) ≤ s)
 omega
theorem zv0 (n s:Int) (hs:1 ≤ s) (hs1:s ≤ 1000) (h0:-3000 ≤ n) (h1:n ≤ 3000):vD.f n s = some (flr s n):=by
 have hr:=zVZ s n hs hs1 h0 h1
 have e:10 * s * n = 10 * (s * n):=Int.mul_assoc _ _ _
 unfold vD.f flr
 rw [pI (x:=10 * s) (by omega) (by omega),e]
 generalize s * n = p at hr
 rw [pI (x:=10 * p) (by omega) (by omega)]
 unfold Y5.f
 by_cases hp:10 * p < 0
 ·rw [if_pos hp,if_neg (by omega),pI (x:=-(10 * p)) (by omega) (by omega),pI (x:=-(10 * p) + 1000) (by omega) (by omega),pI (x:=-(10 * p) + 1000 - 1) (by omega) (by omega),Int.tdiv_eq_ediv_of_nonneg (by omega),pI (x:=(-(10 * p) + 1000 - 1) / 1000) (by omega) (by omega),pI (by omega) (by omega)]
  simp only [Option.bind_some]
  congr 1
  omega
 ·rw [if_neg hp,if_neg (by omega),Int.tdiv_eq_ediv_of_nonneg (by omega),pI (by omega) (by omega)]
  rfl
def XQ (s:Int) (V:Bool):Bool:=decide (1 ≤ s) && (decide (s ≤ 1000) && V)
def zv1 (V:Bool) (c s:Int):Int × Int:=if XQ s V = true then (flr s c,0) else (0,1)
def zv2 (V:Bool) (l:List yT) (n:ByteArray) (s:Int):Int × Int:=if XQ s V = true then (match l.find? (fun x=>decide (x.f0 = n)) with | some x=>(flr s x.f1,0) | none=>(0,3)) else (0,1)
def oF (V:Bool) (l:List qM) (n m:ByteArray) (s:Int):Int × Int:=if XQ s V = true then ((match l.find? (fun x=>decide (x.f0 = n) && decide (x.f1 = m)) with | some x=>flr s x.f2 | none=>0),0) else (0,1)
def sU (V:Bool) (l:List qW) (n m:ByteArray):ByteArray × Bool:=if V = true then (match l.find? (fun x=>decide (x.f0 = n) && decide (x.f1 = m)) with | some x=>(x.f2,true) | none=>((⟨#[]⟩:ByteArray),false)) else ((⟨#[]⟩:ByteArray),false)
theorem zv3 (a:ByteArray) (b:Bool) (c:Int) (l3:List yT) (l4:List qW) (l5:List qM) (s:Int) (h3:l3.length ≤ 1000000000) (h4:l4.length ≤ 1000000000) (h5:l5.length ≤ 1000000000):jH.f a b c l3 l4 l5 s = some (XQ s (xW a c l3 l4 l5)):=by
 unfold jH.f XQ jo.f
 by_cases h1:s ≥ 1
 ·rw [if_pos h1,decide_eq_true h1]
  by_cases h2:s ≤ 1000
  ·rw [if_pos h2,decide_eq_true h2,if_pos ⟨h3,h4,h5⟩];rfl
  ·rw [if_neg h2,decide_eq_false h2];rfl
 ·rw [if_neg h1,decide_eq_false h1];rfl
theorem iw {s:Int} {V:Bool} (h:XQ s V = true):1 ≤ s ∧ s ≤ 1000 ∧ V = true:=by
 unfold XQ at h
 simp only [Bool.and_eq_true,decide_eq_true_eq] at h
 exact h
theorem oG {a:ByteArray} {c:Int} {l3:List yT} {l4:List qW} {l5:List qM} (h:xW a c l3 l4 l5 = true):(0 ≤ c ∧ c ≤ 3000) ∧ ∀ x ∈ l5,-500 ≤ x.f2 ∧ x.f2 ≤ 500:=by
 unfold xW at h
 split at h
 ·cases h
 ·rename_i q1
  split at h
  ·cases h
  ·split at h
   ·cases h
   ·simp only [Bool.or_eq_true,not_or,decide_eq_true_eq,Js] at q1
    rw [Bool.and_eq_true] at h
    refine ⟨by omega,fun x hx=>?_⟩
    have h2:l5.any (eU l3) = false:=by simpa using h.1
    have h1:=List.any_eq_false.1 h2 x hx
    unfold eU at h1
    simp only [Bool.or_eq_true,not_or,decide_eq_true_eq] at h1
    omega
theorem zcv (a:ByteArray) (b:Bool) (c:Int) (l3:List yT) (l4:List qW) (l5:List qM) (s:Int) (h3:l3.length ≤ 1000000000) (h4:l4.length ≤ 1000000000) (h5:l5.length ≤ 1000000000):Vu.f a b c l3 l4 l5 s = some (zv1 (xW a c l3 l4 l5) c s):=by
 unfold Vu.f zv1
 rw [zv3 a b c l3 l4 l5 s h3 h4 h5]
 simp only [Option.bind_some]
 by_cases h:XQ s (xW a c l3 l4 l5) = true
 ·obtain ⟨p,q,hv⟩:=iw h
  have hc:=(oG hv).1
  rw [if_pos h,if_pos h,zv0 c s p q (by omega) (by omega)];rfl
 ·rw [if_neg h,if_neg h]
theorem zVQ (a:ByteArray) (b:Bool) (c:Int) (l3:List yT) (l4:List qW) (l5:List qM) (n:ByteArray) (s:Int) (h3:l3.length ≤ 1000000000) (h4:l4.length ≤ 1000000000) (h5:l5.length ≤ 1000000000):Y6.f a b c l3 l4 l5 n s = some (zv2 (xW a c l3 l4 l5) l3 n s):=by
 unfold Y6.f zv2
 rw [zv3 a b c l3 l4 l5 s h3 h4 h5]
 simp only [Option.bind_some]
 by_cases h:XQ s (xW a c l3 l4 l5) = true
 ·obtain ⟨p,q,hv⟩:=iw h
  rw [if_pos h,if_pos h]
  unfold jG.f
  rw [if_pos h3]
  simp only [Option.bind_some]
  cases hf:l3.find? (fun x=>decide (x.f0 = n)) with
  | none =>
   rw [List.find?_eq_none] at hf
   rw [zae l3 n (fun x hx e=>hf x hx (decide_eq_true e)),if_neg (by simp)]
  | some x =>
   have hx:=List.mem_of_find?_eq_some hf
   have he:x.f0 = n:=by have:=List.find?_some hf;simpa using this
   obtain ⟨m,hm,rfl⟩:=List.getElem_of_mem hx
   subst he
   have hw:=zXo hv _ hx
   rw [zad l3 (zVw hv) m hm]
   simp only [if_true]
   rw [if_pos (by omega),if_pos (by omega),iy l3 m hm,zv0 _ s p q (by omega) (by omega)];rfl
 ·rw [if_neg h,if_neg h]
theorem nK {x y:ByteArray}:x.toList = y.toList ↔ x = y:=fV
end Go.Proofs.YtggifbbiiickmaaGreatDoor
namespace Go.Proofs.YtggifbbiiickmaaGreatDoor
open Go.RowKit Go.Shelf Go.Proofs.zx.zJ Go.Proofs.zx.zu Go.Proofs.zx.zo Go.Proofs.YtggifbbiiickmaaGreatDoor.PX
set_option linter.unusedSimpArgs false
set_option linter.unusedVariables false
end Go.Proofs.YtggifbbiiickmaaGreatDoor
namespace Go.Proofs.YtggifbbiiickmaaGreatDoor
open Go.RowKit Go.Proofs.zx.zJ Go.Proofs.zx.zu Go.Proofs.zx.zo Go.Proofs.YtggifbbiiickmaaGreatDoor.PX
set_option linter.unusedSimpArgs false
set_option linter.unusedVariables false
end Go.Proofs.YtggifbbiiickmaaGreatDoor
namespace Go.Proofs.YtggifbbiiickmaaGreatDoor.PX
open Go.RowKit Go.Proofs.zx.zJ Go.Proofs.zx.zu Go.Proofs.zx.zo
attribute [local go_sem] yU y7 qX qJ yM yN y8 y9   -- for this text's walks alone
set_option linter.unusedVariables false
set_option linter.unusedSimpArgs false
end Go.Proofs.YtggifbbiiickmaaGreatDoor.PX
namespace Go.Proofs.YtggifbbiiickmaaGreatDoor.PX
open Go.RowKit Go.Proofs.zx.zJ Go.Proofs.zx.zu Go.Proofs.zx.zo
attribute [local go_sem] yU y7 qX qJ yM yN y8 y9   -- for this text's walks alone
set_option linter.unusedVariables false
set_option linter.unusedSimpArgs false
end Go.Proofs.YtggifbbiiickmaaGreatDoor.PX
namespace Go.Proofs.YtggifbbiiickmaaGreatDoor.PX
open Go.RowKit Go.Proofs.zx.zJ Go.Proofs.zx.zu Go.Proofs.zx.zo
attribute [local go_sem] yU y7 qX qJ yM yN y8 y9   -- for this text's walks alone
set_option linter.unusedVariables false
set_option linter.unusedSimpArgs false
end Go.Proofs.YtggifbbiiickmaaGreatDoor.PX
namespace Go.Proofs.YtggifbbiiickmaaGreatDoor.PX
open Go.RowKit Go.Proofs.zx.zJ Go.Proofs.zx.zu Go.Proofs.zx.zo
attribute [local go_sem] yU y7 qX qJ yM yN y8 y9   -- for this text's walks alone
set_option linter.unusedVariables false
set_option linter.unusedSimpArgs false
end Go.Proofs.YtggifbbiiickmaaGreatDoor.PX
namespace Go.Proofs.YtggifbbiiickmaaGreatDoor.PX
open Go.RowKit Go.Proofs.zx.zJ Go.Proofs.zx.zu Go.Proofs.zx.zo
attribute [local go_sem] yU y7 qX qJ yM yN y8 y9   -- for this text's walks alone
set_option linter.unusedVariables false
set_option linter.unusedSimpArgs false
end Go.Proofs.YtggifbbiiickmaaGreatDoor.PX
namespace Go.Proofs.YtggifbbiiickmaaGreatDoor.PX
open Go.RowKit Go.Proofs.zx.zJ Go.Proofs.zx.zu Go.Proofs.zx.zo
attribute [local go_sem] yU y7 qX qJ yM yN y8 y9   -- for this text's walks alone
set_option linter.unusedVariables false
set_option linter.unusedSimpArgs false
end Go.Proofs.YtggifbbiiickmaaGreatDoor.PX
namespace Go.Proofs.YtggifbbiiickmaaGreatDoor.PX
open Go.RowKit Go.Proofs.zx.zJ Go.Proofs.zx.zu Go.Proofs.zx.zo
attribute [local go_sem] yU y7 qX qJ yM yN y8 y9   -- for this text's walks alone
set_option linter.unusedVariables false
set_option linter.unusedSimpArgs false
end Go.Proofs.YtggifbbiiickmaaGreatDoor.PX
namespace Go.Proofs.YtggifbbiiickmaaGreatDoor.PX
open Go.RowKit Go.Proofs.zx.zJ Go.Proofs.zx.zu Go.Proofs.zx.zo
attribute [local go_sem] yU y7 qX qJ yM yN y8 y9   -- for this text's walks alone
set_option linter.unusedVariables false
set_option linter.unusedSimpArgs false
end Go.Proofs.YtggifbbiiickmaaGreatDoor.PX
namespace Go.Proofs.YtggifbbiiickmaaGreatDoor
open Go.RowKit Go.Proofs.zx.zJ Go.Proofs.zx.zu Go.Proofs.zx.zo Go.Proofs.YtggifbbiiickmaaGreatDoor.PX
set_option linter.unusedSimpArgs false
set_option linter.unusedVariables false
end Go.Proofs.YtggifbbiiickmaaGreatDoor
namespace Go.Proofs.YtggifbbiiickmaaGreatDoor
open Go.RowKit Go.Proofs.zx.zJ Go.Proofs.zx.zo Go.Proofs.YtggifbbiiickmaaGreatDoor.PX
set_option linter.unusedSimpArgs false
set_option linter.unusedVariables false
abbrev ql:=pX
abbrev qZ:=yD
abbrev ZJ:=Z6
def q8 (x:ql):Bool:=xW x.f0 x.f2 x.f3 x.f4 x.f5
def gB (x:ql) (n:ByteArray):Bool:=gu x.f3 n
def fjoin (x:ql) (n m:ByteArray):ByteArray × Bool:=sU (q8 x) x.f4 n m
def Jt (x:ql) (n m:ByteArray) (s:Int):Int × Int:=oF (q8 x) x.f5 n m s
def XO (x:ql) (n:ByteArray) (s:Int):Int × Int:=zv2 (q8 x) x.f3 n s
def V9 (x:ql) (s:Int):Int × Int:=zv1 (q8 x) x.f2 s
def vw (l:List ql) (i:Int):ql:=uE l i
def Wn (n:ByteArray):List ql → Nat → Int
 | [],_=>-1
 | x :: r,i=>if x.f1 && gB x n then (i:Int) else Wn n r (i + 1)
def wZ (l:List ql) (f:Int) (n:ByteArray):Int:=if gB (vw l f) n then f else Wn n l 0
def nY (fA:Int):qZ:=⟨2,fA,0,0,⟨#[]⟩,⟨#[]⟩,[]⟩
def zz2 (w f s:Int) (n:ByteArray):qZ:=⟨0,w,f,s,n,⟨#[]⟩,[]⟩
def Ju (l:List ql) (s:Int) (zT:Bool) (out:List qZ) (a:Int) (n:ByteArray):List qZ :=
 match out.getLast? with
 | none=>[]
 | some b=>if zT && decide (b.f2 = a) then (if (Jt (vw l a) b.f4 n s).1 = 0 then [] else [nY (Jt (vw l a) b.f4 n s).1]) else []
def gD (l:List ql) (f s:Int) (zT:Bool) (st:List qZ × List ByteArray) (n:ByteArray):List qZ × List ByteArray :=
 if wZ l f n < 0 then (st.1,st.2 ++ [n])
 else (st.1 ++ Ju l s zT st.1 (wZ l f n) n ++ [zz2 (XO (vw l (wZ l f n)) n s).1 (wZ l f n) s n],st.2)
def VA (J:ByteArray → ByteArray → ByteArray × Bool) (c:ByteArray):List ByteArray → ByteArray × List ByteArray
 | []=>(c,[])
 | d :: r=>if (J c d).2 then VA J (J c d).1 r else (c,d :: r)
theorem zyW (J:ByteArray → ByteArray → ByteArray × Bool):∀ (r:List ByteArray) (c:ByteArray),(VA J c r).2.length ≤ r.length
 | [],_=>Nat.le_refl _
 | d :: r,c=>by
  unfold VA
  split
  ·exact Nat.le_succ_of_le (zyW J r _)
  ·exact Nat.le_refl _
def Pf (J:ByteArray → ByteArray → ByteArray × Bool):List ByteArray → List ByteArray
 | []=>[]
 | c :: r=>(VA J c r).1 :: Pf J (VA J c r).2
termination_by l=>l.length
decreasing_by have:=zyW J r c;simp;omega
def trV (pairs:List ZJ) (c:ByteArray):ByteArray:=match pairs.find? (fun p=>decide (p.f0 = c)) with | some p=>p.f1 | none=>c
def iZ (l:List ql) (f s:Int) (zT:Bool) (ns:List ByteArray):List qZ × List ByteArray:=ns.foldl (gD l f s zT) ([],[])
def Ko (l:List ql) (f:Int) (yh:Bool) (chars:List ByteArray) (pairs:List ZJ):List ByteArray :=
 if yh then Pf (fjoin (vw l f)) (chars.map (trV pairs)) else chars.map (trV pairs)
def Yq (s:ByteArray):Bool:=!Zd s.data.toList
def gF (p:ZJ):Bool:=Yq p.f0 || Yq p.f1
def Kt (l:List ql) (f s:Int) (chars:List ByteArray) (pairs:List ZJ):Bool :=
 l.any (fun x=>!q8 x) || (decide (f < 0) || decide ((l.length:Int) ≤ f) || decide (s < 1) || decide (1000 < s)) || (decide (2000 < chars.length) || decide (100 < pairs.length)) || chars.any Yq || pairs.any gF
def zVX (l:List ql) (f s:Int) (yh zT:Bool) (chars:List ByteArray) (pairs:List ZJ):List qZ × List ByteArray × Int :=
 if Kt l f s chars pairs then ([],[],1)
 else ((iZ l f s zT (Ko l f yh chars pairs)).1,(iZ l f s zT (Ko l f yh chars pairs)).2,0)
end Go.Proofs.YtggifbbiiickmaaGreatDoor
namespace Go.Proofs.YtggifbbiiickmaaGreatDoor.PX
open Go.RowKit Go.Proofs.zx.zJ Go.Proofs.zx.zu Go.Proofs.zx.zo
attribute [local go_sem] yU y7 qX qJ yM yN y8 y9   -- for this text's walks alone
set_option linter.unusedVariables false
set_option linter.unusedSimpArgs false
namespace zck
theorem wb (w:World) (a:Addr) {u:Value} (h:w.cell? a = some u):a.block < w.heap.size:=World.block_lt_of_cell? w a h
end zck
open zck
end Go.Proofs.YtggifbbiiickmaaGreatDoor.PX
namespace Go.Proofs.YtggifbbiiickmaaGreatDoor.PX
open Go.RowKit Go.Proofs.zx.zJ Go.Proofs.zx.zu Go.Proofs.zx.zo
attribute [local go_sem] yU y7 qX qJ yM yN y8 y9   -- for this text's walks alone
set_option linter.unusedVariables false
set_option linter.unusedSimpArgs false
end Go.Proofs.YtggifbbiiickmaaGreatDoor.PX
namespace Go.Proofs.YtggifbbiiickmaaGreatDoor.PX
open Go.RowKit Go.Proofs.zx.zJ Go.Proofs.zx.zu Go.Proofs.zx.zo
attribute [local go_sem] yU y7 qX qJ yM yN y8 y9   -- for this text's walks alone
set_option linter.unusedVariables false
set_option linter.unusedSimpArgs false
def qz.l0:Nat → ByteArray → Int → Option (Bool)
 | 0,_,_=>none
 | k + 1,x0,x3=>if x3 < (x0.size:Int) then (if 0 ≤ x3 then (if (bt x0 x3) < 33 then (some false) else (if (bt x0 x3) > 126 then (some false) else (qz.l0 k x0 (wrap64 (x3 + 1))))) else (none)) else (if (x0.size:Int) ≥ 1 then (some (decide ((x0.size:Int) ≤ 10))) else (some false))
def qz.f (k:Nat) (a0:ByteArray):Option (Bool):=qz.l0 k a0 0
set_option maxHeartbeats 8000000 in
set_option maxRecDepth 100000 in
theorem qz.calls (k:Nat) (a0:ByteArray) (r:Bool) (w:World) (h:qz.f k a0 = some r) :
  Calls Tryz.prog 49 #[.string a0] w fun e w'=>e = .returned (.bool r) ∧ zL w w':=by
 have H:(qz.l0 k a0 0) = some r:=h
 clear h
 have H':=zk.mk H
 clear H
 go_enter Tryz.func49,Tryz.ntmps49
 go_wp2
 go_loopg [3] k (fun kq v3 w'=>∃ (zD:Int),v3 = .int .i64 zD ∧ zk (qz.l0 kq a0 zD = some r) ∧ zk (kq ≤ k) ∧ zL w w')
 case atStart=>exact ⟨(0),(by first | rfl | (simp;done) | (simp [*];done)),H',⟨Nat.le_refl _⟩,by repeat (first | exact zL.refl _ | apply zL.step)⟩
 case round =>
  clear H'
  obtain ⟨zD,rfl,HA,vQ,⟨m1,rfl⟩⟩:=hrel
  cases gk with
  | zero=>exact absurd HA.out (by simp [qz.l0])
  | succ k1 =>
   have H:=HA.out
   clear HA
   simp only [qz.l0] at H
   by_cases c2:zD < (a0.size:Int)
   ·rw [if_pos c2] at H
    have Ya:decide (zD < (a0.size:Int)) = true:=decide_eq_true c2
    clear c2
    by_cases c3:0 ≤ zD
    ·rw [if_pos c3] at H
     have wR:decide (0 ≤ zD) = true:=decide_eq_true c3
     clear c3
     by_cases c5:(bt a0 zD) < 33
     ·rw [if_pos c5] at H
      have Z9:decide ((bt a0 zD) < 33) = true:=decide_eq_true c5
      clear c5
      obtain rfl:=Option.some.inj H
      have p4:0 ≤ (zD:Int):=of_decide_eq_true yj
      have q4:zD < (a0.size:Int):=of_decide_eq_true yj
      have hx4:=UF a0 zD
      replace p4:=eq_true p4
      replace q4:=eq_true q4
      go_wp2
      go_ret
      exact ⟨by first | rfl | (simp;done) | (simp [*];done),by repeat (first | exact zL.refl _ | apply zL.step)⟩
     ·rw [if_neg c5] at H
      have Z9:decide ((bt a0 zD) < 33) = false:=decide_eq_false c5
      clear c5
      by_cases c7:(bt a0 zD) > 126
      ·rw [if_pos c7] at H
       have Jf:decide (126 < (bt a0 zD)) = true:=decide_eq_true c7
       clear c7
       obtain rfl:=Option.some.inj H
       have p4:0 ≤ (zD:Int):=of_decide_eq_true yj
       have q4:zD < (a0.size:Int):=of_decide_eq_true yj
       have hx4:=UF a0 zD
       replace p4:=eq_true p4
       replace q4:=eq_true q4
       have p6:0 ≤ (zD:Int):=of_decide_eq_true yj
       have q6:zD < (a0.size:Int):=of_decide_eq_true yj
       have hx6:=UF a0 zD
       replace p6:=eq_true p6
       replace q6:=eq_true q6
       go_wp2
       go_ret
       exact ⟨by first | rfl | (simp;done) | (simp [*];done),by repeat (first | exact zL.refl _ | apply zL.step)⟩
      ·rw [if_neg c7] at H
       have Jf:decide (126 < (bt a0 zD)) = false:=decide_eq_false c7
       clear c7
       have H':=zk.mk H
       clear H
       have p4:0 ≤ (zD:Int):=of_decide_eq_true yj
       have q4:zD < (a0.size:Int):=of_decide_eq_true yj
       have hx4:=UF a0 zD
       replace p4:=eq_true p4
       replace q4:=eq_true q4
       have p6:0 ≤ (zD:Int):=of_decide_eq_true yj
       have q6:zD < (a0.size:Int):=of_decide_eq_true yj
       have hx6:=UF a0 zD
       replace p6:=eq_true p6
       replace q6:=eq_true q6
       go_wp2
       go_roundg k1
       case measure=>have:=vQ.out;omega
       case rel=>exact ⟨(wrap64 (zD + 1)),(by first | rfl | (simp;done) | (simp [*];done)),H',⟨by have:=vQ.out;omega⟩,by repeat (first | exact zL.refl _ | apply zL.step)⟩
    ·rw [if_neg c3] at H
     exact absurd H (by simp)
   ·rw [if_neg c2] at H
    have Ya:decide (zD < (a0.size:Int)) = false:=decide_eq_false c2
    clear c2
    by_cases c8:(a0.size:Int) ≥ 1
    ·rw [if_pos c8] at H
     have Z8:decide (1 ≤ (a0.size:Int)) = true:=decide_eq_true c8
     have iQ:decide (1 ≤ a0.size) = true:=decide_eq_true (by omega)
     clear c8
     obtain rfl:=Option.some.inj H
     go_wp2
     go_ret
     exact ⟨by first | rfl | (simp;done) | (simp [*];done),by repeat (first | exact zL.refl _ | apply zL.step)⟩
    ·rw [if_neg c8] at H
     have Z8:decide (1 ≤ (a0.size:Int)) = false:=decide_eq_false c8
     have iQ:decide (1 ≤ a0.size) = false:=decide_eq_false (by omega)
     clear c8
     obtain rfl:=Option.some.inj H
     go_wp2
     go_ret
     exact ⟨by first | rfl | (simp;done) | (simp [*];done),by repeat (first | exact zL.refl _ | apply zL.step)⟩
end Go.Proofs.YtggifbbiiickmaaGreatDoor.PX
namespace Go.Proofs.YtggifbbiiickmaaGreatDoor.PX
open Go.RowKit Go.Proofs.zx.zJ Go.Proofs.zx.zu Go.Proofs.zx.zo
attribute [local go_sem] yU y7 qX qJ yM yN y8 y9   -- for this text's walks alone
set_option linter.unusedVariables false
set_option linter.unusedSimpArgs false
end Go.Proofs.YtggifbbiiickmaaGreatDoor.PX
namespace Go.Proofs.YtggifbbiiickmaaGreatDoor.PX
open Go.RowKit Go.Proofs.zx.zJ Go.Proofs.zx.zu Go.Proofs.zx.zo
attribute [local go_sem] yU y7 qX qJ yM yN y8 y9   -- for this text's walks alone
set_option linter.unusedVariables false
set_option linter.unusedSimpArgs false
end Go.Proofs.YtggifbbiiickmaaGreatDoor.PX
namespace Go.Proofs.YtggifbbiiickmaaGreatDoor.PX
open Go.RowKit Go.Proofs.zx.zJ Go.Proofs.zx.zu Go.Proofs.zx.zo
attribute [local go_sem] yU y7 qX qJ yM yN y8 y9   -- for this text's walks alone
set_option linter.unusedVariables false
set_option linter.unusedSimpArgs false
end Go.Proofs.YtggifbbiiickmaaGreatDoor.PX
namespace Go.Proofs.YtggifbbiiickmaaGreatDoor
open Go.RowKit Go.Proofs.zx.zJ Go.Proofs.zx.zu Go.Proofs.zx.zo Go.Proofs.YtggifbbiiickmaaGreatDoor.PX
set_option linter.unusedSimpArgs false
set_option linter.unusedVariables false
theorem zaf (l:List UInt8) (hl:l.length ≤ 140737488355328):∀ d i,l.length - i = d → i ≤ l.length → Ev (fun k=>qz.l0 k (bar l) (i:Int)) ((l.drop i).all okB && (decide (1 ≤ l.length) && decide (l.length ≤ 10))):=by
 intro d
 induction d with
 | zero =>
  intro i hd hi
  have e:l.drop i = []:=List.drop_eq_nil_of_le (by omega)
  rw [e]
  refine Ev.step (fun k=>by rw [qz.l0,X7]) (yG (by omega) ?_)
  by_cases h:1 ≤ l.length
  ·refine zR (by omega) (jR ?_ (Ev.now _))
   rw [List.all_nil,decide_eq_true h,Bool.true_and,Bool.true_and]
   exact decide_eq_decide.2 (by omega)
  ·refine yG (by omega) (jR ?_ (Ev.now _))
   rw [List.all_nil,decide_eq_false h];rfl
 | succ d ih =>
  intro i hd hi
  have h1:i < l.length:=by omega
  have q0:(0:Int) ≤ (i:Int):=by omega
  have q1:(i:Int) < (l.length:Int):=by omega
  have hw:wrap64 ((i:Int) + 1) = ((i + 1:Nat):Int):=(pI (by omega) (by omega)).trans (by omega)
  have hr:=ih (i + 1) (by omega) (by omega)
  have hb:=zyy l i h1
  rw [List.drop_eq_getElem_cons h1,List.all_cons]
  refine Ev.step (fun k=>by rw [qz.l0,X7,hb,hw]) (zR q1 (zR q0 ?_))
  clear hb hw
  generalize l[i] = b at *
  by_cases a1:b.toNat < 33
  ·refine zR (by omega) (jR ?_ (Ev.now _))
   have:okB b = false:=by unfold okB;rw [decide_eq_false (by omega:¬ 33 ≤ b.toNat)];rfl
   rw [this];rfl
  ·refine yG (by omega) ?_
   by_cases a2:126 < b.toNat
   ·refine zR (by omega) (jR ?_ (Ev.now _))
    have:okB b = false:=by unfold okB;rw [decide_eq_false (by omega:¬ b.toNat ≤ 126),Bool.and_false]
    rw [this];rfl
   ·refine yG (by omega) (jR ?_ hr)
    have:okB b = true:=by unfold okB;rw [decide_eq_true (by omega:33 ≤ b.toNat),decide_eq_true (by omega:b.toNat ≤ 126)];rfl
    rw [this,Bool.true_and]
theorem zVJ (s:ByteArray) (hs:s.size ≤ 140737488355328):Ev (fun k=>qz.f k s) (!Yq s):=by
 obtain ⟨l,rfl⟩:=zyk s
 rw [X7] at hs
 have h1:Ev (fun k=>qz.l0 k (bar l) 0) _:=zaf l hs _ 0 rfl (Nat.zero_le _)
 refine Ev.congr (fun k=>by rw [qz.f]) (jR ?_ h1)
 rw [List.drop_zero]
 unfold Yq Zd
 rw [Bool.not_not,zvI,Bool.and_comm,Bool.and_assoc]
end Go.Proofs.YtggifbbiiickmaaGreatDoor
namespace Go.Proofs.YtggifbbiiickmaaGreatDoor
open Go.RowKit Go.Shelf
theorem zkS (w:World):PredAt Tryz.prog 125 #[] encR jh w:=fun W r _=>by
 unfold FnGives
 show Calls Tryz.prog 125 #[.int .i32 r] W _
 by_cases h1:r < 33
 ·have e1:jh r = true:=by unfold jh;simp [h1]
  have d1:decide ((r:Int) < 33) = true:=by simp;omega
  rw [e1];clear e1 h1
  go_enter Tryz.func125,Tryz.ntmps125
  go_wp2
  go_ret
  exact ⟨rfl,0,rfl⟩
 ·have d1:decide ((r:Int) < 33) = false:=by simp;omega
  by_cases h2:126 < r
  ·have e1:jh r = true:=by unfold jh;simp [h2]
   have d2:decide ((126:Int) < (r:Int)) = true:=by simp;omega
   rw [e1];clear e1 h1 h2
   go_enter Tryz.func125,Tryz.ntmps125
   go_wp2
   go_ret
   exact ⟨rfl,0,rfl⟩
  ·have e1:jh r = false:=by unfold jh;simp;omega
   have d2:decide ((126:Int) < (r:Int)) = false:=by simp;omega
   rw [e1];clear e1 h1 h2
   go_enter Tryz.func125,Tryz.ntmps125
   go_wp2
   go_ret
   exact ⟨rfl,0,rfl⟩
def Qz (l:List UInt8):Bool:=decide (l.length ≤ 20) && l.all okB
set_option maxRecDepth 100000 in
theorem zXp (s:ByteArray) (w:World) :
  Calls Tryz.prog 76 #[.string s] w fun e w'=>e = .returned (.bool (Qz s.data.toList)) ∧ Below w.heap.size w w':=by
 have hl:s.data.toList.length = s.size:=Array.length_toList
 have hc:=Tryz.strings_ContainsFunc 125 #[] (enters_of Tryz.func125 (by kernel_rfl) rfl) jh s w (zkS w)
 have hv:decide (0 ≤ Lib.idxFunc jh true s) = !(s.data.toList.all okB):=by
  have:=zvM s s.size 0 (by omega) (by omega)
  rw [List.drop_zero] at this
  unfold Lib.idxFunc
  cases h:s.data.toList.all okB with
  | true=>rw [h] at this;simp at this;simp;omega
  | false=>rw [h] at this;simp at this;simp [this]
 rw [hv] at hc
 unfold Qz
 rw [hl]
 generalize s.data.toList.all okB = b at hc ⊢
 clear hl hv
 by_cases h2:s.size ≤ 20
 ·have d2:decide (s.size ≤ 20) = true:=decide_eq_true h2
  have g2:decide ((s.size:Int) ≤ 20) = true:=by simp;omega
  rw [d2]
  clear d2
  cases b with
  | true =>
   go_enter Tryz.func76,Tryz.ntmps76
   go_wp2_with (go_at_call 81;refine hc.mono ?_;rintro e w1 ⟨rfl,hb1⟩)
   go_ret
   exact ⟨rfl,hb1⟩
  | false =>
   go_enter Tryz.func76,Tryz.ntmps76
   go_wp2_with (go_at_call 81;refine hc.mono ?_;rintro e w1 ⟨rfl,hb1⟩)
   go_ret
   exact ⟨rfl,hb1⟩
 ·have d2:decide (s.size ≤ 20) = false:=decide_eq_false h2
  have g2:decide ((s.size:Int) ≤ 20) = false:=by simp;omega
  rw [d2]
  clear d2 hc
  go_enter Tryz.func76,Tryz.ntmps76
  go_wp2
  go_ret
  exact ⟨rfl,Below.refl _ _⟩
end Go.Proofs.YtggifbbiiickmaaGreatDoor
namespace Go.Proofs.YtggifbbiiickmaaGreatDoor
open Go.RowKit Go.Shelf
theorem zkT (w:World):PredAt Tryz.prog 82 #[] encR jh w:=fun W r _=>by
 unfold FnGives
 show Calls Tryz.prog 82 #[.int .i32 r] W _
 by_cases h1:r < 33
 ·have e1:jh r = true:=by unfold jh;simp [h1]
  have d1:decide ((r:Int) < 33) = true:=by simp;omega
  rw [e1];clear e1 h1
  go_enter Tryz.func82,Tryz.ntmps82
  go_wp2
  go_ret
  exact ⟨rfl,0,rfl⟩
 ·have d1:decide ((r:Int) < 33) = false:=by simp;omega
  by_cases h2:126 < r
  ·have e1:jh r = true:=by unfold jh;simp [h2]
   have d2:decide ((126:Int) < (r:Int)) = true:=by simp;omega
   rw [e1];clear e1 h1 h2
   go_enter Tryz.func82,Tryz.ntmps82
   go_wp2
   go_ret
   exact ⟨rfl,0,rfl⟩
  ·have e1:jh r = false:=by unfold jh;simp;omega
   have d2:decide ((126:Int) < (r:Int)) = false:=by simp;omega
   rw [e1];clear e1 h1 h2
   go_enter Tryz.func82,Tryz.ntmps82
   go_wp2
   go_ret
   exact ⟨rfl,0,rfl⟩
set_option maxRecDepth 100000 in
theorem oH (s:ByteArray) (w:World) :
  Calls Tryz.prog 36 #[.string s] w fun e w'=>e = .returned (.bool (Zd s.data.toList)) ∧ Below w.heap.size w w':=by
 have hl:s.data.toList.length = s.size:=Array.length_toList
 have hc:=Tryz.strings_ContainsFunc 82 #[] (enters_of Tryz.func82 (by kernel_rfl) rfl) jh s w (zkT w)
 have hv:decide (0 ≤ Lib.idxFunc jh true s) = !(s.data.toList.all okB):=by
  have:=zvM s s.size 0 (by omega) (by omega)
  rw [List.drop_zero] at this
  unfold Lib.idxFunc
  cases h:s.data.toList.all okB with
  | true=>rw [h] at this;simp at this;simp;omega
  | false=>rw [h] at this;simp at this;simp [this]
 rw [hv] at hc
 unfold Zd
 rw [hl]
 generalize s.data.toList.all okB = b at hc ⊢
 clear hl hv
 by_cases h1:1 ≤ s.size
 ·have d1:decide (1 ≤ s.size) = true:=decide_eq_true h1
  have g1:decide ((1:Int) ≤ (s.size:Int)) = true:=by simp;omega
  by_cases h2:s.size ≤ 10
  ·have d2:decide (s.size ≤ 10) = true:=decide_eq_true h2
   have g2:decide ((s.size:Int) ≤ 10) = true:=by simp;omega
   rw [d1,d2]
   clear d1 d2
   cases b with
   | true =>
    go_enter Tryz.func36,Tryz.ntmps36
    go_wp2_with (go_at_call 81;refine hc.mono ?_;rintro e w1 ⟨rfl,hb1⟩)
    go_ret
    exact ⟨rfl,hb1⟩
   | false =>
    go_enter Tryz.func36,Tryz.ntmps36
    go_wp2_with (go_at_call 81;refine hc.mono ?_;rintro e w1 ⟨rfl,hb1⟩)
    go_ret
    exact ⟨rfl,hb1⟩
  ·have d2:decide (s.size ≤ 10) = false:=decide_eq_false h2
   have g2:decide ((s.size:Int) ≤ 10) = false:=by simp;omega
   rw [d1,d2]
   clear d1 d2 hc
   go_enter Tryz.func36,Tryz.ntmps36
   go_wp2
   go_ret
   exact ⟨rfl,Below.refl _ _⟩
 ·have d1:decide (1 ≤ s.size) = false:=decide_eq_false h1
  have g1:decide ((1:Int) ≤ (s.size:Int)) = false:=by simp;omega
  rw [d1]
  clear d1 hc
  go_enter Tryz.func36,Tryz.ntmps36
  go_wp2
  go_ret
  exact ⟨rfl,Below.refl _ _⟩
end Go.Proofs.YtggifbbiiickmaaGreatDoor
namespace Go.Proofs.YtggifbbiiickmaaGreatDoor
open Go.RowKit Go.Proofs.zx.zJ
set_option linter.unusedSimpArgs false
set_option linter.unusedVariables false
def kT {α:Type} (p:α → Bool):List α → Nat → Int
 | [],_=>-1
 | x :: r,i=>if p x then (i:Int) else kT p r (i + 1)
theorem JJ {α:Type} (p:α → Bool) (x:α) (r:List α) (i:Nat):kT p (x :: r) i = if p x then (i:Int) else kT p r (i + 1):=rfl
theorem Ku {α:Type} (p:α → Bool):∀ (l:List α) (i:Nat),decide (0 ≤ kT p l i) = l.any p
 | [],_=>rfl
 | x :: r,i=>by
  unfold kT
  rw [List.any_cons]
  by_cases h:p x = true
  ·rw [if_pos h,h,Bool.true_or];exact decide_eq_true (by omega)
  ·rw [if_neg h,Ku p r]
   simp only [Bool.not_eq_true] at h
   rw [h,Bool.false_or]
end Go.Proofs.YtggifbbiiickmaaGreatDoor
namespace Go.Proofs.YtggifbbiiickmaaGreatDoor
open Go.RowKit Go.Proofs.zx.zJ Go.Proofs.zx.zu Go.Proofs.zx.zo Go.Proofs.YtggifbbiiickmaaGreatDoor.PX
set_option linter.unusedSimpArgs false
set_option linter.unusedVariables false
set_option maxRecDepth 100000 in
set_option maxHeartbeats 4000000 in
theorem zKG (A0:Option Addr) (c0:Nat) (l:List Int) (w:World) (hr:Kd.C (Kd.int .i64) w A0 l.length l) (hl:l.length ≤ 1000000000) (p:Int → Bool) (g:Nat) (lb:Array Value) (eg:∀ args w,(callFunc g args).run Tryz.prog w = .ok (.enter g args) w)
  (hp:∀ (W:World) (x:Int),x ∈ l → Below w.heap.size w W → Calls Tryz.prog g (#[.int .i64 x] ++ lb) W fun e w'=>e = .returned (.bool (p x)) ∧ Below w.heap.size w w') :
  Calls Tryz.prog 127 #[.slice A0 l.length c0,.func (.func g) #[] lb] w fun e w'=>e = .returned (.int .i64 (kT p l 0)) ∧ Below w.heap.size w w':=by
 have H:=zk.mk hr
 have HP:=zk.mk hp
 clear hr hp
 generalize hR:kT p l 0 = R
 have HR:=zk.mk hR
 clear hR
 go_enter Tryz.func127,Tryz.ntmps127
 go_wp2
 go_loopw [8] (fun i W=>∃ k:Nat,k ≤ l.length ∧ i = .int .i64 (k:Int) ∧ zk (kT p l 0 = kT p (l.drop k) k) ∧ zk (Below w.heap.size w W)) (fun i _=>l.length - (intOf i).toNat)
 case atStart=>exact ⟨0,Nat.zero_le _,rfl,⟨by rw [List.drop_zero]⟩,⟨Below.refl _ _⟩⟩
 case round =>
  obtain ⟨k,hk,rfl,HI,HB⟩:=hrel
  by_cases hlt:k < l.length
  ·obtain ⟨ad,e,x0⟩:=Kd.XB (Kd.za H.out HB.out) (k:Int) (by omega) (by omega)
   cases e
   have e:rd l (k:Int) = l[k]:=by simp [rd,List.getD_eq_getElem?_getD,hlt]
   rw [Int.toNat_natCast] at x0
   rw [e] at x0
   clear e
   have hi:=HI.out
   rw [List.drop_eq_getElem_cons hlt,JJ] at hi
   have hm:l[k] ∈ l:=List.getElem_mem hlt
   generalize l[k] = x at x0 hi hm
   have hcall:=HP.out wr x hm HB.out
   clear hm
   cases hq:p x with
   | true =>
    rw [hq] at hcall
    rw [if_pos hq] at hi
    have HI2:=zk.mk (HR.out.symm.trans hi)
    clear hi hq HI
    go_wp2_with fail
    refine hcall.mono ?_;rintro e w' ⟨rfl,hb'⟩
    go_wp2_with fail
    go_ret
    exact ⟨by rw [HI2.out];rfl,hb'⟩
   | false =>
    rw [hq] at hcall
    rw [if_neg (by rw [hq];exact Bool.false_ne_true)] at hi
    have HI2:=zk.mk hi
    clear hi hq HI
    go_wp2_with fail
    refine hcall.mono ?_;rintro e w' ⟨rfl,hb'⟩
    go_wp2_with fail
    go_roundw
    case rel=>exact ⟨k + 1,by omega,by first | rfl | go_num,HI2,⟨hb'⟩⟩
    case measure=>simp [intOf];omega
  ·obtain rfl:k = l.length:=by omega
   have hi:=HI.out
   rw [List.drop_eq_nil_of_le (Nat.le_refl _)] at hi
   have HI2:=zk.mk (HR.out.symm.trans hi)
   clear hi HI
   go_wp2
   go_ret
   exact ⟨by rw [HI2.out];rfl,HB.out⟩
set_option maxRecDepth 100000 in
theorem zKH (A0:Option Addr) (c0:Nat) (l:List Int) (w:World) (hr:Kd.C (Kd.int .i64) w A0 l.length l) (hl:l.length ≤ 1000000000) (p:Int → Bool) (g:Nat) (lb:Array Value) (eg:∀ args w,(callFunc g args).run Tryz.prog w = .ok (.enter g args) w)
  (hp:∀ (W:World) (x:Int),x ∈ l → Below w.heap.size w W → Calls Tryz.prog g (#[.int .i64 x] ++ lb) W fun e w'=>e = .returned (.bool (p x)) ∧ Below w.heap.size w w') :
  Calls Tryz.prog 79 #[.slice A0 l.length c0,.func (.func g) #[] lb] w fun e w'=>e = .returned (.bool (l.any p)) ∧ Below w.heap.size w w':=by
 have h:=zKG A0 c0 l w hr hl p g lb eg hp
 have e:=Ku p l 0
 generalize kT p l 0 = i at h e
 generalize l.any p = b at e ⊢
 subst e
 clear hp hr
 go_enter Tryz.func79,Tryz.ntmps79
 go_wp2_with (go_at_call 127;refine h.mono ?_;rintro e w1 ⟨rfl,hb⟩)
 go_ret
 exact ⟨rfl,hb⟩
end Go.Proofs.YtggifbbiiickmaaGreatDoor
namespace Go.Proofs.YtggifbbiiickmaaGreatDoor
open Go.RowKit Go.Shelf Go.Proofs.zx.zJ Go.Proofs.zx.zu Go.Proofs.zx.zo Go.Proofs.YtggifbbiiickmaaGreatDoor.PX
set_option linter.unusedSimpArgs false
set_option linter.unusedVariables false
def Ze (f2 f3:Int) (f5:ByteArray) (f6:List Int):Bool:=decide (f2 = 0) && (decide (f3 = 0) && (decide (f5 = ⟨#[]⟩) && decide (f6 = [])))
def VB (f1 f2 f3:Int) (f5:ByteArray):Bool:=decide (f1 < -1000000) || (decide (1000000 < f1) || (decide (f2 < 0) || (decide (f3 < 0) || !Qz f5.data.toList)))
def WS (n:Int):Bool:=decide (n < -1000000) || decide (1000000 < n)
def zz3 (f2 f3:Int) (f4:ByteArray) (f6:List Int):Bool:=decide (f2 = 0) && (decide (f3 = 0) && (decide (f4.size = 1) && (Lib.contains [108,99,101,97,126] f4.data.toList && (decide (f6.length ≤ 40) && !f6.any WS))))
def VD (f0 f1 f2 f3:Int) (f4 f5:ByteArray) (f6:List Int):Bool :=
 if VB f1 f2 f3 f5 then false
 else if f0 = 0 then Zd f4.data.toList && decide (f6 = [])
 else if f0 = 1 then (decide (f4 = ⟨#[]⟩) || decide (f4 = ⟨#[126]⟩)) && (decide (f5 = ⟨#[]⟩) && decide (f6 = []))
 else if f0 = 4 then zz3 f2 f3 f4 f6
 else if f0 = 5 then Ze f2 f3 f5 f6 && (decide (f4 = ⟨#[]⟩) && decide (f1 = 0))
 else if f0 = 2 ∨ f0 = 3 ∨ f0 = 6 then Ze f2 f3 f5 f6 && decide (f4 = ⟨#[]⟩)
 else false
theorem zVV (n:Int) (w:World):Calls Tryz.prog 77 #[.int .i64 n] w fun e w'=>e = .returned (.bool (WS n)) ∧ Below w.heap.size w w':=by
 unfold WS
 by_cases h1:n < -1000000
 ·have d1:decide (n < -1000000) = true:=decide_eq_true h1
  rw [d1];clear h1
  go_enter Tryz.func77,Tryz.ntmps77
  go_wp2
  go_ret
  exact ⟨rfl,Below.refl _ _⟩
 ·have d1:decide (n < -1000000) = false:=decide_eq_false h1
  rw [d1]
  cases h2:decide (1000000 < n) with
  | true =>
   clear h1
   go_enter Tryz.func77,Tryz.ntmps77
   go_wp2
   go_ret
   exact ⟨rfl,Below.refl _ _⟩
  | false =>
   clear h1
   go_enter Tryz.func77,Tryz.ntmps77
   go_wp2
   go_ret
   exact ⟨rfl,Below.refl _ _⟩
theorem Wo {s:ByteArray} (h:s ≠ ⟨#[]⟩):(s.toList == ([]:List UInt8)) = false ∧ s.toList.isEmpty = false ∧ (!s.toList.isEmpty) = true:=by
 have h1:s.toList ≠ []:=fun e=>h (by
  obtain ⟨d⟩:=s
  rw [ByteArray.toList_eq] at e
  exact congrArg ByteArray.mk (Array.toList_eq_nil_iff.1 e))
 have h2:s.toList.isEmpty = false:=List.isEmpty_eq_false_iff.2 h1
 exact ⟨beq_eq_false_iff_ne.2 h1,h2,by rw [h2];rfl⟩
theorem zvX {l:List Int} (h:l ≠ []):((l.length:Int) == 0) = false:=beq_eq_false_iff_ne.2 (fun e=>h (List.eq_nil_of_length_eq_zero (by omega)))
theorem zah {s:ByteArray} (h:s ≠ ⟨#[126]⟩):(s.toList == ([126]:List UInt8)) = false:=by
 refine beq_eq_false_iff_ne.2 (fun e=>h ?_)
 obtain ⟨d⟩:=s
 rw [ByteArray.toList_eq] at e
 have e2:d = #[126]:=by
  have:=congrArg List.toArray e
  simpa using this
 rw [e2]
set_option maxRecDepth 100000 in
set_option maxHeartbeats 8000000 in
theorem zXr (f0 f1 f2 f3:Int) (f4 f5:ByteArray) (A6:Option Addr) (c6:Nat) (f6:List Int) (w:World) (hG:GW w) (hr:Kd.C (Kd.int .i64) w A6 f6.length f6) (hl:f6.length ≤ 1000000000) (hs:f4.size ≤ 1000000000) :
  Calls Tryz.prog 32 #[.agg #[.int .i64 f0,.int .i64 f1,.int .i64 f2,.int .i64 f3,.string f4,.string f5,.slice A6 f6.length c6]] w fun e w'=>e = .returned (.bool (VD f0 f1 f2 f3 f4 f5 f6)) ∧ Below w.heap.size w w':=by
 obtain ⟨R,hR⟩:∃ R,VD f0 f1 f2 f3 f4 f5 f6 = R:=⟨_,rfl⟩
 rw [hR]
 have HRR:=zk.mk hR
 clear hR
 obtain ⟨w1,hw1⟩:∃ w1,w.alloc (.cells #[.int .i64 f0,.int .i64 f1,.int .i64 f2,.int .i64 f3,.string f4,.string f5,.slice A6 f6.length c6] 53) = w1:=⟨_,rfl⟩
 have hb1:Below w.heap.size w w1:=by rw [← hw1];exact (Below.refl _ w).alloc (Nat.le_refl _) _
 have hS:w1.heap[w.heap.size]? = some (.cells #[.int .i64 f0,.int .i64 f1,.int .i64 f2,.int .i64 f3,.string f4,.string f5,.slice A6 f6.length c6] 53 (0,0)):=by rw [← hw1];exact uV w _
 have hgs:=hb1.size
 generalize hg:w.heap.size = g at hS hb1 hgs
 have HB1:=zk.mk hb1
 have HS:=zk.mk hS
 have HR:=zk.mk hr
 have HG:=zk.mk hG
 have x0:w1.cell? ⟨g,0,none⟩ = some (.int .i64 f0):=(zV hS 0).trans rfl
 have x1:w1.cell? ⟨g,1,none⟩ = some (.int .i64 f1):=(zV hS 1).trans rfl
 have x2:w1.cell? ⟨g,2,none⟩ = some (.int .i64 f2):=(zV hS 2).trans rfl
 have x3:w1.cell? ⟨g,3,none⟩ = some (.int .i64 f3):=(zV hS 3).trans rfl
 have x4:w1.cell? ⟨g,4,none⟩ = some (.string f4):=(zV hS 4).trans rfl
 have x5:w1.cell? ⟨g,5,none⟩ = some (.string f5):=(zV hS 5).trans rfl
 have x6:w1.cell? ⟨g,6,none⟩ = some (.slice A6 f6.length c6):=(zV hS 6).trans rfl
 clear hb1 hS hr hG
 go_enter Tryz.func32,Tryz.ntmps32
 go_upto_region 1 with (fail)
 try rw [hw1]
 try rw [hg]
 go_cut [3] (fun s3 wx=>s3 = .bool (Ze f2 f3 f5 f6) ∧ w1 = wx)
 case first =>
  clear hw1
  by_cases h2:f2 = 0
  ·subst h2
   by_cases h3:f3 = 0
   ·subst h3
    by_cases h5:f5 = ⟨#[]⟩
    ·subst h5
     by_cases h6:f6 = []
     ·subst h6
      go_wp2_with fail
      go_meet
      exact ⟨rfl,rfl⟩
     ·have i6:((f6.length:Int) == 0) = false:=zvX h6
      have H6:=Lib.hid h6
      clear h6
      go_wp2_with fail
      go_meet
      exact ⟨by rw [show Ze 0 0 ⟨#[]⟩ f6 = false by unfold Ze;rw [decide_eq_false H6.out];rfl],rfl⟩
    ·obtain ⟨s1,s2,s3⟩:=Wo h5
     have H5:=Lib.hid h5
     clear h5
     go_wp2_with fail
     go_meet
     exact ⟨by rw [show Ze 0 0 f5 f6 = false by unfold Ze;rw [decide_eq_false H5.out];rfl],rfl⟩
   ·have i3:(f3 == 0) = false:=beq_eq_false_iff_ne.2 h3
    have H3:=Lib.hid h3
    clear h3
    go_wp2_with fail
    go_meet
    exact ⟨by rw [show Ze 0 f3 f5 f6 = false by unfold Ze;rw [decide_eq_false H3.out];rfl],rfl⟩
  ·have i2:(f2 == 0) = false:=beq_eq_false_iff_ne.2 h2
   have H2:=Lib.hid h2
   clear h2
   go_wp2_with fail
   go_meet
   exact ⟨by rw [show Ze f2 f3 f5 f6 = false by unfold Ze;rw [decide_eq_false H2.out];rfl],rfl⟩
 case rest =>
 obtain ⟨rfl,rfl⟩:=hcut
 go_upto_region 2 with (fail)
 go_cut [47] (fun s47 wx=>s47 = .bool (VB f1 f2 f3 f5) ∧ zk (Below w1.heap.size w1 wx))
 case first =>
  clear hw1
  by_cases h1:f1 < -1000000
  ·have i1:decide (f1 < -1000000) = true:=decide_eq_true h1
   clear h1
   go_wp2_with fail
   go_meet
   exact ⟨by rw [show VB f1 f2 f3 f5 = true by unfold VB;rw [i1];rfl],⟨Below.refl _ _⟩⟩
  ·have i1:decide (f1 < -1000000) = false:=decide_eq_false h1
   clear h1
   by_cases h2:1000000 < f1
   ·have i2:decide (1000000 < f1) = true:=decide_eq_true h2
    clear h2
    go_wp2_with fail
    go_meet
    exact ⟨by rw [show VB f1 f2 f3 f5 = true by unfold VB;rw [i1,i2];rfl],⟨Below.refl _ _⟩⟩
   ·have i2:decide (1000000 < f1) = false:=decide_eq_false h2
    clear h2
    by_cases h3:f2 < 0
    ·have i3:decide (f2 < 0) = true:=decide_eq_true h3
     clear h3
     go_wp2_with fail
     go_meet
     exact ⟨by rw [show VB f1 f2 f3 f5 = true by unfold VB;rw [i1,i2,i3];rfl],⟨Below.refl _ _⟩⟩
    ·have i3:decide (f2 < 0) = false:=decide_eq_false h3
     clear h3
     by_cases h4:f3 < 0
     ·have i4:decide (f3 < 0) = true:=decide_eq_true h4
      clear h4
      go_wp2_with fail
      go_meet
      exact ⟨by rw [show VB f1 f2 f3 f5 = true by unfold VB;rw [i1,i2,i3,i4];rfl],⟨Below.refl _ _⟩⟩
     ·have i4:decide (f3 < 0) = false:=decide_eq_false h4
      clear h4
      have zv4:=zXp f5 w1
      have hv:VB f1 f2 f3 f5 = !Qz f5.data.toList:=by unfold VB;rw [i1,i2,i3,i4];rfl
      generalize Qz f5.data.toList = cb at zv4 hv
      have HV:=Lib.hid hv
      clear hv
      go_wp2_with fail
      refine zv4.mono ?_;rintro e w2 ⟨rfl,hb2⟩
      have HB2:=zk.mk hb2
      clear hb2 zv4
      go_wp2_with fail
      go_meet
      exact ⟨by rw [HV.out],HB2⟩
 case rest =>
 obtain ⟨rfl,HB2⟩:=hcut
 have hS2:=yY HS.out HB2.out
 have pJ:=zk.mk (HB1.out.trans (HB2.out.mono hgs))
 have zcy:zk (Below w.heap.size w wc):=⟨by rw [hg];exact pJ.out⟩
 have zXs:g ≤ wc.heap.size:=Nat.le_trans hgs HB2.out.size
 clear x0 x1 x2 x3 x4 x5 x6 HS HB2
 have HS:=zk.mk hS2
 have x0:wc.cell? ⟨g,0,none⟩ = some (.int .i64 f0):=(zV hS2 0).trans rfl
 have x1:wc.cell? ⟨g,1,none⟩ = some (.int .i64 f1):=(zV hS2 1).trans rfl
 have x2:wc.cell? ⟨g,2,none⟩ = some (.int .i64 f2):=(zV hS2 2).trans rfl
 have x3:wc.cell? ⟨g,3,none⟩ = some (.int .i64 f3):=(zV hS2 3).trans rfl
 have x4:wc.cell? ⟨g,4,none⟩ = some (.string f4):=(zV hS2 4).trans rfl
 have x5:wc.cell? ⟨g,5,none⟩ = some (.string f5):=(zV hS2 5).trans rfl
 have x6:wc.cell? ⟨g,6,none⟩ = some (.slice A6 f6.length c6):=(zV hS2 6).trans rfl
 clear hS2
 have qL:=HRR.out
 unfold VD at qL
 generalize VB f1 f2 f3 f5 = ob at qL ⊢
 cases ob with
 | true =>
  rw [if_pos rfl] at qL
  subst qL
  clear HRR
  go_wp2_with fail
  go_ret
  exact ⟨rfl,pJ.out⟩
 | false =>
  rw [if_neg Bool.false_ne_true] at qL
  clear HRR hw1 hg
  by_cases h0:f0 = 0
  ·subst h0
   rw [if_pos rfl] at qL
   have hn:=oH f4 wc
   generalize Zd f4.data.toList = nb at hn qL
   cases nb with
   | false =>
    obtain rfl:R = false:=qL.symm
    clear qL
    go_wp2_with fail
    refine hn.mono ?_;rintro e w2 ⟨rfl,hb2⟩
    have HB2:=zk.mk (pJ.out.trans (hb2.mono zXs))
    clear hb2 hn
    go_wp2_with fail
    go_ret
    exact ⟨rfl,HB2.out⟩
   | true =>
    by_cases h6:f6 = []
    ·subst h6
     obtain rfl:R = true:=qL.symm
     clear qL
     go_wp2_with fail
     refine hn.mono ?_;rintro e w2 ⟨rfl,hb2⟩
     have HB2:=zk.mk (pJ.out.trans (hb2.mono zXs))
     have y6:=(hb2.cell (p:=⟨g,6,none⟩) (World.block_lt_of_cell? wc _ x6)).trans x6
     clear hb2 hn
     go_wp2_with fail
     go_ret
     exact ⟨rfl,HB2.out⟩
    ·have i6:((f6.length:Int) == 0) = false:=zvX h6
     obtain rfl:R = false:=by rw [← qL,decide_eq_false h6];rfl
     clear qL h6
     go_wp2_with fail
     refine hn.mono ?_;rintro e w2 ⟨rfl,hb2⟩
     have HB2:=zk.mk (pJ.out.trans (hb2.mono zXs))
     have y6:=(hb2.cell (p:=⟨g,6,none⟩) (World.block_lt_of_cell? wc _ x6)).trans x6
     clear hb2 hn
     go_wp2_with fail
     go_ret
     exact ⟨rfl,HB2.out⟩
  ·rw [if_neg h0] at qL
   have n0:(f0 == 0) = false:=beq_eq_false_iff_ne.2 h0
   by_cases h1:f0 = 1
   ·subst h1
    rw [if_pos rfl] at qL
    clear h0 n0
    by_cases h4:f4 = ⟨#[]⟩
    ·subst h4
     by_cases h5:f5 = ⟨#[]⟩
     ·subst h5
      by_cases h6:f6 = []
      ·subst h6
       obtain rfl:R = true:=qL.symm
       clear qL
       go_wp2_with fail
       go_ret
       exact ⟨rfl,pJ.out⟩
      ·have i6:((f6.length:Int) == 0) = false:=zvX h6
       obtain rfl:R = false:=by rw [← qL,decide_eq_false h6];rfl
       clear qL h6
       go_wp2_with fail
       go_ret
       exact ⟨rfl,pJ.out⟩
     ·obtain ⟨sa,sb,sc⟩:=Wo h5
      obtain rfl:R = false:=by rw [← qL,decide_eq_false h5];rfl
      clear qL h5
      go_wp2_with fail
      go_ret
      exact ⟨rfl,pJ.out⟩
    ·by_cases h7:f4 = ⟨#[126]⟩
     ·subst h7
      clear h4
      by_cases h5:f5 = ⟨#[]⟩
      ·subst h5
       by_cases h6:f6 = []
       ·subst h6
        obtain rfl:R = true:=qL.symm
        clear qL
        go_wp2_with fail
        go_ret
        exact ⟨rfl,pJ.out⟩
       ·have i6:((f6.length:Int) == 0) = false:=zvX h6
        obtain rfl:R = false:=by rw [← qL,decide_eq_false h6];rfl
        clear qL h6
        go_wp2_with fail
        go_ret
        exact ⟨rfl,pJ.out⟩
      ·obtain ⟨sa,sb,sc⟩:=Wo h5
       obtain rfl:R = false:=by rw [← qL,decide_eq_false h5];rfl
       clear qL h5
       go_wp2_with fail
       go_ret
       exact ⟨rfl,pJ.out⟩
     ·obtain ⟨sa,sb,sc⟩:=Wo h4
      have st:=zah h7
      obtain rfl:R = false:=by rw [← qL,decide_eq_false h4,decide_eq_false h7];rfl
      clear qL h4 h7
      go_wp2_with fail
      go_ret
      exact ⟨rfl,pJ.out⟩
   ·rw [if_neg h1] at qL
    have n1:(f0 == 1) = false:=beq_eq_false_iff_ne.2 h1
    by_cases h4:f0 = 4
    ·subst h4
     rw [if_pos rfl] at qL
     clear h0 n0 h1 n1
     unfold zz3 at qL
     by_cases h2:f2 = 0
     ·subst h2
      by_cases h3:f3 = 0
      ·subst h3
       by_cases h7:f4.size = 1
       ·have i7:((f4.size:Int) == 1) = true:=by rw [h7];rfl
        rw [decide_eq_true h7] at qL
        obtain ⟨mx,hmx⟩:=(HG.out.under (zcy.out)).mx
        have hc:=Tryz.strings_Contains ⟨#[108,99,101,97,126]⟩ f4 mx wc (by decide) hmx
        have hcv:Lib.contains (⟨#[108,99,101,97,126]⟩:ByteArray).data.toList f4.data.toList = Lib.contains [108,99,101,97,126] f4.data.toList:=rfl
        rw [hcv] at hc
        clear hcv hmx h7
        generalize Lib.contains [108,99,101,97,126] f4.data.toList = ct at hc qL
        cases ct with
        | false =>
         obtain rfl:R = false:=qL.symm
         clear qL
         go_wp2_with fail
         refine hc.mono ?_;rintro e w2 ⟨rfl,rfl⟩
         go_wp2_with fail
         go_ret
         exact ⟨rfl,pJ.out⟩
        | true =>
         by_cases h9:f6.length ≤ 40
         ·have i9:decide ((f6.length:Int) ≤ 40) = true:=decide_eq_true (by omega)
          rw [decide_eq_true h9] at qL
          have hf:=zKH A6 c6 f6 wc (Kd.za HR.out zcy.out) (by omega) WS 77 #[] (pV Tryz.func77 (by kernel_rfl) rfl) (fun W x _ hW=>(zVV x W).mono fun e w' ⟨h1,h2⟩=>⟨h1,hW.trans (h2.mono hW.size)⟩)
          generalize f6.any WS = fa at hf qL
          have HV:=Lib.hid qL
          clear qL h9
          go_wp2_with fail
          refine hc.mono ?_;rintro e w2 ⟨rfl,rfl⟩
          go_wp2_with fail
          refine hf.mono ?_;rintro e w3 ⟨rfl,hb3⟩
          have HB3:=zk.mk (pJ.out.trans (hb3.mono zXs))
          clear hb3 hf
          go_wp2_with fail
          go_ret
          exact ⟨by rw [← HV.out];cases fa <;> rfl,HB3.out⟩
         ·have i9:decide ((f6.length:Int) ≤ 40) = false:=decide_eq_false (by omega)
          obtain rfl:R = false:=by rw [← qL,decide_eq_false h9];rfl
          clear qL h9
          go_wp2_with fail
          refine hc.mono ?_;rintro e w2 ⟨rfl,rfl⟩
          go_wp2_with fail
          go_ret
          exact ⟨rfl,pJ.out⟩
       ·have i7:((f4.size:Int) == 1) = false:=beq_eq_false_iff_ne.2 (by omega)
        obtain rfl:R = false:=by rw [← qL,decide_eq_false h7];rfl
        clear qL h7
        go_wp2_with fail
        go_ret
        exact ⟨rfl,pJ.out⟩
      ·have i3:(f3 == 0) = false:=beq_eq_false_iff_ne.2 h3
       obtain rfl:R = false:=by rw [← qL,decide_eq_false h3];rfl
       clear qL h3
       go_wp2_with fail
       go_ret
       exact ⟨rfl,pJ.out⟩
     ·have i2:(f2 == 0) = false:=beq_eq_false_iff_ne.2 h2
      obtain rfl:R = false:=by rw [← qL,decide_eq_false h2];rfl
      clear qL h2
      go_wp2_with fail
      go_ret
      exact ⟨rfl,pJ.out⟩
    ·rw [if_neg h4] at qL
     have n4:(f0 == 4) = false:=beq_eq_false_iff_ne.2 h4
     by_cases h5:f0 = 5
     ·subst h5
      rw [if_pos rfl] at qL
      clear h0 n0 h1 n1 h4 n4
      generalize Ze f2 f3 f5 f6 = bb at qL ⊢
      cases bb with
      | false =>
       obtain rfl:R = false:=qL.symm
       clear qL
       go_wp2_with fail
       go_ret
       exact ⟨rfl,pJ.out⟩
      | true =>
       by_cases h7:f4 = ⟨#[]⟩
       ·subst h7
        by_cases h8:f1 = 0
        ·subst h8
         obtain rfl:R = true:=qL.symm
         clear qL
         go_wp2_with fail
         go_ret
         exact ⟨rfl,pJ.out⟩
        ·have i8:(f1 == 0) = false:=beq_eq_false_iff_ne.2 h8
         obtain rfl:R = false:=by rw [← qL,decide_eq_false h8];rfl
         clear qL h8
         go_wp2_with fail
         go_ret
         exact ⟨rfl,pJ.out⟩
       ·obtain ⟨sa,sb,sc⟩:=Wo h7
        obtain rfl:R = false:=by rw [← qL,decide_eq_false h7];rfl
        clear qL h7
        go_wp2_with fail
        go_ret
        exact ⟨rfl,pJ.out⟩
     ·rw [if_neg h5] at qL
      have n5:(f0 == 5) = false:=beq_eq_false_iff_ne.2 h5
      by_cases h2:f0 = 2
      ·subst h2
       rw [if_pos (Or.inl rfl)] at qL
       clear h0 n0 h1 n1 h4 n4 h5 n5
       generalize Ze f2 f3 f5 f6 = bb at qL ⊢
       cases bb with
       | false =>
        obtain rfl:R = false:=qL.symm
        clear qL
        go_wp2_with fail
        go_ret
        exact ⟨rfl,pJ.out⟩
       | true =>
        by_cases h7:f4 = ⟨#[]⟩
        ·subst h7
         obtain rfl:R = true:=qL.symm
         clear qL
         go_wp2_with fail
         go_ret
         exact ⟨rfl,pJ.out⟩
        ·obtain ⟨sa,sb,sc⟩:=Wo h7
         obtain rfl:R = false:=by rw [← qL,decide_eq_false h7];rfl
         clear qL h7
         go_wp2_with fail
         go_ret
         exact ⟨rfl,pJ.out⟩
      ·have n2:(f0 == 2) = false:=beq_eq_false_iff_ne.2 h2
       by_cases h3:f0 = 3
       ·subst h3
        rw [if_pos (Or.inr (Or.inl rfl))] at qL
        clear h0 n0 h1 n1 h4 n4 h5 n5 h2 n2
        generalize Ze f2 f3 f5 f6 = bb at qL ⊢
        cases bb with
        | false =>
         obtain rfl:R = false:=qL.symm
         clear qL
         go_wp2_with fail
         go_ret
         exact ⟨rfl,pJ.out⟩
        | true =>
         by_cases h7:f4 = ⟨#[]⟩
         ·subst h7
          obtain rfl:R = true:=qL.symm
          clear qL
          go_wp2_with fail
          go_ret
          exact ⟨rfl,pJ.out⟩
         ·obtain ⟨sa,sb,sc⟩:=Wo h7
          obtain rfl:R = false:=by rw [← qL,decide_eq_false h7];rfl
          clear qL h7
          go_wp2_with fail
          go_ret
          exact ⟨rfl,pJ.out⟩
       ·have n3:(f0 == 3) = false:=beq_eq_false_iff_ne.2 h3
        by_cases h6:f0 = 6
        ·subst h6
         rw [if_pos (Or.inr (Or.inr rfl))] at qL
         clear h0 n0 h1 n1 h4 n4 h5 n5 h2 n2 h3 n3
         generalize Ze f2 f3 f5 f6 = bb at qL ⊢
         cases bb with
         | false =>
          obtain rfl:R = false:=qL.symm
          clear qL
          go_wp2_with fail
          go_ret
          exact ⟨rfl,pJ.out⟩
         | true =>
          by_cases h7:f4 = ⟨#[]⟩
          ·subst h7
           obtain rfl:R = true:=qL.symm
           clear qL
           go_wp2_with fail
           go_ret
           exact ⟨rfl,pJ.out⟩
          ·obtain ⟨sa,sb,sc⟩:=Wo h7
           obtain rfl:R = false:=by rw [← qL,decide_eq_false h7];rfl
           clear qL h7
           go_wp2_with fail
           go_ret
           exact ⟨rfl,pJ.out⟩
        ·have n6:(f0 == 6) = false:=beq_eq_false_iff_ne.2 h6
         rw [if_neg (fun h=>h.elim h2 (fun h=>h.elim h3 h6))] at qL
         subst qL
         clear h0 h1 h4 h5 h2 h3 h6
         go_wp2_with fail
         go_ret
         exact ⟨rfl,pJ.out⟩
def wQ.f (f0 f1 f2 f3:Int) (f4 f5:ByteArray) (f6:List Int):Option Bool:=if (decide (f6.length ≤ 1000000) && decide (f4.size ≤ 1000000)) = true then some (VD f0 f1 f2 f3 f4 f5 f6) else none
theorem wQ.calls (f0 f1 f2 f3:Int) (f4 f5:ByteArray) (A6:Option Addr) (c6:Nat) (f6:List Int) (r1:Bool) (w:World) (hr:Kd.C (Kd.int .i64) w A6 f6.length f6) (hc:f6.length ≤ c6) (hG:GW w) (h:wQ.f f0 f1 f2 f3 f4 f5 f6 = some r1) :
  Calls Tryz.prog 32 #[.agg #[.int .i64 f0,.int .i64 f1,.int .i64 f2,.int .i64 f3,.string f4,.string f5,.slice A6 f6.length c6]] w fun e w'=>e = .returned (.bool r1) ∧ Below w.heap.size w w':=by
 unfold wQ.f at h
 split at h
 case isFalse=>cases h
 case isTrue hz =>
  simp only [Bool.and_eq_true,decide_eq_true_eq] at hz
  injection h with h
  subst h
  exact zXr f0 f1 f2 f3 f4 f5 A6 c6 f6 w hG hr (by omega) (by omega)
end Go.Proofs.YtggifbbiiickmaaGreatDoor
namespace Go.Proofs.YtggifbbiiickmaaGreatDoor.PX
open Go.RowKit Go.Proofs.zx.zJ Go.Proofs.zx.zu Go.Proofs.zx.zo
attribute [local go_sem] yU y7 qX qJ yM yN y8 y9   -- for this text's walks alone
set_option linter.unusedVariables false
set_option linter.unusedSimpArgs false
def yg.l0:Nat → ByteArray → Int → Option (Bool)
 | 0,_,_=>none
 | k + 1,x0,x3=>if x3 < (x0.size:Int) then (if 0 ≤ x3 then (if (bt x0 x3) < 33 then (some false) else (if (bt x0 x3) > 126 then (some false) else (yg.l0 k x0 (wrap64 (x3 + 1))))) else (none)) else (some (decide ((x0.size:Int) ≤ 20)))
def yg.f (k:Nat) (a0:ByteArray):Option (Bool):=yg.l0 k a0 0
set_option maxHeartbeats 8000000 in
set_option maxRecDepth 100000 in
theorem yg.calls (k:Nat) (a0:ByteArray) (r:Bool) (w:World) (h:yg.f k a0 = some r) :
  Calls Tryz.prog 80 #[.string a0] w fun e w'=>e = .returned (.bool r) ∧ zL w w':=by
 have H:(yg.l0 k a0 0) = some r:=h
 clear h
 have H':=zk.mk H
 clear H
 go_enter Tryz.func80,Tryz.ntmps80
 go_wp2
 go_loopg [3] k (fun kq v3 w'=>∃ (zD:Int),v3 = .int .i64 zD ∧ zk (yg.l0 kq a0 zD = some r) ∧ zk (kq ≤ k) ∧ zL w w')
 case atStart=>exact ⟨(0),(by first | rfl | (simp;done) | (simp [*];done)),H',⟨Nat.le_refl _⟩,by repeat (first | exact zL.refl _ | apply zL.step)⟩
 case round =>
  clear H'
  obtain ⟨zD,rfl,HA,vQ,⟨m1,rfl⟩⟩:=hrel
  cases gk with
  | zero=>exact absurd HA.out (by simp [yg.l0])
  | succ k1 =>
   have H:=HA.out
   clear HA
   simp only [yg.l0] at H
   by_cases c2:zD < (a0.size:Int)
   ·rw [if_pos c2] at H
    have Ya:decide (zD < (a0.size:Int)) = true:=decide_eq_true c2
    clear c2
    by_cases c3:0 ≤ zD
    ·rw [if_pos c3] at H
     have wR:decide (0 ≤ zD) = true:=decide_eq_true c3
     clear c3
     by_cases c5:(bt a0 zD) < 33
     ·rw [if_pos c5] at H
      have Z9:decide ((bt a0 zD) < 33) = true:=decide_eq_true c5
      clear c5
      obtain rfl:=Option.some.inj H
      have p4:0 ≤ (zD:Int):=of_decide_eq_true yj
      have q4:zD < (a0.size:Int):=of_decide_eq_true yj
      have hx4:=UF a0 zD
      replace p4:=eq_true p4
      replace q4:=eq_true q4
      go_wp2
      go_ret
      exact ⟨by first | rfl | (simp;done) | (simp [*];done),by repeat (first | exact zL.refl _ | apply zL.step)⟩
     ·rw [if_neg c5] at H
      have Z9:decide ((bt a0 zD) < 33) = false:=decide_eq_false c5
      clear c5
      by_cases c7:(bt a0 zD) > 126
      ·rw [if_pos c7] at H
       have Jf:decide (126 < (bt a0 zD)) = true:=decide_eq_true c7
       clear c7
       obtain rfl:=Option.some.inj H
       have p4:0 ≤ (zD:Int):=of_decide_eq_true yj
       have q4:zD < (a0.size:Int):=of_decide_eq_true yj
       have hx4:=UF a0 zD
       replace p4:=eq_true p4
       replace q4:=eq_true q4
       have p6:0 ≤ (zD:Int):=of_decide_eq_true yj
       have q6:zD < (a0.size:Int):=of_decide_eq_true yj
       have hx6:=UF a0 zD
       replace p6:=eq_true p6
       replace q6:=eq_true q6
       go_wp2
       go_ret
       exact ⟨by first | rfl | (simp;done) | (simp [*];done),by repeat (first | exact zL.refl _ | apply zL.step)⟩
      ·rw [if_neg c7] at H
       have Jf:decide (126 < (bt a0 zD)) = false:=decide_eq_false c7
       clear c7
       have H':=zk.mk H
       clear H
       have p4:0 ≤ (zD:Int):=of_decide_eq_true yj
       have q4:zD < (a0.size:Int):=of_decide_eq_true yj
       have hx4:=UF a0 zD
       replace p4:=eq_true p4
       replace q4:=eq_true q4
       have p6:0 ≤ (zD:Int):=of_decide_eq_true yj
       have q6:zD < (a0.size:Int):=of_decide_eq_true yj
       have hx6:=UF a0 zD
       replace p6:=eq_true p6
       replace q6:=eq_true q6
       go_wp2
       go_roundg k1
       case measure=>have:=vQ.out;omega
       case rel=>exact ⟨(wrap64 (zD + 1)),(by first | rfl | (simp;done) | (simp [*];done)),H',⟨by have:=vQ.out;omega⟩,by repeat (first | exact zL.refl _ | apply zL.step)⟩
    ·rw [if_neg c3] at H
     exact absurd H (by simp)
   ·rw [if_neg c2] at H
    have Ya:decide (zD < (a0.size:Int)) = false:=decide_eq_false c2
    clear c2
    obtain rfl:=Option.some.inj H
    go_wp2
    go_ret
    exact ⟨by first | rfl | (simp;done) | (simp [*];done),by repeat (first | exact zL.refl _ | apply zL.step)⟩
end Go.Proofs.YtggifbbiiickmaaGreatDoor.PX
