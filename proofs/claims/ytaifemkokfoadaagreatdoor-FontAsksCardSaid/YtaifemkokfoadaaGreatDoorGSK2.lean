/-
  Texts that lean on one another, laid in one file. No condition.
-/
import Derived.Test.YtaifemkokfoadaaGreatDoorGSK1
import Derived.IntWalk
import Derived.Outline
import Derived.Lib.Hide
import Derived.StillTailTactics
import Derived.StillTactics
import Derived.Deep.RegionHeld3
import Derived.Shelf.SlicesQ.IndexFunc
import Derived.Deep.QuietTactic
import Derived.BigQuiet
import Derived.RangeFuncRecord
import Derived.Laws.EntriesVeiled
import Derived.Sort.Walk0
namespace Go.Proofs.YtaifemkokfoadaaGreatDoor.PX
open Go.RowKit Go.Proofs.zy.zu Go.Proofs.zy.yI Go.Proofs.zy.yD
attribute [local go_sem] xw xZ xP xR qD qE xQ xX   -- for this text's walks alone
set_option linter.unusedVariables false
set_option linter.unusedSimpArgs false
def QK.f  : Option ((List (xC))) := some (([(⟨(⟨#[102]⟩ : ByteArray), (⟨#[102]⟩ : ByteArray), (⟨#[102, 102]⟩ : ByteArray)⟩ : xC), (⟨(⟨#[102]⟩ : ByteArray), (⟨#[105]⟩ : ByteArray), (⟨#[102, 105]⟩ : ByteArray)⟩ : xC), (⟨(⟨#[102]⟩ : ByteArray), (⟨#[108]⟩ : ByteArray), (⟨#[102, 108]⟩ : ByteArray)⟩ : xC)] : List (xC)))
set_option maxHeartbeats 8000000 in
set_option maxRecDepth 100000 in
theorem QK.calls  (r : List (xC)) (w : World) (h : QK.f  = some r) :
  Calls Tryz.prog 31 #[] w fun e w' => ∃ Jk : Value, e = .returned (Jk) ∧ Kd.R jd 86 w' w.heap.size (fun _ => True) Jk r ∧ Below w.heap.size w w' := by
 have zlB := Tryz.underlying86
 have HB := zx.mk (Below.refl w.heap.size w)
 have H : (some (([(⟨(⟨#[102]⟩ : ByteArray), (⟨#[102]⟩ : ByteArray), (⟨#[102, 102]⟩ : ByteArray)⟩ : xC), (⟨(⟨#[102]⟩ : ByteArray), (⟨#[105]⟩ : ByteArray), (⟨#[102, 105]⟩ : ByteArray)⟩ : xC), (⟨(⟨#[102]⟩ : ByteArray), (⟨#[108]⟩ : ByteArray), (⟨#[102, 108]⟩ : ByteArray)⟩ : xC)] : List (xC)))) = some r := h
 clear h
 obtain ⟨zdK, fD⟩ : ∃ y_ : List (xC), y_ = (([(⟨(⟨#[102]⟩ : ByteArray), (⟨#[102]⟩ : ByteArray), (⟨#[102, 102]⟩ : ByteArray)⟩ : xC), (⟨(⟨#[102]⟩ : ByteArray), (⟨#[105]⟩ : ByteArray), (⟨#[102, 105]⟩ : ByteArray)⟩ : xC), (⟨(⟨#[102]⟩ : ByteArray), (⟨#[108]⟩ : ByteArray), (⟨#[102, 108]⟩ : ByteArray)⟩ : xC)] : List (xC))) := ⟨_, rfl⟩
 replace H : (some zdK) = some r := by first | (rw [fD]; with_reducible exact H) | (have xJ := (Option.bind_some _ _).symm.trans H; rw [fD]; with_reducible exact xJ) | (have xJ := (Option.bind_some _ _).symm.trans H; with_reducible exact xJ) | with_reducible exact H | (rw [fD]; exact H) | exact H
 have zJx := zx.mk fD
 clear fD
 obtain rfl := Option.some.inj H
 go_enter Tryz.func31, Tryz.ntmps31
 go_wp2_with (first | ((with_reducible refine qx (N := 4) rfl ?_); refine Kd.ZP jd _ 86 ?hg (N := 4) ?hd (xs := ([(⟨(⟨#[102]⟩ : ByteArray), (⟨#[102]⟩ : ByteArray), (⟨#[102, 102]⟩ : ByteArray)⟩ : xC), (⟨(⟨#[102]⟩ : ByteArray), (⟨#[105]⟩ : ByteArray), (⟨#[102, 105]⟩ : ByteArray)⟩ : xC), (⟨(⟨#[102]⟩ : ByteArray), (⟨#[108]⟩ : ByteArray), (⟨#[102, 108]⟩ : ByteArray)⟩ : xC)] : List (xC))) (inner := [.string (⟨#[102]⟩ : ByteArray), .string (⟨#[102]⟩ : ByteArray), .string (⟨#[102, 102]⟩ : ByteArray), .string (⟨#[102]⟩ : ByteArray), .string (⟨#[105]⟩ : ByteArray), .string (⟨#[102, 105]⟩ : ByteArray), .string (⟨#[102]⟩ : ByteArray), .string (⟨#[108]⟩ : ByteArray), .string (⟨#[102, 108]⟩ : ByteArray)]) (ok := fun _ => True) (jc := fun _ => True) ?hr ?hp (fun _ hk => hk) trivial (Below.refl _ _) (Nat.le_refl _) (by simp) ?_; (case hd => rfl); (case hg => rfl); (case hr => first | (go_simp; done) | (go_simp; rfl)); (case hp => exact (yS.c3 (show Kd.M jd _ _ _ (⟨(⟨#[102]⟩ : ByteArray), (⟨#[102]⟩ : ByteArray), (⟨#[102, 102]⟩ : ByteArray)⟩ : xC) [.string (⟨#[102]⟩ : ByteArray), .string (⟨#[102]⟩ : ByteArray), .string (⟨#[102, 102]⟩ : ByteArray)] from (nC _ _ _ (⟨(⟨#[102]⟩ : ByteArray), (⟨#[102]⟩ : ByteArray), (⟨#[102, 102]⟩ : ByteArray)⟩ : xC) )) (yS.c3 (show Kd.M jd _ _ _ (⟨(⟨#[102]⟩ : ByteArray), (⟨#[105]⟩ : ByteArray), (⟨#[102, 105]⟩ : ByteArray)⟩ : xC) [.string (⟨#[102]⟩ : ByteArray), .string (⟨#[105]⟩ : ByteArray), .string (⟨#[102, 105]⟩ : ByteArray)] from (nC _ _ _ (⟨(⟨#[102]⟩ : ByteArray), (⟨#[105]⟩ : ByteArray), (⟨#[102, 105]⟩ : ByteArray)⟩ : xC) )) (yS.c3 (show Kd.M jd _ _ _ (⟨(⟨#[102]⟩ : ByteArray), (⟨#[108]⟩ : ByteArray), (⟨#[102, 108]⟩ : ByteArray)⟩ : xC) [.string (⟨#[102]⟩ : ByteArray), .string (⟨#[108]⟩ : ByteArray), .string (⟨#[102, 108]⟩ : ByteArray)] from (nC _ _ _ (⟨(⟨#[102]⟩ : ByteArray), (⟨#[108]⟩ : ByteArray), (⟨#[102, 108]⟩ : ByteArray)⟩ : xC) )) (yS.none _ _))))); intro zlC w1 ho2 hb wo ug; clear wo ug; (first | rw [← zJx.out] at ho2 | (simp only [Int.reduceToNat] at ho2; rw [← zJx.out] at ho2)); have zf := zx.mk (Kd.xI ho2 (zV (zD HB.out))); have zh := zx.mk (zI (zD HB.out) hb); clear HB; have zaL := zf; have HB := zh; clear zf zh; clear hb ho2))
 go_ret
 exact ⟨_, by first | rfl | (simp [zU, z8] <;> rfl) | (simp [*, zU, z8] <;> rfl), by (with_reducible repeat (first | apply Kd.q9 | apply Kd.qL | apply Kd.qw)); exact zaL.out, by repeat (first | (with_reducible first | exact HB.out | apply yu | apply zP | apply yT) | exact HB.out)⟩
def cmp_isNaN_string.f (a0 : ByteArray) : Option (Bool) := some (a0.toList != a0.toList)
set_option maxHeartbeats 8000000 in
set_option maxRecDepth 100000 in
theorem cmp_isNaN_string.calls (a0 : ByteArray) (r : Bool) (w : World) (h : cmp_isNaN_string.f a0 = some r) :
  Calls Tryz.prog 101 #[.string a0] w fun e w' => e = .returned (.bool r) ∧ yx w w' := by
 have H : (some (a0.toList != a0.toList)) = some r := h
 clear h
 obtain rfl := Option.some.inj H
 go_enter Tryz.func101, Tryz.ntmps101
 go_wp2
 go_ret
 exact ⟨by first | rfl | (simp; done) | (simp [*]; done), by repeat (first | exact yx.refl _ | apply yx.step)⟩
def jX.f (a0 : ByteArray) (a1 : ByteArray) : Option (Int) := (cmp_isNaN_string.f a0).bind fun tJ => ((cmp_isNaN_string.f a1).bind fun QM => (if tJ = true then (if QM = true then (some 0) else (some (-1))) else (if QM = true then (some 1) else (if (Op.bytesLess a0.toList a1.toList) = true then (some (-1)) else (if (Op.bytesLess a1.toList a0.toList) = true then (some 1) else (some 0))))))
set_option maxHeartbeats 8000000 in
set_option maxRecDepth 100000 in
theorem jX.calls (a0 : ByteArray) (a1 : ByteArray) (r : Int) (w : World) (h : jX.f a0 a1 = some r) :
  Calls Tryz.prog 47 #[.string a0, .string a1] w fun e w' => e = .returned (.int .i64 r) ∧ yx w w' := by
 have H : ((cmp_isNaN_string.f a0).bind fun tJ => ((cmp_isNaN_string.f a1).bind fun QM => (if tJ = true then (if QM = true then (some 0) else (some (-1))) else (if QM = true then (some 1) else (if (Op.bytesLess a0.toList a1.toList) = true then (some (-1)) else (if (Op.bytesLess a1.toList a0.toList) = true then (some 1) else (some 0))))))) = some r := h
 clear h
 replace H := Option.bind_eq_some_iff.mp H
 obtain ⟨tJ, Wu, H⟩ := H
 replace H : ((cmp_isNaN_string.f a1).bind fun QM => (if tJ = true then (if QM = true then (some 0) else (some (-1))) else (if QM = true then (some 1) else (if (Op.bytesLess a0.toList a1.toList) = true then (some (-1)) else (if (Op.bytesLess a1.toList a0.toList) = true then (some 1) else (some 0)))))) = some r := H
 have A3 := zx.mk Wu
 clear Wu
 replace H := Option.bind_eq_some_iff.mp H
 obtain ⟨QM, Jy, H⟩ := H
 replace H : (if tJ = true then (if QM = true then (some 0) else (some (-1))) else (if QM = true then (some 1) else (if (Op.bytesLess a0.toList a1.toList) = true then (some (-1)) else (if (Op.bytesLess a1.toList a0.toList) = true then (some 1) else (some 0))))) = some r := H
 have A4 := zx.mk Jy
 clear Jy
 by_cases c5 : tJ = true
 ·subst c5
  have H1 : (if QM = true then (some 0) else (some (-1))) = some r := by rw [if_pos rfl] at H; exact H
  clear H
  have H := H1
  clear H1
  by_cases c6 : QM = true
  ·subst c6
   have H1 : (some 0) = some r := by rw [if_pos rfl] at H; exact H
   clear H
   have H := H1
   clear H1
   obtain rfl := Option.some.inj H
   go_enter Tryz.func47, Tryz.ntmps47
   go_wp2_with (first | ((with_reducible refine yY (f := 101) rfl ?_); refine uN (some 8) Tryz.func101 #[.string a0] ?_; (with_reducible refine (cmp_isNaN_string.calls a0 true _ A3.out).mono ?_); rintro e w' ⟨rfl, ⟨nd, rfl⟩⟩; refine ⟨_, rfl, ?_⟩) | ((with_reducible refine yY (f := 101) rfl ?_); refine uN (some 10) Tryz.func101 #[.string a1] ?_; (with_reducible refine (cmp_isNaN_string.calls a1 true _ A4.out).mono ?_); rintro e w' ⟨rfl, ⟨nd, rfl⟩⟩; refine ⟨_, rfl, ?_⟩))
   go_ret
   exact ⟨by first | rfl | (simp; done) | (simp [*]; done), by repeat (first | exact yx.refl _ | apply yx.step)⟩
  ·replace c6 := Bool.eq_false_iff.mpr c6
   subst c6
   have H1 : (some (-1)) = some r := by rw [if_neg (show ¬ (false = true) by decide)] at H; exact H
   clear H
   have H := H1
   clear H1
   obtain rfl := Option.some.inj H
   go_enter Tryz.func47, Tryz.ntmps47
   go_wp2_with (first | ((with_reducible refine yY (f := 101) rfl ?_); refine uN (some 8) Tryz.func101 #[.string a0] ?_; (with_reducible refine (cmp_isNaN_string.calls a0 true _ A3.out).mono ?_); rintro e w' ⟨rfl, ⟨nd, rfl⟩⟩; refine ⟨_, rfl, ?_⟩) | ((with_reducible refine yY (f := 101) rfl ?_); refine uN (some 10) Tryz.func101 #[.string a1] ?_; (with_reducible refine (cmp_isNaN_string.calls a1 false _ A4.out).mono ?_); rintro e w' ⟨rfl, ⟨nd, rfl⟩⟩; refine ⟨_, rfl, ?_⟩))
   go_ret
   exact ⟨by first | rfl | (simp; done) | (simp [*]; done), by repeat (first | exact yx.refl _ | apply yx.step)⟩
 ·replace c5 := Bool.eq_false_iff.mpr c5
  subst c5
  have H1 : (if QM = true then (some 1) else (if (Op.bytesLess a0.toList a1.toList) = true then (some (-1)) else (if (Op.bytesLess a1.toList a0.toList) = true then (some 1) else (some 0)))) = some r := by rw [if_neg (show ¬ (false = true) by decide)] at H; exact H
  clear H
  have H := H1
  clear H1
  by_cases c7 : QM = true
  ·subst c7
   have H1 : (some 1) = some r := by rw [if_pos rfl] at H; exact H
   clear H
   have H := H1
   clear H1
   obtain rfl := Option.some.inj H
   go_enter Tryz.func47, Tryz.ntmps47
   go_wp2_with (first | ((with_reducible refine yY (f := 101) rfl ?_); refine uN (some 8) Tryz.func101 #[.string a0] ?_; (with_reducible refine (cmp_isNaN_string.calls a0 false _ A3.out).mono ?_); rintro e w' ⟨rfl, ⟨nd, rfl⟩⟩; refine ⟨_, rfl, ?_⟩) | ((with_reducible refine yY (f := 101) rfl ?_); refine uN (some 10) Tryz.func101 #[.string a1] ?_; (with_reducible refine (cmp_isNaN_string.calls a1 true _ A4.out).mono ?_); rintro e w' ⟨rfl, ⟨nd, rfl⟩⟩; refine ⟨_, rfl, ?_⟩))
   go_ret
   exact ⟨by first | rfl | (simp; done) | (simp [*]; done), by repeat (first | exact yx.refl _ | apply yx.step)⟩
  ·replace c7 := Bool.eq_false_iff.mpr c7
   subst c7
   have H1 : (if (Op.bytesLess a0.toList a1.toList) = true then (some (-1)) else (if (Op.bytesLess a1.toList a0.toList) = true then (some 1) else (some 0))) = some r := by rw [if_neg (show ¬ (false = true) by decide)] at H; exact H
   clear H
   have H := H1
   clear H1
   by_cases c8 : (Op.bytesLess a0.toList a1.toList) = true
   ·rw [if_pos c8] at H
    have Pj : (Op.bytesLess a0.toList a1.toList) = true := c8
    have zQR : (!(Op.bytesLess a1.toList a0.toList || a1.toList == a0.toList)) = true := (Q9 _ _).trans (c8)
    have zQS : (a0.toList == a1.toList) = false := zq0 (c8)
    have zQT : (a1.toList == a0.toList) = false := fK (c8)
    have zdY : Op.bytesLess a1.toList a0.toList = false := nD (c8)
    clear c8
    obtain rfl := Option.some.inj H
    go_enter Tryz.func47, Tryz.ntmps47
    go_wp2_with (first | ((with_reducible refine yY (f := 101) rfl ?_); refine uN (some 8) Tryz.func101 #[.string a0] ?_; (with_reducible refine (cmp_isNaN_string.calls a0 false _ A3.out).mono ?_); rintro e w' ⟨rfl, ⟨nd, rfl⟩⟩; refine ⟨_, rfl, ?_⟩) | ((with_reducible refine yY (f := 101) rfl ?_); refine uN (some 10) Tryz.func101 #[.string a1] ?_; (with_reducible refine (cmp_isNaN_string.calls a1 false _ A4.out).mono ?_); rintro e w' ⟨rfl, ⟨nd, rfl⟩⟩; refine ⟨_, rfl, ?_⟩))
    go_ret
    exact ⟨by first | rfl | (simp; done) | (simp [*]; done), by repeat (first | exact yx.refl _ | apply yx.step)⟩
   ·rw [if_neg c8] at H
    have Pj : (Op.bytesLess a0.toList a1.toList) = false := by simpa using c8
    have zQR : (!(Op.bytesLess a1.toList a0.toList || a1.toList == a0.toList)) = false := (Q9 _ _).trans (by simpa using c8)
    try have zQS : (a0.toList == a1.toList) = true := Wt (x := a0.toList) (y := a1.toList) (by assumption) (by assumption)
    try have zQT : (a1.toList == a0.toList) = true := Wt (x := a1.toList) (y := a0.toList) (by assumption) (by assumption)
    clear c8
    by_cases c9 : (Op.bytesLess a1.toList a0.toList) = true
    ·rw [if_pos c9] at H
     have mQ : (Op.bytesLess a1.toList a0.toList) = true := c9
     have zdW : (!(Op.bytesLess a0.toList a1.toList || a0.toList == a1.toList)) = true := (Q9 _ _).trans (c9)
     have zda : (a1.toList == a0.toList) = false := zq0 (c9)
     have zdb : (a0.toList == a1.toList) = false := fK (c9)
     have zlD : Op.bytesLess a0.toList a1.toList = false := nD (c9)
     clear c9
     obtain rfl := Option.some.inj H
     go_enter Tryz.func47, Tryz.ntmps47
     go_wp2_with (first | ((with_reducible refine yY (f := 101) rfl ?_); refine uN (some 8) Tryz.func101 #[.string a0] ?_; (with_reducible refine (cmp_isNaN_string.calls a0 false _ A3.out).mono ?_); rintro e w' ⟨rfl, ⟨nd, rfl⟩⟩; refine ⟨_, rfl, ?_⟩) | ((with_reducible refine yY (f := 101) rfl ?_); refine uN (some 10) Tryz.func101 #[.string a1] ?_; (with_reducible refine (cmp_isNaN_string.calls a1 false _ A4.out).mono ?_); rintro e w' ⟨rfl, ⟨nd, rfl⟩⟩; refine ⟨_, rfl, ?_⟩))
     go_ret
     exact ⟨by first | rfl | (simp; done) | (simp [*]; done), by repeat (first | exact yx.refl _ | apply yx.step)⟩
    ·rw [if_neg c9] at H
     have mQ : (Op.bytesLess a1.toList a0.toList) = false := by simpa using c9
     have zdW : (!(Op.bytesLess a0.toList a1.toList || a0.toList == a1.toList)) = false := (Q9 _ _).trans (by simpa using c9)
     try have zda : (a1.toList == a0.toList) = true := Wt (x := a1.toList) (y := a0.toList) (by assumption) (by assumption)
     try have zdb : (a0.toList == a1.toList) = true := Wt (x := a0.toList) (y := a1.toList) (by assumption) (by assumption)
     clear c9
     obtain rfl := Option.some.inj H
     go_enter Tryz.func47, Tryz.ntmps47
     go_wp2_with (first | ((with_reducible refine yY (f := 101) rfl ?_); refine uN (some 8) Tryz.func101 #[.string a0] ?_; (with_reducible refine (cmp_isNaN_string.calls a0 false _ A3.out).mono ?_); rintro e w' ⟨rfl, ⟨nd, rfl⟩⟩; refine ⟨_, rfl, ?_⟩) | ((with_reducible refine yY (f := 101) rfl ?_); refine uN (some 10) Tryz.func101 #[.string a1] ?_; (with_reducible refine (cmp_isNaN_string.calls a1 false _ A4.out).mono ?_); rintro e w' ⟨rfl, ⟨nd, rfl⟩⟩; refine ⟨_, rfl, ?_⟩))
     go_ret
     exact ⟨by first | rfl | (simp; done) | (simp [*]; done), by repeat (first | exact yx.refl _ | apply yx.step)⟩
end Go.Proofs.YtaifemkokfoadaaGreatDoor.PX
namespace Go.Proofs.YtaifemkokfoadaaGreatDoor
open Go.RowKit Go.Shelf Go.Proofs.zy.zu Go.Proofs.zy.yD Go.Proofs.YtaifemkokfoadaaGreatDoor.PX
def uF (a b : ByteArray) : Int := if Op.bytesLess a.toList b.toList = true then -1 else if Op.bytesLess b.toList a.toList = true then 1 else 0
theorem Vq (a b : ByteArray) : jX.f a b = some (uF a b) := by
 have e1 : cmp_isNaN_string.f a = some false := by unfold cmp_isNaN_string.f; simp
 have e2 : cmp_isNaN_string.f b = some false := by unfold cmp_isNaN_string.f; simp
 unfold jX.f uF
 rw [e1, e2]
 simp only [Option.bind_some, Bool.false_eq_true, if_false]
 by_cases h1 : Op.bytesLess a.toList b.toList = true
 ·rw [if_pos h1, if_pos h1]
 ·rw [if_neg h1, if_neg h1]
  by_cases h2 : Op.bytesLess b.toList a.toList = true
  ·rw [if_pos h2, if_pos h2]
  ·rw [if_neg h2, if_neg h2]
theorem sW (a b : ByteArray) (w : World) : Calls Tryz.prog 47 #[.string a, .string b] w fun e w' => e = .returned (.int .i64 (uF a b)) ∧ Below w.heap.size w w' :=
 (jX.calls a b _ w (Vq a b)).mono fun e w' ⟨h1, n, h2⟩ => ⟨h1, by rw [h2]; exact ⟨rfl, rfl, rfl, Nat.le_refl _, fun _ _ => rfl⟩⟩
def Jw (l : List qg) (n : ByteArray) (i j : Nat) : Nat :=
 if h : i < j then
  if uF (xL l (((i + j) / 2 : Nat) : Int)).f0 n < 0 then Jw l n ((i + j) / 2 + 1) j else Jw l n i ((i + j) / 2)
 else i
termination_by j - i
def YF (l : List qg) (n : ByteArray) : Int × Bool :=
 let i := Jw l n 0 l.length
 ((i : Int), decide (i < l.length) && decide (uF (xL l (i : Int)).f0 n = 0))
set_option maxRecDepth 100000 in
theorem su (a : ByteArray) (v : Int) (n : ByteArray) (w : World) :
  Calls Tryz.prog 87 #[.agg #[.string a, .int .i64 v], .string n] w fun e w' => e = .returned (.int .i64 (uF a n)) ∧ Below w.heap.size w w' := by
 have hb0 : Below w.heap.size w (w.alloc (.cells #[.string a, .int .i64 v] 31)) := (Below.refl _ w).alloc (Nat.le_refl _) _
 have hc := sW a n (w.alloc (.cells #[.string a, .int .i64 v] 31))
 generalize uF a n = r at hc ⊢
 go_enter Tryz.func87, Tryz.ntmps87
 go_wp2_with (go_at_call 47; refine hc.mono ?_; rintro e w2 ⟨rfl, hb2⟩)
 go_ret
 exact ⟨rfl, hb0.trans (hb2.mono (by simp))⟩
set_option maxRecDepth 100000 in
set_option maxHeartbeats 1000000 in
theorem zwq (A0 : Option Addr) (c0 : Nat) (l : List qg) (n : ByteArray) (w : World) (hr : Kd.C uf w A0 l.length l) (hl : l.length ≤ 1000000000) :
  Calls Tryz.prog 86 #[.slice A0 l.length c0, .string n, .func (.func 87) #[] #[]] w fun e w' => e = .returned (.tuple #[.int .i64 (YF l n).1, .bool (YF l n).2]) ∧ Below w.heap.size w w' := by
 have hfv : YF l n = ((Jw l n 0 l.length : Int), decide (Jw l n 0 l.length < l.length) && decide (uF (xL l (Jw l n 0 l.length : Int)).f0 n = 0)) := rfl
 generalize YF l n = V at hfv ⊢
 have HFV := Lib.hid hfv
 clear hfv
 go_enter Tryz.func86, Tryz.ntmps86
 go_wp2
 go_loopw [9, 10] (fun x y wr => ∃ i j : Nat, x = .int .i64 i ∧ y = .int .i64 j ∧ i ≤ j ∧ j ≤ l.length ∧ Hid (Jw l n i j = Jw l n 0 l.length) ∧ Below w.heap.size w wr) (fun x y _ => ((intOf y) - (intOf x)).toNat)
 case atStart => exact ⟨0, l.length, rfl, rfl, Nat.zero_le _, Nat.le_refl _, Lib.hid rfl, Below.refl _ _⟩
 case round =>
  obtain ⟨i, j, rfl, rfl, hij, hj, HB, hb⟩ := hrel
  by_cases hlt : i < j
  ·have hm : (i + j) / 2 < l.length := by omega
   have hst := HB.out
   rw [Jw, dif_pos hlt] at hst
   have hC := Kd.zY hr hb
   obtain ⟨ad, e, h0, h1⟩ := VB hC (((i + j) / 2 : Nat) : Int) (by omega) (by omega)
   cases e
   rw [Int.toNat_natCast] at h0 h1
   generalize xL l (((i + j) / 2 : Nat) : Int) = g at h0 h1 hst
   have hcm := su g.f0 g.f1 n wr
   generalize uF g.f0 n = r at hcm hst
   have HS := Lib.hid hst
   have e1 : IntKind.i64.wrap ((i : Int) + (j : Int)) = (i : Int) + (j : Int) := IntWalk.i64_in _ (by omega)
   clear hst HB hC hr
   by_cases hr0 : r < 0
   ·have d1 : decide (r < 0) = true := decide_eq_true hr0
    rw [if_pos hr0] at HS
    clear hr0
    go_wp2_with fail
    refine hcm.mono ?_; rintro e w2 ⟨rfl, hb2⟩
    go_wp2
    go_roundw
    case rel => exact ⟨(i + j) / 2 + 1, j, by go_num, rfl, by omega, hj, HS, hb.trans (hb2.mono hb.size)⟩
    case measure => simp [intOf]; omega
   ·have d1 : decide (r < 0) = false := decide_eq_false hr0
    rw [if_neg hr0] at HS
    clear hr0
    go_wp2_with fail
    refine hcm.mono ?_; rintro e w2 ⟨rfl, hb2⟩
    go_wp2
    go_roundw
    case rel => exact ⟨i, (i + j) / 2, rfl, by go_num, by omega, by omega, HS, hb.trans (hb2.mono hb.size)⟩
    case measure => simp [intOf]; omega
  ·obtain rfl : i = j := by omega
   have hst := HB.out
   rw [Jw, dif_neg (by omega)] at hst
   by_cases hi : i < l.length
   ·have hC := Kd.zY hr hb
    obtain ⟨ad, e, h0, h1⟩ := VB hC (i : Int) (by omega) (by omega)
    cases e
    rw [Int.toNat_natCast] at h0 h1
    have hval : V = ((i : Int), decide (i < l.length) && decide (uF (xL l (i : Int)).f0 n = 0)) := by rw [HFV.out, ← hst]
    rw [decide_eq_true hi, Bool.true_and] at hval
    generalize xL l (i : Int) = g at h0 h1 hval
    have hcm := su g.f0 g.f1 n wr
    have hd : (uF g.f0 n == 0) = decide (uF g.f0 n = 0) := rfl
    generalize uF g.f0 n = r at hcm hd hval
    have HV := Lib.hid hval
    have q2 : (i : Int) < (l.length : Int) := by omega
    clear hst HB hC hr hval
    cases hz : decide (r = 0) with
    | true =>
     rw [hz] at hd HV
     clear hz
     go_wp2_with fail
     refine hcm.mono ?_; rintro e w2 ⟨rfl, hb2⟩
     go_wp2
     go_ret2
     exact ⟨by rw [HV.out]; rfl, hb.trans (hb2.mono hb.size)⟩
    | false =>
     rw [hz] at hd HV
     clear hz
     go_wp2_with fail
     refine hcm.mono ?_; rintro e w2 ⟨rfl, hb2⟩
     go_wp2
     go_ret2
     exact ⟨by rw [HV.out]; rfl, hb.trans (hb2.mono hb.size)⟩
   ·have q1 : decide (i < l.length) = false := decide_eq_false hi
    have hval : V = ((i : Int), false) := by rw [HFV.out, ← hst, q1, Bool.false_and]
    have HV := Lib.hid hval
    have q2 : ¬ (i : Int) < (l.length : Int) := by omega
    have q3 : decide ((i : Int) < (l.length : Int)) = false := decide_eq_false q2
    clear hst HB hr hval q1
    go_wp2
    go_ret2
    exact ⟨by rw [HV.out]; rfl, hb⟩
def kF.f (_ : ByteArray) (_ : Bool) (_ : Int) (ze : List qg) (_ : List xC) (_ : List vk) (a1 : ByteArray) : Option (Int × Bool) := if ze.length ≤ 1000000000 then some (YF ze a1) else none
set_option maxRecDepth 100000 in
theorem kF.calls (zG : ByteArray) (zH : Bool) (zC : Int) (yG : Option Addr) (yH : Nat) (ze : List qg) (yM : Option Addr) (yN : Nat) (zn : List xC) (yO : Option Addr) (yP : Nat) (zm : List vk) (a1 : ByteArray) (r1 : Int) (r2 : Bool) (w : World) (vS : Kd.C uf w yG ze.length ze) (_ : ze.length ≤ yH) (_ : Kd.C jd w yM zn.length zn) (_ : zn.length ≤ yN) (_ : Kd.C jh w yO zm.length zm) (_ : zm.length ≤ yP) (_ : GW w) (h : kF.f zG zH zC ze zn zm a1 = some (r1, r2)) :
  Calls Tryz.prog 27 #[.agg #[.string zG, .bool zH, .int .i64 zC, .slice yG ze.length yH, .slice yM zn.length yN, .slice yO zm.length yP], .string a1] w fun e w' => e = .returned (.tuple #[.int .i64 r1, .bool r2]) ∧ Below w.heap.size w w' := by
 unfold kF.f at h
 split at h
 ·rename_i hl
  have he := Option.some.inj h
  have hb0 : Below w.heap.size w (w.alloc (.cells #[.string zG, .bool zH, .int .i64 zC, .slice yG ze.length yH, .slice yM zn.length yN, .slice yO zm.length yP] 26)) := (Below.refl _ w).alloc (Nat.le_refl _) _
  have hs := zwq yG yH ze a1 _ (Kd.zY vS hb0) hl
  rw [he] at hs
  clear he h hl vS
  go_enter Tryz.func27, Tryz.ntmps27
  go_wp2_with fail
  refine hs.mono ?_; rintro e w2 ⟨rfl, hb2⟩
  go_wp2
  go_ret2
  exact ⟨rfl, hb0.trans (hb2.mono (by simp))⟩
 ·cases h
end Go.Proofs.YtaifemkokfoadaaGreatDoor
namespace Go.Proofs.YtaifemkokfoadaaGreatDoor.PX
open Go.RowKit Go.Proofs.zy.zu Go.Proofs.zy.yI Go.Proofs.zy.yD
attribute [local go_sem] xw xZ xP xR qD qE xQ xX   -- for this text's walks alone
set_option linter.unusedVariables false
set_option linter.unusedSimpArgs false
def j4.l0 : Nat → Int → List Int → Int → Int → Option (Int)
 | 0, _, _, _, _ => none
 | k + 1, x3, x6, x7, x8 => if x8 < x7 then (if 0 ≤ x8 then (if x8 < (x6.length : Int) then (if (rd x6 x8) = x3 then (j4.l0 k x3 x6 x7 (wrap64 (x8 + 1))) else (some (rd x6 x8))) else (none)) else (none)) else (some x3)
def j4.f (k : Nat) (l0 : List Int) : Option (Int) := j4.l0 k 0 l0 (l0.length : Int) 0
set_option maxHeartbeats 8000000 in
set_option maxRecDepth 100000 in
theorem j4.calls (k : Nat) (A0 : Option Addr) (c0 : Nat) (l0 : List Int) (r : Int) (w : World) (hr0 : Kd.C (Kd.int .i64) w A0 l0.length l0) (hc0 : l0.length ≤ c0) (h : j4.f k l0 = some r) :
  Calls Tryz.prog 53 #[.slice A0 l0.length c0] w fun e w' => e = .returned (.int .i64 r) ∧ yx w w' := by
 have kG := zx.mk hr0
 have ZW := zx.mk hc0
 clear hr0 hc0
 have H : (j4.l0 k 0 l0 (l0.length : Int) 0) = some r := h
 clear h
 have H' := zx.mk H
 clear H
 go_enter Tryz.func53, Tryz.ntmps53
 go_wp2
 go_loopg [8] k (fun kq v8 w' => ∃ (xW : Int), v8 = .int .i64 xW ∧ zx (j4.l0 kq 0 l0 (l0.length : Int) xW = some r) ∧ zx (kq ≤ k) ∧ yx w w')
 case atStart => exact ⟨(0), (by first | rfl | (simp; done) | (simp [*]; done)), H', ⟨Nat.le_refl _⟩, by repeat (first | exact yx.refl _ | apply yx.step)⟩
 case round =>
  clear H'
  obtain ⟨xW, rfl, HA, jv, ⟨m1, rfl⟩⟩ := hrel
  cases gk with
  | zero => exact absurd HA.out (by simp [j4.l0])
  | succ k1 =>
   have H := HA.out
   clear HA
   simp only [j4.l0] at H
   by_cases c2 : xW < (l0.length : Int)
   ·rw [if_pos c2] at H
    have mZ : decide (xW < (l0.length : Int)) = true := decide_eq_true c2
    clear c2
    by_cases c3 : 0 ≤ xW
    ·rw [if_pos c3] at H
     have ZR : decide (0 ≤ xW) = true := decide_eq_true c3
     clear c3
     by_cases c4 : xW < (l0.length : Int)
     ·rw [if_pos c4] at H
      have Xw : decide (xW < (l0.length : Int)) = true := decide_eq_true c4
      clear c4
      by_cases c5 : (rd l0 xW) = 0
      ·rw [if_pos c5] at H
       have p8 : ((rd l0 xW) == 0) = true := beq_iff_eq.mpr c5
       have ou : ((rd l0 xW) != 0) = false := bne_eq_false_iff_eq.mpr c5
       clear c5
       have H' := zx.mk H
       clear H
       have tV : 0 ≤ (xW : Int) := of_decide_eq_true (by first | (with_reducible assumption) | assumption)
       have tK : xW < (l0.length : Int) := of_decide_eq_true (by first | (with_reducible assumption) | assumption)
       obtain ⟨zaM, zQU, zVe⟩ := Kd.zxY kG.out xW tV tK
       cases zQU
       replace tV := eq_true tV
       replace tK := eq_true tK
       go_wp2
       go_roundg k1
       case measure => have := jv.out; omega
       case rel => exact ⟨(wrap64 (xW + 1)), (by first | rfl | (simp; done) | (simp [*]; done)), H', ⟨by have := jv.out; omega⟩, by repeat (first | exact yx.refl _ | apply yx.step)⟩
      ·rw [if_neg c5] at H
       have p8 : ((rd l0 xW) == 0) = false := beq_eq_false_iff_ne.mpr c5
       have ou : ((rd l0 xW) != 0) = true := bne_iff_ne.mpr c5
       obtain rfl := Option.some.inj H
       have tV : 0 ≤ (xW : Int) := of_decide_eq_true (by first | (with_reducible assumption) | assumption)
       have tK : xW < (l0.length : Int) := of_decide_eq_true (by first | (with_reducible assumption) | assumption)
       obtain ⟨zaM, zQU, zVe⟩ := Kd.zxY kG.out xW tV tK
       cases zQU
       replace tV := eq_true tV
       replace tK := eq_true tK
       go_wp2
       go_ret
       exact ⟨by first | rfl | (simp; done) | (simp [*]; done), by repeat (first | exact yx.refl _ | apply yx.step)⟩
     ·rw [if_neg c4] at H
      exact absurd H (by simp)
    ·rw [if_neg c3] at H
     exact absurd H (by simp)
   ·rw [if_neg c2] at H
    have mZ : decide (xW < (l0.length : Int)) = false := decide_eq_false c2
    clear c2
    obtain rfl := Option.some.inj H
    go_wp2
    go_ret
    exact ⟨by first | rfl | (simp; done) | (simp [*]; done), by repeat (first | exact yx.refl _ | apply yx.step)⟩
end Go.Proofs.YtaifemkokfoadaaGreatDoor.PX
namespace Go.Proofs.YtaifemkokfoadaaGreatDoor
open Go.RowKit Go.Shelf Go.Proofs.zy.zu Go.Proofs.zy.yD Go.Proofs.YtaifemkokfoadaaGreatDoor.PX
def ZU (c : Nat → Nat → Int) (n : Nat) : Bool := (List.range (n - 1)).all fun i => decide (c i (i + 1) < 0)
theorem mX {c : Nat → Nat → Int} {n : Nat} (h : ∀ i, i + 1 < n → c i (i + 1) < 0) : ZU c n = true := by
 unfold ZU
 rw [List.all_eq_true]
 intro i hi
 have := List.mem_range.1 hi
 simpa using h i (by omega)
theorem dQ {c : Nat → Nat → Int} {n i : Nat} (hi : i + 1 < n) (h : ¬ c i (i + 1) < 0) : ZU c n = false := by
 unfold ZU
 rw [List.all_eq_false]
 exact ⟨i, List.mem_range.2 (by omega), by simpa using h⟩
def QN (x y : qg) : Int := uF x.f0 y.f0
def fE (a b : Int) : Int := if a = 0 then b else a
def cmpL (x y : xC) : Int := fE (uF x.f0 y.f0) (uF x.f1 y.f1)
def Jg (x y : vk) : Int := fE (uF x.f0 y.f0) (uF x.f1 y.f1)
set_option maxRecDepth 100000 in
theorem zQ0 (x y : qg) (w : World) :
  Calls Tryz.prog 46 #[.agg #[.string x.f0, .int .i64 x.f1], .agg #[.string y.f0, .int .i64 y.f1]] w fun e w' => e = .returned (.int .i64 (QN x y)) ∧ Below w.heap.size w w' := by
 unfold QN
 have hb0 : Below w.heap.size w ((w.alloc (.cells #[.string x.f0, .int .i64 x.f1] 31)).alloc (.cells #[.string y.f0, .int .i64 y.f1] 31)) := ((Below.refl _ w).alloc (Nat.le_refl _) _).alloc (by simp) _
 have hc := sW x.f0 y.f0 ((w.alloc (.cells #[.string x.f0, .int .i64 x.f1] 31)).alloc (.cells #[.string y.f0, .int .i64 y.f1] 31))
 generalize uF x.f0 y.f0 = r at hc ⊢
 go_enter Tryz.func46, Tryz.ntmps46
 go_wp2_with (go_at_call 47; refine hc.mono ?_; rintro e w2 ⟨rfl, hb2⟩)
 go_ret
 exact ⟨rfl, hb0.trans (hb2.mono (by simp; omega))⟩
def zaN (l : List qg) (w : World) (x : Value) (wr : World) : Prop :=
 ∃ k : Nat, x = .int .i64 k ∧ 1 ≤ k ∧ k ≤ l.length + 1 ∧ (∀ i, i + 1 < k → i + 1 < l.length → QN (xL l (i : Int)) (xL l ((i + 1 : Nat) : Int)) < 0) ∧ Below w.heap.size w wr
set_option maxRecDepth 100000 in
set_option maxHeartbeats 1000000 in
theorem zQ1 (A0 : Option Addr) (c0 : Nat) (l : List qg) (w : World) (hr : Kd.C uf w A0 l.length l) (hl : l.length ≤ 1000000000) :
  Calls Tryz.prog 45 #[.slice A0 l.length c0, .func (.func 46) #[] #[]] w fun e w' => e = .returned (.bool (ZU (fun i j => QN (xL l (i : Int)) (xL l (j : Int))) l.length)) ∧ Below w.heap.size w w' := by
 generalize hV : ZU (fun i j => QN (xL l (i : Int)) (xL l (j : Int))) l.length = V
 have HV := Lib.hid hV
 clear hV
 go_enter Tryz.func45, Tryz.ntmps45
 go_wp2
 go_loopw [5] (fun x wr => zaN l w x wr) (fun x _ => l.length + 1 - (intOf x).toNat)
 case atStart => exact ⟨1, rfl, by omega, by omega, (fun i h => by omega), Below.refl _ _⟩
 case round =>
  obtain ⟨k, rfl, hk1, hk, hA, hb⟩ := hrel
  have HA := Lib.hid hA
  clear hA
  by_cases hlt : k < l.length
  ·obtain ⟨m, rfl⟩ : ∃ m, k = m + 1 := ⟨k - 1, by omega⟩
   have hC := Kd.zY hr hb
   obtain ⟨ad, e, HH0⟩ := VB hC (m : Int) (by omega) (by omega)
   obtain ⟨fF, e2, HH1⟩ := VB hC ((m + 1 : Nat) : Int) (by omega) (by omega)
   cases e
   cases e2
   obtain ⟨h0, h1⟩ := HH0
   obtain ⟨h2, h3⟩ := HH1
   rw [Int.toNat_natCast] at h0 h1 h2 h3
   have hstep : ∀ i, i + 1 = m + 1 → QN (xL l (i : Int)) (xL l ((i + 1 : Nat) : Int)) = QN (xL l (m : Int)) (xL l ((m + 1 : Nat) : Int)) := fun i hi => by obtain rfl : i = m := (by omega); rfl
   have hbad : ¬ QN (xL l (m : Int)) (xL l ((m + 1 : Nat) : Int)) < 0 → V = false := fun h => by rw [← HV.out]; exact dQ (i := m) (by omega) h
   have hcm := fun W => zQ0 (xL l (m : Int)) (xL l ((m + 1 : Nat) : Int)) W
   generalize xL l (m : Int) = x at h0 h1 hstep hcm hbad
   generalize xL l ((m + 1 : Nat) : Int) = y at h2 h3 hstep hcm hbad
   generalize QN x y = r at hcm hstep hbad
   have HS := Lib.hid hstep
   have HB := Lib.hid hbad
   have e1 : IntKind.i64.wrap (((m : Int) + 1) - 1) = (m : Int) := by rw [Int.add_sub_cancel]; exact IntWalk.i64_in _ (by omega)
   have q1 : (m : Int) < (l.length : Int) := by omega
   have q2 : (m : Int) + 1 < (l.length : Int) := by omega
   have q3 : ((m : Int) + 1).toNat = m + 1 := by omega
   have q4 : (0 : Int) ≤ (m : Int) + 1 := by omega
   clear hC hr hstep hbad
   have e0 : IntKind.i64.wrap (m : Int) = (m : Int) := IntWalk.i64_in _ (by omega)
   have q5 : (0 : Int) ≤ (m : Int) := by omega
   by_cases hr0 : r < 0
   ·have d1 : decide (0 ≤ r) = false := by simp; omega
    have HR := Lib.hid hr0
    clear hr0
    go_wp2_with fail
    go_region_held3 (fun W => W.cell? (ad.add (m * 2)) = some (.string x.f0) ∧ W.cell? ⟨(ad.add (m * 2)).block, (ad.add (m * 2)).off + 1, none⟩ = some (.int .i64 x.f1) ∧ W.cell? (ad.add ((m + 1) * 2)) = some (.string y.f0) ∧ W.cell? ⟨(ad.add ((m + 1) * 2)).block, (ad.add ((m + 1) * 2)).off + 1, none⟩ = some (.int .i64 y.f1)) (first | go_keep | exact ⟨(hb2.cell (World.block_lt_of_cell? wr _ h0)).trans h0, (hb2.cell (World.block_lt_of_cell? wr _ h1)).trans h1, (hb2.cell (World.block_lt_of_cell? wr _ h2)).trans h2, (hb2.cell (World.block_lt_of_cell? wr _ h3)).trans h3⟩) ((go_at_call 46; refine (hcm _).mono ?_; rintro e w2 ⟨rfl, hb2⟩))
    clear e0 e1
    have hb3 : Below w.heap.size w w2 := (hb.drew).trans (hb2.mono hb.size)
    clear hb2
    go_wp2
    refine ⟨⟨m + 1 + 1, by go_num, by omega, by omega, (fun i h1 h2 => ?_), hb3⟩, by simp [intOf]; omega⟩
    by_cases e : i + 1 = m + 1
    ·rw [HS.out i e]; exact HR.out
    ·exact HA.out i (by omega) h2
   ·have d1 : decide (0 ≤ r) = true := by simp; omega
    have hv : V = false := HB.out hr0
    have jA := Lib.hid hv
    clear hr0 hv
    go_wp2_with fail
    go_region_held3 (fun W => W.cell? (ad.add (m * 2)) = some (.string x.f0) ∧ W.cell? ⟨(ad.add (m * 2)).block, (ad.add (m * 2)).off + 1, none⟩ = some (.int .i64 x.f1) ∧ W.cell? (ad.add ((m + 1) * 2)) = some (.string y.f0) ∧ W.cell? ⟨(ad.add ((m + 1) * 2)).block, (ad.add ((m + 1) * 2)).off + 1, none⟩ = some (.int .i64 y.f1)) (first | go_keep | exact ⟨(hb2.cell (World.block_lt_of_cell? wr _ h0)).trans h0, (hb2.cell (World.block_lt_of_cell? wr _ h1)).trans h1, (hb2.cell (World.block_lt_of_cell? wr _ h2)).trans h2, (hb2.cell (World.block_lt_of_cell? wr _ h3)).trans h3⟩) ((go_at_call 46; refine (hcm _).mono ?_; rintro e w2 ⟨rfl, hb2⟩))
    clear e0 e1
    have hb3 : Below w.heap.size w w2 := (hb.drew).trans (hb2.mono hb.size)
    clear hb2
    go_wp2
    go_ret
    exact ⟨by rw [jA.out]; rfl, hb3⟩
  ·have hv : V = true := by rw [← HV.out]; exact mX (fun i hi => HA.out i (by omega) hi)
   have jA := Lib.hid hv
   have q1 : decide ((k : Int) < (l.length : Int)) = false := decide_eq_false (by omega)
   clear hv hr
   go_wp2
   go_ret
   exact ⟨by rw [jA.out]; rfl, hb⟩
theorem zwx {w w' : World} (h : yx w w') : Below w.heap.size w w' := by
 obtain ⟨n, rfl⟩ := h
 exact ⟨rfl, rfl, rfl, Nat.le_refl _, fun _ _ => rfl⟩
theorem zYU (a b : Int) : Ev (fun k => j4.f k [a, b]) (fE a b) := by
 unfold j4.f fE
 have e1 : wrap64 (0 + 1) = 1 := by rw [Yi (by omega) (by omega)]; rfl
 have e2 : wrap64 (1 + 1) = 2 := by rw [Yi (by omega) (by omega)]; rfl
 have hl : (([a, b] : List Int).length : Int) = 2 := rfl
 refine Ev.step (fun k => by rw [j4.l0]) ?_
 rw [hl]
 refine qM (by omega) (qM (by omega) (qM (by omega) ?_))
 rw [show rd [a, b] 0 = a from rfl, e1]
 by_cases h1 : a = 0
 ·refine qM h1 ?_
  rw [if_pos h1]
  refine Ev.step (fun k => by rw [j4.l0]) ?_
  rw [hl]
  refine qM (by omega) (qM (by omega) (qM (by omega) ?_))
  rw [show rd [a, b] 1 = b from rfl, e2]
  by_cases h2 : b = 0
  ·refine qM h2 ?_
   rw [h2]
   refine Ev.step (fun k => by rw [j4.l0]) ?_
   exact uY (by omega) (Ev.now _)
  ·exact uY h2 (Ev.now _)
 ·refine uY h1 ?_
  rw [if_neg h1]; exact Ev.now _
theorem zQ2 (B : Nat) (a b : Int) (w : World) (h0 : w.cell? ⟨B, 0, none⟩ = some (.int .i64 a)) (h1 : w.cell? ⟨B, 1, none⟩ = some (.int .i64 b)) : Kd.C (Kd.int .i64) w (some ⟨B, 0, none⟩) 2 [a, b] := by
 have hs : (Kd.int .i64).sz = 1 := rfl
 refine ⟨rfl, by decide, fun _ => ⟨_, rfl, fun j p hj => ?_⟩⟩
 rcases j with _ | _ | j
 ·cases hj
  exact ⟨[.int .i64 a], rfl, rfl, fun i u hi => by rcases i with _ | i; cases hi; simpa [Addr.add_lit] using h0; simp at hi⟩
 ·cases hj
  exact ⟨[.int .i64 b], rfl, rfl, fun i u hi => by rcases i with _ | i; cases hi; simpa [Addr.add_lit, hs] using h1; simp at hi⟩
 ·simp at hj
theorem zZ4 (a b : Int) (B : Nat) (w : World) (h0 : w.cell? ⟨B, 0, none⟩ = some (.int .i64 a)) (h1 : w.cell? ⟨B, 1, none⟩ = some (.int .i64 b)) :
  Calls Tryz.prog 53 #[.slice (some ⟨B, 0, none⟩) 2 2] w fun e w' => e = .returned (.int .i64 (fE a b)) ∧ Below w.heap.size w w' := by
 obtain ⟨k, hk⟩ := (zYU a b).rounds
 exact (j4.calls k (some ⟨B, 0, none⟩) 2 [a, b] _ w (zQ2 B a b w h0 h1) (Nat.le_refl _) hk).mono fun e w' h => ⟨h.1, zwx h.2⟩
theorem zdc (W : World) (a b : Value) (t : TypeId) : (W.alloc (.cells #[a, b] t)).cell? ⟨W.heap.size, 0, none⟩ = some a := by simp
theorem zY0 (W : World) (a b : Value) (t : TypeId) : (W.alloc (.cells #[a, b] t)).cell? ⟨W.heap.size, 1, none⟩ = some b := by simp
theorem zY1 (W : World) (n : Nat) (a b : Value) (t : TypeId) : ((W.drewN n).alloc (.cells #[a, b] t)).cell? ⟨W.heap.size, 0, none⟩ = some a := zdc (W.drewN n) a b t
theorem zY2 (W : World) (n : Nat) (a b : Value) (t : TypeId) : ((W.drewN n).alloc (.cells #[a, b] t)).cell? ⟨W.heap.size, 1, none⟩ = some b := zY0 (W.drewN n) a b t
theorem Vx {W w2 : World} {n : Nat} {o : Obj} {B i : Nat} {v : Value} (h : Below ((W.drewN n).alloc o).heap.size ((W.drewN n).alloc o) w2) (hc : W.cell? ⟨B, i, none⟩ = some v) : w2.cell? ⟨B, i, none⟩ = some v := by
 have hb : Below W.heap.size W ((W.drewN n).alloc o) := Below.trans (⟨rfl, rfl, rfl, Nat.le_refl _, fun _ _ => rfl⟩ : Below W.heap.size W (W.drewN n)) ((Below.refl _ (W.drewN n)).alloc (Nat.le_refl _) o)
 have hl := World.block_lt_of_cell? W _ hc
 exact (h.cell (p := ⟨B, i, none⟩) (Nat.lt_of_lt_of_le hl hb.size)).trans ((hb.cell (p := ⟨B, i, none⟩) hl).trans hc)
theorem zqE {W w2 : World} {n : Nat} {o : Obj} (h : Below ((W.drewN n).alloc o).heap.size ((W.drewN n).alloc o) w2) : Below W.heap.size W w2 := by
 have hb : Below W.heap.size W ((W.drewN n).alloc o) := Below.trans (⟨rfl, rfl, rfl, Nat.le_refl _, fun _ _ => rfl⟩ : Below W.heap.size W (W.drewN n)) ((Below.refl _ (W.drewN n)).alloc (Nat.le_refl _) o)
 exact hb.trans (h.mono hb.size)
set_option maxRecDepth 100000 in
set_option maxHeartbeats 1000000 in
theorem zQ3 (x y : xC) (w : World) :
  Calls Tryz.prog 52 #[.agg #[.string x.f0, .string x.f1, .string x.f2], .agg #[.string y.f0, .string y.f1, .string y.f2]] w fun e w' => e = .returned (.int .i64 (cmpL x y)) ∧ Below w.heap.size w w' := by
 unfold cmpL
 have hb0 : Below w.heap.size w ((w.alloc (.cells #[.string x.f0, .string x.f1, .string x.f2] 86)).alloc (.cells #[.string y.f0, .string y.f1, .string y.f2] 86)) := ((Below.refl _ w).alloc (Nat.le_refl _) _).alloc (by simp) _
 have hz : ((w.alloc (.cells #[.string x.f0, .string x.f1, .string x.f2] 86)).alloc (.cells #[.string y.f0, .string y.f1, .string y.f2] 86)).heap.size = w.heap.size + 2 := by simp
 have c0 : ((w.alloc (.cells #[.string x.f0, .string x.f1, .string x.f2] 86)).alloc (.cells #[.string y.f0, .string y.f1, .string y.f2] 86)).cell? ⟨w.heap.size, 0, none⟩ = some (.string x.f0) := by simp
 have c1 : ((w.alloc (.cells #[.string x.f0, .string x.f1, .string x.f2] 86)).alloc (.cells #[.string y.f0, .string y.f1, .string y.f2] 86)).cell? ⟨w.heap.size, 1, none⟩ = some (.string x.f1) := by simp
 have c2 : ((w.alloc (.cells #[.string x.f0, .string x.f1, .string x.f2] 86)).alloc (.cells #[.string y.f0, .string y.f1, .string y.f2] 86)).cell? ⟨w.heap.size + 1, 0, none⟩ = some (.string y.f0) := by simp
 have c3 : ((w.alloc (.cells #[.string x.f0, .string x.f1, .string x.f2] 86)).alloc (.cells #[.string y.f0, .string y.f1, .string y.f2] 86)).cell? ⟨w.heap.size + 1, 1, none⟩ = some (.string y.f1) := by simp
 have hc1 := fun W => jX.calls x.f0 y.f0 _ W (Vq x.f0 y.f0)
 have hc2 := fun W => jX.calls x.f1 y.f1 _ W (Vq x.f1 y.f1)
 generalize uF x.f0 y.f0 = r1 at hc1 ⊢
 generalize uF x.f1 y.f1 = r2 at hc2 ⊢
 have hor := fun B W h0 h1 => zZ4 r1 r2 B W h0 h1
 generalize fE r1 r2 = R at hor ⊢
 go_enter Tryz.func52, Tryz.ntmps52
 go_wp2_with fail
 generalize ((w.alloc (.cells #[.string x.f0, .string x.f1, .string x.f2] 86)).alloc (.cells #[.string y.f0, .string y.f1, .string y.f2] 86)) = W0 at hb0 hz c0 c1 c2 c3 ⊢
 have hz1 := Nat.le_of_eq hz
 have hz2 := Nat.le_of_eq hz.symm
 clear hz
 go_region_held3 (fun W => W.cell? ⟨w.heap.size, 0, none⟩ = some (.string x.f0) ∧ W.cell? ⟨w.heap.size, 1, none⟩ = some (.string x.f1) ∧ W.cell? ⟨w.heap.size + 1, 0, none⟩ = some (.string y.f0) ∧ W.cell? ⟨w.heap.size + 1, 1, none⟩ = some (.string y.f1))
  (first | go_keep | exact ⟨Vx hb2 c0, Vx hb2 c1, Vx hb2 c2, Vx hb2 c3⟩)
  (first | (go_at_call 47; ((with_reducible refine (hc1 _).mono ?_); rintro e w2 ⟨rfl, nd, rfl⟩)) | (go_at_call 47; ((with_reducible refine (hc2 _).mono ?_); rintro e w2 ⟨rfl, nd, rfl⟩)) | (go_at_call 53; ((refine (hor _ _ (zY1 _ _ _ _ _) (zY2 _ _ _ _ _)).mono ?_); rintro e w2 ⟨rfl, hb2⟩)))
 all_goals
  have hb3 := hb0.trans ((zqE hb2).mono hb0.size)
  clear hb2 c0 c1 c2 c3
  go_wp2
  go_ret
  exact ⟨rfl, hb3⟩
set_option maxRecDepth 100000 in
set_option maxHeartbeats 1000000 in
theorem zQ4 (x y : vk) (w : World) :
  Calls Tryz.prog 57 #[.agg #[.string x.f0, .string x.f1, .int .i64 x.f2], .agg #[.string y.f0, .string y.f1, .int .i64 y.f2]] w fun e w' => e = .returned (.int .i64 (Jg x y)) ∧ Below w.heap.size w w' := by
 unfold Jg
 have hb0 : Below w.heap.size w ((w.alloc (.cells #[.string x.f0, .string x.f1, .int .i64 x.f2] 76)).alloc (.cells #[.string y.f0, .string y.f1, .int .i64 y.f2] 76)) := ((Below.refl _ w).alloc (Nat.le_refl _) _).alloc (by simp) _
 have hz : ((w.alloc (.cells #[.string x.f0, .string x.f1, .int .i64 x.f2] 76)).alloc (.cells #[.string y.f0, .string y.f1, .int .i64 y.f2] 76)).heap.size = w.heap.size + 2 := by simp
 have c0 : ((w.alloc (.cells #[.string x.f0, .string x.f1, .int .i64 x.f2] 76)).alloc (.cells #[.string y.f0, .string y.f1, .int .i64 y.f2] 76)).cell? ⟨w.heap.size, 0, none⟩ = some (.string x.f0) := by simp
 have c1 : ((w.alloc (.cells #[.string x.f0, .string x.f1, .int .i64 x.f2] 76)).alloc (.cells #[.string y.f0, .string y.f1, .int .i64 y.f2] 76)).cell? ⟨w.heap.size, 1, none⟩ = some (.string x.f1) := by simp
 have c2 : ((w.alloc (.cells #[.string x.f0, .string x.f1, .int .i64 x.f2] 76)).alloc (.cells #[.string y.f0, .string y.f1, .int .i64 y.f2] 76)).cell? ⟨w.heap.size + 1, 0, none⟩ = some (.string y.f0) := by simp
 have c3 : ((w.alloc (.cells #[.string x.f0, .string x.f1, .int .i64 x.f2] 76)).alloc (.cells #[.string y.f0, .string y.f1, .int .i64 y.f2] 76)).cell? ⟨w.heap.size + 1, 1, none⟩ = some (.string y.f1) := by simp
 have hc1 := fun W => jX.calls x.f0 y.f0 _ W (Vq x.f0 y.f0)
 have hc2 := fun W => jX.calls x.f1 y.f1 _ W (Vq x.f1 y.f1)
 generalize uF x.f0 y.f0 = r1 at hc1 ⊢
 generalize uF x.f1 y.f1 = r2 at hc2 ⊢
 have hor := fun B W h0 h1 => zZ4 r1 r2 B W h0 h1
 generalize fE r1 r2 = R at hor ⊢
 go_enter Tryz.func57, Tryz.ntmps57
 go_wp2_with fail
 generalize ((w.alloc (.cells #[.string x.f0, .string x.f1, .int .i64 x.f2] 76)).alloc (.cells #[.string y.f0, .string y.f1, .int .i64 y.f2] 76)) = W0 at hb0 hz c0 c1 c2 c3 ⊢
 have hz1 := Nat.le_of_eq hz
 have hz2 := Nat.le_of_eq hz.symm
 clear hz
 go_region_held3 (fun W => W.cell? ⟨w.heap.size, 0, none⟩ = some (.string x.f0) ∧ W.cell? ⟨w.heap.size, 1, none⟩ = some (.string x.f1) ∧ W.cell? ⟨w.heap.size + 1, 0, none⟩ = some (.string y.f0) ∧ W.cell? ⟨w.heap.size + 1, 1, none⟩ = some (.string y.f1))
  (first | go_keep | exact ⟨Vx hb2 c0, Vx hb2 c1, Vx hb2 c2, Vx hb2 c3⟩)
  (first | (go_at_call 47; ((with_reducible refine (hc1 _).mono ?_); rintro e w2 ⟨rfl, nd, rfl⟩)) | (go_at_call 47; ((with_reducible refine (hc2 _).mono ?_); rintro e w2 ⟨rfl, nd, rfl⟩)) | (go_at_call 53; ((refine (hor _ _ (zY1 _ _ _ _ _) (zY2 _ _ _ _ _)).mono ?_); rintro e w2 ⟨rfl, hb2⟩)))
 all_goals
  have hb3 := hb0.trans ((zqE hb2).mono hb0.size)
  clear hb2 c0 c1 c2 c3
  go_wp2
  go_ret
  exact ⟨rfl, hb3⟩
def zaO (l : List xC) (w : World) (x : Value) (wr : World) : Prop :=
 ∃ k : Nat, x = .int .i64 k ∧ 1 ≤ k ∧ k ≤ l.length + 1 ∧ (∀ i, i + 1 < k → i + 1 < l.length → cmpL (uE l (i : Int)) (uE l ((i + 1 : Nat) : Int)) < 0) ∧ Below w.heap.size w wr
set_option maxRecDepth 100000 in
set_option maxHeartbeats 1000000 in
theorem zQ5 (A0 : Option Addr) (c0 : Nat) (l : List xC) (w : World) (hr : Kd.C jd w A0 l.length l) (hl : l.length ≤ 1000000000) :
  Calls Tryz.prog 51 #[.slice A0 l.length c0, .func (.func 52) #[] #[]] w fun e w' => e = .returned (.bool (ZU (fun i j => cmpL (uE l (i : Int)) (uE l (j : Int))) l.length)) ∧ Below w.heap.size w w' := by
 generalize hV : ZU (fun i j => cmpL (uE l (i : Int)) (uE l (j : Int))) l.length = V
 have HV := Lib.hid hV
 clear hV
 go_enter Tryz.func51, Tryz.ntmps51
 go_wp2
 go_loopw [5] (fun x wr => zaO l w x wr) (fun x _ => l.length + 1 - (intOf x).toNat)
 case atStart => exact ⟨1, rfl, by omega, by omega, (fun i h => by omega), Below.refl _ _⟩
 case round =>
  obtain ⟨k, rfl, hk1, hk, hA, hb⟩ := hrel
  have HA := Lib.hid hA
  clear hA
  by_cases hlt : k < l.length
  ·obtain ⟨m, rfl⟩ : ∃ m, k = m + 1 := ⟨k - 1, by omega⟩
   have hC := Kd.zY hr hb
   obtain ⟨ad, e, HH0⟩ := gU hC (m : Int) (by omega) (by omega)
   obtain ⟨fF, e2, HH1⟩ := gU hC ((m + 1 : Nat) : Int) (by omega) (by omega)
   cases e
   cases e2
   obtain ⟨h0, h1, h2⟩ := HH0
   obtain ⟨h3, h4, h5⟩ := HH1
   rw [Int.toNat_natCast] at h0 h1 h2 h3 h4 h5
   have hstep : ∀ i, i + 1 = m + 1 → cmpL (uE l (i : Int)) (uE l ((i + 1 : Nat) : Int)) = cmpL (uE l (m : Int)) (uE l ((m + 1 : Nat) : Int)) := fun i hi => by obtain rfl : i = m := (by omega); rfl
   have hbad : ¬ cmpL (uE l (m : Int)) (uE l ((m + 1 : Nat) : Int)) < 0 → V = false := fun h => by rw [← HV.out]; exact dQ (i := m) (by omega) h
   have hcm := fun W => zQ3 (uE l (m : Int)) (uE l ((m + 1 : Nat) : Int)) W
   generalize uE l (m : Int) = x at h0 h1 h2 hstep hcm hbad
   generalize uE l ((m + 1 : Nat) : Int) = y at h3 h4 h5 hstep hcm hbad
   generalize cmpL x y = r at hcm hstep hbad
   have HS := Lib.hid hstep
   have HB := Lib.hid hbad
   have e1 : IntKind.i64.wrap (((m : Int) + 1) - 1) = (m : Int) := by rw [Int.add_sub_cancel]; exact IntWalk.i64_in _ (by omega)
   have q1 : (m : Int) < (l.length : Int) := by omega
   have q2 : (m : Int) + 1 < (l.length : Int) := by omega
   have q3 : ((m : Int) + 1).toNat = m + 1 := by omega
   have q4 : (0 : Int) ≤ (m : Int) + 1 := by omega
   clear hC hr hstep hbad
   have e0 : IntKind.i64.wrap (m : Int) = (m : Int) := IntWalk.i64_in _ (by omega)
   have q5 : (0 : Int) ≤ (m : Int) := by omega
   by_cases hr0 : r < 0
   ·have d1 : decide (0 ≤ r) = false := by simp; omega
    have HR := Lib.hid hr0
    clear hr0
    go_wp2_with fail
    go_region_held3 (fun W => W.cell? (ad.add (m * 3)) = some (.string x.f0) ∧ W.cell? ⟨(ad.add (m * 3)).block, (ad.add (m * 3)).off + 1, none⟩ = some (.string x.f1) ∧ W.cell? ⟨(ad.add (m * 3)).block, (ad.add (m * 3)).off + 2, none⟩ = some (.string x.f2) ∧ W.cell? (ad.add ((m + 1) * 3)) = some (.string y.f0) ∧ W.cell? ⟨(ad.add ((m + 1) * 3)).block, (ad.add ((m + 1) * 3)).off + 1, none⟩ = some (.string y.f1) ∧ W.cell? ⟨(ad.add ((m + 1) * 3)).block, (ad.add ((m + 1) * 3)).off + 2, none⟩ = some (.string y.f2)) (first | go_keep | exact ⟨(hb2.cell (World.block_lt_of_cell? wr _ h0)).trans h0, (hb2.cell (World.block_lt_of_cell? wr _ h1)).trans h1, (hb2.cell (World.block_lt_of_cell? wr _ h2)).trans h2, (hb2.cell (World.block_lt_of_cell? wr _ h3)).trans h3, (hb2.cell (World.block_lt_of_cell? wr _ h4)).trans h4, (hb2.cell (World.block_lt_of_cell? wr _ h5)).trans h5⟩) ((go_at_call 52; refine (hcm _).mono ?_; rintro e w2 ⟨rfl, hb2⟩))
    clear e0 e1
    have hb3 : Below w.heap.size w w2 := (hb.drew).trans (hb2.mono hb.size)
    clear hb2
    go_wp2
    refine ⟨⟨m + 1 + 1, by go_num, by omega, by omega, (fun i h1 h2 => ?_), hb3⟩, by simp [intOf]; omega⟩
    by_cases e : i + 1 = m + 1
    ·rw [HS.out i e]; exact HR.out
    ·exact HA.out i (by omega) h2
   ·have d1 : decide (0 ≤ r) = true := by simp; omega
    have hv : V = false := HB.out hr0
    have jA := Lib.hid hv
    clear hr0 hv
    go_wp2_with fail
    go_region_held3 (fun W => W.cell? (ad.add (m * 3)) = some (.string x.f0) ∧ W.cell? ⟨(ad.add (m * 3)).block, (ad.add (m * 3)).off + 1, none⟩ = some (.string x.f1) ∧ W.cell? ⟨(ad.add (m * 3)).block, (ad.add (m * 3)).off + 2, none⟩ = some (.string x.f2) ∧ W.cell? (ad.add ((m + 1) * 3)) = some (.string y.f0) ∧ W.cell? ⟨(ad.add ((m + 1) * 3)).block, (ad.add ((m + 1) * 3)).off + 1, none⟩ = some (.string y.f1) ∧ W.cell? ⟨(ad.add ((m + 1) * 3)).block, (ad.add ((m + 1) * 3)).off + 2, none⟩ = some (.string y.f2)) (first | go_keep | exact ⟨(hb2.cell (World.block_lt_of_cell? wr _ h0)).trans h0, (hb2.cell (World.block_lt_of_cell? wr _ h1)).trans h1, (hb2.cell (World.block_lt_of_cell? wr _ h2)).trans h2, (hb2.cell (World.block_lt_of_cell? wr _ h3)).trans h3, (hb2.cell (World.block_lt_of_cell? wr _ h4)).trans h4, (hb2.cell (World.block_lt_of_cell? wr _ h5)).trans h5⟩) ((go_at_call 52; refine (hcm _).mono ?_; rintro e w2 ⟨rfl, hb2⟩))
    clear e0 e1
    have hb3 : Below w.heap.size w w2 := (hb.drew).trans (hb2.mono hb.size)
    clear hb2
    go_wp2
    go_ret
    exact ⟨by rw [jA.out]; rfl, hb3⟩
  ·have hv : V = true := by rw [← HV.out]; exact mX (fun i hi => HA.out i (by omega) hi)
   have jA := Lib.hid hv
   have q1 : decide ((k : Int) < (l.length : Int)) = false := decide_eq_false (by omega)
   clear hv hr
   go_wp2
   go_ret
   exact ⟨by rw [jA.out]; rfl, hb⟩
def zaP (l : List vk) (w : World) (x : Value) (wr : World) : Prop :=
 ∃ k : Nat, x = .int .i64 k ∧ 1 ≤ k ∧ k ≤ l.length + 1 ∧ (∀ i, i + 1 < k → i + 1 < l.length → Jg (jq l (i : Int)) (jq l ((i + 1 : Nat) : Int)) < 0) ∧ Below w.heap.size w wr
set_option maxRecDepth 100000 in
set_option maxHeartbeats 1000000 in
theorem zQ6 (A0 : Option Addr) (c0 : Nat) (l : List vk) (w : World) (hr : Kd.C jh w A0 l.length l) (hl : l.length ≤ 1000000000) :
  Calls Tryz.prog 56 #[.slice A0 l.length c0, .func (.func 57) #[] #[]] w fun e w' => e = .returned (.bool (ZU (fun i j => Jg (jq l (i : Int)) (jq l (j : Int))) l.length)) ∧ Below w.heap.size w w' := by
 generalize hV : ZU (fun i j => Jg (jq l (i : Int)) (jq l (j : Int))) l.length = V
 have HV := Lib.hid hV
 clear hV
 go_enter Tryz.func56, Tryz.ntmps56
 go_wp2
 go_loopw [5] (fun x wr => zaP l w x wr) (fun x _ => l.length + 1 - (intOf x).toNat)
 case atStart => exact ⟨1, rfl, by omega, by omega, (fun i h => by omega), Below.refl _ _⟩
 case round =>
  obtain ⟨k, rfl, hk1, hk, hA, hb⟩ := hrel
  have HA := Lib.hid hA
  clear hA
  by_cases hlt : k < l.length
  ·obtain ⟨m, rfl⟩ : ∃ m, k = m + 1 := ⟨k - 1, by omega⟩
   have hC := Kd.zY hr hb
   obtain ⟨ad, e, HH0⟩ := mq hC (m : Int) (by omega) (by omega)
   obtain ⟨fF, e2, HH1⟩ := mq hC ((m + 1 : Nat) : Int) (by omega) (by omega)
   cases e
   cases e2
   obtain ⟨h0, h1, h2⟩ := HH0
   obtain ⟨h3, h4, h5⟩ := HH1
   rw [Int.toNat_natCast] at h0 h1 h2 h3 h4 h5
   have hstep : ∀ i, i + 1 = m + 1 → Jg (jq l (i : Int)) (jq l ((i + 1 : Nat) : Int)) = Jg (jq l (m : Int)) (jq l ((m + 1 : Nat) : Int)) := fun i hi => by obtain rfl : i = m := (by omega); rfl
   have hbad : ¬ Jg (jq l (m : Int)) (jq l ((m + 1 : Nat) : Int)) < 0 → V = false := fun h => by rw [← HV.out]; exact dQ (i := m) (by omega) h
   have hcm := fun W => zQ4 (jq l (m : Int)) (jq l ((m + 1 : Nat) : Int)) W
   generalize jq l (m : Int) = x at h0 h1 h2 hstep hcm hbad
   generalize jq l ((m + 1 : Nat) : Int) = y at h3 h4 h5 hstep hcm hbad
   generalize Jg x y = r at hcm hstep hbad
   have HS := Lib.hid hstep
   have HB := Lib.hid hbad
   have e1 : IntKind.i64.wrap (((m : Int) + 1) - 1) = (m : Int) := by rw [Int.add_sub_cancel]; exact IntWalk.i64_in _ (by omega)
   have q1 : (m : Int) < (l.length : Int) := by omega
   have q2 : (m : Int) + 1 < (l.length : Int) := by omega
   have q3 : ((m : Int) + 1).toNat = m + 1 := by omega
   have q4 : (0 : Int) ≤ (m : Int) + 1 := by omega
   clear hC hr hstep hbad
   have e0 : IntKind.i64.wrap (m : Int) = (m : Int) := IntWalk.i64_in _ (by omega)
   have q5 : (0 : Int) ≤ (m : Int) := by omega
   by_cases hr0 : r < 0
   ·have d1 : decide (0 ≤ r) = false := by simp; omega
    have HR := Lib.hid hr0
    clear hr0
    go_wp2_with fail
    go_region_held3 (fun W => W.cell? (ad.add (m * 3)) = some (.string x.f0) ∧ W.cell? ⟨(ad.add (m * 3)).block, (ad.add (m * 3)).off + 1, none⟩ = some (.string x.f1) ∧ W.cell? ⟨(ad.add (m * 3)).block, (ad.add (m * 3)).off + 2, none⟩ = some (.int .i64 x.f2) ∧ W.cell? (ad.add ((m + 1) * 3)) = some (.string y.f0) ∧ W.cell? ⟨(ad.add ((m + 1) * 3)).block, (ad.add ((m + 1) * 3)).off + 1, none⟩ = some (.string y.f1) ∧ W.cell? ⟨(ad.add ((m + 1) * 3)).block, (ad.add ((m + 1) * 3)).off + 2, none⟩ = some (.int .i64 y.f2)) (first | go_keep | exact ⟨(hb2.cell (World.block_lt_of_cell? wr _ h0)).trans h0, (hb2.cell (World.block_lt_of_cell? wr _ h1)).trans h1, (hb2.cell (World.block_lt_of_cell? wr _ h2)).trans h2, (hb2.cell (World.block_lt_of_cell? wr _ h3)).trans h3, (hb2.cell (World.block_lt_of_cell? wr _ h4)).trans h4, (hb2.cell (World.block_lt_of_cell? wr _ h5)).trans h5⟩) ((go_at_call 57; refine (hcm _).mono ?_; rintro e w2 ⟨rfl, hb2⟩))
    clear e0 e1
    have hb3 : Below w.heap.size w w2 := (hb.drew).trans (hb2.mono hb.size)
    clear hb2
    go_wp2
    refine ⟨⟨m + 1 + 1, by go_num, by omega, by omega, (fun i h1 h2 => ?_), hb3⟩, by simp [intOf]; omega⟩
    by_cases e : i + 1 = m + 1
    ·rw [HS.out i e]; exact HR.out
    ·exact HA.out i (by omega) h2
   ·have d1 : decide (0 ≤ r) = true := by simp; omega
    have hv : V = false := HB.out hr0
    have jA := Lib.hid hv
    clear hr0 hv
    go_wp2_with fail
    go_region_held3 (fun W => W.cell? (ad.add (m * 3)) = some (.string x.f0) ∧ W.cell? ⟨(ad.add (m * 3)).block, (ad.add (m * 3)).off + 1, none⟩ = some (.string x.f1) ∧ W.cell? ⟨(ad.add (m * 3)).block, (ad.add (m * 3)).off + 2, none⟩ = some (.int .i64 x.f2) ∧ W.cell? (ad.add ((m + 1) * 3)) = some (.string y.f0) ∧ W.cell? ⟨(ad.add ((m + 1) * 3)).block, (ad.add ((m + 1) * 3)).off + 1, none⟩ = some (.string y.f1) ∧ W.cell? ⟨(ad.add ((m + 1) * 3)).block, (ad.add ((m + 1) * 3)).off + 2, none⟩ = some (.int .i64 y.f2)) (first | go_keep | exact ⟨(hb2.cell (World.block_lt_of_cell? wr _ h0)).trans h0, (hb2.cell (World.block_lt_of_cell? wr _ h1)).trans h1, (hb2.cell (World.block_lt_of_cell? wr _ h2)).trans h2, (hb2.cell (World.block_lt_of_cell? wr _ h3)).trans h3, (hb2.cell (World.block_lt_of_cell? wr _ h4)).trans h4, (hb2.cell (World.block_lt_of_cell? wr _ h5)).trans h5⟩) ((go_at_call 57; refine (hcm _).mono ?_; rintro e w2 ⟨rfl, hb2⟩))
    clear e0 e1
    have hb3 : Below w.heap.size w w2 := (hb.drew).trans (hb2.mono hb.size)
    clear hb2
    go_wp2
    go_ret
    exact ⟨by rw [jA.out]; rfl, hb3⟩
  ·have hv : V = true := by rw [← HV.out]; exact mX (fun i hi => HA.out i (by omega) hi)
   have jA := Lib.hid hv
   have q1 : decide ((k : Int) < (l.length : Int)) = false := decide_eq_false (by omega)
   clear hv hr
   go_wp2
   go_ret
   exact ⟨by rw [jA.out]; rfl, hb⟩
end Go.Proofs.YtaifemkokfoadaaGreatDoor
namespace Go.Proofs.YtaifemkokfoadaaGreatDoor.PX
open Go.RowKit Go.Proofs.zy.zu Go.Proofs.zy.yI Go.Proofs.zy.yD
attribute [local go_sem] xw xZ xP xR qD qE xQ xX   -- for this text's walks alone
set_option linter.unusedVariables false
set_option linter.unusedSimpArgs false
def wH.l0 : Nat → List ByteArray → Int → Int → ByteArray → Bool → Int → List (qg) → List (xC) → List (vk) → Option (Bool)
 | 0, _, _, _, _, _, _, _, _, _ => none
 | k + 1, x9, x10, sD, zjU, zj0, zj1, zj2, zj3, zj4 => if sD < x10 then (if 0 ≤ sD then (if sD < (x9.length : Int) then ((kF.f zjU zj0 zj1 zj2 zj3 zj4 (Xu ByteArray.empty x9 sD)).bind fun zaR => (if zaR.2 = true then (wH.l0 k x9 x10 (wrap64 (sD + 1)) zjU zj0 zj1 zj2 zj3 zj4) else (some false))) else (none)) else (none)) else (some true)
def wH.f (k : Nat) (zG : ByteArray) (zH : Bool) (zC : Int) (ze : List (qg)) (zn : List (xC)) (zm : List (vk)) (l1 : List ByteArray) : Option (Bool) := wH.l0 k l1 (l1.length : Int) 0 zG zH zC ze zn zm
set_option maxHeartbeats 8000000 in
set_option maxRecDepth 100000 in
theorem wH.calls (k : Nat) (zG : ByteArray) (zH : Bool) (zC : Int) (yG : Option Addr) (yH : Nat) (ze : List (qg)) (yM : Option Addr) (yN : Nat) (zn : List (xC)) (yO : Option Addr) (yP : Nat) (zm : List (vk)) (A1 : Option Addr) (c1 : Nat) (l1 : List ByteArray) (r : Bool) (w : World) (vS : Kd.C uf w yG ze.length ze) (uP : ze.length ≤ yH) (uR : Kd.C jd w yM zn.length zn) (uS : zn.length ≤ yN) (uT : Kd.C jh w yO zm.length zm) (uU : zm.length ≤ yP) (hr1 : Kd.C Kd.string w A1 l1.length l1) (hc1 : l1.length ≤ c1) (hG : GW w) (h : wH.f k zG zH zC ze zn zm l1 = some r) :
  Calls Tryz.prog 50 #[.agg #[.string zG, .bool zH, .int .i64 zC, .slice yG ze.length yH, .slice yM zn.length yN, .slice yO zm.length yP], .slice A1 l1.length c1] w fun e w' => e = .returned (.bool r) ∧ Below w.heap.size w w' := by
 have mJ := Tryz.underlying26
 have HG := zx.mk hG
 clear hG
 have uG := zx.mk vS
 have jD := zx.mk uP
 clear vS uP
 have jy := zx.mk uR
 have jE := zx.mk uS
 clear uR uS
 have jw := zx.mk uT
 have jF := zx.mk uU
 clear uT uU
 have HR1 := zx.mk hr1
 have HC1 := zx.mk hc1
 clear hr1 hc1
 have HB := zx.mk (Below.refl w.heap.size w)
 have H : (wH.l0 k l1 (l1.length : Int) 0 zG zH zC ze zn zm) = some r := h
 clear h
 have H' := zx.mk H
 clear H
 go_enter Tryz.func50, Tryz.ntmps50
 go_wp2_with (first | ((with_reducible refine qx (N := 2) rfl ?_); refine ql ?hg (N := 2) ?hd (cs := #[.string zG, .bool zH, .int .i64 zC, .slice yG ze.length yH, .slice yM zn.length yN, .slice yO zm.length yP]) (t := 26) ?hr ?_; (case hd => rfl); (case hg => rfl); (case hr => first | (go_simp; done) | (go_simp; rfl)); intro Yn hg w3 qK hb; have zf := zx.mk (zI (zD HB.out) hb); have zh := zx.mk (qK); have zA := zx.mk ((by rw [hg]; exact (zV (zD HB.out)) : w.heap.size ≤ Yn)); have zR := zx.mk ((by rw [hg]; exact (zV (zD HB.out)) : w.heap.size ≤ Yn)); clear HB; have HB := zf; have jG := zh; have ziX := zA; have zJj := zR; clear zf zh zA zR; clear hb qK hg))
 go_loopg [11] k (fun kq v11 w' => ∃ (pV : Int), v11 = .int .i64 pV ∧ zx (wH.l0 kq l1 (l1.length : Int) pV zG zH zC ze zn zm = some r) ∧ zx (kq ≤ k) ∧ zx (w'.heap[Yn]? = some (.cells #[.string zG, .bool zH, .int .i64 zC, (.slice yG ze.length yH), (.slice yM zn.length yN), (.slice yO zm.length yP)] 26 (0, 0))) ∧ zx (Below w.heap.size w w'))
 case atStart => exact ⟨(0), (by first | rfl | (simp; done) | (simp [*]; done)), H', ⟨Nat.le_refl _⟩, ⟨yt jG.out⟩, ⟨zD HB.out⟩⟩
 case round =>
  clear H'
  try clear c1
  try clear p2
  obtain ⟨pV, rfl, HA, jv, jG, HB⟩ := hrel
  cases gk with
  | zero => exact absurd HA.out (by simp [wH.l0])
  | succ k1 =>
   have H := HA.out
   clear HA
   simp only [wH.l0] at H
   by_cases c4 : pV < (l1.length : Int)
   ·rw [if_pos c4] at H
    have Xw : decide (pV < (l1.length : Int)) = true := decide_eq_true c4
    clear c4
    by_cases c5 : 0 ≤ pV
    ·rw [if_pos c5] at H
     have p8 : decide (0 ≤ pV) = true := decide_eq_true c5
     clear c5
     by_cases c6 : pV < (l1.length : Int)
     ·rw [if_pos c6] at H
      have ZF : decide (pV < (l1.length : Int)) = true := decide_eq_true c6
      clear c6
      replace H := Option.bind_eq_some_iff.mp H
      obtain ⟨⟨zY3, zY4⟩, mV, H⟩ := H
      replace H : (if zY4 = true then (wH.l0 k1 l1 (l1.length : Int) (wrap64 (pV + 1)) zG zH zC ze zn zm) else (some false)) = some r := H
      have A7 := zx.mk mV
      clear mV
      by_cases c8 : zY4 = true
      ·subst c8
       have H1 : (wH.l0 k1 l1 (l1.length : Int) (wrap64 (pV + 1)) zG zH zC ze zn zm) = some r := by rw [if_pos rfl] at H; exact H
       clear H
       have H := H1
       clear H1
       have H' := zx.mk H
       clear H
       have tY : 0 ≤ (pV : Int) := of_decide_eq_true (by first | (with_reducible assumption) | assumption)
       have tu : pV < (l1.length : Int) := of_decide_eq_true (by first | (with_reducible assumption) | assumption)
       obtain ⟨zaS, zQ7, Ub⟩ := Kd.Wm HR1.out pV tY tu
       cases zQ7
       replace Ub := (HB.out.cell (World.block_lt_of_cell? w _ Ub)).trans Ub
       replace tY := eq_true tY
       replace tu := eq_true tu
       have KA : wr.cell? ⟨Yn, 0, none⟩ = some (.string zG) := (zk jG.out 0).trans rfl
       have KC : wr.cell? ⟨Yn, 1, none⟩ = some (.bool zH) := (zk jG.out 1).trans rfl
       have PO : wr.cell? ⟨Yn, 2, none⟩ = some (.int .i64 zC) := (zk jG.out 2).trans rfl
       have PS : wr.cell? ⟨Yn, 3, none⟩ = some (.slice yG ze.length yH) := (zk jG.out 3).trans rfl
       have PU : wr.cell? ⟨Yn, 4, none⟩ = some (.slice yM zn.length yN) := (zk jG.out 4).trans rfl
       have P6 : wr.cell? ⟨Yn, 5, none⟩ = some (.slice yO zm.length yP) := (zk jG.out 5).trans rfl
       have KD := zw jG.out 0
       have KE := zw jG.out 1
       have P7 := zw jG.out 2
       have P8 := zw jG.out 3
       have P9 := zw jG.out 4
       have bq := zw jG.out 5
       go_wp2_with (first | ((with_reducible refine yY (f := 27) rfl ?_); refine uN (some 18) Tryz.func27 #[.agg #[.string zG, .bool zH, .int .i64 zC, .slice yG ze.length yH, .slice yM zn.length yN, .slice yO zm.length yP], .string (Xu ByteArray.empty l1 pV)] ?_; (with_reducible refine (kF.calls zG zH zC _ _ ze _ _ zn _ _ zm (Xu ByteArray.empty l1 pV) zY3 true _ ?y8 ?qy ?vT ?vU ?uz ?uq ?pK A7.out).mono ?_); (case y8 => repeat (first | exact (Kd.zY uG.out HB.out) | (with_reducible refine Kd.zS ?_ _) | (with_reducible refine Kd.zT ?_ _) | (with_reducible refine Kd.yc ?_))); (case qy => exact jD.out); (case vT => repeat (first | exact (Kd.zY jy.out HB.out) | (with_reducible refine Kd.zS ?_ _) | (with_reducible refine Kd.zT ?_ _) | (with_reducible refine Kd.yc ?_))); (case vU => exact jE.out); (case uz => repeat (first | exact (Kd.zY jw.out HB.out) | (with_reducible refine Kd.zS ?_ _) | (with_reducible refine Kd.zT ?_ _) | (with_reducible refine Kd.yc ?_))); (case uq => exact jF.out); (case pK => exact GW.under HG.out (zD HB.out)); rintro e XE ⟨rfl, hb⟩; refine ⟨_, rfl, ?_⟩; have zf := zx.mk (zl (g := Yn) (o := .cells #[.string zG, .bool zH, .int .i64 zC, .slice yG ze.length yH, .slice yM zn.length yN, .slice yO zm.length yP] 26 (0, 0)) (yt jG.out) hb); have zh := zx.mk (zI (zD HB.out) hb); clear jG; clear HB; have jG := zf; have HB := zh; clear zf zh; (try clear hb); (try clear hb2); (try clear hk); (try clear hi)))
       go_roundg k1
       case measure => have := jv.out; omega
       case rel => exact ⟨(wrap64 (pV + 1)), (by first | rfl | (simp; done) | (simp [*]; done)), H', ⟨by have := jv.out; omega⟩, ⟨yt jG.out⟩, ⟨zD HB.out⟩⟩
      ·replace c8 := Bool.eq_false_iff.mpr c8
       subst c8
       have H1 : (some false) = some r := by rw [if_neg (show ¬ (false = true) by decide)] at H; exact H
       clear H
       have H := H1
       clear H1
       obtain rfl := Option.some.inj H
       have tY : 0 ≤ (pV : Int) := of_decide_eq_true (by first | (with_reducible assumption) | assumption)
       have tu : pV < (l1.length : Int) := of_decide_eq_true (by first | (with_reducible assumption) | assumption)
       obtain ⟨zaS, zQ7, Ub⟩ := Kd.Wm HR1.out pV tY tu
       cases zQ7
       replace Ub := (HB.out.cell (World.block_lt_of_cell? w _ Ub)).trans Ub
       replace tY := eq_true tY
       replace tu := eq_true tu
       have JL : wr.cell? ⟨Yn, 0, none⟩ = some (.string zG) := (zk jG.out 0).trans rfl
       have JM : wr.cell? ⟨Yn, 1, none⟩ = some (.bool zH) := (zk jG.out 1).trans rfl
       have JN : wr.cell? ⟨Yn, 2, none⟩ = some (.int .i64 zC) := (zk jG.out 2).trans rfl
       have JO : wr.cell? ⟨Yn, 3, none⟩ = some (.slice yG ze.length yH) := (zk jG.out 3).trans rfl
       have JR : wr.cell? ⟨Yn, 4, none⟩ = some (.slice yM zn.length yN) := (zk jG.out 4).trans rfl
       have JU : wr.cell? ⟨Yn, 5, none⟩ = some (.slice yO zm.length yP) := (zk jG.out 5).trans rfl
       have J2 := zw jG.out 0
       have J3 := zw jG.out 1
       have J4 := zw jG.out 2
       have J5 := zw jG.out 3
       have J6 := zw jG.out 4
       have J7 := zw jG.out 5
       go_wp2_with (first | ((with_reducible refine yY (f := 27) rfl ?_); refine uN (some 18) Tryz.func27 #[.agg #[.string zG, .bool zH, .int .i64 zC, .slice yG ze.length yH, .slice yM zn.length yN, .slice yO zm.length yP], .string (Xu ByteArray.empty l1 pV)] ?_; (with_reducible refine (kF.calls zG zH zC _ _ ze _ _ zn _ _ zm (Xu ByteArray.empty l1 pV) zY3 false _ ?y8 ?qy ?vT ?vU ?uz ?uq ?pK A7.out).mono ?_); (case y8 => repeat (first | exact (Kd.zY uG.out HB.out) | (with_reducible refine Kd.zS ?_ _) | (with_reducible refine Kd.zT ?_ _) | (with_reducible refine Kd.yc ?_))); (case qy => exact jD.out); (case vT => repeat (first | exact (Kd.zY jy.out HB.out) | (with_reducible refine Kd.zS ?_ _) | (with_reducible refine Kd.zT ?_ _) | (with_reducible refine Kd.yc ?_))); (case vU => exact jE.out); (case uz => repeat (first | exact (Kd.zY jw.out HB.out) | (with_reducible refine Kd.zS ?_ _) | (with_reducible refine Kd.zT ?_ _) | (with_reducible refine Kd.yc ?_))); (case uq => exact jF.out); (case pK => exact GW.under HG.out (zD HB.out)); rintro e Xz ⟨rfl, hb⟩; refine ⟨_, rfl, ?_⟩; have zf := zx.mk (zl (g := Yn) (o := .cells #[.string zG, .bool zH, .int .i64 zC, .slice yG ze.length yH, .slice yM zn.length yN, .slice yO zm.length yP] 26 (0, 0)) (yt jG.out) hb); have zh := zx.mk (zI (zD HB.out) hb); clear jG; clear HB; have jG := zf; have HB := zh; clear zf zh; (try clear hb); (try clear hb2); (try clear hk); (try clear hi)))
       go_ret
       exact ⟨by first | rfl | (simp [zU, z8] <;> rfl) | (simp [*, zU, z8] <;> rfl), by repeat (first | (with_reducible first | exact HB.out | apply yu | apply zP | apply yT | refine qB ?_ zJj.out) | exact HB.out)⟩
     ·rw [if_neg c6] at H
      exact absurd H (by simp)
    ·rw [if_neg c5] at H
     exact absurd H (by simp)
   ·rw [if_neg c4] at H
    have Xw : decide (pV < (l1.length : Int)) = false := decide_eq_false c4
    clear c4
    obtain rfl := Option.some.inj H
    go_wp2
    go_ret
    exact ⟨by first | rfl | (simp [zU, z8] <;> rfl) | (simp [*, zU, z8] <;> rfl), by repeat (first | (with_reducible first | exact HB.out | apply yu | apply zP | apply yT | refine qB ?_ zJj.out) | exact HB.out)⟩
end Go.Proofs.YtaifemkokfoadaaGreatDoor.PX
namespace Go.Proofs.YtaifemkokfoadaaGreatDoor
open Go.RowKit Go.Shelf Go.Proofs.zy.zu Go.Proofs.zy.yD Go.Proofs.YtaifemkokfoadaaGreatDoor.PX
instance : Inhabited qg := ⟨z31⟩
instance : Inhabited xC := ⟨z86⟩
instance : Inhabited vk := ⟨z76⟩
def Za (x : qg) : List Value := [.string x.f0, .int .i64 x.f1]
def zxM (x : xC) : List Value := [.string x.f0, .string x.f1, .string x.f2]
def zxN (x : vk) : List Value := [.string x.f0, .string x.f1, .int .i64 x.f2]
theorem tC {α : Type} [Inhabited α] (d : Kd α) (enc : α → List Value) (hopen : ∀ (w : World) (x : α) (c : List Value), d.K w x c → c = enc x) (hne : ∀ x, enc x ≠ []) {w : World} {A : Option Addr} {l : List α} (h : Kd.C d w A l.length l) (h0 : l ≠ []) :
  ∃ b off, A = some ⟨b, off, none⟩ ∧ b < w.heap.size ∧ ∀ j, j < l.length → ∀ i v, (enc l[j]!)[i]? = some v → w.cell? ⟨b, off + j * d.sz + i, none⟩ = some v := by
 have hl : 0 < l.length := List.length_pos_iff.2 h0
 obtain ⟨_, _, h3⟩ := h
 obtain ⟨ad, rfl, hc⟩ := h3 hl
 obtain ⟨b, off, spot⟩ := ad
 have hcell : ∀ j, j < l.length → ∀ i v, (enc l[j]!)[i]? = some v → w.cell? ((⟨b, off, spot⟩ : Addr).add (j * d.sz + i)) = some v := by
  intro j hj i v hv
  obtain ⟨c, _, hK, hcc⟩ := hc j l[j] (List.getElem?_eq_getElem hj)
  have e := hopen w _ c hK
  rw [getElem!_pos l j hj, ← e] at hv
  exact hcc i v hv
 obtain ⟨v, hv⟩ : ∃ v, (enc l[0]!)[0]? = some v := by
  cases he : enc l[0]! with
  | nil => exact absurd he (hne _)
  | cons v r => exact ⟨v, rfl⟩
 have hc0 := hcell 0 hl 0 v hv
 have hspot : spot = none := by simpa [Addr.add] using World.cell?_spot hc0
 subst hspot
 refine ⟨b, off, rfl, ?_, fun j hj i v hv => ?_⟩
 ·have := World.block_lt_of_cell? w _ hc0
  simpa [Addr.add] using this
 ·have := hcell j hj i v hv
  rwa [Addr.add_lit, ← Nat.add_assoc] at this
set_option maxRecDepth 100000 in
theorem zZ5 (A0 : Option Addr) (c0 : Nat) (fv : Value) (w : World) : Calls Tryz.prog 98 #[.slice A0 0 c0, fv] w fun e w' => e = .returned (.int .i64 (-1)) ∧ Below w.heap.size w w' := by
 go_enter Tryz.func98, Tryz.ntmps98
 go_wp2
 go_loop [8] (fun i => i = .int .i64 0) (fun _ => 0)
 case atStart => rfl
 case round =>
  obtain rfl := hrel
  go_wp2
  go_ret
  exact ⟨rfl, Below.refl _ _⟩
set_option maxRecDepth 100000 in
theorem tH (A0 : Option Addr) (c0 : Nat) (l : List qg) (w : World) (hr : Kd.C uf w A0 l.length l) (hl : l.length ≤ 1000000000) (p : qg → Bool) (g : Nat) (lb : Array Value) (eg : ∀ args w, (callFunc g args).run Tryz.prog w = .ok (.enter g args) w)
  (hp : PredBelow Tryz.prog g lb (fun x => .agg (Za x).toArray) p w) :
  Calls Tryz.prog 42 #[.slice A0 l.length c0, .func (.func g) #[] lb] w fun e w' => e = .returned (.bool (l.any p)) ∧ Below w.heap.size w w' := by
 by_cases h0 : l = []
 ·subst h0
  have h := zZ5 A0 c0 (.func (.func g) #[] lb) w
  go_enter Tryz.func42, Tryz.ntmps42
  go_wp2_with (go_at_call 98; refine h.mono ?_; rintro e w1 ⟨rfl, hb⟩)
  go_ret
  exact ⟨rfl, hb⟩
 ·obtain ⟨b, off, rfl, hb, hc⟩ := tC uf Za (fun w x c h => zxi h) (fun x => by simp [Za]) hr h0
  have := AnyQ.slices_ContainsFunc Tryz.hasG 2 Tryz.isAgg31 Tryz.sizeOf31 Za (fun _ => rfl) p g lb eg b off l.length c0 l w hp (Nat.le_refl _) (by omega) hb hc
  rw [List.take_length] at this
  exact this
set_option maxRecDepth 100000 in
theorem zZ6 (A0 : Option Addr) (c0 : Nat) (fv : Value) (w : World) : Calls Tryz.prog 102 #[.slice A0 0 c0, fv] w fun e w' => e = .returned (.int .i64 (-1)) ∧ Below w.heap.size w w' := by
 go_enter Tryz.func102, Tryz.ntmps102
 go_wp2
 go_loop [8] (fun i => i = .int .i64 0) (fun _ => 0)
 case atStart => rfl
 case round =>
  obtain rfl := hrel
  go_wp2
  go_ret
  exact ⟨rfl, Below.refl _ _⟩
set_option maxRecDepth 100000 in
theorem zQ8 (A0 : Option Addr) (c0 : Nat) (l : List xC) (w : World) (hr : Kd.C jd w A0 l.length l) (hl : l.length ≤ 1000000000) (p : xC → Bool) (g : Nat) (lb : Array Value) (eg : ∀ args w, (callFunc g args).run Tryz.prog w = .ok (.enter g args) w)
  (hp : PredBelow Tryz.prog g lb (fun x => .agg (zxM x).toArray) p w) :
  Calls Tryz.prog 48 #[.slice A0 l.length c0, .func (.func g) #[] lb] w fun e w' => e = .returned (.bool (l.any p)) ∧ Below w.heap.size w w' := by
 by_cases h0 : l = []
 ·subst h0
  have h := zZ6 A0 c0 (.func (.func g) #[] lb) w
  go_enter Tryz.func48, Tryz.ntmps48
  go_wp2_with (go_at_call 102; refine h.mono ?_; rintro e w1 ⟨rfl, hb⟩)
  go_ret
  exact ⟨rfl, hb⟩
 ·obtain ⟨b, off, rfl, hb, hc⟩ := tC jd zxM (fun w x c h => zxl h) (fun x => by simp [zxM]) hr h0
  have := AnyQ.slices_ContainsFunc Tryz.hasL 3 Tryz.isAgg86 Tryz.sizeOf86 zxM (fun _ => rfl) p g lb eg b off l.length c0 l w hp (Nat.le_refl _) (by omega) hb hc
  rw [List.take_length] at this
  exact this
set_option maxRecDepth 100000 in
theorem zZ7 (A0 : Option Addr) (c0 : Nat) (fv : Value) (w : World) : Calls Tryz.prog 103 #[.slice A0 0 c0, fv] w fun e w' => e = .returned (.int .i64 (-1)) ∧ Below w.heap.size w w' := by
 go_enter Tryz.func103, Tryz.ntmps103
 go_wp2
 go_loop [8] (fun i => i = .int .i64 0) (fun _ => 0)
 case atStart => rfl
 case round =>
  obtain rfl := hrel
  go_wp2
  go_ret
  exact ⟨rfl, Below.refl _ _⟩
set_option maxRecDepth 100000 in
theorem zQ9 (A0 : Option Addr) (c0 : Nat) (l : List vk) (w : World) (hr : Kd.C jh w A0 l.length l) (hl : l.length ≤ 1000000000) (p : vk → Bool) (g : Nat) (lb : Array Value) (eg : ∀ args w, (callFunc g args).run Tryz.prog w = .ok (.enter g args) w)
  (hp : PredBelow Tryz.prog g lb (fun x => .agg (zxN x).toArray) p w) :
  Calls Tryz.prog 55 #[.slice A0 l.length c0, .func (.func g) #[] lb] w fun e w' => e = .returned (.bool (l.any p)) ∧ Below w.heap.size w w' := by
 by_cases h0 : l = []
 ·subst h0
  have h := zZ7 A0 c0 (.func (.func g) #[] lb) w
  go_enter Tryz.func55, Tryz.ntmps55
  go_wp2_with (go_at_call 103; refine h.mono ?_; rintro e w1 ⟨rfl, hb⟩)
  go_ret
  exact ⟨rfl, hb⟩
 ·obtain ⟨b, off, rfl, hb, hc⟩ := tC jh zxN (fun w x c h => zxm h) (fun x => by simp [zxN]) hr h0
  have := AnyQ.slices_ContainsFunc Tryz.hasK 3 Tryz.isAgg76 Tryz.sizeOf76 zxN (fun _ => rfl) p g lb eg b off l.length c0 l w hp (Nat.le_refl _) (by omega) hb hc
  rw [List.take_length] at this
  exact this
def XF (n : Int) : Bool := decide (n < 0) || decide (3000 < n)
set_option maxRecDepth 100000 in
theorem zxO (n : Int) (w : World) : Calls Tryz.prog 40 #[.int .i64 n] w fun e w' => e = .returned (.bool (XF n)) ∧ w' = w := by
 unfold XF
 by_cases h1 : n < 0
 ·have d1 : decide (n < 0) = true := decide_eq_true h1
  rw [d1]; clear h1
  go_enter Tryz.func40, Tryz.ntmps40
  go_wp2
  go_ret
  exact ⟨rfl, rfl⟩
 ·have d1 : decide (n < 0) = false := decide_eq_false h1
  rw [d1]; clear h1
  cases hd : decide (3000 < n) with
  | true =>
   go_enter Tryz.func40, Tryz.ntmps40
   go_wp2
   go_ret
   exact ⟨rfl, rfl⟩
  | false =>
   go_enter Tryz.func40, Tryz.ntmps40
   go_wp2
   go_ret
   exact ⟨rfl, rfl⟩
def Jh (x : qg) : Bool := !Yl x.f0.data.toList || XF x.f1
set_option maxRecDepth 100000 in
theorem zXz (B : Nat) (w : World) (hB : w.cell? ⟨B, 0, none⟩ = some (.func (.func 40) #[] #[])) :
  PredBelow Tryz.prog 43 #[.pointer (some ⟨B, 0, none⟩)] (fun x => .agg (Za x).toArray) Jh w := fun W x hb => by
 have hl := World.block_lt_of_cell? w _ hB
 have hc : W.cell? ⟨B, 0, none⟩ = some (.func (.func 40) #[] #[]) := (hb.cell hl).trans hB
 have hlW : B < W.heap.size := Nat.lt_of_lt_of_le hl hb.size
 show Calls Tryz.prog 43 #[.agg #[.string x.f0, .int .i64 x.f1], .pointer (some ⟨B, 0, none⟩)] W _
 have hb0 : Below w.heap.size w (W.alloc (.cells #[.string x.f0, .int .i64 x.f1] 31)) := hb.alloc hb.size _
 have hbW : Below W.heap.size W (W.alloc (.cells #[.string x.f0, .int .i64 x.f1] 31)) := (Below.refl _ W).alloc (Nat.le_refl _) _
 have hn := zZF x.f0 (W.alloc (.cells #[.string x.f0, .int .i64 x.f1] 31))
 have hw := fun W => zxO x.f1 W
 have hv : Jh x = (!Yl x.f0.data.toList || XF x.f1) := rfl
 rw [hv]
 clear hv hb
 generalize Yl x.f0.data.toList = b1 at hn ⊢
 generalize XF x.f1 = b2 at hw ⊢
 cases b1 with
 | false =>
  go_enter Tryz.func43, Tryz.ntmps43
  go_wp2_with (go_at_call 44; refine hn.mono ?_; rintro e w1 ⟨rfl, hb1⟩)
  go_ret
  exact ⟨rfl, hb0.trans (hb1.mono hb0.size)⟩
 | true =>
  go_enter Tryz.func43, Tryz.ntmps43
  go_wp2_with (first | (go_at_call 44; refine hn.mono ?_; rintro e w1 ⟨rfl, hb1⟩; have hc1 := (hb1.cell (p := ⟨B, 0, none⟩) (by simp; omega)).trans ((hbW.cell (p := ⟨B, 0, none⟩) hlW).trans hc); have k1 := (hb1.cell (p := ⟨W.heap.size, 1, none⟩) (by simp)).trans (zY0 W (.string x.f0) (.int .i64 x.f1) _)) | (go_at_call 40; refine (hw _).mono ?_; rintro e w2 ⟨rfl, rfl⟩))
  go_ret
  exact ⟨by first | rfl | (cases b2 <;> rfl), hb0.trans (hb1.mono hb0.size)⟩
def KF (l : List qg) (ns : List ByteArray) : Bool := ns.all fun n => (YF l n).2
theorem zaT (a : ByteArray) (b : Bool) (c : Int) (l3 : List qg) (l4 : List xC) (l5 : List vk) (h3 : l3.length ≤ 1000000000) (ns : List ByteArray) (hn : ns.length ≤ 1000) : ∀ (d i : Nat), i + d = ns.length →
  Ev (fun k => wH.l0 k ns (ns.length : Int) (i : Int) a b c l3 l4 l5) (KF l3 (ns.drop i)) := by
 intro d
 induction d with
 | zero =>
  intro i h
  rw [List.drop_eq_nil_of_le (by omega)]
  refine Ev.step (fun k => by rw [wH.l0]) ?_
  exact uY (by omega) (Ev.now _)
 | succ d ih =>
  intro i h
  have hi : i < ns.length := by omega
  have e2 : wrap64 ((i : Int) + 1) = ((i + 1 : Nat) : Int) := by rw [Yi (by omega) (by omega)]; rfl
  have hg : Xu ByteArray.empty ns (i : Int) = ns[i] := by rw [zQL, List.getD_eq_getElem?_getD, List.getElem?_eq_getElem hi]; rfl
  have hd : ns.drop i = ns[i] :: ns.drop (i + 1) := List.drop_eq_getElem_cons hi
  refine Ev.step (fun k => by rw [wH.l0]) ?_
  refine qM (by omega) (qM (by omega) (qM (by omega) ?_))
  rw [hg, e2]
  refine fA (y := YF l3 ns[i]) (by unfold kF.f; rw [if_pos h3]) ?_
  rw [hd]
  show Ev _ ((YF l3 ns[i]).2 && KF l3 (ns.drop (i + 1)))
  cases hb : (YF l3 ns[i]).2 with
  | true => exact qM rfl (ih (i + 1) (by omega))
  | false => exact uY (by simp) (Ev.now _)
theorem zj5 (a : ByteArray) (b : Bool) (c : Int) (A3 : Option Addr) (c3 : Nat) (l3 : List qg) (A4 : Option Addr) (c4 : Nat) (l4 : List xC) (A5 : Option Addr) (c5 : Nat) (l5 : List vk) (A : Option Addr) (cn : Nat) (ns : List ByteArray) (w : World)
  (h3 : Kd.C uf w A3 l3.length l3) (g3 : l3.length ≤ c3) (h4 : Kd.C jd w A4 l4.length l4) (g4 : l4.length ≤ c4) (h5 : Kd.C jh w A5 l5.length l5) (g5 : l5.length ≤ c5) (hn : Kd.C Kd.string w A ns.length ns) (gn : ns.length ≤ cn) (hG : GW w) (hl3 : l3.length ≤ 1000000000) (hln : ns.length ≤ 1000) :
  Calls Tryz.prog 50 #[.agg #[.string a, .bool b, .int .i64 c, .slice A3 l3.length c3, .slice A4 l4.length c4, .slice A5 l5.length c5], .slice A ns.length cn] w fun e w' => e = .returned (.bool (KF l3 ns)) ∧ Below w.heap.size w w' := by
 obtain ⟨k, hk⟩ := (zaT a b c l3 l4 l5 hl3 ns hln ns.length 0 (by omega)).rounds
 exact wH.calls k a b c A3 c3 l3 A4 c4 l4 A5 c5 l5 A cn ns _ w h3 g3 h4 g4 h5 g5 hn gn hG hk
structure Xm (w : World) (B : Nat) (a : ByteArray) (b : Bool) (c : Int) (A3 : Option Addr) (c3 : Nat) (l3 : List qg) (A4 : Option Addr) (c4 : Nat) (l4 : List xC) (A5 : Option Addr) (c5 : Nat) (l5 : List vk) : Prop where
 blk : w.heap[B]? = some (.cells #[.string a, .bool b, .int .i64 c, .slice A3 l3.length c3, .slice A4 l4.length c4, .slice A5 l5.length c5] 26 (0, 0))
 h3 : Kd.C uf w A3 l3.length l3
 h4 : Kd.C jd w A4 l4.length l4
 h5 : Kd.C jh w A5 l5.length l5
 gw : GW w
theorem Xm.below {w w' : World} {B : Nat} {a : ByteArray} {b : Bool} {c : Int} {A3 : Option Addr} {c3 : Nat} {l3 : List qg} {A4 : Option Addr} {c4 : Nat} {l4 : List xC} {A5 : Option Addr} {c5 : Nat} {l5 : List vk}
  (h : Xm w B a b c A3 c3 l3 A4 c4 l4 A5 c5 l5) (hb : Below w.heap.size w w') : Xm w' B a b c A3 c3 l3 A4 c4 l4 A5 c5 l5 :=
 ⟨(hb.block B (Array.getElem?_eq_some_iff.1 h.blk).1).trans h.blk, Kd.zY h.h3 hb, Kd.zY h.h4 hb, Kd.zY h.h5 hb, h.gw.under hb⟩
theorem xV {w : World} {B : Nat} {cs : Array Value} {t : TypeId} (h : w.heap[B]? = some (.cells cs t (0, 0))) (i : Nat) (v : Value) (hv : cs[i]? = some v) : w.cell? ⟨B, i, none⟩ = some v := by
 simp only [World.cell?, h]
 exact hv
end Go.Proofs.YtaifemkokfoadaaGreatDoor
namespace Go.Proofs.YtaifemkokfoadaaGreatDoor
open Go.RowKit Go.Proofs.zy.zu Go.Proofs.zy.yI Go.Proofs.zy.yD Go.Proofs.YtaifemkokfoadaaGreatDoor.PX
set_option linter.unusedSimpArgs false
set_option linter.unusedVariables false
def j5 (l : List zo) (n : ByteArray) : Bool := l.any fun x => x.f0.toList == n.toList
def QF (a b c d : ByteArray) : Bool := Op.bytesLess a.toList c.toList || (a.toList == c.toList && Op.bytesLess b.toList d.toList)
def wP (n : Int) : Bool := decide (n < 0) || decide (3000 < n)
def Qs (l : List zo) (i : Nat) : Bool := Yl (zN l (i : Int)).f0.data.toList && (!wP (zN l (i : Int)).f1 && (decide (i = 0) || Op.bytesLess (zN l ((i : Int) - 1)).f0.toList (zN l (i : Int)).f0.toList))
def Qt (l3 : List zo) (l : List qF) (i : Nat) : Bool := j5 l3 (vJ l (i : Int)).f0 && (j5 l3 (vJ l (i : Int)).f1 && (j5 l3 (vJ l (i : Int)).f2 && (decide (i = 0) || QF (vJ l ((i : Int) - 1)).f0 (vJ l ((i : Int) - 1)).f1 (vJ l (i : Int)).f0 (vJ l (i : Int)).f1)))
def XT (l3 : List zo) (l : List qG) (i : Nat) : Bool := j5 l3 (xY l (i : Int)).f0 && (j5 l3 (xY l (i : Int)).f1 && (!decide ((xY l (i : Int)).f2 = 0) && (!decide ((xY l (i : Int)).f2 < -500) && (!decide (500 < (xY l (i : Int)).f2) && (decide (i = 0) || QF (xY l ((i : Int) - 1)).f0 (xY l ((i : Int) - 1)).f1 (xY l (i : Int)).f0 (xY l (i : Int)).f1)))))
def Xt (a : ByteArray) (c : Int) (l3 : List zo) (l4 : List qF) (l5 : List qG) : Bool :=
 (YL a.data.toList && (!wP c && (decide (l3.length ≤ 400) && (decide (l4.length ≤ 50) && decide (l5.length ≤ 500))))) && ((List.range l3.length).all (Qs l3) && ((List.range l4.length).all (Qt l3 l4) && (List.range l5.length).all (XT l3 l5)))
theorem tL {f : Nat → Bool} {n : Nat} (h : ∀ i, i < n → f i = true) : (List.range n).all f = true := List.all_eq_true.2 fun i hi => h i (List.mem_range.1 hi)
theorem uI {f : Nat → Bool} {n i : Nat} (hi : i < n) (h : f i = false) : (List.range n).all f = false := by
 cases e : (List.range n).all f with
 | false => rfl
 | true => exact absurd (List.all_eq_true.1 e i (List.mem_range.2 hi)) (by rw [h]; simp)
theorem hasL (a : ByteArray) (b : Bool) (c : Int) (l : List zo) (l4 : List qF) (l5 : List qG) (n : ByteArray) (hl : l.length ≤ 1000000000) : ∀ d i, l.length - i = d → i ≤ l.length → Ev (fun k => vF.l0 k n (i : Int) a b c l l4 l5) (j5 (l.drop i) n) := by
 intro d
 induction d with
 | zero =>
  intro i hd hi
  rw [List.drop_eq_nil_of_le (by omega)]
  refine wT (r := false) rfl (Ev.step (fun k => by rw [vF.l0]) (uY (by omega) (Ev.now _)))
 | succ d ih =>
  intro i hd hi
  have h1 : i < l.length := by omega
  have q0 : (0 : Int) ≤ (i : Int) := by omega
  have q1 : (i : Int) < (l.length : Int) := by omega
  have hw : wrap64 ((i : Int) + 1) = ((i + 1 : Nat) : Int) := (Yi (by omega) (by omega)).trans (by omega)
  have hr := ih (i + 1) (by omega) (by omega)
  have e : zN l (i : Int) = l[i] := by simp [zN, List.getD_eq_getElem?_getD, h1]
  rw [List.drop_eq_getElem_cons h1]
  unfold j5
  rw [List.any_cons]
  refine Ev.step (fun k => by rw [vF.l0, hw, e]) (qM q1 (qM q0 ?_))
  by_cases hx : l[i].f0.toList = n.toList
  ·refine qM hx (wT ?_ (Ev.now _))
   rw [beq_iff_eq.2 hx, Bool.true_or]
  ·refine uY hx (wT ?_ hr)
   rw [beq_eq_false_iff_ne.2 hx, Bool.false_or]; rfl
theorem fG (a : ByteArray) (b : Bool) (c : Int) (A3 : Option Addr) (c3 : Nat) (l3 : List zo) (A4 : Option Addr) (c4 : Nat) (l4 : List qF) (A5 : Option Addr) (c5 : Nat) (l5 : List qG) (n : ByteArray) (w : World) (h3 : Kd.C qJ w A3 l3.length l3) (g3 : l3.length ≤ c3) (h4 : Kd.C jC w A4 l4.length l4) (g4 : l4.length ≤ c4) (h5 : Kd.C jS w A5 l5.length l5) (g5 : l5.length ≤ c5) (hl3 : l3.length ≤ 1000000000) :
  Calls Tryz.prog 63 #[.agg #[.string a, .bool b, .int .i64 c, .slice A3 l3.length c3, .slice A4 l4.length c4, .slice A5 l5.length c5], .string n] w fun e w' => e = .returned (.bool (j5 l3 n)) ∧ Below w.heap.size w w' := by
 have h1 : Ev (fun k => vF.l0 k n 0 a b c l3 l4 l5) _ := hasL a b c l3 l4 l5 n hl3 _ 0 rfl (Nat.zero_le _)
 have h2 : Ev (fun k => vF.f k a b c l3 l4 l5 n) (j5 l3 n) := Ev.congr (fun k => by rw [vF.f]) h1
 obtain ⟨k, hk⟩ := h2.rounds
 exact vF.calls k a b c A3 c3 l3 A4 c4 l4 A5 c5 l5 n _ w h3 g3 h4 g4 h5 g5 hk
theorem zj6 (a b c d : ByteArray) (w : World) : Calls Tryz.prog 106 #[.string a, .string b, .string c, .string d] w fun e w' => e = .returned (.bool (QF a b c d)) ∧ yx w w' := by
 refine Ym.calls a b c d _ w ?_
 unfold Ym.f QF
 by_cases h1 : Op.bytesLess a.toList c.toList = true
 ·rw [if_pos h1, h1, Bool.true_or]
 ·rw [if_neg h1]
  by_cases h2 : a.toList = c.toList
  ·rw [if_pos h2, (by simpa using h1 : Op.bytesLess a.toList c.toList = false), beq_iff_eq.2 h2, Bool.false_or, Bool.true_and]
  ·rw [if_neg h2, (by simpa using h1 : Op.bytesLess a.toList c.toList = false), beq_eq_false_iff_ne.2 h2, Bool.false_or, Bool.false_and]
theorem jm {w w' : World} (h : yx w w') : Below w.heap.size w w' := by
 obtain ⟨⟨n, rfl⟩⟩ := h
 exact zP (Below.refl _ _) n
end Go.Proofs.YtaifemkokfoadaaGreatDoor
namespace Go.Proofs.YtaifemkokfoadaaGreatDoor
open Go.RowKit Go.Shelf Go.Proofs.zy.zu Go.Proofs.zy.yD Go.Proofs.YtaifemkokfoadaaGreatDoor.PX
set_option linter.unusedSimpArgs false
set_option linter.unusedVariables false
theorem zj7 {w : World} {g : Nat} {ns : List ByteArray} {t : TypeId} (h : w.heap[g]? = some (.cells (ns.map Value.string).toArray t (0, 0))) (hn : ns.length ≤ 1000) : Kd.C Kd.string w (some ⟨g, 0, none⟩) ns.length ns := by
 refine ⟨rfl, by omega, fun _ => ⟨_, rfl, fun j p hj => ⟨[.string p], rfl, rfl, fun i u hi => ?_⟩⟩⟩
 rcases i with _ | i
 ·cases hi
  have hs : Kd.string.sz = 1 := rfl
  rw [Addr.add_lit, hs]
  refine xV h _ _ ?_
  simp [hj]
 ·simp at hi
def Pv (l3 : List qg) (x : xC) : Bool := !KF l3 [x.f0, x.f1, x.f2]
def VD (l3 : List qg) (x : vk) : Bool := decide (x.f2 = 0) || (decide (x.f2 < -500) || (decide (500 < x.f2) || !KF l3 [x.f0, x.f1]))
set_option maxRecDepth 100000 in
set_option maxHeartbeats 1000000 in
theorem zXq (B : Nat) (a : ByteArray) (b : Bool) (c : Int) (A3 : Option Addr) (c3 : Nat) (l3 : List qg) (A4 : Option Addr) (c4 : Nat) (l4 : List xC) (A5 : Option Addr) (c5 : Nat) (l5 : List vk) (g3 : l3.length ≤ c3) (g4 : l4.length ≤ c4) (g5 : l5.length ≤ c5) (hl3 : l3.length ≤ 1000000000) (w : World) (hF : Xm w B a b c A3 c3 l3 A4 c4 l4 A5 c5 l5) :
  PredBelow Tryz.prog 49 #[.pointer (some ⟨B, 0, none⟩)] (fun x => .agg (zxM x).toArray) (Pv l3) w := fun W x hb => by
 have hl := (Array.getElem?_eq_some_iff.1 hF.blk).1
 have Vj := hF.below hb
 have hlW : B < W.heap.size := Nat.lt_of_lt_of_le hl hb.size
 show Calls Tryz.prog 49 #[.agg #[.string x.f0, .string x.f1, .string x.f2], .pointer (some ⟨B, 0, none⟩)] W _
 have hbW : Below W.heap.size W ((W.alloc (.cells #[.string x.f0, .string x.f1, .string x.f2] 86)).alloc (.cells #[.string x.f0, .string x.f1, .string x.f2] 9)) := ((Below.refl _ W).alloc (Nat.le_refl _) _).alloc (by simp) _
 have hF2 := Vj.below hbW
 have hblk : ((W.alloc (.cells #[.string x.f0, .string x.f1, .string x.f2] 86)).alloc (.cells #[.string x.f0, .string x.f1, .string x.f2] 9)).heap[W.heap.size + 1]? = some (.cells (([x.f0, x.f1, x.f2].map Value.string).toArray) 9 (0, 0)) := by
  have := World.alloc_heap_new (W.alloc (.cells #[.string x.f0, .string x.f1, .string x.f2] 86)) (.cells #[.string x.f0, .string x.f1, .string x.f2] 9)
  rwa [World.size_alloc] at this
 have ha := zj5 a b c A3 c3 l3 A4 c4 l4 A5 c5 l5 _ 3 [x.f0, x.f1, x.f2] _ hF2.h3 g3 hF2.h4 g4 hF2.h5 g5 (zj7 hblk (by simp)) (by simp) hF2.gw hl3 (by simp)
 have k0 := xV Vj.blk 0 _ rfl
 have k1 := xV Vj.blk 1 _ rfl
 have k2 := xV Vj.blk 2 _ rfl
 have k3 := xV Vj.blk 3 _ rfl
 have k4 := xV Vj.blk 4 _ rfl
 have k5 := xV Vj.blk 5 _ rfl
 have hend := hb.trans (hbW.mono hb.size)
 unfold Pv
 generalize KF l3 [x.f0, x.f1, x.f2] = r at ha ⊢
 clear hF Vj hF2 hblk hb g3 g4 g5
 go_enter Tryz.func49, Tryz.ntmps49
 go_wp2_with (go_at_call 50; refine ha.mono ?_; rintro e w1 ⟨rfl, hb1⟩)
 go_ret
 exact ⟨rfl, hend.trans (hb1.mono hend.size)⟩
set_option maxRecDepth 100000 in
set_option maxHeartbeats 1000000 in
theorem zXx (B : Nat) (a : ByteArray) (b : Bool) (c : Int) (A3 : Option Addr) (c3 : Nat) (l3 : List qg) (A4 : Option Addr) (c4 : Nat) (l4 : List xC) (A5 : Option Addr) (c5 : Nat) (l5 : List vk) (g3 : l3.length ≤ c3) (g4 : l4.length ≤ c4) (g5 : l5.length ≤ c5) (hl3 : l3.length ≤ 1000000000) (w : World) (hF : Xm w B a b c A3 c3 l3 A4 c4 l4 A5 c5 l5) :
  PredBelow Tryz.prog 54 #[.pointer (some ⟨B, 0, none⟩)] (fun x => .agg (zxN x).toArray) (VD l3) w := fun W x hb => by
 have hl := (Array.getElem?_eq_some_iff.1 hF.blk).1
 have Vj := hF.below hb
 have hlW : B < W.heap.size := Nat.lt_of_lt_of_le hl hb.size
 show Calls Tryz.prog 54 #[.agg #[.string x.f0, .string x.f1, .int .i64 x.f2], .pointer (some ⟨B, 0, none⟩)] W _
 have hb1 : Below w.heap.size w (W.alloc (.cells #[.string x.f0, .string x.f1, .int .i64 x.f2] 76)) := hb.alloc hb.size _
 unfold VD
 by_cases q0 : x.f2 = 0
 ·have d0 : (x.f2 == 0) = true := beq_iff_eq.2 q0
  rw [decide_eq_true q0]
  clear q0 hF Vj
  go_enter Tryz.func54, Tryz.ntmps54
  go_wp2
  go_ret
  exact ⟨rfl, hb1⟩
 ·have d0 : (x.f2 == 0) = false := beq_eq_false_iff_ne.2 q0
  rw [decide_eq_false q0, Bool.false_or]
  clear q0
  by_cases q1 : x.f2 < -500
  ·have d1 : decide (x.f2 < -500) = true := decide_eq_true q1
   rw [d1]
   clear q1 hF Vj
   go_enter Tryz.func54, Tryz.ntmps54
   go_wp2
   go_ret
   exact ⟨rfl, hb1⟩
  ·have d1 : decide (x.f2 < -500) = false := decide_eq_false q1
   rw [d1, Bool.false_or]
   clear q1
   by_cases q2 : 500 < x.f2
   ·have d2 : decide (500 < x.f2) = true := decide_eq_true q2
    rw [d2]
    clear q2 hF Vj
    go_enter Tryz.func54, Tryz.ntmps54
    go_wp2
    go_ret
    exact ⟨rfl, hb1⟩
   ·have d2 : decide (500 < x.f2) = false := decide_eq_false q2
    rw [d2, Bool.false_or]
    clear q2
    have hbW : Below W.heap.size W ((W.alloc (.cells #[.string x.f0, .string x.f1, .int .i64 x.f2] 76)).alloc (.cells #[.string x.f0, .string x.f1] 9)) := ((Below.refl _ W).alloc (Nat.le_refl _) _).alloc (by simp) _
    have hF2 := Vj.below hbW
    have hblk : ((W.alloc (.cells #[.string x.f0, .string x.f1, .int .i64 x.f2] 76)).alloc (.cells #[.string x.f0, .string x.f1] 9)).heap[W.heap.size + 1]? = some (.cells (([x.f0, x.f1].map Value.string).toArray) 9 (0, 0)) := by
     have := World.alloc_heap_new (W.alloc (.cells #[.string x.f0, .string x.f1, .int .i64 x.f2] 76)) (.cells #[.string x.f0, .string x.f1] 9)
     rwa [World.size_alloc] at this
    have ha := zj5 a b c A3 c3 l3 A4 c4 l4 A5 c5 l5 _ 2 [x.f0, x.f1] _ hF2.h3 g3 hF2.h4 g4 hF2.h5 g5 (zj7 hblk (by simp)) (by simp) hF2.gw hl3 (by simp)
    have k0 := xV Vj.blk 0 _ rfl
    have k1 := xV Vj.blk 1 _ rfl
    have k2 := xV Vj.blk 2 _ rfl
    have k3 := xV Vj.blk 3 _ rfl
    have k4 := xV Vj.blk 4 _ rfl
    have k5 := xV Vj.blk 5 _ rfl
    have hend := hb.trans (hbW.mono hb.size)
    generalize KF l3 [x.f0, x.f1] = r at ha ⊢
    clear hF Vj hF2 hblk hb g3 g4 g5
    go_enter Tryz.func54, Tryz.ntmps54
    go_wp2_with (go_at_call 50; refine ha.mono ?_; rintro e w1 ⟨rfl, hb1⟩)
    go_ret
    exact ⟨rfl, hend.trans (hb1.mono hend.size)⟩
def qC (a : ByteArray) (c : Int) (l3 : List qg) (l4 : List xC) (l5 : List vk) : Bool :=
 if (!YL a.data.toList || (XF c || (decide (400 < l3.length) || (decide (50 < l4.length) || decide (500 < l5.length))))) = true then false
 else if (l3.any Jh || !ZU (fun i j => QN (xL l3 (i : Int)) (xL l3 (j : Int))) l3.length) = true then false
 else if (l4.any (Pv l3) || !ZU (fun i j => cmpL (uE l4 (i : Int)) (uE l4 (j : Int))) l4.length) = true then false
 else !l5.any (VD l3) && ZU (fun i j => Jg (jq l5 (i : Int)) (jq l5 (j : Int))) l5.length
set_option maxRecDepth 100000 in
set_option maxHeartbeats 4000000 in
theorem zZ8 (a : ByteArray) (b : Bool) (c : Int) (A3 : Option Addr) (c3 : Nat) (l3 : List qg) (A4 : Option Addr) (c4 : Nat) (l4 : List xC) (A5 : Option Addr) (c5 : Nat) (l5 : List vk) (g3 : l3.length ≤ c3) (g4 : l4.length ≤ c4) (g5 : l5.length ≤ c5) (hl3 : l3.length ≤ 1000000000) (hl4 : l4.length ≤ 1000000000) (hl5 : l5.length ≤ 1000000000) (w : World) (h3 : Kd.C uf w A3 l3.length l3) (h4 : Kd.C jd w A4 l4.length l4) (h5 : Kd.C jh w A5 l5.length l5) (hG : GW w) :
  Calls Tryz.prog 17 #[.agg #[.string a, .bool b, .int .i64 c, .slice A3 l3.length c3, .slice A4 l4.length c4, .slice A5 l5.length c5]] w fun e w' => e = .returned (.bool (qC a c l3 l4 l5)) ∧ Below w.heap.size w w' := by
 have hw1 : Below w.heap.size w ((w.alloc (.cells #[.string a, .bool b, .int .i64 c, .slice A3 l3.length c3, .slice A4 l4.length c4, .slice A5 l5.length c5] 26)).alloc (.cells #[.func (.func 40) #[] #[]] 87)) := ((Below.refl _ w).alloc (Nat.le_refl _) _).alloc (by simp) _
 have hblk : ((w.alloc (.cells #[.string a, .bool b, .int .i64 c, .slice A3 l3.length c3, .slice A4 l4.length c4, .slice A5 l5.length c5] 26)).alloc (.cells #[.func (.func 40) #[] #[]] 87)).heap[w.heap.size]? = some (.cells #[.string a, .bool b, .int .i64 c, .slice A3 l3.length c3, .slice A4 l4.length c4, .slice A5 l5.length c5] 26 (0, 0)) :=
  (Below.heap_alloc _ _ _ (by simp)).trans (World.alloc_heap_new w _)
 have bZ : ((w.alloc (.cells #[.string a, .bool b, .int .i64 c, .slice A3 l3.length c3, .slice A4 l4.length c4, .slice A5 l5.length c5] 26)).alloc (.cells #[.func (.func 40) #[] #[]] 87)).heap[w.heap.size + 1]? = some (.cells #[.func (.func 40) #[] #[]] 87 (0, 0)) := by
  have := World.alloc_heap_new (w.alloc (.cells #[.string a, .bool b, .int .i64 c, .slice A3 l3.length c3, .slice A4 l4.length c4, .slice A5 l5.length c5] 26)) (.cells #[.func (.func 40) #[] #[]] 87)
  rwa [World.size_alloc] at this
 have hF : Xm ((w.alloc (.cells #[.string a, .bool b, .int .i64 c, .slice A3 l3.length c3, .slice A4 l4.length c4, .slice A5 l5.length c5] 26)).alloc (.cells #[.func (.func 40) #[] #[]] 87)) w.heap.size a b c A3 c3 l3 A4 c4 l4 A5 c5 l5 := ⟨hblk, Kd.zY h3 hw1, Kd.zY h4 hw1, Kd.zY h5 hw1, hG.under hw1⟩
 have hfn := zqS a ((w.alloc (.cells #[.string a, .bool b, .int .i64 c, .slice A3 l3.length c3, .slice A4 l4.length c4, .slice A5 l5.length c5] 26)).alloc (.cells #[.func (.func 40) #[] #[]] 87))
 have hwd := fun W => zxO c W
 have hhG := fun W (hF : Xm W w.heap.size a b c A3 c3 l3 A4 c4 l4 A5 c5 l5) (hB : W.cell? ⟨w.heap.size + 1, 0, none⟩ = some (.func (.func 40) #[] #[])) => tH A3 c3 l3 W hF.h3 hl3 Jh 43 #[.pointer (some ⟨w.heap.size + 1, 0, none⟩)] (enters_of Tryz.func43 (by kernel_rfl) rfl) (zXz _ W hB)
 have haG := fun W (hF : Xm W w.heap.size a b c A3 c3 l3 A4 c4 l4 A5 c5 l5) => zQ1 A3 c3 l3 W hF.h3 hl3
 have hhL := fun W (hF : Xm W w.heap.size a b c A3 c3 l3 A4 c4 l4 A5 c5 l5) => zQ8 A4 c4 l4 W hF.h4 hl4 (Pv l3) 49 #[.pointer (some ⟨w.heap.size, 0, none⟩)] (enters_of Tryz.func49 (by kernel_rfl) rfl) (zXq _ a b c A3 c3 l3 A4 c4 l4 A5 c5 l5 g3 g4 g5 hl3 W hF)
 have haL := fun W (hF : Xm W w.heap.size a b c A3 c3 l3 A4 c4 l4 A5 c5 l5) => zQ5 A4 c4 l4 W hF.h4 hl4
 have hhK := fun W (hF : Xm W w.heap.size a b c A3 c3 l3 A4 c4 l4 A5 c5 l5) => zQ9 A5 c5 l5 W hF.h5 hl5 (VD l3) 54 #[.pointer (some ⟨w.heap.size, 0, none⟩)] (enters_of Tryz.func54 (by kernel_rfl) rfl) (zXx _ a b c A3 c3 l3 A4 c4 l4 A5 c5 l5 g3 g4 g5 hl3 W hF)
 have haK := fun W (hF : Xm W w.heap.size a b c A3 c3 l3 A4 c4 l4 A5 c5 l5) => zQ6 A5 c5 l5 W hF.h5 hl5
 generalize hR : qC a c l3 l4 l5 = R
 have HR := Lib.hid hR
 unfold qC at hR
 generalize YL a.data.toList = b1 at hfn hR
 generalize XF c = b2 at hwd hR
 generalize l3.any Jh = b6 at hhG hR
 generalize ZU (fun i j => QN (xL l3 (i : Int)) (xL l3 (j : Int))) l3.length = b7 at haG hR
 generalize l4.any (Pv l3) = b8 at hhL hR
 generalize ZU (fun i j => cmpL (uE l4 (i : Int)) (uE l4 (j : Int))) l4.length = b9 at haL hR
 generalize l5.any (VD l3) = b10 at hhK hR
 generalize ZU (fun i j => Jg (jq l5 (i : Int)) (jq l5 (j : Int))) l5.length = b11 at haK hR
 clear g3 g4 g5 h3 h4 h5 hG HR
 go_enter Tryz.func17, Tryz.ntmps17
 have HF0 := Lib.hid hF
 have K0 := Lib.hid (xV bZ 0 _ rfl)
 have HW0 := Lib.hid hw1
 have c0 := xV hblk 0 _ rfl
 have c2 := xV hblk 2 _ rfl
 have Ql := xV hblk 3 _ rfl
 have Qm := xV hblk 4 _ rfl
 have Qn := xV hblk 5 _ rfl
 clear hF hblk bZ hw1
 go_wp2_with fail
 generalize ((w.alloc (.cells #[.string a, .bool b, .int .i64 c, .slice A3 l3.length c3, .slice A4 l4.length c4, .slice A5 l5.length c5] 26)).alloc (.cells #[.func (.func 40) #[] #[]] 87)) = W0 at hfn HF0 K0 HW0 c0 c2 Ql Qm Qn ⊢
 refine hfn.mono ?_; rintro e W1 ⟨rfl, hb1⟩
 clear hfn c0 c2 Ql Qm Qn
 have HF1 := Lib.hid (HF0.out.below hb1)
 have K1 := Lib.hid ((hb1.cell (World.block_lt_of_cell? _ _ K0.out)).trans K0.out)
 have HW1 := Lib.hid (HW0.out.trans (hb1.mono HW0.out.size))
 clear hb1
 have c2 := xV HF1.out.blk 2 _ rfl
 have Ql := xV HF1.out.blk 3 _ rfl
 have Qm := xV HF1.out.blk 4 _ rfl
 have Qn := xV HF1.out.blk 5 _ rfl
 have cb := K1.out
 cases b1 with
 | false =>
  obtain rfl : false = R := by simpa using hR
  clear hR
  go_wp2_with fail
  go_ret
  exact ⟨rfl, HW1.out⟩
 | true =>
  go_wp2_with fail
  refine (hwd _).mono ?_; rintro e W1x ⟨rfl, hx⟩; subst hx
  cases b2 with
  | false =>
   by_cases q3 : 400 < l3.length
   ·have dq3 : decide ((400 : Int) < (l3.length : Int)) = true := decide_eq_true (by omega)
    rw [decide_eq_true q3] at hR
    clear q3
    obtain rfl : false = R := by simpa using hR
    clear hR
    go_wp2_with fail
    go_ret
    exact ⟨rfl, HW1.out⟩
   ·have dq3 : decide ((400 : Int) < (l3.length : Int)) = false := decide_eq_false (by omega)
    rw [decide_eq_false q3] at hR
    clear q3
    by_cases q4 : 50 < l4.length
    ·have dq4 : decide ((50 : Int) < (l4.length : Int)) = true := decide_eq_true (by omega)
     rw [decide_eq_true q4] at hR
     clear q4
     obtain rfl : false = R := by simpa using hR
     clear hR
     go_wp2_with fail
     go_ret
     exact ⟨rfl, HW1.out⟩
    ·have dq4 : decide ((50 : Int) < (l4.length : Int)) = false := decide_eq_false (by omega)
     rw [decide_eq_false q4] at hR
     clear q4
     by_cases q5 : 500 < l5.length
     ·have dq5 : decide ((500 : Int) < (l5.length : Int)) = true := decide_eq_true (by omega)
      rw [decide_eq_true q5] at hR
      clear q5
      obtain rfl : false = R := by simpa using hR
      clear hR
      go_wp2_with fail
      go_ret
      exact ⟨rfl, HW1.out⟩
     ·have dq5 : decide ((500 : Int) < (l5.length : Int)) = false := decide_eq_false (by omega)
      rw [decide_eq_false q5] at hR
      clear q5
      simp only [Bool.not_true, Bool.or_self, Bool.false_eq_true, if_false, Bool.or_false] at hR
      go_wp2_with fail
      refine (hhG _ HF1.out K1.out).mono ?_; rintro e W2 ⟨rfl, hb2⟩
      clear c2 Ql Qm Qn cb
      have HF2 := Lib.hid (HF1.out.below hb2)
      have K2 := Lib.hid ((hb2.cell (World.block_lt_of_cell? _ _ K1.out)).trans K1.out)
      have HW2 := Lib.hid (HW1.out.trans (hb2.mono HW1.out.size))
      clear hb2
      have c2 := xV HF2.out.blk 2 _ rfl
      have Ql := xV HF2.out.blk 3 _ rfl
      have Qm := xV HF2.out.blk 4 _ rfl
      have Qn := xV HF2.out.blk 5 _ rfl
      have cb := K2.out
      cases b6 with
      | false =>
       go_wp2_with fail
       refine (haG _ HF2.out).mono ?_; rintro e W3 ⟨rfl, hb3⟩
       clear c2 Ql Qm Qn cb
       have HF3 := Lib.hid (HF2.out.below hb3)
       have K3 := Lib.hid ((hb3.cell (World.block_lt_of_cell? _ _ K2.out)).trans K2.out)
       have HW3 := Lib.hid (HW2.out.trans (hb3.mono HW2.out.size))
       clear hb3
       have c2 := xV HF3.out.blk 2 _ rfl
       have Ql := xV HF3.out.blk 3 _ rfl
       have Qm := xV HF3.out.blk 4 _ rfl
       have Qn := xV HF3.out.blk 5 _ rfl
       have cb := K3.out
       cases b7 with
       | false =>
        obtain rfl : false = R := by simpa using hR
        clear hR
        go_wp2_with fail
        go_ret
        exact ⟨rfl, HW3.out⟩
       | true =>
        go_wp2_with fail
        refine (hhL _ HF3.out).mono ?_; rintro e W4 ⟨rfl, hb4⟩
        clear c2 Ql Qm Qn cb
        have HF4 := Lib.hid (HF3.out.below hb4)
        have K4 := Lib.hid ((hb4.cell (World.block_lt_of_cell? _ _ K3.out)).trans K3.out)
        have HW4 := Lib.hid (HW3.out.trans (hb4.mono HW3.out.size))
        clear hb4
        have c2 := xV HF4.out.blk 2 _ rfl
        have Ql := xV HF4.out.blk 3 _ rfl
        have Qm := xV HF4.out.blk 4 _ rfl
        have Qn := xV HF4.out.blk 5 _ rfl
        have cb := K4.out
        cases b8 with
        | false =>
         go_wp2_with fail
         refine (haL _ HF4.out).mono ?_; rintro e W5 ⟨rfl, hb5⟩
         clear c2 Ql Qm Qn cb
         have HF5 := Lib.hid (HF4.out.below hb5)
         have K5 := Lib.hid ((hb5.cell (World.block_lt_of_cell? _ _ K4.out)).trans K4.out)
         have HW5 := Lib.hid (HW4.out.trans (hb5.mono HW4.out.size))
         clear hb5
         have c2 := xV HF5.out.blk 2 _ rfl
         have Ql := xV HF5.out.blk 3 _ rfl
         have Qm := xV HF5.out.blk 4 _ rfl
         have Qn := xV HF5.out.blk 5 _ rfl
         have cb := K5.out
         cases b9 with
         | false =>
          obtain rfl : false = R := by simpa using hR
          clear hR
          go_wp2_with fail
          go_ret
          exact ⟨rfl, HW5.out⟩
         | true =>
          go_wp2_with fail
          refine (hhK _ HF5.out).mono ?_; rintro e W6 ⟨rfl, hb6⟩
          clear c2 Ql Qm Qn cb
          have HF6 := Lib.hid (HF5.out.below hb6)
          have K6 := Lib.hid ((hb6.cell (World.block_lt_of_cell? _ _ K5.out)).trans K5.out)
          have HW6 := Lib.hid (HW5.out.trans (hb6.mono HW5.out.size))
          clear hb6
          have c2 := xV HF6.out.blk 2 _ rfl
          have Ql := xV HF6.out.blk 3 _ rfl
          have Qm := xV HF6.out.blk 4 _ rfl
          have Qn := xV HF6.out.blk 5 _ rfl
          have cb := K6.out
          cases b10 with
          | false =>
           go_wp2_with fail
           refine (haK _ HF6.out).mono ?_; rintro e W7 ⟨rfl, hb7⟩
           clear c2 Ql Qm Qn cb
           have HF7 := Lib.hid (HF6.out.below hb7)
           have K7 := Lib.hid ((hb7.cell (World.block_lt_of_cell? _ _ K6.out)).trans K6.out)
           have HW7 := Lib.hid (HW6.out.trans (hb7.mono HW6.out.size))
           clear hb7
           obtain rfl : b11 = R := by simpa using hR
           clear hR
           go_wp2_with fail
           go_ret
           exact ⟨rfl, HW7.out⟩
          | true =>
           obtain rfl : false = R := by simpa using hR
           clear hR
           go_wp2_with fail
           go_ret
           exact ⟨rfl, HW6.out⟩
        | true =>
         obtain rfl : false = R := by simpa using hR
         clear hR
         go_wp2_with fail
         go_ret
         exact ⟨rfl, HW4.out⟩
      | true =>
       obtain rfl : false = R := by simpa using hR
       clear hR
       go_wp2_with fail
       go_ret
       exact ⟨rfl, HW2.out⟩
  | true =>
   obtain rfl : false = R := by simpa using hR
   clear hR
   go_wp2_with fail
   go_ret
   exact ⟨rfl, HW1.out⟩
def jV.f (zG : ByteArray) (_ : Bool) (zC : Int) (ze : List qg) (zn : List xC) (zm : List vk) : Option Bool := if ze.length ≤ 1000000000 ∧ zn.length ≤ 1000000000 ∧ zm.length ≤ 1000000000 then some (qC zG zC ze zn zm) else none
theorem jV.calls (zG : ByteArray) (zH : Bool) (zC : Int) (yG : Option Addr) (yH : Nat) (ze : List qg) (yM : Option Addr) (yN : Nat) (zn : List xC) (yO : Option Addr) (yP : Nat) (zm : List vk) (r : Bool) (w : World) (vS : Kd.C uf w yG ze.length ze) (uP : ze.length ≤ yH) (uR : Kd.C jd w yM zn.length zn) (uS : zn.length ≤ yN) (uT : Kd.C jh w yO zm.length zm) (uU : zm.length ≤ yP) (hG : GW w) (h : jV.f zG zH zC ze zn zm = some r) :
  Calls Tryz.prog 17 #[.agg #[.string zG, .bool zH, .int .i64 zC, .slice yG ze.length yH, .slice yM zn.length yN, .slice yO zm.length yP]] w fun e w' => e = .returned (.bool r) ∧ Below w.heap.size w w' := by
 unfold jV.f at h
 split at h
 ·rename_i hl
  obtain rfl := Option.some.inj h
  exact zZ8 zG zH zC yG yH ze yM yN zn yO yP zm uP uS uU hl.1 hl.2.1 hl.2.2 w vS uR uT hG
 ·cases h
end Go.Proofs.YtaifemkokfoadaaGreatDoor
namespace Go.Proofs.YtaifemkokfoadaaGreatDoor
open Go.RowKit Go.Proofs.zy.zu Go.Proofs.zy.yD Go.Proofs.YtaifemkokfoadaaGreatDoor.PX
set_option linter.unusedSimpArgs false
set_option linter.unusedVariables false
theorem JZ (a b : ByteArray) : Op.bytesLess a.toList b.toList = true ↔ a.toList < b.toList := by rw [Go.Proofs.bytesLess_eq]; exact decide_eq_true_iff
theorem QO {a b : ByteArray} : uF a b < 0 ↔ a.toList < b.toList := by
 rw [← JZ]
 unfold uF
 by_cases h1 : Op.bytesLess a.toList b.toList = true
 ·simp [h1]
 ·by_cases h2 : Op.bytesLess b.toList a.toList = true <;> simp [h1, h2]
theorem U5 {a b : ByteArray} : a.toList = b.toList ↔ a = b := by
 constructor
 ·intro h
  rw [Lib.toList_data, Lib.toList_data] at h
  exact ByteArray.ext (Array.toList_inj.1 h)
 ·rintro rfl
  rfl
theorem mK (a : ByteArray) : uF a a = 0 := by
 unfold uF
 have h : ¬ Op.bytesLess a.toList a.toList = true := by rw [JZ]; exact List.lt_irrefl _
 rw [if_neg h, if_neg h]
theorem zqF {a b : ByteArray} : uF a b = 0 ↔ a = b := by
 constructor
 ·intro h
  unfold uF at h
  by_cases h1 : Op.bytesLess a.toList b.toList = true
  ·rw [if_pos h1] at h; cases h
  ·rw [if_neg h1] at h
   by_cases h2 : Op.bytesLess b.toList a.toList = true
   ·rw [if_pos h2] at h; cases h
   ·rw [JZ] at h1 h2
    exact U5.1 (List.le_antisymm (List.not_lt.1 h2) (List.not_lt.1 h1))
 ·rintro rfl
  exact mK a
theorem KG (l : List qg) (i : Nat) (h : i < l.length) : xL l (i : Int) = l[i] := by simp [xL, List.getD_eq_getElem?_getD, h]
def Asc (l : List qg) : Prop := ∀ (i j : Nat) (hi : i < l.length) (hj : j < l.length), i < j → l[i].f0.toList < l[j].f0.toList
theorem zZ9 {l : List qg} (h : ZU (fun i j => QN (xL l (i : Int)) (xL l (j : Int))) l.length = true) : Asc l := by
 have h1 : ∀ (i : Nat) (hi : i + 1 < l.length), l[i].f0.toList < l[i + 1].f0.toList := by
  intro i hi
  have h2 := List.all_eq_true.1 h i (List.mem_range.2 (by omega))
  rw [decide_eq_true_iff] at h2
  have h2 : QN (xL l (i : Int)) (xL l ((i + 1 : Nat) : Int)) < 0 := h2
  rw [KG l i (by omega), KG l (i + 1) hi] at h2
  exact QO.1 h2
 have h3 : ∀ (d i : Nat) (hi : i + d + 1 < l.length), l[i].f0.toList < l[i + d + 1].f0.toList := by
  intro d
  induction d with
  | zero => intro i hi; exact h1 i hi
  | succ d ih => intro i hi; exact List.lt_trans (ih i (by omega)) (h1 (i + d + 1) hi)
 intro i j hi hj hij
 have h4 := h3 (j - i - 1) i (by omega)
 have e : i + (j - i - 1) + 1 = j := by omega
 simpa only [e] using h4
theorem zXj (l : List qg) (n : ByteArray) (ha : Asc l) (i j : Nat) (hij : i ≤ j) (hj : j ≤ l.length) (h1 : ∀ (m : Nat) (hm : m < l.length), m < i → l[m].f0.toList < n.toList) (h2 : ∀ (m : Nat) (hm : m < l.length), j ≤ m → ¬ l[m].f0.toList < n.toList) :
  (∀ (m : Nat) (hm : m < l.length), m < Jw l n i j → l[m].f0.toList < n.toList) ∧ (∀ (m : Nat) (hm : m < l.length), Jw l n i j ≤ m → ¬ l[m].f0.toList < n.toList) := by
 fun_induction Jw l n i j with
 | case1 i j hlt hc ih =>
  have hm : (i + j) / 2 < l.length := by omega
  rw [KG l _ hm, QO] at hc
  refine ih (by omega) hj (fun m hml hmi => ?_) h2
  by_cases he : m = (i + j) / 2
  ·subst he; exact hc
  ·exact List.lt_trans (ha m _ hml hm (by omega)) hc
 | case2 i j hlt hc ih =>
  have hm : (i + j) / 2 < l.length := by omega
  rw [KG l _ hm, QO] at hc
  refine ih (by omega) (by omega) h1 (fun m hml hmi hlt' => ?_)
  by_cases he : m = (i + j) / 2
  ·subst he; exact hc hlt'
  ·exact hc (List.lt_trans (ha _ m hm hml (by omega)) hlt')
 | case3 i j hlt =>
  obtain rfl : i = j := by omega
  exact ⟨h1, h2⟩
theorem zj8 (l : List qg) (ha : Asc l) (m : Nat) (hm : m < l.length) : YF l l[m].f0 = ((m : Int), true) := by
 obtain ⟨h1, h2⟩ := zXj l l[m].f0 ha 0 l.length (Nat.zero_le _) (Nat.le_refl _) (fun m _ h => absurd h (Nat.not_lt_zero _)) (fun m hm h => absurd hm (by omega))
 have e : Jw l l[m].f0 0 l.length = m := by
  rcases Nat.lt_trichotomy (Jw l l[m].f0 0 l.length) m with h | h | h
  ·exact absurd (ha _ m (by omega) hm h) (h2 _ (by omega) (Nat.le_refl _))
  ·exact h
  ·exact absurd (h1 m hm h) (List.lt_irrefl _)
 unfold YF
 simp only [e, decide_eq_true hm, Bool.true_and, KG l m hm]
 rw [mK]
 rfl
theorem zj9 (l : List qg) (n : ByteArray) (h : ∀ x ∈ l, x.f0 ≠ n) : (YF l n).2 = false := by
 unfold YF
 simp only
 by_cases hi : Jw l n 0 l.length < l.length
 ·rw [KG l _ hi]
  have : ¬ uF l[Jw l n 0 l.length].f0 n = 0 := fun e => h _ (List.getElem_mem hi) (zqF.1 e)
  rw [decide_eq_false this, Bool.and_false]
 ·rw [decide_eq_false hi, Bool.false_and]
theorem zxP (l : List qg) (ha : Asc l) (n : ByteArray) : (YF l n).2 = l.any fun x => decide (x.f0 = n) := by
 by_cases h : ∃ x ∈ l, x.f0 = n
 ·obtain ⟨x, hx, rfl⟩ := h
  obtain ⟨m, hm, rfl⟩ := List.getElem_of_mem hx
  rw [zj8 l ha m hm]
  exact (List.any_eq_true.2 ⟨_, hx, by simp⟩).symm
 ·rw [zj9 l n (fun x hx e => h ⟨x, hx, e⟩)]
  refine (List.any_eq_false.2 fun x hx => ?_).symm
  simpa using fun e => h ⟨x, hx, e⟩
end Go.Proofs.YtaifemkokfoadaaGreatDoor
namespace Go.Proofs.YtaifemkokfoadaaGreatDoor
open Go.RowKit Go.Proofs.zy.zu Go.Proofs.zy.yI Go.Proofs.zy.yD Go.Proofs.YtaifemkokfoadaaGreatDoor.PX
set_option linter.unusedSimpArgs false
set_option linter.unusedVariables false
abbrev Pk : Array Value := #[.string (⟨#[]⟩ : ByteArray), .bool false, .int .i64 0, .slice none 0 0, .slice none 0 0, .slice none 0 0]
structure XS {α β γ : Type} (dA : Kd α) (eA : TypeId) (dB : Kd β) (eB : TypeId) (dC : Kd γ) (eC : TypeId) (tF tX : TypeId) (w : World) (gf gr gx : Nat) (CF : Array Value) (a : ByteArray) (b : Bool) (c : Int) (v3 v4 v5 : Value) (m3 : List α) (m4 : List β) (m5 : List γ) (W : World) : Prop where
 bf : W.heap[gf]? = some (.cells CF tF (0, 0))
 br : W.heap[gr]? = some (.cells Pk tX (0, 0))
 bx : W.heap[gx]? = some (.cells #[.string a, .bool b, .int .i64 c, v3, v4, v5] tX (0, 0))
 r3 : dA.R eA W w.heap.size (fun _ => True) v3 m3
 r4 : dB.R eB W w.heap.size (fun _ => True) v4 m4
 r5 : dC.R eC W w.heap.size (fun _ => True) v5 m5
 hb : Below w.heap.size w W
 nf : gf ≠ gx
 nr : gr ≠ gx
 ge : w.heap.size ≤ gx
section
variable {α β γ : Type} {dA : Kd α} {eA : TypeId} {dB : Kd β} {eB : TypeId} {dC : Kd γ} {eC tF tX : TypeId} {w : World} {gf gr gx : Nat} {CF : Array Value} {a : ByteArray} {b : Bool} {c : Int} {v3 v4 v5 : Value} {m3 : List α} {m4 : List β} {m5 : List γ} {W : World}
theorem XS.mv {W' : World} (h : XS dA eA dB eB dC eC tF tX w gf gr gx CF a b c v3 v4 v5 m3 m4 m5 W) (k : Below W.heap.size W W') : XS dA eA dB eB dC eC tF tX w gf gr gx CF a b c v3 v4 v5 m3 m4 m5 W' :=
 ⟨zl h.bf k, zl h.br k, zl h.bx k, Kd.qz h.r3 k, Kd.qz h.r4 k, Kd.qz h.r5 k, h.hb.trans (k.mono h.hb.size), h.nf, h.nr, h.ge⟩
theorem XS.zY5 {W1 : World} {v : Value} {m : List α} (h : XS dA eA dB eB dC eC tF tX w gf gr gx CF a b c v3 v4 v5 m3 m4 m5 W) (hg : W.grownBy W1 v3.ownBlock) (ho : dA.R eA W1 w.heap.size (fun _ => True) v m) (hb : Below w.heap.size w W1)
  (t1 : eA ≠ tF) (t2 : ∀ q, q ∈ eA :: dA.E → q ≠ tX) (t3 : ∀ q, q ∈ eB :: dB.E → q ≠ eA) (t4 : ∀ q, q ∈ eC :: dC.E → q ≠ eA) (t5 : ∀ q, q ∈ eB :: dB.E → q ≠ tX) (t6 : ∀ q, q ∈ eC :: dC.E → q ≠ tX) :
  XS dA eA dB eB dC eC tF tX w gf gr gx CF a b c v v4 v5 m m4 m5 (W1.setCell ⟨gx, 3, none⟩ v) := by
 have tX' : eA ≠ tX := t2 _ List.mem_cons_self
 have b1 := qQ h.bx hg (Kd.kE h.r3 h.bx tX')
 exact ⟨zO (qQ h.bf hg (Kd.kE h.r3 h.bf t1)) h.nf _, zO (qQ h.br hg (Kd.kE h.r3 h.br tX')) h.nr _, yC b1 3 _ rfl, Kd.YV ho b1 t2 3 _, Kd.YV (Kd.Yd h.r4 (Kd.kN h.r3) t3 hg) b1 t5 3 _, Kd.YV (Kd.Yd h.r5 (Kd.kN h.r3) t4 hg) b1 t6 3 _, hb.setCell h.ge _, h.nf, h.nr, h.ge⟩
theorem XS.zY6 {W1 : World} {v : Value} {m : List β} (h : XS dA eA dB eB dC eC tF tX w gf gr gx CF a b c v3 v4 v5 m3 m4 m5 W) (hg : W.grownBy W1 v4.ownBlock) (ho : dB.R eB W1 w.heap.size (fun _ => True) v m) (hb : Below w.heap.size w W1)
  (t1 : eB ≠ tF) (t2 : ∀ q, q ∈ eB :: dB.E → q ≠ tX) (t3 : ∀ q, q ∈ eA :: dA.E → q ≠ eB) (t4 : ∀ q, q ∈ eC :: dC.E → q ≠ eB) (t5 : ∀ q, q ∈ eA :: dA.E → q ≠ tX) (t6 : ∀ q, q ∈ eC :: dC.E → q ≠ tX) :
  XS dA eA dB eB dC eC tF tX w gf gr gx CF a b c v3 v v5 m3 m m5 (W1.setCell ⟨gx, 4, none⟩ v) := by
 have tX' : eB ≠ tX := t2 _ List.mem_cons_self
 have b1 := qQ h.bx hg (Kd.kE h.r4 h.bx tX')
 exact ⟨zO (qQ h.bf hg (Kd.kE h.r4 h.bf t1)) h.nf _, zO (qQ h.br hg (Kd.kE h.r4 h.br tX')) h.nr _, yC b1 4 _ rfl, Kd.YV (Kd.Yd h.r3 (Kd.kN h.r4) t3 hg) b1 t5 4 _, Kd.YV ho b1 t2 4 _, Kd.YV (Kd.Yd h.r5 (Kd.kN h.r4) t4 hg) b1 t6 4 _, hb.setCell h.ge _, h.nf, h.nr, h.ge⟩
theorem XS.zY7 {W1 : World} {v : Value} {m : List γ} (h : XS dA eA dB eB dC eC tF tX w gf gr gx CF a b c v3 v4 v5 m3 m4 m5 W) (hg : W.grownBy W1 v5.ownBlock) (ho : dC.R eC W1 w.heap.size (fun _ => True) v m) (hb : Below w.heap.size w W1)
  (t1 : eC ≠ tF) (t2 : ∀ q, q ∈ eC :: dC.E → q ≠ tX) (t3 : ∀ q, q ∈ eA :: dA.E → q ≠ eC) (t4 : ∀ q, q ∈ eB :: dB.E → q ≠ eC) (t5 : ∀ q, q ∈ eA :: dA.E → q ≠ tX) (t6 : ∀ q, q ∈ eB :: dB.E → q ≠ tX) :
  XS dA eA dB eB dC eC tF tX w gf gr gx CF a b c v3 v4 v m3 m4 m (W1.setCell ⟨gx, 5, none⟩ v) := by
 have tX' : eC ≠ tX := t2 _ List.mem_cons_self
 have b1 := qQ h.bx hg (Kd.kE h.r5 h.bx tX')
 exact ⟨zO (qQ h.bf hg (Kd.kE h.r5 h.bf t1)) h.nf _, zO (qQ h.br hg (Kd.kE h.r5 h.br tX')) h.nr _, yC b1 5 _ rfl, Kd.YV (Kd.Yd h.r3 (Kd.kN h.r5) t3 hg) b1 t5 5 _, Kd.YV (Kd.Yd h.r4 (Kd.kN h.r5) t4 hg) b1 t6 5 _, Kd.YV ho b1 t2 5 _, hb.setCell h.ge _, h.nf, h.nr, h.ge⟩
end
abbrev six (W : World) (g : Nat) (u0 u1 u2 u3 u4 u5 : Value) : World := (((((W.setCell ⟨g, 0, none⟩ u0).setCell ⟨g, 1, none⟩ u1).setCell ⟨g, 2, none⟩ u2).setCell ⟨g, 3, none⟩ u3).setCell ⟨g, 4, none⟩ u4).setCell ⟨g, 5, none⟩ u5
theorem zvz {W : World} {g t : Nat} (h : W.heap[g]? = some (.cells Pk t (0, 0))) (u0 u1 u2 u3 u4 u5 : Value) : (six W g u0 u1 u2 u3 u4 u5).heap[g]? = some (.cells #[u0, u1, u2, u3, u4, u5] t (0, 0)) :=
 yC (yC (yC (yC (yC (yC (cs' := #[u0, .bool false, .int .i64 0, .slice none 0 0, .slice none 0 0, .slice none 0 0]) h 0 _ rfl) (cs' := #[u0, u1, .int .i64 0, .slice none 0 0, .slice none 0 0, .slice none 0 0]) 1 _ rfl)
  (cs' := #[u0, u1, u2, .slice none 0 0, .slice none 0 0, .slice none 0 0]) 2 _ rfl) (cs' := #[u0, u1, u2, u3, .slice none 0 0, .slice none 0 0]) 3 _ rfl) (cs' := #[u0, u1, u2, u3, u4, .slice none 0 0]) 4 _ rfl) 5 _ rfl
theorem nG {α : Type} {d : Kd α} {e t g : Nat} {W : World} {B : Nat} {cs : Array Value} {v : Value} {xs : List α} (h : d.R e W B (fun _ => True) v xs) (hb : W.heap[g]? = some (.cells cs t (0, 0))) (ht : ∀ q, q ∈ e :: d.E → q ≠ t) (u0 u1 u2 u3 u4 u5 : Value) :
  d.R e (six W g u0 u1 u2 u3 u4 u5) B (fun _ => True) v xs :=
 Kd.zL (Kd.yK (p := ⟨g, 5, none⟩) (Kd.yK (p := ⟨g, 4, none⟩) (Kd.yK (p := ⟨g, 3, none⟩) (Kd.yK (p := ⟨g, 2, none⟩) (Kd.yK (p := ⟨g, 1, none⟩) (Kd.yK (p := ⟨g, 0, none⟩) (Kd.zi h hb ht) (fun _ hk => hk.2) u0) (fun _ hk => hk.2) u1) (fun _ hk => hk.2) u2) (fun _ hk => hk.2) u3) (fun _ hk => hk.2) u4) (fun _ hk => hk.2) u5) (fun _ _ => trivial)
theorem zqG {W0 W : World} {B g : Nat} (h : Below B W0 W) (hg : B ≤ g) (u0 u1 u2 u3 u4 u5 : Value) : Below B W0 (six W g u0 u1 u2 u3 u4 u5) :=
 (((((h.setCell hg _).setCell hg _).setCell hg _).setCell hg _).setCell hg _).setCell hg _
theorem Vv {α β : Type} (f : α → β) (l : List α) (i : Nat) (x : α) (h : l[i]? = some x) : (l.take (i + 1)).map f = (l.take i).map f ++ [f x] := by rw [List.take_add_one, h]; simp
end Go.Proofs.YtaifemkokfoadaaGreatDoor
namespace Go.Proofs.YtaifemkokfoadaaGreatDoor
open Go.RowKit Go.Proofs.zy.zu Go.Proofs.zy.yI Go.Proofs.zy.yD Go.Proofs.YtaifemkokfoadaaGreatDoor.PX
set_option linter.unusedSimpArgs false
set_option linter.unusedVariables false
def uJ (x : qg) : zo := ⟨x.f0, x.f1⟩
def Xq.T5 : Bool × List (List Nat × List Nat) := (true, [([], []), ([0], [0]), ([], []), ([2], [2]), ([], []), ([3, 4], [3, 4]), ([5], [5]), ([6], [6]), ([], []), ([8], [8]), ([], []), ([9, 10], [9, 10]), ([11], [11]), ([12], [12]), ([7, 13], [7, 13]), ([14], [14]), ([1, 15], [1, 15]), ([0, 1, 2, 3, 4, 5, 6, 7, 8, 9, 10, 11, 12, 13, 14, 15, 16], []), ([17, 16, 16, 0, 1, 2, 3, 4, 5, 6, 7, 8, 9, 10, 11, 12, 13, 14, 15, 16], [16, 17])])
def Xq.B5 : List Nat := [0, 1, 0, 4, 0, 28, 60, 124, 0, 256, 0, 1792, 3840, 7936, 16380, 32764, 65535, 131071, 262143]
theorem Xq.dX : u6 .any (opsOf Tryz.f16 5) = Xq.T5 := by kernel_rfl
theorem Xq.dJ : jM Xq.T5.2 Xq.B5 = true := by kernel_rfl
def jk (x : xC) : qF := ⟨x.f0, x.f1, x.f2⟩
def Xq.T9 : Bool × List (List Nat × List Nat) := (true, [([], []), ([0], [0]), ([], []), ([2], [2]), ([], []), ([3, 4], [3, 4]), ([5], [5]), ([6], [6]), ([], []), ([8], [8]), ([], []), ([9, 10], [9, 10]), ([11], [11]), ([12], [12]), ([], []), ([14], [14]), ([], []), ([15, 16], [15, 16]), ([17], [17]), ([18], [18]), ([7, 13, 19], [7, 13, 19]), ([20], [20]), ([1, 21], [1, 21]), ([0, 1, 2, 3, 4, 5, 6, 7, 8, 9, 10, 11, 12, 13, 14, 15, 16, 17, 18, 19, 20, 21, 22], []), ([23, 22, 22, 0, 1, 2, 3, 4, 5, 6, 7, 8, 9, 10, 11, 12, 13, 14, 15, 16, 17, 18, 19, 20, 21, 22], [22, 23])])
def Xq.B9 : List Nat := [0, 1, 0, 4, 0, 28, 60, 124, 0, 256, 0, 1792, 3840, 7936, 0, 16384, 0, 114688, 245760, 507904, 1048572, 2097148, 4194303, 8388607, 16777215]
theorem Xq.zXv : u6 .any (opsOf Tryz.f16 9) = Xq.T9 := by kernel_rfl
theorem Xq.zwj : jM Xq.T9.2 Xq.B9 = true := by kernel_rfl
def uL (x : vk) : qG := ⟨x.f0, x.f1, x.f2⟩
def Xq.T13 : Bool × List (List Nat × List Nat) := (true, [([], []), ([0], [0]), ([], []), ([2], [2]), ([], []), ([3, 4], [3, 4]), ([5], [5]), ([6], [6]), ([], []), ([8], [8]), ([], []), ([9, 10], [9, 10]), ([11], [11]), ([12], [12]), ([], []), ([14], [14]), ([], []), ([15, 16], [15, 16]), ([17], [17]), ([18], [18]), ([7, 13, 19], [7, 13, 19]), ([20], [20]), ([1, 21], [1, 21]), ([0, 1, 2, 3, 4, 5, 6, 7, 8, 9, 10, 11, 12, 13, 14, 15, 16, 17, 18, 19, 20, 21, 22], []), ([23, 22, 22, 0, 1, 2, 3, 4, 5, 6, 7, 8, 9, 10, 11, 12, 13, 14, 15, 16, 17, 18, 19, 20, 21, 22], [22, 23])])
def Xq.B13 : List Nat := [0, 1, 0, 4, 0, 28, 60, 124, 0, 256, 0, 1792, 3840, 7936, 0, 16384, 0, 114688, 245760, 507904, 1048572, 2097148, 4194303, 8388607, 16777215]
theorem Xq.QY : u6 .any (opsOf Tryz.f16 13) = Xq.T13 := by kernel_rfl
theorem Xq.YM : jM Xq.T13.2 Xq.B13 = true := by kernel_rfl
set_option maxRecDepth 100000 in
set_option maxHeartbeats 8000000 in
theorem zVf (a : ByteArray) (b : Bool) (c : Int) (A3 : Option Addr) (c3 : Nat) (l3 : List qg) (A4 : Option Addr) (c4 : Nat) (l4 : List xC) (A5 : Option Addr) (c5 : Nat) (l5 : List vk) (w : World) (h3 : Kd.C uf w A3 l3.length l3) (h4 : Kd.C jd w A4 l4.length l4) (h5 : Kd.C jh w A5 l5.length l5) (hl3 : l3.length ≤ 1000000) (hl4 : l4.length ≤ 1000000) (hl5 : l5.length ≤ 1000000) :
  Calls Tryz.prog 16 #[.agg #[.string a, .bool b, .int .i64 c, .slice A3 l3.length c3, .slice A4 l4.length c4, .slice A5 l5.length c5]] w fun e w' => ∃ WA WB WC : Value, e = .returned (.agg #[.string a, .bool b, .int .i64 c, WA, WB, WC]) ∧ Kd.R qJ 81 w' w.heap.size (fun _ => True) WA (l3.map uJ) ∧ Kd.R jC 83 w' w.heap.size (fun _ => True) WB (l4.map jk) ∧ Kd.R jS 84 w' w.heap.size (fun _ => True) WC (l5.map uL) ∧ Below w.heap.size w w' := by
 have hu1 := Tryz.underlying26
 have hu2 := Tryz.underlying44
 have H3 := zx.mk h3
 have H4 := zx.mk h4
 have H5 := zx.mk h5
 clear h3 h4 h5
 have X0 : XS qJ 81 jC 83 jS 84 26 44 w w.heap.size (w.heap.size + 1) (w.heap.size + 2) #[.string a, .bool b, .int .i64 c, .slice A3 l3.length c3, .slice A4 l4.length c4, .slice A5 l5.length c5] a b c (.slice none 0 0) (.slice none 0 0) (.slice none 0 0) [] [] [] (((w.alloc (.cells #[.string a, .bool b, .int .i64 c, .slice A3 l3.length c3, .slice A4 l4.length c4, .slice A5 l5.length c5] 26)).alloc (.cells Pk 44)).alloc (.cells #[.string a, .bool b, .int .i64 c, .slice none 0 0, .slice none 0 0, .slice none 0 0] 44)) := by
  have e1 : (w.alloc (.cells #[.string a, .bool b, .int .i64 c, .slice A3 l3.length c3, .slice A4 l4.length c4, .slice A5 l5.length c5] 26)).heap.size = w.heap.size + 1 := by simp
  have e2 : ((w.alloc (.cells #[.string a, .bool b, .int .i64 c, .slice A3 l3.length c3, .slice A4 l4.length c4, .slice A5 l5.length c5] 26)).alloc (.cells Pk 44)).heap.size = w.heap.size + 2 := by simp
  refine ⟨zZ (zZ (je _ _) _) _, ?_, ?_, Kd.ku _ _ _ _ _, Kd.ku _ _ _ _ _, Kd.ku _ _ _ _ _, (((Below.refl _ w).alloc (Nat.le_refl _) _).alloc (by simp) _).alloc (by rw [e2]; omega) _, by omega, by omega, by omega⟩
  ·have := zZ (je (w.alloc (.cells #[.string a, .bool b, .int .i64 c, .slice A3 l3.length c3, .slice A4 l4.length c4, .slice A5 l5.length c5] 26)) (.cells Pk 44)) (.cells #[.string a, .bool b, .int .i64 c, .slice none 0 0, .slice none 0 0, .slice none 0 0] 44)
   rwa [e1] at this
  ·have := je ((w.alloc (.cells #[.string a, .bool b, .int .i64 c, .slice A3 l3.length c3, .slice A4 l4.length c4, .slice A5 l5.length c5] 26)).alloc (.cells Pk 44)) (.cells #[.string a, .bool b, .int .i64 c, .slice none 0 0, .slice none 0 0, .slice none 0 0] 44)
   rwa [e2] at this
 go_enter Tryz.func16, Tryz.ntmps16
 go_wp2
 go_loopw [4] (fun y W => ∃ (i : Nat) (u : Value), y = .int .i64 (i : Int) ∧ i ≤ l3.length ∧ zx (XS qJ 81 jC 83 jS 84 26 44 w w.heap.size (w.heap.size + 1) (w.heap.size + 2) #[.string a, .bool b, .int .i64 c, .slice A3 l3.length c3, .slice A4 l4.length c4, .slice A5 l5.length c5] a b c u (.slice none 0 0) (.slice none 0 0) ((l3.take i).map uJ) [] [] W)) (fun y _ => l3.length - (intOf y).toNat)
 case atStart => exact ⟨0, .slice none 0 0, rfl, Nat.zero_le _, ⟨X0⟩⟩
 case round =>
  obtain ⟨i, u, rfl, hi, HX⟩ := hrel
  have X := HX.out
  clear X0
  have hcf : wr.cell? ⟨w.heap.size, 3, none⟩ = some (.slice A3 l3.length c3) := (zk X.bf 3).trans rfl
  by_cases hlt : i < l3.length
  ·have hx := List.getElem?_eq_getElem hlt
   obtain ⟨ad, e, x0, x1⟩ := VB H3.out (i : Int) (by omega) (by omega)
   cases e
   have e : xL l3 (i : Int) = l3[i] := by simp [xL, List.getD_eq_getElem?_getD, hlt]
   rw [Int.toNat_natCast, e] at x0 x1
   clear e
   generalize l3[i] = x at hx x0 x1
   have k0 := fun (W : World) (h : Below w.heap.size w W) => (h.cell (World.block_lt_of_cell? w _ x0)).trans x0; have k1 := fun (W : World) (h : Below w.heap.size w W) => (h.cell (World.block_lt_of_cell? w _ x1)).trans x1
   have q1 : (i : Int) < (l3.length : Int) := by omega
   have q0 : (0 : Int) ≤ (i : Int) := by omega
   have q3 : ((i : Int)).toNat = i := Int.toNat_natCast i
   have q2 : decide ((i : Int) < (l3.length : Int)) = true := decide_eq_true q1
   try go_wp2
   have X1 := X.mv (pQ (Below.refl _ wr))
   refine Zj (n := 19) (S := fun W' => W'.cell? ⟨w.heap.size + 2, 3, none⟩ = some u ∧ W'.cell? ⟨w.heap.size, 3, none⟩ = some (.slice (some ad) l3.length c3) ∧ W'.cell? (ad.add (i * 2)) = some (.string x.f0) ∧ W'.cell? ⟨(ad.add (i * 2)).block, (ad.add (i * 2)).off + 1, none⟩ = some (.int .i64 x.f1)) (ds := [18]) #[false, false, false, false, false, false, false, false, false, false, false, false, false, false, false, false, false, false, false] (by kernel_rfl) rfl rfl ⟨(zk X1.bx 3).trans rfl, (zk X1.bf 3).trans rfl, k0 _ X1.hb, k1 _ X1.hb⟩ (fun hHeld => ?_); refine wL Xq.dX Xq.dJ (fun zM jJ => ?_)
   clear X HX hcf
   generalize wr.drew = W at X1 hHeld ⊢
   refine qW 0 (some 21) zM ?_
   refine qW 2 (some 23) zM ?_
   refine qW 4 (some 25) zM ?_
   refine qW 8 (some 29) zM ?_
   refine qW 10 (some 31) zM ?_
   refine kQ 1 (some 22) zM jJ hHeld ?_
   refine kQ 3 (some 24) zM jJ hHeld ?_
   refine qW 5 (some 26) zM ?_
   refine qW 6 (some 27) zM ?_
   refine kQ 7 (some 28) zM jJ hHeld ?_
   refine kQ 9 (some 30) zM jJ hHeld ?_
   refine qW 11 (some 32) zM ?_
   refine qW 12 (some 33) zM ?_
   refine kQ 13 (some 34) zM jJ hHeld ?_
   refine qW 14 (some 35) zM ?_
   refine ZH 15 (some 36) zM (fun K hK => ?_)
   refine Jj ?_
   have X2 := X1.mv (yu (Below.refl _ W) (.cells #[.string x.f0, .int .i64 x.f1] 81))
   refine hK.out _ _ ⟨(zk X2.bx 3).trans rfl, (zk X2.bf 3).trans rfl, k0 _ X2.hb, k1 _ X2.hb⟩ (fun hHeld => ?_)
   clear hK K
   refine wX (some 36) ?_
   refine ZH 16 (some 37) zM (fun K hK => ?_)
   refine Kd.kL qJ (w0 := w) w.heap.size (by rfl) (.tmp 22) (.tmp 36) 40 81 (.agg #[(.string ⟨#[]⟩), (.int .i64 0)]) 24 rfl Tryz.underlying40 u7 rfl (by decide) (by omega) u ((l3.take i).map uJ) (uJ x) [.string x.f0, .int .i64 x.f1] (fun _ => True) (fun _ => False) rfl rfl ?aP (fun _ hk => hk.elim) ?aF ?aO ?aB ?aS ?aL ?_
   (case aP => exact xS _ _ _ (uJ x))
   (case aB => exact X1.hb)
   (case aF => exact (fun _ _ => trivial))
   (case aO => exact X1.r3)
   (case aS => exact X1.hb.size)
   (case aL => rw [List.length_map, List.length_take]; omega)
   intro v Zw ho hb hg hat
   rw [← Vv uJ l3 i x hx] at ho
   obtain ⟨Ao, co, eo⟩ := Kd.y9 ho
   subst eo
   generalize ((l3.take (i + 1)).map uJ).length = nn at ho ⊢
   have bx1 := qQ X1.bx hg (Kd.kE X1.r3 X1.bx (by decide))
   have JQ := qQ X1.bf hg (Kd.kE X1.r3 X1.bf (by decide))
   have X3 := zx.mk (X1.zY5 hg ho hb (by decide) (by decide) (by decide) (by decide) (by decide) (by decide))
   refine hK.out _ _ ⟨(zk bx1 3).trans rfl, (zk JQ 3).trans rfl, k0 _ hb, k1 _ hb⟩ (fun hHeld => ?_)
   clear hK K
   refine wX (some 37) ?_
   refine qW 17 (some 38) zM ?_
   refine Qw (i := 18) (N := none) #[true, true, true, true, true, true, true, true, true, true, true, true, true, true, true, true, true, true, true] rfl rfl (wI zM.out (by kernel_rfl)) (by decide) (fun K hK => ?_)
   have QS : Zw.cell? ⟨w.heap.size + 2, 3, none⟩ = some u := (zk bx1 3).trans rfl
   have XZ := zw bx1 3
   refine QZ (w1 := ?_) (by rfl) rfl ?_ ?_
   rotate_left
   ·go_simp
    rfl
   refine hK.out _ _ ?_
   clear hK K
   refine uO (vW zM.out (by kernel_rfl)) ?_
   clear X1 X2 hb hg ho hat QS XZ bx1 JQ hHeld
   generalize Zw.setCell ⟨w.heap.size + 2, 3, none⟩ (.slice Ao nn co : Value) = YD at X3 ⊢
   try go_wp2
   go_roundw
   case rel => exact ⟨i + 1, (.slice Ao nn co : Value), by first | rfl | (simp; done) | go_num, by omega, X3⟩
   case measure => simp [intOf]; omega
  ·obtain rfl : i = l3.length := by omega
   have q2 : decide ((l3.length : Int) < (l3.length : Int)) = false := decide_eq_false (by omega)
   rw [List.take_length] at X
   clear HX
   obtain ⟨VE, VF, eo3⟩ := Kd.y9 X.r3
   subst eo3
   generalize HM3 : l3.map uJ = m3 at X
   try go_wp2
   go_loopw [5] (fun y W => ∃ (i : Nat) (u : Value), y = .int .i64 (i : Int) ∧ i ≤ l4.length ∧ zx (XS qJ 81 jC 83 jS 84 26 44 w w.heap.size (w.heap.size + 1) (w.heap.size + 2) #[.string a, .bool b, .int .i64 c, .slice A3 l3.length c3, .slice A4 l4.length c4, .slice A5 l5.length c5] a b c (.slice VE m3.length VF) u (.slice none 0 0) m3 ((l4.take i).map jk) [] W)) (fun y _ => l4.length - (intOf y).toNat)
   case atStart => exact ⟨0, .slice none 0 0, rfl, Nat.zero_le _, ⟨X⟩⟩
   case round =>
    obtain ⟨i, u, rfl, hi, HX⟩ := hrel
    have X := HX.out
    skip
    have hcf : wr.cell? ⟨w.heap.size, 4, none⟩ = some (.slice A4 l4.length c4) := (zk X.bf 4).trans rfl
    by_cases hlt : i < l4.length
    ·have hx := List.getElem?_eq_getElem hlt
     obtain ⟨ad, e, x0, x1, x2⟩ := gU H4.out (i : Int) (by omega) (by omega)
     cases e
     have e : uE l4 (i : Int) = l4[i] := by simp [uE, List.getD_eq_getElem?_getD, hlt]
     rw [Int.toNat_natCast, e] at x0 x1 x2
     clear e
     generalize l4[i] = x at hx x0 x1 x2
     have k0 := fun (W : World) (h : Below w.heap.size w W) => (h.cell (World.block_lt_of_cell? w _ x0)).trans x0; have k1 := fun (W : World) (h : Below w.heap.size w W) => (h.cell (World.block_lt_of_cell? w _ x1)).trans x1; have k2 := fun (W : World) (h : Below w.heap.size w W) => (h.cell (World.block_lt_of_cell? w _ x2)).trans x2
     have q1 : (i : Int) < (l4.length : Int) := by omega
     have q0 : (0 : Int) ≤ (i : Int) := by omega
     have q3 : ((i : Int)).toNat = i := Int.toNat_natCast i
     have q2 : decide ((i : Int) < (l4.length : Int)) = true := decide_eq_true q1
     try go_wp2
     have X1 := X.mv (pQ (Below.refl _ wr))
     refine Zj (n := 25) (S := fun W' => W'.cell? ⟨w.heap.size + 2, 4, none⟩ = some u ∧ W'.cell? ⟨w.heap.size, 4, none⟩ = some (.slice (some ad) l4.length c4) ∧ W'.cell? (ad.add (i * 3)) = some (.string x.f0) ∧ W'.cell? ⟨(ad.add (i * 3)).block, (ad.add (i * 3)).off + 1, none⟩ = some (.string x.f1) ∧ W'.cell? ⟨(ad.add (i * 3)).block, (ad.add (i * 3)).off + 2, none⟩ = some (.string x.f2)) (ds := [24]) #[false, false, false, false, false, false, false, false, false, false, false, false, false, false, false, false, false, false, false, false, false, false, false, false, false] (by kernel_rfl) rfl rfl ⟨(zk X1.bx 4).trans rfl, (zk X1.bf 4).trans rfl, k0 _ X1.hb, k1 _ X1.hb, k2 _ X1.hb⟩ (fun hHeld => ?_); refine wL Xq.zXv Xq.zwj (fun zM jJ => ?_)
     clear X HX hcf
     generalize wr.drew = W at X1 hHeld ⊢
     refine qW 0 (some 46) zM ?_
     refine qW 2 (some 48) zM ?_
     refine qW 4 (some 50) zM ?_
     refine qW 8 (some 54) zM ?_
     refine qW 10 (some 56) zM ?_
     refine qW 14 (some 60) zM ?_
     refine qW 16 (some 62) zM ?_
     refine kQ 1 (some 47) zM jJ hHeld ?_
     refine kQ 3 (some 49) zM jJ hHeld ?_
     refine qW 5 (some 51) zM ?_
     refine qW 6 (some 52) zM ?_
     refine kQ 7 (some 53) zM jJ hHeld ?_
     refine kQ 9 (some 55) zM jJ hHeld ?_
     refine qW 11 (some 57) zM ?_
     refine qW 12 (some 58) zM ?_
     refine kQ 13 (some 59) zM jJ hHeld ?_
     refine kQ 15 (some 61) zM jJ hHeld ?_
     refine qW 17 (some 63) zM ?_
     refine qW 18 (some 64) zM ?_
     refine kQ 19 (some 65) zM jJ hHeld ?_
     refine qW 20 (some 66) zM ?_
     refine ZH 21 (some 67) zM (fun K hK => ?_)
     refine Jj ?_
     have X2 := X1.mv (yu (Below.refl _ W) (.cells #[.string x.f0, .string x.f1, .string x.f2] 83))
     refine hK.out _ _ ⟨(zk X2.bx 4).trans rfl, (zk X2.bf 4).trans rfl, k0 _ X2.hb, k1 _ X2.hb, k2 _ X2.hb⟩ (fun hHeld => ?_)
     clear hK K
     refine wX (some 67) ?_
     refine ZH 22 (some 68) zM (fun K hK => ?_)
     refine Kd.kL jC (w0 := w) w.heap.size (by rfl) (.tmp 47) (.tmp 67) 41 83 (.agg #[(.string ⟨#[]⟩), (.string ⟨#[]⟩), (.string ⟨#[]⟩)]) 48 rfl Tryz.underlying41 zZu rfl (by decide) (by omega) u ((l4.take i).map jk) (jk x) [.string x.f0, .string x.f1, .string x.f2] (fun _ => True) (fun _ => False) rfl rfl ?aP (fun _ hk => hk.elim) ?aF ?aO ?aB ?aS ?aL ?_
     (case aP => exact Q8 _ _ _ (jk x))
     (case aB => exact X1.hb)
     (case aF => exact (fun _ _ => trivial))
     (case aO => exact X1.r4)
     (case aS => exact X1.hb.size)
     (case aL => rw [List.length_map, List.length_take]; omega)
     intro v Zw ho hb hg hat
     rw [← Vv jk l4 i x hx] at ho
     obtain ⟨Ao, co, eo⟩ := Kd.y9 ho
     subst eo
     generalize ((l4.take (i + 1)).map jk).length = nn at ho ⊢
     have bx1 := qQ X1.bx hg (Kd.kE X1.r4 X1.bx (by decide))
     have JQ := qQ X1.bf hg (Kd.kE X1.r4 X1.bf (by decide))
     have X3 := zx.mk (X1.zY6 hg ho hb (by decide) (by decide) (by decide) (by decide) (by decide) (by decide))
     refine hK.out _ _ ⟨(zk bx1 4).trans rfl, (zk JQ 4).trans rfl, k0 _ hb, k1 _ hb, k2 _ hb⟩ (fun hHeld => ?_)
     clear hK K
     refine wX (some 68) ?_
     refine qW 23 (some 69) zM ?_
     refine Qw (i := 24) (N := none) #[true, true, true, true, true, true, true, true, true, true, true, true, true, true, true, true, true, true, true, true, true, true, true, true, true] rfl rfl (wI zM.out (by kernel_rfl)) (by decide) (fun K hK => ?_)
     have QS : Zw.cell? ⟨w.heap.size + 2, 4, none⟩ = some u := (zk bx1 4).trans rfl
     have XZ := zw bx1 4
     refine QZ (w1 := ?_) (by rfl) rfl ?_ ?_
     rotate_left
     ·go_simp
      rfl
     refine hK.out _ _ ?_
     clear hK K
     refine uO (vW zM.out (by kernel_rfl)) ?_
     clear X1 X2 hb hg ho hat QS XZ bx1 JQ hHeld
     generalize Zw.setCell ⟨w.heap.size + 2, 4, none⟩ (.slice Ao nn co : Value) = YD at X3 ⊢
     try go_wp2
     go_roundw
     case rel => exact ⟨i + 1, (.slice Ao nn co : Value), by first | rfl | (simp; done) | go_num, by omega, X3⟩
     case measure => simp [intOf]; omega
    ·obtain rfl : i = l4.length := by omega
     have q2 : decide ((l4.length : Int) < (l4.length : Int)) = false := decide_eq_false (by omega)
     rw [List.take_length] at X
     clear HX
     obtain ⟨JX, JJ, eo4⟩ := Kd.y9 X.r4
     subst eo4
     generalize HM4 : l4.map jk = m4 at X
     try go_wp2
     go_loopw [6] (fun y W => ∃ (i : Nat) (u : Value), y = .int .i64 (i : Int) ∧ i ≤ l5.length ∧ zx (XS qJ 81 jC 83 jS 84 26 44 w w.heap.size (w.heap.size + 1) (w.heap.size + 2) #[.string a, .bool b, .int .i64 c, .slice A3 l3.length c3, .slice A4 l4.length c4, .slice A5 l5.length c5] a b c (.slice VE m3.length VF) (.slice JX m4.length JJ) u m3 m4 ((l5.take i).map uL) W)) (fun y _ => l5.length - (intOf y).toNat)
     case atStart => exact ⟨0, .slice none 0 0, rfl, Nat.zero_le _, ⟨X⟩⟩
     case round =>
      obtain ⟨i, u, rfl, hi, HX⟩ := hrel
      have X := HX.out
      skip
      have hcf : wr.cell? ⟨w.heap.size, 5, none⟩ = some (.slice A5 l5.length c5) := (zk X.bf 5).trans rfl
      by_cases hlt : i < l5.length
      ·have hx := List.getElem?_eq_getElem hlt
       obtain ⟨ad, e, x0, x1, x2⟩ := mq H5.out (i : Int) (by omega) (by omega)
       cases e
       have e : jq l5 (i : Int) = l5[i] := by simp [jq, List.getD_eq_getElem?_getD, hlt]
       rw [Int.toNat_natCast, e] at x0 x1 x2
       clear e
       generalize l5[i] = x at hx x0 x1 x2
       have k0 := fun (W : World) (h : Below w.heap.size w W) => (h.cell (World.block_lt_of_cell? w _ x0)).trans x0; have k1 := fun (W : World) (h : Below w.heap.size w W) => (h.cell (World.block_lt_of_cell? w _ x1)).trans x1; have k2 := fun (W : World) (h : Below w.heap.size w W) => (h.cell (World.block_lt_of_cell? w _ x2)).trans x2
       have q1 : (i : Int) < (l5.length : Int) := by omega
       have q0 : (0 : Int) ≤ (i : Int) := by omega
       have q3 : ((i : Int)).toNat = i := Int.toNat_natCast i
       have q2 : decide ((i : Int) < (l5.length : Int)) = true := decide_eq_true q1
       try go_wp2
       have X1 := X.mv (pQ (Below.refl _ wr))
       refine Zj (n := 25) (S := fun W' => W'.cell? ⟨w.heap.size + 2, 5, none⟩ = some u ∧ W'.cell? ⟨w.heap.size, 5, none⟩ = some (.slice (some ad) l5.length c5) ∧ W'.cell? (ad.add (i * 3)) = some (.string x.f0) ∧ W'.cell? ⟨(ad.add (i * 3)).block, (ad.add (i * 3)).off + 1, none⟩ = some (.string x.f1) ∧ W'.cell? ⟨(ad.add (i * 3)).block, (ad.add (i * 3)).off + 2, none⟩ = some (.int .i64 x.f2)) (ds := [24]) #[false, false, false, false, false, false, false, false, false, false, false, false, false, false, false, false, false, false, false, false, false, false, false, false, false] (by kernel_rfl) rfl rfl ⟨(zk X1.bx 5).trans rfl, (zk X1.bf 5).trans rfl, k0 _ X1.hb, k1 _ X1.hb, k2 _ X1.hb⟩ (fun hHeld => ?_); refine wL Xq.QY Xq.YM (fun zM jJ => ?_)
       clear X HX hcf
       generalize wr.drew = W at X1 hHeld ⊢
       refine qW 0 (some 77) zM ?_
       refine qW 2 (some 79) zM ?_
       refine qW 4 (some 81) zM ?_
       refine qW 8 (some 85) zM ?_
       refine qW 10 (some 87) zM ?_
       refine qW 14 (some 91) zM ?_
       refine qW 16 (some 93) zM ?_
       refine kQ 1 (some 78) zM jJ hHeld ?_
       refine kQ 3 (some 80) zM jJ hHeld ?_
       refine qW 5 (some 82) zM ?_
       refine qW 6 (some 83) zM ?_
       refine kQ 7 (some 84) zM jJ hHeld ?_
       refine kQ 9 (some 86) zM jJ hHeld ?_
       refine qW 11 (some 88) zM ?_
       refine qW 12 (some 89) zM ?_
       refine kQ 13 (some 90) zM jJ hHeld ?_
       refine kQ 15 (some 92) zM jJ hHeld ?_
       refine qW 17 (some 94) zM ?_
       refine qW 18 (some 95) zM ?_
       refine kQ 19 (some 96) zM jJ hHeld ?_
       refine qW 20 (some 97) zM ?_
       refine ZH 21 (some 98) zM (fun K hK => ?_)
       refine Jj ?_
       have X2 := X1.mv (yu (Below.refl _ W) (.cells #[.string x.f0, .string x.f1, .int .i64 x.f2] 84))
       refine hK.out _ _ ⟨(zk X2.bx 5).trans rfl, (zk X2.bf 5).trans rfl, k0 _ X2.hb, k1 _ X2.hb, k2 _ X2.hb⟩ (fun hHeld => ?_)
       clear hK K
       refine wX (some 98) ?_
       refine ZH 22 (some 99) zM (fun K hK => ?_)
       refine Kd.kL jS (w0 := w) w.heap.size (by rfl) (.tmp 78) (.tmp 98) 42 84 (.agg #[(.string ⟨#[]⟩), (.string ⟨#[]⟩), (.int .i64 0)]) 40 rfl Tryz.underlying42 zZA rfl (by decide) (by omega) u ((l5.take i).map uL) (uL x) [.string x.f0, .string x.f1, .int .i64 x.f2] (fun _ => True) (fun _ => False) rfl rfl ?aP (fun _ hk => hk.elim) ?aF ?aO ?aB ?aS ?aL ?_
       (case aP => exact UK _ _ _ (uL x))
       (case aB => exact X1.hb)
       (case aF => exact (fun _ _ => trivial))
       (case aO => exact X1.r5)
       (case aS => exact X1.hb.size)
       (case aL => rw [List.length_map, List.length_take]; omega)
       intro v Zw ho hb hg hat
       rw [← Vv uL l5 i x hx] at ho
       obtain ⟨Ao, co, eo⟩ := Kd.y9 ho
       subst eo
       generalize ((l5.take (i + 1)).map uL).length = nn at ho ⊢
       have bx1 := qQ X1.bx hg (Kd.kE X1.r5 X1.bx (by decide))
       have JQ := qQ X1.bf hg (Kd.kE X1.r5 X1.bf (by decide))
       have X3 := zx.mk (X1.zY7 hg ho hb (by decide) (by decide) (by decide) (by decide) (by decide) (by decide))
       refine hK.out _ _ ⟨(zk bx1 5).trans rfl, (zk JQ 5).trans rfl, k0 _ hb, k1 _ hb, k2 _ hb⟩ (fun hHeld => ?_)
       clear hK K
       refine wX (some 99) ?_
       refine qW 23 (some 100) zM ?_
       refine Qw (i := 24) (N := none) #[true, true, true, true, true, true, true, true, true, true, true, true, true, true, true, true, true, true, true, true, true, true, true, true, true] rfl rfl (wI zM.out (by kernel_rfl)) (by decide) (fun K hK => ?_)
       have QS : Zw.cell? ⟨w.heap.size + 2, 5, none⟩ = some u := (zk bx1 5).trans rfl
       have XZ := zw bx1 5
       refine QZ (w1 := ?_) (by rfl) rfl ?_ ?_
       rotate_left
       ·go_simp
        rfl
       refine hK.out _ _ ?_
       clear hK K
       refine uO (vW zM.out (by kernel_rfl)) ?_
       clear X1 X2 hb hg ho hat QS XZ bx1 JQ hHeld
       generalize Zw.setCell ⟨w.heap.size + 2, 5, none⟩ (.slice Ao nn co : Value) = YD at X3 ⊢
       try go_wp2
       go_roundw
       case rel => exact ⟨i + 1, (.slice Ao nn co : Value), by first | rfl | (simp; done) | go_num, by omega, X3⟩
       case measure => simp [intOf]; omega
      ·obtain rfl : i = l5.length := by omega
       have q2 : decide ((l5.length : Int) < (l5.length : Int)) = false := decide_eq_false (by omega)
       rw [List.take_length] at X
       clear HX
       obtain ⟨KH, KI, eo5⟩ := Kd.y9 X.r5
       subst eo5
       generalize HM5 : l5.map uL = m5 at X
       have y0 : wr.cell? ⟨w.heap.size + 2, 0, none⟩ = some (.string a) := (zk X.bx 0).trans rfl; have y1 : wr.cell? ⟨w.heap.size + 2, 1, none⟩ = some (.bool b) := (zk X.bx 1).trans rfl; have y2 : wr.cell? ⟨w.heap.size + 2, 2, none⟩ = some (.int .i64 c) := (zk X.bx 2).trans rfl; have y3 : wr.cell? ⟨w.heap.size + 2, 3, none⟩ = some (.slice VE m3.length VF) := (zk X.bx 3).trans rfl; have y4 : wr.cell? ⟨w.heap.size + 2, 4, none⟩ = some (.slice JX m4.length JJ) := (zk X.bx 4).trans rfl; have y5 : wr.cell? ⟨w.heap.size + 2, 5, none⟩ = some (.slice KH m5.length KI) := (zk X.bx 5).trans rfl
       have z0 : wr.cell? ⟨w.heap.size + 1, 0, none⟩ = some (.string (⟨#[]⟩ : ByteArray)) := (zk X.br 0).trans rfl; have zf0 := zw X.br 0; have z1 : wr.cell? ⟨w.heap.size + 1, 1, none⟩ = some (.bool false) := (zk X.br 1).trans rfl; have zf1 := zw X.br 1; have z2 : wr.cell? ⟨w.heap.size + 1, 2, none⟩ = some (.int .i64 0) := (zk X.br 2).trans rfl; have zf2 := zw X.br 2; have z3 : wr.cell? ⟨w.heap.size + 1, 3, none⟩ = some (.slice none 0 0) := (zk X.br 3).trans rfl; have zf3 := zw X.br 3; have z4 : wr.cell? ⟨w.heap.size + 1, 4, none⟩ = some (.slice none 0 0) := (zk X.br 4).trans rfl; have zf4 := zw X.br 4; have z5 : wr.cell? ⟨w.heap.size + 1, 5, none⟩ = some (.slice none 0 0) := (zk X.br 5).trans rfl; have zf5 := zw X.br 5
       have HX := zx.mk X
       clear X
       go_wp2
       refine bodyPost_ret (results_cell_row rfl _ _ (w.heap.size + 1) 44 #[.string a, .bool b, .int .i64 c, .slice VE m3.length VF, .slice JX m4.length JJ, .slice KH m5.length KI] (0, 0) _ rfl (zvz HX.out.br (.string a) (.bool b) (.int .i64 c) (.slice VE m3.length VF) (.slice JX m4.length JJ) (.slice KH m5.length KI)) Tryz.underlying44 rfl (by kernel_rfl)) rfl ?_
       rw [HM3, HM4, HM5]
       exact ⟨_, _, _, rfl, nG HX.out.r3 HX.out.br (by decide) (.string a) (.bool b) (.int .i64 c) (.slice VE m3.length VF) (.slice JX m4.length JJ) (.slice KH m5.length KI), nG HX.out.r4 HX.out.br (by decide) (.string a) (.bool b) (.int .i64 c) (.slice VE m3.length VF) (.slice JX m4.length JJ) (.slice KH m5.length KI), nG HX.out.r5 HX.out.br (by decide) (.string a) (.bool b) (.int .i64 c) (.slice VE m3.length VF) (.slice JX m4.length JJ) (.slice KH m5.length KI), zqG HX.out.hb (by omega) (.string a) (.bool b) (.int .i64 c) (.slice VE m3.length VF) (.slice JX m4.length JJ) (.slice KH m5.length KI)⟩
end Go.Proofs.YtaifemkokfoadaaGreatDoor
namespace Go.Proofs.YtaifemkokfoadaaGreatDoor
open Go.RowKit Go.Shelf Go.Proofs.zy.zu Go.Proofs.zy.yI Go.Proofs.zy.yD Go.Proofs.YtaifemkokfoadaaGreatDoor.PX
set_option maxRecDepth 100000 in
theorem zQz (B : Nat) (n : ByteArray) (w : World) (hB : w.cell? ⟨B, 0, none⟩ = some (.string n)) :
  PredBelow Tryz.prog 107 #[.pointer (some ⟨B, 0, none⟩)] (fun x => .agg (Za x).toArray) (fun x : qg => x.f0.toList == n.toList) w := fun W x hb => by
 have hl := World.block_lt_of_cell? w _ hB
 have hlW : B < W.heap.size := Nat.lt_of_lt_of_le hl hb.size
 have hc : (W.alloc (.cells #[.string x.f0, .int .i64 x.f1] 31)).cell? ⟨B, 0, none⟩ = some (.string n) := (World.cell?_alloc_lt _ _ _ hlW).trans ((hb.cell hl).trans hB)
 have hb0 : Below w.heap.size w (W.alloc (.cells #[.string x.f0, .int .i64 x.f1] 31)) := hb.alloc hb.size _
 show Calls Tryz.prog 107 #[.agg #[.string x.f0, .int .i64 x.f1], .pointer (some ⟨B, 0, none⟩)] W _
 clear hb hB hl
 go_enter Tryz.func107, Tryz.ntmps107
 go_wp2
 go_ret
 exact ⟨by first | rfl | (simp; done), hb0⟩
set_option maxRecDepth 100000 in
theorem zwv (B : Nat) (a : ByteArray) (b : Bool) (c : Int) (v3 v4 v5 : Value) (w : World) (hB : w.heap[B]? = some (.cells #[.string a, .bool b, .int .i64 c, v3, v4, v5] 26 (0, 0))) :
  PredBelow Tryz.prog 108 #[.pointer (some ⟨B, 0, none⟩)] (fun x => .agg (Za x).toArray) (fun x : qg => x.f1 != c) w := fun W x hb => by
 have hl := uD hB
 have hlW : B < W.heap.size := Nat.lt_of_lt_of_le hl hb.size
 have hBW : W.heap[B]? = some (.cells #[.string a, .bool b, .int .i64 c, v3, v4, v5] 26 (0, 0)) := zl hB (hb.mono (Nat.le_refl _))
 have hc : (W.alloc (.cells #[.string x.f0, .int .i64 x.f1] 31)).cell? ⟨B, 2, none⟩ = some (.int .i64 c) := (zk (zZ hBW _) 2).trans rfl
 have hb0 : Below w.heap.size w (W.alloc (.cells #[.string x.f0, .int .i64 x.f1] 31)) := hb.alloc hb.size _
 show Calls Tryz.prog 108 #[.agg #[.string x.f0, .int .i64 x.f1], .pointer (some ⟨B, 0, none⟩)] W _
 clear hb hB hl hBW
 go_enter Tryz.func108, Tryz.ntmps108
 go_wp2
 go_ret
 exact ⟨by first | rfl | (simp; done), hb0⟩
def XU (l : List qg) (n : ByteArray) : Bool := l.any fun x => x.f0.toList == n.toList
def nH (c : Int) (l : List qg) : Bool := !(l.any fun x => x.f1 != c)
def KL.f (_ : ByteArray) (_ : Bool) (_ : Int) (ze : List qg) (_ : List xC) (_ : List vk) (a1 : ByteArray) : Option Bool := if ze.length ≤ 1000000000 then some (XU ze a1) else none
def JV.f (_ : ByteArray) (_ : Bool) (zC : Int) (ze : List qg) (_ : List xC) (_ : List vk) : Option Bool := if ze.length ≤ 1000000000 then some (nH zC ze) else none
theorem KL.calls (zG : ByteArray) (zH : Bool) (zC : Int) (yG : Option Addr) (yH : Nat) (ze : List qg) (yM : Option Addr) (yN : Nat) (zn : List xC) (yO : Option Addr) (yP : Nat) (zm : List vk) (a1 : ByteArray) (r : Bool) (w : World) (vS : Kd.C uf w yG ze.length ze) (_ : ze.length ≤ yH) (_ : Kd.C jd w yM zn.length zn) (_ : zn.length ≤ yN) (_ : Kd.C jh w yO zm.length zm) (_ : zm.length ≤ yP) (_ : GW w) (h : KL.f zG zH zC ze zn zm a1 = some r) :
  Calls Tryz.prog 62 #[.agg #[.string zG, .bool zH, .int .i64 zC, .slice yG ze.length yH, .slice yM zn.length yN, .slice yO zm.length yP], .string a1] w fun e w' => e = .returned (.bool r) ∧ Below w.heap.size w w' := by
 unfold KL.f at h
 split at h
 ·rename_i hl
  obtain rfl := Option.some.inj h
  have hb0 : Below w.heap.size w ((w.alloc (.cells #[.string zG, .bool zH, .int .i64 zC, .slice yG ze.length yH, .slice yM zn.length yN, .slice yO zm.length yP] 26)).alloc (.cells #[.string a1] 9)) := ((Below.refl _ w).alloc (Nat.le_refl _) _).alloc (by simp) _
  have hcell : ((w.alloc (.cells #[.string zG, .bool zH, .int .i64 zC, .slice yG ze.length yH, .slice yM zn.length yN, .slice yO zm.length yP] 26)).alloc (.cells #[.string a1] 9)).cell? ⟨w.heap.size + 1, 0, none⟩ = some (.string a1) := by simp
  have hs := tH yG yH ze _ (Kd.zY vS hb0) hl (fun x => x.f0.toList == a1.toList) 107 #[.pointer (some ⟨w.heap.size + 1, 0, none⟩)] (JF Tryz.func107 (by kernel_rfl) rfl) (zQz (w.heap.size + 1) a1 _ hcell)
  unfold XU
  generalize (ze.any fun x => x.f0.toList == a1.toList) = R at hs ⊢
  clear hcell vS hl h
  go_enter Tryz.func62, Tryz.ntmps62
  go_wp2_with fail
  refine hs.mono ?_; rintro e w2 ⟨rfl, hb2⟩
  go_wp2
  go_ret
  exact ⟨rfl, hb0.trans (hb2.mono hb0.size)⟩
 ·cases h
theorem JV.calls (zG : ByteArray) (zH : Bool) (zC : Int) (yG : Option Addr) (yH : Nat) (ze : List qg) (yM : Option Addr) (yN : Nat) (zn : List xC) (yO : Option Addr) (yP : Nat) (zm : List vk) (r : Bool) (w : World) (vS : Kd.C uf w yG ze.length ze) (_ : ze.length ≤ yH) (_ : Kd.C jd w yM zn.length zn) (_ : zn.length ≤ yN) (_ : Kd.C jh w yO zm.length zm) (_ : zm.length ≤ yP) (_ : GW w) (h : JV.f zG zH zC ze zn zm = some r) :
  Calls Tryz.prog 64 #[.agg #[.string zG, .bool zH, .int .i64 zC, .slice yG ze.length yH, .slice yM zn.length yN, .slice yO zm.length yP]] w fun e w' => e = .returned (.bool r) ∧ Below w.heap.size w w' := by
 unfold JV.f at h
 split at h
 ·rename_i hl
  obtain rfl := Option.some.inj h
  have hb0 : Below w.heap.size w (w.alloc (.cells #[.string zG, .bool zH, .int .i64 zC, .slice yG ze.length yH, .slice yM zn.length yN, .slice yO zm.length yP] 26)) := (Below.refl _ w).alloc (Nat.le_refl _) _
  have hs := tH yG yH ze _ (Kd.zY vS hb0) hl (fun x => x.f1 != zC) 108 #[.pointer (some ⟨w.heap.size, 0, none⟩)] (JF Tryz.func108 (by kernel_rfl) rfl) (zwv w.heap.size zG zH zC _ _ _ _ (je w _))
  unfold nH
  generalize (ze.any fun x => x.f1 != zC) = R at hs ⊢
  clear vS hl h
  go_enter Tryz.func64, Tryz.ntmps64
  go_wp2_with fail
  refine hs.mono ?_; rintro e w2 ⟨rfl, hb2⟩
  go_wp2
  go_ret
  exact ⟨rfl, hb0.trans (hb2.mono hb0.size)⟩
 ·cases h
end Go.Proofs.YtaifemkokfoadaaGreatDoor
namespace Go.Proofs.YtaifemkokfoadaaGreatDoor
open Go.RowKit Go.Proofs.zy.zu Go.Proofs.zy.yD Go.Proofs.YtaifemkokfoadaaGreatDoor.PX
set_option linter.unusedSimpArgs false
set_option linter.unusedVariables false
theorem tN (l : List qg) (i : Nat) (h : i < l.length) : zN (l.map uJ) (i : Int) = uJ l[i] := by simp [zN, List.getD_eq_getElem?_getD, h]
theorem oC (l : List xC) (i : Nat) (h : i < l.length) : vJ (l.map jk) (i : Int) = jk l[i] := by simp [vJ, List.getD_eq_getElem?_getD, h]
theorem oD (l : List vk) (i : Nat) (h : i < l.length) : xY (l.map uL) (i : Int) = uL l[i] := by simp [xY, List.getD_eq_getElem?_getD, h]
theorem zwk (l : List xC) (i : Nat) (h : i < l.length) : uE l (i : Int) = l[i] := by simp [uE, List.getD_eq_getElem?_getD, h]
theorem zwy (l : List vk) (i : Nat) (h : i < l.length) : jq l (i : Int) = l[i] := by simp [jq, List.getD_eq_getElem?_getD, h]
theorem Vk (l : List qg) (n : ByteArray) : j5 (l.map uJ) n = XU l n := by
 unfold j5 XU
 rw [List.any_map]; rfl
theorem KM (l : List qg) (ha : Asc l) (n : ByteArray) : XU l n = (YF l n).2 := by
 rw [zxP l ha n]
 unfold XU
 refine List.any_congr rfl (fun x => ?_)
 by_cases h : x.f0 = n
 ·rw [h]; simp
 ·rw [decide_eq_false h]
  exact beq_eq_false_iff_ne.2 (fun e => h (U5.1 e))
theorem WE (a b c d : ByteArray) : QF a b c d = true ↔ fE (uF a c) (uF b d) < 0 := by
 unfold QF fE
 by_cases h0 : a = c
 ·subst h0
  have h1 : ¬ Op.bytesLess a.toList a.toList = true := by rw [JZ]; exact List.lt_irrefl _
  have h2 : Op.bytesLess a.toList a.toList = false := by simpa using h1
  rw [mK, if_pos rfl, h2, Bool.false_or, beq_self_eq_true, Bool.true_and, QO, JZ]
 ·rw [if_neg (fun e => h0 (zqF.1 e)), QO, ← JZ]
  have h1 : (a.toList == c.toList) = false := beq_eq_false_iff_ne.2 (fun e => h0 (U5.1 e))
  rw [h1, Bool.false_and, Bool.or_false]
theorem mY {α : Type} (l : List α) (P : α → Prop) : (∀ x ∈ l, P x) ↔ ∀ (i : Nat) (h : i < l.length), P l[i] := by
 constructor
 ·intro h i hi; exact h _ (List.getElem_mem hi)
 ·intro h x hx
  obtain ⟨i, hi, rfl⟩ := List.getElem_of_mem hx
  exact h i hi
theorem VG {f : Nat → Bool} {n : Nat} : (List.range n).all f = true ↔ ∀ i, i < n → f i = true := by
 rw [List.all_eq_true]
 exact ⟨fun h i hi => h i (List.mem_range.2 hi), fun h i hi => h i (List.mem_range.1 hi)⟩
theorem oF {c : Nat → Nat → Int} {n : Nat} : ZU c n = true ↔ ∀ i, i + 1 < n → c i (i + 1) < 0 := by
 unfold ZU
 rw [VG]
 exact ⟨fun h i hi => of_decide_eq_true (h i (by omega)), fun h i hi => decide_eq_true (h i (by omega))⟩
theorem zvq (l : List qg) : (List.range l.length).all (Qs (l.map uJ)) = true ↔ l.any Jh = false ∧ ZU (fun i j => QN (xL l (i : Int)) (xL l (j : Int))) l.length = true := by
 rw [VG, oF, List.any_eq_false, mY]
 constructor
 ·intro h
  refine ⟨fun i hi => ?_, fun i hi => ?_⟩
  ·have h1 := h i hi
   unfold Qs at h1
   rw [tN l i hi] at h1
   simp only [Bool.and_eq_true, Bool.not_eq_true'] at h1
   unfold Jh
   have e : XF l[i].f1 = wP (uJ l[i]).f1 := rfl
   rw [e, h1.2.1, Bool.or_false]
   have e2 : Yl l[i].f0.data.toList = true := h1.1
   rw [e2]; simp
  ·have h1 := h (i + 1) hi
   unfold Qs at h1
   rw [tN l (i + 1) hi, show (((i + 1 : Nat) : Int) - 1) = (i : Int) by omega, tN l i (by omega), decide_eq_false (by omega : ¬ i + 1 = 0), Bool.false_or] at h1
   simp only [Bool.and_eq_true] at h1
   show uF _ _ < 0
   rw [KG l i (by omega), KG l (i + 1) hi, QO, ← JZ]
   exact h1.2.2
 ·rintro ⟨h1, h2⟩ i hi
  unfold Qs
  have h3 := h1 i hi
  unfold Jh at h3
  simp only [Bool.or_eq_true, not_or, Bool.not_eq_true, Bool.not_eq_false'] at h3
  rw [tN l i hi]
  have e2 : Yl (uJ l[i]).f0.data.toList = true := h3.1
  have e3 : wP (uJ l[i]).f1 = false := h3.2
  rw [e2, e3, Bool.true_and, Bool.not_false, Bool.true_and]
  cases i with
  | zero => rfl
  | succ m =>
   have h4 : uF _ _ < 0 := h2 m hi
   rw [KG l m (by omega), KG l (m + 1) hi, QO, ← JZ] at h4
   rw [decide_eq_false (by omega : ¬ m + 1 = 0), Bool.false_or, show (((m + 1 : Nat) : Int) - 1) = (m : Int) by omega, tN l m (by omega)]
   exact h4
theorem zvx (l3 : List qg) (ha : Asc l3) (l : List xC) : (List.range l.length).all (Qt (l3.map uJ) (l.map jk)) = true ↔ l.any (Pv l3) = false ∧ ZU (fun i j => cmpL (uE l (i : Int)) (uE l (j : Int))) l.length = true := by
 have hb : ∀ x : xC, Pv l3 x = false ↔ XU l3 x.f0 = true ∧ XU l3 x.f1 = true ∧ XU l3 x.f2 = true := by
  intro x
  unfold Pv KF
  rw [KM l3 ha, KM l3 ha, KM l3 ha]
  simp
 rw [VG, oF, List.any_eq_false, mY]
 constructor
 ·intro h
  refine ⟨fun i hi => ?_, fun i hi => ?_⟩
  ·have h1 := h i hi
   unfold Qt at h1
   rw [oC l i hi] at h1
   simp only [Bool.and_eq_true, Vk] at h1
   rw [Bool.not_eq_true]
   exact (hb l[i]).2 ⟨h1.1, h1.2.1, h1.2.2.1⟩
  ·have h1 := h (i + 1) hi
   unfold Qt at h1
   rw [oC l (i + 1) hi, show (((i + 1 : Nat) : Int) - 1) = (i : Int) by omega, oC l i (by omega), decide_eq_false (by omega : ¬ i + 1 = 0), Bool.false_or] at h1
   simp only [Bool.and_eq_true] at h1
   have h2 := (WE _ _ _ _).1 h1.2.2.2
   rw [zwk l i (by omega), zwk l (i + 1) hi]
   exact h2
 ·rintro ⟨h1, h2⟩ i hi
  unfold Qt
  have h3 := (hb l[i]).1 (by simpa using h1 i hi)
  rw [oC l i hi, Vk, Vk, Vk]
  have e0 : XU l3 (jk l[i]).f0 = true := h3.1
  have e1 : XU l3 (jk l[i]).f1 = true := h3.2.1
  have e2 : XU l3 (jk l[i]).f2 = true := h3.2.2
  rw [e0, e1, e2, Bool.true_and, Bool.true_and, Bool.true_and]
  cases i with
  | zero => rfl
  | succ m =>
   have h4 := h2 m hi
   rw [zwk l m (by omega), zwk l (m + 1) hi] at h4
   rw [decide_eq_false (by omega : ¬ m + 1 = 0), Bool.false_or, show (((m + 1 : Nat) : Int) - 1) = (m : Int) by omega, oC l m (by omega)]
   exact (WE _ _ _ _).2 h4
theorem zVg (l3 : List qg) (ha : Asc l3) (l : List vk) : (List.range l.length).all (XT (l3.map uJ) (l.map uL)) = true ↔ l.any (VD l3) = false ∧ ZU (fun i j => Jg (jq l (i : Int)) (jq l (j : Int))) l.length = true := by
 have hb : ∀ x : vk, VD l3 x = false ↔ XU l3 x.f0 = true ∧ XU l3 x.f1 = true ∧ ¬ x.f2 = 0 ∧ ¬ x.f2 < -500 ∧ ¬ 500 < x.f2 := by
  intro x
  unfold VD KF
  rw [KM l3 ha, KM l3 ha]
  simp only [Bool.or_eq_false_iff, decide_eq_false_iff_not, Bool.not_eq_false', List.all_cons, List.all_nil, Bool.and_true, Bool.and_eq_true]
  constructor
  ·rintro ⟨p1, p2, p3, p4, p5⟩; exact ⟨p4, p5, p1, p2, p3⟩
  ·rintro ⟨p4, p5, p1, p2, p3⟩; exact ⟨p1, p2, p3, p4, p5⟩
 rw [VG, oF, List.any_eq_false, mY]
 constructor
 ·intro h
  refine ⟨fun i hi => ?_, fun i hi => ?_⟩
  ·have h1 := h i hi
   unfold XT at h1
   rw [oD l i hi] at h1
   simp only [Bool.and_eq_true, Vk, Bool.not_eq_true', decide_eq_false_iff_not] at h1
   rw [Bool.not_eq_true]
   exact (hb l[i]).2 ⟨h1.1, h1.2.1, h1.2.2.1, h1.2.2.2.1, h1.2.2.2.2.1⟩
  ·have h1 := h (i + 1) hi
   unfold XT at h1
   rw [oD l (i + 1) hi, show (((i + 1 : Nat) : Int) - 1) = (i : Int) by omega, oD l i (by omega), decide_eq_false (by omega : ¬ i + 1 = 0), Bool.false_or] at h1
   simp only [Bool.and_eq_true] at h1
   have h2 := (WE _ _ _ _).1 h1.2.2.2.2.2
   rw [zwy l i (by omega), zwy l (i + 1) hi]
   exact h2
 ·rintro ⟨h1, h2⟩ i hi
  unfold XT
  have h3 := (hb l[i]).1 (by simpa using h1 i hi)
  rw [oD l i hi, Vk, Vk]
  have e0 : XU l3 (uL l[i]).f0 = true := h3.1
  have e1 : XU l3 (uL l[i]).f1 = true := h3.2.1
  have e2 : decide ((uL l[i]).f2 = 0) = false := decide_eq_false h3.2.2.1
  have e3 : decide ((uL l[i]).f2 < -500) = false := decide_eq_false h3.2.2.2.1
  have e4 : decide (500 < (uL l[i]).f2) = false := decide_eq_false h3.2.2.2.2
  rw [e0, e1, e2, e3, e4, Bool.true_and, Bool.true_and, Bool.not_false, Bool.true_and, Bool.true_and, Bool.true_and]
  cases i with
  | zero => rfl
  | succ m =>
   have h4 := h2 m hi
   rw [zwy l m (by omega), zwy l (m + 1) hi] at h4
   rw [decide_eq_false (by omega : ¬ m + 1 = 0), Bool.false_or, show (((m + 1 : Nat) : Int) - 1) = (m : Int) by omega, oD l m (by omega)]
   exact (WE _ _ _ _).2 h4
theorem fH (a : ByteArray) (c : Int) (l3 : List qg) (l4 : List xC) (l5 : List vk) : Xt a c (l3.map uJ) (l4.map jk) (l5.map uL) = qC a c l3 l4 l5 := by
 unfold Xt qC
 rw [List.length_map, List.length_map, List.length_map]
 have e0 : wP c = XF c := rfl
 by_cases h0 : (!YL a.data.toList || (XF c || (decide (400 < l3.length) || (decide (50 < l4.length) || decide (500 < l5.length))))) = true
 ·rw [if_pos h0, e0]
  simp only [Bool.or_eq_true, Bool.not_eq_true', decide_eq_true_eq] at h0
  rcases h0 with h | h | h | h | h
  ·rw [h]; rfl
  ·rw [h]; simp
  ·simp [show ¬ l3.length ≤ 400 by omega]
  ·simp [show ¬ l4.length ≤ 50 by omega]
  ·simp [show ¬ l5.length ≤ 500 by omega]
 ·rw [if_neg h0, e0]
  simp only [Bool.or_eq_true, Bool.not_eq_true', decide_eq_true_eq, not_or, Bool.not_eq_false, Bool.not_eq_true] at h0
  rw [h0.1, h0.2.1, decide_eq_true (by omega : l3.length ≤ 400), decide_eq_true (by omega : l4.length ≤ 50), decide_eq_true (by omega : l5.length ≤ 500), Bool.not_false, Bool.true_and, Bool.true_and, Bool.true_and, Bool.true_and, Bool.true_and]
  by_cases h1 : (l3.any Jh || !ZU (fun i j => QN (xL l3 (i : Int)) (xL l3 (j : Int))) l3.length) = true
  ·rw [if_pos h1]
   have : ¬ (List.range l3.length).all (Qs (l3.map uJ)) = true := by
    rw [zvq]
    rintro ⟨p, q⟩
    rw [p, q] at h1; cases h1
   rw [Bool.not_eq_true] at this
   rw [this, Bool.false_and]
  ·rw [if_neg h1]
   simp only [Bool.or_eq_true, Bool.not_eq_true', not_or, Bool.not_eq_true, Bool.not_eq_false] at h1
   rw [(zvq l3).2 h1, Bool.true_and]
   have ha := zZ9 h1.2
   by_cases h2 : (l4.any (Pv l3) || !ZU (fun i j => cmpL (uE l4 (i : Int)) (uE l4 (j : Int))) l4.length) = true
   ·rw [if_pos h2]
    have : ¬ (List.range l4.length).all (Qt (l3.map uJ) (l4.map jk)) = true := by
     rw [zvx l3 ha]
     rintro ⟨p, q⟩
     rw [p, q] at h2; cases h2
    rw [Bool.not_eq_true] at this
    rw [this, Bool.false_and]
   ·rw [if_neg h2]
    simp only [Bool.or_eq_true, Bool.not_eq_true', not_or, Bool.not_eq_true, Bool.not_eq_false] at h2
    rw [(zvx l3 ha l4).2 h2, Bool.true_and, Bool.eq_iff_iff, zVg l3 ha l5, Bool.and_eq_true, Bool.not_eq_true']
end Go.Proofs.YtaifemkokfoadaaGreatDoor
namespace Go.Proofs.YtaifemkokfoadaaGreatDoor.PX
open Go.RowKit Go.Proofs.zy.zu Go.Proofs.zy.yI Go.Proofs.zy.yD
attribute [local go_sem] xw xZ xP xR qD qE xQ xX   -- for this text's walks alone
set_option linter.unusedVariables false
set_option linter.unusedSimpArgs false
def qH.l0 : Nat → ByteArray → Int → Int → Option (Bool)
 | 0, _, _, _ => none
 | k + 1, x0, x1, x5 => if x5 < (x0.size : Int) then (if 0 ≤ x5 then (if (bt x0 x5) = x1 then (some true) else (qH.l0 k x0 x1 (wrap64 (x5 + 1)))) else (none)) else (some false)
def qH.f (k : Nat) (a0 : ByteArray) (a1 : Int) : Option (Bool) := qH.l0 k a0 a1 0
set_option maxHeartbeats 8000000 in
set_option maxRecDepth 100000 in
theorem qH.calls (k : Nat) (a0 : ByteArray) (a1 : Int) (r : Bool) (w : World) (h : qH.f k a0 a1 = some r) :
  Calls Tryz.prog 96 #[.string a0, .int .u8 a1] w fun e w' => e = .returned (.bool r) ∧ yx w w' := by
 have H : (qH.l0 k a0 a1 0) = some r := h
 clear h
 have H' := zx.mk H
 clear H
 go_enter Tryz.func96, Tryz.ntmps96
 go_wp2
 go_loopg [5] k (fun kq v5 w' => ∃ (yR : Int), v5 = .int .i64 yR ∧ zx (qH.l0 kq a0 a1 yR = some r) ∧ zx (kq ≤ k) ∧ yx w w')
 case atStart => exact ⟨(0), (by first | rfl | (simp; done) | (simp [*]; done)), H', ⟨Nat.le_refl _⟩, by repeat (first | exact yx.refl _ | apply yx.step)⟩
 case round =>
  clear H'
  try clear p2
  obtain ⟨yR, rfl, HA, jv, ⟨m1, rfl⟩⟩ := hrel
  cases gk with
  | zero => exact absurd HA.out (by simp [qH.l0])
  | succ k1 =>
   have H := HA.out
   clear HA
   simp only [qH.l0] at H
   by_cases c3 : yR < (a0.size : Int)
   ·rw [if_pos c3] at H
    have ZR : decide (yR < (a0.size : Int)) = true := decide_eq_true c3
    clear c3
    by_cases c4 : 0 ≤ yR
    ·rw [if_pos c4] at H
     have Xw : decide (0 ≤ yR) = true := decide_eq_true c4
     clear c4
     by_cases c6 : (bt a0 yR) = a1
     ·rw [if_pos c6] at H
      have ZF : ((bt a0 yR) == a1) = true := beq_iff_eq.mpr c6
      have tq : ((bt a0 yR) != a1) = false := bne_eq_false_iff_eq.mpr c6
      clear c6
      obtain rfl := Option.some.inj H
      have p5 : 0 ≤ (yR : Int) := of_decide_eq_true (by first | (with_reducible assumption) | assumption)
      have q5 : yR < (a0.size : Int) := of_decide_eq_true (by first | (with_reducible assumption) | assumption)
      have hx5 := Wh a0 yR
      replace p5 := eq_true p5
      replace q5 := eq_true q5
      go_wp2
      go_ret
      exact ⟨by first | rfl | (simp; done) | (simp [*]; done), by repeat (first | exact yx.refl _ | apply yx.step)⟩
     ·rw [if_neg c6] at H
      have ZF : ((bt a0 yR) == a1) = false := beq_eq_false_iff_ne.mpr c6
      have tq : ((bt a0 yR) != a1) = true := bne_iff_ne.mpr c6
      have H' := zx.mk H
      clear H
      have p5 : 0 ≤ (yR : Int) := of_decide_eq_true (by first | (with_reducible assumption) | assumption)
      have q5 : yR < (a0.size : Int) := of_decide_eq_true (by first | (with_reducible assumption) | assumption)
      have hx5 := Wh a0 yR
      replace p5 := eq_true p5
      replace q5 := eq_true q5
      go_wp2
      go_roundg k1
      case measure => have := jv.out; omega
      case rel => exact ⟨(wrap64 (yR + 1)), (by first | rfl | (simp; done) | (simp [*]; done)), H', ⟨by have := jv.out; omega⟩, by repeat (first | exact yx.refl _ | apply yx.step)⟩
    ·rw [if_neg c4] at H
     exact absurd H (by simp)
   ·rw [if_neg c3] at H
    have ZR : decide (yR < (a0.size : Int)) = false := decide_eq_false c3
    clear c3
    obtain rfl := Option.some.inj H
    go_wp2
    go_ret
    exact ⟨by first | rfl | (simp; done) | (simp [*]; done), by repeat (first | exact yx.refl _ | apply yx.step)⟩
end Go.Proofs.YtaifemkokfoadaaGreatDoor.PX
namespace Go.Proofs.YtaifemkokfoadaaGreatDoor.PX
open Go.RowKit Go.Proofs.zy.zu Go.Proofs.zy.yI Go.Proofs.zy.yD
attribute [local go_sem] xw xZ xP xR qD qE xQ xX   -- for this text's walks alone
set_option linter.unusedVariables false
set_option linter.unusedSimpArgs false
def qd.j0 : Nat → Int → Bool → Option (Int)
 | 0, _, _ => none
 | k + 1, x0, x9 => if x9 = true then (some 750) else ((qH.f k (⟨#[77, 87, 64, 37]⟩ : ByteArray) x0).bind fun oG => (if oG = true then (some 900) else (if x0 ≥ 65 then (if x0 ≤ 90 then (some 650) else (some 500)) else (some 500))))
def qd.f (k : Nat) (a0 : Int) : Option (Int) := (qH.f k (⟨#[105, 106, 108, 116, 102, 46, 44, 58, 59, 39, 124, 33, 96]⟩ : ByteArray) a0).bind fun oH => (if oH = true then (some 250) else ((qH.f k (⟨#[40, 41, 91, 93, 123, 125, 45, 114, 115, 47, 92, 34]⟩ : ByteArray) a0).bind fun Py => (if Py = true then (some 350) else (if a0 = 109 then (qd.j0 k a0 true) else (qd.j0 k a0 (a0 == 119))))))
set_option maxHeartbeats 8000000 in
set_option maxRecDepth 100000 in
theorem qd.calls (k : Nat) (a0 : Int) (r : Int) (w : World) (h : qd.f k a0 = some r) :
  Calls Tryz.prog 37 #[.int .u8 a0] w fun e w' => e = .returned (.int .i64 r) ∧ yx w w' := by
 have H : ((qH.f k (⟨#[105, 106, 108, 116, 102, 46, 44, 58, 59, 39, 124, 33, 96]⟩ : ByteArray) a0).bind fun oH => (if oH = true then (some 250) else ((qH.f k (⟨#[40, 41, 91, 93, 123, 125, 45, 114, 115, 47, 92, 34]⟩ : ByteArray) a0).bind fun Py => (if Py = true then (some 350) else (if a0 = 109 then (qd.j0 k a0 true) else (qd.j0 k a0 (a0 == 119))))))) = some r := h
 clear h
 replace H := Option.bind_eq_some_iff.mp H
 obtain ⟨oH, A20, H⟩ := H
 replace H : (if oH = true then (some 250) else ((qH.f k (⟨#[40, 41, 91, 93, 123, 125, 45, 114, 115, 47, 92, 34]⟩ : ByteArray) a0).bind fun Py => (if Py = true then (some 350) else (if a0 = 109 then (qd.j0 k a0 true) else (qd.j0 k a0 (a0 == 119)))))) = some r := H
 have A2 := zx.mk A20
 clear A20
 by_cases c3 : oH = true
 ·subst c3
  have H1 : (some 250) = some r := by rw [if_pos rfl] at H; exact H
  clear H
  have H := H1
  clear H1
  obtain rfl := Option.some.inj H
  go_enter Tryz.func37, Tryz.ntmps37
  go_wp2_with (first | ((with_reducible refine yY (f := 96) rfl ?_); refine uN (some 5) Tryz.func96 #[.string (⟨#[105, 106, 108, 116, 102, 46, 44, 58, 59, 39, 124, 33, 96]⟩ : ByteArray), .int .u8 a0] ?_; (with_reducible refine (qH.calls k (⟨#[105, 106, 108, 116, 102, 46, 44, 58, 59, 39, 124, 33, 96]⟩ : ByteArray) a0 true _ A2.out).mono ?_); rintro e w' ⟨rfl, ⟨nd, rfl⟩⟩; refine ⟨_, rfl, ?_⟩))
  go_ret
  exact ⟨by first | rfl | (simp; done) | (simp [*]; done), by repeat (first | exact yx.refl _ | apply yx.step)⟩
 ·replace c3 := Bool.eq_false_iff.mpr c3
  subst c3
  have H1 : ((qH.f k (⟨#[40, 41, 91, 93, 123, 125, 45, 114, 115, 47, 92, 34]⟩ : ByteArray) a0).bind fun Py => (if Py = true then (some 350) else (if a0 = 109 then (qd.j0 k a0 true) else (qd.j0 k a0 (a0 == 119))))) = some r := by rw [if_neg (show ¬ (false = true) by decide)] at H; exact H
  clear H
  have H := H1
  clear H1
  replace H := Option.bind_eq_some_iff.mp H
  obtain ⟨Py, Jy, H⟩ := H
  replace H : (if Py = true then (some 350) else (if a0 = 109 then (qd.j0 k a0 true) else (qd.j0 k a0 (a0 == 119)))) = some r := H
  have A4 := zx.mk Jy
  clear Jy
  by_cases c5 : Py = true
  ·subst c5
   have H1 : (some 350) = some r := by rw [if_pos rfl] at H; exact H
   clear H
   have H := H1
   clear H1
   obtain rfl := Option.some.inj H
   go_enter Tryz.func37, Tryz.ntmps37
   go_wp2_with (first | ((with_reducible refine yY (f := 96) rfl ?_); refine uN (some 5) Tryz.func96 #[.string (⟨#[105, 106, 108, 116, 102, 46, 44, 58, 59, 39, 124, 33, 96]⟩ : ByteArray), .int .u8 a0] ?_; (with_reducible refine (qH.calls k (⟨#[105, 106, 108, 116, 102, 46, 44, 58, 59, 39, 124, 33, 96]⟩ : ByteArray) a0 false _ A2.out).mono ?_); rintro e w' ⟨rfl, ⟨nd, rfl⟩⟩; refine ⟨_, rfl, ?_⟩) | ((with_reducible refine yY (f := 96) rfl ?_); refine uN (some 8) Tryz.func96 #[.string (⟨#[40, 41, 91, 93, 123, 125, 45, 114, 115, 47, 92, 34]⟩ : ByteArray), .int .u8 a0] ?_; (with_reducible refine (qH.calls k (⟨#[40, 41, 91, 93, 123, 125, 45, 114, 115, 47, 92, 34]⟩ : ByteArray) a0 true _ A4.out).mono ?_); rintro e w' ⟨rfl, ⟨nd, rfl⟩⟩; refine ⟨_, rfl, ?_⟩))
   go_ret
   exact ⟨by first | rfl | (simp; done) | (simp [*]; done), by repeat (first | exact yx.refl _ | apply yx.step)⟩
  ·replace c5 := Bool.eq_false_iff.mpr c5
   subst c5
   have H1 : (if a0 = 109 then (qd.j0 k a0 true) else (qd.j0 k a0 (a0 == 119))) = some r := by rw [if_neg (show ¬ (false = true) by decide)] at H; exact H
   clear H
   have H := H1
   clear H1
   have HC6 := zx.mk H
   clear H
   go_enter Tryz.func37, Tryz.ntmps37
   go_upto_region 5 with (first | ((with_reducible refine yY (f := 96) rfl ?_); refine uN (some 5) Tryz.func96 #[.string (⟨#[105, 106, 108, 116, 102, 46, 44, 58, 59, 39, 124, 33, 96]⟩ : ByteArray), .int .u8 a0] ?_; (with_reducible refine (qH.calls k (⟨#[105, 106, 108, 116, 102, 46, 44, 58, 59, 39, 124, 33, 96]⟩ : ByteArray) a0 false _ A2.out).mono ?_); rintro e w' ⟨rfl, ⟨nd, rfl⟩⟩; refine ⟨_, rfl, ?_⟩) | ((with_reducible refine yY (f := 96) rfl ?_); refine uN (some 8) Tryz.func96 #[.string (⟨#[40, 41, 91, 93, 123, 125, 45, 114, 115, 47, 92, 34]⟩ : ByteArray), .int .u8 a0] ?_; (with_reducible refine (qH.calls k (⟨#[40, 41, 91, 93, 123, 125, 45, 114, 115, 47, 92, 34]⟩ : ByteArray) a0 false _ A4.out).mono ?_); rintro e w' ⟨rfl, ⟨nd, rfl⟩⟩; refine ⟨_, rfl, ?_⟩))
   (try simp only [Act.put, List.setIfInBounds_toArray, List.set_cons_zero, List.set_cons_succ])
   go_cut [9] (fun v9 wc => ∃ (kq : Nat) (zww : Bool), v9 = .bool zww ∧ zx (qd.j0 kq a0 zww = some r) ∧ zx (kq ≤ k) ∧ yx w wc)
   case first =>
    have H := HC6.out
    clear HC6
    by_cases c7 : a0 = 109
    ·rw [if_pos c7] at H
     have ZT : (a0 == 109) = true := beq_iff_eq.mpr c7
     have oI : (a0 != 109) = false := bne_eq_false_iff_eq.mpr c7
     clear c7
     (first | rw [ZT] | (simp only [Xk, QX]; rw [ZT]) | skip)
     have H' := zx.mk H
     clear H
     go_wp2
     go_meet
     case rel => exact ⟨_, (true), (by first | rfl | (simp; done) | (simp [*]; done)), H', ⟨by first | omega | exact Nat.le_refl _⟩, by repeat (first | exact yx.refl _ | apply yx.step)⟩
    ·rw [if_neg c7] at H
     have ZT : (a0 == 109) = false := beq_eq_false_iff_ne.mpr c7
     have oI : (a0 != 109) = true := bne_iff_ne.mpr c7
     (first | rw [ZT] | (simp only [Xk, QX]; rw [ZT]) | skip)
     have H' := zx.mk H
     clear H
     go_wp2
     go_meet
     case rel => exact ⟨_, ((a0 == 119)), (by first | rfl | (simp; done) | (simp [*]; done)), H', ⟨by first | omega | exact Nat.le_refl _⟩, by repeat (first | exact yx.refl _ | apply yx.step)⟩
   case rest =>
    clear HC6
    try clear p2
    try clear c3
    try clear c5
    try clear c7
    try clear ZT
    try clear oI
    obtain ⟨kq, zww, rfl, HA, HJ5, ⟨mc5, rfl⟩⟩ := hcut
    cases kq with
    | zero => exact absurd HA.out (by simp [qd.j0])
    | succ kj5 =>
     have H := HA.out
     clear HA
     simp only [qd.j0] at H
     by_cases c8 : zww = true
     ·subst c8
      have H1 : (some 750) = some r := by rw [if_pos rfl] at H; exact H
      clear H
      have H := H1
      clear H1
      obtain rfl := Option.some.inj H
      go_wp2
      go_ret
      exact ⟨by first | rfl | (simp; done) | (simp [*]; done), by repeat (first | exact yx.refl _ | apply yx.step)⟩
     ·replace c8 := Bool.eq_false_iff.mpr c8
      subst c8
      have H1 : ((qH.f kj5 (⟨#[77, 87, 64, 37]⟩ : ByteArray) a0).bind fun oG => (if oG = true then (some 900) else (if a0 ≥ 65 then (if a0 ≤ 90 then (some 650) else (some 500)) else (some 500)))) = some r := by rw [if_neg (show ¬ (false = true) by decide)] at H; exact H
      clear H
      have H := H1
      clear H1
      replace H := Option.bind_eq_some_iff.mp H
      obtain ⟨oG, A90, H⟩ := H
      replace H : (if oG = true then (some 900) else (if a0 ≥ 65 then (if a0 ≤ 90 then (some 650) else (some 500)) else (some 500))) = some r := H
      have A9 := zx.mk A90
      clear A90
      by_cases c10 : oG = true
      ·subst c10
       have H1 : (some 900) = some r := by rw [if_pos rfl] at H; exact H
       clear H
       have H := H1
       clear H1
       obtain rfl := Option.some.inj H
       go_wp2_with (first | ((with_reducible refine yY (f := 96) rfl ?_); refine uN (some 18) Tryz.func96 #[.string (⟨#[77, 87, 64, 37]⟩ : ByteArray), .int .u8 a0] ?_; (with_reducible refine (qH.calls kj5 (⟨#[77, 87, 64, 37]⟩ : ByteArray) a0 true _ A9.out).mono ?_); rintro e w' ⟨rfl, ⟨nd, rfl⟩⟩; refine ⟨_, rfl, ?_⟩))
       go_ret
       exact ⟨by first | rfl | (simp; done) | (simp [*]; done), by repeat (first | exact yx.refl _ | apply yx.step)⟩
      ·replace c10 := Bool.eq_false_iff.mpr c10
       subst c10
       have H1 : (if a0 ≥ 65 then (if a0 ≤ 90 then (some 650) else (some 500)) else (some 500)) = some r := by rw [if_neg (show ¬ (false = true) by decide)] at H; exact H
       clear H
       have H := H1
       clear H1
       by_cases c11 : a0 ≥ 65
       ·rw [if_pos c11] at H
        have zJv : decide (65 ≤ a0) = true := decide_eq_true c11
        clear c11
        by_cases c12 : a0 ≤ 90
        ·rw [if_pos c12] at H
         have zaU : decide (a0 ≤ 90) = true := decide_eq_true c12
         clear c12
         obtain rfl := Option.some.inj H
         go_wp2_with (first | ((with_reducible refine yY (f := 96) rfl ?_); refine uN (some 18) Tryz.func96 #[.string (⟨#[77, 87, 64, 37]⟩ : ByteArray), .int .u8 a0] ?_; (with_reducible refine (qH.calls kj5 (⟨#[77, 87, 64, 37]⟩ : ByteArray) a0 false _ A9.out).mono ?_); rintro e w' ⟨rfl, ⟨nd, rfl⟩⟩; refine ⟨_, rfl, ?_⟩))
         go_ret
         exact ⟨by first | rfl | (simp; done) | (simp [*]; done), by repeat (first | exact yx.refl _ | apply yx.step)⟩
        ·rw [if_neg c12] at H
         have zaU : decide (a0 ≤ 90) = false := decide_eq_false c12
         clear c12
         obtain rfl := Option.some.inj H
         go_wp2_with (first | ((with_reducible refine yY (f := 96) rfl ?_); refine uN (some 18) Tryz.func96 #[.string (⟨#[77, 87, 64, 37]⟩ : ByteArray), .int .u8 a0] ?_; (with_reducible refine (qH.calls kj5 (⟨#[77, 87, 64, 37]⟩ : ByteArray) a0 false _ A9.out).mono ?_); rintro e w' ⟨rfl, ⟨nd, rfl⟩⟩; refine ⟨_, rfl, ?_⟩))
         go_ret
         exact ⟨by first | rfl | (simp; done) | (simp [*]; done), by repeat (first | exact yx.refl _ | apply yx.step)⟩
       ·rw [if_neg c11] at H
        have zJv : decide (65 ≤ a0) = false := decide_eq_false c11
        clear c11
        obtain rfl := Option.some.inj H
        go_wp2_with (first | ((with_reducible refine yY (f := 96) rfl ?_); refine uN (some 18) Tryz.func96 #[.string (⟨#[77, 87, 64, 37]⟩ : ByteArray), .int .u8 a0] ?_; (with_reducible refine (qH.calls kj5 (⟨#[77, 87, 64, 37]⟩ : ByteArray) a0 false _ A9.out).mono ?_); rintro e w' ⟨rfl, ⟨nd, rfl⟩⟩; refine ⟨_, rfl, ?_⟩))
        go_ret
        exact ⟨by first | rfl | (simp; done) | (simp [*]; done), by repeat (first | exact yx.refl _ | apply yx.step)⟩
end Go.Proofs.YtaifemkokfoadaaGreatDoor.PX
namespace Go.Proofs.YtaifemkokfoadaaGreatDoor.PX
open Go.RowKit Go.Proofs.zy.zu Go.Proofs.zy.yI Go.Proofs.zy.yD
attribute [local go_sem] xw xZ xP xR qD qE xQ xX   -- for this text's walks alone
set_option linter.unusedVariables false
set_option linter.unusedSimpArgs false
def yE.l0 : Nat → List (zo) → Int → ByteArray → Int → Option ((List (zo)))
 | 0, _, _, _, _ => none
 | k + 1, x0, x5, nI, oL => if x5 > 0 then (if 0 ≤ (wrap64 (x5 - 1)) then (if (wrap64 (x5 - 1)) < (x0.length : Int) then (if (Op.bytesLess nI.toList (((zN x0 (wrap64 (x5 - 1))).f0).toList)) = true then (yE.l0 k x0 (wrap64 (x5 - 1)) nI oL) else ((some (([] : List (zo)) : List (zo))).bind fun QT => (if 0 ≤ x5 then (if x5 ≤ (x0.length : Int) then ((some (x0.take (x5 : Int).toNat : List (zo))).bind fun Yb => (if QT.length + Yb.length < 5864062014805 then ((some (QT ++ Yb : List (zo))).bind fun y113 => (if y113.length < 5864062014805 then ((some (y113 ++ [(⟨nI, oL⟩ : zo)] : List (zo))).bind fun Z0 => ((some (x0.drop (x5 : Int).toNat : List (zo))).bind fun jO => (if Z0.length + jO.length < 5864062014805 then (some (Z0 ++ jO)) else (none)))) else (none))) else (none))) else (none)) else (none)))) else (none)) else (none)) else ((some (([] : List (zo)) : List (zo))).bind fun Ji => (if 0 ≤ x5 then (if x5 ≤ (x0.length : Int) then ((some (x0.take (x5 : Int).toNat : List (zo))).bind fun XQ => (if Ji.length + XQ.length < 5864062014805 then ((some (Ji ++ XQ : List (zo))).bind fun Qu => (if Qu.length < 5864062014805 then ((some (Qu ++ [(⟨nI, oL⟩ : zo)] : List (zo))).bind fun YA => ((some (x0.drop (x5 : Int).toNat : List (zo))).bind fun kK => (if YA.length + kK.length < 5864062014805 then (some (YA ++ kK)) else (none)))) else (none))) else (none))) else (none)) else (none)))
def yE.f (k : Nat) (l0 : List (zo)) (qc : ByteArray) (qN : Int) : Option ((List (zo))) := yE.l0 k l0 (l0.length : Int) qc qN
set_option maxHeartbeats 8000000 in
set_option maxRecDepth 100000 in
theorem yE.calls (k : Nat) (A0 : Option Addr) (c0 : Nat) (l0 : List (zo)) (qc : ByteArray) (qN : Int) (r : List (zo)) (w : World) (hr0 : Kd.C qJ w A0 l0.length l0) (hc0 : l0.length ≤ c0) (h : yE.f k l0 qc qN = some r) :
  Calls Tryz.prog 38 #[.slice A0 l0.length c0, .agg #[.string qc, .int .i64 qN]] w fun e w' => ∃ Jk : Value, e = .returned (Jk) ∧ Kd.R qJ 81 w' w.heap.size (fun _ => True) Jk r ∧ Below w.heap.size w w' := by
 have zXk := Tryz.underlying81
 have kG := zx.mk hr0
 have ZW := zx.mk hc0
 clear hr0 hc0
 have HB := zx.mk (Below.refl w.heap.size w)
 have H : (yE.l0 k l0 (l0.length : Int) qc qN) = some r := h
 clear h
 have H' := zx.mk H
 clear H
 go_enter Tryz.func38, Tryz.ntmps38
 go_wp2_with (first | ((with_reducible refine qx (N := 3) rfl ?_); refine ql ?hg (N := 3) ?hd (cs := #[.string qc, .int .i64 qN]) (t := 81) ?hr ?_; (case hd => rfl); (case hg => rfl); (case hr => first | (go_simp; done) | (go_simp; rfl)); intro qY hg w3 qK hb; have zf := zx.mk (zI (zD HB.out) hb); have zh := zx.mk (qK); have zA := zx.mk ((by rw [hg]; exact (zV (zD HB.out)) : w.heap.size ≤ qY)); have zR := zx.mk ((by rw [hg]; exact (zV (zD HB.out)) : w.heap.size ≤ qY)); clear HB; have HB := zf; have yL := zh; have zJk := zA; have zq2 := zR; clear zf zh zA zR; clear hb qK hg))
 repeat (go_quiet (first | ((with_reducible refine qx (N := 3) rfl ?_); refine ql ?hg (N := 3) ?hd (cs := #[.string qc, .int .i64 qN]) (t := 81) ?hr ?_; (case hd => rfl); (case hg => rfl); (case hr => first | (go_simp; done) | (go_simp; rfl)); intro qY hg w3 qK hb; have zf := zx.mk (zI (zD HB.out) hb); have zh := zx.mk (qK); have zA := zx.mk ((by rw [hg]; exact (zV (zD HB.out)) : w.heap.size ≤ qY)); have zR := zx.mk ((by rw [hg]; exact (zV (zD HB.out)) : w.heap.size ≤ qY)); clear HB; have HB := zf; have yL := zh; have zJk := zA; have zq2 := zR; clear zf zh zA zR; clear hb qK hg)); try go_wp2_with (first | ((with_reducible refine qx (N := 3) rfl ?_); refine ql ?hg (N := 3) ?hd (cs := #[.string qc, .int .i64 qN]) (t := 81) ?hr ?_; (case hd => rfl); (case hg => rfl); (case hr => first | (go_simp; done) | (go_simp; rfl)); intro qY hg w3 qK hb; have zf := zx.mk (zI (zD HB.out) hb); have zh := zx.mk (qK); have zA := zx.mk ((by rw [hg]; exact (zV (zD HB.out)) : w.heap.size ≤ qY)); have zR := zx.mk ((by rw [hg]; exact (zV (zD HB.out)) : w.heap.size ≤ qY)); clear HB; have HB := zf; have yL := zh; have zJk := zA; have zq2 := zR; clear zf zh zA zR; clear hb qK hg)))
 go_loopg [5] k (fun kq v5 w' => ∃ (yR : Int), v5 = .int .i64 yR ∧ zx (yE.l0 kq l0 yR qc qN = some r) ∧ zx (kq ≤ k) ∧ zx (w'.heap[qY]? = some (.cells #[.string qc, .int .i64 qN] 81 (0, 0))) ∧ zx (Below w.heap.size w w'))
 case atStart => exact ⟨((l0.length : Int)), (by first | rfl | (simp; done) | (simp [*]; done)), H', ⟨Nat.le_refl _⟩, ⟨yt yL.out⟩, ⟨zD HB.out⟩⟩
 case round =>
  clear H'
  try clear p2
  try clear c3
  obtain ⟨yR, rfl, HA, jv, yL, HB⟩ := hrel
  cases gk with
  | zero => exact absurd HA.out (by simp [yE.l0])
  | succ k1 =>
   have H := HA.out
   clear HA
   simp only [yE.l0] at H
   by_cases c4 : yR > 0
   ·rw [if_pos c4] at H
    have Xw : decide (0 < yR) = true := decide_eq_true c4
    clear c4
    obtain ⟨vD, Jl⟩ : ∃ j_ : Int, (wrap64 (yR - 1)) = j_ := ⟨_, rfl⟩
    replace H : (if 0 ≤ (vD) then (if (vD) < (l0.length : Int) then (if (Op.bytesLess qc.toList (((zN l0 (vD)).f0).toList)) = true then (yE.l0 k1 l0 vD qc qN) else ((some (([] : List (zo)) : List (zo))).bind fun QT => (if 0 ≤ yR then (if yR ≤ (l0.length : Int) then ((some (l0.take (yR : Int).toNat : List (zo))).bind fun Yb => (if QT.length + Yb.length < 5864062014805 then ((some (QT ++ Yb : List (zo))).bind fun y113 => (if y113.length < 5864062014805 then ((some (y113 ++ [(⟨qc, qN⟩ : zo)] : List (zo))).bind fun Z0 => ((some (l0.drop (yR : Int).toNat : List (zo))).bind fun jO => (if Z0.length + jO.length < 5864062014805 then (some (Z0 ++ jO)) else (none)))) else (none))) else (none))) else (none)) else (none)))) else (none)) else (none)) = some r := by first | (rw [Jl] at H; exact H) | (simp only [Jl] at H ⊢; exact H)
    have za0 : (IntKind.i64.wrap (yR - 1)) = vD := (Xk _).trans Jl
    by_cases c6 : 0 ≤ (vD)
    ·rw [if_pos c6] at H
     have ZF : decide (0 ≤ (vD)) = true := decide_eq_true c6
     clear c6
     by_cases c7 : (vD) < (l0.length : Int)
     ·rw [if_pos c7] at H
      have ZT : decide ((vD) < (l0.length : Int)) = true := decide_eq_true c7
      clear c7
      by_cases c8 : (Op.bytesLess qc.toList (((zN l0 (vD)).f0).toList)) = true
      ·rw [if_pos c8] at H
       have Pj : (Op.bytesLess qc.toList (((zN l0 (vD)).f0).toList)) = true := c8
       have zQR : (!(Op.bytesLess (((zN l0 (vD)).f0).toList) qc.toList || (((zN l0 (vD)).f0).toList) == qc.toList)) = true := (Q9 _ _).trans (c8)
       have zQS : (qc.toList == (((zN l0 (vD)).f0).toList)) = false := zq0 (c8)
       have zQT : ((((zN l0 (vD)).f0).toList) == qc.toList) = false := fK (c8)
       have zdY : Op.bytesLess (((zN l0 (vD)).f0).toList) qc.toList = false := nD (c8)
       clear c8
       have H' := zx.mk H
       clear H
       have tO : 0 ≤ ((vD) : Int) := of_decide_eq_true (by first | (with_reducible assumption) | assumption)
       have tT : (vD) < (l0.length : Int) := of_decide_eq_true (by first | (with_reducible assumption) | assumption)
       obtain ⟨Z4, zXy, Uc, Ud⟩ := ZY kG.out (vD) tO tT
       cases zXy
       replace Uc := (HB.out.cell (World.block_lt_of_cell? w _ Uc)).trans Uc
       replace Ud := (HB.out.cell (World.block_lt_of_cell? w _ Ud)).trans Ud
       replace tO := eq_true tO
       replace tT := eq_true tT
       have KA : wr.cell? ⟨qY, 0, none⟩ = some (.string qc) := (zk yL.out 0).trans rfl
       have KC : wr.cell? ⟨qY, 1, none⟩ = some (.int .i64 qN) := (zk yL.out 1).trans rfl
       have KD := zw yL.out 0
       have KE := zw yL.out 1
       go_wp2
       repeat (go_quiet (fail); try go_wp2)
       go_roundg k1
       case measure => have := jv.out; omega
       case rel => exact ⟨(vD), (by first | rfl | (simp; done) | (simp only [← Jl] <;> (first | rfl | simp)) | (simp [*]; done)), H', ⟨by have := jv.out; omega⟩, ⟨yt yL.out⟩, ⟨zD HB.out⟩⟩
      ·rw [if_neg c8] at H
       have Pj : (Op.bytesLess qc.toList (((zN l0 (vD)).f0).toList)) = false := by simpa using c8
       have zQR : (!(Op.bytesLess (((zN l0 (vD)).f0).toList) qc.toList || (((zN l0 (vD)).f0).toList) == qc.toList)) = false := (Q9 _ _).trans (by simpa using c8)
       try have zQS : (qc.toList == (((zN l0 (vD)).f0).toList)) = true := Wt (x := qc.toList) (y := (((zN l0 (vD)).f0).toList)) (by assumption) (by assumption)
       try have zQT : ((((zN l0 (vD)).f0).toList) == qc.toList) = true := Wt (x := (((zN l0 (vD)).f0).toList)) (y := qc.toList) (by assumption) (by assumption)
       clear c8
       obtain ⟨QT, fI⟩ : ∃ y_ : List (zo), y_ = (([] : List (zo))) := ⟨_, rfl⟩
       replace H : (if 0 ≤ yR then (if yR ≤ (l0.length : Int) then ((some (l0.take (yR : Int).toNat : List (zo))).bind fun Yb => (if QT.length + Yb.length < 5864062014805 then ((some (QT ++ Yb : List (zo))).bind fun y113 => (if y113.length < 5864062014805 then ((some (y113 ++ [(⟨qc, qN⟩ : zo)] : List (zo))).bind fun Z0 => ((some (l0.drop (yR : Int).toNat : List (zo))).bind fun jO => (if Z0.length + jO.length < 5864062014805 then (some (Z0 ++ jO)) else (none)))) else (none))) else (none))) else (none)) else (none)) = some r := by first | (rw [fI]; with_reducible exact H) | (have xJ := (Option.bind_some _ _).symm.trans H; rw [fI]; with_reducible exact xJ) | (have xJ := (Option.bind_some _ _).symm.trans H; with_reducible exact xJ) | with_reducible exact H | (rw [fI]; exact H) | exact H
       have nL := zx.mk fI
       clear fI
       by_cases c10 : 0 ≤ yR
       ·rw [if_pos c10] at H
        have fM := eq_true c10
        have za1 : decide (0 ≤ yR) = true := decide_eq_true c10
        clear c10
        by_cases c11 : yR ≤ (l0.length : Int)
        ·rw [if_pos c11] at H
         have zJv := eq_true c11
         have ziJ : decide (yR ≤ (l0.length : Int)) = true := decide_eq_true c11
         clear c11
         obtain ⟨Yb, fO⟩ : ∃ y_ : List (zo), y_ = (l0.take (yR : Int).toNat) := ⟨_, rfl⟩
         replace H : (if QT.length + Yb.length < 5864062014805 then ((some (QT ++ Yb : List (zo))).bind fun y113 => (if y113.length < 5864062014805 then ((some (y113 ++ [(⟨qc, qN⟩ : zo)] : List (zo))).bind fun Z0 => ((some (l0.drop (yR : Int).toNat : List (zo))).bind fun jO => (if Z0.length + jO.length < 5864062014805 then (some (Z0 ++ jO)) else (none)))) else (none))) else (none)) = some r := by first | (rw [fO]; with_reducible exact H) | (have xJ := (Option.bind_some _ _).symm.trans H; rw [fO]; with_reducible exact xJ) | (have xJ := (Option.bind_some _ _).symm.trans H; with_reducible exact xJ) | with_reducible exact H | (rw [fO]; exact H) | exact H
         have nM := zx.mk fO
         clear fO
         by_cases c12 : QT.length + Yb.length < 5864062014805
         ·rw [if_pos c12] at H
          have fP := zx.mk c12
          clear c12
          obtain ⟨y113, hy113⟩ : ∃ y_ : List (zo), y_ = (QT ++ Yb) := ⟨_, rfl⟩
          replace H : (if y113.length < 5864062014805 then ((some (y113 ++ [(⟨qc, qN⟩ : zo)] : List (zo))).bind fun Z0 => ((some (l0.drop (yR : Int).toNat : List (zo))).bind fun jO => (if Z0.length + jO.length < 5864062014805 then (some (Z0 ++ jO)) else (none)))) else (none)) = some r := by first | (rw [hy113]; with_reducible exact H) | (have xJ := (Option.bind_some _ _).symm.trans H; rw [hy113]; with_reducible exact xJ) | (have xJ := (Option.bind_some _ _).symm.trans H; with_reducible exact xJ) | with_reducible exact H | (rw [hy113]; exact H) | exact H
          have zwZ := zx.mk hy113
          clear hy113
          by_cases c13 : y113.length < 5864062014805
          ·rw [if_pos c13] at H
           have zwQ := zx.mk c13
           clear c13
           obtain ⟨Z0, fT⟩ : ∃ y_ : List (zo), y_ = (y113 ++ [(⟨qc, qN⟩ : zo)]) := ⟨_, rfl⟩
           replace H : ((some (l0.drop (yR : Int).toNat : List (zo))).bind fun jO => (if Z0.length + jO.length < 5864062014805 then (some (Z0 ++ jO)) else (none))) = some r := by first | (rw [fT]; with_reducible exact H) | (have xJ := (Option.bind_some _ _).symm.trans H; rw [fT]; with_reducible exact xJ) | (have xJ := (Option.bind_some _ _).symm.trans H; with_reducible exact xJ) | with_reducible exact H | (rw [fT]; exact H) | exact H
           have zwX := zx.mk fT
           clear fT
           have ziV := eq_true (of_decide_eq_true (by first | (with_reducible assumption) | assumption) : 0 ≤ yR)
           have ziK := eq_true (of_decide_eq_true (by first | (with_reducible assumption) | assumption) : yR ≤ (l0.length : Int))
           obtain ⟨jO, fU⟩ : ∃ y_ : List (zo), y_ = (l0.drop (yR : Int).toNat) := ⟨_, rfl⟩
           replace H : (if Z0.length + jO.length < 5864062014805 then (some (Z0 ++ jO)) else (none)) = some r := by first | (rw [fU]; with_reducible exact H) | (have xJ := (Option.bind_some _ _).symm.trans H; rw [fU]; with_reducible exact xJ) | (have xJ := (Option.bind_some _ _).symm.trans H; with_reducible exact xJ) | with_reducible exact H | (rw [fU]; exact H) | exact H
           have nN := zx.mk fU
           clear fU
           by_cases c16 : Z0.length + jO.length < 5864062014805
           ·rw [if_pos c16] at H
            have zwJ := zx.mk c16
            clear c16
            obtain ⟨zdd, eZ⟩ : ∃ y_ : List (zo), y_ = (Z0 ++ jO) := ⟨_, rfl⟩
            replace H : (some zdd) = some r := by first | (rw [eZ]; with_reducible exact H) | (have xJ := (Option.bind_some _ _).symm.trans H; rw [eZ]; with_reducible exact xJ) | (have xJ := (Option.bind_some _ _).symm.trans H; with_reducible exact xJ) | with_reducible exact H | (rw [eZ]; exact H) | exact H
            have zwV := zx.mk eZ
            clear eZ
            obtain rfl := Option.some.inj H
            have tO : 0 ≤ ((vD) : Int) := of_decide_eq_true (by first | (with_reducible assumption) | assumption)
            have tT : (vD) < (l0.length : Int) := of_decide_eq_true (by first | (with_reducible assumption) | assumption)
            obtain ⟨Z4, zXy, Uc, Ud⟩ := ZY kG.out (vD) tO tT
            cases zXy
            replace Uc := (HB.out.cell (World.block_lt_of_cell? w _ Uc)).trans Uc
            replace Ud := (HB.out.cell (World.block_lt_of_cell? w _ Ud)).trans Ud
            replace tO := eq_true tO
            replace tT := eq_true tT
            have oM : wr.cell? ⟨qY, 0, none⟩ = some (.string qc) := (zk yL.out 0).trans rfl
            have oN : wr.cell? ⟨qY, 1, none⟩ = some (.int .i64 qN) := (zk yL.out 1).trans rfl
            have nO := zw yL.out 0
            have nP := zw yL.out 1
            go_wp2_with (first | ((with_reducible refine qx (N := 24) rfl ?_); refine Kd.ZP qJ _ 81 ?hg (N := 24) ?hd (xs := ([] : List (zo))) (inner := []) (ok := fun _ => True) (jc := fun _ => True) ?hr ?hp (fun _ hk => hk) trivial (Below.refl _ _) (Nat.le_refl _) (by simp) ?_; (case hd => rfl); (case hg => rfl); (case hr => first | (go_simp; done) | (go_simp; rfl)); (case hp => exact (yS.none _ _)); intro v107 YD X4 hb wo ug; clear wo ug; (first | rw [← nL.out] at X4 | (simp only [Int.reduceToNat] at X4; rw [← nL.out] at X4)); have zf := zx.mk (Kd.xI (Kd.Pn X4 (g := qY) (o := .cells #[.string qc, .int .i64 qN] 81 (0, 0)) (yt yL.out)) (zV (zD HB.out))); have zh := zx.mk (zl (g := qY) (o := .cells #[.string qc, .int .i64 qN] 81 (0, 0)) (yt yL.out) hb); have zA := zx.mk (zI (zD HB.out) hb); clear yL; clear HB; have VH := zf; have yL := zh; have HB := zA; clear zf zh zA; clear hb X4; have mW : (yR : Int) ≤ ((l0.length : Int) : Int) := of_decide_eq_true (by first | (with_reducible assumption) | assumption); obtain ⟨zY8, WG, _, eX, _⟩ := info_parts u7; have Vy : l0.length ≤ c0 := ZW.out; have mg : Kd.C qJ _ (some Z4) l0.length l0 := kG.out; have mh := Pg (P := Tryz.prog) 40 81 .i64 Tryz.underlying40 WG (some Z4) l0.length c0 yR (of_decide_eq_true (by first | (with_reducible assumption) | assumption)) mW Vy; have KN := Kd.Ph (m := (yR : Int).toNat) mg (by omega); have KO : Yb.length = (yR : Int).toNat := (by rw [nM.out, List.length_take]; omega); rw [← nM.out] at KN; rw [← KO] at mh; have eY := zx.mk KN; have zJy := zx.mk (show Yb.length ≤ c0 from by omega); clear KN mg Vy WG eX; have zY9 := zx.mk KO; clear KO; replace mW := eq_true mW) | ((with_reducible refine vN (b := .append) (xs := #[.tmp 24, .tmp 27]) rfl ?_); at_builtin; refine Kd.jL qJ (w0 := w) w.heap.size rfl (.tmp 24) (.tmp 27) 40 81 (.agg #[(.string ⟨#[]⟩), (.int .i64 0)]) 24 rfl Tryz.underlying40 u7 rfl (by decide) (by omega) v107 QT Yb _ _ _ (fun k_ => k_ ≠ qY) (fun _ => False) rfl rfl ?aO ?aR (fun _ _ h => h) (fun _ h => h.elim) ?aF ?aB ?aS ?aL ?_; (case aR => repeat (first | exact (Kd.zY eY.out HB.out) | (with_reducible refine Kd.zS ?_ _) | (with_reducible refine Kd.zT ?_ _) | (with_reducible refine Kd.yc ?_))); (case aB => exact (zD HB.out)); (case aF => exact (fun k_ hk => Kd.kW (g := qY) (o := .cells #[.string qc, .int .i64 qN] 81 (0, 0)) (yt yL.out) k_ hk)); (case aO => exact (yF (Kd.zL VH.out (fun _ hk => hk.2)))); (case aS => exact (zV (zD HB.out))); (case aL => have := fP.out; omega); intro zxR eD ho hb hg hat; rw [← zwZ.out] at ho; have zf := zx.mk (qQ (g := qY) (o := .cells #[.string qc, .int .i64 qN] 81 (0, 0)) (yt yL.out) hg (Kd.Zx VH.out (fun _ hk => hk.2))); have zh := zx.mk (hb); have zA := zx.mk (ho); clear yL; clear HB; clear VH; have yL := zf; have HB := zh; have VI := zA; clear zf zh zA; clear ho hb hg hat; have zvj : eD.cell? ⟨qY, 0, none⟩ = some (.string qc) := (zk yL.out 0).trans rfl; have zvv : eD.cell? ⟨qY, 1, none⟩ = some (.int .i64 qN) := (zk yL.out 1).trans rfl; have zvk := zw yL.out 0; have zvy := zw yL.out 1) | ((with_reducible refine vN (b := .append) (xs := #[.tmp 29, .tmp 31]) rfl ?_); at_builtin; refine Kd.Xj qJ (w0 := w) w.heap.size rfl (.tmp 29) (.tmp 31) 40 81 (.agg #[(.string ⟨#[]⟩), (.int .i64 0)]) 24 rfl Tryz.underlying40 u7 rfl (by decide) (by omega) zxR y113 (⟨qc, qN⟩ : zo) [.string qc, .int .i64 qN] (fun k_ => k_ ≠ qY) (fun _ => False) rfl rfl ?aP (fun _ hk => hk.elim) ?aF ?aO ?aB ?aS ?aL ?_; (case aP => exact xS _ _ _ (⟨qc, qN⟩ : zo)); (case aB => exact (zD HB.out)); (case aF => exact (fun k_ hk => Kd.kW (g := qY) (o := .cells #[.string qc, .int .i64 qN] 81 (0, 0)) (yt yL.out) k_ hk)); (case aO => exact (yF VI.out)); (case aS => exact (zV (zD HB.out))); (case aL => have := zwQ.out; omega); intro v117 w23 ho hb hg hat; rw [← zwX.out] at ho; have zf := zx.mk (qQ (g := qY) (o := .cells #[.string qc, .int .i64 qN] 81 (0, 0)) (yt yL.out) hg (Kd.Zx VI.out (fun _ hk => hk))); have zh := zx.mk (hb); have zA := zx.mk (ho); clear yL; clear HB; clear VI; have yL := zf; have HB := zh; have VL := zA; clear zf zh zA; clear ho hb hg hat; have q24 : (yR : Int) ≤ ((l0.length : Int) : Int) := of_decide_eq_true (by first | (with_reducible assumption) | assumption); obtain ⟨zWz, WH, _, WI, _⟩ := info_parts u7; have YN : l0.length ≤ c0 := ZW.out; have mo : Kd.C qJ _ (some Z4) l0.length l0 := kG.out; have zxS : (0 : Int) ≤ (yR : Int) := of_decide_eq_true (by first | (with_reducible assumption) | assumption); have mD := UQ (P := Tryz.prog) 40 81 .i64 Tryz.underlying40 WH 2 WI (some Z4) l0.length c0 yR zxS q24; have X5 := Kd.Pm (m := (yR : Int).toNat) (c := c0) mo (by omega) YN; obtain ⟨A24, VN⟩ : ∃ A1, A1 = (if c0 = (yR : Int).toNat then (some Z4) else ((some Z4) : Option Addr).map (·.add ((yR : Int).toNat * 2))) := ⟨_, rfl⟩; obtain ⟨c24, hc24⟩ : ∃ c1, c1 = c0 - (yR : Int).toNat := ⟨_, rfl⟩; have hy24 : jO.length = l0.length - (yR : Int).toNat := (by rw [nN.out, List.length_drop] <;> omega); rw [show (l0).drop (yR : Int).toNat = jO from nN.out.symm] at X5; replace X5 : Kd.C qJ _ A24 jO.length jO := (by rw [VN]; exact X5); rw [← hy24, ← VN, ← hc24] at mD; have eF := zx.mk X5; have zJw := zx.mk (show jO.length ≤ c24 from by rw [hy24, hc24]; exact Nat.sub_le_sub_right YN _); clear X5 mo YN WH WI hc24; have zWq := zx.mk hy24; have zWx := zx.mk VN; clear hy24 VN; replace q24 := eq_true q24) | ((with_reducible refine vN (b := .append) (xs := #[.tmp 33, .tmp 36]) rfl ?_); at_builtin; refine Kd.jL qJ (w0 := w) w.heap.size rfl (.tmp 33) (.tmp 36) 40 81 (.agg #[(.string ⟨#[]⟩), (.int .i64 0)]) 24 rfl Tryz.underlying40 u7 rfl (by decide) (by omega) v117 Z0 jO _ _ _ (fun k_ => k_ ≠ qY) (fun _ => False) rfl rfl ?aO ?aR (fun _ _ h => h) (fun _ h => h.elim) ?aF ?aB ?aS ?aL ?_; (case aR => repeat (first | exact (Kd.zY eF.out HB.out) | (with_reducible refine Kd.zS ?_ _) | (with_reducible refine Kd.zT ?_ _) | (with_reducible refine Kd.yc ?_))); (case aB => exact (zD HB.out)); (case aF => exact (fun k_ hk => Kd.kW (g := qY) (o := .cells #[.string qc, .int .i64 qN] 81 (0, 0)) (yt yL.out) k_ hk)); (case aO => exact (yF VL.out)); (case aS => exact (zV (zD HB.out))); (case aL => have := zwJ.out; omega); intro v124 w25 ho hb hg hat; rw [← zwV.out] at ho; have zf := zx.mk (qQ (g := qY) (o := .cells #[.string qc, .int .i64 qN] 81 (0, 0)) (yt yL.out) hg (Kd.Zx VL.out (fun _ hk => hk))); have zh := zx.mk (hb); have zA := zx.mk (ho); clear yL; clear HB; clear VL; have yL := zf; have HB := zh; have zwK := zA; clear zf zh zA; clear ho hb hg hat))
            repeat (go_quiet (first | ((with_reducible refine qx (N := 24) rfl ?_); refine Kd.ZP qJ _ 81 ?hg (N := 24) ?hd (xs := ([] : List (zo))) (inner := []) (ok := fun _ => True) (jc := fun _ => True) ?hr ?hp (fun _ hk => hk) trivial (Below.refl _ _) (Nat.le_refl _) (by simp) ?_; (case hd => rfl); (case hg => rfl); (case hr => first | (go_simp; done) | (go_simp; rfl)); (case hp => exact (yS.none _ _)); intro v107 YD X4 hb wo ug; clear wo ug; (first | rw [← nL.out] at X4 | (simp only [Int.reduceToNat] at X4; rw [← nL.out] at X4)); have zf := zx.mk (Kd.xI (Kd.Pn X4 (g := qY) (o := .cells #[.string qc, .int .i64 qN] 81 (0, 0)) (yt yL.out)) (zV (zD HB.out))); have zh := zx.mk (zl (g := qY) (o := .cells #[.string qc, .int .i64 qN] 81 (0, 0)) (yt yL.out) hb); have zA := zx.mk (zI (zD HB.out) hb); clear yL; clear HB; have VH := zf; have yL := zh; have HB := zA; clear zf zh zA; clear hb X4; have mW : (yR : Int) ≤ ((l0.length : Int) : Int) := of_decide_eq_true (by first | (with_reducible assumption) | assumption); obtain ⟨zY8, WG, _, eX, _⟩ := info_parts u7; have Vy : l0.length ≤ c0 := ZW.out; have mg : Kd.C qJ _ (some Z4) l0.length l0 := kG.out; have mh := Pg (P := Tryz.prog) 40 81 .i64 Tryz.underlying40 WG (some Z4) l0.length c0 yR (of_decide_eq_true (by first | (with_reducible assumption) | assumption)) mW Vy; have KN := Kd.Ph (m := (yR : Int).toNat) mg (by omega); have KO : Yb.length = (yR : Int).toNat := (by rw [nM.out, List.length_take]; omega); rw [← nM.out] at KN; rw [← KO] at mh; have eY := zx.mk KN; have zJy := zx.mk (show Yb.length ≤ c0 from by omega); clear KN mg Vy WG eX; have zY9 := zx.mk KO; clear KO; replace mW := eq_true mW) | ((with_reducible refine vN (b := .append) (xs := #[.tmp 24, .tmp 27]) rfl ?_); at_builtin; refine Kd.jL qJ (w0 := w) w.heap.size rfl (.tmp 24) (.tmp 27) 40 81 (.agg #[(.string ⟨#[]⟩), (.int .i64 0)]) 24 rfl Tryz.underlying40 u7 rfl (by decide) (by omega) v107 QT Yb _ _ _ (fun k_ => k_ ≠ qY) (fun _ => False) rfl rfl ?aO ?aR (fun _ _ h => h) (fun _ h => h.elim) ?aF ?aB ?aS ?aL ?_; (case aR => repeat (first | exact (Kd.zY eY.out HB.out) | (with_reducible refine Kd.zS ?_ _) | (with_reducible refine Kd.zT ?_ _) | (with_reducible refine Kd.yc ?_))); (case aB => exact (zD HB.out)); (case aF => exact (fun k_ hk => Kd.kW (g := qY) (o := .cells #[.string qc, .int .i64 qN] 81 (0, 0)) (yt yL.out) k_ hk)); (case aO => exact (yF (Kd.zL VH.out (fun _ hk => hk.2)))); (case aS => exact (zV (zD HB.out))); (case aL => have := fP.out; omega); intro zxR eD ho hb hg hat; rw [← zwZ.out] at ho; have zf := zx.mk (qQ (g := qY) (o := .cells #[.string qc, .int .i64 qN] 81 (0, 0)) (yt yL.out) hg (Kd.Zx VH.out (fun _ hk => hk.2))); have zh := zx.mk (hb); have zA := zx.mk (ho); clear yL; clear HB; clear VH; have yL := zf; have HB := zh; have VI := zA; clear zf zh zA; clear ho hb hg hat; have zvj : eD.cell? ⟨qY, 0, none⟩ = some (.string qc) := (zk yL.out 0).trans rfl; have zvv : eD.cell? ⟨qY, 1, none⟩ = some (.int .i64 qN) := (zk yL.out 1).trans rfl; have zvk := zw yL.out 0; have zvy := zw yL.out 1) | ((with_reducible refine vN (b := .append) (xs := #[.tmp 29, .tmp 31]) rfl ?_); at_builtin; refine Kd.Xj qJ (w0 := w) w.heap.size rfl (.tmp 29) (.tmp 31) 40 81 (.agg #[(.string ⟨#[]⟩), (.int .i64 0)]) 24 rfl Tryz.underlying40 u7 rfl (by decide) (by omega) zxR y113 (⟨qc, qN⟩ : zo) [.string qc, .int .i64 qN] (fun k_ => k_ ≠ qY) (fun _ => False) rfl rfl ?aP (fun _ hk => hk.elim) ?aF ?aO ?aB ?aS ?aL ?_; (case aP => exact xS _ _ _ (⟨qc, qN⟩ : zo)); (case aB => exact (zD HB.out)); (case aF => exact (fun k_ hk => Kd.kW (g := qY) (o := .cells #[.string qc, .int .i64 qN] 81 (0, 0)) (yt yL.out) k_ hk)); (case aO => exact (yF VI.out)); (case aS => exact (zV (zD HB.out))); (case aL => have := zwQ.out; omega); intro v117 w23 ho hb hg hat; rw [← zwX.out] at ho; have zf := zx.mk (qQ (g := qY) (o := .cells #[.string qc, .int .i64 qN] 81 (0, 0)) (yt yL.out) hg (Kd.Zx VI.out (fun _ hk => hk))); have zh := zx.mk (hb); have zA := zx.mk (ho); clear yL; clear HB; clear VI; have yL := zf; have HB := zh; have VL := zA; clear zf zh zA; clear ho hb hg hat; have q24 : (yR : Int) ≤ ((l0.length : Int) : Int) := of_decide_eq_true (by first | (with_reducible assumption) | assumption); obtain ⟨zWz, WH, _, WI, _⟩ := info_parts u7; have YN : l0.length ≤ c0 := ZW.out; have mo : Kd.C qJ _ (some Z4) l0.length l0 := kG.out; have zxS : (0 : Int) ≤ (yR : Int) := of_decide_eq_true (by first | (with_reducible assumption) | assumption); have mD := UQ (P := Tryz.prog) 40 81 .i64 Tryz.underlying40 WH 2 WI (some Z4) l0.length c0 yR zxS q24; have X5 := Kd.Pm (m := (yR : Int).toNat) (c := c0) mo (by omega) YN; obtain ⟨A24, VN⟩ : ∃ A1, A1 = (if c0 = (yR : Int).toNat then (some Z4) else ((some Z4) : Option Addr).map (·.add ((yR : Int).toNat * 2))) := ⟨_, rfl⟩; obtain ⟨c24, hc24⟩ : ∃ c1, c1 = c0 - (yR : Int).toNat := ⟨_, rfl⟩; have hy24 : jO.length = l0.length - (yR : Int).toNat := (by rw [nN.out, List.length_drop] <;> omega); rw [show (l0).drop (yR : Int).toNat = jO from nN.out.symm] at X5; replace X5 : Kd.C qJ _ A24 jO.length jO := (by rw [VN]; exact X5); rw [← hy24, ← VN, ← hc24] at mD; have eF := zx.mk X5; have zJw := zx.mk (show jO.length ≤ c24 from by rw [hy24, hc24]; exact Nat.sub_le_sub_right YN _); clear X5 mo YN WH WI hc24; have zWq := zx.mk hy24; have zWx := zx.mk VN; clear hy24 VN; replace q24 := eq_true q24) | ((with_reducible refine vN (b := .append) (xs := #[.tmp 33, .tmp 36]) rfl ?_); at_builtin; refine Kd.jL qJ (w0 := w) w.heap.size rfl (.tmp 33) (.tmp 36) 40 81 (.agg #[(.string ⟨#[]⟩), (.int .i64 0)]) 24 rfl Tryz.underlying40 u7 rfl (by decide) (by omega) v117 Z0 jO _ _ _ (fun k_ => k_ ≠ qY) (fun _ => False) rfl rfl ?aO ?aR (fun _ _ h => h) (fun _ h => h.elim) ?aF ?aB ?aS ?aL ?_; (case aR => repeat (first | exact (Kd.zY eF.out HB.out) | (with_reducible refine Kd.zS ?_ _) | (with_reducible refine Kd.zT ?_ _) | (with_reducible refine Kd.yc ?_))); (case aB => exact (zD HB.out)); (case aF => exact (fun k_ hk => Kd.kW (g := qY) (o := .cells #[.string qc, .int .i64 qN] 81 (0, 0)) (yt yL.out) k_ hk)); (case aO => exact (yF VL.out)); (case aS => exact (zV (zD HB.out))); (case aL => have := zwJ.out; omega); intro v124 w25 ho hb hg hat; rw [← zwV.out] at ho; have zf := zx.mk (qQ (g := qY) (o := .cells #[.string qc, .int .i64 qN] 81 (0, 0)) (yt yL.out) hg (Kd.Zx VL.out (fun _ hk => hk))); have zh := zx.mk (hb); have zA := zx.mk (ho); clear yL; clear HB; clear VL; have yL := zf; have HB := zh; have zwK := zA; clear zf zh zA; clear ho hb hg hat)); try go_wp2_with (first | ((with_reducible refine qx (N := 24) rfl ?_); refine Kd.ZP qJ _ 81 ?hg (N := 24) ?hd (xs := ([] : List (zo))) (inner := []) (ok := fun _ => True) (jc := fun _ => True) ?hr ?hp (fun _ hk => hk) trivial (Below.refl _ _) (Nat.le_refl _) (by simp) ?_; (case hd => rfl); (case hg => rfl); (case hr => first | (go_simp; done) | (go_simp; rfl)); (case hp => exact (yS.none _ _)); intro v107 YD X4 hb wo ug; clear wo ug; (first | rw [← nL.out] at X4 | (simp only [Int.reduceToNat] at X4; rw [← nL.out] at X4)); have zf := zx.mk (Kd.xI (Kd.Pn X4 (g := qY) (o := .cells #[.string qc, .int .i64 qN] 81 (0, 0)) (yt yL.out)) (zV (zD HB.out))); have zh := zx.mk (zl (g := qY) (o := .cells #[.string qc, .int .i64 qN] 81 (0, 0)) (yt yL.out) hb); have zA := zx.mk (zI (zD HB.out) hb); clear yL; clear HB; have VH := zf; have yL := zh; have HB := zA; clear zf zh zA; clear hb X4; have mW : (yR : Int) ≤ ((l0.length : Int) : Int) := of_decide_eq_true (by first | (with_reducible assumption) | assumption); obtain ⟨zY8, WG, _, eX, _⟩ := info_parts u7; have Vy : l0.length ≤ c0 := ZW.out; have mg : Kd.C qJ _ (some Z4) l0.length l0 := kG.out; have mh := Pg (P := Tryz.prog) 40 81 .i64 Tryz.underlying40 WG (some Z4) l0.length c0 yR (of_decide_eq_true (by first | (with_reducible assumption) | assumption)) mW Vy; have KN := Kd.Ph (m := (yR : Int).toNat) mg (by omega); have KO : Yb.length = (yR : Int).toNat := (by rw [nM.out, List.length_take]; omega); rw [← nM.out] at KN; rw [← KO] at mh; have eY := zx.mk KN; have zJy := zx.mk (show Yb.length ≤ c0 from by omega); clear KN mg Vy WG eX; have zY9 := zx.mk KO; clear KO; replace mW := eq_true mW) | ((with_reducible refine vN (b := .append) (xs := #[.tmp 24, .tmp 27]) rfl ?_); at_builtin; refine Kd.jL qJ (w0 := w) w.heap.size rfl (.tmp 24) (.tmp 27) 40 81 (.agg #[(.string ⟨#[]⟩), (.int .i64 0)]) 24 rfl Tryz.underlying40 u7 rfl (by decide) (by omega) v107 QT Yb _ _ _ (fun k_ => k_ ≠ qY) (fun _ => False) rfl rfl ?aO ?aR (fun _ _ h => h) (fun _ h => h.elim) ?aF ?aB ?aS ?aL ?_; (case aR => repeat (first | exact (Kd.zY eY.out HB.out) | (with_reducible refine Kd.zS ?_ _) | (with_reducible refine Kd.zT ?_ _) | (with_reducible refine Kd.yc ?_))); (case aB => exact (zD HB.out)); (case aF => exact (fun k_ hk => Kd.kW (g := qY) (o := .cells #[.string qc, .int .i64 qN] 81 (0, 0)) (yt yL.out) k_ hk)); (case aO => exact (yF (Kd.zL VH.out (fun _ hk => hk.2)))); (case aS => exact (zV (zD HB.out))); (case aL => have := fP.out; omega); intro zxR eD ho hb hg hat; rw [← zwZ.out] at ho; have zf := zx.mk (qQ (g := qY) (o := .cells #[.string qc, .int .i64 qN] 81 (0, 0)) (yt yL.out) hg (Kd.Zx VH.out (fun _ hk => hk.2))); have zh := zx.mk (hb); have zA := zx.mk (ho); clear yL; clear HB; clear VH; have yL := zf; have HB := zh; have VI := zA; clear zf zh zA; clear ho hb hg hat; have zvj : eD.cell? ⟨qY, 0, none⟩ = some (.string qc) := (zk yL.out 0).trans rfl; have zvv : eD.cell? ⟨qY, 1, none⟩ = some (.int .i64 qN) := (zk yL.out 1).trans rfl; have zvk := zw yL.out 0; have zvy := zw yL.out 1) | ((with_reducible refine vN (b := .append) (xs := #[.tmp 29, .tmp 31]) rfl ?_); at_builtin; refine Kd.Xj qJ (w0 := w) w.heap.size rfl (.tmp 29) (.tmp 31) 40 81 (.agg #[(.string ⟨#[]⟩), (.int .i64 0)]) 24 rfl Tryz.underlying40 u7 rfl (by decide) (by omega) zxR y113 (⟨qc, qN⟩ : zo) [.string qc, .int .i64 qN] (fun k_ => k_ ≠ qY) (fun _ => False) rfl rfl ?aP (fun _ hk => hk.elim) ?aF ?aO ?aB ?aS ?aL ?_; (case aP => exact xS _ _ _ (⟨qc, qN⟩ : zo)); (case aB => exact (zD HB.out)); (case aF => exact (fun k_ hk => Kd.kW (g := qY) (o := .cells #[.string qc, .int .i64 qN] 81 (0, 0)) (yt yL.out) k_ hk)); (case aO => exact (yF VI.out)); (case aS => exact (zV (zD HB.out))); (case aL => have := zwQ.out; omega); intro v117 w23 ho hb hg hat; rw [← zwX.out] at ho; have zf := zx.mk (qQ (g := qY) (o := .cells #[.string qc, .int .i64 qN] 81 (0, 0)) (yt yL.out) hg (Kd.Zx VI.out (fun _ hk => hk))); have zh := zx.mk (hb); have zA := zx.mk (ho); clear yL; clear HB; clear VI; have yL := zf; have HB := zh; have VL := zA; clear zf zh zA; clear ho hb hg hat; have q24 : (yR : Int) ≤ ((l0.length : Int) : Int) := of_decide_eq_true (by first | (with_reducible assumption) | assumption); obtain ⟨zWz, WH, _, WI, _⟩ := info_parts u7; have YN : l0.length ≤ c0 := ZW.out; have mo : Kd.C qJ _ (some Z4) l0.length l0 := kG.out; have zxS : (0 : Int) ≤ (yR : Int) := of_decide_eq_true (by first | (with_reducible assumption) | assumption); have mD := UQ (P := Tryz.prog) 40 81 .i64 Tryz.underlying40 WH 2 WI (some Z4) l0.length c0 yR zxS q24; have X5 := Kd.Pm (m := (yR : Int).toNat) (c := c0) mo (by omega) YN; obtain ⟨A24, VN⟩ : ∃ A1, A1 = (if c0 = (yR : Int).toNat then (some Z4) else ((some Z4) : Option Addr).map (·.add ((yR : Int).toNat * 2))) := ⟨_, rfl⟩; obtain ⟨c24, hc24⟩ : ∃ c1, c1 = c0 - (yR : Int).toNat := ⟨_, rfl⟩; have hy24 : jO.length = l0.length - (yR : Int).toNat := (by rw [nN.out, List.length_drop] <;> omega); rw [show (l0).drop (yR : Int).toNat = jO from nN.out.symm] at X5; replace X5 : Kd.C qJ _ A24 jO.length jO := (by rw [VN]; exact X5); rw [← hy24, ← VN, ← hc24] at mD; have eF := zx.mk X5; have zJw := zx.mk (show jO.length ≤ c24 from by rw [hy24, hc24]; exact Nat.sub_le_sub_right YN _); clear X5 mo YN WH WI hc24; have zWq := zx.mk hy24; have zWx := zx.mk VN; clear hy24 VN; replace q24 := eq_true q24) | ((with_reducible refine vN (b := .append) (xs := #[.tmp 33, .tmp 36]) rfl ?_); at_builtin; refine Kd.jL qJ (w0 := w) w.heap.size rfl (.tmp 33) (.tmp 36) 40 81 (.agg #[(.string ⟨#[]⟩), (.int .i64 0)]) 24 rfl Tryz.underlying40 u7 rfl (by decide) (by omega) v117 Z0 jO _ _ _ (fun k_ => k_ ≠ qY) (fun _ => False) rfl rfl ?aO ?aR (fun _ _ h => h) (fun _ h => h.elim) ?aF ?aB ?aS ?aL ?_; (case aR => repeat (first | exact (Kd.zY eF.out HB.out) | (with_reducible refine Kd.zS ?_ _) | (with_reducible refine Kd.zT ?_ _) | (with_reducible refine Kd.yc ?_))); (case aB => exact (zD HB.out)); (case aF => exact (fun k_ hk => Kd.kW (g := qY) (o := .cells #[.string qc, .int .i64 qN] 81 (0, 0)) (yt yL.out) k_ hk)); (case aO => exact (yF VL.out)); (case aS => exact (zV (zD HB.out))); (case aL => have := zwJ.out; omega); intro v124 w25 ho hb hg hat; rw [← zwV.out] at ho; have zf := zx.mk (qQ (g := qY) (o := .cells #[.string qc, .int .i64 qN] 81 (0, 0)) (yt yL.out) hg (Kd.Zx VL.out (fun _ hk => hk))); have zh := zx.mk (hb); have zA := zx.mk (ho); clear yL; clear HB; clear VL; have yL := zf; have HB := zh; have zwK := zA; clear zf zh zA; clear ho hb hg hat)))
            go_ret
            exact ⟨_, by first | rfl | (simp [zU, z8] <;> rfl) | (simp only [← Jl]; first | rfl | (simp [zU, z8] <;> rfl)) | (simp [*, zU, z8] <;> rfl), by (with_reducible repeat (first | apply Kd.q9 | apply Kd.qL | apply Kd.qw)); exact Kd.zL zwK.out (fun _ hk => trivial), by repeat (first | (with_reducible first | exact HB.out | apply yu | apply zP | apply yT | refine qB ?_ zq2.out) | exact HB.out)⟩
           ·rw [if_neg c16] at H
            exact absurd H (by simp)
          ·rw [if_neg c13] at H
           exact absurd H (by simp)
         ·rw [if_neg c12] at H
          exact absurd H (by simp)
        ·rw [if_neg c11] at H
         exact absurd H (by simp)
       ·rw [if_neg c10] at H
        exact absurd H (by simp)
     ·rw [if_neg c7] at H
      exact absurd H (by simp)
    ·rw [if_neg c6] at H
     exact absurd H (by simp)
   ·rw [if_neg c4] at H
    have Xw : decide (0 < yR) = false := decide_eq_false c4
    clear c4
    obtain ⟨Ji, eH⟩ : ∃ y_ : List (zo), y_ = (([] : List (zo))) := ⟨_, rfl⟩
    replace H : (if 0 ≤ yR then (if yR ≤ (l0.length : Int) then ((some (l0.take (yR : Int).toNat : List (zo))).bind fun XQ => (if Ji.length + XQ.length < 5864062014805 then ((some (Ji ++ XQ : List (zo))).bind fun Qu => (if Qu.length < 5864062014805 then ((some (Qu ++ [(⟨qc, qN⟩ : zo)] : List (zo))).bind fun YA => ((some (l0.drop (yR : Int).toNat : List (zo))).bind fun kK => (if YA.length + kK.length < 5864062014805 then (some (YA ++ kK)) else (none)))) else (none))) else (none))) else (none)) else (none)) = some r := by first | (rw [eH]; with_reducible exact H) | (have xJ := (Option.bind_some _ _).symm.trans H; rw [eH]; with_reducible exact xJ) | (have xJ := (Option.bind_some _ _).symm.trans H; with_reducible exact xJ) | with_reducible exact H | (rw [eH]; exact H) | exact H
    have nR := zx.mk eH
    clear eH
    by_cases c26 : 0 ≤ yR
    ·rw [if_pos c26] at H
     have ziY := eq_true c26
     have ziW : decide (0 ≤ yR) = true := decide_eq_true c26
     clear c26
     by_cases c27 : yR ≤ (l0.length : Int)
     ·rw [if_pos c27] at H
      have zia := eq_true c27
      have zib : decide (yR ≤ (l0.length : Int)) = true := decide_eq_true c27
      clear c27
      obtain ⟨XQ, eO⟩ : ∃ y_ : List (zo), y_ = (l0.take (yR : Int).toNat) := ⟨_, rfl⟩
      replace H : (if Ji.length + XQ.length < 5864062014805 then ((some (Ji ++ XQ : List (zo))).bind fun Qu => (if Qu.length < 5864062014805 then ((some (Qu ++ [(⟨qc, qN⟩ : zo)] : List (zo))).bind fun YA => ((some (l0.drop (yR : Int).toNat : List (zo))).bind fun kK => (if YA.length + kK.length < 5864062014805 then (some (YA ++ kK)) else (none)))) else (none))) else (none)) = some r := by first | (rw [eO]; with_reducible exact H) | (have xJ := (Option.bind_some _ _).symm.trans H; rw [eO]; with_reducible exact xJ) | (have xJ := (Option.bind_some _ _).symm.trans H; with_reducible exact xJ) | with_reducible exact H | (rw [eO]; exact H) | exact H
      have nS := zx.mk eO
      clear eO
      by_cases c28 : Ji.length + XQ.length < 5864062014805
      ·rw [if_pos c28] at H
       have zwY := zx.mk c28
       clear c28
       obtain ⟨Qu, eP⟩ : ∃ y_ : List (zo), y_ = (Ji ++ XQ) := ⟨_, rfl⟩
       replace H : (if Qu.length < 5864062014805 then ((some (Qu ++ [(⟨qc, qN⟩ : zo)] : List (zo))).bind fun YA => ((some (l0.drop (yR : Int).toNat : List (zo))).bind fun kK => (if YA.length + kK.length < 5864062014805 then (some (YA ++ kK)) else (none)))) else (none)) = some r := by first | (rw [eP]; with_reducible exact H) | (have xJ := (Option.bind_some _ _).symm.trans H; rw [eP]; with_reducible exact xJ) | (have xJ := (Option.bind_some _ _).symm.trans H; with_reducible exact xJ) | with_reducible exact H | (rw [eP]; exact H) | exact H
       have zwW := zx.mk eP
       clear eP
       by_cases c29 : Qu.length < 5864062014805
       ·rw [if_pos c29] at H
        have zwa := zx.mk c29
        clear c29
        obtain ⟨YA, eT⟩ : ∃ y_ : List (zo), y_ = (Qu ++ [(⟨qc, qN⟩ : zo)]) := ⟨_, rfl⟩
        replace H : ((some (l0.drop (yR : Int).toNat : List (zo))).bind fun kK => (if YA.length + kK.length < 5864062014805 then (some (YA ++ kK)) else (none))) = some r := by first | (rw [eT]; with_reducible exact H) | (have xJ := (Option.bind_some _ _).symm.trans H; rw [eT]; with_reducible exact xJ) | (have xJ := (Option.bind_some _ _).symm.trans H; with_reducible exact xJ) | with_reducible exact H | (rw [eT]; exact H) | exact H
        have zwb := zx.mk eT
        clear eT
        have zic := eq_true (of_decide_eq_true (by first | (with_reducible assumption) | assumption) : 0 ≤ yR)
        have zid := eq_true (of_decide_eq_true (by first | (with_reducible assumption) | assumption) : yR ≤ (l0.length : Int))
        obtain ⟨kK, eU⟩ : ∃ y_ : List (zo), y_ = (l0.drop (yR : Int).toNat) := ⟨_, rfl⟩
        replace H : (if YA.length + kK.length < 5864062014805 then (some (YA ++ kK)) else (none)) = some r := by first | (rw [eU]; with_reducible exact H) | (have xJ := (Option.bind_some _ _).symm.trans H; rw [eU]; with_reducible exact xJ) | (have xJ := (Option.bind_some _ _).symm.trans H; with_reducible exact xJ) | with_reducible exact H | (rw [eU]; exact H) | exact H
        have nT := zx.mk eU
        clear eU
        by_cases c32 : YA.length + kK.length < 5864062014805
        ·rw [if_pos c32] at H
         have zwc := zx.mk c32
         clear c32
         obtain ⟨zde, iq⟩ : ∃ y_ : List (zo), y_ = (YA ++ kK) := ⟨_, rfl⟩
         replace H : (some zde) = some r := by first | (rw [iq]; with_reducible exact H) | (have xJ := (Option.bind_some _ _).symm.trans H; rw [iq]; with_reducible exact xJ) | (have xJ := (Option.bind_some _ _).symm.trans H; with_reducible exact xJ) | with_reducible exact H | (rw [iq]; exact H) | exact H
         have zwd := zx.mk iq
         clear iq
         obtain rfl := Option.some.inj H
         go_wp2_with (first | ((with_reducible refine qx (N := 24) rfl ?_); refine Kd.ZP qJ _ 81 ?hg (N := 24) ?hd (xs := ([] : List (zo))) (inner := []) (ok := fun _ => True) (jc := fun _ => True) ?hr ?hp (fun _ hk => hk) trivial (Below.refl _ _) (Nat.le_refl _) (by simp) ?_; (case hd => rfl); (case hg => rfl); (case hr => first | (go_simp; done) | (go_simp; rfl)); (case hp => exact (yS.none _ _)); intro v127 w33 X6 hb wo ug; clear wo ug; (first | rw [← nR.out] at X6 | (simp only [Int.reduceToNat] at X6; rw [← nR.out] at X6)); have zf := zx.mk (Kd.xI (Kd.Pn X6 (g := qY) (o := .cells #[.string qc, .int .i64 qN] 81 (0, 0)) (yt yL.out)) (zV (zD HB.out))); have zh := zx.mk (zl (g := qY) (o := .cells #[.string qc, .int .i64 qN] 81 (0, 0)) (yt yL.out) hb); have zA := zx.mk (zI (zD HB.out) hb); clear yL; clear HB; have VO := zf; have yL := zh; have HB := zA; clear zf zh zA; clear hb X6; have mE : (yR : Int) ≤ ((l0.length : Int) : Int) := of_decide_eq_true (by first | (with_reducible assumption) | assumption); obtain ⟨zWj, WL, _, iy, _⟩ := info_parts u7; have Vw : l0.length ≤ c0 := ZW.out; have mF : Kd.C qJ _ A0 l0.length l0 := kG.out; have mG := Pg (P := Tryz.prog) 40 81 .i64 Tryz.underlying40 WL A0 l0.length c0 yR (of_decide_eq_true (by first | (with_reducible assumption) | assumption)) mE Vw; have KP := Kd.Ph (m := (yR : Int).toNat) mF (by omega); have KR : XQ.length = (yR : Int).toNat := (by rw [nS.out, List.length_take]; omega); rw [← nS.out] at KP; rw [← KR] at mG; have iw := zx.mk KP; have zJZ := zx.mk (show XQ.length ≤ c0 from by omega); clear KP mF Vw WL iy; have zWv := zx.mk KR; clear KR; replace mE := eq_true mE) | ((with_reducible refine vN (b := .append) (xs := #[.tmp 24, .tmp 27]) rfl ?_); at_builtin; refine Kd.jL qJ (w0 := w) w.heap.size rfl (.tmp 24) (.tmp 27) 40 81 (.agg #[(.string ⟨#[]⟩), (.int .i64 0)]) 24 rfl Tryz.underlying40 u7 rfl (by decide) (by omega) v127 Ji XQ _ _ _ (fun k_ => k_ ≠ qY) (fun _ => False) rfl rfl ?aO ?aR (fun _ _ h => h) (fun _ h => h.elim) ?aF ?aB ?aS ?aL ?_; (case aR => repeat (first | exact (Kd.zY iw.out HB.out) | (with_reducible refine Kd.zS ?_ _) | (with_reducible refine Kd.zT ?_ _) | (with_reducible refine Kd.yc ?_))); (case aB => exact (zD HB.out)); (case aF => exact (fun k_ hk => Kd.kW (g := qY) (o := .cells #[.string qc, .int .i64 qN] 81 (0, 0)) (yt yL.out) k_ hk)); (case aO => exact (yF (Kd.zL VO.out (fun _ hk => hk.2)))); (case aS => exact (zV (zD HB.out))); (case aL => have := zwY.out; omega); intro zxT w36 ho hb hg hat; rw [← zwW.out] at ho; have zf := zx.mk (qQ (g := qY) (o := .cells #[.string qc, .int .i64 qN] 81 (0, 0)) (yt yL.out) hg (Kd.Zx VO.out (fun _ hk => hk.2))); have zh := zx.mk (hb); have zA := zx.mk (ho); clear yL; clear HB; clear VO; have yL := zf; have HB := zh; have VP := zA; clear zf zh zA; clear ho hb hg hat; have nU : w36.cell? ⟨qY, 0, none⟩ = some (.string qc) := (zk yL.out 0).trans rfl; have rz : w36.cell? ⟨qY, 1, none⟩ = some (.int .i64 qN) := (zk yL.out 1).trans rfl; have bQ := zw yL.out 0; have bX := zw yL.out 1) | ((with_reducible refine vN (b := .append) (xs := #[.tmp 29, .tmp 31]) rfl ?_); at_builtin; refine Kd.Xj qJ (w0 := w) w.heap.size rfl (.tmp 29) (.tmp 31) 40 81 (.agg #[(.string ⟨#[]⟩), (.int .i64 0)]) 24 rfl Tryz.underlying40 u7 rfl (by decide) (by omega) zxT Qu (⟨qc, qN⟩ : zo) [.string qc, .int .i64 qN] (fun k_ => k_ ≠ qY) (fun _ => False) rfl rfl ?aP (fun _ hk => hk.elim) ?aF ?aO ?aB ?aS ?aL ?_; (case aP => exact xS _ _ _ (⟨qc, qN⟩ : zo)); (case aB => exact (zD HB.out)); (case aF => exact (fun k_ hk => Kd.kW (g := qY) (o := .cells #[.string qc, .int .i64 qN] 81 (0, 0)) (yt yL.out) k_ hk)); (case aO => exact (yF VP.out)); (case aS => exact (zV (zD HB.out))); (case aL => have := zwa.out; omega); intro zxU w38 ho hb hg hat; rw [← zwb.out] at ho; have zf := zx.mk (qQ (g := qY) (o := .cells #[.string qc, .int .i64 qN] 81 (0, 0)) (yt yL.out) hg (Kd.Zx VP.out (fun _ hk => hk))); have zh := zx.mk (hb); have zA := zx.mk (ho); clear yL; clear HB; clear VP; have yL := zf; have HB := zh; have VR := zA; clear zf zh zA; clear ho hb hg hat; have mH : (yR : Int) ≤ ((l0.length : Int) : Int) := of_decide_eq_true (by first | (with_reducible assumption) | assumption); obtain ⟨zWk, WM, _, WO, _⟩ := info_parts u7; have YO : l0.length ≤ c0 := ZW.out; have mI : Kd.C qJ _ A0 l0.length l0 := kG.out; have zx0 : (0 : Int) ≤ (yR : Int) := of_decide_eq_true (by first | (with_reducible assumption) | assumption); have mM := UQ (P := Tryz.prog) 40 81 .i64 Tryz.underlying40 WM 2 WO A0 l0.length c0 yR zx0 mH; have X7 := Kd.Pm (m := (yR : Int).toNat) (c := c0) mI (by omega) YO; obtain ⟨iZ, VT⟩ : ∃ A1, A1 = (if c0 = (yR : Int).toNat then A0 else (A0 : Option Addr).map (·.add ((yR : Int).toNat * 2))) := ⟨_, rfl⟩; obtain ⟨c39, hc39⟩ : ∃ c1, c1 = c0 - (yR : Int).toNat := ⟨_, rfl⟩; have hy39 : kK.length = l0.length - (yR : Int).toNat := (by rw [nT.out, List.length_drop] <;> omega); rw [show (l0).drop (yR : Int).toNat = kK from nT.out.symm] at X7; replace X7 : Kd.C qJ _ iZ kK.length kK := (by rw [VT]; exact X7); rw [← hy39, ← VT, ← hc39] at mM; have iQ := zx.mk X7; have zJQ := zx.mk (show kK.length ≤ c39 from by rw [hy39, hc39]; exact Nat.sub_le_sub_right YO _); clear X7 mI YO WM WO hc39; have zWy := zx.mk hy39; have zWw := zx.mk VT; clear hy39 VT; replace mH := eq_true mH) | ((with_reducible refine vN (b := .append) (xs := #[.tmp 33, .tmp 36]) rfl ?_); at_builtin; refine Kd.jL qJ (w0 := w) w.heap.size rfl (.tmp 33) (.tmp 36) 40 81 (.agg #[(.string ⟨#[]⟩), (.int .i64 0)]) 24 rfl Tryz.underlying40 u7 rfl (by decide) (by omega) zxU YA kK _ _ _ (fun k_ => k_ ≠ qY) (fun _ => False) rfl rfl ?aO ?aR (fun _ _ h => h) (fun _ h => h.elim) ?aF ?aB ?aS ?aL ?_; (case aR => repeat (first | exact (Kd.zY iQ.out HB.out) | (with_reducible refine Kd.zS ?_ _) | (with_reducible refine Kd.zT ?_ _) | (with_reducible refine Kd.yc ?_))); (case aB => exact (zD HB.out)); (case aF => exact (fun k_ hk => Kd.kW (g := qY) (o := .cells #[.string qc, .int .i64 qN] 81 (0, 0)) (yt yL.out) k_ hk)); (case aO => exact (yF VR.out)); (case aS => exact (zV (zD HB.out))); (case aL => have := zwc.out; omega); intro zWZ w40 ho hb hg hat; rw [← zwd.out] at ho; have zf := zx.mk (qQ (g := qY) (o := .cells #[.string qc, .int .i64 qN] 81 (0, 0)) (yt yL.out) hg (Kd.Zx VR.out (fun _ hk => hk))); have zh := zx.mk (hb); have zA := zx.mk (ho); clear yL; clear HB; clear VR; have yL := zf; have HB := zh; have zwe := zA; clear zf zh zA; clear ho hb hg hat))
         repeat (go_quiet (first | ((with_reducible refine qx (N := 24) rfl ?_); refine Kd.ZP qJ _ 81 ?hg (N := 24) ?hd (xs := ([] : List (zo))) (inner := []) (ok := fun _ => True) (jc := fun _ => True) ?hr ?hp (fun _ hk => hk) trivial (Below.refl _ _) (Nat.le_refl _) (by simp) ?_; (case hd => rfl); (case hg => rfl); (case hr => first | (go_simp; done) | (go_simp; rfl)); (case hp => exact (yS.none _ _)); intro v127 w33 X6 hb wo ug; clear wo ug; (first | rw [← nR.out] at X6 | (simp only [Int.reduceToNat] at X6; rw [← nR.out] at X6)); have zf := zx.mk (Kd.xI (Kd.Pn X6 (g := qY) (o := .cells #[.string qc, .int .i64 qN] 81 (0, 0)) (yt yL.out)) (zV (zD HB.out))); have zh := zx.mk (zl (g := qY) (o := .cells #[.string qc, .int .i64 qN] 81 (0, 0)) (yt yL.out) hb); have zA := zx.mk (zI (zD HB.out) hb); clear yL; clear HB; have VO := zf; have yL := zh; have HB := zA; clear zf zh zA; clear hb X6; have mE : (yR : Int) ≤ ((l0.length : Int) : Int) := of_decide_eq_true (by first | (with_reducible assumption) | assumption); obtain ⟨zWj, WL, _, iy, _⟩ := info_parts u7; have Vw : l0.length ≤ c0 := ZW.out; have mF : Kd.C qJ _ A0 l0.length l0 := kG.out; have mG := Pg (P := Tryz.prog) 40 81 .i64 Tryz.underlying40 WL A0 l0.length c0 yR (of_decide_eq_true (by first | (with_reducible assumption) | assumption)) mE Vw; have KP := Kd.Ph (m := (yR : Int).toNat) mF (by omega); have KR : XQ.length = (yR : Int).toNat := (by rw [nS.out, List.length_take]; omega); rw [← nS.out] at KP; rw [← KR] at mG; have iw := zx.mk KP; have zJZ := zx.mk (show XQ.length ≤ c0 from by omega); clear KP mF Vw WL iy; have zWv := zx.mk KR; clear KR; replace mE := eq_true mE) | ((with_reducible refine vN (b := .append) (xs := #[.tmp 24, .tmp 27]) rfl ?_); at_builtin; refine Kd.jL qJ (w0 := w) w.heap.size rfl (.tmp 24) (.tmp 27) 40 81 (.agg #[(.string ⟨#[]⟩), (.int .i64 0)]) 24 rfl Tryz.underlying40 u7 rfl (by decide) (by omega) v127 Ji XQ _ _ _ (fun k_ => k_ ≠ qY) (fun _ => False) rfl rfl ?aO ?aR (fun _ _ h => h) (fun _ h => h.elim) ?aF ?aB ?aS ?aL ?_; (case aR => repeat (first | exact (Kd.zY iw.out HB.out) | (with_reducible refine Kd.zS ?_ _) | (with_reducible refine Kd.zT ?_ _) | (with_reducible refine Kd.yc ?_))); (case aB => exact (zD HB.out)); (case aF => exact (fun k_ hk => Kd.kW (g := qY) (o := .cells #[.string qc, .int .i64 qN] 81 (0, 0)) (yt yL.out) k_ hk)); (case aO => exact (yF (Kd.zL VO.out (fun _ hk => hk.2)))); (case aS => exact (zV (zD HB.out))); (case aL => have := zwY.out; omega); intro zxT w36 ho hb hg hat; rw [← zwW.out] at ho; have zf := zx.mk (qQ (g := qY) (o := .cells #[.string qc, .int .i64 qN] 81 (0, 0)) (yt yL.out) hg (Kd.Zx VO.out (fun _ hk => hk.2))); have zh := zx.mk (hb); have zA := zx.mk (ho); clear yL; clear HB; clear VO; have yL := zf; have HB := zh; have VP := zA; clear zf zh zA; clear ho hb hg hat; have nU : w36.cell? ⟨qY, 0, none⟩ = some (.string qc) := (zk yL.out 0).trans rfl; have rz : w36.cell? ⟨qY, 1, none⟩ = some (.int .i64 qN) := (zk yL.out 1).trans rfl; have bQ := zw yL.out 0; have bX := zw yL.out 1) | ((with_reducible refine vN (b := .append) (xs := #[.tmp 29, .tmp 31]) rfl ?_); at_builtin; refine Kd.Xj qJ (w0 := w) w.heap.size rfl (.tmp 29) (.tmp 31) 40 81 (.agg #[(.string ⟨#[]⟩), (.int .i64 0)]) 24 rfl Tryz.underlying40 u7 rfl (by decide) (by omega) zxT Qu (⟨qc, qN⟩ : zo) [.string qc, .int .i64 qN] (fun k_ => k_ ≠ qY) (fun _ => False) rfl rfl ?aP (fun _ hk => hk.elim) ?aF ?aO ?aB ?aS ?aL ?_; (case aP => exact xS _ _ _ (⟨qc, qN⟩ : zo)); (case aB => exact (zD HB.out)); (case aF => exact (fun k_ hk => Kd.kW (g := qY) (o := .cells #[.string qc, .int .i64 qN] 81 (0, 0)) (yt yL.out) k_ hk)); (case aO => exact (yF VP.out)); (case aS => exact (zV (zD HB.out))); (case aL => have := zwa.out; omega); intro zxU w38 ho hb hg hat; rw [← zwb.out] at ho; have zf := zx.mk (qQ (g := qY) (o := .cells #[.string qc, .int .i64 qN] 81 (0, 0)) (yt yL.out) hg (Kd.Zx VP.out (fun _ hk => hk))); have zh := zx.mk (hb); have zA := zx.mk (ho); clear yL; clear HB; clear VP; have yL := zf; have HB := zh; have VR := zA; clear zf zh zA; clear ho hb hg hat; have mH : (yR : Int) ≤ ((l0.length : Int) : Int) := of_decide_eq_true (by first | (with_reducible assumption) | assumption); obtain ⟨zWk, WM, _, WO, _⟩ := info_parts u7; have YO : l0.length ≤ c0 := ZW.out; have mI : Kd.C qJ _ A0 l0.length l0 := kG.out; have zx0 : (0 : Int) ≤ (yR : Int) := of_decide_eq_true (by first | (with_reducible assumption) | assumption); have mM := UQ (P := Tryz.prog) 40 81 .i64 Tryz.underlying40 WM 2 WO A0 l0.length c0 yR zx0 mH; have X7 := Kd.Pm (m := (yR : Int).toNat) (c := c0) mI (by omega) YO; obtain ⟨iZ, VT⟩ : ∃ A1, A1 = (if c0 = (yR : Int).toNat then A0 else (A0 : Option Addr).map (·.add ((yR : Int).toNat * 2))) := ⟨_, rfl⟩; obtain ⟨c39, hc39⟩ : ∃ c1, c1 = c0 - (yR : Int).toNat := ⟨_, rfl⟩; have hy39 : kK.length = l0.length - (yR : Int).toNat := (by rw [nT.out, List.length_drop] <;> omega); rw [show (l0).drop (yR : Int).toNat = kK from nT.out.symm] at X7; replace X7 : Kd.C qJ _ iZ kK.length kK := (by rw [VT]; exact X7); rw [← hy39, ← VT, ← hc39] at mM; have iQ := zx.mk X7; have zJQ := zx.mk (show kK.length ≤ c39 from by rw [hy39, hc39]; exact Nat.sub_le_sub_right YO _); clear X7 mI YO WM WO hc39; have zWy := zx.mk hy39; have zWw := zx.mk VT; clear hy39 VT; replace mH := eq_true mH) | ((with_reducible refine vN (b := .append) (xs := #[.tmp 33, .tmp 36]) rfl ?_); at_builtin; refine Kd.jL qJ (w0 := w) w.heap.size rfl (.tmp 33) (.tmp 36) 40 81 (.agg #[(.string ⟨#[]⟩), (.int .i64 0)]) 24 rfl Tryz.underlying40 u7 rfl (by decide) (by omega) zxU YA kK _ _ _ (fun k_ => k_ ≠ qY) (fun _ => False) rfl rfl ?aO ?aR (fun _ _ h => h) (fun _ h => h.elim) ?aF ?aB ?aS ?aL ?_; (case aR => repeat (first | exact (Kd.zY iQ.out HB.out) | (with_reducible refine Kd.zS ?_ _) | (with_reducible refine Kd.zT ?_ _) | (with_reducible refine Kd.yc ?_))); (case aB => exact (zD HB.out)); (case aF => exact (fun k_ hk => Kd.kW (g := qY) (o := .cells #[.string qc, .int .i64 qN] 81 (0, 0)) (yt yL.out) k_ hk)); (case aO => exact (yF VR.out)); (case aS => exact (zV (zD HB.out))); (case aL => have := zwc.out; omega); intro zWZ w40 ho hb hg hat; rw [← zwd.out] at ho; have zf := zx.mk (qQ (g := qY) (o := .cells #[.string qc, .int .i64 qN] 81 (0, 0)) (yt yL.out) hg (Kd.Zx VR.out (fun _ hk => hk))); have zh := zx.mk (hb); have zA := zx.mk (ho); clear yL; clear HB; clear VR; have yL := zf; have HB := zh; have zwe := zA; clear zf zh zA; clear ho hb hg hat)); try go_wp2_with (first | ((with_reducible refine qx (N := 24) rfl ?_); refine Kd.ZP qJ _ 81 ?hg (N := 24) ?hd (xs := ([] : List (zo))) (inner := []) (ok := fun _ => True) (jc := fun _ => True) ?hr ?hp (fun _ hk => hk) trivial (Below.refl _ _) (Nat.le_refl _) (by simp) ?_; (case hd => rfl); (case hg => rfl); (case hr => first | (go_simp; done) | (go_simp; rfl)); (case hp => exact (yS.none _ _)); intro v127 w33 X6 hb wo ug; clear wo ug; (first | rw [← nR.out] at X6 | (simp only [Int.reduceToNat] at X6; rw [← nR.out] at X6)); have zf := zx.mk (Kd.xI (Kd.Pn X6 (g := qY) (o := .cells #[.string qc, .int .i64 qN] 81 (0, 0)) (yt yL.out)) (zV (zD HB.out))); have zh := zx.mk (zl (g := qY) (o := .cells #[.string qc, .int .i64 qN] 81 (0, 0)) (yt yL.out) hb); have zA := zx.mk (zI (zD HB.out) hb); clear yL; clear HB; have VO := zf; have yL := zh; have HB := zA; clear zf zh zA; clear hb X6; have mE : (yR : Int) ≤ ((l0.length : Int) : Int) := of_decide_eq_true (by first | (with_reducible assumption) | assumption); obtain ⟨zWj, WL, _, iy, _⟩ := info_parts u7; have Vw : l0.length ≤ c0 := ZW.out; have mF : Kd.C qJ _ A0 l0.length l0 := kG.out; have mG := Pg (P := Tryz.prog) 40 81 .i64 Tryz.underlying40 WL A0 l0.length c0 yR (of_decide_eq_true (by first | (with_reducible assumption) | assumption)) mE Vw; have KP := Kd.Ph (m := (yR : Int).toNat) mF (by omega); have KR : XQ.length = (yR : Int).toNat := (by rw [nS.out, List.length_take]; omega); rw [← nS.out] at KP; rw [← KR] at mG; have iw := zx.mk KP; have zJZ := zx.mk (show XQ.length ≤ c0 from by omega); clear KP mF Vw WL iy; have zWv := zx.mk KR; clear KR; replace mE := eq_true mE) | ((with_reducible refine vN (b := .append) (xs := #[.tmp 24, .tmp 27]) rfl ?_); at_builtin; refine Kd.jL qJ (w0 := w) w.heap.size rfl (.tmp 24) (.tmp 27) 40 81 (.agg #[(.string ⟨#[]⟩), (.int .i64 0)]) 24 rfl Tryz.underlying40 u7 rfl (by decide) (by omega) v127 Ji XQ _ _ _ (fun k_ => k_ ≠ qY) (fun _ => False) rfl rfl ?aO ?aR (fun _ _ h => h) (fun _ h => h.elim) ?aF ?aB ?aS ?aL ?_; (case aR => repeat (first | exact (Kd.zY iw.out HB.out) | (with_reducible refine Kd.zS ?_ _) | (with_reducible refine Kd.zT ?_ _) | (with_reducible refine Kd.yc ?_))); (case aB => exact (zD HB.out)); (case aF => exact (fun k_ hk => Kd.kW (g := qY) (o := .cells #[.string qc, .int .i64 qN] 81 (0, 0)) (yt yL.out) k_ hk)); (case aO => exact (yF (Kd.zL VO.out (fun _ hk => hk.2)))); (case aS => exact (zV (zD HB.out))); (case aL => have := zwY.out; omega); intro zxT w36 ho hb hg hat; rw [← zwW.out] at ho; have zf := zx.mk (qQ (g := qY) (o := .cells #[.string qc, .int .i64 qN] 81 (0, 0)) (yt yL.out) hg (Kd.Zx VO.out (fun _ hk => hk.2))); have zh := zx.mk (hb); have zA := zx.mk (ho); clear yL; clear HB; clear VO; have yL := zf; have HB := zh; have VP := zA; clear zf zh zA; clear ho hb hg hat; have nU : w36.cell? ⟨qY, 0, none⟩ = some (.string qc) := (zk yL.out 0).trans rfl; have rz : w36.cell? ⟨qY, 1, none⟩ = some (.int .i64 qN) := (zk yL.out 1).trans rfl; have bQ := zw yL.out 0; have bX := zw yL.out 1) | ((with_reducible refine vN (b := .append) (xs := #[.tmp 29, .tmp 31]) rfl ?_); at_builtin; refine Kd.Xj qJ (w0 := w) w.heap.size rfl (.tmp 29) (.tmp 31) 40 81 (.agg #[(.string ⟨#[]⟩), (.int .i64 0)]) 24 rfl Tryz.underlying40 u7 rfl (by decide) (by omega) zxT Qu (⟨qc, qN⟩ : zo) [.string qc, .int .i64 qN] (fun k_ => k_ ≠ qY) (fun _ => False) rfl rfl ?aP (fun _ hk => hk.elim) ?aF ?aO ?aB ?aS ?aL ?_; (case aP => exact xS _ _ _ (⟨qc, qN⟩ : zo)); (case aB => exact (zD HB.out)); (case aF => exact (fun k_ hk => Kd.kW (g := qY) (o := .cells #[.string qc, .int .i64 qN] 81 (0, 0)) (yt yL.out) k_ hk)); (case aO => exact (yF VP.out)); (case aS => exact (zV (zD HB.out))); (case aL => have := zwa.out; omega); intro zxU w38 ho hb hg hat; rw [← zwb.out] at ho; have zf := zx.mk (qQ (g := qY) (o := .cells #[.string qc, .int .i64 qN] 81 (0, 0)) (yt yL.out) hg (Kd.Zx VP.out (fun _ hk => hk))); have zh := zx.mk (hb); have zA := zx.mk (ho); clear yL; clear HB; clear VP; have yL := zf; have HB := zh; have VR := zA; clear zf zh zA; clear ho hb hg hat; have mH : (yR : Int) ≤ ((l0.length : Int) : Int) := of_decide_eq_true (by first | (with_reducible assumption) | assumption); obtain ⟨zWk, WM, _, WO, _⟩ := info_parts u7; have YO : l0.length ≤ c0 := ZW.out; have mI : Kd.C qJ _ A0 l0.length l0 := kG.out; have zx0 : (0 : Int) ≤ (yR : Int) := of_decide_eq_true (by first | (with_reducible assumption) | assumption); have mM := UQ (P := Tryz.prog) 40 81 .i64 Tryz.underlying40 WM 2 WO A0 l0.length c0 yR zx0 mH; have X7 := Kd.Pm (m := (yR : Int).toNat) (c := c0) mI (by omega) YO; obtain ⟨iZ, VT⟩ : ∃ A1, A1 = (if c0 = (yR : Int).toNat then A0 else (A0 : Option Addr).map (·.add ((yR : Int).toNat * 2))) := ⟨_, rfl⟩; obtain ⟨c39, hc39⟩ : ∃ c1, c1 = c0 - (yR : Int).toNat := ⟨_, rfl⟩; have hy39 : kK.length = l0.length - (yR : Int).toNat := (by rw [nT.out, List.length_drop] <;> omega); rw [show (l0).drop (yR : Int).toNat = kK from nT.out.symm] at X7; replace X7 : Kd.C qJ _ iZ kK.length kK := (by rw [VT]; exact X7); rw [← hy39, ← VT, ← hc39] at mM; have iQ := zx.mk X7; have zJQ := zx.mk (show kK.length ≤ c39 from by rw [hy39, hc39]; exact Nat.sub_le_sub_right YO _); clear X7 mI YO WM WO hc39; have zWy := zx.mk hy39; have zWw := zx.mk VT; clear hy39 VT; replace mH := eq_true mH) | ((with_reducible refine vN (b := .append) (xs := #[.tmp 33, .tmp 36]) rfl ?_); at_builtin; refine Kd.jL qJ (w0 := w) w.heap.size rfl (.tmp 33) (.tmp 36) 40 81 (.agg #[(.string ⟨#[]⟩), (.int .i64 0)]) 24 rfl Tryz.underlying40 u7 rfl (by decide) (by omega) zxU YA kK _ _ _ (fun k_ => k_ ≠ qY) (fun _ => False) rfl rfl ?aO ?aR (fun _ _ h => h) (fun _ h => h.elim) ?aF ?aB ?aS ?aL ?_; (case aR => repeat (first | exact (Kd.zY iQ.out HB.out) | (with_reducible refine Kd.zS ?_ _) | (with_reducible refine Kd.zT ?_ _) | (with_reducible refine Kd.yc ?_))); (case aB => exact (zD HB.out)); (case aF => exact (fun k_ hk => Kd.kW (g := qY) (o := .cells #[.string qc, .int .i64 qN] 81 (0, 0)) (yt yL.out) k_ hk)); (case aO => exact (yF VR.out)); (case aS => exact (zV (zD HB.out))); (case aL => have := zwc.out; omega); intro zWZ w40 ho hb hg hat; rw [← zwd.out] at ho; have zf := zx.mk (qQ (g := qY) (o := .cells #[.string qc, .int .i64 qN] 81 (0, 0)) (yt yL.out) hg (Kd.Zx VR.out (fun _ hk => hk))); have zh := zx.mk (hb); have zA := zx.mk (ho); clear yL; clear HB; clear VR; have yL := zf; have HB := zh; have zwe := zA; clear zf zh zA; clear ho hb hg hat)))
         go_ret
         exact ⟨_, by first | rfl | (simp [zU, z8] <;> rfl) | (simp [*, zU, z8] <;> rfl), by (with_reducible repeat (first | apply Kd.q9 | apply Kd.qL | apply Kd.qw)); exact Kd.zL zwe.out (fun _ hk => trivial), by repeat (first | (with_reducible first | exact HB.out | apply yu | apply zP | apply yT | refine qB ?_ zq2.out) | exact HB.out)⟩
        ·rw [if_neg c32] at H
         exact absurd H (by simp)
       ·rw [if_neg c29] at H
        exact absurd H (by simp)
      ·rw [if_neg c28] at H
       exact absurd H (by simp)
     ·rw [if_neg c27] at H
      exact absurd H (by simp)
    ·rw [if_neg c26] at H
     exact absurd H (by simp)
end Go.Proofs.YtaifemkokfoadaaGreatDoor.PX
namespace Go.Proofs.YtaifemkokfoadaaGreatDoor.PX
open Go.RowKit Go.Proofs.zy.zu Go.Proofs.zy.yI Go.Proofs.zy.yD
attribute [local go_sem] xw xZ xP xR qD qE xQ xX   -- for this text's walks alone
set_option linter.unusedVariables false
set_option linter.unusedSimpArgs false
def j6.f  : Option ((List (zo))) := some (([(⟨(⟨#[98, 117]⟩ : ByteArray), 460⟩ : zo), (⟨(⟨#[101, 109]⟩ : ByteArray), 1000⟩ : zo), (⟨(⟨#[101, 110]⟩ : ByteArray), 500⟩ : zo), (⟨(⟨#[104, 121]⟩ : ByteArray), 350⟩ : zo), (⟨(⟨#[115, 113]⟩ : ByteArray), 600⟩ : zo), (⟨(⟨#[109, 117]⟩ : ByteArray), 600⟩ : zo), (⟨(⟨#[100, 105]⟩ : ByteArray), 600⟩ : zo), (⟨(⟨#[112, 108]⟩ : ByteArray), 600⟩ : zo), (⟨(⟨#[109, 105]⟩ : ByteArray), 600⟩ : zo), (⟨(⟨#[101, 113]⟩ : ByteArray), 600⟩ : zo), (⟨(⟨#[60, 61]⟩ : ByteArray), 600⟩ : zo), (⟨(⟨#[62, 61]⟩ : ByteArray), 600⟩ : zo), (⟨(⟨#[33, 61]⟩ : ByteArray), 600⟩ : zo), (⟨(⟨#[45, 62]⟩ : ByteArray), 1000⟩ : zo), (⟨(⟨#[60, 45]⟩ : ByteArray), 1000⟩ : zo), (⟨(⟨#[115, 114]⟩ : ByteArray), 500⟩ : zo), (⟨(⟨#[105, 115]⟩ : ByteArray), 400⟩ : zo), (⟨(⟨#[115, 117]⟩ : ByteArray), 700⟩ : zo), (⟨(⟨#[112, 100]⟩ : ByteArray), 700⟩ : zo), (⟨(⟨#[105, 102]⟩ : ByteArray), 700⟩ : zo), (⟨(⟨#[42, 97]⟩ : ByteArray), 550⟩ : zo), (⟨(⟨#[42, 98]⟩ : ByteArray), 550⟩ : zo), (⟨(⟨#[42, 103]⟩ : ByteArray), 500⟩ : zo), (⟨(⟨#[42, 100]⟩ : ByteArray), 500⟩ : zo), (⟨(⟨#[42, 112]⟩ : ByteArray), 600⟩ : zo), (⟨(⟨#[42, 108]⟩ : ByteArray), 550⟩ : zo), (⟨(⟨#[42, 115]⟩ : ByteArray), 600⟩ : zo), (⟨(⟨#[42, 119]⟩ : ByteArray), 700⟩ : zo), (⟨(⟨#[99, 111]⟩ : ByteArray), 800⟩ : zo), (⟨(⟨#[100, 103]⟩ : ByteArray), 500⟩ : zo), (⟨(⟨#[115, 99]⟩ : ByteArray), 500⟩ : zo), (⟨(⟨#[114, 104]⟩ : ByteArray), 1000⟩ : zo), (⟨(⟨#[98, 114]⟩ : ByteArray), 10⟩ : zo), (⟨(⟨#[117, 108]⟩ : ByteArray), 500⟩ : zo), (⟨(⟨#[114, 117]⟩ : ByteArray), 500⟩ : zo)] : List (zo)))
set_option maxHeartbeats 8000000 in
set_option maxRecDepth 100000 in
theorem j6.calls  (r : List (zo)) (w : World) (h : j6.f  = some r) :
  Calls Tryz.prog 39 #[] w fun e w' => ∃ Jk : Value, e = .returned (Jk) ∧ Kd.R qJ 81 w' w.heap.size (fun _ => True) Jk r ∧ Below w.heap.size w w' := by
 have zXk := Tryz.underlying81
 have HB := zx.mk (Below.refl w.heap.size w)
 have H : (some (([(⟨(⟨#[98, 117]⟩ : ByteArray), 460⟩ : zo), (⟨(⟨#[101, 109]⟩ : ByteArray), 1000⟩ : zo), (⟨(⟨#[101, 110]⟩ : ByteArray), 500⟩ : zo), (⟨(⟨#[104, 121]⟩ : ByteArray), 350⟩ : zo), (⟨(⟨#[115, 113]⟩ : ByteArray), 600⟩ : zo), (⟨(⟨#[109, 117]⟩ : ByteArray), 600⟩ : zo), (⟨(⟨#[100, 105]⟩ : ByteArray), 600⟩ : zo), (⟨(⟨#[112, 108]⟩ : ByteArray), 600⟩ : zo), (⟨(⟨#[109, 105]⟩ : ByteArray), 600⟩ : zo), (⟨(⟨#[101, 113]⟩ : ByteArray), 600⟩ : zo), (⟨(⟨#[60, 61]⟩ : ByteArray), 600⟩ : zo), (⟨(⟨#[62, 61]⟩ : ByteArray), 600⟩ : zo), (⟨(⟨#[33, 61]⟩ : ByteArray), 600⟩ : zo), (⟨(⟨#[45, 62]⟩ : ByteArray), 1000⟩ : zo), (⟨(⟨#[60, 45]⟩ : ByteArray), 1000⟩ : zo), (⟨(⟨#[115, 114]⟩ : ByteArray), 500⟩ : zo), (⟨(⟨#[105, 115]⟩ : ByteArray), 400⟩ : zo), (⟨(⟨#[115, 117]⟩ : ByteArray), 700⟩ : zo), (⟨(⟨#[112, 100]⟩ : ByteArray), 700⟩ : zo), (⟨(⟨#[105, 102]⟩ : ByteArray), 700⟩ : zo), (⟨(⟨#[42, 97]⟩ : ByteArray), 550⟩ : zo), (⟨(⟨#[42, 98]⟩ : ByteArray), 550⟩ : zo), (⟨(⟨#[42, 103]⟩ : ByteArray), 500⟩ : zo), (⟨(⟨#[42, 100]⟩ : ByteArray), 500⟩ : zo), (⟨(⟨#[42, 112]⟩ : ByteArray), 600⟩ : zo), (⟨(⟨#[42, 108]⟩ : ByteArray), 550⟩ : zo), (⟨(⟨#[42, 115]⟩ : ByteArray), 600⟩ : zo), (⟨(⟨#[42, 119]⟩ : ByteArray), 700⟩ : zo), (⟨(⟨#[99, 111]⟩ : ByteArray), 800⟩ : zo), (⟨(⟨#[100, 103]⟩ : ByteArray), 500⟩ : zo), (⟨(⟨#[115, 99]⟩ : ByteArray), 500⟩ : zo), (⟨(⟨#[114, 104]⟩ : ByteArray), 1000⟩ : zo), (⟨(⟨#[98, 114]⟩ : ByteArray), 10⟩ : zo), (⟨(⟨#[117, 108]⟩ : ByteArray), 500⟩ : zo), (⟨(⟨#[114, 117]⟩ : ByteArray), 500⟩ : zo)] : List (zo)))) = some r := h
 clear h
 obtain ⟨zdf, iX⟩ : ∃ y_ : List (zo), y_ = (([(⟨(⟨#[98, 117]⟩ : ByteArray), 460⟩ : zo), (⟨(⟨#[101, 109]⟩ : ByteArray), 1000⟩ : zo), (⟨(⟨#[101, 110]⟩ : ByteArray), 500⟩ : zo), (⟨(⟨#[104, 121]⟩ : ByteArray), 350⟩ : zo), (⟨(⟨#[115, 113]⟩ : ByteArray), 600⟩ : zo), (⟨(⟨#[109, 117]⟩ : ByteArray), 600⟩ : zo), (⟨(⟨#[100, 105]⟩ : ByteArray), 600⟩ : zo), (⟨(⟨#[112, 108]⟩ : ByteArray), 600⟩ : zo), (⟨(⟨#[109, 105]⟩ : ByteArray), 600⟩ : zo), (⟨(⟨#[101, 113]⟩ : ByteArray), 600⟩ : zo), (⟨(⟨#[60, 61]⟩ : ByteArray), 600⟩ : zo), (⟨(⟨#[62, 61]⟩ : ByteArray), 600⟩ : zo), (⟨(⟨#[33, 61]⟩ : ByteArray), 600⟩ : zo), (⟨(⟨#[45, 62]⟩ : ByteArray), 1000⟩ : zo), (⟨(⟨#[60, 45]⟩ : ByteArray), 1000⟩ : zo), (⟨(⟨#[115, 114]⟩ : ByteArray), 500⟩ : zo), (⟨(⟨#[105, 115]⟩ : ByteArray), 400⟩ : zo), (⟨(⟨#[115, 117]⟩ : ByteArray), 700⟩ : zo), (⟨(⟨#[112, 100]⟩ : ByteArray), 700⟩ : zo), (⟨(⟨#[105, 102]⟩ : ByteArray), 700⟩ : zo), (⟨(⟨#[42, 97]⟩ : ByteArray), 550⟩ : zo), (⟨(⟨#[42, 98]⟩ : ByteArray), 550⟩ : zo), (⟨(⟨#[42, 103]⟩ : ByteArray), 500⟩ : zo), (⟨(⟨#[42, 100]⟩ : ByteArray), 500⟩ : zo), (⟨(⟨#[42, 112]⟩ : ByteArray), 600⟩ : zo), (⟨(⟨#[42, 108]⟩ : ByteArray), 550⟩ : zo), (⟨(⟨#[42, 115]⟩ : ByteArray), 600⟩ : zo), (⟨(⟨#[42, 119]⟩ : ByteArray), 700⟩ : zo), (⟨(⟨#[99, 111]⟩ : ByteArray), 800⟩ : zo), (⟨(⟨#[100, 103]⟩ : ByteArray), 500⟩ : zo), (⟨(⟨#[115, 99]⟩ : ByteArray), 500⟩ : zo), (⟨(⟨#[114, 104]⟩ : ByteArray), 1000⟩ : zo), (⟨(⟨#[98, 114]⟩ : ByteArray), 10⟩ : zo), (⟨(⟨#[117, 108]⟩ : ByteArray), 500⟩ : zo), (⟨(⟨#[114, 117]⟩ : ByteArray), 500⟩ : zo)] : List (zo))) := ⟨_, rfl⟩
 replace H : (some zdf) = some r := by first | (rw [iX]; with_reducible exact H) | (have xJ := (Option.bind_some _ _).symm.trans H; rw [iX]; with_reducible exact xJ) | (have xJ := (Option.bind_some _ _).symm.trans H; with_reducible exact xJ) | with_reducible exact H | (rw [iX]; exact H) | exact H
 have zJX := zx.mk iX
 clear iX
 obtain rfl := Option.some.inj H
 go_enter Tryz.func39, Tryz.ntmps39
 go_wp2_with (first | ((with_reducible refine qx (N := 36) rfl ?_); refine Kd.ZP qJ _ 81 ?hg (N := 36) ?hd (xs := ([(⟨(⟨#[98, 117]⟩ : ByteArray), 460⟩ : zo), (⟨(⟨#[101, 109]⟩ : ByteArray), 1000⟩ : zo), (⟨(⟨#[101, 110]⟩ : ByteArray), 500⟩ : zo), (⟨(⟨#[104, 121]⟩ : ByteArray), 350⟩ : zo), (⟨(⟨#[115, 113]⟩ : ByteArray), 600⟩ : zo), (⟨(⟨#[109, 117]⟩ : ByteArray), 600⟩ : zo), (⟨(⟨#[100, 105]⟩ : ByteArray), 600⟩ : zo), (⟨(⟨#[112, 108]⟩ : ByteArray), 600⟩ : zo), (⟨(⟨#[109, 105]⟩ : ByteArray), 600⟩ : zo), (⟨(⟨#[101, 113]⟩ : ByteArray), 600⟩ : zo), (⟨(⟨#[60, 61]⟩ : ByteArray), 600⟩ : zo), (⟨(⟨#[62, 61]⟩ : ByteArray), 600⟩ : zo), (⟨(⟨#[33, 61]⟩ : ByteArray), 600⟩ : zo), (⟨(⟨#[45, 62]⟩ : ByteArray), 1000⟩ : zo), (⟨(⟨#[60, 45]⟩ : ByteArray), 1000⟩ : zo), (⟨(⟨#[115, 114]⟩ : ByteArray), 500⟩ : zo), (⟨(⟨#[105, 115]⟩ : ByteArray), 400⟩ : zo), (⟨(⟨#[115, 117]⟩ : ByteArray), 700⟩ : zo), (⟨(⟨#[112, 100]⟩ : ByteArray), 700⟩ : zo), (⟨(⟨#[105, 102]⟩ : ByteArray), 700⟩ : zo), (⟨(⟨#[42, 97]⟩ : ByteArray), 550⟩ : zo), (⟨(⟨#[42, 98]⟩ : ByteArray), 550⟩ : zo), (⟨(⟨#[42, 103]⟩ : ByteArray), 500⟩ : zo), (⟨(⟨#[42, 100]⟩ : ByteArray), 500⟩ : zo), (⟨(⟨#[42, 112]⟩ : ByteArray), 600⟩ : zo), (⟨(⟨#[42, 108]⟩ : ByteArray), 550⟩ : zo), (⟨(⟨#[42, 115]⟩ : ByteArray), 600⟩ : zo), (⟨(⟨#[42, 119]⟩ : ByteArray), 700⟩ : zo), (⟨(⟨#[99, 111]⟩ : ByteArray), 800⟩ : zo), (⟨(⟨#[100, 103]⟩ : ByteArray), 500⟩ : zo), (⟨(⟨#[115, 99]⟩ : ByteArray), 500⟩ : zo), (⟨(⟨#[114, 104]⟩ : ByteArray), 1000⟩ : zo), (⟨(⟨#[98, 114]⟩ : ByteArray), 10⟩ : zo), (⟨(⟨#[117, 108]⟩ : ByteArray), 500⟩ : zo), (⟨(⟨#[114, 117]⟩ : ByteArray), 500⟩ : zo)] : List (zo))) (inner := [.string (⟨#[98, 117]⟩ : ByteArray), .int .i64 460, .string (⟨#[101, 109]⟩ : ByteArray), .int .i64 1000, .string (⟨#[101, 110]⟩ : ByteArray), .int .i64 500, .string (⟨#[104, 121]⟩ : ByteArray), .int .i64 350, .string (⟨#[115, 113]⟩ : ByteArray), .int .i64 600, .string (⟨#[109, 117]⟩ : ByteArray), .int .i64 600, .string (⟨#[100, 105]⟩ : ByteArray), .int .i64 600, .string (⟨#[112, 108]⟩ : ByteArray), .int .i64 600, .string (⟨#[109, 105]⟩ : ByteArray), .int .i64 600, .string (⟨#[101, 113]⟩ : ByteArray), .int .i64 600, .string (⟨#[60, 61]⟩ : ByteArray), .int .i64 600, .string (⟨#[62, 61]⟩ : ByteArray), .int .i64 600, .string (⟨#[33, 61]⟩ : ByteArray), .int .i64 600, .string (⟨#[45, 62]⟩ : ByteArray), .int .i64 1000, .string (⟨#[60, 45]⟩ : ByteArray), .int .i64 1000, .string (⟨#[115, 114]⟩ : ByteArray), .int .i64 500, .string (⟨#[105, 115]⟩ : ByteArray), .int .i64 400, .string (⟨#[115, 117]⟩ : ByteArray), .int .i64 700, .string (⟨#[112, 100]⟩ : ByteArray), .int .i64 700, .string (⟨#[105, 102]⟩ : ByteArray), .int .i64 700, .string (⟨#[42, 97]⟩ : ByteArray), .int .i64 550, .string (⟨#[42, 98]⟩ : ByteArray), .int .i64 550, .string (⟨#[42, 103]⟩ : ByteArray), .int .i64 500, .string (⟨#[42, 100]⟩ : ByteArray), .int .i64 500, .string (⟨#[42, 112]⟩ : ByteArray), .int .i64 600, .string (⟨#[42, 108]⟩ : ByteArray), .int .i64 550, .string (⟨#[42, 115]⟩ : ByteArray), .int .i64 600, .string (⟨#[42, 119]⟩ : ByteArray), .int .i64 700, .string (⟨#[99, 111]⟩ : ByteArray), .int .i64 800, .string (⟨#[100, 103]⟩ : ByteArray), .int .i64 500, .string (⟨#[115, 99]⟩ : ByteArray), .int .i64 500, .string (⟨#[114, 104]⟩ : ByteArray), .int .i64 1000, .string (⟨#[98, 114]⟩ : ByteArray), .int .i64 10, .string (⟨#[117, 108]⟩ : ByteArray), .int .i64 500, .string (⟨#[114, 117]⟩ : ByteArray), .int .i64 500]) (ok := fun _ => True) (jc := fun _ => True) ?hr ?hp (fun _ hk => hk) trivial (Below.refl _ _) (Nat.le_refl _) (by simp) ?_; (case hd => rfl); (case hg => rfl); (case hr => first | (go_simp; done) | (go_simp; rfl)); (case hp => exact (yS.c2 (show Kd.M qJ _ _ _ (⟨(⟨#[98, 117]⟩ : ByteArray), 460⟩ : zo) [.string (⟨#[98, 117]⟩ : ByteArray), .int .i64 460] from (xS _ _ _ (⟨(⟨#[98, 117]⟩ : ByteArray), 460⟩ : zo) )) (yS.c2 (show Kd.M qJ _ _ _ (⟨(⟨#[101, 109]⟩ : ByteArray), 1000⟩ : zo) [.string (⟨#[101, 109]⟩ : ByteArray), .int .i64 1000] from (xS _ _ _ (⟨(⟨#[101, 109]⟩ : ByteArray), 1000⟩ : zo) )) (yS.c2 (show Kd.M qJ _ _ _ (⟨(⟨#[101, 110]⟩ : ByteArray), 500⟩ : zo) [.string (⟨#[101, 110]⟩ : ByteArray), .int .i64 500] from (xS _ _ _ (⟨(⟨#[101, 110]⟩ : ByteArray), 500⟩ : zo) )) (yS.c2 (show Kd.M qJ _ _ _ (⟨(⟨#[104, 121]⟩ : ByteArray), 350⟩ : zo) [.string (⟨#[104, 121]⟩ : ByteArray), .int .i64 350] from (xS _ _ _ (⟨(⟨#[104, 121]⟩ : ByteArray), 350⟩ : zo) )) (yS.c2 (show Kd.M qJ _ _ _ (⟨(⟨#[115, 113]⟩ : ByteArray), 600⟩ : zo) [.string (⟨#[115, 113]⟩ : ByteArray), .int .i64 600] from (xS _ _ _ (⟨(⟨#[115, 113]⟩ : ByteArray), 600⟩ : zo) )) (yS.c2 (show Kd.M qJ _ _ _ (⟨(⟨#[109, 117]⟩ : ByteArray), 600⟩ : zo) [.string (⟨#[109, 117]⟩ : ByteArray), .int .i64 600] from (xS _ _ _ (⟨(⟨#[109, 117]⟩ : ByteArray), 600⟩ : zo) )) (yS.c2 (show Kd.M qJ _ _ _ (⟨(⟨#[100, 105]⟩ : ByteArray), 600⟩ : zo) [.string (⟨#[100, 105]⟩ : ByteArray), .int .i64 600] from (xS _ _ _ (⟨(⟨#[100, 105]⟩ : ByteArray), 600⟩ : zo) )) (yS.c2 (show Kd.M qJ _ _ _ (⟨(⟨#[112, 108]⟩ : ByteArray), 600⟩ : zo) [.string (⟨#[112, 108]⟩ : ByteArray), .int .i64 600] from (xS _ _ _ (⟨(⟨#[112, 108]⟩ : ByteArray), 600⟩ : zo) )) (yS.c2 (show Kd.M qJ _ _ _ (⟨(⟨#[109, 105]⟩ : ByteArray), 600⟩ : zo) [.string (⟨#[109, 105]⟩ : ByteArray), .int .i64 600] from (xS _ _ _ (⟨(⟨#[109, 105]⟩ : ByteArray), 600⟩ : zo) )) (yS.c2 (show Kd.M qJ _ _ _ (⟨(⟨#[101, 113]⟩ : ByteArray), 600⟩ : zo) [.string (⟨#[101, 113]⟩ : ByteArray), .int .i64 600] from (xS _ _ _ (⟨(⟨#[101, 113]⟩ : ByteArray), 600⟩ : zo) )) (yS.c2 (show Kd.M qJ _ _ _ (⟨(⟨#[60, 61]⟩ : ByteArray), 600⟩ : zo) [.string (⟨#[60, 61]⟩ : ByteArray), .int .i64 600] from (xS _ _ _ (⟨(⟨#[60, 61]⟩ : ByteArray), 600⟩ : zo) )) (yS.c2 (show Kd.M qJ _ _ _ (⟨(⟨#[62, 61]⟩ : ByteArray), 600⟩ : zo) [.string (⟨#[62, 61]⟩ : ByteArray), .int .i64 600] from (xS _ _ _ (⟨(⟨#[62, 61]⟩ : ByteArray), 600⟩ : zo) )) (yS.c2 (show Kd.M qJ _ _ _ (⟨(⟨#[33, 61]⟩ : ByteArray), 600⟩ : zo) [.string (⟨#[33, 61]⟩ : ByteArray), .int .i64 600] from (xS _ _ _ (⟨(⟨#[33, 61]⟩ : ByteArray), 600⟩ : zo) )) (yS.c2 (show Kd.M qJ _ _ _ (⟨(⟨#[45, 62]⟩ : ByteArray), 1000⟩ : zo) [.string (⟨#[45, 62]⟩ : ByteArray), .int .i64 1000] from (xS _ _ _ (⟨(⟨#[45, 62]⟩ : ByteArray), 1000⟩ : zo) )) (yS.c2 (show Kd.M qJ _ _ _ (⟨(⟨#[60, 45]⟩ : ByteArray), 1000⟩ : zo) [.string (⟨#[60, 45]⟩ : ByteArray), .int .i64 1000] from (xS _ _ _ (⟨(⟨#[60, 45]⟩ : ByteArray), 1000⟩ : zo) )) (yS.c2 (show Kd.M qJ _ _ _ (⟨(⟨#[115, 114]⟩ : ByteArray), 500⟩ : zo) [.string (⟨#[115, 114]⟩ : ByteArray), .int .i64 500] from (xS _ _ _ (⟨(⟨#[115, 114]⟩ : ByteArray), 500⟩ : zo) )) (yS.c2 (show Kd.M qJ _ _ _ (⟨(⟨#[105, 115]⟩ : ByteArray), 400⟩ : zo) [.string (⟨#[105, 115]⟩ : ByteArray), .int .i64 400] from (xS _ _ _ (⟨(⟨#[105, 115]⟩ : ByteArray), 400⟩ : zo) )) (yS.c2 (show Kd.M qJ _ _ _ (⟨(⟨#[115, 117]⟩ : ByteArray), 700⟩ : zo) [.string (⟨#[115, 117]⟩ : ByteArray), .int .i64 700] from (xS _ _ _ (⟨(⟨#[115, 117]⟩ : ByteArray), 700⟩ : zo) )) (yS.c2 (show Kd.M qJ _ _ _ (⟨(⟨#[112, 100]⟩ : ByteArray), 700⟩ : zo) [.string (⟨#[112, 100]⟩ : ByteArray), .int .i64 700] from (xS _ _ _ (⟨(⟨#[112, 100]⟩ : ByteArray), 700⟩ : zo) )) (yS.c2 (show Kd.M qJ _ _ _ (⟨(⟨#[105, 102]⟩ : ByteArray), 700⟩ : zo) [.string (⟨#[105, 102]⟩ : ByteArray), .int .i64 700] from (xS _ _ _ (⟨(⟨#[105, 102]⟩ : ByteArray), 700⟩ : zo) )) (yS.c2 (show Kd.M qJ _ _ _ (⟨(⟨#[42, 97]⟩ : ByteArray), 550⟩ : zo) [.string (⟨#[42, 97]⟩ : ByteArray), .int .i64 550] from (xS _ _ _ (⟨(⟨#[42, 97]⟩ : ByteArray), 550⟩ : zo) )) (yS.c2 (show Kd.M qJ _ _ _ (⟨(⟨#[42, 98]⟩ : ByteArray), 550⟩ : zo) [.string (⟨#[42, 98]⟩ : ByteArray), .int .i64 550] from (xS _ _ _ (⟨(⟨#[42, 98]⟩ : ByteArray), 550⟩ : zo) )) (yS.c2 (show Kd.M qJ _ _ _ (⟨(⟨#[42, 103]⟩ : ByteArray), 500⟩ : zo) [.string (⟨#[42, 103]⟩ : ByteArray), .int .i64 500] from (xS _ _ _ (⟨(⟨#[42, 103]⟩ : ByteArray), 500⟩ : zo) )) (yS.c2 (show Kd.M qJ _ _ _ (⟨(⟨#[42, 100]⟩ : ByteArray), 500⟩ : zo) [.string (⟨#[42, 100]⟩ : ByteArray), .int .i64 500] from (xS _ _ _ (⟨(⟨#[42, 100]⟩ : ByteArray), 500⟩ : zo) )) (yS.c2 (show Kd.M qJ _ _ _ (⟨(⟨#[42, 112]⟩ : ByteArray), 600⟩ : zo) [.string (⟨#[42, 112]⟩ : ByteArray), .int .i64 600] from (xS _ _ _ (⟨(⟨#[42, 112]⟩ : ByteArray), 600⟩ : zo) )) (yS.c2 (show Kd.M qJ _ _ _ (⟨(⟨#[42, 108]⟩ : ByteArray), 550⟩ : zo) [.string (⟨#[42, 108]⟩ : ByteArray), .int .i64 550] from (xS _ _ _ (⟨(⟨#[42, 108]⟩ : ByteArray), 550⟩ : zo) )) (yS.c2 (show Kd.M qJ _ _ _ (⟨(⟨#[42, 115]⟩ : ByteArray), 600⟩ : zo) [.string (⟨#[42, 115]⟩ : ByteArray), .int .i64 600] from (xS _ _ _ (⟨(⟨#[42, 115]⟩ : ByteArray), 600⟩ : zo) )) (yS.c2 (show Kd.M qJ _ _ _ (⟨(⟨#[42, 119]⟩ : ByteArray), 700⟩ : zo) [.string (⟨#[42, 119]⟩ : ByteArray), .int .i64 700] from (xS _ _ _ (⟨(⟨#[42, 119]⟩ : ByteArray), 700⟩ : zo) )) (yS.c2 (show Kd.M qJ _ _ _ (⟨(⟨#[99, 111]⟩ : ByteArray), 800⟩ : zo) [.string (⟨#[99, 111]⟩ : ByteArray), .int .i64 800] from (xS _ _ _ (⟨(⟨#[99, 111]⟩ : ByteArray), 800⟩ : zo) )) (yS.c2 (show Kd.M qJ _ _ _ (⟨(⟨#[100, 103]⟩ : ByteArray), 500⟩ : zo) [.string (⟨#[100, 103]⟩ : ByteArray), .int .i64 500] from (xS _ _ _ (⟨(⟨#[100, 103]⟩ : ByteArray), 500⟩ : zo) )) (yS.c2 (show Kd.M qJ _ _ _ (⟨(⟨#[115, 99]⟩ : ByteArray), 500⟩ : zo) [.string (⟨#[115, 99]⟩ : ByteArray), .int .i64 500] from (xS _ _ _ (⟨(⟨#[115, 99]⟩ : ByteArray), 500⟩ : zo) )) (yS.c2 (show Kd.M qJ _ _ _ (⟨(⟨#[114, 104]⟩ : ByteArray), 1000⟩ : zo) [.string (⟨#[114, 104]⟩ : ByteArray), .int .i64 1000] from (xS _ _ _ (⟨(⟨#[114, 104]⟩ : ByteArray), 1000⟩ : zo) )) (yS.c2 (show Kd.M qJ _ _ _ (⟨(⟨#[98, 114]⟩ : ByteArray), 10⟩ : zo) [.string (⟨#[98, 114]⟩ : ByteArray), .int .i64 10] from (xS _ _ _ (⟨(⟨#[98, 114]⟩ : ByteArray), 10⟩ : zo) )) (yS.c2 (show Kd.M qJ _ _ _ (⟨(⟨#[117, 108]⟩ : ByteArray), 500⟩ : zo) [.string (⟨#[117, 108]⟩ : ByteArray), .int .i64 500] from (xS _ _ _ (⟨(⟨#[117, 108]⟩ : ByteArray), 500⟩ : zo) )) (yS.c2 (show Kd.M qJ _ _ _ (⟨(⟨#[114, 117]⟩ : ByteArray), 500⟩ : zo) [.string (⟨#[114, 117]⟩ : ByteArray), .int .i64 500] from (xS _ _ _ (⟨(⟨#[114, 117]⟩ : ByteArray), 500⟩ : zo) )) (yS.none _ _))))))))))))))))))))))))))))))))))))); intro zlE w1 ho2 hb wo ug; clear wo ug; (first | rw [← zJX.out] at ho2 | (simp only [Int.reduceToNat] at ho2; rw [← zJX.out] at ho2)); have zf := zx.mk (Kd.xI ho2 (zV (zD HB.out))); have zh := zx.mk (zI (zD HB.out) hb); clear HB; have za2 := zf; have HB := zh; clear zf zh; clear hb ho2))
 go_ret
 exact ⟨_, by first | rfl | (simp [zU, z8] <;> rfl) | (simp [*, zU, z8] <;> rfl), by (with_reducible repeat (first | apply Kd.q9 | apply Kd.qL | apply Kd.qw)); exact za2.out, by repeat (first | (with_reducible first | exact HB.out | apply yu | apply zP | apply yT) | exact HB.out)⟩
end Go.Proofs.YtaifemkokfoadaaGreatDoor.PX
