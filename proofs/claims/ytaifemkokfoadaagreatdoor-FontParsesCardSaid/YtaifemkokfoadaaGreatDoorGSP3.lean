/-
  Texts that lean on one another, laid in one file. No condition.
-/
import Derived.Test.YtaifemkokfoadaaGreatDoorGSP1
import Derived.Test.YtaifemkokfoadaaGreatDoorGSP2
import Derived.Lib.Split
import Derived.Lib.Strings
import Derived.Lib.IndexLaws
import Derived.Lib.Hide
import Derived.Lib.SplitLaws
import Derived.Lib.ItoaNum
import Derived.KernelRfl
import Derived.Outline
import Derived.RangeFuncRecord
import Derived.WalkSpells
import Derived.WalkLawsBesides
import Derived.Deep.QuietTactic
import Derived.BigQuiet
import Derived.Deep.RegionHeld3
import Derived.Sort.Walk0
namespace Go.Proofs.YtaifemkokfoadaaGreatDoor.PX
open Go.RowKit Go.Proofs.zy.zK Go.Proofs.zy.yt Go.Proofs.zy.yV
attribute [local go_sem] xX xJ xP xR qD qE xV xK   -- for this text's walks alone
set_option linter.unusedVariables false
set_option linter.unusedSimpArgs false
mutual
def zu.l0 : Nat → Int → ByteArray → Bool → Int → List (qB) → List (xC) → List (xS) → ByteArray → Bool → Int → List (qA) → Option (ByteArray × Bool × Int × (List (qA)) × (List (qM)) × (List (qH)))
 | 0, _, _, _, _, _, _, _, _, _, _, _ => none
 | k + 1, x4, U7, U8, U9, Y9, Yh, Yi, Vz, Vq, Vx, XG => if x4 < (Y9.length : Int) then (if 0 ≤ x4 then (if XG.length < 5864062014805 then (zu.l0 k (wrap64 (x4 + 1)) U7 U8 U9 Y9 Yh Yi Vz Vq Vx (XG ++ [(⟨(qI Y9 x4).f0, (qI Y9 x4).f1⟩ : qA)])) else (none)) else (none)) else (zu.l1 k 0 U7 U8 U9 Y9 Yh Yi Vz Vq Vx XG ([] : List (qM)))
def zu.l1 : Nat → Int → ByteArray → Bool → Int → List (qB) → List (xC) → List (xS) → ByteArray → Bool → Int → List (qA) → List (qM) → Option (ByteArray × Bool × Int × (List (qA)) × (List (qM)) × (List (qH)))
 | 0, _, _, _, _, _, _, _, _, _, _, _, _ => none
 | k + 1, x5, U7, U8, U9, Y9, Yh, Yi, Vz, Vq, Vx, XG, Kg => if x5 < (Yh.length : Int) then (if 0 ≤ x5 then (if Kg.length < 2932031007402 then (zu.l1 k (wrap64 (x5 + 1)) U7 U8 U9 Y9 Yh Yi Vz Vq Vx XG (Kg ++ [(⟨(xB Yh x5).f0, (xB Yh x5).f1, (xB Yh x5).f2⟩ : qM)])) else (none)) else (none)) else (zu.l2 k 0 U7 U8 U9 Y9 Yh Yi Vz Vq Vx XG Kg ([] : List (qH)))
def zu.l2 : Nat → Int → ByteArray → Bool → Int → List (qB) → List (xC) → List (xS) → ByteArray → Bool → Int → List (qA) → List (qM) → List (qH) → Option (ByteArray × Bool × Int × (List (qA)) × (List (qM)) × (List (qH)))
 | 0, _, _, _, _, _, _, _, _, _, _, _, _, _ => none
 | k + 1, x6, U7, U8, U9, Y9, Yh, Yi, Vz, Vq, Vx, XG, Kg, zqZ => if x6 < (Yi.length : Int) then (if 0 ≤ x6 then (if zqZ.length < 3518437208883 then (zu.l2 k (wrap64 (x6 + 1)) U7 U8 U9 Y9 Yh Yi Vz Vq Vx XG Kg (zqZ ++ [(⟨(xE Yi x6).f0, (xE Yi x6).f1, (xE Yi x6).f2⟩ : qH)])) else (none)) else (none)) else (some (Vz, Vq, Vx, XG, Kg, zqZ))
end
def zu.f (k : Nat) (zN : ByteArray) (zO : Bool) (zP : Int) (zn : List (qB)) (zD : List (xC)) (zF : List (xS)) : Option (ByteArray × Bool × Int × (List (qA)) × (List (qM)) × (List (qH))) := zu.l0 k 0 zN zO zP zn zD zF zN zO zP ([] : List (qA))
def zu.T5 : Bool × List (List Nat × List Nat) := (true, [([], []), ([0], [0]), ([], []), ([2], [2]), ([], []), ([3, 4], [3, 4]), ([5], [5]), ([6], [6]), ([], []), ([8], [8]), ([], []), ([9, 10], [9, 10]), ([11], [11]), ([12], [12]), ([7, 13], [7, 13]), ([14], [14]), ([1, 15], [1, 15]), ([0, 1, 2, 3, 4, 5, 6, 7, 8, 9, 10, 11, 12, 13, 14, 15, 16], []), ([17, 16, 16, 0, 1, 2, 3, 4, 5, 6, 7, 8, 9, 10, 11, 12, 13, 14, 15, 16], [16, 17])])
def zu.B5 : List Nat := [0, 1, 0, 4, 0, 28, 60, 124, 0, 256, 0, 1792, 3840, 7936, 16380, 32764, 65535, 131071, 262143]
theorem zu.mJ : uz .any (opsOf Tryz.f16 5) = zu.T5 := by kernel_rfl
theorem zu.mI : uZ zu.T5.2 zu.B5 = true := by kernel_rfl
def zu.T9 : Bool × List (List Nat × List Nat) := (true, [([], []), ([0], [0]), ([], []), ([2], [2]), ([], []), ([3, 4], [3, 4]), ([5], [5]), ([6], [6]), ([], []), ([8], [8]), ([], []), ([9, 10], [9, 10]), ([11], [11]), ([12], [12]), ([], []), ([14], [14]), ([], []), ([15, 16], [15, 16]), ([17], [17]), ([18], [18]), ([7, 13, 19], [7, 13, 19]), ([20], [20]), ([1, 21], [1, 21]), ([0, 1, 2, 3, 4, 5, 6, 7, 8, 9, 10, 11, 12, 13, 14, 15, 16, 17, 18, 19, 20, 21, 22], []), ([23, 22, 22, 0, 1, 2, 3, 4, 5, 6, 7, 8, 9, 10, 11, 12, 13, 14, 15, 16, 17, 18, 19, 20, 21, 22], [22, 23])])
def zu.B9 : List Nat := [0, 1, 0, 4, 0, 28, 60, 124, 0, 256, 0, 1792, 3840, 7936, 0, 16384, 0, 114688, 245760, 507904, 1048572, 2097148, 4194303, 8388607, 16777215]
theorem zu.zZ8 : uz .any (opsOf Tryz.f16 9) = zu.T9 := by kernel_rfl
theorem zu.zyQ : uZ zu.T9.2 zu.B9 = true := by kernel_rfl
def zu.Wu : Bool × List (List Nat × List Nat) := (true, [([], []), ([0], [0]), ([], []), ([2], [2]), ([], []), ([3, 4], [3, 4]), ([5], [5]), ([6], [6]), ([], []), ([8], [8]), ([], []), ([9, 10], [9, 10]), ([11], [11]), ([12], [12]), ([], []), ([14], [14]), ([], []), ([15, 16], [15, 16]), ([17], [17]), ([18], [18]), ([7, 13, 19], [7, 13, 19]), ([20], [20]), ([1, 21], [1, 21]), ([0, 1, 2, 3, 4, 5, 6, 7, 8, 9, 10, 11, 12, 13, 14, 15, 16, 17, 18, 19, 20, 21, 22], []), ([23, 22, 22, 0, 1, 2, 3, 4, 5, 6, 7, 8, 9, 10, 11, 12, 13, 14, 15, 16, 17, 18, 19, 20, 21, 22], [22, 23])])
def zu.B13 : List Nat := [0, 1, 0, 4, 0, 28, 60, 124, 0, 256, 0, 1792, 3840, 7936, 0, 16384, 0, 114688, 245760, 507904, 1048572, 2097148, 4194303, 8388607, 16777215]
theorem zu.YI : uz .any (opsOf Tryz.f16 13) = zu.Wu := by kernel_rfl
theorem zu.Zl : uZ zu.Wu.2 zu.B13 = true := by kernel_rfl
set_option maxHeartbeats 8000000 in
set_option maxRecDepth 100000 in
theorem zu.calls (k : Nat) (zN : ByteArray) (zO : Bool) (zP : Int) (qJ : Option Addr) (qZ : Nat) (zn : List (qB)) (qK : Option Addr) (qQ : Nat) (zD : List (xC)) (qY : Option Addr) (qX : Nat) (zF : List (xS)) (r1 : ByteArray) (r2 : Bool) (r3 : Int) (r4 : List (qA)) (r5 : List (qM)) (r6 : List (qH)) (w : World) (wY : Kd.C jB w qJ zn.length zn) (pW : zn.length ≤ qZ) (pE : Kd.C kS w qK zD.length zD) (pF : zD.length ≤ qQ) (pG : Kd.C kU w qY zF.length zF) (pI : zF.length ≤ qX) (h : zu.f k zN zO zP zn zD zF = some (r1, r2, r3, r4, r5, r6)) :
  Calls Tryz.prog 16 #[.agg #[.string zN, .bool zO, .int .i64 zP, .slice qJ zn.length qZ, .slice qK zD.length qQ, .slice qY zF.length qX]] w fun e w' => ∃ v3_ v4_ v5_ : Value, e = .returned (.agg #[.string r1, .bool r2, .int .i64 r3, v3_, v4_, v5_]) ∧ Kd.R YQ 81 w' w.heap.size (fun _ => True) v3_ r4 ∧ Kd.R Yt 83 w' w.heap.size (fun _ => True) v4_ r5 ∧ Kd.R Yu 84 w' w.heap.size (fun _ => True) v5_ r6 ∧ Below w.heap.size w w' := by
 have lX := Tryz.underlying26
 have zyw := Tryz.underlying44
 have zK6 := Tryz.underlying81
 have zK7 := Tryz.underlying83
 have zK8 := Tryz.underlying84
 have wS := zk.mk wY
 have Xh := zk.mk pW
 clear wY pW
 have ZB := zk.mk pE
 have Xi := zk.mk pF
 clear pE pF
 have ZC := zk.mk pG
 have Xl := zk.mk pI
 clear pG pI
 have HB := zk.mk (Below.refl w.heap.size w)
 have H : (zu.l0 k 0 zN zO zP zn zD zF zN zO zP ([] : List (qA))) = some (r1, r2, r3, r4, r5, r6) := h
 clear h
 have H' := zk.mk H
 clear H
 go_enter Tryz.func16, Tryz.ntmps16
 go_wp2_with (first | ((with_reducible refine xI (N := 1) rfl ?_); refine vJ ?hg (N := 1) ?hd (cs := #[.string zN, .bool zO, .int .i64 zP, .slice qJ zn.length qZ, .slice qK zD.length qQ, .slice qY zF.length qX]) (t := 26) ?hr ?_; (case hd => rfl); (case hg => rfl); (case hr => first | (go_simp; done) | (go_simp; rfl)); intro qL hg w2 vX hb; have zl := zk.mk (yg (yQ HB.out) hb); have zC := zk.mk (vX); have zM := zk.mk ((by rw [hg]; exact (zH (yQ HB.out)) : w.heap.size ≤ qL)); have zT := zk.mk ((by rw [hg]; exact (zH (yQ HB.out)) : w.heap.size ≤ qL)); clear HB; have HB := zl; have zL := zC; have zli := zM; have zaM := zT; clear zl zC zM zT; clear hb vX hg) | ((with_reducible refine xI (N := 2) rfl ?_); refine vJ ?hg (N := 2) ?hd (cs := #[.string (⟨#[]⟩ : ByteArray), .bool false, .int .i64 0, .slice none 0 0, .slice none 0 0, .slice none 0 0]) (t := 44) ?hr ?_; (case hd => rfl); (case hg => rfl); (case hr => first | (go_simp; done) | (go_simp; rfl)); intro um hg w3 vX hb; have zl := zk.mk (zo (g := qL) (o := .cells #[.string zN, .bool zO, .int .i64 zP, .slice qJ zn.length qZ, .slice qK zD.length qQ, .slice qY zF.length qX] 26 (0, 0)) (qV zL.out) hb); have zC := zk.mk (yg (yQ HB.out) hb); have zM := zk.mk (vX); have zT := zk.mk ((by rw [hg]; exact (zH (yQ HB.out)) : w.heap.size ≤ um)); have yL := zk.mk ((by rw [hg]; exact (zH (yQ HB.out)) : w.heap.size ≤ um)); have y9 := zk.mk ((by rw [hg]; exact Nat.ne_of_lt (uM (g := qL) (o := .cells #[.string zN, .bool zO, .int .i64 zP, .slice qJ zn.length qZ, .slice qK zD.length qQ, .slice qY zF.length qX] 26 (0, 0)) (qV zL.out)) : qL ≠ um)); have qw := zk.mk ((by rw [hg]; exact Nat.ne_of_gt (uM (g := qL) (o := .cells #[.string zN, .bool zO, .int .i64 zP, .slice qJ zn.length qZ, .slice qK zD.length qQ, .slice qY zF.length qX] 26 (0, 0)) (qV zL.out)) : um ≠ qL)); clear zL; clear HB; have zL := zl; have HB := zC; have vL := zM; have zll := zT; have zaN := yL; have XY := y9; have XW := qw; clear zl zC zM zT yL y9 qw; clear hb vX hg; have zmE := XY.out; have zmF := XW.out; have zxM : w3.cell? ⟨qL, 0, none⟩ = some (.string zN) := (zx zL.out 0).trans rfl; have zxN : w3.cell? ⟨qL, 1, none⟩ = some (.bool zO) := (zx zL.out 1).trans rfl; have zxO : w3.cell? ⟨qL, 2, none⟩ = some (.int .i64 zP) := (zx zL.out 2).trans rfl; have zxP : w3.cell? ⟨qL, 3, none⟩ = some (.slice qJ zn.length qZ) := (zx zL.out 3).trans rfl; have zxR : w3.cell? ⟨qL, 4, none⟩ = some (.slice qK zD.length qQ) := (zx zL.out 4).trans rfl; have zxS : w3.cell? ⟨qL, 5, none⟩ = some (.slice qY zF.length qX) := (zx zL.out 5).trans rfl; have zxT := zw zL.out 0; have zxU := zw zL.out 1; have zx0 := zw zL.out 2; have zx1 := zw zL.out 3; have zx2 := zw zL.out 4; have zx3 := zw zL.out 5) | ((with_reducible refine xI (N := 3) rfl ?_); refine vJ ?hg (N := 3) ?hd (cs := #[.string (⟨#[]⟩ : ByteArray), .bool false, .int .i64 0, .slice none 0 0, .slice none 0 0, .slice none 0 0]) (t := 44) ?hr ?_; (case hd => rfl); (case hg => rfl); (case hr => first | (go_simp; done) | (go_simp; rfl)); intro vP hg w6 vX hb; have zl := zk.mk (zo (g := qL) (o := .cells #[.string zN, .bool zO, .int .i64 zP, .slice qJ zn.length qZ, .slice qK zD.length qQ, .slice qY zF.length qX] 26 (0, 0)) (qV zL.out) hb); have zC := zk.mk (zo (g := um) (o := .cells #[.string (⟨#[]⟩ : ByteArray), .bool false, .int .i64 0, .slice none 0 0, .slice none 0 0, .slice none 0 0] 44 (0, 0)) (qV vL.out) hb); have zM := zk.mk (yg (yQ HB.out) hb); have zT := zk.mk (vX); have yL := zk.mk ((by rw [hg]; exact (zH (yQ HB.out)) : w.heap.size ≤ vP)); have y9 := zk.mk ((by rw [hg]; exact (zH (yQ HB.out)) : w.heap.size ≤ vP)); have qw := zk.mk ((by rw [hg]; exact Nat.ne_of_lt (uM (g := qL) (o := .cells #[.string zN, .bool zO, .int .i64 zP, .slice qJ zn.length qZ, .slice qK zD.length qQ, .slice qY zF.length qX] 26 (0, 0)) (qV zL.out)) : qL ≠ vP)); have xg := zk.mk ((by rw [hg]; exact Nat.ne_of_gt (uM (g := qL) (o := .cells #[.string zN, .bool zO, .int .i64 zP, .slice qJ zn.length qZ, .slice qK zD.length qQ, .slice qY zF.length qX] 26 (0, 0)) (qV zL.out)) : vP ≠ qL)); have jS := zk.mk ((by rw [hg]; exact Nat.ne_of_lt (uM (g := um) (o := .cells #[.string (⟨#[]⟩ : ByteArray), .bool false, .int .i64 0, .slice none 0 0, .slice none 0 0, .slice none 0 0] 44 (0, 0)) (qV vL.out)) : um ≠ vP)); have YB := zk.mk ((by rw [hg]; exact Nat.ne_of_gt (uM (g := um) (o := .cells #[.string (⟨#[]⟩ : ByteArray), .bool false, .int .i64 0, .slice none 0 0, .slice none 0 0, .slice none 0 0] 44 (0, 0)) (qV vL.out)) : vP ≠ um)); clear zL; clear vL; clear HB; have zL := zl; have vL := zC; have HB := zM; have yC := zT; have zlm := yL; have zaO := y9; have Zy := qw; have Zw := xg; have Jo := jS; have Jp := YB; clear zl zC zM zT yL y9 qw xg jS YB; clear hb vX hg; have zmG := Zw.out; have zmH := Zy.out; have zdw := Jp.out; have zdZ := Jo.out; have Qj : w6.cell? ⟨vP, 0, none⟩ = some (.string (⟨#[]⟩ : ByteArray)) := (zx yC.out 0).trans rfl; have Qv : w6.cell? ⟨vP, 1, none⟩ = some (.bool false) := (zx yC.out 1).trans rfl; have Qk : w6.cell? ⟨vP, 2, none⟩ = some (.int .i64 0) := (zx yC.out 2).trans rfl; have Qy : w6.cell? ⟨vP, 3, none⟩ = some (.slice none 0 0) := (zx yC.out 3).trans rfl; have Qw : w6.cell? ⟨vP, 4, none⟩ = some (.slice none 0 0) := (zx yC.out 4).trans rfl; have QZ : w6.cell? ⟨vP, 5, none⟩ = some (.slice none 0 0) := (zx yC.out 5).trans rfl; have QX := zw yC.out 0; have QJ := zw yC.out 1; have QV := zw yC.out 2; have QK := zw yC.out 3; have QY := zw yC.out 4; have QW := zw yC.out 5))
 go_loopg [4] k (fun kq v4 w' => ∃ (kZ : Int) (jJ : List (qA)) (kQ : Value), v4 = .int .i64 kZ ∧ zk (zu.l0 kq kZ zN zO zP zn zD zF zN zO zP jJ = some (r1, r2, r3, r4, r5, r6)) ∧ zk (kq ≤ k) ∧ zk (Kd.R YQ 81 w' w.heap.size (fun _ => True) kQ jJ) ∧ zk (w'.heap[qL]? = some (.cells #[.string zN, .bool zO, .int .i64 zP, (.slice qJ zn.length qZ), (.slice qK zD.length qQ), (.slice qY zF.length qX)] 26 (0, 0))) ∧ zk (w'.heap[um]? = some (.cells #[.string (⟨#[]⟩ : ByteArray), .bool false, .int .i64 0, (.slice none 0 0), (.slice none 0 0), (.slice none 0 0)] 44 (0, 0))) ∧ zk (w'.heap[vP]? = some (.cells #[.string zN, .bool zO, .int .i64 zP, kQ, (.slice none 0 0), (.slice none 0 0)] 44 (0, 0))) ∧ zk (Below w.heap.size w w'))
 case atStart => exact ⟨(0), (([] : List (qA))), (.slice none 0 0), (by first | rfl | (simp; done) | (simp [*]; done)), H', ⟨Nat.le_refl _⟩, ⟨by first | exact Kd.vD _ _ _ _ _ | exact Kd.jG _ _ _ _ _ | exact Kd.jH _ _ _ _ _ | exact Kd.jE _ _ _ _ _ | exact Kd.jF _ _ _ _ _⟩, ⟨JO zL.out⟩, ⟨JO vL.out⟩, ⟨by (with_reducible repeat (first | refine zY ?_ _ | refine zV ?_ | refine zQ ?_ _)); refine zi (cs := #[.string zN, .bool zO, .int .i64 zP, .slice none 0 0, .slice none 0 0, .slice none 0 0]) ?_ 5 _ rfl; (with_reducible repeat (first | refine zY ?_ _ | refine zV ?_ | refine zQ ?_ _)); refine zi (cs := #[.string zN, .bool zO, .int .i64 zP, .slice none 0 0, .slice none 0 0, .slice none 0 0]) ?_ 4 _ rfl; (with_reducible repeat (first | refine zY ?_ _ | refine zV ?_ | refine zQ ?_ _)); refine zi (cs := #[.string zN, .bool zO, .int .i64 zP, .slice none 0 0, .slice none 0 0, .slice none 0 0]) ?_ 3 _ rfl; (with_reducible repeat (first | refine zY ?_ _ | refine zV ?_ | refine zQ ?_ _)); refine zi (cs := #[.string zN, .bool zO, .int .i64 0, .slice none 0 0, .slice none 0 0, .slice none 0 0]) ?_ 2 _ rfl; (with_reducible repeat (first | refine zY ?_ _ | refine zV ?_ | refine zQ ?_ _)); refine zi (cs := #[.string zN, .bool false, .int .i64 0, .slice none 0 0, .slice none 0 0, .slice none 0 0]) ?_ 1 _ rfl; (with_reducible repeat (first | refine zY ?_ _ | refine zV ?_ | refine zQ ?_ _)); refine zi (cs := #[.string (⟨#[]⟩ : ByteArray), .bool false, .int .i64 0, .slice none 0 0, .slice none 0 0, .slice none 0 0]) ?_ 0 _ rfl; (with_reducible repeat (first | refine zY ?_ _ | refine zV ?_ | refine zQ ?_ _)); exact yC.out⟩, ⟨yQ HB.out⟩⟩
 case round =>
  clear H'
  try clear c1
  try clear p2
  try clear c4
  try clear c7
  try clear c8
  try clear zxM
  try clear zxN
  try clear zxO
  try clear zxP
  try clear zxR
  try clear zxS
  try clear Qj
  try clear Qv
  try clear Qk
  try clear Qy
  try clear Qw
  try clear QZ
  try clear zxT
  try clear zxU
  try clear zx0
  try clear zx1
  try clear zx2
  try clear zx3
  try clear QX
  try clear QJ
  try clear QV
  try clear QK
  try clear QY
  try clear QW
  obtain ⟨kZ, jJ, kQ, rfl, HA, jl, vo, zL, vL, yC, HB⟩ := hrel
  cases gk with
  | zero => exact absurd HA.out (by simp [zu.l0])
  | succ k1 =>
   have H := HA.out
   clear HA
   simp only [zu.l0] at H
   by_cases c10 : kZ < (zn.length : Int)
   ·rw [if_pos c10] at H
    have J3 : decide (kZ < (zn.length : Int)) = true := decide_eq_true c10
    clear c10
    by_cases c11 : 0 ≤ kZ
    ·rw [if_pos c11] at H
     have Jd : decide (0 ≤ kZ) = true := decide_eq_true c11
     clear c11
     by_cases c12 : jJ.length < 5864062014805
     ·rw [if_pos c12] at H
      have zaP := zk.mk c12
      clear c12
      obtain ⟨zyX, zzw⟩ : ∃ y_ : List (qA), y_ = (jJ ++ [(⟨(qI zn kZ).f0, (qI zn kZ).f1⟩ : qA)]) := ⟨_, rfl⟩
      replace H : (zu.l0 k1 (wrap64 (kZ + 1)) zN zO zP zn zD zF zN zO zP zyX) = some (r1, r2, r3, r4, r5, r6) := by first | (rw [zzw]; with_reducible exact H) | (have jR := (Option.bind_some _ _).symm.trans H; rw [zzw]; with_reducible exact jR) | (have jR := (Option.bind_some _ _).symm.trans H; with_reducible exact jR) | with_reducible exact H | (rw [zzw]; exact H) | exact H
      have zaR := zk.mk zzw
      clear zzw
      have H' := zk.mk H
      clear H
      have zln := XY.out
      have zlo := XW.out
      have zaf := Zy.out
      have zah := Zw.out
      have UY : wr.cell? ⟨qL, 0, none⟩ = some (.string zN) := (zx zL.out 0).trans rfl
      have UW : wr.cell? ⟨qL, 1, none⟩ = some (.bool zO) := (zx zL.out 1).trans rfl
      have Ua : wr.cell? ⟨qL, 2, none⟩ = some (.int .i64 zP) := (zx zL.out 2).trans rfl
      have Ub : wr.cell? ⟨qL, 3, none⟩ = some (.slice qJ zn.length qZ) := (zx zL.out 3).trans rfl
      have Uc : wr.cell? ⟨qL, 4, none⟩ = some (.slice qK zD.length qQ) := (zx zL.out 4).trans rfl
      have Ud : wr.cell? ⟨qL, 5, none⟩ = some (.slice qY zF.length qX) := (zx zL.out 5).trans rfl
      have Ue := zw zL.out 0
      have Uf := zw zL.out 1
      have Ug := zw zL.out 2
      have Uh := zw zL.out 3
      have Ui := zw zL.out 4
      have Ul := zw zL.out 5
      try go_wp2
      have zl := zk.mk (Kd.yj vo.out)
      have zC := zk.mk (zV zL.out)
      have zM := zk.mk (zV vL.out)
      have zT := zk.mk (zV yC.out)
      have yL := zk.mk (yD HB.out)
      clear vo zL vL yC HB
      have vo := zl
      have zL := zC
      have vL := zM
      have yC := zT
      have HB := yL
      clear zl zC zM zT yL
      have zx4 : 0 ≤ (kZ : Int) := of_decide_eq_true (by first | (with_reducible assumption) | assumption)
      have zx5 : kZ < (zn.length : Int) := of_decide_eq_true (by first | (with_reducible assumption) | assumption)
      obtain ⟨J4, e278, Jz, Jq⟩ := Jh wS.out kZ zx4 zx5
      have Vj := Jq
      have Vv := Jz
      cases e278
      replace Jz := (HB.out.cell (World.block_lt_of_cell? w _ Jz)).trans Jz
      replace Jq := (HB.out.cell (World.block_lt_of_cell? w _ Jq)).trans Jq
      replace zx4 := eq_true zx4
      replace zx5 := eq_true zx5
      have zx6 : 0 ≤ (kZ : Int) := of_decide_eq_true (by first | (with_reducible assumption) | assumption)
      have zx7 : kZ < (zn.length : Int) := of_decide_eq_true (by first | (with_reducible assumption) | assumption)
      obtain ⟨zaS, e279, Jj, Jv⟩ := Jh wS.out kZ zx6 zx7
      have Vk := Jv
      have Vy := Jj
      obtain rfl : J4 = zaS := (by injection e279)
      replace Jj := (HB.out.cell (World.block_lt_of_cell? w _ Jj)).trans Jj
      replace Jv := (HB.out.cell (World.block_lt_of_cell? w _ Jv)).trans Jv
      replace zx6 := eq_true zx6
      replace zx7 := eq_true zx7
      refine wW (n := 19) (S := fun w' => w'.cell? ⟨vP, 0, none⟩ = some (.string zN) ∧ w'.cell? ⟨vP, 1, none⟩ = some (.bool zO) ∧ w'.cell? ⟨vP, 2, none⟩ = some (.int .i64 zP) ∧ w'.cell? ⟨vP, 3, none⟩ = some (kQ) ∧ w'.cell? ⟨vP, 4, none⟩ = some (.slice none 0 0) ∧ w'.cell? ⟨vP, 5, none⟩ = some (.slice none 0 0) ∧ w'.cell? ⟨qL, 0, none⟩ = some (.string zN) ∧ w'.cell? ⟨qL, 1, none⟩ = some (.bool zO) ∧ w'.cell? ⟨qL, 2, none⟩ = some (.int .i64 zP) ∧ w'.cell? ⟨qL, 3, none⟩ = some (.slice (some J4) zn.length qZ) ∧ w'.cell? ⟨qL, 4, none⟩ = some (.slice qK zD.length qQ) ∧ w'.cell? ⟨qL, 5, none⟩ = some (.slice qY zF.length qX) ∧ w'.cell? (J4.add ((kZ).toNat * 2)) = some (.string ((qI zn kZ).f0)) ∧ w'.cell? ⟨(J4.add ((kZ).toNat * 2)).block, (J4.add ((kZ).toNat * 2)).off + 1, none⟩ = some (.int .i64 ((qI zn kZ).f1)) ∧ w'.cell? (J4.add ((kZ).toNat * 2)) = some (.string ((qI zn kZ).f0)) ∧ w'.cell? ⟨(J4.add ((kZ).toNat * 2)).block, (J4.add ((kZ).toNat * 2)).off + 1, none⟩ = some (.int .i64 ((qI zn kZ).f1))) (ds := [18]) #[false, false, false, false, false, false, false, false, false, false, false, false, false, false, false, false, false, false, false] (by kernel_rfl) rfl rfl ⟨(zx yC.out 0).trans rfl, (zx yC.out 1).trans rfl, (zx yC.out 2).trans rfl, (zx yC.out 3).trans rfl, (zx yC.out 4).trans rfl, (zx yC.out 5).trans rfl, (zx zL.out 0).trans rfl, (zx zL.out 1).trans rfl, (zx zL.out 2).trans rfl, (zx zL.out 3).trans rfl, (zx zL.out 4).trans rfl, (zx zL.out 5).trans rfl, ((HB.out.cell (World.block_lt_of_cell? w _ Vv)).trans Vv), ((HB.out.cell (World.block_lt_of_cell? w _ Vj)).trans Vj), ((HB.out.cell (World.block_lt_of_cell? w _ Vy)).trans Vy), ((HB.out.cell (World.block_lt_of_cell? w _ Vk)).trans Vk)⟩ (fun hHeld => ?_); refine wI zu.mJ zu.mI (fun yY jT => ?_)
      generalize wr.drew = w16 at vo zL vL yC HB Jz Jq Jj Jv hHeld ⊢
      refine uj 0 (some 21) yY ?_
      refine uj 2 (some 23) yY ?_
      refine uj 4 (some 25) yY ?_
      refine uj 8 (some 29) yY ?_
      refine uj 10 (some 31) yY ?_
      refine pQ 1 (some 22) yY jT hHeld ?_
      refine pQ 3 (some 24) yY jT hHeld ?_
      refine uj 5 (some 26) yY ?_
      refine uj 6 (some 27) yY ?_
      refine pQ 7 (some 28) yY jT hHeld ?_
      refine pQ 9 (some 30) yY jT hHeld ?_
      refine uj 11 (some 32) yY ?_
      refine uj 12 (some 33) yY ?_
      refine pQ 13 (some 34) yY jT hHeld ?_
      refine uj 14 (some 35) yY ?_
      refine ru 15 (some 36) yY (fun K hK => ?_)
      refine vaS ?_
      refine hK.out _ _ ⟨(zx (zQ yC.out _) 0).trans rfl, (zx (zQ yC.out _) 1).trans rfl, (zx (zQ yC.out _) 2).trans rfl, (zx (zQ yC.out _) 3).trans rfl, (zx (zQ yC.out _) 4).trans rfl, (zx (zQ yC.out _) 5).trans rfl, (zx (zQ zL.out _) 0).trans rfl, (zx (zQ zL.out _) 1).trans rfl, (zx (zQ zL.out _) 2).trans rfl, (zx (zQ zL.out _) 3).trans rfl, (zx (zQ zL.out _) 4).trans rfl, (zx (zQ zL.out _) 5).trans rfl, (World.cell?_alloc_lt _ _ _ (World.block_lt_of_cell? _ _ (((HB.out.cell (World.block_lt_of_cell? w _ Vv)).trans Vv)))).trans (((HB.out.cell (World.block_lt_of_cell? w _ Vv)).trans Vv)), (World.cell?_alloc_lt _ _ _ (World.block_lt_of_cell? _ _ (((HB.out.cell (World.block_lt_of_cell? w _ Vj)).trans Vj)))).trans (((HB.out.cell (World.block_lt_of_cell? w _ Vj)).trans Vj)), (World.cell?_alloc_lt _ _ _ (World.block_lt_of_cell? _ _ (((HB.out.cell (World.block_lt_of_cell? w _ Vy)).trans Vy)))).trans (((HB.out.cell (World.block_lt_of_cell? w _ Vy)).trans Vy)), (World.cell?_alloc_lt _ _ _ (World.block_lt_of_cell? _ _ (((HB.out.cell (World.block_lt_of_cell? w _ Vk)).trans Vk)))).trans (((HB.out.cell (World.block_lt_of_cell? w _ Vk)).trans Vk))⟩ (fun hHeld => ?_)
      clear hK K
      refine JN (some 36) ?_
      refine ru 16 (some 37) yY (fun K hK => ?_)
      refine Kd.u7 YQ (w0 := w) w.heap.size (by rfl) (.tmp 22) (.tmp 36) 40 81 (.agg #[(.string ⟨#[]⟩), (.int .i64 0)]) 24 rfl Tryz.underlying40 zxd rfl (by decide) (by omega) kQ jJ (⟨(qI zn kZ).f0, (qI zn kZ).f1⟩ : qA) [.string ((qI zn kZ).f0), .int .i64 ((qI zn kZ).f1)] (fun _ => True) (fun _ => False) rfl rfl ?aP (fun _ hk => hk.elim) ?aF ?aO ?aB ?aS ?aL ?_
      (case aP => exact zzO _ _ _ (⟨(qI zn kZ).f0, (qI zn kZ).f1⟩ : qA))
      (case aB => exact (yQ HB.out))
      (case aF => exact (fun _ _ => trivial))
      (case aO => exact (yK vo.out))
      (case aS => exact (zH (yQ HB.out)))
      (case aL => have := zaP.out; omega)
      intro zmI nP ho hb hg hat
      rw [← zaR.out] at ho
      have zl := zk.mk (vk (g := qL) (o := .cells #[.string zN, .bool zO, .int .i64 zP, .slice (some J4) zn.length qZ, .slice qK zD.length qQ, .slice qY zF.length qX] 26 (0, 0)) (qV zL.out) hg (Kd.kT vo.out zL.out (by decide)))
      have zC := zk.mk (vk (g := um) (o := .cells #[.string (⟨#[]⟩ : ByteArray), .bool false, .int .i64 0, .slice none 0 0, .slice none 0 0, .slice none 0 0] 44 (0, 0)) (qV vL.out) hg (Kd.kT vo.out vL.out (by decide)))
      have zM := zk.mk (vk (g := vP) (o := .cells #[.string zN, .bool zO, .int .i64 zP, kQ, .slice none 0 0, .slice none 0 0] 44 (0, 0)) (qV yC.out) hg (Kd.kT vo.out yC.out (by decide)))
      have zT := zk.mk (hb)
      have yL := zk.mk (ho)
      clear zL vL yC HB vo
      have zL := zl
      have vL := zC
      have yC := zM
      have HB := zT
      have zXA := yL
      clear zl zC zM zT yL ho hb hg hat
      obtain ⟨zK9, zYz, zYq⟩ := Kd.yA zXA.out
      (first | subst zYq | (injection zYq with kW Z4 kg; have Z5 := kW.symm; have Z6 := kg.symm; clear kW Z4 kg; subst Z5; subst Z6))
      refine hK.out _ _ ⟨(zx yC.out 0).trans rfl, (zx yC.out 1).trans rfl, (zx yC.out 2).trans rfl, (zx yC.out 3).trans rfl, (zx yC.out 4).trans rfl, (zx yC.out 5).trans rfl, (zx zL.out 0).trans rfl, (zx zL.out 1).trans rfl, (zx zL.out 2).trans rfl, (zx zL.out 3).trans rfl, (zx zL.out 4).trans rfl, (zx zL.out 5).trans rfl, ((HB.out.cell (World.block_lt_of_cell? w _ Vv)).trans Vv), ((HB.out.cell (World.block_lt_of_cell? w _ Vj)).trans Vj), ((HB.out.cell (World.block_lt_of_cell? w _ Vy)).trans Vy), ((HB.out.cell (World.block_lt_of_cell? w _ Vk)).trans Vk)⟩ (fun hHeld => ?_)
      clear hK K
      refine JN (some 37) ?_
      refine uj 17 (some 38) yY ?_
      refine ZA (i := 18) (N := none) #[true, true, true, true, true, true, true, true, true, true, true, true, true, true, true, true, true, true, true] rfl rfl (uw yY.out (by kernel_rfl)) (by decide) (fun K hK => ?_)
      have zk4 : nP.cell? ⟨vP, 3, none⟩ = some (kQ) := (zx yC.out 3).trans rfl
      have zq5 := zw yC.out 3
      have zh4 := Zy.out
      have zh5 := Jo.out
      have zh6 := Zw.out
      have zh7 := Jp.out
      refine Xd (w1 := ?_) (by rfl) rfl ?_ ?_
      rotate_left
      ·go_simp
       rfl
      refine hK.out _ _ ?_
      clear hK K
      refine uh (vC yY.out (by kernel_rfl)) ?_
      try go_wp2
      go_roundg k1
      case measure => have := jl.out; omega
      case rel => exact ⟨(wrap64 (kZ + 1)), (zyX), (.slice zK9 zyX.length zYz), (by first | rfl | (simp; done) | (simp [*]; done)), H', ⟨by have := jl.out; omega⟩, ⟨by (with_reducible repeat (first | apply Kd.yT | apply Kd.yU | apply Kd.yj)); exact Kd.yh (Kd.zW (p := ⟨vP, 3, none⟩) (Kd.qg zXA.out yC.out (by decide)) (fun _ hk => hk.2) (.slice zK9 zyX.length zYz)) (fun _ hk => trivial)⟩, ⟨JO zL.out⟩, ⟨JO vL.out⟩, ⟨by (with_reducible repeat (first | refine zY ?_ _ | refine zV ?_ | refine zQ ?_ _)); refine zi (cs := #[.string zN, .bool zO, .int .i64 zP, kQ, .slice none 0 0, .slice none 0 0]) ?_ 3 _ rfl; (with_reducible repeat (first | refine zY ?_ _ | refine zV ?_ | refine zQ ?_ _)); exact yC.out⟩, ⟨yQ HB.out⟩⟩
     ·rw [if_neg c12] at H
      exact absurd H (by simp)
    ·rw [if_neg c11] at H
     exact absurd H (by simp)
   ·rw [if_neg c10] at H
    have J3 : decide (kZ < (zn.length : Int)) = false := decide_eq_false c10
    clear c10
    have H' := zk.mk H
    clear H
    have zXl := XY.out
    have zXm := XW.out
    have zlp := Zy.out
    have zlr := Zw.out
    have Um : wr.cell? ⟨qL, 0, none⟩ = some (.string zN) := (zx zL.out 0).trans rfl
    have Un : wr.cell? ⟨qL, 1, none⟩ = some (.bool zO) := (zx zL.out 1).trans rfl
    have Uo : wr.cell? ⟨qL, 2, none⟩ = some (.int .i64 zP) := (zx zL.out 2).trans rfl
    have Ur : wr.cell? ⟨qL, 3, none⟩ = some (.slice qJ zn.length qZ) := (zx zL.out 3).trans rfl
    have Us : wr.cell? ⟨qL, 4, none⟩ = some (.slice qK zD.length qQ) := (zx zL.out 4).trans rfl
    have Ut : wr.cell? ⟨qL, 5, none⟩ = some (.slice qY zF.length qX) := (zx zL.out 5).trans rfl
    have Uu := zw zL.out 0
    have UA := zw zL.out 1
    have UC := zw zL.out 2
    have UD := zw zL.out 3
    have UE := zw zL.out 4
    have UF := zw zL.out 5
    go_wp2
    go_loopg [5] k1 (fun kq v5 w' => ∃ (xq : Int) (ko : List (qM)) (wU : Value), v5 = .int .i64 xq ∧ zk (zu.l1 kq xq zN zO zP zn zD zF zN zO zP jJ ko = some (r1, r2, r3, r4, r5, r6)) ∧ zk (kq ≤ k1) ∧ zk (Kd.R YQ 81 w' w.heap.size (fun _ => True) kQ jJ) ∧ zk (Kd.R Yt 83 w' w.heap.size (fun _ => True) wU ko) ∧ zk (w'.heap[qL]? = some (.cells #[.string zN, .bool zO, .int .i64 zP, (.slice qJ zn.length qZ), (.slice qK zD.length qQ), (.slice qY zF.length qX)] 26 (0, 0))) ∧ zk (w'.heap[um]? = some (.cells #[.string (⟨#[]⟩ : ByteArray), .bool false, .int .i64 0, (.slice none 0 0), (.slice none 0 0), (.slice none 0 0)] 44 (0, 0))) ∧ zk (w'.heap[vP]? = some (.cells #[.string zN, .bool zO, .int .i64 zP, kQ, wU, (.slice none 0 0)] 44 (0, 0))) ∧ zk (Below w.heap.size w w'))
    case atStart => exact ⟨(0), (([] : List (qM))), (.slice none 0 0), (by first | rfl | (simp; done) | (simp [*]; done)), H', ⟨Nat.le_refl _⟩, ⟨yK vo.out⟩, ⟨by first | exact Kd.vD _ _ _ _ _ | exact Kd.jG _ _ _ _ _ | exact Kd.jH _ _ _ _ _ | exact Kd.jE _ _ _ _ _ | exact Kd.jF _ _ _ _ _⟩, ⟨qV zL.out⟩, ⟨qV vL.out⟩, ⟨qV yC.out⟩, ⟨yQ HB.out⟩⟩
    case round =>
     clear H'
     try clear c1
     try clear c2
     try clear p2
     try clear q2
     try clear hx2
     try clear c4
     try clear p6
     try clear c7
     try clear c8
     try clear c10
     try clear J3
     try clear c11
     try clear Jd
     try clear c12
     try clear c13
     try clear c14
     try clear c16
     try clear c20
     try clear c21
     try clear UY
     try clear UW
     try clear Ua
     try clear Ub
     try clear Uc
     try clear Ud
     try clear Um
     try clear Un
     try clear Uo
     try clear Ur
     try clear Us
     try clear Ut
     try clear zxM
     try clear zxN
     try clear zxO
     try clear zxP
     try clear zxR
     try clear zxS
     try clear Qj
     try clear Qv
     try clear Qk
     try clear Qy
     try clear Qw
     try clear QZ
     try clear Ue
     try clear Uf
     try clear Ug
     try clear Uh
     try clear Ui
     try clear Ul
     try clear Uu
     try clear UA
     try clear UC
     try clear UD
     try clear UE
     try clear UF
     try clear zxT
     try clear zxU
     try clear zx0
     try clear zx1
     try clear zx2
     try clear zx3
     try clear QX
     try clear QJ
     try clear QV
     try clear QK
     try clear QY
     try clear QW
     try clear Jz
     try clear Jq
     try clear Jj
     try clear Jv
     try clear p2
     try clear zx4
     try clear zx6
     try clear zx5
     try clear zx7
     obtain ⟨xq, ko, wU, rfl, HA, K9, vo, ug, zL, vL, yC, HB⟩ := hrel
     cases gk with
     | zero => exact absurd HA.out (by simp [zu.l1])
     | succ k2 =>
      have H := HA.out
      clear HA
      simp only [zu.l1] at H
      by_cases c23 : xq < (zD.length : Int)
      ·rw [if_pos c23] at H
       have zXB : decide (xq < (zD.length : Int)) = true := decide_eq_true c23
       clear c23
       by_cases c24 : 0 ≤ xq
       ·rw [if_pos c24] at H
        have zq9 : decide (0 ≤ xq) = true := decide_eq_true c24
        clear c24
        by_cases c25 : ko.length < 2932031007402
        ·rw [if_pos c25] at H
         have zaT := zk.mk c25
         clear c25
         obtain ⟨zx8, zzZ⟩ : ∃ y_ : List (qM), y_ = (ko ++ [(⟨(xB zD xq).f0, (xB zD xq).f1, (xB zD xq).f2⟩ : qM)]) := ⟨_, rfl⟩
         replace H : (zu.l1 k2 (wrap64 (xq + 1)) zN zO zP zn zD zF zN zO zP jJ zx8) = some (r1, r2, r3, r4, r5, r6) := by first | (rw [zzZ]; with_reducible exact H) | (have jR := (Option.bind_some _ _).symm.trans H; rw [zzZ]; with_reducible exact jR) | (have jR := (Option.bind_some _ _).symm.trans H; with_reducible exact jR) | with_reducible exact H | (rw [zzZ]; exact H) | exact H
         have zaU := zk.mk zzZ
         clear zzZ
         have H' := zk.mk H
         clear H
         have zXn := XY.out
         have zXo := XW.out
         have zls := Zy.out
         have zlt := Zw.out
         have Kk : wr.cell? ⟨qL, 0, none⟩ = some (.string zN) := (zx zL.out 0).trans rfl
         have Ky : wr.cell? ⟨qL, 1, none⟩ = some (.bool zO) := (zx zL.out 1).trans rfl
         have Kw : wr.cell? ⟨qL, 2, none⟩ = some (.int .i64 zP) := (zx zL.out 2).trans rfl
         have KZ : wr.cell? ⟨qL, 3, none⟩ = some (.slice qJ zn.length qZ) := (zx zL.out 3).trans rfl
         have KQ : wr.cell? ⟨qL, 4, none⟩ = some (.slice qK zD.length qQ) := (zx zL.out 4).trans rfl
         have KX : wr.cell? ⟨qL, 5, none⟩ = some (.slice qY zF.length qX) := (zx zL.out 5).trans rfl
         have KJ := zw zL.out 0
         have KV := zw zL.out 1
         have KY := zw zL.out 2
         have KW := zw zL.out 3
         have Ka := zw zL.out 4
         have Ke := zw zL.out 5
         try go_wp2
         have zl := zk.mk (Kd.yj vo.out)
         have zC := zk.mk (Kd.yj ug.out)
         have zM := zk.mk (zV zL.out)
         have zT := zk.mk (zV vL.out)
         have yL := zk.mk (zV yC.out)
         have y9 := zk.mk (yD HB.out)
         clear vo ug zL vL yC HB
         have vo := zl
         have ug := zC
         have zL := zM
         have vL := zT
         have yC := yL
         have HB := y9
         clear zl zC zM zT yL y9
         have zyJ : 0 ≤ (xq : Int) := of_decide_eq_true (by first | (with_reducible assumption) | assumption)
         have zyV : xq < (zD.length : Int) := of_decide_eq_true (by first | (with_reducible assumption) | assumption)
         obtain ⟨pU, e283, Kh, Ki, Kl⟩ := Pp ZB.out xq zyJ zyV
         have Vw := Kl
         have VZ := Ki
         have VQ := Kh
         cases e283
         replace Kh := (HB.out.cell (World.block_lt_of_cell? w _ Kh)).trans Kh
         replace Ki := (HB.out.cell (World.block_lt_of_cell? w _ Ki)).trans Ki
         replace Kl := (HB.out.cell (World.block_lt_of_cell? w _ Kl)).trans Kl
         replace zyJ := eq_true zyJ
         replace zyV := eq_true zyV
         have zyK : 0 ≤ (xq : Int) := of_decide_eq_true (by first | (with_reducible assumption) | assumption)
         have zyY : xq < (zD.length : Int) := of_decide_eq_true (by first | (with_reducible assumption) | assumption)
         obtain ⟨za0, e284, Km, Kn, Ko⟩ := Pp ZB.out xq zyK zyY
         have VX := Ko
         have VJ := Kn
         have VK := Km
         obtain rfl : pU = za0 := (by injection e284)
         replace Km := (HB.out.cell (World.block_lt_of_cell? w _ Km)).trans Km
         replace Kn := (HB.out.cell (World.block_lt_of_cell? w _ Kn)).trans Kn
         replace Ko := (HB.out.cell (World.block_lt_of_cell? w _ Ko)).trans Ko
         replace zyK := eq_true zyK
         replace zyY := eq_true zyY
         have zyW : 0 ≤ (xq : Int) := of_decide_eq_true (by first | (with_reducible assumption) | assumption)
         have zya : xq < (zD.length : Int) := of_decide_eq_true (by first | (with_reducible assumption) | assumption)
         obtain ⟨za1, e285, Kt, Ku, KA⟩ := Pp ZB.out xq zyW zya
         have VY := KA
         have VW := Ku
         have Va := Kt
         obtain rfl : pU = za1 := (by injection e285)
         replace Kt := (HB.out.cell (World.block_lt_of_cell? w _ Kt)).trans Kt
         replace Ku := (HB.out.cell (World.block_lt_of_cell? w _ Ku)).trans Ku
         replace KA := (HB.out.cell (World.block_lt_of_cell? w _ KA)).trans KA
         replace zyW := eq_true zyW
         replace zya := eq_true zya
         refine wW (n := 25) (S := fun w' => w'.cell? ⟨vP, 0, none⟩ = some (.string zN) ∧ w'.cell? ⟨vP, 1, none⟩ = some (.bool zO) ∧ w'.cell? ⟨vP, 2, none⟩ = some (.int .i64 zP) ∧ w'.cell? ⟨vP, 3, none⟩ = some (kQ) ∧ w'.cell? ⟨vP, 4, none⟩ = some (wU) ∧ w'.cell? ⟨vP, 5, none⟩ = some (.slice none 0 0) ∧ w'.cell? ⟨qL, 0, none⟩ = some (.string zN) ∧ w'.cell? ⟨qL, 1, none⟩ = some (.bool zO) ∧ w'.cell? ⟨qL, 2, none⟩ = some (.int .i64 zP) ∧ w'.cell? ⟨qL, 3, none⟩ = some (.slice qJ zn.length qZ) ∧ w'.cell? ⟨qL, 4, none⟩ = some (.slice (some pU) zD.length qQ) ∧ w'.cell? ⟨qL, 5, none⟩ = some (.slice qY zF.length qX) ∧ w'.cell? (pU.add ((xq).toNat * 3)) = some (.string ((xB zD xq).f0)) ∧ w'.cell? ⟨(pU.add ((xq).toNat * 3)).block, (pU.add ((xq).toNat * 3)).off + 1, none⟩ = some (.string ((xB zD xq).f1)) ∧ w'.cell? ⟨(pU.add ((xq).toNat * 3)).block, (pU.add ((xq).toNat * 3)).off + 2, none⟩ = some (.string ((xB zD xq).f2)) ∧ w'.cell? (pU.add ((xq).toNat * 3)) = some (.string ((xB zD xq).f0)) ∧ w'.cell? ⟨(pU.add ((xq).toNat * 3)).block, (pU.add ((xq).toNat * 3)).off + 1, none⟩ = some (.string ((xB zD xq).f1)) ∧ w'.cell? ⟨(pU.add ((xq).toNat * 3)).block, (pU.add ((xq).toNat * 3)).off + 2, none⟩ = some (.string ((xB zD xq).f2)) ∧ w'.cell? (pU.add ((xq).toNat * 3)) = some (.string ((xB zD xq).f0)) ∧ w'.cell? ⟨(pU.add ((xq).toNat * 3)).block, (pU.add ((xq).toNat * 3)).off + 1, none⟩ = some (.string ((xB zD xq).f1)) ∧ w'.cell? ⟨(pU.add ((xq).toNat * 3)).block, (pU.add ((xq).toNat * 3)).off + 2, none⟩ = some (.string ((xB zD xq).f2))) (ds := [24]) #[false, false, false, false, false, false, false, false, false, false, false, false, false, false, false, false, false, false, false, false, false, false, false, false, false] (by kernel_rfl) rfl rfl ⟨(zx yC.out 0).trans rfl, (zx yC.out 1).trans rfl, (zx yC.out 2).trans rfl, (zx yC.out 3).trans rfl, (zx yC.out 4).trans rfl, (zx yC.out 5).trans rfl, (zx zL.out 0).trans rfl, (zx zL.out 1).trans rfl, (zx zL.out 2).trans rfl, (zx zL.out 3).trans rfl, (zx zL.out 4).trans rfl, (zx zL.out 5).trans rfl, ((HB.out.cell (World.block_lt_of_cell? w _ VQ)).trans VQ), ((HB.out.cell (World.block_lt_of_cell? w _ VZ)).trans VZ), ((HB.out.cell (World.block_lt_of_cell? w _ Vw)).trans Vw), ((HB.out.cell (World.block_lt_of_cell? w _ VK)).trans VK), ((HB.out.cell (World.block_lt_of_cell? w _ VJ)).trans VJ), ((HB.out.cell (World.block_lt_of_cell? w _ VX)).trans VX), ((HB.out.cell (World.block_lt_of_cell? w _ Va)).trans Va), ((HB.out.cell (World.block_lt_of_cell? w _ VW)).trans VW), ((HB.out.cell (World.block_lt_of_cell? w _ VY)).trans VY)⟩ (fun hHeld => ?_); refine wI zu.zZ8 zu.zyQ (fun yY jT => ?_)
         generalize wr.drew = w29 at vo ug zL vL yC HB Kh Ki Kl Km Kn Ko Kt Ku KA hHeld ⊢
         refine uj 0 (some 46) yY ?_
         refine uj 2 (some 48) yY ?_
         refine uj 4 (some 50) yY ?_
         refine uj 8 (some 54) yY ?_
         refine uj 10 (some 56) yY ?_
         refine uj 14 (some 60) yY ?_
         refine uj 16 (some 62) yY ?_
         refine pQ 1 (some 47) yY jT hHeld ?_
         refine pQ 3 (some 49) yY jT hHeld ?_
         refine uj 5 (some 51) yY ?_
         refine uj 6 (some 52) yY ?_
         refine pQ 7 (some 53) yY jT hHeld ?_
         refine pQ 9 (some 55) yY jT hHeld ?_
         refine uj 11 (some 57) yY ?_
         refine uj 12 (some 58) yY ?_
         refine pQ 13 (some 59) yY jT hHeld ?_
         refine pQ 15 (some 61) yY jT hHeld ?_
         refine uj 17 (some 63) yY ?_
         refine uj 18 (some 64) yY ?_
         refine pQ 19 (some 65) yY jT hHeld ?_
         refine uj 20 (some 66) yY ?_
         refine ru 21 (some 67) yY (fun K hK => ?_)
         refine vaS ?_
         refine hK.out _ _ ⟨(zx (zQ yC.out _) 0).trans rfl, (zx (zQ yC.out _) 1).trans rfl, (zx (zQ yC.out _) 2).trans rfl, (zx (zQ yC.out _) 3).trans rfl, (zx (zQ yC.out _) 4).trans rfl, (zx (zQ yC.out _) 5).trans rfl, (zx (zQ zL.out _) 0).trans rfl, (zx (zQ zL.out _) 1).trans rfl, (zx (zQ zL.out _) 2).trans rfl, (zx (zQ zL.out _) 3).trans rfl, (zx (zQ zL.out _) 4).trans rfl, (zx (zQ zL.out _) 5).trans rfl, (World.cell?_alloc_lt _ _ _ (World.block_lt_of_cell? _ _ (((HB.out.cell (World.block_lt_of_cell? w _ VQ)).trans VQ)))).trans (((HB.out.cell (World.block_lt_of_cell? w _ VQ)).trans VQ)), (World.cell?_alloc_lt _ _ _ (World.block_lt_of_cell? _ _ (((HB.out.cell (World.block_lt_of_cell? w _ VZ)).trans VZ)))).trans (((HB.out.cell (World.block_lt_of_cell? w _ VZ)).trans VZ)), (World.cell?_alloc_lt _ _ _ (World.block_lt_of_cell? _ _ (((HB.out.cell (World.block_lt_of_cell? w _ Vw)).trans Vw)))).trans (((HB.out.cell (World.block_lt_of_cell? w _ Vw)).trans Vw)), (World.cell?_alloc_lt _ _ _ (World.block_lt_of_cell? _ _ (((HB.out.cell (World.block_lt_of_cell? w _ VK)).trans VK)))).trans (((HB.out.cell (World.block_lt_of_cell? w _ VK)).trans VK)), (World.cell?_alloc_lt _ _ _ (World.block_lt_of_cell? _ _ (((HB.out.cell (World.block_lt_of_cell? w _ VJ)).trans VJ)))).trans (((HB.out.cell (World.block_lt_of_cell? w _ VJ)).trans VJ)), (World.cell?_alloc_lt _ _ _ (World.block_lt_of_cell? _ _ (((HB.out.cell (World.block_lt_of_cell? w _ VX)).trans VX)))).trans (((HB.out.cell (World.block_lt_of_cell? w _ VX)).trans VX)), (World.cell?_alloc_lt _ _ _ (World.block_lt_of_cell? _ _ (((HB.out.cell (World.block_lt_of_cell? w _ Va)).trans Va)))).trans (((HB.out.cell (World.block_lt_of_cell? w _ Va)).trans Va)), (World.cell?_alloc_lt _ _ _ (World.block_lt_of_cell? _ _ (((HB.out.cell (World.block_lt_of_cell? w _ VW)).trans VW)))).trans (((HB.out.cell (World.block_lt_of_cell? w _ VW)).trans VW)), (World.cell?_alloc_lt _ _ _ (World.block_lt_of_cell? _ _ (((HB.out.cell (World.block_lt_of_cell? w _ VY)).trans VY)))).trans (((HB.out.cell (World.block_lt_of_cell? w _ VY)).trans VY))⟩ (fun hHeld => ?_)
         clear hK K
         refine JN (some 67) ?_
         refine ru 22 (some 68) yY (fun K hK => ?_)
         refine Kd.u7 Yt (w0 := w) w.heap.size (by rfl) (.tmp 47) (.tmp 67) 41 83 (.agg #[(.string ⟨#[]⟩), (.string ⟨#[]⟩), (.string ⟨#[]⟩)]) 48 rfl Tryz.underlying41 zws rfl (by decide) (by omega) wU ko (⟨(xB zD xq).f0, (xB zD xq).f1, (xB zD xq).f2⟩ : qM) [.string ((xB zD xq).f0), .string ((xB zD xq).f1), .string ((xB zD xq).f2)] (fun _ => True) (fun _ => False) rfl rfl ?aP (fun _ hk => hk.elim) ?aF ?aO ?aB ?aS ?aL ?_
         (case aP => exact zjL _ _ _ (⟨(xB zD xq).f0, (xB zD xq).f1, (xB zD xq).f2⟩ : qM))
         (case aB => exact (yQ HB.out))
         (case aF => exact (fun _ _ => trivial))
         (case aO => exact (yK ug.out))
         (case aS => exact (zH (yQ HB.out)))
         (case aL => have := zaT.out; omega)
         intro zmL w30 ho hb hg hat
         rw [← zaU.out] at ho
         have zl := zk.mk (Kd.ji (yK vo.out) (Kd.jh (yK ug.out)) (by decide) hg)
         have zC := zk.mk (vk (g := qL) (o := .cells #[.string zN, .bool zO, .int .i64 zP, .slice qJ zn.length qZ, .slice (some pU) zD.length qQ, .slice qY zF.length qX] 26 (0, 0)) (qV zL.out) hg (Kd.kT ug.out zL.out (by decide)))
         have zM := zk.mk (vk (g := um) (o := .cells #[.string (⟨#[]⟩ : ByteArray), .bool false, .int .i64 0, .slice none 0 0, .slice none 0 0, .slice none 0 0] 44 (0, 0)) (qV vL.out) hg (Kd.kT ug.out vL.out (by decide)))
         have zT := zk.mk (vk (g := vP) (o := .cells #[.string zN, .bool zO, .int .i64 zP, kQ, wU, .slice none 0 0] 44 (0, 0)) (qV yC.out) hg (Kd.kT ug.out yC.out (by decide)))
         have yL := zk.mk (hb)
         have y9 := zk.mk (ho)
         clear vo zL vL yC HB ug
         have vo := zl
         have zL := zC
         have vL := zM
         have yC := zT
         have HB := yL
         have zXC := y9
         clear zl zC zM zT yL y9 ho hb hg hat
         obtain ⟨zZ9, zQz, zYx⟩ := Kd.yA zXC.out
         (first | subst zYx | (injection zYx with kW Z4 kg; have Z5 := kW.symm; have Z6 := kg.symm; clear kW Z4 kg; subst Z5; subst Z6))
         refine hK.out _ _ ⟨(zx yC.out 0).trans rfl, (zx yC.out 1).trans rfl, (zx yC.out 2).trans rfl, (zx yC.out 3).trans rfl, (zx yC.out 4).trans rfl, (zx yC.out 5).trans rfl, (zx zL.out 0).trans rfl, (zx zL.out 1).trans rfl, (zx zL.out 2).trans rfl, (zx zL.out 3).trans rfl, (zx zL.out 4).trans rfl, (zx zL.out 5).trans rfl, ((HB.out.cell (World.block_lt_of_cell? w _ VQ)).trans VQ), ((HB.out.cell (World.block_lt_of_cell? w _ VZ)).trans VZ), ((HB.out.cell (World.block_lt_of_cell? w _ Vw)).trans Vw), ((HB.out.cell (World.block_lt_of_cell? w _ VK)).trans VK), ((HB.out.cell (World.block_lt_of_cell? w _ VJ)).trans VJ), ((HB.out.cell (World.block_lt_of_cell? w _ VX)).trans VX), ((HB.out.cell (World.block_lt_of_cell? w _ Va)).trans Va), ((HB.out.cell (World.block_lt_of_cell? w _ VW)).trans VW), ((HB.out.cell (World.block_lt_of_cell? w _ VY)).trans VY)⟩ (fun hHeld => ?_)
         clear hK K
         refine JN (some 68) ?_
         refine uj 23 (some 69) yY ?_
         refine ZA (i := 24) (N := none) #[true, true, true, true, true, true, true, true, true, true, true, true, true, true, true, true, true, true, true, true, true, true, true, true, true] rfl rfl (uw yY.out (by kernel_rfl)) (by decide) (fun K hK => ?_)
         have zmM : w30.cell? ⟨vP, 4, none⟩ = some (wU) := (zx yC.out 4).trans rfl
         have zlu := zw yC.out 4
         have zh8 := Zy.out
         have zh9 := Jo.out
         have ziz := Zw.out
         have ziq := Jp.out
         refine Xd (w1 := ?_) (by rfl) rfl ?_ ?_
         rotate_left
         ·go_simp
          rfl
         refine hK.out _ _ ?_
         clear hK K
         refine uh (vC yY.out (by kernel_rfl)) ?_
         try go_wp2
         go_roundg k2
         case measure => have := jl.out; have := K9.out; omega
         case rel => exact ⟨(wrap64 (xq + 1)), (zx8), (.slice zZ9 zx8.length zQz), (by first | rfl | (simp; done) | (simp [*]; done)), H', ⟨by have := jl.out; have := K9.out; omega⟩, ⟨by (with_reducible repeat (first | apply Kd.yT | apply Kd.yU | apply Kd.yj)); exact Kd.yh (Kd.zW (p := ⟨vP, 4, none⟩) (Kd.qg vo.out yC.out (by decide)) (fun _ hk => hk.2) (.slice zZ9 zx8.length zQz)) (fun _ hk => trivial)⟩, ⟨by (with_reducible repeat (first | apply Kd.yT | apply Kd.yU | apply Kd.yj)); exact Kd.yh (Kd.zW (p := ⟨vP, 4, none⟩) (Kd.qg zXC.out yC.out (by decide)) (fun _ hk => hk.2) (.slice zZ9 zx8.length zQz)) (fun _ hk => trivial)⟩, ⟨JO zL.out⟩, ⟨JO vL.out⟩, ⟨by (with_reducible repeat (first | refine zY ?_ _ | refine zV ?_ | refine zQ ?_ _)); refine zi (cs := #[.string zN, .bool zO, .int .i64 zP, kQ, wU, .slice none 0 0]) ?_ 4 _ rfl; (with_reducible repeat (first | refine zY ?_ _ | refine zV ?_ | refine zQ ?_ _)); exact yC.out⟩, ⟨yQ HB.out⟩⟩
        ·rw [if_neg c25] at H
         exact absurd H (by simp)
       ·rw [if_neg c24] at H
        exact absurd H (by simp)
      ·rw [if_neg c23] at H
       have zXB : decide (xq < (zD.length : Int)) = false := decide_eq_false c23
       clear c23
       have H' := zk.mk H
       clear H
       have zlA := XY.out
       have zlB := XW.out
       have zai := Zy.out
       have zal := Zw.out
       have bU : wr.cell? ⟨qL, 0, none⟩ = some (.string zN) := (zx zL.out 0).trans rfl
       have cZ : wr.cell? ⟨qL, 1, none⟩ = some (.bool zO) := (zx zL.out 1).trans rfl
       have cK : wr.cell? ⟨qL, 2, none⟩ = some (.int .i64 zP) := (zx zL.out 2).trans rfl
       have cB : wr.cell? ⟨qL, 3, none⟩ = some (.slice qJ zn.length qZ) := (zx zL.out 3).trans rfl
       have cO : wr.cell? ⟨qL, 4, none⟩ = some (.slice qK zD.length qQ) := (zx zL.out 4).trans rfl
       have dx : wr.cell? ⟨qL, 5, none⟩ = some (.slice qY zF.length qX) := (zx zL.out 5).trans rfl
       have dw := zw zL.out 0
       have dZ := zw zL.out 1
       have dQ := zw zL.out 2
       have dX := zw zL.out 3
       have dJ := zw zL.out 4
       have dV := zw zL.out 5
       go_wp2
       go_loopg [6] k2 (fun kq v6 w' => ∃ (yO : Int) (ZQ : List (qH)) (XH : Value), v6 = .int .i64 yO ∧ zk (zu.l2 kq yO zN zO zP zn zD zF zN zO zP jJ ko ZQ = some (r1, r2, r3, r4, r5, r6)) ∧ zk (kq ≤ k2) ∧ zk (Kd.R YQ 81 w' w.heap.size (fun _ => True) kQ jJ) ∧ zk (Kd.R Yt 83 w' w.heap.size (fun _ => True) wU ko) ∧ zk (Kd.R Yu 84 w' w.heap.size (fun _ => True) XH ZQ) ∧ zk (w'.heap[qL]? = some (.cells #[.string zN, .bool zO, .int .i64 zP, (.slice qJ zn.length qZ), (.slice qK zD.length qQ), (.slice qY zF.length qX)] 26 (0, 0))) ∧ zk (w'.heap[um]? = some (.cells #[.string (⟨#[]⟩ : ByteArray), .bool false, .int .i64 0, (.slice none 0 0), (.slice none 0 0), (.slice none 0 0)] 44 (0, 0))) ∧ zk (w'.heap[vP]? = some (.cells #[.string zN, .bool zO, .int .i64 zP, kQ, wU, XH] 44 (0, 0))) ∧ zk (Below w.heap.size w w'))
       case atStart => exact ⟨(0), (([] : List (qH))), (.slice none 0 0), (by first | rfl | (simp; done) | (simp [*]; done)), H', ⟨Nat.le_refl _⟩, ⟨yK vo.out⟩, ⟨yK ug.out⟩, ⟨by first | exact Kd.vD _ _ _ _ _ | exact Kd.jG _ _ _ _ _ | exact Kd.jH _ _ _ _ _ | exact Kd.jE _ _ _ _ _ | exact Kd.jF _ _ _ _ _⟩, ⟨qV zL.out⟩, ⟨qV vL.out⟩, ⟨qV yC.out⟩, ⟨yQ HB.out⟩⟩
       case round =>
        clear H'
        try clear c1
        try clear c2
        try clear p2
        try clear q2
        try clear hx2
        try clear c3
        try clear c4
        try clear p6
        try clear c7
        try clear c8
        try clear c10
        try clear J3
        try clear c11
        try clear Jd
        try clear c12
        try clear c13
        try clear c14
        try clear c16
        try clear c20
        try clear c21
        try clear c23
        try clear zXB
        try clear c24
        try clear zq9
        try clear c25
        try clear c26
        try clear c27
        try clear p27
        try clear q27
        try clear hx27
        try clear p28
        try clear q28
        try clear hx28
        try clear c33
        try clear c34
        try clear UY
        try clear UW
        try clear Ua
        try clear Ub
        try clear Uc
        try clear Ud
        try clear Um
        try clear Un
        try clear Uo
        try clear Ur
        try clear Us
        try clear Ut
        try clear Kk
        try clear Ky
        try clear Kw
        try clear KZ
        try clear KQ
        try clear KX
        try clear bU
        try clear cZ
        try clear cK
        try clear cB
        try clear cO
        try clear dx
        try clear zxM
        try clear zxN
        try clear zxO
        try clear zxP
        try clear zxR
        try clear zxS
        try clear Qj
        try clear Qv
        try clear Qk
        try clear Qy
        try clear Qw
        try clear QZ
        try clear Ue
        try clear Uf
        try clear Ug
        try clear Uh
        try clear Ui
        try clear Ul
        try clear Uu
        try clear UA
        try clear UC
        try clear UD
        try clear UE
        try clear UF
        try clear KJ
        try clear KV
        try clear KY
        try clear KW
        try clear Ka
        try clear Ke
        try clear dw
        try clear dZ
        try clear dQ
        try clear dX
        try clear dJ
        try clear dV
        try clear zxT
        try clear zxU
        try clear zx0
        try clear zx1
        try clear zx2
        try clear zx3
        try clear QX
        try clear QJ
        try clear QV
        try clear QK
        try clear QY
        try clear QW
        try clear Jz
        try clear Jq
        try clear Jj
        try clear Jv
        try clear Kh
        try clear Ki
        try clear Kl
        try clear Km
        try clear Kn
        try clear Ko
        try clear Kt
        try clear Ku
        try clear KA
        try clear p2
        try clear zx4
        try clear zx6
        try clear zyJ
        try clear zyK
        try clear zyW
        try clear p6
        try clear q2
        try clear zx5
        try clear zx7
        try clear zyV
        try clear zyY
        try clear zya
        obtain ⟨yO, ZQ, XH, rfl, HA, Wt, vo, ug, kN, zL, vL, yC, HB⟩ := hrel
        cases gk with
        | zero => exact absurd HA.out (by simp [zu.l2])
        | succ k3 =>
         have H := HA.out
         clear HA
         simp only [zu.l2] at H
         by_cases c36 : yO < (zF.length : Int)
         ·rw [if_pos c36] at H
          have za2 : decide (yO < (zF.length : Int)) = true := decide_eq_true c36
          clear c36
          by_cases c37 : 0 ≤ yO
          ·rw [if_pos c37] at H
           have zlC : decide (0 ≤ yO) = true := decide_eq_true c37
           clear c37
           by_cases iE : ZQ.length < 3518437208883
           ·rw [if_pos iE] at H
            have za3 := zk.mk iE
            clear iE
            obtain ⟨zqQ, zzQ⟩ : ∃ y_ : List (qH), y_ = (ZQ ++ [(⟨(xE zF yO).f0, (xE zF yO).f1, (xE zF yO).f2⟩ : qH)]) := ⟨_, rfl⟩
            replace H : (zu.l2 k3 (wrap64 (yO + 1)) zN zO zP zn zD zF zN zO zP jJ ko zqQ) = some (r1, r2, r3, r4, r5, r6) := by first | (rw [zzQ]; with_reducible exact H) | (have jR := (Option.bind_some _ _).symm.trans H; rw [zzQ]; with_reducible exact jR) | (have jR := (Option.bind_some _ _).symm.trans H; with_reducible exact jR) | with_reducible exact H | (rw [zzQ]; exact H) | exact H
            have za4 := zk.mk zzQ
            clear zzQ
            have H' := zk.mk H
            clear H
            have zlD := XY.out
            have zlE := XW.out
            have zao := Zy.out
            have zar := Zw.out
            have zz6 : wr.cell? ⟨qL, 0, none⟩ = some (.string zN) := (zx zL.out 0).trans rfl
            have zz7 : wr.cell? ⟨qL, 1, none⟩ = some (.bool zO) := (zx zL.out 1).trans rfl
            have zz8 : wr.cell? ⟨qL, 2, none⟩ = some (.int .i64 zP) := (zx zL.out 2).trans rfl
            have zz9 : wr.cell? ⟨qL, 3, none⟩ = some (.slice qJ zn.length qZ) := (zx zL.out 3).trans rfl
            have zqz : wr.cell? ⟨qL, 4, none⟩ = some (.slice qK zD.length qQ) := (zx zL.out 4).trans rfl
            have zqq : wr.cell? ⟨qL, 5, none⟩ = some (.slice qY zF.length qX) := (zx zL.out 5).trans rfl
            have zqx := zw zL.out 0
            have zqj := zw zL.out 1
            have zqv := zw zL.out 2
            have zqk := zw zL.out 3
            have zqy := zw zL.out 4
            have zqw := zw zL.out 5
            try go_wp2
            have zl := zk.mk (Kd.yj vo.out)
            have zC := zk.mk (Kd.yj ug.out)
            have zM := zk.mk (Kd.yj kN.out)
            have zT := zk.mk (zV zL.out)
            have yL := zk.mk (zV vL.out)
            have y9 := zk.mk (zV yC.out)
            have qw := zk.mk (yD HB.out)
            clear vo ug kN zL vL yC HB
            have vo := zl
            have ug := zC
            have kN := zM
            have zL := zT
            have vL := yL
            have yC := y9
            have HB := qw
            clear zl zC zM zT yL y9 qw
            have zQq : 0 ≤ (yO : Int) := of_decide_eq_true (by first | (with_reducible assumption) | assumption)
            have zQx : yO < (zF.length : Int) := of_decide_eq_true (by first | (with_reducible assumption) | assumption)
            obtain ⟨p8, e289, dN, dO, dP⟩ := Pt ZC.out yO zQq zQx
            have Vb := dP
            have Vd := dO
            have Ve := dN
            cases e289
            replace dN := (HB.out.cell (World.block_lt_of_cell? w _ dN)).trans dN
            replace dO := (HB.out.cell (World.block_lt_of_cell? w _ dO)).trans dO
            replace dP := (HB.out.cell (World.block_lt_of_cell? w _ dP)).trans dP
            replace zQq := eq_true zQq
            replace zQx := eq_true zQx
            have zQj : 0 ≤ (yO : Int) := of_decide_eq_true (by first | (with_reducible assumption) | assumption)
            have zQv : yO < (zF.length : Int) := of_decide_eq_true (by first | (with_reducible assumption) | assumption)
            obtain ⟨za5, e290, dR, dS, dU⟩ := Pt ZC.out yO zQj zQv
            have Vf := dU
            have Vg := dS
            have Vh := dR
            obtain rfl : p8 = za5 := (by injection e290)
            replace dR := (HB.out.cell (World.block_lt_of_cell? w _ dR)).trans dR
            replace dS := (HB.out.cell (World.block_lt_of_cell? w _ dS)).trans dS
            replace dU := (HB.out.cell (World.block_lt_of_cell? w _ dU)).trans dU
            replace zQj := eq_true zQj
            replace zQv := eq_true zQv
            have zQk : 0 ≤ (yO : Int) := of_decide_eq_true (by first | (with_reducible assumption) | assumption)
            have zQy : yO < (zF.length : Int) := of_decide_eq_true (by first | (with_reducible assumption) | assumption)
            obtain ⟨za6, e291, gq, gy, gZ⟩ := Pt ZC.out yO zQk zQy
            have Vi := gZ
            have Vl := gy
            have Vm := gq
            obtain rfl : p8 = za6 := (by injection e291)
            replace gq := (HB.out.cell (World.block_lt_of_cell? w _ gq)).trans gq
            replace gy := (HB.out.cell (World.block_lt_of_cell? w _ gy)).trans gy
            replace gZ := (HB.out.cell (World.block_lt_of_cell? w _ gZ)).trans gZ
            replace zQk := eq_true zQk
            replace zQy := eq_true zQy
            refine wW (n := 25) (S := fun w' => w'.cell? ⟨vP, 0, none⟩ = some (.string zN) ∧ w'.cell? ⟨vP, 1, none⟩ = some (.bool zO) ∧ w'.cell? ⟨vP, 2, none⟩ = some (.int .i64 zP) ∧ w'.cell? ⟨vP, 3, none⟩ = some (kQ) ∧ w'.cell? ⟨vP, 4, none⟩ = some (wU) ∧ w'.cell? ⟨vP, 5, none⟩ = some (XH) ∧ w'.cell? ⟨qL, 0, none⟩ = some (.string zN) ∧ w'.cell? ⟨qL, 1, none⟩ = some (.bool zO) ∧ w'.cell? ⟨qL, 2, none⟩ = some (.int .i64 zP) ∧ w'.cell? ⟨qL, 3, none⟩ = some (.slice qJ zn.length qZ) ∧ w'.cell? ⟨qL, 4, none⟩ = some (.slice qK zD.length qQ) ∧ w'.cell? ⟨qL, 5, none⟩ = some (.slice (some p8) zF.length qX) ∧ w'.cell? (p8.add ((yO).toNat * 3)) = some (.string ((xE zF yO).f0)) ∧ w'.cell? ⟨(p8.add ((yO).toNat * 3)).block, (p8.add ((yO).toNat * 3)).off + 1, none⟩ = some (.string ((xE zF yO).f1)) ∧ w'.cell? ⟨(p8.add ((yO).toNat * 3)).block, (p8.add ((yO).toNat * 3)).off + 2, none⟩ = some (.int .i64 ((xE zF yO).f2)) ∧ w'.cell? (p8.add ((yO).toNat * 3)) = some (.string ((xE zF yO).f0)) ∧ w'.cell? ⟨(p8.add ((yO).toNat * 3)).block, (p8.add ((yO).toNat * 3)).off + 1, none⟩ = some (.string ((xE zF yO).f1)) ∧ w'.cell? ⟨(p8.add ((yO).toNat * 3)).block, (p8.add ((yO).toNat * 3)).off + 2, none⟩ = some (.int .i64 ((xE zF yO).f2)) ∧ w'.cell? (p8.add ((yO).toNat * 3)) = some (.string ((xE zF yO).f0)) ∧ w'.cell? ⟨(p8.add ((yO).toNat * 3)).block, (p8.add ((yO).toNat * 3)).off + 1, none⟩ = some (.string ((xE zF yO).f1)) ∧ w'.cell? ⟨(p8.add ((yO).toNat * 3)).block, (p8.add ((yO).toNat * 3)).off + 2, none⟩ = some (.int .i64 ((xE zF yO).f2))) (ds := [24]) #[false, false, false, false, false, false, false, false, false, false, false, false, false, false, false, false, false, false, false, false, false, false, false, false, false] (by kernel_rfl) rfl rfl ⟨(zx yC.out 0).trans rfl, (zx yC.out 1).trans rfl, (zx yC.out 2).trans rfl, (zx yC.out 3).trans rfl, (zx yC.out 4).trans rfl, (zx yC.out 5).trans rfl, (zx zL.out 0).trans rfl, (zx zL.out 1).trans rfl, (zx zL.out 2).trans rfl, (zx zL.out 3).trans rfl, (zx zL.out 4).trans rfl, (zx zL.out 5).trans rfl, ((HB.out.cell (World.block_lt_of_cell? w _ Ve)).trans Ve), ((HB.out.cell (World.block_lt_of_cell? w _ Vd)).trans Vd), ((HB.out.cell (World.block_lt_of_cell? w _ Vb)).trans Vb), ((HB.out.cell (World.block_lt_of_cell? w _ Vh)).trans Vh), ((HB.out.cell (World.block_lt_of_cell? w _ Vg)).trans Vg), ((HB.out.cell (World.block_lt_of_cell? w _ Vf)).trans Vf), ((HB.out.cell (World.block_lt_of_cell? w _ Vm)).trans Vm), ((HB.out.cell (World.block_lt_of_cell? w _ Vl)).trans Vl), ((HB.out.cell (World.block_lt_of_cell? w _ Vi)).trans Vi)⟩ (fun hHeld => ?_); refine wI zu.YI zu.Zl (fun yY jT => ?_)
            generalize wr.drew = w42 at vo ug kN zL vL yC HB dN dO dP dR dS dU gq gy gZ hHeld ⊢
            refine uj 0 (some 77) yY ?_
            refine uj 2 (some 79) yY ?_
            refine uj 4 (some 81) yY ?_
            refine uj 8 (some 85) yY ?_
            refine uj 10 (some 87) yY ?_
            refine uj 14 (some 91) yY ?_
            refine uj 16 (some 93) yY ?_
            refine pQ 1 (some 78) yY jT hHeld ?_
            refine pQ 3 (some 80) yY jT hHeld ?_
            refine uj 5 (some 82) yY ?_
            refine uj 6 (some 83) yY ?_
            refine pQ 7 (some 84) yY jT hHeld ?_
            refine pQ 9 (some 86) yY jT hHeld ?_
            refine uj 11 (some 88) yY ?_
            refine uj 12 (some 89) yY ?_
            refine pQ 13 (some 90) yY jT hHeld ?_
            refine pQ 15 (some 92) yY jT hHeld ?_
            refine uj 17 (some 94) yY ?_
            refine uj 18 (some 95) yY ?_
            refine pQ 19 (some 96) yY jT hHeld ?_
            refine uj 20 (some 97) yY ?_
            refine ru 21 (some 98) yY (fun K hK => ?_)
            refine vaS ?_
            refine hK.out _ _ ⟨(zx (zQ yC.out _) 0).trans rfl, (zx (zQ yC.out _) 1).trans rfl, (zx (zQ yC.out _) 2).trans rfl, (zx (zQ yC.out _) 3).trans rfl, (zx (zQ yC.out _) 4).trans rfl, (zx (zQ yC.out _) 5).trans rfl, (zx (zQ zL.out _) 0).trans rfl, (zx (zQ zL.out _) 1).trans rfl, (zx (zQ zL.out _) 2).trans rfl, (zx (zQ zL.out _) 3).trans rfl, (zx (zQ zL.out _) 4).trans rfl, (zx (zQ zL.out _) 5).trans rfl, (World.cell?_alloc_lt _ _ _ (World.block_lt_of_cell? _ _ (((HB.out.cell (World.block_lt_of_cell? w _ Ve)).trans Ve)))).trans (((HB.out.cell (World.block_lt_of_cell? w _ Ve)).trans Ve)), (World.cell?_alloc_lt _ _ _ (World.block_lt_of_cell? _ _ (((HB.out.cell (World.block_lt_of_cell? w _ Vd)).trans Vd)))).trans (((HB.out.cell (World.block_lt_of_cell? w _ Vd)).trans Vd)), (World.cell?_alloc_lt _ _ _ (World.block_lt_of_cell? _ _ (((HB.out.cell (World.block_lt_of_cell? w _ Vb)).trans Vb)))).trans (((HB.out.cell (World.block_lt_of_cell? w _ Vb)).trans Vb)), (World.cell?_alloc_lt _ _ _ (World.block_lt_of_cell? _ _ (((HB.out.cell (World.block_lt_of_cell? w _ Vh)).trans Vh)))).trans (((HB.out.cell (World.block_lt_of_cell? w _ Vh)).trans Vh)), (World.cell?_alloc_lt _ _ _ (World.block_lt_of_cell? _ _ (((HB.out.cell (World.block_lt_of_cell? w _ Vg)).trans Vg)))).trans (((HB.out.cell (World.block_lt_of_cell? w _ Vg)).trans Vg)), (World.cell?_alloc_lt _ _ _ (World.block_lt_of_cell? _ _ (((HB.out.cell (World.block_lt_of_cell? w _ Vf)).trans Vf)))).trans (((HB.out.cell (World.block_lt_of_cell? w _ Vf)).trans Vf)), (World.cell?_alloc_lt _ _ _ (World.block_lt_of_cell? _ _ (((HB.out.cell (World.block_lt_of_cell? w _ Vm)).trans Vm)))).trans (((HB.out.cell (World.block_lt_of_cell? w _ Vm)).trans Vm)), (World.cell?_alloc_lt _ _ _ (World.block_lt_of_cell? _ _ (((HB.out.cell (World.block_lt_of_cell? w _ Vl)).trans Vl)))).trans (((HB.out.cell (World.block_lt_of_cell? w _ Vl)).trans Vl)), (World.cell?_alloc_lt _ _ _ (World.block_lt_of_cell? _ _ (((HB.out.cell (World.block_lt_of_cell? w _ Vi)).trans Vi)))).trans (((HB.out.cell (World.block_lt_of_cell? w _ Vi)).trans Vi))⟩ (fun hHeld => ?_)
            clear hK K
            refine JN (some 98) ?_
            refine ru 22 (some 99) yY (fun K hK => ?_)
            refine Kd.u7 Yu (w0 := w) w.heap.size (by rfl) (.tmp 78) (.tmp 98) 42 84 (.agg #[(.string ⟨#[]⟩), (.string ⟨#[]⟩), (.int .i64 0)]) 40 rfl Tryz.underlying42 zxe rfl (by decide) (by omega) XH ZQ (⟨(xE zF yO).f0, (xE zF yO).f1, (xE zF yO).f2⟩ : qH) [.string ((xE zF yO).f0), .string ((xE zF yO).f1), .int .i64 ((xE zF yO).f2)] (fun _ => True) (fun _ => False) rfl rfl ?aP (fun _ hk => hk.elim) ?aF ?aO ?aB ?aS ?aL ?_
            (case aP => exact zzP _ _ _ (⟨(xE zF yO).f0, (xE zF yO).f1, (xE zF yO).f2⟩ : qH))
            (case aB => exact (yQ HB.out))
            (case aF => exact (fun _ _ => trivial))
            (case aO => exact (yK kN.out))
            (case aS => exact (zH (yQ HB.out)))
            (case aL => have := za3.out; omega)
            intro zmN w43 ho hb hg hat
            rw [← za4.out] at ho
            have zl := zk.mk (Kd.ji (yK vo.out) (Kd.jh (yK kN.out)) (by decide) hg)
            have zC := zk.mk (Kd.ji (yK ug.out) (Kd.jh (yK kN.out)) (by decide) hg)
            have zM := zk.mk (vk (g := qL) (o := .cells #[.string zN, .bool zO, .int .i64 zP, .slice qJ zn.length qZ, .slice qK zD.length qQ, .slice (some p8) zF.length qX] 26 (0, 0)) (qV zL.out) hg (Kd.kT kN.out zL.out (by decide)))
            have zT := zk.mk (vk (g := um) (o := .cells #[.string (⟨#[]⟩ : ByteArray), .bool false, .int .i64 0, .slice none 0 0, .slice none 0 0, .slice none 0 0] 44 (0, 0)) (qV vL.out) hg (Kd.kT kN.out vL.out (by decide)))
            have yL := zk.mk (vk (g := vP) (o := .cells #[.string zN, .bool zO, .int .i64 zP, kQ, wU, XH] 44 (0, 0)) (qV yC.out) hg (Kd.kT kN.out yC.out (by decide)))
            have y9 := zk.mk (hb)
            have qw := zk.mk (ho)
            clear vo ug zL vL yC HB kN
            have vo := zl
            have ug := zC
            have zL := zM
            have vL := zT
            have yC := yL
            have HB := y9
            have zXD := qw
            clear zl zC zM zT yL y9 qw ho hb hg hat
            obtain ⟨wV, wK, zyb⟩ := Kd.yA zXD.out
            (first | subst zyb | (injection zyb with kW Z4 kg; have Z5 := kW.symm; have Z6 := kg.symm; clear kW Z4 kg; subst Z5; subst Z6))
            refine hK.out _ _ ⟨(zx yC.out 0).trans rfl, (zx yC.out 1).trans rfl, (zx yC.out 2).trans rfl, (zx yC.out 3).trans rfl, (zx yC.out 4).trans rfl, (zx yC.out 5).trans rfl, (zx zL.out 0).trans rfl, (zx zL.out 1).trans rfl, (zx zL.out 2).trans rfl, (zx zL.out 3).trans rfl, (zx zL.out 4).trans rfl, (zx zL.out 5).trans rfl, ((HB.out.cell (World.block_lt_of_cell? w _ Ve)).trans Ve), ((HB.out.cell (World.block_lt_of_cell? w _ Vd)).trans Vd), ((HB.out.cell (World.block_lt_of_cell? w _ Vb)).trans Vb), ((HB.out.cell (World.block_lt_of_cell? w _ Vh)).trans Vh), ((HB.out.cell (World.block_lt_of_cell? w _ Vg)).trans Vg), ((HB.out.cell (World.block_lt_of_cell? w _ Vf)).trans Vf), ((HB.out.cell (World.block_lt_of_cell? w _ Vm)).trans Vm), ((HB.out.cell (World.block_lt_of_cell? w _ Vl)).trans Vl), ((HB.out.cell (World.block_lt_of_cell? w _ Vi)).trans Vi)⟩ (fun hHeld => ?_)
            clear hK K
            refine JN (some 99) ?_
            refine uj 23 (some 100) yY ?_
            refine ZA (i := 24) (N := none) #[true, true, true, true, true, true, true, true, true, true, true, true, true, true, true, true, true, true, true, true, true, true, true, true, true] rfl rfl (uw yY.out (by kernel_rfl)) (by decide) (fun K hK => ?_)
            have zmO : w43.cell? ⟨vP, 5, none⟩ = some (XH) := (zx yC.out 5).trans rfl
            have zlF := zw yC.out 5
            have zix := Zy.out
            have zij := Jo.out
            have ziv := Zw.out
            have zik := Jp.out
            refine Xd (w1 := ?_) (by rfl) rfl ?_ ?_
            rotate_left
            ·go_simp
             rfl
            refine hK.out _ _ ?_
            clear hK K
            refine uh (vC yY.out (by kernel_rfl)) ?_
            try go_wp2
            go_roundg k3
            case measure => have := jl.out; have := K9.out; have := Wt.out; omega
            case rel => exact ⟨(wrap64 (yO + 1)), (zqQ), (.slice wV zqQ.length wK), (by first | rfl | (simp; done) | (simp [*]; done)), H', ⟨by have := jl.out; have := K9.out; have := Wt.out; omega⟩, ⟨by (with_reducible repeat (first | apply Kd.yT | apply Kd.yU | apply Kd.yj)); exact Kd.yh (Kd.zW (p := ⟨vP, 5, none⟩) (Kd.qg vo.out yC.out (by decide)) (fun _ hk => hk.2) (.slice wV zqQ.length wK)) (fun _ hk => trivial)⟩, ⟨by (with_reducible repeat (first | apply Kd.yT | apply Kd.yU | apply Kd.yj)); exact Kd.yh (Kd.zW (p := ⟨vP, 5, none⟩) (Kd.qg ug.out yC.out (by decide)) (fun _ hk => hk.2) (.slice wV zqQ.length wK)) (fun _ hk => trivial)⟩, ⟨by (with_reducible repeat (first | apply Kd.yT | apply Kd.yU | apply Kd.yj)); exact Kd.yh (Kd.zW (p := ⟨vP, 5, none⟩) (Kd.qg zXD.out yC.out (by decide)) (fun _ hk => hk.2) (.slice wV zqQ.length wK)) (fun _ hk => trivial)⟩, ⟨JO zL.out⟩, ⟨JO vL.out⟩, ⟨by (with_reducible repeat (first | refine zY ?_ _ | refine zV ?_ | refine zQ ?_ _)); refine zi (cs := #[.string zN, .bool zO, .int .i64 zP, kQ, wU, XH]) ?_ 5 _ rfl; (with_reducible repeat (first | refine zY ?_ _ | refine zV ?_ | refine zQ ?_ _)); exact yC.out⟩, ⟨yQ HB.out⟩⟩
           ·rw [if_neg iE] at H
            exact absurd H (by simp)
          ·rw [if_neg c37] at H
           exact absurd H (by simp)
         ·rw [if_neg c36] at H
          have za2 : decide (yO < (zF.length : Int)) = false := decide_eq_false c36
          clear c36
          simp only [Option.some.injEq, Prod.mk.injEq] at H
          obtain ⟨rfl, rfl, rfl, rfl, rfl, rfl⟩ := H
          have zau := XY.out
          have zaA := XW.out
          have zlG := Zy.out
          have zlH := Zw.out
          have zvo : wr.cell? ⟨qL, 0, none⟩ = some (.string zN) := (zx zL.out 0).trans rfl
          have zvp : wr.cell? ⟨qL, 1, none⟩ = some (.bool zO) := (zx zL.out 1).trans rfl
          have zvr : wr.cell? ⟨qL, 2, none⟩ = some (.int .i64 zP) := (zx zL.out 2).trans rfl
          have zvs : wr.cell? ⟨qL, 3, none⟩ = some (.slice qJ zn.length qZ) := (zx zL.out 3).trans rfl
          have zvt : wr.cell? ⟨qL, 4, none⟩ = some (.slice qK zD.length qQ) := (zx zL.out 4).trans rfl
          have zvu : wr.cell? ⟨qL, 5, none⟩ = some (.slice qY zF.length qX) := (zx zL.out 5).trans rfl
          have zvA := zw zL.out 0
          have zvB := zw zL.out 1
          have zvC := zw zL.out 2
          have zvD := zw zL.out 3
          have zvE := zw zL.out 4
          have zvF := zw zL.out 5
          have zaD := Jp.out
          have zaE := Jo.out
          have dK : wr.cell? ⟨vP, 0, none⟩ = some (.string zN) := (zx yC.out 0).trans rfl
          have dY : wr.cell? ⟨vP, 1, none⟩ = some (.bool zO) := (zx yC.out 1).trans rfl
          have dW : wr.cell? ⟨vP, 2, none⟩ = some (.int .i64 zP) := (zx yC.out 2).trans rfl
          have dh : wr.cell? ⟨vP, 3, none⟩ = some (kQ) := (zx yC.out 3).trans rfl
          have dn : wr.cell? ⟨vP, 4, none⟩ = some (wU) := (zx yC.out 4).trans rfl
          have dD : wr.cell? ⟨vP, 5, none⟩ = some (XH) := (zx yC.out 5).trans rfl
          have dF := zw yC.out 0
          have dG := zw yC.out 1
          have dH := zw yC.out 2
          have dI := zw yC.out 3
          have dL := zw yC.out 4
          have dM := zw yC.out 5
          have zvG : wr.cell? ⟨um, 0, none⟩ = some (.string (⟨#[]⟩ : ByteArray)) := (zx vL.out 0).trans rfl
          have zvH : wr.cell? ⟨um, 1, none⟩ = some (.bool false) := (zx vL.out 1).trans rfl
          have zvI : wr.cell? ⟨um, 2, none⟩ = some (.int .i64 0) := (zx vL.out 2).trans rfl
          have zvL : wr.cell? ⟨um, 3, none⟩ = some (.slice none 0 0) := (zx vL.out 3).trans rfl
          have zvM : wr.cell? ⟨um, 4, none⟩ = some (.slice none 0 0) := (zx vL.out 4).trans rfl
          have zvN : wr.cell? ⟨um, 5, none⟩ = some (.slice none 0 0) := (zx vL.out 5).trans rfl
          have zvO := zw vL.out 0
          have zvP := zw vL.out 1
          have zvR := zw vL.out 2
          have zvS := zw vL.out 3
          have zvT := zw vL.out 4
          have zvU := zw vL.out 5
          obtain ⟨zqX, zqJ, zdX⟩ := Kd.yA vo.out
          subst zdX
          obtain ⟨zx9, zjz, zdJ⟩ := Kd.yA ug.out
          subst zdJ
          obtain ⟨zjq, Wq, zQw⟩ := Kd.yA kN.out
          subst zQw
          go_wp2
          refine bodyPost_ret (results_cell_row rfl _ _ um 44 #[.string zN, .bool zO, .int .i64 zP, .slice zqX jJ.length zqJ, .slice zx9 ko.length zjz, .slice zjq ZQ.length Wq] (0, 0) _ rfl (by (with_reducible repeat (first | refine zY ?_ _ | refine zV ?_ | refine zQ ?_ _)); refine zi (cs := #[.string zN, .bool zO, .int .i64 zP, .slice zqX jJ.length zqJ, .slice zx9 ko.length zjz, .slice none 0 0]) ?_ 5 _ rfl; (with_reducible repeat (first | refine zY ?_ _ | refine zV ?_ | refine zQ ?_ _)); refine zi (cs := #[.string zN, .bool zO, .int .i64 zP, .slice zqX jJ.length zqJ, .slice none 0 0, .slice none 0 0]) ?_ 4 _ rfl; (with_reducible repeat (first | refine zY ?_ _ | refine zV ?_ | refine zQ ?_ _)); refine zi (cs := #[.string zN, .bool zO, .int .i64 zP, .slice none 0 0, .slice none 0 0, .slice none 0 0]) ?_ 3 _ rfl; (with_reducible repeat (first | refine zY ?_ _ | refine zV ?_ | refine zQ ?_ _)); refine zi (cs := #[.string zN, .bool zO, .int .i64 0, .slice none 0 0, .slice none 0 0, .slice none 0 0]) ?_ 2 _ rfl; (with_reducible repeat (first | refine zY ?_ _ | refine zV ?_ | refine zQ ?_ _)); refine zi (cs := #[.string zN, .bool false, .int .i64 0, .slice none 0 0, .slice none 0 0, .slice none 0 0]) ?_ 1 _ rfl; (with_reducible repeat (first | refine zY ?_ _ | refine zV ?_ | refine zQ ?_ _)); refine zi (cs := #[.string (⟨#[]⟩ : ByteArray), .bool false, .int .i64 0, .slice none 0 0, .slice none 0 0, .slice none 0 0]) ?_ 0 _ rfl; (with_reducible repeat (first | refine zY ?_ _ | refine zV ?_ | refine zQ ?_ _)); exact vL.out) Tryz.underlying44 rfl (by kernel_rfl)) rfl ?_
          exact ⟨_, _, _, by first | rfl | (simp [yw, yZ] <;> rfl) | (simp [*, yw, yZ] <;> rfl), by (with_reducible repeat (first | apply Kd.yT | apply Kd.yU | apply Kd.yj)); exact Kd.yh (Kd.zW (p := ⟨um, 5, none⟩) (Kd.zW (p := ⟨um, 4, none⟩) (Kd.zW (p := ⟨um, 3, none⟩) (Kd.zW (p := ⟨um, 2, none⟩) (Kd.zW (p := ⟨um, 1, none⟩) (Kd.zW (p := ⟨um, 0, none⟩) (Kd.qg vo.out vL.out (by decide)) (fun _ hk => hk.2) (.string zN)) (fun _ hk => hk.2) (.bool zO)) (fun _ hk => hk.2) (.int .i64 zP)) (fun _ hk => hk.2) (.slice zqX jJ.length zqJ)) (fun _ hk => hk.2) (.slice zx9 ko.length zjz)) (fun _ hk => hk.2) (.slice zjq ZQ.length Wq)) (fun _ hk => trivial), by (with_reducible repeat (first | apply Kd.yT | apply Kd.yU | apply Kd.yj)); exact Kd.yh (Kd.zW (p := ⟨um, 5, none⟩) (Kd.zW (p := ⟨um, 4, none⟩) (Kd.zW (p := ⟨um, 3, none⟩) (Kd.zW (p := ⟨um, 2, none⟩) (Kd.zW (p := ⟨um, 1, none⟩) (Kd.zW (p := ⟨um, 0, none⟩) (Kd.qg ug.out vL.out (by decide)) (fun _ hk => hk.2) (.string zN)) (fun _ hk => hk.2) (.bool zO)) (fun _ hk => hk.2) (.int .i64 zP)) (fun _ hk => hk.2) (.slice zqX jJ.length zqJ)) (fun _ hk => hk.2) (.slice zx9 ko.length zjz)) (fun _ hk => hk.2) (.slice zjq ZQ.length Wq)) (fun _ hk => trivial), by (with_reducible repeat (first | apply Kd.yT | apply Kd.yU | apply Kd.yj)); exact Kd.yh (Kd.zW (p := ⟨um, 5, none⟩) (Kd.zW (p := ⟨um, 4, none⟩) (Kd.zW (p := ⟨um, 3, none⟩) (Kd.zW (p := ⟨um, 2, none⟩) (Kd.zW (p := ⟨um, 1, none⟩) (Kd.zW (p := ⟨um, 0, none⟩) (Kd.qg kN.out vL.out (by decide)) (fun _ hk => hk.2) (.string zN)) (fun _ hk => hk.2) (.bool zO)) (fun _ hk => hk.2) (.int .i64 zP)) (fun _ hk => hk.2) (.slice zqX jJ.length zqJ)) (fun _ hk => hk.2) (.slice zx9 ko.length zjz)) (fun _ hk => hk.2) (.slice zjq ZQ.length Wq)) (fun _ hk => trivial), by repeat (first | (with_reducible first | exact HB.out | apply yS | apply yx | apply yD | refine qh ?_ zaM.out | refine qh ?_ zaN.out | refine qh ?_ zaO.out) | exact HB.out)⟩
end Go.Proofs.YtaifemkokfoadaaGreatDoor.PX
namespace Go.Proofs.YtaifemkokfoadaaGreatDoor.PX
open Go.RowKit Go.Proofs.zy.zK Go.Proofs.zy.yt Go.Proofs.zy.yV
attribute [local go_sem] xX xJ xP xR qD qE xV xK   -- for this text's walks alone
set_option linter.unusedVariables false
set_option linter.unusedSimpArgs false
theorem za7 (d : Nat) (w : World) (x0 y0 : ByteArray) (x1 y1 : Int) :
  (Op.equalIn (d + 2) 31 (.agg #[.string x0, .int .i64 x1]) (.agg #[.string y0, .int .i64 y1])).run Tryz.prog w = .ok (x0.toList == y0.toList && (x1 == y1)) w := by
 refine Po Tryz.underlying31 (by kernel_rfl) ?_
 refine Yx (by rfl) (by go_simp; rfl) (by go_simp; rfl) (by go_simp) ?_
 exact V7 (by rfl) (by go_simp; rfl) (by go_simp; rfl) (by go_simp)
end Go.Proofs.YtaifemkokfoadaaGreatDoor.PX
namespace Go.Proofs.YtaifemkokfoadaaGreatDoor.PX
open Go.RowKit Go.Proofs.zy.zK Go.Proofs.zy.yt Go.Proofs.zy.yV
attribute [local go_sem] xX xJ xP xR qD qE xV xK   -- for this text's walks alone
set_option linter.unusedVariables false
set_option linter.unusedSimpArgs false
attribute [local go_sem high] za7
end Go.Proofs.YtaifemkokfoadaaGreatDoor.PX
namespace Go.Proofs.YtaifemkokfoadaaGreatDoor.PX
open Go.RowKit Go.Proofs.zy.zK Go.Proofs.zy.yt Go.Proofs.zy.yV
attribute [local go_sem] xX xJ xP xR qD qE xV xK   -- for this text's walks alone
set_option linter.unusedVariables false
set_option linter.unusedSimpArgs false
theorem za8 (d : Nat) (w : World) (x0 y0 : ByteArray) (x1 y1 : ByteArray) (x2 y2 : ByteArray) :
  (Op.equalIn (d + 2) 86 (.agg #[.string x0, .string x1, .string x2]) (.agg #[.string y0, .string y1, .string y2])).run Tryz.prog w = .ok (x0.toList == y0.toList && (x1.toList == y1.toList && (x2.toList == y2.toList))) w := by
 refine Po Tryz.underlying86 (by kernel_rfl) ?_
 refine Yx (by rfl) (by go_simp; rfl) (by go_simp; rfl) (by go_simp) ?_
 refine Yx (by rfl) (by go_simp; rfl) (by go_simp; rfl) (by go_simp) ?_
 exact V7 (by rfl) (by go_simp; rfl) (by go_simp; rfl) (by go_simp)
end Go.Proofs.YtaifemkokfoadaaGreatDoor.PX
namespace Go.Proofs.YtaifemkokfoadaaGreatDoor.PX
open Go.RowKit Go.Proofs.zy.zK Go.Proofs.zy.yt Go.Proofs.zy.yV
attribute [local go_sem] xX xJ xP xR qD qE xV xK   -- for this text's walks alone
set_option linter.unusedVariables false
set_option linter.unusedSimpArgs false
attribute [local go_sem high] za8
end Go.Proofs.YtaifemkokfoadaaGreatDoor.PX
namespace Go.Proofs.YtaifemkokfoadaaGreatDoor.PX
open Go.RowKit Go.Proofs.zy.zK Go.Proofs.zy.yt Go.Proofs.zy.yV
attribute [local go_sem] xX xJ xP xR qD qE xV xK   -- for this text's walks alone
set_option linter.unusedVariables false
set_option linter.unusedSimpArgs false
theorem za9 (d : Nat) (w : World) (x0 y0 : ByteArray) (x1 y1 : ByteArray) (x2 y2 : Int) :
  (Op.equalIn (d + 2) 76 (.agg #[.string x0, .string x1, .int .i64 x2]) (.agg #[.string y0, .string y1, .int .i64 y2])).run Tryz.prog w = .ok (x0.toList == y0.toList && (x1.toList == y1.toList && (x2 == y2))) w := by
 refine Po Tryz.underlying76 (by kernel_rfl) ?_
 refine Yx (by rfl) (by go_simp; rfl) (by go_simp; rfl) (by go_simp) ?_
 refine Yx (by rfl) (by go_simp; rfl) (by go_simp; rfl) (by go_simp) ?_
 exact V7 (by rfl) (by go_simp; rfl) (by go_simp; rfl) (by go_simp)
end Go.Proofs.YtaifemkokfoadaaGreatDoor.PX
namespace Go.Proofs.YtaifemkokfoadaaGreatDoor.PX
open Go.RowKit Go.Proofs.zy.zK Go.Proofs.zy.yt Go.Proofs.zy.yV
attribute [local go_sem] xX xJ xP xR qD qE xV xK   -- for this text's walks alone
set_option linter.unusedVariables false
set_option linter.unusedSimpArgs false
attribute [local go_sem high] za9
end Go.Proofs.YtaifemkokfoadaaGreatDoor.PX
namespace Go.Proofs.YtaifemkokfoadaaGreatDoor.PX
open Go.RowKit Go.Proofs.zy.zK Go.Proofs.zy.yt Go.Proofs.zy.yV
attribute [local go_sem] xX xJ xP xR qD qE xV xK   -- for this text's walks alone
set_option linter.unusedVariables false
set_option linter.unusedSimpArgs false
end Go.Proofs.YtaifemkokfoadaaGreatDoor.PX
namespace Go.Proofs.YtaifemkokfoadaaGreatDoor.PX
open Go.RowKit Go.Proofs.zy.zK Go.Proofs.zy.yt Go.Proofs.zy.yV
attribute [local go_sem] xX xJ xP xR qD qE xV xK   -- for this text's walks alone
set_option linter.unusedVariables false
set_option linter.unusedSimpArgs false
end Go.Proofs.YtaifemkokfoadaaGreatDoor.PX
namespace Go.Proofs.YtaifemkokfoadaaGreatDoor
open Go.RowKit Go.Proofs.zy.zK Go.Proofs.zy.yV Go.Proofs.YtaifemkokfoadaaGreatDoor.PX
set_option linter.unusedSimpArgs false
set_option linter.unusedVariables false
theorem toList_inj {a b : ByteArray} : a.toList = b.toList ↔ a = b := by
 constructor
 ·intro h
  rw [Lib.toList_data, Lib.toList_data] at h
  exact ByteArray.ext (Array.toList_inj.1 h)
 ·rintro rfl
  rfl
theorem Jk {α : Type} (l m : List α) (i : Nat) (hi : i < l.length) (hm : i < m.length) : (l.drop i = m.drop i ↔ l[i] = m[i] ∧ l.drop (i + 1) = m.drop (i + 1)) := by
 rw [List.drop_eq_getElem_cons hi, List.drop_eq_getElem_cons hm, List.cons.injEq]
theorem zbz (x y : qA) : x = y ↔ x.f0 = y.f0 ∧ x.f1 = y.f1 := by
 cases x; cases y; simp
theorem zwU (x y : qA) : (((!(((x.f0).toList) == ((y.f0).toList))) || (!((x.f1) == (y.f1)))) = true) ↔ ¬ x = y := by
 rw [zbz]
 by_cases h0 : x.f0.toList = y.f0.toList <;> by_cases h1 : x.f1 = y.f1 <;> simp_all [toList_inj]
theorem rdG (l : List qB) (i : Nat) (h : i < l.length) : qI l (i : Int) = l[i] := by simp [qI, List.getD_eq_getElem?_getD, h]
theorem zyc (l : List qA) (i : Nat) (h : i < l.length) : xH l (i : Int) = l[i] := by simp [xH, List.getD_eq_getElem?_getD, h]
theorem zbq (x y : qM) : x = y ↔ x.f0 = y.f0 ∧ x.f1 = y.f1 ∧ x.f2 = y.f2 := by
 cases x; cases y; simp
theorem zw0 (x y : qM) : (((!(((x.f0).toList) == ((y.f0).toList))) || ((!(((x.f1).toList) == ((y.f1).toList))) || (!(((x.f2).toList) == ((y.f2).toList))))) = true) ↔ ¬ x = y := by
 rw [zbq]
 by_cases h0 : x.f0.toList = y.f0.toList <;> by_cases h1 : x.f1.toList = y.f1.toList <;> by_cases h2 : x.f2.toList = y.f2.toList <;> simp_all [toList_inj]
theorem rdL (l : List xC) (i : Nat) (h : i < l.length) : xB l (i : Int) = l[i] := by simp [xB, List.getD_eq_getElem?_getD, h]
theorem zyd (l : List qM) (i : Nat) (h : i < l.length) : xY l (i : Int) = l[i] := by simp [xY, List.getD_eq_getElem?_getD, h]
theorem zbx (x y : qH) : x = y ↔ x.f0 = y.f0 ∧ x.f1 = y.f1 ∧ x.f2 = y.f2 := by
 cases x; cases y; simp
theorem zw1 (x y : qH) : (((!(((x.f0).toList) == ((y.f0).toList))) || ((!(((x.f1).toList) == ((y.f1).toList))) || (!((x.f2) == (y.f2))))) = true) ↔ ¬ x = y := by
 rw [zbx]
 by_cases h0 : x.f0.toList = y.f0.toList <;> by_cases h1 : x.f1.toList = y.f1.toList <;> by_cases h2 : x.f2 = y.f2 <;> simp_all [toList_inj]
theorem rdK (l : List xS) (i : Nat) (h : i < l.length) : xE l (i : Int) = l[i] := by simp [xE, List.getD_eq_getElem?_getD, h]
theorem zye (l : List qH) (i : Nat) (h : i < l.length) : qC l (i : Int) = l[i] := by simp [qC, List.getD_eq_getElem?_getD, h]
theorem zbj (a0 : ByteArray) (a1 : Bool) (a2 : Int) (l3 : List qA) (l4 : List qM) (l5 : List qH) (b0 : ByteArray) (b1 : Bool) (b2 : Int) (m3 : List qA) (m4 : List qM) (m5 : List qH) (n3 : l3.length = m3.length) (n4 : l4.length = m4.length) (n5 : l5.length = m5.length) (hl3 : l3.length ≤ 1000000) (hl4 : l4.length ≤ 1000000) (hl5 : l5.length ≤ 1000000) : ∀ d i, l5.length - i = d → i ≤ l5.length → ∃ b, Ev (fun k => ze.l2 k (i : Int) a0 a1 a2 l3 l4 l5 b0 b1 b2 m3 m4 m5) b ∧ (b = true ↔ (l5.drop i = m5.drop i)) := by
 intro d
 induction d with
 | zero =>
  intro i hd hi
  refine ⟨true, Ev.step (fun k => by rw [ze.l2]) (xA (by omega) (Ev.now _)), ?_⟩
  rw [List.drop_eq_nil_of_le (by omega : l5.length ≤ i), List.drop_eq_nil_of_le (by omega : m5.length ≤ i)]
  simp
 | succ d ih =>
  intro i hd hi
  have h1 : i < l5.length := by omega
  have h2 : i < m5.length := by omega
  have q0 : (0 : Int) ≤ (i : Int) := by omega
  have q1 : (i : Int) < (l5.length : Int) := by omega
  have q2 : (i : Int) < (m5.length : Int) := by omega
  obtain ⟨b, h3, h4⟩ := ih (i + 1) (by omega) (by omega)
  have hw : wrap64 ((i : Int) + 1) = ((i + 1 : Nat) : Int) := (XR (by omega) (by omega)).trans (by omega)
  by_cases hx : l5[i] = m5[i]
  ·refine ⟨b, Ev.step (fun k => by rw [ze.l2]) (yJ q1 (yJ q0 (yJ q2 (xA ?_ ?_)))), ?_⟩
   ·rw [zye l5 i h1, zye m5 i h2, zw1]
    exact fun h => h hx
   ·rw [hw]
    exact h3
   ·rw [h4, Jk l5 m5 i h1 h2]
    exact ⟨fun h => ⟨hx, h⟩, fun h => h.2⟩
  ·refine ⟨false, Ev.step (fun k => by rw [ze.l2]) (yJ q1 (yJ q0 (yJ q2 (yJ ?_ (Ev.now _))))), ?_⟩
   ·rw [zye l5 i h1, zye m5 i h2, zw1]
    exact hx
   ·rw [Jk l5 m5 i h1 h2]
    exact ⟨fun h => (by cases h), fun h => absurd h.1 hx⟩
theorem zbv (a0 : ByteArray) (a1 : Bool) (a2 : Int) (l3 : List qA) (l4 : List qM) (l5 : List qH) (b0 : ByteArray) (b1 : Bool) (b2 : Int) (m3 : List qA) (m4 : List qM) (m5 : List qH) (n3 : l3.length = m3.length) (n4 : l4.length = m4.length) (n5 : l5.length = m5.length) (hl3 : l3.length ≤ 1000000) (hl4 : l4.length ≤ 1000000) (hl5 : l5.length ≤ 1000000) : ∀ d i, l4.length - i = d → i ≤ l4.length → ∃ b, Ev (fun k => ze.l1 k (i : Int) a0 a1 a2 l3 l4 l5 b0 b1 b2 m3 m4 m5) b ∧ (b = true ↔ (l4.drop i = m4.drop i ∧ l5.drop 0 = m5.drop 0)) := by
 intro d
 induction d with
 | zero =>
  intro i hd hi
  obtain ⟨rb, r1_, r2⟩ := zbj a0 a1 a2 l3 l4 l5 b0 b1 b2 m3 m4 m5 n3 n4 n5 hl3 hl4 hl5 _ 0 rfl (Nat.zero_le _)
  have r1 : Ev (fun k => ze.l2 k 0 a0 a1 a2 l3 l4 l5 b0 b1 b2 m3 m4 m5) rb := r1_
  refine ⟨rb, Ev.step (fun k => by rw [ze.l1]) (xA (by omega) r1), ?_⟩
  rw [List.drop_eq_nil_of_le (by omega : l4.length ≤ i), List.drop_eq_nil_of_le (by omega : m4.length ≤ i)]
  rw [r2]
  exact ⟨fun h => ⟨rfl, h⟩, fun h => h.2⟩
 | succ d ih =>
  intro i hd hi
  have h1 : i < l4.length := by omega
  have h2 : i < m4.length := by omega
  have q0 : (0 : Int) ≤ (i : Int) := by omega
  have q1 : (i : Int) < (l4.length : Int) := by omega
  have q2 : (i : Int) < (m4.length : Int) := by omega
  obtain ⟨b, h3, h4⟩ := ih (i + 1) (by omega) (by omega)
  have hw : wrap64 ((i : Int) + 1) = ((i + 1 : Nat) : Int) := (XR (by omega) (by omega)).trans (by omega)
  by_cases hx : l4[i] = m4[i]
  ·refine ⟨b, Ev.step (fun k => by rw [ze.l1]) (yJ q1 (yJ q0 (yJ q2 (xA ?_ ?_)))), ?_⟩
   ·rw [zyd l4 i h1, zyd m4 i h2, zw0]
    exact fun h => h hx
   ·rw [hw]
    exact h3
   ·rw [h4, Jk l4 m4 i h1 h2]
    exact ⟨fun h => ⟨⟨hx, h.1⟩, h.2⟩, fun h => ⟨h.1.2, h.2⟩⟩
  ·refine ⟨false, Ev.step (fun k => by rw [ze.l1]) (yJ q1 (yJ q0 (yJ q2 (yJ ?_ (Ev.now _))))), ?_⟩
   ·rw [zyd l4 i h1, zyd m4 i h2, zw0]
    exact hx
   ·rw [Jk l4 m4 i h1 h2]
    exact ⟨fun h => (by cases h), fun h => absurd h.1.1 hx⟩
theorem zbk (a0 : ByteArray) (a1 : Bool) (a2 : Int) (l3 : List qA) (l4 : List qM) (l5 : List qH) (b0 : ByteArray) (b1 : Bool) (b2 : Int) (m3 : List qA) (m4 : List qM) (m5 : List qH) (n3 : l3.length = m3.length) (n4 : l4.length = m4.length) (n5 : l5.length = m5.length) (hl3 : l3.length ≤ 1000000) (hl4 : l4.length ≤ 1000000) (hl5 : l5.length ≤ 1000000) : ∀ d i, l3.length - i = d → i ≤ l3.length → ∃ b, Ev (fun k => ze.l0 k (i : Int) a0 a1 a2 l3 l4 l5 b0 b1 b2 m3 m4 m5) b ∧ (b = true ↔ (l3.drop i = m3.drop i ∧ (l4.drop 0 = m4.drop 0 ∧ l5.drop 0 = m5.drop 0))) := by
 intro d
 induction d with
 | zero =>
  intro i hd hi
  obtain ⟨rb, r1_, r2⟩ := zbv a0 a1 a2 l3 l4 l5 b0 b1 b2 m3 m4 m5 n3 n4 n5 hl3 hl4 hl5 _ 0 rfl (Nat.zero_le _)
  have r1 : Ev (fun k => ze.l1 k 0 a0 a1 a2 l3 l4 l5 b0 b1 b2 m3 m4 m5) rb := r1_
  refine ⟨rb, Ev.step (fun k => by rw [ze.l0]) (xA (by omega) r1), ?_⟩
  rw [List.drop_eq_nil_of_le (by omega : l3.length ≤ i), List.drop_eq_nil_of_le (by omega : m3.length ≤ i)]
  rw [r2]
  exact ⟨fun h => ⟨rfl, h⟩, fun h => h.2⟩
 | succ d ih =>
  intro i hd hi
  have h1 : i < l3.length := by omega
  have h2 : i < m3.length := by omega
  have q0 : (0 : Int) ≤ (i : Int) := by omega
  have q1 : (i : Int) < (l3.length : Int) := by omega
  have q2 : (i : Int) < (m3.length : Int) := by omega
  obtain ⟨b, h3, h4⟩ := ih (i + 1) (by omega) (by omega)
  have hw : wrap64 ((i : Int) + 1) = ((i + 1 : Nat) : Int) := (XR (by omega) (by omega)).trans (by omega)
  by_cases hx : l3[i] = m3[i]
  ·refine ⟨b, Ev.step (fun k => by rw [ze.l0]) (yJ q1 (yJ q0 (yJ q2 (xA ?_ ?_)))), ?_⟩
   ·rw [zyc l3 i h1, zyc m3 i h2, zwU]
    exact fun h => h hx
   ·rw [hw]
    exact h3
   ·rw [h4, Jk l3 m3 i h1 h2]
    exact ⟨fun h => ⟨⟨hx, h.1⟩, h.2⟩, fun h => ⟨h.1.2, h.2⟩⟩
  ·refine ⟨false, Ev.step (fun k => by rw [ze.l0]) (yJ q1 (yJ q0 (yJ q2 (yJ ?_ (Ev.now _))))), ?_⟩
   ·rw [zyc l3 i h1, zyc m3 i h2, zwU]
    exact hx
   ·rw [Jk l3 m3 i h1 h2]
    exact ⟨fun h => (by cases h), fun h => absurd h.1.1 hx⟩
theorem zqV (a0 : ByteArray) (a1 : Bool) (a2 : Int) (l3 : List qA) (l4 : List qM) (l5 : List qH) (b0 : ByteArray) (b1 : Bool) (b2 : Int) (m3 : List qA) (m4 : List qM) (m5 : List qH) (t : Bool) (h : t = true) : Ev (fun k => ze.j0 k t a0 a1 a2 l3 l4 l5 b0 b1 b2 m3 m4 m5) false := Ev.step (fun k => by rw [ze.j0]) (yJ h (Ev.now _))
theorem zyf (a0 : ByteArray) (a1 : Bool) (a2 : Int) (l3 : List qA) (l4 : List qM) (l5 : List qH) (b0 : ByteArray) (b1 : Bool) (b2 : Int) (m3 : List qA) (m4 : List qM) (m5 : List qH) (h3 : l3.length ≤ 1000000) (h4 : l4.length ≤ 1000000) (h5 : l5.length ≤ 1000000) :
  ∃ b, Ev (fun k => ze.f k a0 a1 a2 l3 l4 l5 b0 b1 b2 m3 m4 m5) b ∧ (b = true ↔ (a0 = b0 ∧ a1 = b1 ∧ a2 = b2 ∧ l3 = m3 ∧ l4 = m4 ∧ l5 = m5)) := by
 have no : ∀ {P : Prop}, ¬ P → (false = true ↔ P) := fun h => ⟨fun e => (by cases e), fun e => absurd e h⟩
 by_cases e0 : a0 = b0
 rotate_left
 ·exact ⟨false, Ev.congr (fun k => by rw [ze.f]) (xA (fun h => e0 (toList_inj.1 h)) (zqV _ _ _ _ _ _ _ _ _ _ _ _ _ rfl)), no (fun h => e0 h.1)⟩
 by_cases e1 : a1 = b1
 rotate_left
 ·exact ⟨false, Ev.congr (fun k => by rw [ze.f]) (yJ (toList_inj.2 e0) (yJ (by simpa using e1) (zqV _ _ _ _ _ _ _ _ _ _ _ _ _ rfl))), no (fun h => e1 h.2.1)⟩
 by_cases e2 : a2 = b2
 rotate_left
 ·exact ⟨false, Ev.congr (fun k => by rw [ze.f]) (yJ (toList_inj.2 e0) (xA (by simpa using e1) (xA e2 (zqV _ _ _ _ _ _ _ _ _ _ _ _ _ rfl)))), no (fun h => e2 h.2.2.1)⟩
 by_cases n3 : l3.length = m3.length
 rotate_left
 ·exact ⟨false, Ev.congr (fun k => by rw [ze.f]) (yJ (toList_inj.2 e0) (xA (by simpa using e1) (yJ e2 (xA (by omega) (zqV _ _ _ _ _ _ _ _ _ _ _ _ _ rfl))))), no (fun h => n3 (by rw [h.2.2.2.1]))⟩
 by_cases n4 : l4.length = m4.length
 rotate_left
 ·exact ⟨false, Ev.congr (fun k => by rw [ze.f]) (yJ (toList_inj.2 e0) (xA (by simpa using e1) (yJ e2 (yJ (by omega) (xA (by omega) (zqV _ _ _ _ _ _ _ _ _ _ _ _ _ rfl)))))), no (fun h => n4 (by rw [h.2.2.2.2.1]))⟩
 by_cases n5 : l5.length = m5.length
 rotate_left
 ·exact ⟨false, Ev.congr (fun k => by rw [ze.f]) (yJ (toList_inj.2 e0) (xA (by simpa using e1) (yJ e2 (yJ (by omega) (yJ (by omega) (zqV _ _ _ _ _ _ _ _ _ _ _ _ _ (by simp; omega))))))), no (fun h => n5 (by rw [h.2.2.2.2.2]))⟩
 obtain ⟨b, h1_, h2⟩ := zbk a0 a1 a2 l3 l4 l5 b0 b1 b2 m3 m4 m5 n3 n4 n5 h3 h4 h5 _ 0 rfl (Nat.zero_le _)
 have h1 : Ev (fun k => ze.l0 k 0 a0 a1 a2 l3 l4 l5 b0 b1 b2 m3 m4 m5) b := h1_
 refine ⟨b, Ev.congr (fun k => by rw [ze.f]) (yJ (toList_inj.2 e0) (xA (by simpa using e1) (yJ e2 (yJ (by omega) (yJ (by omega) (Ev.step (fun k => by rw [ze.j0]) (xA (by simp; omega) h1))))))), ?_⟩
 rw [h2]
 simp only [List.drop_zero]
 exact ⟨fun h => ⟨e0, e1, e2, h.1, h.2.1, h.2.2⟩, fun h => ⟨h.2.2.2.1, h.2.2.2.2.1, h.2.2.2.2.2⟩⟩
def sZ (x : qB) : qA := ⟨x.f0, x.f1⟩
def iF (x : xC) : qM := ⟨x.f0, x.f1, x.f2⟩
def asK (x : xS) : qH := ⟨x.f0, x.f1, x.f2⟩
theorem lH {α β : Type} (f : α → β) (l : List α) (i : Nat) (h : i < l.length) : (l.take i).map f ++ [f l[i]] = (l.take (i + 1)).map f := by
 have e : l.take (i + 1) = l.take i ++ [l[i]] := by rw [List.take_add_one]; simp [h]
 rw [e, List.map_append]
 rfl
theorem zdV (a0 : ByteArray) (a1 : Bool) (a2 : Int) (l3 : List qB) (l4 : List xC) (l5 : List xS) (hl3 : l3.length ≤ 1000000) (hl4 : l4.length ≤ 1000000) (hl5 : l5.length ≤ 1000000) : ∀ d i, l5.length - i = d → i ≤ l5.length → Ev (fun k => zu.l2 k (i : Int) a0 a1 a2 l3 l4 l5 a0 a1 a2 (l3.map sZ) (l4.map iF) ((l5.take i).map asK)) (a0, a1, a2, l3.map sZ, l4.map iF, l5.map asK) := by
 intro d
 induction d with
 | zero =>
  intro i hd hi
  refine Ev.step (fun k => by rw [zu.l2]) (xA (by omega) ?_)
  rw [List.take_of_length_le (by omega : l5.length ≤ i)]
  exact Ev.now _
 | succ d ih =>
  intro i hd hi
  have h1 : i < l5.length := by omega
  have q0 : (0 : Int) ≤ (i : Int) := by omega
  have q1 : (i : Int) < (l5.length : Int) := by omega
  have hw : wrap64 ((i : Int) + 1) = ((i + 1 : Nat) : Int) := (XR (by omega) (by omega)).trans (by omega)
  have q3 : ((l5.take i).map asK).length < 3518437208883 := by rw [List.length_map, List.length_take]; omega
  refine Ev.step (fun k => by rw [zu.l2]) (yJ q1 (yJ q0 (yJ q3 ?_)))
  have h := ih (i + 1) (by omega) (by omega)
  rw [← lH asK l5 i h1] at h
  rw [hw, rdK l5 i h1]
  exact h
theorem zdK (a0 : ByteArray) (a1 : Bool) (a2 : Int) (l3 : List qB) (l4 : List xC) (l5 : List xS) (hl3 : l3.length ≤ 1000000) (hl4 : l4.length ≤ 1000000) (hl5 : l5.length ≤ 1000000) : ∀ d i, l4.length - i = d → i ≤ l4.length → Ev (fun k => zu.l1 k (i : Int) a0 a1 a2 l3 l4 l5 a0 a1 a2 (l3.map sZ) ((l4.take i).map iF)) (a0, a1, a2, l3.map sZ, l4.map iF, l5.map asK) := by
 intro d
 induction d with
 | zero =>
  intro i hd hi
  refine Ev.step (fun k => by rw [zu.l1]) (xA (by omega) ?_)
  rw [List.take_of_length_le (by omega : l4.length ≤ i)]
  exact zdV a0 a1 a2 l3 l4 l5 hl3 hl4 hl5 _ 0 rfl (Nat.zero_le _)
 | succ d ih =>
  intro i hd hi
  have h1 : i < l4.length := by omega
  have q0 : (0 : Int) ≤ (i : Int) := by omega
  have q1 : (i : Int) < (l4.length : Int) := by omega
  have hw : wrap64 ((i : Int) + 1) = ((i + 1 : Nat) : Int) := (XR (by omega) (by omega)).trans (by omega)
  have q3 : ((l4.take i).map iF).length < 2932031007402 := by rw [List.length_map, List.length_take]; omega
  refine Ev.step (fun k => by rw [zu.l1]) (yJ q1 (yJ q0 (yJ q3 ?_)))
  have h := ih (i + 1) (by omega) (by omega)
  rw [← lH iF l4 i h1] at h
  rw [hw, rdL l4 i h1]
  exact h
theorem zdY (a0 : ByteArray) (a1 : Bool) (a2 : Int) (l3 : List qB) (l4 : List xC) (l5 : List xS) (hl3 : l3.length ≤ 1000000) (hl4 : l4.length ≤ 1000000) (hl5 : l5.length ≤ 1000000) : ∀ d i, l3.length - i = d → i ≤ l3.length → Ev (fun k => zu.l0 k (i : Int) a0 a1 a2 l3 l4 l5 a0 a1 a2 ((l3.take i).map sZ)) (a0, a1, a2, l3.map sZ, l4.map iF, l5.map asK) := by
 intro d
 induction d with
 | zero =>
  intro i hd hi
  refine Ev.step (fun k => by rw [zu.l0]) (xA (by omega) ?_)
  rw [List.take_of_length_le (by omega : l3.length ≤ i)]
  exact zdK a0 a1 a2 l3 l4 l5 hl3 hl4 hl5 _ 0 rfl (Nat.zero_le _)
 | succ d ih =>
  intro i hd hi
  have h1 : i < l3.length := by omega
  have q0 : (0 : Int) ≤ (i : Int) := by omega
  have q1 : (i : Int) < (l3.length : Int) := by omega
  have hw : wrap64 ((i : Int) + 1) = ((i + 1 : Nat) : Int) := (XR (by omega) (by omega)).trans (by omega)
  have q3 : ((l3.take i).map sZ).length < 5864062014805 := by rw [List.length_map, List.length_take]; omega
  refine Ev.step (fun k => by rw [zu.l0]) (yJ q1 (yJ q0 (yJ q3 ?_)))
  have h := ih (i + 1) (by omega) (by omega)
  rw [← lH sZ l3 i h1] at h
  rw [hw, rdG l3 i h1]
  exact h
theorem zby (a0 : ByteArray) (a1 : Bool) (a2 : Int) (l3 : List qB) (l4 : List xC) (l5 : List xS) (hl3 : l3.length ≤ 1000000) (hl4 : l4.length ≤ 1000000) (hl5 : l5.length ≤ 1000000) : Ev (fun k => zu.f k a0 a1 a2 l3 l4 l5) (a0, a1, a2, l3.map sZ, l4.map iF, l5.map asK) := by
 have h : Ev (fun k => zu.l0 k 0 a0 a1 a2 l3 l4 l5 a0 a1 a2 []) (a0, a1, a2, l3.map sZ, l4.map iF, l5.map asK) := zdY a0 a1 a2 l3 l4 l5 hl3 hl4 hl5 _ 0 rfl (Nat.zero_le _)
 exact Ev.congr (fun k => by rw [zu.f]) h
theorem zYj : jy je.f0 je.f2 je.f3 je.f4 je.f5 = true := by decide +kernel
theorem zVi : vM.f = some true := by
 have h1 : kE.f je.f0 je.f1 je.f2 je.f3 je.f4 je.f5 = some true := by
  unfold kE.f
  rw [zYj]
  decide +kernel
 have h2 : kY.f je.f0 je.f1 je.f2 je.f3 je.f4 je.f5 (⟨#[109]⟩ : ByteArray) = some (79, true) := by decide +kernel
 have h3 : (qI je.f3 79).f1 = 750 := by decide +kernel
 have h4 : wC.f 750 10 = some 75 := by decide +kernel
 have h5 : wD.f je.f0 je.f1 je.f2 je.f3 je.f4 je.f5 (⟨#[109]⟩ : ByteArray) 10 = some (75, 0) := by
  have hlen : je.f3.length = 97 := by decide +kernel
  unfold wD.f YA.f
  rw [if_pos (by decide), if_pos (by decide), h1, h2]
  simp only [Option.bind_some, if_true]
  rw [if_pos (by decide), if_pos (by rw [hlen]; decide), h3, h4]
  rfl
 show (kD.f).bind _ = _
 unfold kD.f
 simp only [Option.bind_some]
 rw [if_pos (by decide), if_pos (by decide)]
 show (wD.f je.f0 je.f1 je.f2 je.f3 je.f4 je.f5 (⟨#[109]⟩ : ByteArray) 10).bind _ = _
 rw [h5]
 rfl
theorem zw2 {β : Type} {f : Nat → Bool → Option β} {r : β} (k : Ev (fun n => f n true) r) : Ev (fun n => (vM.f).bind (f n)) r := oU zVi k
end Go.Proofs.YtaifemkokfoadaaGreatDoor
namespace Go.Proofs.YtaifemkokfoadaaGreatDoor.PX
open Go.RowKit Go.Proofs.zy.zK Go.Proofs.zy.yt Go.Proofs.zy.yV
attribute [local go_sem] xX xJ xP xR qD qE xV xK   -- for this text's walks alone
set_option linter.unusedVariables false
set_option linter.unusedSimpArgs false
def qp.l0 : Nat → Int → ByteArray → Option (ByteArray)
 | 0, _, _ => none
 | k + 1, x0, x3 => if x0 > 9 then ((some (([(wrap64 (48 + (Int.tmod (wrap64 (Int.tdiv x0 10)) 10))) % 256] : List Int) : List Int)).bind fun mM => (if (strOfNums mM).size + x3.size ≤ 9223372036854775807 then (qp.l0 k (wrap64 (Int.tdiv x0 10)) ((strOfNums mM) ++ x3)) else (none))) else (some x3)
def qp.f (k : Nat) (a0 : Int) : Option (ByteArray) := qp.l0 k a0 (strOfNums (([(wrap64 (48 + (Int.tmod a0 10))) % 256] : List Int)))
set_option maxHeartbeats 8000000 in
set_option maxRecDepth 100000 in
theorem qp.calls (k : Nat) (a0 : Int) (r : ByteArray) (w : World) (h : qp.f k a0 = some r) :
  Calls Tryz.prog 113 #[.int .i64 a0] w fun e w' => e = .returned (.string r) ∧ Below w.heap.size w w' := by
 have HB := zk.mk (Below.refl w.heap.size w)
 have H : (qp.l0 k a0 (strOfNums (([(wrap64 (48 + (Int.tmod a0 10))) % 256] : List Int)))) = some r := h
 clear h
 obtain ⟨zYv, zzX⟩ : ∃ y_ : List Int, y_ = (([(wrap64 (48 + (Int.tmod a0 10))) % 256] : List Int)) := ⟨_, rfl⟩
 replace H : (qp.l0 k a0 (strOfNums zYv)) = some r := by first | (rw [zzX]; with_reducible exact H) | (have jR := (Option.bind_some _ _).symm.trans H; rw [zzX]; with_reducible exact jR) | (have jR := (Option.bind_some _ _).symm.trans H; with_reducible exact jR) | with_reducible exact H | (rw [zzX]; exact H) | exact H
 have zXE := zk.mk zzX
 clear zzX
 have H' := zk.mk H
 clear H
 go_enter Tryz.func113, Tryz.ntmps113
 go_wp2_with (first | ((with_reducible refine xI (N := 8) rfl ?_); refine Kd.gN (Kd.int .u8) _ 5 ?hg (N := 8) ?hd (xs := ([(wrap64 (48 + (Int.tmod a0 10))) % 256] : List Int)) (inner := [.int .u8 ((wrap64 (48 + (Int.tmod a0 10))) % 256)]) (ok := fun _ => True) (Y2 := fun _ => True) ?hr ?hp (fun _ hk => hk) trivial (Below.refl _ _) (Nat.le_refl _) (by simp) ?_; (case hd => rfl); (case hg => rfl); (case hr => first | (go_simp; done) | (go_simp; rfl)); (case hp => exact (vV.one (show Kd.M (Kd.int .u8) _ _ _ ((wrap64 (48 + (Int.tmod a0 10))) % 256) [.int .u8 ((wrap64 (48 + (Int.tmod a0 10))) % 256)] from rfl) (vV.none _ _))); intro zmP w2 ho3 hb hg_ mZ; clear hg_ mZ; (first | rw [← zXE.out] at ho3 | (simp only [Int.reduceToNat] at ho3; rw [← zXE.out] at ho3)); have zl := zk.mk (Kd.vB ho3 (zH (yQ HB.out))); have zC := zk.mk (yg (yQ HB.out) hb); clear HB; have zbw := zl; have HB := zC; clear zl zC; clear hb ho3; have zdW := gH (P := Tryz.prog) Tryz.underlying66 Tryz.underlying5 Tryz.underlying9 (Kd.iR zbw.out)))
 go_loopg [0, 3] k (fun kq v0 v3 w' => ∃ (wo : Int) (uJ : ByteArray), v0 = .int .i64 wo ∧ v3 = .string uJ ∧ zk (qp.l0 kq wo uJ = some r) ∧ zk (kq ≤ k) ∧ zk (Below w.heap.size w w'))
 case atStart => exact ⟨(a0), (strOfNums zYv), (by first | rfl | (simp; done) | (simp [*]; done)), (by first | rfl | (simp; done) | (simp [*]; done)), H', ⟨Nat.le_refl _⟩, ⟨yQ HB.out⟩⟩
 case round =>
  clear H'
  try clear c1
  try clear p2
  try clear zdW
  obtain ⟨wo, uJ, rfl, rfl, HA, jl, HB⟩ := hrel
  cases gk with
  | zero => exact absurd HA.out (by simp [qp.l0])
  | succ k1 =>
   have H := HA.out
   clear HA
   simp only [qp.l0] at H
   by_cases c5 : wo > 9
   ·rw [if_pos c5] at H
    have VB : decide (9 < wo) = true := decide_eq_true c5
    clear c5
    obtain ⟨mM, zzJ⟩ : ∃ y_ : List Int, y_ = (([(wrap64 (48 + (Int.tmod (wrap64 (Int.tdiv wo 10)) 10))) % 256] : List Int)) := ⟨_, rfl⟩
    replace H : (if (strOfNums mM).size + uJ.size ≤ 9223372036854775807 then (qp.l0 k1 (wrap64 (Int.tdiv wo 10)) ((strOfNums mM) ++ uJ)) else (none)) = some r := by first | (rw [zzJ]; with_reducible exact H) | (have jR := (Option.bind_some _ _).symm.trans H; rw [zzJ]; with_reducible exact jR) | (have jR := (Option.bind_some _ _).symm.trans H; with_reducible exact jR) | with_reducible exact H | (rw [zzJ]; exact H) | exact H
    have zXF := zk.mk zzJ
    clear zzJ
    by_cases c6 : (strOfNums mM).size + uJ.size ≤ 9223372036854775807
    ·rw [if_pos c6] at H
     have Zf := eq_true c6
     have UK : decide ((strOfNums mM).size + uJ.size ≤ 9223372036854775807) = true := decide_eq_true c6
     try have zda : (9223372036854775807 < (strOfNums mM).size + uJ.size) = False := eq_false (Nat.not_lt.2 c6)
     have H' := zk.mk H
     clear H
     go_wp2_with (first | ((with_reducible refine xI (N := 18) rfl ?_); refine Kd.gN (Kd.int .u8) _ 5 ?hg (N := 18) ?hd (xs := ([(wrap64 (48 + (Int.tmod (wrap64 (Int.tdiv wo 10)) 10))) % 256] : List Int)) (inner := [.int .u8 ((wrap64 (48 + (Int.tmod (wrap64 (Int.tdiv wo 10)) 10))) % 256)]) (ok := fun _ => True) (Y2 := fun _ => True) ?hr ?hp (fun _ hk => hk) trivial (Below.refl _ _) (Nat.le_refl _) (by simp) ?_; (case hd => rfl); (case hg => rfl); (case hr => first | (go_simp; done) | (go_simp; rfl)); (case hp => exact (vV.one (show Kd.M (Kd.int .u8) _ _ _ ((wrap64 (48 + (Int.tmod (wrap64 (Int.tdiv wo 10)) 10))) % 256) [.int .u8 ((wrap64 (48 + (Int.tmod (wrap64 (Int.tdiv wo 10)) 10))) % 256)] from rfl) (vV.none _ _))); intro zmR w7 sQ hb hg_ mZ; clear hg_ mZ; (first | rw [← zXF.out] at sQ | (simp only [Int.reduceToNat] at sQ; rw [← zXF.out] at sQ)); have zl := zk.mk (Kd.vB sQ (zH (yQ HB.out))); have zC := zk.mk (yg (yQ HB.out) hb); clear HB; have zbZ := zl; have HB := zC; clear zl zC; clear hb sQ; have zdb := gH (P := Tryz.prog) Tryz.underlying66 Tryz.underlying5 Tryz.underlying9 (Kd.iR zbZ.out)))
     go_roundg k1
     case measure => have := jl.out; omega
     case rel => exact ⟨(wrap64 (Int.tdiv wo 10)), ((strOfNums mM) ++ uJ), (by first | rfl | (simp; done) | (simp [*]; done)), (by first | rfl | (simp; done) | (simp [*]; done)), H', ⟨by have := jl.out; omega⟩, ⟨yQ HB.out⟩⟩
    ·rw [if_neg c6] at H
     exact absurd H (by simp)
   ·rw [if_neg c5] at H
    have VB : decide (9 < wo) = false := decide_eq_false c5
    clear c5
    obtain rfl := Option.some.inj H
    go_wp2
    go_ret
    exact ⟨by first | rfl | (simp [yw, yZ] <;> rfl) | (simp [*, yw, yZ] <;> rfl), by repeat (first | (with_reducible first | exact HB.out | apply yS | apply yx | apply yD) | exact HB.out)⟩
end Go.Proofs.YtaifemkokfoadaaGreatDoor.PX
namespace Go.Proofs.YtaifemkokfoadaaGreatDoor.PX
open Go.RowKit Go.Proofs.zy.zK Go.Proofs.zy.yt Go.Proofs.zy.yV
attribute [local go_sem] xX xJ xP xR qD qE xV xK   -- for this text's walks alone
set_option linter.unusedVariables false
set_option linter.unusedSimpArgs false
def qG.l0 : Nat → Int → ByteArray → Option (ByteArray)
 | 0, _, _ => none
 | k + 1, x0, x3 => if x0 < 0 then ((some (([(wrap64 (48 - (Int.tmod x0 10))) % 256] : List Int) : List Int)).bind fun mO => (if (strOfNums mO).size + x3.size ≤ 9223372036854775807 then (qG.l0 k (wrap64 (Int.tdiv x0 10)) ((strOfNums mO) ++ x3)) else (none))) else (if 1 + x3.size ≤ 9223372036854775807 then (some ((⟨#[45]⟩ : ByteArray) ++ x3)) else (none))
def qG.f (k : Nat) (a0 : Int) : Option (ByteArray) := if a0 ≥ 0 then ((qp.f k a0).bind fun zqK => (some zqK)) else (qG.l0 k a0 (⟨#[]⟩ : ByteArray))
set_option maxHeartbeats 8000000 in
set_option maxRecDepth 100000 in
theorem qG.calls (k : Nat) (a0 : Int) (r : ByteArray) (w : World) (h : qG.f k a0 = some r) :
  Calls Tryz.prog 114 #[.int .i64 a0] w fun e w' => e = .returned (.string r) ∧ Below w.heap.size w w' := by
 have HB := zk.mk (Below.refl w.heap.size w)
 have H : (if a0 ≥ 0 then ((qp.f k a0).bind fun zqK => (some zqK)) else (qG.l0 k a0 (⟨#[]⟩ : ByteArray))) = some r := h
 clear h
 by_cases c2 : a0 ≥ 0
 ·rw [if_pos c2] at H
  have WT : decide (0 ≤ a0) = true := decide_eq_true c2
  clear c2
  replace H := Option.bind_eq_some_iff.mp H
  obtain ⟨zqK, rA, H⟩ := H
  replace H : (some zqK) = some r := H
  have A3 := zk.mk rA
  clear rA
  obtain rfl := Option.some.inj H
  go_enter Tryz.func114, Tryz.ntmps114
  go_wp2_with (first | ((with_reducible refine y7 (f := 113) rfl ?_); refine jP (some 7) Tryz.func113 #[.int .i64 a0] ?_; (with_reducible refine (qp.calls k a0 zqK _ A3.out).mono ?_); rintro e w4 ⟨rfl, hb⟩; refine ⟨_, rfl, ?_⟩; have zl := zk.mk (yg (yQ HB.out) hb); clear HB; have HB := zl; clear zl; (try clear hb); (try clear hb2); (try clear hk); (try clear hi)))
  go_ret
  exact ⟨by first | rfl | (simp [yw, yZ] <;> rfl) | (simp [*, yw, yZ] <;> rfl), by repeat (first | (with_reducible first | exact HB.out | apply yS | apply yx | apply yD) | exact HB.out)⟩
 ·rw [if_neg c2] at H
  have WT : decide (0 ≤ a0) = false := decide_eq_false c2
  clear c2
  have H' := zk.mk H
  clear H
  go_enter Tryz.func114, Tryz.ntmps114
  go_wp2
  go_loopg [0, 3] k (fun kq v0 v3 w' => ∃ (wo : Int) (uJ : ByteArray), v0 = .int .i64 wo ∧ v3 = .string uJ ∧ zk (qG.l0 kq wo uJ = some r) ∧ zk (kq ≤ k) ∧ zk (Below w.heap.size w w'))
  case atStart => exact ⟨(a0), ((⟨#[]⟩ : ByteArray)), (by first | rfl | (simp; done) | (simp [*]; done)), (by first | rfl | (simp; done) | (simp [*]; done)), H', ⟨Nat.le_refl _⟩, ⟨yQ HB.out⟩⟩
  case round =>
   clear H'
   try clear c1
   try clear c2
   try clear WT
   try clear p2
   obtain ⟨wo, uJ, rfl, rfl, HA, jl, HB⟩ := hrel
   cases gk with
   | zero => exact absurd HA.out (by simp [qG.l0])
   | succ k1 =>
    have H := HA.out
    clear HA
    simp only [qG.l0] at H
    by_cases c5 : wo < 0
    ·rw [if_pos c5] at H
     have VB : decide (wo < 0) = true := decide_eq_true c5
     clear c5
     obtain ⟨mO, zzV⟩ : ∃ y_ : List Int, y_ = (([(wrap64 (48 - (Int.tmod wo 10))) % 256] : List Int)) := ⟨_, rfl⟩
     replace H : (if (strOfNums mO).size + uJ.size ≤ 9223372036854775807 then (qG.l0 k1 (wrap64 (Int.tdiv wo 10)) ((strOfNums mO) ++ uJ)) else (none)) = some r := by first | (rw [zzV]; with_reducible exact H) | (have jR := (Option.bind_some _ _).symm.trans H; rw [zzV]; with_reducible exact jR) | (have jR := (Option.bind_some _ _).symm.trans H; with_reducible exact jR) | with_reducible exact H | (rw [zzV]; exact H) | exact H
     have zXG := zk.mk zzV
     clear zzV
     by_cases c6 : (strOfNums mO).size + uJ.size ≤ 9223372036854775807
     ·rw [if_pos c6] at H
      have Zf := eq_true c6
      have UK : decide ((strOfNums mO).size + uJ.size ≤ 9223372036854775807) = true := decide_eq_true c6
      try have zda : (9223372036854775807 < (strOfNums mO).size + uJ.size) = False := eq_false (Nat.not_lt.2 c6)
      have H' := zk.mk H
      clear H
      go_wp2_with (first | ((with_reducible refine xI (N := 14) rfl ?_); refine Kd.gN (Kd.int .u8) _ 5 ?hg (N := 14) ?hd (xs := ([(wrap64 (48 - (Int.tmod wo 10))) % 256] : List Int)) (inner := [.int .u8 ((wrap64 (48 - (Int.tmod wo 10))) % 256)]) (ok := fun _ => True) (Y2 := fun _ => True) ?hr ?hp (fun _ hk => hk) trivial (Below.refl _ _) (Nat.le_refl _) (by simp) ?_; (case hd => rfl); (case hg => rfl); (case hr => first | (go_simp; done) | (go_simp; rfl)); (case hp => exact (vV.one (show Kd.M (Kd.int .u8) _ _ _ ((wrap64 (48 - (Int.tmod wo 10))) % 256) [.int .u8 ((wrap64 (48 - (Int.tmod wo 10))) % 256)] from rfl) (vV.none _ _))); intro zmS w7 sQ hb hg_ mZ; clear hg_ mZ; (first | rw [← zXG.out] at sQ | (simp only [Int.reduceToNat] at sQ; rw [← zXG.out] at sQ)); have zl := zk.mk (Kd.vB sQ (zH (yQ HB.out))); have zC := zk.mk (yg (yQ HB.out) hb); clear HB; have zbQ := zl; have HB := zC; clear zl zC; clear hb sQ; have zdb := gH (P := Tryz.prog) Tryz.underlying66 Tryz.underlying5 Tryz.underlying9 (Kd.iR zbQ.out)))
      go_roundg k1
      case measure => have := jl.out; omega
      case rel => exact ⟨(wrap64 (Int.tdiv wo 10)), ((strOfNums mO) ++ uJ), (by first | rfl | (simp; done) | (simp [*]; done)), (by first | rfl | (simp; done) | (simp [*]; done)), H', ⟨by have := jl.out; omega⟩, ⟨yQ HB.out⟩⟩
     ·rw [if_neg c6] at H
      exact absurd H (by simp)
    ·rw [if_neg c5] at H
     have VB : decide (wo < 0) = false := decide_eq_false c5
     clear c5
     by_cases c10 : 1 + uJ.size ≤ 9223372036854775807
     ·rw [if_pos c10] at H
      have J3 := eq_true c10
      have zzK : decide (1 + uJ.size ≤ 9223372036854775807) = true := decide_eq_true c10
      try have zlI : (9223372036854775807 < 1 + uJ.size) = False := eq_false (Nat.not_lt.2 c10)
      obtain rfl := Option.some.inj H
      go_wp2
      go_ret
      exact ⟨by first | rfl | (simp [yw, yZ] <;> rfl) | (simp [*, yw, yZ] <;> rfl), by repeat (first | (with_reducible first | exact HB.out | apply yS | apply yx | apply yD) | exact HB.out)⟩
     ·rw [if_neg c10] at H
      exact absurd H (by simp)
end Go.Proofs.YtaifemkokfoadaaGreatDoor.PX
namespace Go.Proofs.YtaifemkokfoadaaGreatDoor.PX
open Go.RowKit Go.Proofs.zy.zK Go.Proofs.zy.yt Go.Proofs.zy.yV
attribute [local go_sem] xX xJ xP xR qD qE xV xK   -- for this text's walks alone
set_option linter.unusedVariables false
set_option linter.unusedSimpArgs false
def qF.l0 : Nat → ByteArray → Int → List ByteArray → Int → Int → Option (List ByteArray)
 | 0, _, _, _, _, _ => none
 | k + 1, x0, x1, x5, x6, x7 => if x7 < (x0.size : Int) then (if 0 ≤ x7 then (if (bt x0 x7) = x1 then (if 0 ≤ x6 then (if x6 ≤ x7 then (if x7 ≤ (x0.size : Int) then (if x5.length < 8796093022208 then (qF.l0 k x0 x1 (x5 ++ [x0.extract (x6 : Int).toNat (x7 : Int).toNat]) (wrap64 (x7 + 1)) (wrap64 (x7 + 1))) else (none)) else (none)) else (none)) else (none)) else (qF.l0 k x0 x1 x5 x6 (wrap64 (x7 + 1)))) else (none)) else (if 0 ≤ x6 then (if x6 ≤ (x0.size : Int) then (if x5.length < 8796093022208 then (some (x5 ++ [x0.extract (x6 : Int).toNat x0.size])) else (none)) else (none)) else (none))
def qF.f (k : Nat) (a0 : ByteArray) (a1 : Int) : Option (List ByteArray) := qF.l0 k a0 a1 ([] : List ByteArray) 0 0
set_option maxHeartbeats 8000000 in
set_option maxRecDepth 100000 in
theorem qF.calls (k : Nat) (a0 : ByteArray) (a1 : Int) (r : List ByteArray) (w : World) (h : qF.f k a0 a1 = some r) :
  Calls Tryz.prog 80 #[.string a0, .int .u8 a1] w fun e w' => ∃ v0_ : Value, e = .returned (v0_) ∧ Kd.R Kd.string 9 w' w.heap.size (fun _ => True) v0_ r ∧ Below w.heap.size w w' := by
 have HB := zk.mk (Below.refl w.heap.size w)
 have H : (qF.l0 k a0 a1 ([] : List ByteArray) 0 0) = some r := h
 clear h
 have H' := zk.mk H
 clear H
 go_enter Tryz.func80, Tryz.ntmps80
 go_wp2
 go_loopg [5, 6, 7] k (fun kq v5 v6 v7 w' => ∃ (kH : List ByteArray) (qP : Int) (kI : Int), v6 = .int .i64 qP ∧ v7 = .int .i64 kI ∧ zk (qF.l0 kq a0 a1 kH qP kI = some r) ∧ zk (kq ≤ k) ∧ zk (Kd.R Kd.string 9 w' w.heap.size (fun _ => True) v5 kH) ∧ zk (Below w.heap.size w w'))
 case atStart => exact ⟨(([] : List ByteArray)), (0), (0), (by first | rfl | (simp; done) | (simp [*]; done)), (by first | rfl | (simp; done) | (simp [*]; done)), H', ⟨Nat.le_refl _⟩, ⟨by first | exact Kd.vD _ _ _ _ _ | exact Kd.jG _ _ _ _ _ | exact Kd.jH _ _ _ _ _ | exact Kd.jE _ _ _ _ _ | exact Kd.jF _ _ _ _ _⟩, ⟨yQ HB.out⟩⟩
 case round =>
  clear H'
  try clear p2
  obtain ⟨kH, qP, kI, rfl, rfl, HA, jl, qd, HB⟩ := hrel
  cases gk with
  | zero => exact absurd HA.out (by simp [qF.l0])
  | succ k1 =>
   have H := HA.out
   clear HA
   simp only [qF.l0] at H
   by_cases c3 : kI < (a0.size : Int)
   ·rw [if_pos c3] at H
    have XV : decide (kI < (a0.size : Int)) = true := decide_eq_true c3
    clear c3
    by_cases c4 : 0 ≤ kI
    ·rw [if_pos c4] at H
     have JD : decide (0 ≤ kI) = true := decide_eq_true c4
     clear c4
     by_cases c6 : (bt a0 kI) = a1
     ·rw [if_pos c6] at H
      have Zf : ((bt a0 kI) == a1) = true := beq_iff_eq.mpr c6
      have UK : ((bt a0 kI) != a1) = false := bne_eq_false_iff_eq.mpr c6
      clear c6
      by_cases c7 : 0 ≤ qP
      ·rw [if_pos c7] at H
       have VI := eq_true c7
       have rO : decide (0 ≤ qP) = true := decide_eq_true c7
       clear c7
       by_cases c8 : qP ≤ kI
       ·rw [if_pos c8] at H
        have KO := eq_true c8
        have zYk : decide (qP ≤ kI) = true := decide_eq_true c8
        clear c8
        by_cases c9 : kI ≤ (a0.size : Int)
        ·rw [if_pos c9] at H
         have zkT := eq_true c9
         have zmT : decide (kI ≤ (a0.size : Int)) = true := decide_eq_true c9
         clear c9
         by_cases c10 : kH.length < 8796093022208
         ·rw [if_pos c10] at H
          have zbX := zk.mk c10
          clear c10
          obtain ⟨zYy, zzY⟩ : ∃ y_ : List ByteArray, y_ = (kH ++ [a0.extract (qP : Int).toNat (kI : Int).toNat]) := ⟨_, rfl⟩
          replace H : (qF.l0 k1 a0 a1 zYy (wrap64 (kI + 1)) (wrap64 (kI + 1))) = some r := by first | (rw [zzY]; with_reducible exact H) | (have jR := (Option.bind_some _ _).symm.trans H; rw [zzY]; with_reducible exact jR) | (have jR := (Option.bind_some _ _).symm.trans H; with_reducible exact jR) | with_reducible exact H | (rw [zzY]; exact H) | exact H
          have zbJ := zk.mk zzY
          clear zzY
          have H' := zk.mk H
          clear H
          have p5 : 0 ≤ (kI : Int) := of_decide_eq_true (by first | (with_reducible assumption) | assumption)
          have q5 : kI < (a0.size : Int) := of_decide_eq_true (by first | (with_reducible assumption) | assumption)
          have hx5 := ZM a0 kI
          replace p5 := eq_true p5
          replace q5 := eq_true q5
          go_wp2_with (first | ((with_reducible refine rW (b := .append) (xs := #[.tmp 19, .tmp 24]) rfl ?_); at_builtin; refine Kd.zxK Kd.string (w0 := w) w.heap.size rfl (.tmp 19) (.tmp 24) 77 9 (.string ⟨#[]⟩) 16 rfl Tryz.underlying77 zQ8 rfl (by decide) (by omega) u5 kH (a0.extract (qP : Int).toNat (kI : Int).toNat) [.string (a0.extract (qP : Int).toNat (kI : Int).toNat)] (fun _ => True) (fun _ => False) rfl rfl ?aP (fun _ hk => hk.elim) ?aF ?aO ?aB ?aS ?aL ?_; (case aP => exact rfl); (case aB => exact (yQ HB.out)); (case aF => exact (fun _ _ => trivial)); (case aO => exact (yK qd.out)); (case aS => exact (zH (yQ HB.out))); (case aL => have := zbX.out; omega); intro zmU iC ho hb hg hat; rw [← zbJ.out] at ho; have zl := zk.mk (hb); have zC := zk.mk (ho); clear HB; clear qd; have HB := zl; have zbV := zC; clear zl zC; clear ho hb hg hat))
          go_roundg k1
          case measure => have := jl.out; omega
          case rel => exact ⟨(zYy), (wrap64 (kI + 1)), (wrap64 (kI + 1)), (by first | rfl | (simp; done) | (simp [*]; done)), (by first | rfl | (simp; done) | (simp [*]; done)), H', ⟨by have := jl.out; omega⟩, ⟨yK zbV.out⟩, ⟨yQ HB.out⟩⟩
         ·rw [if_neg c10] at H
          exact absurd H (by simp)
        ·rw [if_neg c9] at H
         exact absurd H (by simp)
       ·rw [if_neg c8] at H
        exact absurd H (by simp)
      ·rw [if_neg c7] at H
       exact absurd H (by simp)
     ·rw [if_neg c6] at H
      have Zf : ((bt a0 kI) == a1) = false := beq_eq_false_iff_ne.mpr c6
      have UK : ((bt a0 kI) != a1) = true := bne_iff_ne.mpr c6
      have H' := zk.mk H
      clear H
      have p5 : 0 ≤ (kI : Int) := of_decide_eq_true (by first | (with_reducible assumption) | assumption)
      have q5 : kI < (a0.size : Int) := of_decide_eq_true (by first | (with_reducible assumption) | assumption)
      have hx5 := ZM a0 kI
      replace p5 := eq_true p5
      replace q5 := eq_true q5
      go_wp2
      go_roundg k1
      case measure => have := jl.out; omega
      case rel => exact ⟨(kH), (qP), (wrap64 (kI + 1)), (by first | rfl | (simp; done) | (simp [*]; done)), (by first | rfl | (simp; done) | (simp [*]; done)), H', ⟨by have := jl.out; omega⟩, ⟨yK qd.out⟩, ⟨yQ HB.out⟩⟩
    ·rw [if_neg c4] at H
     exact absurd H (by simp)
   ·rw [if_neg c3] at H
    have XV : decide (kI < (a0.size : Int)) = false := decide_eq_false c3
    clear c3
    by_cases c12 : 0 ≤ qP
    ·rw [if_pos c12] at H
     have aD := eq_true c12
     have aG : decide (0 ≤ qP) = true := decide_eq_true c12
     clear c12
     by_cases c13 : qP ≤ (a0.size : Int)
     ·rw [if_pos c13] at H
      have Ws := eq_true c13
      have aH : decide (qP ≤ (a0.size : Int)) = true := decide_eq_true c13
      clear c13
      by_cases c14 : kH.length < 8796093022208
      ·rw [if_pos c14] at H
       have zbK := zk.mk c14
       clear c14
       obtain ⟨zdc, zzW⟩ : ∃ y_ : List ByteArray, y_ = (kH ++ [a0.extract (qP : Int).toNat a0.size]) := ⟨_, rfl⟩
       replace H : (some zdc) = some r := by first | (rw [zzW]; with_reducible exact H) | (have jR := (Option.bind_some _ _).symm.trans H; rw [zzW]; with_reducible exact jR) | (have jR := (Option.bind_some _ _).symm.trans H; with_reducible exact jR) | with_reducible exact H | (rw [zzW]; exact H) | exact H
       have zbY := zk.mk zzW
       clear zzW
       obtain rfl := Option.some.inj H
       go_wp2_with (first | ((with_reducible refine rW (b := .append) (xs := #[.tmp 28, .tmp 32]) rfl ?_); at_builtin; refine Kd.zxK Kd.string (w0 := w) w.heap.size rfl (.tmp 28) (.tmp 32) 77 9 (.string ⟨#[]⟩) 16 rfl Tryz.underlying77 zQ8 rfl (by decide) (by omega) u5 kH (a0.extract (qP : Int).toNat a0.size) [.string (a0.extract (qP : Int).toNat a0.size)] (fun _ => True) (fun _ => False) rfl rfl ?aP (fun _ hk => hk.elim) ?aF ?aO ?aB ?aS ?aL ?_; (case aP => exact rfl); (case aB => exact (yQ HB.out)); (case aF => exact (fun _ _ => trivial)); (case aO => exact (yK qd.out)); (case aS => exact (zH (yQ HB.out))); (case aL => have := zbK.out; omega); intro zm0 KU ho hb hg hat; rw [← zbY.out] at ho; have zl := zk.mk (hb); have zC := zk.mk (ho); clear HB; clear qd; have HB := zl; have zbW := zC; clear zl zC; clear ho hb hg hat))
       go_ret
       exact ⟨_, by first | rfl | (simp [yw, yZ] <;> rfl) | (simp [*, yw, yZ] <;> rfl), by (with_reducible repeat (first | apply Kd.yT | apply Kd.yU | apply Kd.yj)); exact zbW.out, by repeat (first | (with_reducible first | exact HB.out | apply yS | apply yx | apply yD) | exact HB.out)⟩
      ·rw [if_neg c14] at H
       exact absurd H (by simp)
     ·rw [if_neg c13] at H
      exact absurd H (by simp)
    ·rw [if_neg c12] at H
     exact absurd H (by simp)
end Go.Proofs.YtaifemkokfoadaaGreatDoor.PX
namespace Go.Proofs.YtaifemkokfoadaaGreatDoor
open Go.RowKit Go.Proofs.zy.zK Go.Proofs.YtaifemkokfoadaaGreatDoor.PX
def VL (n : Nat) : List UInt8 := if n < 10 then [] else Lib.decDigits (n / 10)
theorem Jr (n : Nat) : Lib.decDigits n = VL n ++ [UInt8.ofNat (48 + n % 10)] := by
 rw [Lib.decDigits]
 unfold VL
 split
 ·rw [show n % 10 = n by omega]; rfl
 ·rfl
theorem zza (n : Nat) (h : 9 < n) : VL n = Lib.decDigits (n / 10) := by unfold VL; rw [if_neg (by omega)]
theorem Wx (n : Nat) (h : n ≤ 9) : VL n = [] := by unfold VL; rw [if_pos (by omega)]
theorem zw3 (n : Nat) : Int.tdiv (n : Int) 10 = ((n / 10 : Nat) : Int) := by
 rw [Int.tdiv_eq_ediv_of_nonneg (by omega)]; rfl
theorem zw4 (n : Nat) : Int.tmod (n : Int) 10 = ((n % 10 : Nat) : Int) := by
 rw [Int.tmod_eq_emod_of_nonneg (by omega)]; rfl
theorem zXH (n : Nat) : (wrap64 (48 + Int.tmod (n : Int) 10)) % 256 = ((48 + n % 10 : Nat) : Int) := by
 rw [zw4, XR (by omega) (by omega)]; omega
theorem zQZ (m : Nat) : ∀ (n : Nat) (s : List UInt8), n < 10 ^ m → n ≤ 9223372036854775807 → s.length + m ≤ 1000 →
  Ev (fun k => qp.l0 k (n : Int) (bar s)) (bar (VL n ++ s)) := by
 induction m with
 | zero =>
  intro n s h _ hs
  refine Ev.step (fun k => by rw [qp.l0]) ?_
  refine xA (by omega) ?_
  rw [Wx n (by omega)]
  exact Ev.now _
 | succ m ih =>
  intro n s h hn hs
  refine Ev.step (fun k => by rw [qp.l0]) ?_
  by_cases h9 : n ≤ 9
  ·refine xA (by omega) ?_
   rw [Wx n h9]
   exact Ev.now _
  ·have e : wrap64 (Int.tdiv (n : Int) 10) = ((n / 10 : Nat) : Int) := by rw [zw3, XR (by omega) (by omega)]
   rw [e, zXH]
   refine yJ (by omega) (zQ9 (yJ ?_ ?_))
   ·rw [Ji, uq, uq]; simp only [List.length_cons, List.length_nil]; omega
   ·rw [Ji, aj, zza n (by omega), Jr (n / 10), List.append_assoc]
    refine ih (n / 10) _ (by rw [Nat.pow_succ] at h; omega) (by omega) ?_
    simp only [List.length_append, List.length_cons, List.length_nil]; omega
theorem zqM (n : Nat) (h : n ≤ 9223372036854775807) : Ev (fun k => qp.f k (n : Int)) (bar (Lib.decDigits n)) := by
 unfold qp.f
 rw [zXH, Ji, Jr n]
 exact zQZ 19 n _ (by omega) h (by simp)
theorem zVl (n : Nat) : Int.tmod (-(n : Int)) 10 = -((n % 10 : Nat) : Int) := by
 rw [Int.neg_tmod, zw4]
theorem zVm (n : Nat) : Int.tdiv (-(n : Int)) 10 = -((n / 10 : Nat) : Int) := by
 rw [Int.neg_tdiv, zw3]
theorem zba (n : Nat) : (wrap64 (48 - Int.tmod (-(n : Int)) 10)) % 256 = ((48 + n % 10 : Nat) : Int) := by
 rw [zVl, XR (by omega) (by omega)]; omega
theorem zQQ (m : Nat) : ∀ (n : Nat) (s : List UInt8), n < 10 ^ m → n ≤ 9223372036854775808 → s.length + m ≤ 1000 → (n = 0 → s ≠ []) →
  Ev (fun k => qG.l0 k (-(n : Int)) (bar s)) (bar (45 :: (if n = 0 then s else Lib.decDigits n ++ s))) := by
 induction m with
 | zero =>
  intro n s h _ hs _
  obtain rfl : n = 0 := by omega
  refine Ev.step (fun k => by rw [qG.l0]) ?_
  refine xA (by omega) (yJ (by rw [uq]; omega) ?_)
  exact zKb (congrArg some (aj [45] s))
 | succ m ih =>
  intro n s h hn hs h0
  refine Ev.step (fun k => by rw [qG.l0]) ?_
  by_cases h9 : n = 0
  ·subst h9
   refine xA (by omega) (yJ (by rw [uq]; omega) ?_)
   exact zKb (congrArg some (aj [45] s))
  ·have e : wrap64 (Int.tdiv (-(n : Int)) 10) = -((n / 10 : Nat) : Int) := by rw [zVm, XR (by omega) (by omega)]
   rw [e, zba]
   refine yJ (by omega) (zQ9 (yJ ?_ ?_))
   ·rw [Ji, uq, uq]; simp only [List.length_cons, List.length_nil]; omega
   ·rw [Ji, aj, if_neg h9]
    refine KN ?_ (ih (n / 10) _ (by rw [Nat.pow_succ] at h; omega) (by omega) ?_ ?_)
    ·congr 2
     rw [Jr n]
     by_cases hz : n / 10 = 0
     ·rw [if_pos hz, Wx n (by omega)]; rfl
     ·rw [if_neg hz, zza n (by omega), List.append_assoc]; rfl
    ·simp only [List.length_append, List.length_cons, List.length_nil]; omega
    ·intro _ h; cases h
theorem sJ (n : Int) (h0 : -9223372036854775808 ≤ n) (h1 : n ≤ 9223372036854775807) : Ev (fun k => qG.f k n) (bar (Lib.itoa n)) := by
 unfold qG.f Lib.itoa
 by_cases hn : n < 0
 ·refine xA (by omega) ?_
  rw [if_pos hn]
  have e : n = -(n.natAbs : Int) := by omega
  refine KN ?_ (Ev.congr (fun k => ?_) (zQQ 19 n.natAbs [] (by omega) (by omega) (by simp) (by omega)))
  ·rw [if_neg (by omega), List.append_nil]
  ·rw [← e]; rfl
 ·refine yJ (by omega) ?_
  rw [if_neg hn]
  have e : n = (n.toNat : Int) := by omega
  refine Ev.bind (a := bar (Lib.decDigits n.toNat)) (Ev.congr (fun k => ?_) (zqM n.toNat (by omega))) (Ev.now _)
  rw [← e]
end Go.Proofs.YtaifemkokfoadaaGreatDoor
namespace Go.Proofs.YtaifemkokfoadaaGreatDoor
def uE (c : UInt8) : List UInt8 → List (List UInt8)
 | [] => [[]]
 | x :: s => if x = c then [] :: uE c s else match uE c s with
  | [] => [[x]]
  | p :: ps => (x :: p) :: ps
theorem eU (c : UInt8) : ∀ s, uE c s ≠ []
 | [] => by simp [uE]
 | x :: s => by
  unfold uE
  split
  ·simp
  ·split <;> simp
theorem YL (c : UInt8) : ∀ (t r : List UInt8), (∀ x ∈ t, x ≠ c) → uE c (t ++ c :: r) = t :: uE c r
 | [], r, _ => by simp [uE]
 | x :: t, r, h => by
  have hx : x ≠ c := h x (List.mem_cons_self ..)
  have ih := YL c t r (fun y hy => h y (List.mem_cons_of_mem _ hy))
  rw [List.cons_append, uE, if_neg hx, ih]
theorem Wj (c : UInt8) : ∀ (t : List UInt8), (∀ x ∈ t, x ≠ c) → uE c t = [t]
 | [], _ => rfl
 | x :: t, h => by
  have hx : x ≠ c := h x (List.mem_cons_self ..)
  rw [uE, if_neg hx, Wj c t (fun y hy => h y (List.mem_cons_of_mem _ hy))]
theorem zqN (c : UInt8) : ∀ s : List UInt8, (∀ x ∈ s, x ≠ c) ∨ ∃ t r, s = t ++ c :: r ∧ ∀ x ∈ t, x ≠ c
 | [] => .inl (fun x h => by cases h)
 | x :: s => by
  by_cases hx : x = c
  ·exact .inr ⟨[], s, by rw [hx]; rfl, fun y h => by cases h⟩
  ·rcases zqN c s with h | ⟨t, r, rfl, h⟩
   ·exact .inl (fun y hy => by rcases List.mem_cons.1 hy with rfl | hy; exact hx; exact h y hy)
   ·exact .inr ⟨x :: t, r, rfl, fun y hy => by rcases List.mem_cons.1 hy with rfl | hy; exact hx; exact h y hy⟩
theorem JF (c : UInt8) : ∀ (t r : List UInt8), (∀ x ∈ t, x ≠ c) → Lib.indexByte (t ++ c :: r) c = t.length
 | [], r, _ => by simp [Lib.indexByte]
 | x :: t, r, h => by
  have hx : x ≠ c := h x (List.mem_cons_self ..)
  have ih := JF c t r (fun y hy => h y (List.mem_cons_of_mem _ hy))
  rw [List.cons_append, Lib.indexByte, ih, if_neg (by simpa using hx), if_neg (by simp)]
  simp
theorem nR (c : UInt8) : ∀ (t : List UInt8), (∀ x ∈ t, x ≠ c) → Lib.indexByte t c = -1
 | [], _ => rfl
 | x :: t, h => by
  have hx : x ≠ c := h x (List.mem_cons_self ..)
  rw [Lib.indexByte, nR c t (fun y hy => h y (List.mem_cons_of_mem _ hy)), if_neg (by simpa using hx), if_pos (by simp)]
theorem index_one (c : UInt8) : ∀ s : List UInt8, Lib.index s [c] = Lib.indexByte s c
 | [] => rfl
 | x :: s => by
  rw [Lib.index, Lib.indexByte, index_one c s]
  by_cases hx : x = c
  ·subst hx; simp
  ·have h1 : ¬ [c].isPrefixOf (x :: s) = true := by simp [List.isPrefixOf]; exact fun e => hx e.symm
   rw [if_neg h1, if_neg (show ¬ (x == c) = true by simpa using hx)]
theorem iG (c : UInt8) : ∀ (n : Nat) (s : List UInt8), s.count c ≤ n → Lib.splitK [c] 0 n s = uE c s
 | 0, s, h => by
  have hs : ∀ x ∈ s, x ≠ c := fun x hx e => by
   subst e
   have := List.count_pos_iff.2 hx
   omega
  rw [Wj c s hs]; rfl
 | n + 1, s, h => by
  rcases zqN c s with hs | ⟨t, r, rfl, ht⟩
  ·rw [Lib.splitK, index_one, nR c s hs, if_pos (by simp), Wj c s hs]
  ·have hc : r.count c ≤ n := by
    rw [List.count_append, List.count_cons_self] at h; omega
   have e1 : (((t.length : Nat) : Int).toNat + 0) = t.length := by simp
   have e2 : ((t.length : Nat) : Int).toNat + [c].length = t.length + 1 := by simp
   rw [Lib.splitK, index_one, JF c t r ht, if_neg (by simp), e1, e2, YL c t r ht, List.take_left' rfl]
   congr 1
   rw [show (t ++ c :: r).drop (t.length + 1) = r by simp [List.drop_append]]
   exact iG c n r hc
theorem zVn (t : List UInt8) : Lib.trimSuffix (t ++ [10]) [10] = t := by
 unfold Lib.trimSuffix Lib.hasSuffix
 rw [if_pos]
 ·simp
 ·rw [List.isSuffixOf_iff_suffix]; exact ⟨t, rfl⟩
def kC : Nat → List UInt8 → List (List UInt8)
 | 0, _ => []
 | n + 1, s => if s = [] then [] else if Lib.indexByte s 10 < 0 then [s] else s.take ((Lib.indexByte s 10).toNat + 1) :: kC n (s.drop ((Lib.indexByte s 10).toNat + 1))
theorem iH : ∀ (n m : Nat) (s : List UInt8), s.length ≤ n → s.length ≤ m → kC n s = kC m s := by
 intro n
 induction n with
 | zero =>
  intro m s h1 _
  have : s = [] := List.eq_nil_of_length_eq_zero (by omega)
  subst this
  cases m <;> rfl
 | succ n ih =>
  intro m s h1 h2
  cases m with
  | zero =>
   have : s = [] := List.eq_nil_of_length_eq_zero (by omega)
   subst this; rfl
  | succ m =>
   simp only [kC]
   split
   ·rfl
   ·split
    ·rfl
    ·rename_i h3 _
     have : 0 < s.length := List.length_pos_iff.2 h3
     rw [ih m _ (by rw [List.length_drop]; omega) (by rw [List.length_drop]; omega)]
def Z7 (s : List UInt8) : List (List UInt8) := kC s.length s
theorem zyg : Z7 [] = [] := rfl
theorem mP (t r : List UInt8) (ht : ∀ x ∈ t, x ≠ 10) : Z7 (t ++ 10 :: r) = (t ++ [10]) :: Z7 r := by
 unfold Z7
 have hl : (t ++ 10 :: r).length = (t.length + r.length) + 1 := by simp; omega
 rw [hl, kC, if_neg (by simp), JF 10 t r ht, if_neg (by simp), Int.toNat_natCast]
 have e1 : (t ++ 10 :: r).take (t.length + 1) = t ++ [10] := by simp [List.take_append, List.take_of_length_le]
 have e2 : (t ++ 10 :: r).drop (t.length + 1) = r := by simp [List.drop_append]
 rw [e1, e2]
 congr 1
 exact iH _ _ _ (by omega) (Nat.le_refl _)
theorem Je {α : Type} (f : α → List UInt8) (g : α → List UInt8) (r : List UInt8) : ∀ l : List α, (∀ x ∈ l, f x = g x ++ [10] ∧ ∀ y ∈ g x, y ≠ 10) → Z7 ((l.map f).flatten ++ r) = l.map f ++ Z7 r
 | [], _ => rfl
 | x :: l, h => by
  obtain ⟨h1, h2⟩ := h x (List.mem_cons_self ..)
  rw [List.map_cons, List.flatten_cons, List.append_assoc, h1, List.append_assoc, List.singleton_append, mP _ _ h2, Je f g r l (fun y hy => h y (List.mem_cons_of_mem _ hy)), List.cons_append, ← h1]
end Go.Proofs.YtaifemkokfoadaaGreatDoor
namespace Go.Proofs.YtaifemkokfoadaaGreatDoor.PX
open Go.RowKit Go.Proofs.zy.zK Go.Proofs.zy.yt Go.Proofs.zy.yV
attribute [local go_sem] xX xJ xP xR qD qE xV xK   -- for this text's walks alone
set_option linter.unusedVariables false
set_option linter.unusedSimpArgs false
mutual
def zI.j0 : Nat → ByteArray → Int → Int → Bool → Option (Int × Bool)
 | 0, _, _, _, _ => none
 | k + 1, x0, x4, x5, x13 => if x13 = true then (zI.j1 k x0 x4 1) else (zI.j1 k x0 x4 x5)
def zI.j1 : Nat → ByteArray → Int → Int → Option (Int × Bool)
 | 0, _, _, _ => none
 | k + 1, x0, x4, x5 => zI.l0 k x0 x4 x5 x5
def zI.l0 : Nat → ByteArray → Int → Int → Int → Option (Int × Bool)
 | 0, _, _, _, _ => none
 | k + 1, x0, x4, x5, x6 => if x6 < (x0.size : Int) then (if 0 ≤ x6 then (if (bt x0 x6) < 48 then (some (0, false)) else (if (bt x0 x6) > 57 then (some (0, false)) else (if (wrap64 (x6 - x5)) ≥ 9 then (some (0, false)) else (zI.l0 k x0 (wrap64 ((wrap64 (x4 * 10)) + (((bt x0 x6) - 48) % 256))) x5 (wrap64 (x6 + 1)))))) else (none)) else (if x5 = 1 then ((qG.f k (wrap64 (-x4))).bind fun zyh => (some (wrap64 (-x4), (zyh.toList == x0.toList)))) else ((qG.f k x4).bind fun zyi => (some (x4, (zyi.toList == x0.toList)))))
end
def zI.f (k : Nat) (a0 : ByteArray) : Option (Int × Bool) := if a0.toList = ([] : List UInt8) then (zI.j0 k a0 0 0 false) else (if 0 < (a0.size : Int) then (zI.j0 k a0 0 0 ((bt a0 0) == 45)) else (none))
set_option maxHeartbeats 8000000 in
set_option maxRecDepth 100000 in
theorem zI.calls (k : Nat) (a0 : ByteArray) (r1 : Int) (r2 : Bool) (w : World) (h : zI.f k a0 = some (r1, r2)) :
  Calls Tryz.prog 81 #[.string a0] w fun e w' => e = .returned (.tuple #[.int .i64 r1, .bool r2]) ∧ Below w.heap.size w w' := by
 have HB := zk.mk (Below.refl w.heap.size w)
 have H : (if a0.toList = ([] : List UInt8) then (zI.j0 k a0 0 0 false) else (if 0 < (a0.size : Int) then (zI.j0 k a0 0 0 ((bt a0 0) == 45)) else (none))) = some (r1, r2) := h
 clear h
 have HC2 := zk.mk H
 clear H
 go_enter Tryz.func81, Tryz.ntmps81
 go_upto_region 2 with (fail)
 go_cut [13] (fun v13 wc => ∃ (kq : Nat) (zxz : Bool), v13 = .bool zxz ∧ zk (zI.j0 kq a0 0 0 zxz = some (r1, r2)) ∧ zk (kq ≤ k) ∧ zk (Below w.heap.size w wc))
 case first =>
  have H := HC2.out
  clear HC2
  by_cases c3 : a0.toList = ([] : List UInt8)
  ·rw [if_pos c3] at H
   have XV : (a0.toList == ([] : List UInt8)) = true := beq_iff_eq.mpr c3
   have zQX : (!(a0).toList.isEmpty) = false := by rw [List.isEmpty_iff.mpr c3]; rfl
   have zxA : (a0.toList != ([] : List UInt8)) = false := bne_eq_false_iff_eq.mpr c3
   clear c3
   (first | rw [XV] | rw [zQX] | (simp only [vZ, vQ]; rw [XV]) | skip)
   have H' := zk.mk H
   clear H
   go_wp2
   go_meet
   case rel => exact ⟨_, (false), (by first | rfl | (simp; done) | (simp [*]; done)), H', ⟨by first | omega | exact Nat.le_refl _⟩, ⟨yQ HB.out⟩⟩
  ·rw [if_neg c3] at H
   have XV : (a0.toList == ([] : List UInt8)) = false := beq_eq_false_iff_ne.mpr c3
   have zQX : (!(a0).toList.isEmpty) = true := by rw [List.isEmpty_eq_false_iff.mpr c3]; rfl
   have zxA : (a0.toList != ([] : List UInt8)) = true := bne_iff_ne.mpr c3
   (first | rw [XV] | rw [zQX] | (simp only [vZ, vQ]; rw [XV]) | skip)
   by_cases c4 : 0 < (a0.size : Int)
   ·rw [if_pos c4] at H
    have JD : decide (0 < (a0.size : Int)) = true := decide_eq_true c4
    have zyy : decide (0 < a0.size) = true := decide_eq_true (by omega)
    clear c4
    have H' := zk.mk H
    clear H
    have p5 : 0 ≤ (0 : Int) := (by omega)
    have q5 : 0 < a0.size := (by have : (0 : Int) < (a0.size : Int) := of_decide_eq_true (by first | (with_reducible assumption) | assumption); omega)
    have hx5 : ∀ h : 0 < a0.size, ((a0[0]'h).toNat : Int) = bt a0 0 := ZM a0 0
    clear p5
    have qi5 : (0 < (a0.size : Int)) = True := eq_true (of_decide_eq_true (by first | (with_reducible assumption) | assumption))
    replace q5 := eq_true q5
    go_wp2
    go_meet
    case rel => exact ⟨_, (((bt a0 0) == 45)), (by first | rfl | (simp; done) | (simp [*]; done)), H', ⟨by first | omega | exact Nat.le_refl _⟩, ⟨yQ HB.out⟩⟩
   ·rw [if_neg c4] at H
    exact absurd H (by simp)
 case rest =>
  clear HC2
  try clear p2
  try clear c3
  try clear XV
  try clear zxA
  try clear c4
  try clear JD
  try clear zyy
  try clear p5
  try clear q5
  try clear hx5
  try clear qi5
  try clear p5
  try clear q5
  obtain ⟨kq, zxz, rfl, HA, HJ1, HB⟩ := hcut
  cases kq with
  | zero => exact absurd HA.out (by simp [zI.j0])
  | succ kj1 =>
   have H := HA.out
   clear HA
   simp only [zI.j0] at H
   have HC6 := zk.mk H
   clear H
   go_upto_if 13 with (fail)
   go_cut [5] (fun v5 wc => ∃ (kq : Nat) (Jy : Int), v5 = .int .i64 Jy ∧ zk (zI.j1 kq a0 0 Jy = some (r1, r2)) ∧ zk (kq ≤ kj1) ∧ zk (Below w.heap.size w wc))
   case first =>
    have H := HC6.out
    clear HC6
    by_cases c7 : zxz = true
    ·subst c7
     have H1 : (zI.j1 kj1 a0 0 1) = some (r1, r2) := by rw [if_pos rfl] at H; exact H
     clear H
     have H := H1
     clear H1
     have H' := zk.mk H
     clear H
     go_wp2
     go_meet
     case rel => exact ⟨_, (1), (by first | rfl | (simp; done) | (simp [*]; done)), H', ⟨by have := HJ1.out; first | omega | exact Nat.le_refl _⟩, ⟨yQ HB.out⟩⟩
    ·replace c7 := Bool.eq_false_iff.mpr c7
     subst c7
     have H1 : (zI.j1 kj1 a0 0 0) = some (r1, r2) := by rw [if_neg (show ¬ (false = true) by decide)] at H; exact H
     clear H
     have H := H1
     clear H1
     have H' := zk.mk H
     clear H
     go_wp2
     go_meet
     case rel => exact ⟨_, (0), (by first | rfl | (simp; done) | (simp [*]; done)), H', ⟨by have := HJ1.out; first | omega | exact Nat.le_refl _⟩, ⟨yQ HB.out⟩⟩
   case rest =>
    clear HC6
    try clear p2
    try clear c3
    try clear XV
    try clear zxA
    try clear c4
    try clear JD
    try clear zyy
    try clear p5
    try clear q5
    try clear hx5
    try clear qi5
    try clear c7
    try clear p2
    try clear p5
    try clear q5
    obtain ⟨kq, Jy, rfl, HA, HJ5, HB⟩ := hcut
    cases kq with
    | zero => exact absurd HA.out (by simp [zI.j1])
    | succ kj5 =>
     have H := HA.out
     clear HA
     simp only [zI.j1] at H
     have H' := zk.mk H
     clear H
     go_wp2
     go_loopg [4, 6] kj5 (fun kq v4 v6 w' => ∃ (WU : Int) (yO : Int), v4 = .int .i64 WU ∧ v6 = .int .i64 yO ∧ zk (zI.l0 kq a0 WU Jy yO = some (r1, r2)) ∧ zk (kq ≤ kj5) ∧ zk (Below w.heap.size w w'))
     case atStart => exact ⟨(0), (Jy), (by first | rfl | (simp; done) | (simp [*]; done)), (by first | rfl | (simp; done) | (simp [*]; done)), H', ⟨Nat.le_refl _⟩, ⟨yQ HB.out⟩⟩
     case round =>
      clear H'
      try clear p2
      try clear c3
      try clear XV
      try clear zxA
      try clear c4
      try clear JD
      try clear zyy
      try clear p5
      try clear q5
      try clear hx5
      try clear qi5
      try clear c7
      try clear p2
      try clear p5
      try clear q5
      obtain ⟨WU, yO, rfl, rfl, HA, Wt, HB⟩ := hrel
      cases gk with
      | zero => exact absurd HA.out (by simp [zI.l0])
      | succ k3 =>
       have H := HA.out
       clear HA
       simp only [zI.l0] at H
       by_cases c8 : yO < (a0.size : Int)
       ·rw [if_pos c8] at H
        have KO : decide (yO < (a0.size : Int)) = true := decide_eq_true c8
        clear c8
        by_cases c9 : 0 ≤ yO
        ·rw [if_pos c9] at H
         have zkT : decide (0 ≤ yO) = true := decide_eq_true c9
         clear c9
         by_cases c11 : (bt a0 yO) < 48
         ·rw [if_pos c11] at H
          have Jd : decide ((bt a0 yO) < 48) = true := decide_eq_true c11
          clear c11
          simp only [Option.some.injEq, Prod.mk.injEq] at H
          obtain ⟨rfl, rfl⟩ := H
          have sV : 0 ≤ (yO : Int) := of_decide_eq_true (by first | (with_reducible assumption) | assumption)
          have sK : yO < (a0.size : Int) := of_decide_eq_true (by first | (with_reducible assumption) | assumption)
          have zxu := ZM a0 yO
          replace sV := eq_true sV
          replace sK := eq_true sK
          go_wp2
          go_ret2
          exact ⟨by first | rfl | (simp [yw, yZ] <;> rfl) | (simp [*, yw, yZ] <;> rfl), by repeat (first | (with_reducible first | exact HB.out | apply yS | apply yx | apply yD) | exact HB.out)⟩
         ·rw [if_neg c11] at H
          have Jd : decide ((bt a0 yO) < 48) = false := decide_eq_false c11
          clear c11
          by_cases c13 : (bt a0 yO) > 57
          ·rw [if_pos c13] at H
           have Ws : decide (57 < (bt a0 yO)) = true := decide_eq_true c13
           clear c13
           simp only [Option.some.injEq, Prod.mk.injEq] at H
           obtain ⟨rfl, rfl⟩ := H
           have sV : 0 ≤ (yO : Int) := of_decide_eq_true (by first | (with_reducible assumption) | assumption)
           have sK : yO < (a0.size : Int) := of_decide_eq_true (by first | (with_reducible assumption) | assumption)
           have zxu := ZM a0 yO
           replace sV := eq_true sV
           replace sK := eq_true sK
           have p12 : 0 ≤ (yO : Int) := of_decide_eq_true (by first | (with_reducible assumption) | assumption)
           have q12 : yO < (a0.size : Int) := of_decide_eq_true (by first | (with_reducible assumption) | assumption)
           have zyk := ZM a0 yO
           replace p12 := eq_true p12
           replace q12 := eq_true q12
           go_wp2
           go_ret2
           exact ⟨by first | rfl | (simp [yw, yZ] <;> rfl) | (simp [*, yw, yZ] <;> rfl), by repeat (first | (with_reducible first | exact HB.out | apply yS | apply yx | apply yD) | exact HB.out)⟩
          ·rw [if_neg c13] at H
           have Ws : decide (57 < (bt a0 yO)) = false := decide_eq_false c13
           clear c13
           by_cases c14 : (wrap64 (yO - Jy)) ≥ 9
           ·rw [if_pos c14] at H
            have mR : decide (9 ≤ (wrap64 (yO - Jy))) = true := decide_eq_true c14
            clear c14
            simp only [Option.some.injEq, Prod.mk.injEq] at H
            obtain ⟨rfl, rfl⟩ := H
            have sV : 0 ≤ (yO : Int) := of_decide_eq_true (by first | (with_reducible assumption) | assumption)
            have sK : yO < (a0.size : Int) := of_decide_eq_true (by first | (with_reducible assumption) | assumption)
            have zxu := ZM a0 yO
            replace sV := eq_true sV
            replace sK := eq_true sK
            have p12 : 0 ≤ (yO : Int) := of_decide_eq_true (by first | (with_reducible assumption) | assumption)
            have q12 : yO < (a0.size : Int) := of_decide_eq_true (by first | (with_reducible assumption) | assumption)
            have zyk := ZM a0 yO
            replace p12 := eq_true p12
            replace q12 := eq_true q12
            go_wp2
            go_ret2
            exact ⟨by first | rfl | (simp [yw, yZ] <;> rfl) | (simp [*, yw, yZ] <;> rfl), by repeat (first | (with_reducible first | exact HB.out | apply yS | apply yx | apply yD) | exact HB.out)⟩
           ·rw [if_neg c14] at H
            have mR : decide (9 ≤ (wrap64 (yO - Jy))) = false := decide_eq_false c14
            clear c14
            have H' := zk.mk H
            clear H
            have sV : 0 ≤ (yO : Int) := of_decide_eq_true (by first | (with_reducible assumption) | assumption)
            have sK : yO < (a0.size : Int) := of_decide_eq_true (by first | (with_reducible assumption) | assumption)
            have zxu := ZM a0 yO
            replace sV := eq_true sV
            replace sK := eq_true sK
            have p12 : 0 ≤ (yO : Int) := of_decide_eq_true (by first | (with_reducible assumption) | assumption)
            have q12 : yO < (a0.size : Int) := of_decide_eq_true (by first | (with_reducible assumption) | assumption)
            have zyk := ZM a0 yO
            replace p12 := eq_true p12
            replace q12 := eq_true q12
            have p15 : 0 ≤ (yO : Int) := of_decide_eq_true (by first | (with_reducible assumption) | assumption)
            have q15 : yO < (a0.size : Int) := of_decide_eq_true (by first | (with_reducible assumption) | assumption)
            have zKI := ZM a0 yO
            replace p15 := eq_true p15
            replace q15 := eq_true q15
            go_wp2
            go_roundg k3
            case measure => have := HJ1.out; have := HJ5.out; have := Wt.out; omega
            case rel => exact ⟨(wrap64 ((wrap64 (WU * 10)) + (((bt a0 yO) - 48) % 256))), (wrap64 (yO + 1)), (by first | rfl | (simp; done) | (simp [*]; done)), (by first | rfl | (simp; done) | (simp [*]; done)), H', ⟨by have := HJ1.out; have := HJ5.out; have := Wt.out; omega⟩, ⟨yQ HB.out⟩⟩
        ·rw [if_neg c9] at H
         exact absurd H (by simp)
       ·rw [if_neg c8] at H
        have KO : decide (yO < (a0.size : Int)) = false := decide_eq_false c8
        clear c8
        by_cases c16 : Jy = 1
        ·rw [if_pos c16] at H
         have iq : (Jy == 1) = true := beq_iff_eq.mpr c16
         have iy : (Jy != 1) = false := bne_eq_false_iff_eq.mpr c16
         clear c16
         replace H := Option.bind_eq_some_iff.mp H
         obtain ⟨zyh, zYw, H⟩ := H
         replace H : (some (wrap64 (-WU), (zyh.toList == a0.toList))) = some (r1, r2) := H
         have A17 := zk.mk zYw
         clear zYw
         simp only [Option.some.injEq, Prod.mk.injEq] at H
         obtain ⟨rfl, rfl⟩ := H
         go_wp2_with (first | ((with_reducible refine y7 (f := 114) rfl ?_); refine jP (some 51) Tryz.func114 #[.int .i64 (wrap64 (-WU))] ?_; (with_reducible refine (qG.calls k3 (wrap64 (-WU)) zyh _ A17.out).mono ?_); rintro e w18 ⟨rfl, hb⟩; refine ⟨_, rfl, ?_⟩; have zl := zk.mk (yg (yQ HB.out) hb); clear HB; have HB := zl; clear zl; (try clear hb); (try clear hb2); (try clear hk); (try clear hi)))
         go_ret2
         exact ⟨by first | rfl | (simp [yw, yZ] <;> rfl) | (simp [*, yw, yZ] <;> rfl), by repeat (first | (with_reducible first | exact HB.out | apply yS | apply yx | apply yD) | exact HB.out)⟩
        ·rw [if_neg c16] at H
         have iq : (Jy == 1) = false := beq_eq_false_iff_ne.mpr c16
         have iy : (Jy != 1) = true := bne_iff_ne.mpr c16
         replace H := Option.bind_eq_some_iff.mp H
         obtain ⟨zyi, zYZ, H⟩ := H
         replace H : (some (WU, (zyi.toList == a0.toList))) = some (r1, r2) := H
         have A19 := zk.mk zYZ
         clear zYZ
         simp only [Option.some.injEq, Prod.mk.injEq] at H
         obtain ⟨rfl, rfl⟩ := H
         go_wp2_with (first | ((with_reducible refine y7 (f := 114) rfl ?_); refine jP (some 51) Tryz.func114 #[.int .i64 WU] ?_; (with_reducible refine (qG.calls k3 WU zyi _ A19.out).mono ?_); rintro e w20 ⟨rfl, hb⟩; refine ⟨_, rfl, ?_⟩; have zl := zk.mk (yg (yQ HB.out) hb); clear HB; have HB := zl; clear zl; (try clear hb); (try clear hb2); (try clear hk); (try clear hi)))
         go_ret2
         exact ⟨by first | rfl | (simp [yw, yZ] <;> rfl) | (simp [*, yw, yZ] <;> rfl), by repeat (first | (with_reducible first | exact HB.out | apply yS | apply yx | apply yD) | exact HB.out)⟩
end Go.Proofs.YtaifemkokfoadaaGreatDoor.PX
namespace Go.Proofs.YtaifemkokfoadaaGreatDoor
open Go.RowKit Go.Proofs.zy.zK Go.Proofs.zy.yV Go.Proofs.YtaifemkokfoadaaGreatDoor.PX
def Zm (b : UInt8) : List UInt8 → List (List UInt8)
 | [] => [[]]
 | c :: r => if c = b then [] :: Zm b r else (c :: (Zm b r).headD []) :: (Zm b r).tail
def WA (p : List UInt8) (S : List (List UInt8)) : List (List UInt8) := (p ++ S.headD []) :: S.tail
theorem zqY (b : UInt8) (l : List UInt8) : Zm b l ≠ [] := by
 cases l with
 | nil => simp [Zm]
 | cons c r => unfold Zm; split <;> simp
theorem zqO {S : List (List UInt8)} (h : S ≠ []) : WA [] S = S := by
 cases S with
 | nil => exact (h rfl).elim
 | cons a r => rfl
theorem zv0 (b : UInt8) (r : List UInt8) : Zm b (b :: r) = [] :: Zm b r := by simp [Zm]
theorem zjx (b c : UInt8) (r : List UInt8) (h : c ≠ b) : Zm b (c :: r) = WA [c] (Zm b r) := by simp [Zm, h, WA]
theorem zjj (b : UInt8) (l : List UInt8) : (Zm b l).length ≤ l.length + 1 := by
 induction l with
 | nil => simp [Zm]
 | cons c r ih => unfold Zm; split <;> simp <;> omega
theorem zjv (b : UInt8) (l : List UInt8) : ∀ p ∈ Zm b l, p.length ≤ l.length := by
 induction l with
 | nil => intro p h; simp [Zm] at h; simp [h]
 | cons c r ih =>
  intro p h
  by_cases hc : c = b
  ·subst hc
   rw [zv0] at h
   rcases List.mem_cons.1 h with rfl | h
   ·simp
   ·have := ih p h; simp; omega
  ·rw [zjx b c r hc] at h
   have hne := zqY b r
   generalize Zm b r = S at h ih hne
   cases S with
   | nil => exact (hne rfl).elim
   | cons a S =>
    simp [WA] at h
    rcases h with rfl | h
    ·have := ih a (by simp); simp; omega
    ·have := ih p (by simp [h]); simp; omega
theorem zbb (s : List UInt8) (b : UInt8) (hs : s.length ≤ 1000000) : ∀ (d i fr : Nat) (acc : List ByteArray), i + d = s.length → fr ≤ i → acc.length ≤ i →
  Ev (fun k => qF.l0 k (bar s) (b.toNat : Int) acc (fr : Int) (i : Int)) (acc ++ (WA ((s.take i).drop fr) (Zm b (s.drop i))).map bar) := by
 intro d
 induction d with
 | zero =>
  intro i fr acc h hf ha
  obtain rfl : i = s.length := by omega
  have h1 : ¬ ((s.length : Int) < ((bar s).size : Int)) := by rw [uq]; omega
  have h2 : (0 : Int) ≤ (fr : Int) := by omega
  have h3 : (fr : Int) ≤ ((bar s).size : Int) := by rw [uq]; omega
  have h4 : acc.length < 8796093022208 := by omega
  refine Ev.step (fun k => by rw [qF.l0]) (xA h1 (yJ h2 (yJ h3 (yJ h4 ?_))))
  rw [uq, Int.toNat_natCast, iW, List.drop_length]
  simp only [Zm, WA, List.headD_cons, List.append_nil, List.tail_cons, List.map_cons, List.map_nil]
  exact Ev.now _
 | succ d ih =>
  intro i fr acc h hf ha
  have hi : i < s.length := by omega
  have h1 : (i : Int) < ((bar s).size : Int) := by rw [uq]; omega
  have h2 : (0 : Int) ≤ (i : Int) := by omega
  have h3 : (0 : Int) ≤ (fr : Int) := by omega
  have h4 : (fr : Int) ≤ (i : Int) := by omega
  have h5 : (i : Int) ≤ ((bar s).size : Int) := by omega
  have h6 : acc.length < 8796093022208 := by omega
  have e1 : wrap64 ((i : Int) + 1) = ((i + 1 : Nat) : Int) := by rw [XR (by omega) (by omega)]; rfl
  have hd : s.drop i = s[i] :: s.drop (i + 1) := List.drop_eq_getElem_cons hi
  have i1 : i + 1 + d = s.length := by omega
  by_cases hb : s[i] = b
  ·have k1 := ih (i + 1) (i + 1) (acc ++ [bar ((s.take i).drop fr)]) i1 (Nat.le_refl _) (by simp; omega)
   rw [show (s.take (i + 1)).drop (i + 1) = [] from List.drop_eq_nil_of_le (by rw [List.length_take]; omega), zqO (zqY _ _)] at k1
   have hbt : ((s[i]).toNat : Int) = (b.toNat : Int) := by rw [hb]
   refine Ev.step (fun k => by rw [qF.l0]) ?_
   rw [Xf s i hi, e1, Int.toNat_natCast, Int.toNat_natCast, iW]
   refine yJ h1 (yJ h2 (yJ hbt (yJ h3 (yJ h4 (yJ h5 (yJ h6 ?_))))))
   rw [hd, hb, zv0]
   rw [List.append_assoc] at k1
   simpa [WA] using k1
  ·have k1 := ih (i + 1) fr acc i1 (by omega) (by omega)
   have hbt : ¬ ((s[i]).toNat : Int) = (b.toNat : Int) := fun e => hb (UInt8.toNat_inj.1 (by omega))
   refine Ev.step (fun k => by rw [qF.l0]) ?_
   rw [Xf s i hi, e1]
   refine yJ h1 (yJ h2 (xA hbt ?_))
   rw [hd, zjx b _ _ hb]
   have e2 : (s.take (i + 1)).drop fr = (s.take i).drop fr ++ [s[i]] := by
    rw [List.take_succ_eq_append_getElem hi, List.drop_append_of_le_length (by simp; omega)]
   rw [e2] at k1
   simpa [WA] using k1
theorem zYQ (s : List UInt8) (b : UInt8) (hs : s.length ≤ 1000000) : Ev (fun k => qF.f k (bar s) (b.toNat : Int)) ((Zm b s).map bar) := by
 have := zbb s b hs s.length 0 0 [] (by omega) (Nat.le_refl _) (Nat.le_refl _)
 simp only [List.take_zero, List.drop_nil, List.nil_append, List.drop_zero, zqO (zqY _ _)] at this
 exact this
def wl : List UInt8 → Nat → Int → Option Int
 | [], _, n => some n
 | c :: r, j, n => if c.toNat < 48 ∨ 57 < c.toNat ∨ 9 ≤ j then none else wl r (j + 1) (n * 10 + ((c.toNat : Int) - 48))
theorem zVo (c : UInt8) (r : List UInt8) (j : Nat) (n : Int) : wl (c :: r) j n = if c.toNat < 48 ∨ 57 < c.toNat ∨ 9 ≤ j then none else wl r (j + 1) (n * 10 + ((c.toNat : Int) - 48)) := rfl
def uO (s : List UInt8) : Int × Bool :=
 if s.head? = some 45 then
  match wl s.tail 0 0 with
  | none => (0, false)
  | some m => (-m, Lib.itoa (-m) == s)
 else
  match wl s 0 0 with
  | none => (0, false)
  | some m => (m, Lib.itoa m == s)
theorem zYX {k : Nat} (h : k ≤ 9) : (10 : Int) ^ k ≤ 1000000000 := by
 match k, h with
 | 0, _ => decide
 | 1, _ => decide
 | 2, _ => decide
 | 3, _ => decide
 | 4, _ => decide
 | 5, _ => decide
 | 6, _ => decide
 | 7, _ => decide
 | 8, _ => decide
 | 9, _ => decide
 | k + 10, h => omega
theorem zqW (s : List UInt8) (at_ : Nat) (hat : at_ ≤ 1) : ∀ (d i : Nat) (n : Int), i + d = s.length → at_ ≤ i → i ≤ at_ + 9 → 0 ≤ n → n < 10 ^ (i - at_) →
  Ev (fun k => zI.l0 k (bar s) n (at_ : Int) (i : Int)) (match wl (s.drop i) (i - at_) n with
   | none => (0, false)
   | some m => if at_ = 1 then (-m, Lib.itoa (-m) == s) else (m, Lib.itoa m == s)) := by
 intro d
 induction d with
 | zero =>
  intro i n h hi h9 h0 h1
  obtain rfl : i = s.length := by omega
  have hp : (10 : Int) ^ (s.length - at_) ≤ 1000000000 := zYX (by omega)
  have k1 : ¬ ((s.length : Int) < ((bar s).size : Int)) := by rw [uq]; omega
  have e1 : wrap64 (-n) = -n := XR (by omega) (by omega)
  have g1 := sJ n (by omega) (by omega)
  have g2 := sJ (-n) (by omega) (by omega)
  have hw : wl (s.drop s.length) (s.length - at_) n = some n := by rw [List.drop_length]; rfl
  rw [hw]
  clear hw
  by_cases ha : at_ = 1
  ·have k2 : (at_ : Int) = 1 := by omega
   have hm : (match some n with | none => ((0 : Int), false) | some m => if at_ = 1 then (-m, Lib.itoa (-m) == s) else (m, Lib.itoa m == s)) = (-n, Lib.itoa (-n) == s) := by simp only; rw [if_pos ha]
   rw [hm]
   clear hm hp h1
   refine Ev.step (fun k => by rw [zI.l0]) (xA k1 ?_)
   rw [e1]
   refine yJ k2 (Ev.bind g2 ?_)
   rw [Xe, Xe]
   exact Ev.now _
  ·have k2 : ¬ (at_ : Int) = 1 := by omega
   have hm : (match some n with | none => ((0 : Int), false) | some m => if at_ = 1 then (-m, Lib.itoa (-m) == s) else (m, Lib.itoa m == s)) = (n, Lib.itoa n == s) := by simp only; rw [if_neg ha]
   rw [hm]
   clear hm hp h1
   refine Ev.step (fun k => by rw [zI.l0]) (xA k1 ?_)
   refine xA k2 (Ev.bind g1 ?_)
   rw [Xe, Xe]
   exact Ev.now _
 | succ d ih =>
  intro i n h hi h9 h0 h1
  have hi2 : i < s.length := by omega
  have hb := (s[i]).toNat_lt
  have hpw : ∀ x : Int, x < (10 : Int) ^ (i - at_) * 10 → x < (10 : Int) ^ (i + 1 - at_) := fun x hx => by
   have e : i + 1 - at_ = (i - at_) + 1 := by omega
   rw [e, Int.pow_succ]
   exact hx
  have hp : (10 : Int) ^ (i - at_) ≤ 1000000000 := zYX (by omega)
  generalize (10 : Int) ^ (i - at_) = B at h1 hp hpw
  have k1 : (i : Int) < ((bar s).size : Int) := by rw [uq]; omega
  have k2 : (0 : Int) ≤ (i : Int) := by omega
  have E1 := Lib.hid (show wrap64 ((i : Int) - (at_ : Int)) = ((i - at_ : Nat) : Int) from by rw [XR (by omega) (by omega)]; omega)
  have E2 := Lib.hid (show wrap64 ((i : Int) + 1) = ((i + 1 : Nat) : Int) from by rw [XR (by omega) (by omega)]; rfl)
  have E3 := Lib.hid (show wrap64 ((wrap64 (n * 10)) + (((s[i].toNat : Int) - 48) % 256)) = n * 10 + ((s[i].toNat : Int) - 48) % 256 from by rw [XR (x := n * 10) (by omega) (by omega), XR (by omega) (by omega)])
  have hd : s.drop i = s[i] :: s.drop (i + 1) := List.drop_eq_getElem_cons hi2
  have k4 : (48 : Int) ≤ s[i].toNat → (s[i].toNat : Int) ≤ 57 → ((s[i].toNat : Int) - 48) % 256 = (s[i].toNat : Int) - 48 := fun _ _ => by omega
  have i1 : i + 1 + d = s.length := by omega
  have i2 : i + 1 - at_ = i - at_ + 1 := by omega
  have sW := zVo s[i] (s.drop (i + 1)) (i - at_) n
  rw [hd]
  by_cases a1 : (s[i].toNat : Int) < 48
  ·have hw : wl (s[i] :: s.drop (i + 1)) (i - at_) n = none := by rw [sW, if_pos (.inl (by omega))]
   rw [hw]
   clear hw sW ih hpw hp h1 k4 hd
   refine Ev.step (fun k => by rw [zI.l0]) ?_
   rw [Xf s i hi2]
   exact yJ k1 (yJ k2 (yJ a1 (Ev.now _)))
  ·by_cases a2 : (s[i].toNat : Int) > 57
   ·have hw : wl (s[i] :: s.drop (i + 1)) (i - at_) n = none := by rw [sW, if_pos (.inr (.inl (by omega)))]
    rw [hw]
    clear hw sW ih hpw hp h1 k4 hd
    refine Ev.step (fun k => by rw [zI.l0]) ?_
    rw [Xf s i hi2]
    exact yJ k1 (yJ k2 (xA a1 (yJ a2 (Ev.now _))))
   ·by_cases a3 : ((i - at_ : Nat) : Int) ≥ 9
    ·have hw : wl (s[i] :: s.drop (i + 1)) (i - at_) n = none := by rw [sW, if_pos (.inr (.inr (by omega)))]
     rw [hw]
     clear hw sW ih hpw hp h1 k4 hd
     refine Ev.step (fun k => by rw [zI.l0]) ?_
     rw [Xf s i hi2, E1.out]
     exact yJ k1 (yJ k2 (xA a1 (xA a2 (yJ a3 (Ev.now _)))))
    ·have hw : wl (s[i] :: s.drop (i + 1)) (i - at_) n = wl (s.drop (i + 1)) (i + 1 - at_) (n * 10 + ((s[i].toNat : Int) - 48)) := by rw [sW, if_neg (by omega), i2]
     have e4 := k4 (by omega) (by omega)
     have b1 : 0 ≤ n * 10 + ((s[i].toNat : Int) - 48) := by omega
     have b2 : n * 10 + ((s[i].toNat : Int) - 48) < 10 ^ (i + 1 - at_) := hpw _ (by omega)
     have H := ih (i + 1) _ i1 (by omega) (by omega) b1 b2
     rw [hw]
     have e6 : n * 10 + ((s[i].toNat : Int) - 48) % 256 = n * 10 + ((s[i].toNat : Int) - 48) := by rw [e4]
     have e5 := E3.out
     rw [e6] at e5
     clear hw sW ih hpw hp h1 k4 hd e4 b1 b2
     refine Ev.step (fun k => by rw [zI.l0]) ?_
     rw [Xf s i hi2, E1.out, E2.out, e5]
     exact yJ k1 (yJ k2 (xA a1 (xA a2 (xA a3 H))))
theorem zQJ (s : List UInt8) : Ev (fun k => zI.f k (bar s)) (uO s) := by
 unfold zI.f uO
 rw [Xe, uq]
 cases s with
 | nil =>
  refine yJ rfl (Ev.step (fun k => by rw [zI.j0]) (xA (by simp) (Ev.step (fun k => by rw [zI.j1]) ?_)))
  exact zqW [] 0 (by omega) 0 0 0 rfl (Nat.le_refl _) (by omega) (by omega) (by decide)
 | cons c r =>
  have k1 : (0 : Int) < ((c :: r).length : Int) := by rw [List.length_cons]; omega
  have hbt : bt (bar (c :: r)) 0 = (c.toNat : Int) := Xf (c :: r) 0 (by simp)
  refine xA (by simp) (yJ k1 (Ev.step (fun k => by rw [zI.j0]) ?_))
  rw [hbt]
  by_cases hc : c = 45
  ·subst hc
   refine yJ (by decide) (Ev.step (fun k => by rw [zI.j1]) ?_)
   have := zqW (45 :: r) 1 (by omega) r.length 1 0 (by simp; omega) (Nat.le_refl _) (by omega) (by omega) (by decide)
   simpa using this
  ·have k2 : ¬ ((c.toNat : Int) == 45) = true := by
    simp only [beq_iff_eq]
    intro e
    exact hc (UInt8.toNat_inj.1 (show c.toNat = (45 : UInt8).toNat from by have : (45 : UInt8).toNat = 45 := rfl; omega))
   refine xA k2 (Ev.step (fun k => by rw [zI.j1]) ?_)
   have := zqW (c :: r) 0 (by omega) (c :: r).length 0 0 (by simp) (Nat.le_refl _) (by omega) (by omega) (by decide)
   simpa [hc] using this
theorem Vn (b : UInt8) : ∀ s : List UInt8, Zm b s = uE b s
 | [] => rfl
 | c :: r => by
  unfold Zm uE
  rw [Vn b r]
  split
  ·rfl
  ·cases h : uE b r with
   | nil => exact absurd h (eU b r)
   | cons p ps => rfl
theorem zqa (s : ByteArray) (b : UInt8) (hs : s.size ≤ 1000000) : Ev (fun k => qF.f k s (b.toNat : Int)) ((uE b s.data.toList).map bar) := by
 have h := zYQ s.data.toList b (by rw [Array.length_toList]; exact hs)
 rwa [XJ, Vn] at h
theorem su (x : ByteArray) : Ev (fun k => zI.f k x) (uO x.data.toList) := by
 have h := zQJ x.data.toList
 rwa [XJ] at h
end Go.Proofs.YtaifemkokfoadaaGreatDoor
namespace Go.Proofs.YtaifemkokfoadaaGreatDoor
open Go.RowKit Go.Proofs.zy.zK Go.Proofs.YtaifemkokfoadaaGreatDoor.PX
set_option linter.unusedSimpArgs false
set_option linter.unusedVariables false
theorem mU (l : List UInt8) : (bar l).data.toList = l := rfl
theorem zVp {ws : List ByteArray} {L : List (List UInt8)} (h : ws.map (·.data.toList) = L) : ws = L.map bar := by
 subst h
 rw [List.map_map]
 exact (List.map_id _).symm
def wh (t : ByteArray) : List ByteArray := Lib.splitB ⟨#[32]⟩ 0 (Lib.countB t ⟨#[32]⟩) t
def wE (line : ByteArray) : ByteArray := bar (Lib.trimSuffix line.data.toList [10])
theorem sD (t : ByteArray) : wh t = (uE 32 t.data.toList).map bar := by
 refine zVp ?_
 unfold wh
 rw [Lib.splitB_data]
 refine iG 32 _ _ ?_
 show _ ≤ Lib.count t.data.toList [32]
 rw [Lib.count_one]; exact Nat.le_refl _
theorem zQV (t : List UInt8) : wh (wE (bar (t ++ [10]))) = (uE 32 t).map bar := by
 rw [sD]
 unfold wE
 rw [mU, mU, zVn]
structure vI where
 a : ByteArray
 b : Bool
 c : Int
 l3 : List qB
 l4 : List xC
 l5 : List xS
def vI.zero : vI := ⟨⟨#[]⟩, false, 0, [], [], []⟩
def uR (f : vI) : List ByteArray → Bool × vI
 | w0 :: w1 :: ws =>
  if w0 = ⟨#[102, 111, 110, 116]⟩ ∧ ws.length ≤ 1 then (true, { f with a := w1, b := decide (ws.length = 1) })
  else if w0 = ⟨#[115, 112, 97, 99, 101]⟩ then ((kG w1).2, { f with c := (kG w1).1 })
  else if w0 = ⟨#[103]⟩ ∧ ws.length = 1 then ((kG (ws.getD 0 ⟨#[]⟩)).2, { f with l3 := f.l3 ++ [⟨w1, (kG (ws.getD 0 ⟨#[]⟩)).1⟩] })
  else if w0 = ⟨#[108]⟩ ∧ ws.length = 2 then (true, { f with l4 := f.l4 ++ [⟨w1, ws.getD 0 ⟨#[]⟩, ws.getD 1 ⟨#[]⟩⟩] })
  else if w0 = ⟨#[107]⟩ ∧ ws.length = 2 then ((kG (ws.getD 1 ⟨#[]⟩)).2, { f with l5 := f.l5 ++ [⟨w1, ws.getD 0 ⟨#[]⟩, (kG (ws.getD 1 ⟨#[]⟩)).1⟩] })
  else (false, f)
 | _ => (false, f)
def wX (f : vI) (line : ByteArray) : Option vI :=
 if (wh (wE line)).length < 2 ∨ 400 < f.l3.length ∨ 50 < f.l4.length ∨ 500 < f.l5.length then none
 else if (uR f (wh (wE line))).1 = true then some (uR f (wh (wE line))).2 else none
def uS : vI → List ByteArray → Option vI
 | f, [] => some f
 | f, x :: xs => (wX f x).bind fun g => uS g xs
theorem Qc : ∀ (xs ys : List ByteArray) (f : vI), uS f (xs ++ ys) = (uS f xs).bind fun g => uS g ys
 | [], _, _ => rfl
 | x :: xs, ys, f => by
  simp only [List.cons_append, uS]
  cases wX f x with
  | none => rfl
  | some g => exact Qc xs ys g
def zXI : List Int := (List.range 3501).map fun (n : Nat) => (n : Int) - 500
def zw5 (n : Int) : Bool := decide ((Lib.itoa n).length ≤ 6) && ((Lib.itoa n).all (fun b => b != 32 && b != 10) && (mq (Lib.itoa n) && av (Lib.itoa n) == n))
set_option maxRecDepth 100000 in
theorem zQK : zXI.all zw5 = true := by kernel_rfl
theorem gQ (n : Int) (h0 : -500 ≤ n) (h1 : n ≤ 3000) : (Lib.itoa n).length ≤ 6 ∧ (∀ x ∈ Lib.itoa n, x ≠ 32 ∧ x ≠ 10) ∧ mq (Lib.itoa n) = true ∧ av (Lib.itoa n) = n := by
 have h := List.all_eq_true.1 zQK n (List.mem_map.2 ⟨(n + 500).toNat, List.mem_range.2 (by omega), by omega⟩)
 unfold zw5 at h
 simp only [Bool.and_eq_true, decide_eq_true_eq, List.all_eq_true, bne_iff_ne, ne_eq, beq_iff_eq] at h
 exact ⟨h.1, h.2.1, h.2.2.1, h.2.2.2⟩
theorem sF (n : Int) (h0 : -500 ≤ n) (h1 : n ≤ 3000) : kG (bar (Lib.itoa n)) = (n, true) := by
 obtain ⟨a, _, b, c⟩ := gQ n h0 h1
 unfold kG
 rw [if_neg (by rw [show (bar (Lib.itoa n)).size = (Lib.itoa n).length by simp [bar, ByteArray.size]]; omega), mU, b, c]
def PlainT (l : List UInt8) : Prop := ∀ x ∈ l, x ≠ 32 ∧ x ≠ 10
theorem zjk (w0 w1 w2 : List UInt8) (h0 : PlainT w0) (h1 : PlainT w1) (h2 : PlainT w2) : uE 32 (w0 ++ 32 :: (w1 ++ 32 :: w2)) = [w0, w1, w2] := by
 rw [YL _ _ _ (fun x hx => (h0 x hx).1), YL _ _ _ (fun x hx => (h1 x hx).1), Wj _ _ (fun x hx => (h2 x hx).1)]
theorem zyl (w0 w1 : List UInt8) (h0 : PlainT w0) (h1 : PlainT w1) : uE 32 (w0 ++ 32 :: w1) = [w0, w1] := by
 rw [YL _ _ _ (fun x hx => (h0 x hx).1), Wj _ _ (fun x hx => (h1 x hx).1)]
theorem zym (w0 w1 w2 w3 : List UInt8) (h0 : PlainT w0) (h1 : PlainT w1) (h2 : PlainT w2) (h3 : PlainT w3) : uE 32 (w0 ++ 32 :: (w1 ++ 32 :: (w2 ++ 32 :: w3))) = [w0, w1, w2, w3] := by
 rw [YL _ _ _ (fun x hx => (h0 x hx).1), zjk _ _ _ h1 h2 h3]
theorem Wv {l : List UInt8} (h : PlainT l) : ∀ x ∈ l, x ≠ 10 := fun x hx => (h x hx).2
theorem Zn {a b : List UInt8} (h : ∀ x ∈ a, x ≠ (10 : UInt8)) (k : ∀ x ∈ b, x ≠ (10 : UInt8)) : ∀ x ∈ a ++ 32 :: b, x ≠ (10 : UInt8) := fun x hx => by
 rcases List.mem_append.1 hx with q | q
 ·exact h x q
 ·rcases List.mem_cons.1 q with rfl | q
  ·decide
  ·exact k x q
def zzb (f : vI) : Prop := f.l3.length ≤ 400 ∧ f.l4.length ≤ 50 ∧ f.l5.length ≤ 500
theorem Vo (f g : vI) (t : List UInt8) (ws : List ByteArray) (hr : zzb f) (hw : (uE 32 t).map bar = ws) (h2 : 2 ≤ ws.length) (hg : uR f ws = (true, g)) : wX f (bar (t ++ [10])) = some g := by
 obtain ⟨r1, r2, r3⟩ := hr
 unfold wX
 rw [zQV, hw, if_neg (by omega), hg, if_pos rfl]
def Z8 (x : qB) : List UInt8 := [103] ++ 32 :: (x.f0.data.toList ++ 32 :: Lib.itoa x.f1)
def YC (x : xC) : List UInt8 := [108] ++ 32 :: (x.f0.data.toList ++ 32 :: (x.f1.data.toList ++ 32 :: x.f2.data.toList))
def YD (x : xS) : List UInt8 := [107] ++ 32 :: (x.f0.data.toList ++ 32 :: (x.f1.data.toList ++ 32 :: Lib.itoa x.f2))
theorem gX (c : UInt8) (h : c ≠ 32 ∧ c ≠ 10) : PlainT [c] := fun x hx => by rw [List.mem_singleton.1 hx]; exact h
theorem Z9 (n : Int) (h0 : -500 ≤ n) (h1 : n ≤ 3000) : PlainT (Lib.itoa n) := (gQ n h0 h1).2.1
theorem goG (f : vI) (x : qB) (hr : zzb f) (hn : PlainT x.f0.data.toList) (h0 : 0 ≤ x.f1) (h1 : x.f1 ≤ 3000) : wX f (bar (Z8 x ++ [10])) = some { f with l3 := f.l3 ++ [x] } := by
 refine Vo f _ (Z8 x) [⟨#[103]⟩, x.f0, bar (Lib.itoa x.f1)] hr ?_ (by simp) ?_
 ·unfold Z8
  rw [zjk _ _ _ (gX 103 (by decide)) hn (Z9 _ (by omega) h1)]; rfl
 ·rw [uR]
  rw [if_neg (by intro h; exact absurd h.1 (by decide)), if_neg (by decide), if_pos (by refine ⟨rfl, rfl⟩)]
  rw [show ([bar (Lib.itoa x.f1)] : List ByteArray).getD 0 ⟨#[]⟩ = bar (Lib.itoa x.f1) from rfl, sF _ (by omega) h1]
theorem goL (f : vI) (x : xC) (hr : zzb f) (h0 : PlainT x.f0.data.toList) (h1 : PlainT x.f1.data.toList) (h2 : PlainT x.f2.data.toList) : wX f (bar (YC x ++ [10])) = some { f with l4 := f.l4 ++ [x] } := by
 refine Vo f _ (YC x) [⟨#[108]⟩, x.f0, x.f1, x.f2] hr ?_ (by simp) ?_
 ·unfold YC
  rw [zym _ _ _ _ (gX 108 (by decide)) h0 h1 h2]; rfl
 ·rw [uR]
  rw [if_neg (by intro h; exact absurd h.1 (by decide)), if_neg (by decide), if_neg (by intro h; exact absurd h.1 (by decide)), if_pos (by refine ⟨rfl, rfl⟩)]
  rfl
theorem goK (f : vI) (x : xS) (hr : zzb f) (h0 : PlainT x.f0.data.toList) (h1 : PlainT x.f1.data.toList) (h2 : -500 ≤ x.f2) (h3 : x.f2 ≤ 500) : wX f (bar (YD x ++ [10])) = some { f with l5 := f.l5 ++ [x] } := by
 refine Vo f _ (YD x) [⟨#[107]⟩, x.f0, x.f1, bar (Lib.itoa x.f2)] hr ?_ (by simp) ?_
 ·unfold YD
  rw [zym _ _ _ _ (gX 107 (by decide)) h0 h1 (Z9 _ h2 (by omega))]; rfl
 ·rw [uR]
  rw [if_neg (by intro h; exact absurd h.1 (by decide)), if_neg (by decide), if_neg (by intro h; exact absurd h.1 (by decide)), if_neg (by intro h; exact absurd h.1 (by decide)), if_pos (by refine ⟨rfl, rfl⟩)]
  rw [show ([x.f1, bar (Lib.itoa x.f2)] : List ByteArray).getD 1 ⟨#[]⟩ = bar (Lib.itoa x.f2) from rfl, sF _ h2 (by omega)]
  rfl
theorem zYJ : ∀ (l : List qB) (f : vI), f.l3.length + l.length ≤ 400 → f.l4.length ≤ 50 → f.l5.length ≤ 500 → (∀ x ∈ l, PlainT x.f0.data.toList ∧ 0 ≤ x.f1 ∧ x.f1 ≤ 3000) →
  uS f (l.map fun x => bar (Z8 x ++ [10])) = some { f with l3 := f.l3 ++ l }
 | [], f, _, _, _, _ => by simp [uS]
 | x :: l, f, h3, h4, h5, hx => by
  obtain ⟨p, q, r⟩ := hx x (List.mem_cons_self ..)
  rw [List.length_cons] at h3
  have ih := zYJ l { f with l3 := f.l3 ++ [x] } (by simp; omega) h4 h5 (fun y hy => hx y (List.mem_cons_of_mem _ hy))
  rw [List.map_cons, uS, goG f x ⟨by omega, h4, h5⟩ p q r, Option.bind_some, ih]
  simp
theorem zYV : ∀ (l : List xC) (f : vI), f.l3.length ≤ 400 → f.l4.length + l.length ≤ 50 → f.l5.length ≤ 500 → (∀ x ∈ l, PlainT x.f0.data.toList ∧ PlainT x.f1.data.toList ∧ PlainT x.f2.data.toList) →
  uS f (l.map fun x => bar (YC x ++ [10])) = some { f with l4 := f.l4 ++ l }
 | [], f, _, _, _, _ => by simp [uS]
 | x :: l, f, h3, h4, h5, hx => by
  obtain ⟨p, q, r⟩ := hx x (List.mem_cons_self ..)
  rw [List.length_cons] at h4
  have ih := zYV l { f with l4 := f.l4 ++ [x] } h3 (by simp; omega) h5 (fun y hy => hx y (List.mem_cons_of_mem _ hy))
  rw [List.map_cons, uS, goL f x ⟨h3, by omega, h5⟩ p q r, Option.bind_some, ih]
  simp
theorem zYK : ∀ (l : List xS) (f : vI), f.l3.length ≤ 400 → f.l4.length ≤ 50 → f.l5.length + l.length ≤ 500 → (∀ x ∈ l, PlainT x.f0.data.toList ∧ PlainT x.f1.data.toList ∧ -500 ≤ x.f2 ∧ x.f2 ≤ 500) →
  uS f (l.map fun x => bar (YD x ++ [10])) = some { f with l5 := f.l5 ++ l }
 | [], f, _, _, _, _ => by simp [uS]
 | x :: l, f, h3, h4, h5, hx => by
  obtain ⟨p, q, r, s⟩ := hx x (List.mem_cons_self ..)
  rw [List.length_cons] at h5
  have ih := zYK l { f with l5 := f.l5 ++ [x] } h3 h4 (by simp; omega) (fun y hy => hx y (List.mem_cons_of_mem _ hy))
  rw [List.map_cons, uS, goK f x ⟨h3, h4, by omega⟩ p q r s, Option.bind_some, ih]
  simp
def YX (a : ByteArray) (b : Bool) : List UInt8 := [102, 111, 110, 116] ++ 32 :: (a.data.toList ++ (if b = true then 32 :: [115, 112, 101, 99, 105, 97, 108] else []))
def XU (c : Int) : List UInt8 := [115, 112, 97, 99, 101] ++ 32 :: Lib.itoa c
theorem goH (a : ByteArray) (b : Bool) (ha : PlainT a.data.toList) : wX vI.zero (bar (YX a b ++ [10])) = some { vI.zero with a := a, b := b } := by
 have p1 : PlainT [102, 111, 110, 116] := by unfold PlainT; decide
 have p2 : PlainT [115, 112, 101, 99, 105, 97, 108] := by unfold PlainT; decide
 cases b with
 | true =>
  refine Vo _ _ (YX a true) [⟨#[102, 111, 110, 116]⟩, a, ⟨#[115, 112, 101, 99, 105, 97, 108]⟩] ⟨by decide, by decide, by decide⟩ ?_ (by simp) ?_
  ·unfold YX
   rw [if_pos rfl, zjk _ _ _ p1 ha p2]; rfl
  ·rw [uR]
   rw [if_pos (by refine ⟨rfl, ?_⟩; simp)]; rfl
 | false =>
  refine Vo _ _ (YX a false) [⟨#[102, 111, 110, 116]⟩, a] ⟨by decide, by decide, by decide⟩ ?_ (by simp) ?_
  ·unfold YX
   rw [if_neg (by decide), List.append_nil, zyl _ _ p1 ha]; rfl
  ·rw [uR]
   rw [if_pos (by refine ⟨rfl, ?_⟩; simp)]; rfl
theorem goS (f : vI) (c : Int) (hr : zzb f) (h0 : 0 ≤ c) (h1 : c ≤ 3000) : wX f (bar (XU c ++ [10])) = some { f with c := c } := by
 have p1 : PlainT [115, 112, 97, 99, 101] := by unfold PlainT; decide
 refine Vo f _ (XU c) [⟨#[115, 112, 97, 99, 101]⟩, bar (Lib.itoa c)] hr ?_ (by simp) ?_
 ·unfold XU
  rw [zyl _ _ p1 (Z9 _ (by omega) h1)]; rfl
 ·rw [uR]
  rw [if_neg (by intro h; exact absurd h.1 (by decide)), if_pos rfl, sF _ (by omega) h1]
def WB (f : vI) : List UInt8 := (YX f.a f.b ++ [10]) ++ ((XU f.c ++ [10]) ++ ((f.l3.map fun x => Z8 x ++ [10]).flatten ++ ((f.l4.map fun x => YC x ++ [10]).flatten ++ (f.l5.map fun x => YD x ++ [10]).flatten)))
structure zzc (f : vI) : Prop where
 na : PlainT f.a.data.toList
 nc : 0 ≤ f.c ∧ f.c ≤ 3000
 n3 : f.l3.length ≤ 400
 n4 : f.l4.length ≤ 50
 n5 : f.l5.length ≤ 500
 g : ∀ x ∈ f.l3, PlainT x.f0.data.toList ∧ 0 ≤ x.f1 ∧ x.f1 ≤ 3000
 l : ∀ x ∈ f.l4, PlainT x.f0.data.toList ∧ PlainT x.f1.data.toList ∧ PlainT x.f2.data.toList
 k : ∀ x ∈ f.l5, PlainT x.f0.data.toList ∧ PlainT x.f1.data.toList ∧ -500 ≤ x.f2 ∧ x.f2 ≤ 500
theorem zXL (a : ByteArray) (b : Bool) (ha : PlainT a.data.toList) : ∀ x ∈ YX a b, x ≠ 10 := by
 unfold YX
 refine Zn (by decide) ?_
 cases b with
 | true => rw [if_pos rfl]; exact Zn (Wv ha) (by decide)
 | false => rw [if_neg (by decide), List.append_nil]; exact Wv ha
theorem zXM (c : Int) (h0 : 0 ≤ c) (h1 : c ≤ 3000) : ∀ x ∈ XU c, x ≠ 10 := by
 unfold XU
 exact Zn (by decide) (Wv (Z9 _ (by omega) h1))
theorem zXN (x : qB) (hn : PlainT x.f0.data.toList) (h0 : 0 ≤ x.f1) (h1 : x.f1 ≤ 3000) : ∀ y ∈ Z8 x, y ≠ 10 := by
 unfold Z8
 exact Zn (by decide) (Zn (Wv hn) (Wv (Z9 _ (by omega) h1)))
theorem zXO (x : xC) (h0 : PlainT x.f0.data.toList) (h1 : PlainT x.f1.data.toList) (h2 : PlainT x.f2.data.toList) : ∀ y ∈ YC x, y ≠ 10 := by
 unfold YC
 exact Zn (by decide) (Zn (Wv h0) (Zn (Wv h1) (Wv h2)))
theorem zXP (x : xS) (h0 : PlainT x.f0.data.toList) (h1 : PlainT x.f1.data.toList) (h2 : -500 ≤ x.f2) (h3 : x.f2 ≤ 500) : ∀ y ∈ YD x, y ≠ 10 := by
 unfold YD
 exact Zn (by decide) (Zn (Wv h0) (Zn (Wv h1) (Wv (Z9 _ h2 (by omega)))))
theorem zyn (f : vI) (h : zzc f) : Z7 (WB f) = (YX f.a f.b ++ [10]) :: (XU f.c ++ [10]) :: ((f.l3.map fun x => Z8 x ++ [10]) ++ ((f.l4.map fun x => YC x ++ [10]) ++ f.l5.map fun x => YD x ++ [10])) := by
 unfold WB
 rw [List.append_assoc, List.singleton_append, mP _ _ (zXL _ _ h.na), List.append_assoc, List.singleton_append, mP _ _ (zXM _ h.nc.1 h.nc.2)]
 rw [Je _ Z8 _ _ (fun x hx => ⟨rfl, zXN x (h.g x hx).1 (h.g x hx).2.1 (h.g x hx).2.2⟩)]
 rw [Je _ YC _ _ (fun x hx => ⟨rfl, zXO x (h.l x hx).1 (h.l x hx).2.1 (h.l x hx).2.2⟩)]
 have := Je (fun x : xS => YD x ++ [10]) YD [] f.l5 (fun x hx => ⟨rfl, zXP x (h.k x hx).1 (h.k x hx).2.1 (h.k x hx).2.2.1 (h.k x hx).2.2.2⟩)
 rw [List.append_nil, zyg, List.append_nil] at this
 rw [this]
theorem go_back (f : vI) (h : zzc f) : uS vI.zero ((Z7 (WB f)).map bar) = some f := by
 rw [zyn f h, List.map_cons, List.map_cons, uS, goH _ _ h.na, Option.bind_some, uS, goS _ _ ⟨by simp [vI.zero], by simp [vI.zero], by simp [vI.zero]⟩ h.nc.1 h.nc.2, Option.bind_some]
 rw [List.map_append, List.map_append, List.map_map, List.map_map, List.map_map, Qc]
 have e1 := zYJ f.l3 { vI.zero with a := f.a, b := f.b, c := f.c } (by simpa [vI.zero] using h.n3) (by simp [vI.zero]) (by simp [vI.zero]) h.g
 have e2 := zYV f.l4 { vI.zero with a := f.a, b := f.b, c := f.c, l3 := f.l3 } h.n3 (by simpa [vI.zero] using h.n4) (by simp [vI.zero]) h.l
 have e3 := zYK f.l5 { vI.zero with a := f.a, b := f.b, c := f.c, l3 := f.l3, l4 := f.l4 } h.n3 h.n4 (by simpa [vI.zero] using h.n5) h.k
 simp only [vI.zero, List.nil_append] at e1 e2 e3
 simp only [Function.comp_def, vI.zero]
 rw [e1, Option.bind_some, Qc, e2, Option.bind_some, e3]
end Go.Proofs.YtaifemkokfoadaaGreatDoor
namespace Go.Proofs.YtaifemkokfoadaaGreatDoor
open Go.RowKit Go.Proofs.zy.zK
def zqb : ByteArray ⊕ Int → Value
 | .inl s => .iface 9 (.string s)
 | .inr n => .iface 3 (.int .i64 n)
def YM : ByteArray ⊕ Int → List UInt8
 | .inl s => s.data.toList
 | .inr n => Lib.itoa n
def uP (ps : List (ByteArray ⊕ Int)) : List UInt8 := (ps.map YM).flatten
theorem zw6 (ps : List (ByteArray ⊕ Int)) (k : Nat) (x : ByteArray ⊕ Int) (h : ps[k]? = some x) : uP (ps.take (k + 1)) = uP (ps.take k) ++ YM x := by
 unfold uP
 rw [List.take_add_one, h]; simp
theorem zVr (ps : List (ByteArray ⊕ Int)) (k : Nat) : (uP (ps.take k)).length ≤ (uP ps).length := by
 have : uP ps = uP (ps.take k) ++ uP (ps.drop k) := by
  unfold uP; rw [← List.flatten_append, ← List.map_append, List.take_append_drop]
 rw [this, List.length_append]; omega
theorem zQY (s : ByteArray) : (YM (.inl s)).length = s.size := Array.length_toList
theorem JG (l : List UInt8) : (Lib.byteCells l).length = l.length := by simp [Lib.byteCells]
theorem Y7 {T e : TypeId} {B b : Nat} {bs : List Value} {w w' : World} (h : Lib.IsBuilder T e B b bs w) (hb : Below w.heap.size w w') : Lib.IsBuilder T e B b bs w' := by
 have key : ∀ p, Lib.BuilderAt T e B b p bs w → Lib.BuilderAt T e B b p bs w' := fun p ⟨h1, v, h2, h3, h4⟩ => ⟨h1, v, (hb.block b (Array.getElem?_eq_some_iff.1 h2).1).trans h2, rJ h3 hb, h4⟩
 exact h.imp (key _) (key _)
set_option maxRecDepth 100000 in
set_option maxHeartbeats 2000000 in
theorem zjy (ps : List (ByteArray ⊕ Int)) (g off c : Nat) (w : World) (hG : GW w) (hn : ∀ n, .inr n ∈ ps → -9223372036854775808 ≤ n ∧ n ≤ 9223372036854775807)
  (hc : ∀ j x, ps[j]? = some x → w.cell? ⟨g, off + j, none⟩ = some (zqb x)) (hg : g < w.heap.size) (hp : ps.length ≤ 1000000) (hlen : (uP ps).length ≤ 140737488355328) :
  Calls Tryz.prog 84 #[.slice (some ⟨g, off, none⟩) ps.length c] w fun e w' => e = .returned (.string (bar (uP ps))) ∧ Below w.heap.size w w' := by
 have ta1 : ∀ (s : ByteArray) (W : World), (Instr.typeAssert (.iface 9 (.string s)) 20 9 true).run Tryz.prog W = .ok (.tuple #[.string s, .bool true]) W := fun _ _ => by rfl
 have ta2 : ∀ (n : Int) (W : World), (Instr.typeAssert (.iface 3 (.int .i64 n)) 20 9 true).run Tryz.prog W = .ok (.tuple #[.string ⟨#[]⟩, .bool false]) W := fun _ _ => by rfl
 have ta3 : ∀ (n : Int) (W : World), (Instr.typeAssert (.iface 3 (.int .i64 n)) 20 3 true).run Tryz.prog W = .ok (.tuple #[.int .i64 n, .bool true]) W := fun _ _ => by rfl
 go_enter Tryz.func84, Tryz.ntmps84
 go_wp2_with fail
 go_loopw [10] (fun i wr => ∃ k : Nat, k ≤ ps.length ∧ i = .int .i64 k ∧ Lib.IsBuilder 129 5 w.heap.size w.heap.size (Lib.byteCells (uP (ps.take k))) wr ∧ Below w.heap.size w wr) (fun i _ => ps.length - (intOf i).toNat)
 case atStart =>
  refine ⟨0, Nat.zero_le _, rfl, .inl ?_, (Below.refl _ _).alloc (Nat.le_refl _) _⟩
  exact ⟨Nat.le_refl _, .slice none 0 0, World.alloc_heap_new w _, World.ownsRow_nil _ _ _ _, by simp [Value.ownBlock]⟩
 case round =>
  obtain ⟨k, hk, rfl, hB, hb⟩ := hrel
  have HB := Lib.hid hB
  clear hB
  by_cases hlt : k < ps.length
  ·have hx := List.getElem?_eq_getElem hlt
   have hcell : wr.cell? ⟨g, off + k, none⟩ = some (zqb ps[k]) := (hb.cell (p := ⟨g, off + k, none⟩) hg).trans (hc k _ hx)
   have zyo := zw6 ps k _ hx
   have hle := zVr ps (k + 1)
   rw [zyo, List.length_append] at hle
   have HS := Lib.hid zyo
   clear zyo
   have hmem : ps[k] ∈ ps := List.getElem_mem hlt
   have hz := hb.size
   have hG2 := hG.under hb
   generalize ps[k] = x at hx hcell HS hle hmem
   clear hx
   cases x with
   | inl s =>
    have e1 := zQY s
    have hw := Tryz.Builder_WriteString w.heap.size w.heap.size _ s wr HB.out (by rw [JG]; omega) hz
    clear e1
    simp only [zqb] at hcell
    clear hle hmem HB
    go_wp2_with fail
    refine hw.mono ?_; rintro e w2 ⟨rfl, hB2, hb2⟩
    go_wp2_with fail
    go_roundw
    case rel => exact ⟨k + 1, by omega, by go_num, by rw [HS.out]; exact .inr (by simpa [Lib.byteCells, Lib.strCells, YM] using hB2), hb.trans hb2⟩
    case measure => simp [intOf]; omega
   | inr n =>
    obtain ⟨n0, n1⟩ := hn n hmem
    have hi := zZr n wr n0 n1 hG2
    simp only [zqb] at hcell
    have hl1 : (uP (ps.take k)).length + (Lib.itoa n).length ≤ 140737488355328 := Nat.le_trans hle hlen
    clear hle hmem
    go_wp2_with fail
    refine hi.mono ?_; rintro e w2 ⟨rfl, hb2⟩
    have hB2 : Lib.IsBuilder 129 5 w.heap.size w.heap.size (Lib.byteCells (uP (ps.take k))) w2 := Y7 HB.out hb2
    have hw := Tryz.Builder_WriteString w.heap.size w.heap.size _ (bar (Lib.itoa n)) w2 hB2 (by rw [JG, uq]; exact hl1) (Nat.le_trans hz hb2.size)
    clear hB2
    go_wp2_with fail
    refine hw.mono ?_; rintro e w3 ⟨rfl, hB3, hb3⟩
    go_wp2_with fail
    go_roundw
    case rel => exact ⟨k + 1, by omega, by go_num, by rw [HS.out]; exact .inr (by simpa [Lib.byteCells, Lib.strCells, YM, wm] using hB3), (hb.trans (hb2.mono hz)).trans hb3⟩
    case measure => simp [intOf]; omega
  ·obtain rfl : k = ps.length := by omega
   rw [List.take_length] at HB
   have hs := Tryz.Builder_String_any w.heap.size w.heap.size _ wr HB.out hb.size
   clear HB
   go_wp2_with fail
   refine hs.mono ?_; rintro e w2 ⟨rfl, hb2⟩
   go_wp2_with fail
   go_ret
   exact ⟨rfl, hb.trans hb2⟩
end Go.Proofs.YtaifemkokfoadaaGreatDoor
namespace Go.Proofs.YtaifemkokfoadaaGreatDoor
open Go.RowKit Go.Shelf Go.Proofs.zy.zK Go.Proofs.zy.yt Go.Proofs.zy.yV Go.Proofs.YtaifemkokfoadaaGreatDoor.PX
set_option linter.unusedSimpArgs false
set_option linter.unusedVariables false
def qO {α : Type} (f : α → List UInt8) (l : List α) (k : Nat) : List UInt8 := ((l.take k).map f).flatten
theorem YN {α : Type} (f : α → List UInt8) (l : List α) : qO f l 0 = [] := rfl
theorem XI {α : Type} (f : α → List UInt8) (l : List α) (k : Nat) (x : α) (h : l[k]? = some x) : qO f l (k + 1) = qO f l k ++ f x := by
 unfold qO
 rw [List.take_add_one, h]; simp
theorem Jw {α : Type} (f : α → List UInt8) (l : List α) (k : Nat) : (qO f l k).length ≤ (qO f l l.length).length := by
 unfold qO
 rw [List.take_length]
 have h : (l.map f).flatten = ((l.take k).map f).flatten ++ ((l.drop k).map f).flatten := by rw [← List.flatten_append, ← List.map_append, List.take_append_drop]
 rw [h, List.length_append]; omega
def VN (x : qB) : List (ByteArray ⊕ Int) := [.inl ⟨#[103, 32]⟩, .inl x.f0, .inl ⟨#[32]⟩, .inr x.f1, .inl ⟨#[10]⟩]
def kr (x : qB) : List UInt8 := uP (VN x)
def VO (x : xC) : List (ByteArray ⊕ Int) := [.inl ⟨#[108, 32]⟩, .inl x.f0, .inl ⟨#[32]⟩, .inl x.f1, .inl ⟨#[32]⟩, .inl x.f2, .inl ⟨#[10]⟩]
def wF (x : xC) : List UInt8 := uP (VO x)
def VP (x : xS) : List (ByteArray ⊕ Int) := [.inl ⟨#[107, 32]⟩, .inl x.f0, .inl ⟨#[32]⟩, .inl x.f1, .inl ⟨#[32]⟩, .inr x.f2, .inl ⟨#[10]⟩]
def YK (x : xS) : List UInt8 := uP (VP x)
def Yl (c : Int) : List (ByteArray ⊕ Int) := [.inl ⟨#[10, 115, 112, 97, 99, 101, 32]⟩, .inr c, .inl ⟨#[10]⟩]
def YW (a : ByteArray) : List UInt8 := [102, 111, 110, 116, 32] ++ a.data.toList
def pz (a : ByteArray) (b : Bool) : List UInt8 := YW a ++ (if b = true then [32, 115, 112, 101, 99, 105, 97, 108] else [])
def uF (a : ByteArray) (b : Bool) (c : Int) : List UInt8 := pz a b ++ uP (Yl c)
def wL (a : ByteArray) (b : Bool) (c : Int) (l3 : List qB) (l4 : List xC) (l5 : List xS) : List UInt8 := ((uF a b c ++ qO kr l3 l3.length) ++ qO wF l4 l4.length) ++ qO YK l5 l5.length
theorem gJ (B b : Nat) (l : List UInt8) (s : ByteArray) (w : World) (h : Lib.IsBuilder 129 5 B b (Lib.byteCells l) w) (hlen : l.length + s.size ≤ 140737488355328) (hz : B ≤ w.heap.size) :
  Calls Tryz.prog 83 #[.pointer (some ⟨b, 0, none⟩), .string s] w fun e w' => e = .returned (.tuple #[.int .i64 s.size, .nilIface]) ∧ Lib.IsBuilder 129 5 B b (Lib.byteCells (l ++ s.data.toList)) w' ∧ Below B w w' :=
 (Tryz.Builder_WriteString B b _ s w h (by rw [JG]; exact hlen) hz).mono fun e w' ⟨h1, h2, h3⟩ => ⟨h1, .inr (by simpa [Lib.byteCells, Lib.strCells] using h2), h3⟩
theorem WC (ps : List (ByteArray ⊕ Int)) (cs : Array Value) (t : TypeId) (n g : Nat) (W : World) (hg : g = W.heap.size) (hcs : cs = (ps.map zqb).toArray) (hps : n = ps.length) (hG : GW W) (hn : ∀ n, .inr n ∈ ps → -9223372036854775808 ≤ n ∧ n ≤ 9223372036854775807) (hp : ps.length ≤ 1000000) (hlen : (uP ps).length ≤ 140737488355328) :
  Calls Tryz.prog 84 #[.slice (some ⟨g, 0, none⟩) n n] (W.alloc (.cells cs t)) fun e w' => e = .returned (.string (bar (uP ps))) ∧ Below W.heap.size W w' := by
 subst hg hcs hps
 have hb : Below W.heap.size W (W.alloc (.cells (ps.map zqb).toArray t)) := (Below.refl _ W).alloc (Nat.le_refl _) _
 refine (zjy ps W.heap.size 0 ps.length _ (hG.under hb) hn ?_ (by simp) hp hlen).mono ?_
 ·intro j x hx
  rw [Nat.zero_add]
  refine xW (World.alloc_heap_new W _) j _ ?_
  simp [hx]
 ·rintro e w' ⟨rfl, h⟩
  exact ⟨rfl, hb.trans (h.mono (by simp))⟩
theorem zzd (a : ByteArray) (c : Int) (l3 : List qB) (l4 : List xC) (l5 : List xS) (h : jy a c l3 l4 l5 = true) :
  (0 ≤ c ∧ c ≤ 3000) ∧ (∀ x ∈ l3, 0 ≤ x.f1 ∧ x.f1 ≤ 3000) ∧ (∀ x ∈ l5, -500 ≤ x.f2 ∧ x.f2 ≤ 500) := by
 unfold jy at h
 split at h
 ·cases h
 ·rename_i q1
  split at h
  ·cases h
  ·rename_i q2
   split at h
   ·cases h
   ·rename_i q3
    simp only [Bool.or_eq_true, not_or, decide_eq_true_eq, Xv] at q1
    simp only [Bool.or_eq_true, not_or, Bool.not_eq_true, Bool.not_eq_false'] at q2
    rw [Bool.and_eq_true] at h
    refine ⟨by omega, fun x hx => ?_, fun x hx => ?_⟩
    ·have h1 := List.any_eq_false.1 q2.1 x hx
     unfold Uz Xv at h1
     simp only [Bool.or_eq_true, not_or, decide_eq_true_eq] at h1
     omega
    ·have h2 : l5.any (X4 l3) = false := by simpa using h.1
     have h1 := List.any_eq_false.1 h2 x hx
     unfold X4 at h1
     simp only [Bool.or_eq_true, not_or, decide_eq_true_eq] at h1
     omega
theorem YO (a b : ByteArray) : (a ++ b).data.toList = a.data.toList ++ b.data.toList := by simp
set_option maxRecDepth 100000 in
set_option maxHeartbeats 8000000 in
theorem zQW (a : ByteArray) (b : Bool) (c : Int) (A3 : Option Addr) (c3 : Nat) (l3 : List qB) (A4 : Option Addr) (c4 : Nat) (l4 : List xC) (A5 : Option Addr) (c5 : Nat) (l5 : List xS) (g3 : l3.length ≤ c3) (g4 : l4.length ≤ c4) (g5 : l5.length ≤ c5) (w : World) (hG : GW w) (h3 : Kd.C jB w A3 l3.length l3) (h4 : Kd.C kS w A4 l4.length l4) (h5 : Kd.C kU w A5 l5.length l5) (hl3 : l3.length ≤ 1000000000) (hl4 : l4.length ≤ 1000000000) (hl5 : l5.length ≤ 1000000000) (hv : jy a c l3 l4 l5 = true) (hlen : (wL a b c l3 l4 l5).length ≤ 1000000000) :
  Calls Tryz.prog 25 #[.agg #[.string a, .bool b, .int .i64 c, .slice A3 l3.length c3, .slice A4 l4.length c4, .slice A5 l5.length c5]] w fun e w' => e = .returned (.tuple #[.string (bar (wL a b c l3 l4 l5)), .int .i64 0]) ∧ Below w.heap.size w w' := by
 have hbx : Below w.heap.size w (w.alloc (.cells #[.string a, .bool b, .int .i64 c, .slice A3 l3.length c3, .slice A4 l4.length c4, .slice A5 l5.length c5] 26)) := (Below.refl _ w).alloc (Nat.le_refl _) _
 have hval := kE.calls a b c A3 c3 l3 A4 c4 l4 A5 c5 l5 true (w.alloc (.cells #[.string a, .bool b, .int .i64 c, .slice A3 l3.length c3, .slice A4 l4.length c4, .slice A5 l5.length c5] 26)) (Kd.yE h3 hbx) g3 (Kd.yE h4 hbx) g4 (Kd.yE h5 hbx) g5 (hG.under hbx) (by unfold kE.f; rw [if_pos ⟨hl3, hl4, hl5⟩, hv])
 obtain ⟨nc, n3, n5⟩ := zzd a c l3 l4 l5 hv
 have hT : (uF a b c).length + (qO kr l3 l3.length).length + (qO wF l4 l4.length).length + (qO YK l5 l5.length).length ≤ 1000000000 := by
  have := hlen
  unfold wL at this
  simp only [List.length_append] at this
  omega
 have hT2 : (pz a b).length + (uP (Yl c)).length = (uF a b c).length := by unfold uF; rw [List.length_append]
 have hT1 : (YW a).length ≤ (pz a b).length := by unfold pz; rw [List.length_append]; omega
 have hT3 : (YW a).length = 5 + a.size := by unfold YW; rw [List.length_append]; rfl
 have hT4 : b = true → (YW a).length + 8 = (pz a b).length := by intro h; unfold pz; rw [List.length_append, if_pos h]; rfl
 generalize hwv : wL a b c l3 l4 l5 = V
 have HV := Lib.hid hwv
 clear hwv hlen hv
 go_enter Tryz.func25, Tryz.ntmps25
 go_wp2_with fail
 refine hval.mono ?_; rintro e w1 ⟨rfl, hb1⟩
 have hbw : Below w.heap.size w w1 := hbx.trans (hb1.mono hbx.size)
 have BX : w1.heap[w.heap.size]? = some (.cells #[.string a, .bool b, .int .i64 c, .slice A3 l3.length c3, .slice A4 l4.length c4, .slice A5 l5.length c5] 26 (0, 0)) := zo (jQ w _) hb1
 have hG1 := hG.under hbw
 have k3 := Kd.yE h3 hbw
 have k4 := Kd.yE h4 hbw
 have k5 := Kd.yE h5 hbw
 have hlt : w.heap.size < w1.heap.size := uM BX
 have hf : ∀ W, Below w1.heap.size w1 W → W.heap[w.heap.size]? = some (.cells #[.string a, .bool b, .int .i64 c, .slice A3 l3.length c3, .slice A4 l4.length c4, .slice A5 l5.length c5] 26 (0, 0)) := fun W h => zo BX h
 have HF := Lib.hid hf
 have q0 : (w1.alloc (.cells #[.pointer none, .slice none 0 0] 129)).cell? ⟨w.heap.size, 0, none⟩ = some (.string a) := (zx (hf _ ((Below.refl _ _).alloc (Nat.le_refl _) _)) 0).trans rfl
 clear hval hb1 hbx hG h3 h4 h5 hf
 go_wp2_with fail
 refine (gJ w1.heap.size w1.heap.size [] ((⟨#[102, 111, 110, 116, 32]⟩ : ByteArray) ++ a) _ (.inl ⟨Nat.le_refl _, .slice none 0 0, World.alloc_heap_new w1 _, World.ownsRow_nil _ _ _ _, by simp [Value.ownBlock]⟩) (by rw [ByteArray.size_append]; show 0 + (5 + a.size) ≤ _; omega) (by simp)).mono ?_
 rintro e w2 ⟨rfl, hB, hbb⟩
 have hb2 : Below w1.heap.size w1 w2 := ((Below.refl _ w1).alloc (Nat.le_refl _) _).trans hbb
 have hB : Lib.IsBuilder 129 5 w1.heap.size w1.heap.size (Lib.byteCells (YW a)) w2 := by rw [List.nil_append, YO] at hB; exact hB
 clear hbb
 have YJ := zk.mk hB
 clear hB
 have HT := zk.mk (And.intro hT (And.intro hT2 (And.intro hT1 (And.intro hT3 hT4))))
 clear hT hT2 hT1 hT3 hT4
 cases hbv : b
 case' true =>
  have hcb : w2.cell? ⟨w.heap.size, 1, none⟩ = some (.bool true) := by rw [← hbv]; exact (zx (HF.out w2 hb2) 1).trans rfl
  go_wp2_with fail
  refine (gJ w1.heap.size w1.heap.size (YW a) (⟨#[32, 115, 112, 101, 99, 105, 97, 108]⟩ : ByteArray) w2 YJ.out (by obtain ⟨p1, p2, p3, p4, p5⟩ := HT.out; have := p5 hbv; show (YW a).length + 8 ≤ _; omega) hb2.size).mono ?_
  rintro e w2 ⟨rfl, hB, hbb⟩
  have hb2 : Below w1.heap.size w1 w2 := hb2.trans hbb
  clear hcb YJ
  have YJ : zk (Lib.IsBuilder 129 5 w1.heap.size w1.heap.size (Lib.byteCells (pz a b)) w2) := ⟨by unfold pz; rw [if_pos hbv]; exact hB⟩
  clear hB hbb
 case' false =>
  have hcb : w2.cell? ⟨w.heap.size, 1, none⟩ = some (.bool false) := by rw [← hbv]; exact (zx (HF.out w2 hb2) 1).trans rfl
  have YJ : zk (Lib.IsBuilder 129 5 w1.heap.size w1.heap.size (Lib.byteCells (pz a b)) w2) := ⟨by unfold pz; rw [if_neg (by rw [hbv]; simp), List.append_nil]; exact YJ.out⟩
 all_goals
  have hc2 : w2.cell? ⟨w.heap.size, 2, none⟩ = some (.int .i64 c) := (zx (HF.out w2 hb2) 2).trans rfl
  go_wp2_with fail
  refine (WC (Yl c) _ _ 3 w2.heap.size w2 rfl (by rfl) (by rfl) (hG1.under hb2) (by intro n hn; simp [Yl] at hn; omega) (by show 3 ≤ 1000000; decide) (by obtain ⟨p1, p2, p3, p4, p5⟩ := HT.out; omega)).mono ?_
  rintro e w3 ⟨rfl, hb3⟩
  clear hc2
  go_wp2_with fail
  refine (gJ w1.heap.size w1.heap.size (pz a b) (bar (uP (Yl c))) w3 (Y7 YJ.out hb3) (by obtain ⟨p1, p2, p3, p4, p5⟩ := HT.out; rw [uq]; omega) (Nat.le_trans hb2.size hb3.size)).mono ?_
  rintro e w4 ⟨rfl, hB, hbb⟩
  have hb4 : Below w1.heap.size w1 w4 := (hb2.trans (hb3.mono hb2.size)).trans hbb
  have YJ : zk (Lib.IsBuilder 129 5 w1.heap.size w1.heap.size (Lib.byteCells (uF a b c ++ qO kr l3 0)) w4) := ⟨by rw [wm] at hB; rw [YN, List.append_nil]; exact hB⟩
  clear hB hbb hb3 hb2
  have hc3 : w4.cell? ⟨w.heap.size, 3, none⟩ = some (.slice A3 l3.length c3) := (zx (HF.out w4 hb4) 3).trans rfl
  go_wp2_with fail
  go_loopw [32] (fun y W => ∃ k : Nat, y = .int .i64 (k : Int) ∧ k ≤ l3.length ∧ zk (Lib.IsBuilder 129 5 w1.heap.size w1.heap.size (Lib.byteCells (uF a b c ++ qO kr l3 k)) W) ∧ zk (Below w1.heap.size w1 W)) (fun y _ => l3.length - (intOf y).toNat)
  case atStart => exact ⟨0, rfl, Nat.zero_le _, YJ, ⟨hb4⟩⟩
  case round =>
   clear YJ hb4 hc3
   obtain ⟨k, rfl, hk, YJ, HB⟩ := hrel
   by_cases hlt : k < l3.length
   ·have hx := List.getElem?_eq_getElem hlt
    obtain ⟨ad, e, x0, x1⟩ := Jh (Kd.yE k3 HB.out) (k : Int) (by omega) (by omega)
    cases e
    have e : qI l3 (k : Int) = l3[k] := by simp [qI, List.getD_eq_getElem?_getD, hlt]
    rw [Int.toNat_natCast, e] at x0 x1
    clear e
    generalize l3[k] = x at hx x0 x1
    have HS := zk.mk (XI kr l3 k x hx)
    have hle := Jw kr l3 (k + 1)
    rw [HS.out, List.length_append] at hle
    have hL : (uF a b c ++ qO kr l3 k).length + (uP (VN x)).length ≤ 1000000000 := by obtain ⟨p1, p2, p3, p4, p5⟩ := HT.out; have e : kr x = uP (VN x) := rfl; rw [e] at hle; simp only [List.length_append] at hle ⊢; omega
    have HL := zk.mk hL
    have q1 : (k : Int) < (l3.length : Int) := by omega
    have q0 : (0 : Int) ≤ (k : Int) := by omega
    have q3 : ((k : Int)).toNat = k := Int.toNat_natCast k
    clear hle hL
    go_wp2_with fail
    have hbX : Below wr.heap.size wr (wr.alloc (.cells #[.string x.f0, .int .i64 x.f1] 31)) := (Below.refl _ wr).alloc (Nat.le_refl _) _
    have hzX : (wr.alloc (.cells #[.string x.f0, .int .i64 x.f1] 31)).heap.size = wr.heap.size + 1 := by simp
    refine (WC (VN x) _ _ 5 (wr.heap.size + 1) (wr.alloc (.cells #[.string x.f0, .int .i64 x.f1] 31)) hzX.symm (by rfl) (by rfl) ((hG1.under HB.out).under hbX) (by have := n3 x (List.mem_of_getElem? hx); intro n hn; simp [VN] at hn; omega) (by show 5 ≤ 1000000; decide) (by have := HL.out; omega)).mono ?_
    rintro e w5 ⟨rfl, hb5⟩
    have hb6 : Below wr.heap.size wr w5 := hbX.trans (hb5.mono hbX.size)
    clear hbX hzX hb5
    go_wp2_with fail
    refine (gJ w1.heap.size w1.heap.size (uF a b c ++ qO kr l3 k) (bar (uP (VN x))) w5 (Y7 YJ.out hb6) (by have := HL.out; rw [uq]; omega) (Nat.le_trans HB.out.size hb6.size)).mono ?_
    rintro e w7 ⟨rfl, hB, hbb⟩
    have HB2 : zk (Below w1.heap.size w1 w7) := ⟨(HB.out.trans (hb6.mono HB.out.size)).trans hbb⟩
    have zjw : zk (Lib.IsBuilder 129 5 w1.heap.size w1.heap.size (Lib.byteCells (uF a b c ++ qO kr l3 (k + 1))) w7) := ⟨by rw [wm, List.append_assoc] at hB; rw [HS.out]; exact hB⟩
    clear hB hbb hb6 YJ HB
    go_wp2_with fail
    go_roundw
    case rel => exact ⟨k + 1, by first | rfl | (simp; done) | go_num, by omega, zjw, HB2⟩
    case measure => simp [intOf]; omega
   ·obtain rfl : k = l3.length := by omega
    have iI := HB.out
    have YJ : zk (Lib.IsBuilder 129 5 w1.heap.size w1.heap.size (Lib.byteCells ((uF a b c ++ qO kr l3 l3.length) ++ qO wF l4 0)) wr) := ⟨by rw [YN, List.append_nil]; exact YJ.out⟩
    clear HB
    have hc4 : wr.cell? ⟨w.heap.size, 4, none⟩ = some (.slice A4 l4.length c4) := (zx (HF.out wr iI) 4).trans rfl
    go_wp2_with fail
    go_loopw [52] (fun y W => ∃ k : Nat, y = .int .i64 (k : Int) ∧ k ≤ l4.length ∧ zk (Lib.IsBuilder 129 5 w1.heap.size w1.heap.size (Lib.byteCells ((uF a b c ++ qO kr l3 l3.length) ++ qO wF l4 k)) W) ∧ zk (Below w1.heap.size w1 W)) (fun y _ => l4.length - (intOf y).toNat)
    case atStart => exact ⟨0, rfl, Nat.zero_le _, YJ, ⟨iI⟩⟩
    case round =>
     clear YJ iI hc4
     obtain ⟨k, rfl, hk, YJ, HB⟩ := hrel
     by_cases hlt : k < l4.length
     ·have hx := List.getElem?_eq_getElem hlt
      obtain ⟨ad, e, x0, x1, x2⟩ := Pp (Kd.yE k4 HB.out) (k : Int) (by omega) (by omega)
      cases e
      have e : xB l4 (k : Int) = l4[k] := by simp [xB, List.getD_eq_getElem?_getD, hlt]
      rw [Int.toNat_natCast, e] at x0 x1 x2
      clear e
      generalize l4[k] = x at hx x0 x1 x2
      have HS := zk.mk (XI wF l4 k x hx)
      have hle := Jw wF l4 (k + 1)
      rw [HS.out, List.length_append] at hle
      have hL : ((uF a b c ++ qO kr l3 l3.length) ++ qO wF l4 k).length + (uP (VO x)).length ≤ 1000000000 := by obtain ⟨p1, p2, p3, p4, p5⟩ := HT.out; have e : wF x = uP (VO x) := rfl; rw [e] at hle; simp only [List.length_append] at hle ⊢; omega
      have HL := zk.mk hL
      have q1 : (k : Int) < (l4.length : Int) := by omega
      have q0 : (0 : Int) ≤ (k : Int) := by omega
      have q3 : ((k : Int)).toNat = k := Int.toNat_natCast k
      clear hle hL
      go_wp2_with fail
      have hbX : Below wr.heap.size wr (wr.alloc (.cells #[.string x.f0, .string x.f1, .string x.f2] 86)) := (Below.refl _ wr).alloc (Nat.le_refl _) _
      have hzX : (wr.alloc (.cells #[.string x.f0, .string x.f1, .string x.f2] 86)).heap.size = wr.heap.size + 1 := by simp
      refine (WC (VO x) _ _ 7 (wr.heap.size + 1) (wr.alloc (.cells #[.string x.f0, .string x.f1, .string x.f2] 86)) hzX.symm (by rfl) (by rfl) ((hG1.under HB.out).under hbX) (by intro n hn; simp [VO] at hn) (by show 7 ≤ 1000000; decide) (by have := HL.out; omega)).mono ?_
      rintro e w5 ⟨rfl, hb5⟩
      have hb6 : Below wr.heap.size wr w5 := hbX.trans (hb5.mono hbX.size)
      clear hbX hzX hb5
      go_wp2_with fail
      refine (gJ w1.heap.size w1.heap.size ((uF a b c ++ qO kr l3 l3.length) ++ qO wF l4 k) (bar (uP (VO x))) w5 (Y7 YJ.out hb6) (by have := HL.out; rw [uq]; omega) (Nat.le_trans HB.out.size hb6.size)).mono ?_
      rintro e w7 ⟨rfl, hB, hbb⟩
      have HB2 : zk (Below w1.heap.size w1 w7) := ⟨(HB.out.trans (hb6.mono HB.out.size)).trans hbb⟩
      have zjw : zk (Lib.IsBuilder 129 5 w1.heap.size w1.heap.size (Lib.byteCells ((uF a b c ++ qO kr l3 l3.length) ++ qO wF l4 (k + 1))) w7) := ⟨by rw [wm, List.append_assoc] at hB; rw [HS.out]; exact hB⟩
      clear hB hbb hb6 YJ HB
      go_wp2_with fail
      go_roundw
      case rel => exact ⟨k + 1, by first | rfl | (simp; done) | go_num, by omega, zjw, HB2⟩
      case measure => simp [intOf]; omega
     ·obtain rfl : k = l4.length := by omega
      have iI := HB.out
      have YJ : zk (Lib.IsBuilder 129 5 w1.heap.size w1.heap.size (Lib.byteCells (((uF a b c ++ qO kr l3 l3.length) ++ qO wF l4 l4.length) ++ qO YK l5 0)) wr) := ⟨by rw [YN, List.append_nil]; exact YJ.out⟩
      clear HB
      have hc5 : wr.cell? ⟨w.heap.size, 5, none⟩ = some (.slice A5 l5.length c5) := (zx (HF.out wr iI) 5).trans rfl
      go_wp2_with fail
      go_loopw [76] (fun y W => ∃ k : Nat, y = .int .i64 (k : Int) ∧ k ≤ l5.length ∧ zk (Lib.IsBuilder 129 5 w1.heap.size w1.heap.size (Lib.byteCells (((uF a b c ++ qO kr l3 l3.length) ++ qO wF l4 l4.length) ++ qO YK l5 k)) W) ∧ zk (Below w1.heap.size w1 W)) (fun y _ => l5.length - (intOf y).toNat)
      case atStart => exact ⟨0, rfl, Nat.zero_le _, YJ, ⟨iI⟩⟩
      case round =>
       clear YJ iI hc5
       obtain ⟨k, rfl, hk, YJ, HB⟩ := hrel
       by_cases hlt : k < l5.length
       ·have hx := List.getElem?_eq_getElem hlt
        obtain ⟨ad, e, x0, x1, x2⟩ := Pt (Kd.yE k5 HB.out) (k : Int) (by omega) (by omega)
        cases e
        have e : xE l5 (k : Int) = l5[k] := by simp [xE, List.getD_eq_getElem?_getD, hlt]
        rw [Int.toNat_natCast, e] at x0 x1 x2
        clear e
        generalize l5[k] = x at hx x0 x1 x2
        have HS := zk.mk (XI YK l5 k x hx)
        have hle := Jw YK l5 (k + 1)
        rw [HS.out, List.length_append] at hle
        have hL : (((uF a b c ++ qO kr l3 l3.length) ++ qO wF l4 l4.length) ++ qO YK l5 k).length + (uP (VP x)).length ≤ 1000000000 := by obtain ⟨p1, p2, p3, p4, p5⟩ := HT.out; have e : YK x = uP (VP x) := rfl; rw [e] at hle; simp only [List.length_append] at hle ⊢; omega
        have HL := zk.mk hL
        have q1 : (k : Int) < (l5.length : Int) := by omega
        have q0 : (0 : Int) ≤ (k : Int) := by omega
        have q3 : ((k : Int)).toNat = k := Int.toNat_natCast k
        clear hle hL
        go_wp2_with fail
        have hbX : Below wr.heap.size wr (wr.alloc (.cells #[.string x.f0, .string x.f1, .int .i64 x.f2] 76)) := (Below.refl _ wr).alloc (Nat.le_refl _) _
        have hzX : (wr.alloc (.cells #[.string x.f0, .string x.f1, .int .i64 x.f2] 76)).heap.size = wr.heap.size + 1 := by simp
        refine (WC (VP x) _ _ 7 (wr.heap.size + 1) (wr.alloc (.cells #[.string x.f0, .string x.f1, .int .i64 x.f2] 76)) hzX.symm (by rfl) (by rfl) ((hG1.under HB.out).under hbX) (by have := n5 x (List.mem_of_getElem? hx); intro n hn; simp [VP] at hn; omega) (by show 7 ≤ 1000000; decide) (by have := HL.out; omega)).mono ?_
        rintro e w5 ⟨rfl, hb5⟩
        have hb6 : Below wr.heap.size wr w5 := hbX.trans (hb5.mono hbX.size)
        clear hbX hzX hb5
        go_wp2_with fail
        refine (gJ w1.heap.size w1.heap.size (((uF a b c ++ qO kr l3 l3.length) ++ qO wF l4 l4.length) ++ qO YK l5 k) (bar (uP (VP x))) w5 (Y7 YJ.out hb6) (by have := HL.out; rw [uq]; omega) (Nat.le_trans HB.out.size hb6.size)).mono ?_
        rintro e w7 ⟨rfl, hB, hbb⟩
        have HB2 : zk (Below w1.heap.size w1 w7) := ⟨(HB.out.trans (hb6.mono HB.out.size)).trans hbb⟩
        have zjw : zk (Lib.IsBuilder 129 5 w1.heap.size w1.heap.size (Lib.byteCells (((uF a b c ++ qO kr l3 l3.length) ++ qO wF l4 l4.length) ++ qO YK l5 (k + 1))) w7) := ⟨by rw [wm, List.append_assoc] at hB; rw [HS.out]; exact hB⟩
        clear hB hbb hb6 YJ HB
        go_wp2_with fail
        go_roundw
        case rel => exact ⟨k + 1, by first | rfl | (simp; done) | go_num, by omega, zjw, HB2⟩
        case measure => simp [intOf]; omega
       ·obtain rfl : k = l5.length := by omega
        have iI := HB.out
        have HBe : Lib.IsBuilder 129 5 w1.heap.size w1.heap.size (Lib.byteCells V) wr := by rw [← HV.out]; exact YJ.out
        have hs := Tryz.Builder_String_any w1.heap.size w1.heap.size _ wr HBe iI.size
        clear YJ HB HBe
        go_wp2_with fail
        refine hs.mono ?_; rintro e w2 ⟨rfl, zdd⟩
        go_wp2_with fail
        go_ret2
        exact ⟨rfl, (hbw.trans (iI.mono hbw.size)).trans (zdd.mono hbw.size)⟩
set_option maxRecDepth 100000 in
theorem zw7 (a : ByteArray) (b : Bool) (c : Int) (A3 : Option Addr) (c3 : Nat) (l3 : List qB) (A4 : Option Addr) (c4 : Nat) (l4 : List xC) (A5 : Option Addr) (c5 : Nat) (l5 : List xS) (g3 : l3.length ≤ c3) (g4 : l4.length ≤ c4) (g5 : l5.length ≤ c5) (w : World) (hG : GW w) (h3 : Kd.C jB w A3 l3.length l3) (h4 : Kd.C kS w A4 l4.length l4) (h5 : Kd.C kU w A5 l5.length l5) (hl3 : l3.length ≤ 1000000000) (hl4 : l4.length ≤ 1000000000) (hl5 : l5.length ≤ 1000000000) (hv : jy a c l3 l4 l5 = false) :
  Calls Tryz.prog 25 #[.agg #[.string a, .bool b, .int .i64 c, .slice A3 l3.length c3, .slice A4 l4.length c4, .slice A5 l5.length c5]] w fun e w' => e = .returned (.tuple #[.string (⟨#[]⟩ : ByteArray), .int .i64 1]) ∧ Below w.heap.size w w' := by
 have hbx : Below w.heap.size w (w.alloc (.cells #[.string a, .bool b, .int .i64 c, .slice A3 l3.length c3, .slice A4 l4.length c4, .slice A5 l5.length c5] 26)) := (Below.refl _ w).alloc (Nat.le_refl _) _
 have hval := kE.calls a b c A3 c3 l3 A4 c4 l4 A5 c5 l5 false (w.alloc (.cells #[.string a, .bool b, .int .i64 c, .slice A3 l3.length c3, .slice A4 l4.length c4, .slice A5 l5.length c5] 26)) (Kd.yE h3 hbx) g3 (Kd.yE h4 hbx) g4 (Kd.yE h5 hbx) g5 (hG.under hbx) (by unfold kE.f; rw [if_pos ⟨hl3, hl4, hl5⟩, hv])
 clear hG h3 h4 h5
 go_enter Tryz.func25, Tryz.ntmps25
 go_wp2_with fail
 refine hval.mono ?_; rintro e w1 ⟨rfl, hb1⟩
 go_wp2
 go_ret2
 exact ⟨rfl, hbx.trans (hb1.mono hbx.size)⟩
end Go.Proofs.YtaifemkokfoadaaGreatDoor
namespace Go.Proofs.YtaifemkokfoadaaGreatDoor.PX
open Go.RowKit Go.Proofs.zy.zK Go.Proofs.zy.yt Go.Proofs.zy.yV
attribute [local go_sem] xX xJ xP xR qD qE xV xK   -- for this text's walks alone
set_option linter.unusedVariables false
set_option linter.unusedSimpArgs false
def vY.l0 : Nat → ByteArray → Int → Option (Bool)
 | 0, _, _ => none
 | k + 1, x0, x3 => if x3 < (x0.size : Int) then (if 0 ≤ x3 then (if (bt x0 x3) < 33 then (some false) else (if (bt x0 x3) > 126 then (some false) else (vY.l0 k x0 (wrap64 (x3 + 1))))) else (none)) else (if (x0.size : Int) ≥ 1 then (some (decide ((x0.size : Int) ≤ 10))) else (some false))
def vY.f (k : Nat) (a0 : ByteArray) : Option (Bool) := vY.l0 k a0 0
set_option maxHeartbeats 8000000 in
set_option maxRecDepth 100000 in
theorem vY.calls (k : Nat) (a0 : ByteArray) (r : Bool) (w : World) (h : vY.f k a0 = some r) :
  Calls Tryz.prog 105 #[.string a0] w fun e w' => e = .returned (.bool r) ∧ qy w w' := by
 have H : (vY.l0 k a0 0) = some r := h
 clear h
 have H' := zk.mk H
 clear H
 go_enter Tryz.func105, Tryz.ntmps105
 go_wp2
 go_loopg [3] k (fun kq v3 w' => ∃ (uJ : Int), v3 = .int .i64 uJ ∧ zk (vY.l0 kq a0 uJ = some r) ∧ zk (kq ≤ k) ∧ qy w w')
 case atStart => exact ⟨(0), (by first | rfl | (simp; done) | (simp [*]; done)), H', ⟨Nat.le_refl _⟩, by repeat (first | exact qy.refl _ | apply qy.step)⟩
 case round =>
  clear H'
  try clear c1
  obtain ⟨uJ, rfl, HA, jl, ⟨m1, rfl⟩⟩ := hrel
  cases gk with
  | zero => exact absurd HA.out (by simp [vY.l0])
  | succ k1 =>
   have H := HA.out
   clear HA
   simp only [vY.l0] at H
   by_cases c2 : uJ < (a0.size : Int)
   ·rw [if_pos c2] at H
    have WT : decide (uJ < (a0.size : Int)) = true := decide_eq_true c2
    clear c2
    by_cases c3 : 0 ≤ uJ
    ·rw [if_pos c3] at H
     have XV : decide (0 ≤ uJ) = true := decide_eq_true c3
     clear c3
     by_cases c5 : (bt a0 uJ) < 33
     ·rw [if_pos c5] at H
      have VB : decide ((bt a0 uJ) < 33) = true := decide_eq_true c5
      clear c5
      obtain rfl := Option.some.inj H
      have p4 : 0 ≤ (uJ : Int) := of_decide_eq_true (by first | (with_reducible assumption) | assumption)
      have q4 : uJ < (a0.size : Int) := of_decide_eq_true (by first | (with_reducible assumption) | assumption)
      have hx4 := ZM a0 uJ
      replace p4 := eq_true p4
      replace q4 := eq_true q4
      go_wp2
      go_ret
      exact ⟨by first | rfl | (simp; done) | (simp [*]; done), by repeat (first | exact qy.refl _ | apply qy.step)⟩
     ·rw [if_neg c5] at H
      have VB : decide ((bt a0 uJ) < 33) = false := decide_eq_false c5
      clear c5
      by_cases c7 : (bt a0 uJ) > 126
      ·rw [if_pos c7] at H
       have VI : decide (126 < (bt a0 uJ)) = true := decide_eq_true c7
       clear c7
       obtain rfl := Option.some.inj H
       have p4 : 0 ≤ (uJ : Int) := of_decide_eq_true (by first | (with_reducible assumption) | assumption)
       have q4 : uJ < (a0.size : Int) := of_decide_eq_true (by first | (with_reducible assumption) | assumption)
       have hx4 := ZM a0 uJ
       replace p4 := eq_true p4
       replace q4 := eq_true q4
       have p6 : 0 ≤ (uJ : Int) := of_decide_eq_true (by first | (with_reducible assumption) | assumption)
       have q6 : uJ < (a0.size : Int) := of_decide_eq_true (by first | (with_reducible assumption) | assumption)
       have hx6 := ZM a0 uJ
       replace p6 := eq_true p6
       replace q6 := eq_true q6
       go_wp2
       go_ret
       exact ⟨by first | rfl | (simp; done) | (simp [*]; done), by repeat (first | exact qy.refl _ | apply qy.step)⟩
      ·rw [if_neg c7] at H
       have VI : decide (126 < (bt a0 uJ)) = false := decide_eq_false c7
       clear c7
       have H' := zk.mk H
       clear H
       have p4 : 0 ≤ (uJ : Int) := of_decide_eq_true (by first | (with_reducible assumption) | assumption)
       have q4 : uJ < (a0.size : Int) := of_decide_eq_true (by first | (with_reducible assumption) | assumption)
       have hx4 := ZM a0 uJ
       replace p4 := eq_true p4
       replace q4 := eq_true q4
       have p6 : 0 ≤ (uJ : Int) := of_decide_eq_true (by first | (with_reducible assumption) | assumption)
       have q6 : uJ < (a0.size : Int) := of_decide_eq_true (by first | (with_reducible assumption) | assumption)
       have hx6 := ZM a0 uJ
       replace p6 := eq_true p6
       replace q6 := eq_true q6
       go_wp2
       go_roundg k1
       case measure => have := jl.out; omega
       case rel => exact ⟨(wrap64 (uJ + 1)), (by first | rfl | (simp; done) | (simp [*]; done)), H', ⟨by have := jl.out; omega⟩, by repeat (first | exact qy.refl _ | apply qy.step)⟩
    ·rw [if_neg c3] at H
     exact absurd H (by simp)
   ·rw [if_neg c2] at H
    have WT : decide (uJ < (a0.size : Int)) = false := decide_eq_false c2
    clear c2
    by_cases c8 : (a0.size : Int) ≥ 1
    ·rw [if_pos c8] at H
     have KO : decide (1 ≤ (a0.size : Int)) = true := decide_eq_true c8
     have zYk : decide (1 ≤ a0.size) = true := decide_eq_true (by omega)
     clear c8
     obtain rfl := Option.some.inj H
     go_wp2
     go_ret
     exact ⟨by first | rfl | (simp; done) | (simp [*]; done), by repeat (first | exact qy.refl _ | apply qy.step)⟩
    ·rw [if_neg c8] at H
     have KO : decide (1 ≤ (a0.size : Int)) = false := decide_eq_false c8
     have zYk : decide (1 ≤ a0.size) = false := decide_eq_false (by omega)
     clear c8
     obtain rfl := Option.some.inj H
     go_wp2
     go_ret
     exact ⟨by first | rfl | (simp; done) | (simp [*]; done), by repeat (first | exact qy.refl _ | apply qy.step)⟩
end Go.Proofs.YtaifemkokfoadaaGreatDoor.PX
namespace Go.Proofs.YtaifemkokfoadaaGreatDoor
open Go.RowKit Go.Proofs.zy.zK Go.Proofs.zy.yV Go.Proofs.YtaifemkokfoadaaGreatDoor.PX
set_option linter.unusedSimpArgs false
set_option linter.unusedVariables false
def Js : List UInt8 → Nat → Bool
 | [], _ => true
 | b :: r, i => (wz b || (decide (i ≠ 0) && YG b)) && Js r (i + 1)
theorem zze : ∀ (l : List UInt8) (i : Nat), i ≠ 0 → Js l i = l.all fun b => wz b || YG b
 | [], _, _ => rfl
 | b :: r, i, h => by rw [Js, zze r (i + 1) (by omega), List.all_cons, decide_eq_true h, Bool.true_and]
theorem zjZ (l : List UInt8) : (Js l 0 && (decide (1 ≤ l.length) && decide (l.length ≤ 10))) = Ze l := by
 unfold Ze
 cases l with
 | nil => rfl
 | cons b r =>
  rw [Js, zze r 1 (by omega), List.all_cons]
  simp only [List.head?_cons, Option.map_some, Option.getD_some, ne_eq, not_true_eq_false, decide_false, Bool.false_and, Bool.or_false]
  cases wz b <;> cases (r.all fun b => wz b || YG b) <;> cases decide (1 ≤ (b :: r).length) <;> cases decide ((b :: r).length ≤ 10) <;> cases YG b <;> rfl
set_option maxRecDepth 100000 in
set_option maxHeartbeats 4000000 in
theorem zVs (s : ByteArray) (hs : s.size ≤ 140737488355328) (w : World) : Calls Tryz.prog 104 #[.string s] w fun e w' => e = .returned (.bool (Ze s.data.toList)) ∧ qy w w' := by
 have hlen : s.data.toList.length = s.size := Array.length_toList
 have h0 := zjZ s.data.toList
 generalize Ze s.data.toList = V at h0 ⊢
 have hbt : ∀ (i : Nat) (h : i < s.data.toList.length), bt s (i : Int) = ((s.data.toList[i]).toNat : Int) := fun i h => by
  have := Xf s.data.toList i h
  rwa [XJ] at this
 have HBT := zk.mk hbt
 clear hbt
 generalize s.data.toList = l at h0 hlen HBT
 have HX := zk.mk (ZM s)
 go_enter Tryz.func104, Tryz.ntmps104
 go_wp2
 go_loopw [3] (fun y W => ∃ i : Nat, y = .int .i64 (i : Int) ∧ i ≤ s.size ∧ W = w ∧ zk ((Js (l.drop i) i && (decide (1 ≤ l.length) && decide (l.length ≤ 10))) = V)) (fun y _ => s.size - (intOf y).toNat)
 case atStart => exact ⟨0, rfl, Nat.zero_le _, rfl, ⟨by rw [List.drop_zero]; exact h0⟩⟩
 case round =>
  clear h0
  obtain ⟨i, rfl, hi, rfl, HV⟩ := hrel
  by_cases hlt : i < s.size
  ·have h1 : i < l.length := by omega
   have hn := HBT.out i h1
   have hv := HV.out
   rw [List.drop_eq_getElem_cons h1, Js] at hv
   generalize l[i] = b at hn hv
   have hx := HX.out (i : Int)
   have hx0 : (0 : Int) ≤ bt s (i : Int) := by omega
   rw [Int.toNat_natCast] at hx
   generalize bt s (i : Int) = n at hn hx hx0
   have p1 : ((i : Int) < (s.size : Int)) = True := eq_true (by omega)
   have p0 : ((0 : Int) ≤ (i : Int)) = True := eq_true (by omega)
   have p3 : i < s.size := hlt
   have jX := zk.mk hv
   have HN := zk.mk hn
   clear hv HV HBT HX hn
   have hc : (97 ≤ n ∧ n ≤ 122) ∨ 122 < n ∨ (91 ≤ n ∧ n ≤ 96) ∨ (65 ≤ n ∧ n ≤ 90) ∨ (58 ≤ n ∧ n ≤ 64) ∨ (48 ≤ n ∧ n ≤ 57) ∨ n < 48 := by omega
   rcases hc with hc | hc | hc | hc | hc | hc | hc
   ·have d0 : decide (97 ≤ n) = true := decide_eq_true (by omega)
    have d1 : decide (n ≤ 122) = true := decide_eq_true (by omega)
    have d2 : decide (65 ≤ n) = true := decide_eq_true (by omega)
    have d3 : decide (n ≤ 90) = false := decide_eq_false (by omega)
    have d4 : decide (n < 48) = false := decide_eq_false (by omega)
    have d5 : decide (57 < n) = true := decide_eq_true (by omega)
    have e1 : wz b = true := by have := HN.out; unfold wz; first | (rw [decide_eq_true (by omega : 97 ≤ b.toNat), decide_eq_true (by omega : b.toNat ≤ 122)]; rfl) | (rw [decide_eq_true (by omega : 65 ≤ b.toNat), decide_eq_true (by omega : b.toNat ≤ 90), Bool.and_true, Bool.or_true])
    have hv2 := jX.out
    rw [e1, Bool.true_or, Bool.true_and] at hv2
    clear hc
    go_wp2
    go_roundw
    case rel => exact ⟨i + 1, by first | rfl | (simp; done) | go_num, by omega, by first | rfl | trivial, ⟨hv2⟩⟩
    case measure => simp [intOf]; omega
   ·have d0 : decide (97 ≤ n) = true := decide_eq_true (by omega)
    have d1 : decide (n ≤ 122) = false := decide_eq_false (by omega)
    have d2 : decide (65 ≤ n) = true := decide_eq_true (by omega)
    have d3 : decide (n ≤ 90) = false := decide_eq_false (by omega)
    have d4 : decide (n < 48) = false := decide_eq_false (by omega)
    have d5 : decide (57 < n) = true := decide_eq_true (by omega)
    have e1 : wz b = false := by have := HN.out; unfold wz; simp only [Bool.or_eq_false_iff, Bool.and_eq_false_iff, decide_eq_false_iff_not]; omega
    have e2 : YG b = false := by have := HN.out; unfold YG; simp only [Bool.and_eq_false_iff, decide_eq_false_iff_not]; omega
    by_cases hi0 : i = 0
    ·have d9 : decide ((i : Int) = 0) = true := decide_eq_true (by omega)
     have d8 : ((i : Int) == 0) = true := beq_iff_eq.2 (by omega)
     have hv2 : false = V := by rw [← jX.out, e1, decide_eq_false (by omega : ¬ i ≠ 0)]; rfl
     subst hv2
     clear hc
     try clear hi0
     try clear d9
     go_wp2
     go_ret
     exact ⟨rfl, qy.refl _⟩
    ·have d9 : decide ((i : Int) = 0) = false := decide_eq_false (by omega)
     have d8 : ((i : Int) == 0) = false := beq_eq_false_iff_ne.2 (by omega)
     have hv2 : false = V := by rw [← jX.out, e1, e2, Bool.and_false]; rfl
     subst hv2
     clear hc
     try clear hi0
     try clear d9
     go_wp2
     go_ret
     exact ⟨rfl, qy.refl _⟩
   ·have d0 : decide (97 ≤ n) = false := decide_eq_false (by omega)
    have d1 : decide (n ≤ 122) = true := decide_eq_true (by omega)
    have d2 : decide (65 ≤ n) = true := decide_eq_true (by omega)
    have d3 : decide (n ≤ 90) = false := decide_eq_false (by omega)
    have d4 : decide (n < 48) = false := decide_eq_false (by omega)
    have d5 : decide (57 < n) = true := decide_eq_true (by omega)
    have e1 : wz b = false := by have := HN.out; unfold wz; simp only [Bool.or_eq_false_iff, Bool.and_eq_false_iff, decide_eq_false_iff_not]; omega
    have e2 : YG b = false := by have := HN.out; unfold YG; simp only [Bool.and_eq_false_iff, decide_eq_false_iff_not]; omega
    by_cases hi0 : i = 0
    ·have d9 : decide ((i : Int) = 0) = true := decide_eq_true (by omega)
     have d8 : ((i : Int) == 0) = true := beq_iff_eq.2 (by omega)
     have hv2 : false = V := by rw [← jX.out, e1, decide_eq_false (by omega : ¬ i ≠ 0)]; rfl
     subst hv2
     clear hc
     try clear hi0
     try clear d9
     go_wp2
     go_ret
     exact ⟨rfl, qy.refl _⟩
    ·have d9 : decide ((i : Int) = 0) = false := decide_eq_false (by omega)
     have d8 : ((i : Int) == 0) = false := beq_eq_false_iff_ne.2 (by omega)
     have hv2 : false = V := by rw [← jX.out, e1, e2, Bool.and_false]; rfl
     subst hv2
     clear hc
     try clear hi0
     try clear d9
     go_wp2
     go_ret
     exact ⟨rfl, qy.refl _⟩
   ·have d0 : decide (97 ≤ n) = false := decide_eq_false (by omega)
    have d1 : decide (n ≤ 122) = true := decide_eq_true (by omega)
    have d2 : decide (65 ≤ n) = true := decide_eq_true (by omega)
    have d3 : decide (n ≤ 90) = true := decide_eq_true (by omega)
    have d4 : decide (n < 48) = false := decide_eq_false (by omega)
    have d5 : decide (57 < n) = true := decide_eq_true (by omega)
    have e1 : wz b = true := by have := HN.out; unfold wz; first | (rw [decide_eq_true (by omega : 97 ≤ b.toNat), decide_eq_true (by omega : b.toNat ≤ 122)]; rfl) | (rw [decide_eq_true (by omega : 65 ≤ b.toNat), decide_eq_true (by omega : b.toNat ≤ 90), Bool.and_true, Bool.or_true])
    have hv2 := jX.out
    rw [e1, Bool.true_or, Bool.true_and] at hv2
    clear hc
    go_wp2
    go_roundw
    case rel => exact ⟨i + 1, by first | rfl | (simp; done) | go_num, by omega, by first | rfl | trivial, ⟨hv2⟩⟩
    case measure => simp [intOf]; omega
   ·have d0 : decide (97 ≤ n) = false := decide_eq_false (by omega)
    have d1 : decide (n ≤ 122) = true := decide_eq_true (by omega)
    have d2 : decide (65 ≤ n) = false := decide_eq_false (by omega)
    have d3 : decide (n ≤ 90) = true := decide_eq_true (by omega)
    have d4 : decide (n < 48) = false := decide_eq_false (by omega)
    have d5 : decide (57 < n) = true := decide_eq_true (by omega)
    have e1 : wz b = false := by have := HN.out; unfold wz; simp only [Bool.or_eq_false_iff, Bool.and_eq_false_iff, decide_eq_false_iff_not]; omega
    have e2 : YG b = false := by have := HN.out; unfold YG; simp only [Bool.and_eq_false_iff, decide_eq_false_iff_not]; omega
    by_cases hi0 : i = 0
    ·have d9 : decide ((i : Int) = 0) = true := decide_eq_true (by omega)
     have d8 : ((i : Int) == 0) = true := beq_iff_eq.2 (by omega)
     have hv2 : false = V := by rw [← jX.out, e1, decide_eq_false (by omega : ¬ i ≠ 0)]; rfl
     subst hv2
     clear hc
     try clear hi0
     try clear d9
     go_wp2
     go_ret
     exact ⟨rfl, qy.refl _⟩
    ·have d9 : decide ((i : Int) = 0) = false := decide_eq_false (by omega)
     have d8 : ((i : Int) == 0) = false := beq_eq_false_iff_ne.2 (by omega)
     have hv2 : false = V := by rw [← jX.out, e1, e2, Bool.and_false]; rfl
     subst hv2
     clear hc
     try clear hi0
     try clear d9
     go_wp2
     go_ret
     exact ⟨rfl, qy.refl _⟩
   ·have d0 : decide (97 ≤ n) = false := decide_eq_false (by omega)
    have d1 : decide (n ≤ 122) = true := decide_eq_true (by omega)
    have d2 : decide (65 ≤ n) = false := decide_eq_false (by omega)
    have d3 : decide (n ≤ 90) = true := decide_eq_true (by omega)
    have d4 : decide (n < 48) = false := decide_eq_false (by omega)
    have d5 : decide (57 < n) = false := decide_eq_false (by omega)
    have e1 : wz b = false := by have := HN.out; unfold wz; simp only [Bool.or_eq_false_iff, Bool.and_eq_false_iff, decide_eq_false_iff_not]; omega
    have e2 : YG b = true := by have := HN.out; unfold YG; rw [decide_eq_true (by omega : 48 ≤ b.toNat), decide_eq_true (by omega : b.toNat ≤ 57)]; rfl
    by_cases hi0 : i = 0
    ·have d9 : decide ((i : Int) = 0) = true := decide_eq_true (by omega)
     have d8 : ((i : Int) == 0) = true := beq_iff_eq.2 (by omega)
     have hv2 : false = V := by rw [← jX.out, e1, decide_eq_false (by omega : ¬ i ≠ 0)]; rfl
     subst hv2
     clear hc
     try clear hi0
     try clear d9
     go_wp2
     go_ret
     exact ⟨rfl, qy.refl _⟩
    ·have d9 : decide ((i : Int) = 0) = false := decide_eq_false (by omega)
     have d8 : ((i : Int) == 0) = false := beq_eq_false_iff_ne.2 (by omega)
     have hv2 := jX.out
     rw [e1, e2, decide_eq_true (by omega : i ≠ 0), Bool.true_and, Bool.or_true, Bool.true_and] at hv2
     clear hc
     go_wp2
     go_roundw
     case rel => exact ⟨i + 1, by first | rfl | (simp; done) | go_num, by omega, by first | rfl | trivial, ⟨hv2⟩⟩
     case measure => simp [intOf]; omega
   ·have d0 : decide (97 ≤ n) = false := decide_eq_false (by omega)
    have d1 : decide (n ≤ 122) = true := decide_eq_true (by omega)
    have d2 : decide (65 ≤ n) = false := decide_eq_false (by omega)
    have d3 : decide (n ≤ 90) = true := decide_eq_true (by omega)
    have d4 : decide (n < 48) = true := decide_eq_true (by omega)
    have d5 : decide (57 < n) = false := decide_eq_false (by omega)
    have e1 : wz b = false := by have := HN.out; unfold wz; simp only [Bool.or_eq_false_iff, Bool.and_eq_false_iff, decide_eq_false_iff_not]; omega
    have e2 : YG b = false := by have := HN.out; unfold YG; simp only [Bool.and_eq_false_iff, decide_eq_false_iff_not]; omega
    by_cases hi0 : i = 0
    ·have d9 : decide ((i : Int) = 0) = true := decide_eq_true (by omega)
     have d8 : ((i : Int) == 0) = true := beq_iff_eq.2 (by omega)
     have hv2 : false = V := by rw [← jX.out, e1, decide_eq_false (by omega : ¬ i ≠ 0)]; rfl
     subst hv2
     clear hc
     try clear hi0
     try clear d9
     go_wp2
     go_ret
     exact ⟨rfl, qy.refl _⟩
    ·have d9 : decide ((i : Int) = 0) = false := decide_eq_false (by omega)
     have d8 : ((i : Int) == 0) = false := beq_eq_false_iff_ne.2 (by omega)
     have hv2 : false = V := by rw [← jX.out, e1, e2, Bool.and_false]; rfl
     subst hv2
     clear hc
     try clear hi0
     try clear d9
     go_wp2
     go_ret
     exact ⟨rfl, qy.refl _⟩
  ·obtain rfl : i = s.size := by omega
   have hv := HV.out
   rw [List.drop_eq_nil_of_le (by omega), Js, Bool.true_and, hlen] at hv
   have q2 : decide ((s.size : Int) < (s.size : Int)) = false := decide_eq_false (by omega)
   by_cases g1 : 1 ≤ s.size
   ·have d1 : decide ((1 : Int) ≤ (s.size : Int)) = true := decide_eq_true (by omega)
    have hv2 : decide ((s.size : Int) ≤ 10) = V := by rw [← hv, decide_eq_true g1, Bool.true_and]; exact decide_eq_decide.2 (by omega)
    clear hv HV HBT HX
    go_wp2
    go_ret
    exact ⟨by first | (rw [← hv2]; done) | (rw [hv2]; done) | (simp [hv2]; done), qy.refl _⟩
   ·have d1 : decide ((1 : Int) ≤ (s.size : Int)) = false := decide_eq_false (by omega)
    have hv2 : false = V := by rw [← hv, decide_eq_false g1]; rfl
    subst hv2
    clear hv HV HBT HX
    go_wp2
    go_ret
    exact ⟨rfl, qy.refl _⟩
end Go.Proofs.YtaifemkokfoadaaGreatDoor
namespace Go.Proofs.YtaifemkokfoadaaGreatDoor
open Go.RowKit Go.Proofs.zy.zK Go.Proofs.zy.yV Go.Proofs.YtaifemkokfoadaaGreatDoor.PX
set_option linter.unusedSimpArgs false
set_option linter.unusedVariables false
theorem zbc (l : List UInt8) (hl : l.length ≤ 140737488355328) : ∀ d i, l.length - i = d → i ≤ l.length → Ev (fun k => vY.l0 k (bar l) (i : Int)) ((l.drop i).all okB && (decide (1 ≤ l.length) && decide (l.length ≤ 10))) := by
 intro d
 induction d with
 | zero =>
  intro i hd hi
  have e : l.drop i = [] := List.drop_eq_nil_of_le (by omega)
  rw [e]
  refine Ev.step (fun k => by rw [vY.l0, uq]) (xA (by omega) ?_)
  by_cases h : 1 ≤ l.length
  ·refine yJ (by omega) (KN ?_ (Ev.now _))
   rw [List.all_nil, decide_eq_true h, Bool.true_and, Bool.true_and]
   exact decide_eq_decide.2 (by omega)
  ·refine xA (by omega) (KN ?_ (Ev.now _))
   rw [List.all_nil, decide_eq_false h]; rfl
 | succ d ih =>
  intro i hd hi
  have h1 : i < l.length := by omega
  have q0 : (0 : Int) ≤ (i : Int) := by omega
  have q1 : (i : Int) < (l.length : Int) := by omega
  have hw : wrap64 ((i : Int) + 1) = ((i + 1 : Nat) : Int) := (XR (by omega) (by omega)).trans (by omega)
  have hr := ih (i + 1) (by omega) (by omega)
  have hb := Xf l i h1
  rw [List.drop_eq_getElem_cons h1, List.all_cons]
  refine Ev.step (fun k => by rw [vY.l0, uq, hb, hw]) (yJ q1 (yJ q0 ?_))
  clear hb hw
  generalize l[i] = b at *
  by_cases a1 : b.toNat < 33
  ·refine yJ (by omega) (KN ?_ (Ev.now _))
   have : okB b = false := by unfold okB; rw [decide_eq_false (by omega : ¬ 33 ≤ b.toNat)]; rfl
   rw [this]; rfl
  ·refine xA (by omega) ?_
   by_cases a2 : 126 < b.toNat
   ·refine yJ (by omega) (KN ?_ (Ev.now _))
    have : okB b = false := by unfold okB; rw [decide_eq_false (by omega : ¬ b.toNat ≤ 126), Bool.and_false]
    rw [this]; rfl
   ·refine xA (by omega) (KN ?_ hr)
    have : okB b = true := by unfold okB; rw [decide_eq_true (by omega : 33 ≤ b.toNat), decide_eq_true (by omega : b.toNat ≤ 126)]; rfl
    rw [this, Bool.true_and]
theorem zVt (l : List UInt8) (hl : l.length ≤ 140737488355328) : Ev (fun k => vY.f k (bar l)) (pK l) := by
 have h1 : Ev (fun k => vY.l0 k (bar l) 0) _ := zbc l hl _ 0 rfl (Nat.zero_le _)
 refine Ev.congr (fun k => by rw [vY.f]) (KN ?_ h1)
 rw [List.drop_zero]
 unfold pK
 rw [Bool.and_comm, Bool.and_assoc]
theorem zw8 (s : ByteArray) (hs : s.size ≤ 140737488355328) (W : World) : Calls Tryz.prog 105 #[.string s] W fun e w' => e = .returned (.bool (pK s.data.toList)) ∧ qy W w' := by
 obtain ⟨k, hk⟩ := (zVt s.data.toList (by rw [Array.length_toList]; exact hs)).rounds
 rw [XJ] at hk
 exact vY.calls k s _ W hk
end Go.Proofs.YtaifemkokfoadaaGreatDoor
namespace Go.Proofs.YtaifemkokfoadaaGreatDoor.PX
open Go.RowKit Go.Proofs.zy.zK Go.Proofs.zy.yt Go.Proofs.zy.yV
attribute [local go_sem] xX xJ xP xR qD qE xV xK   -- for this text's walks alone
set_option linter.unusedVariables false
set_option linter.unusedSimpArgs false
def vN.l0 : Nat → ByteArray → Int → ByteArray → Bool → Int → List (qA) → List (qM) → List (qH) → Option (Bool)
 | 0, _, _, _, _, _, _, _, _ => none
 | k + 1, x1, x5, zVu, zVA, zVB, zqc, zVC, zVD => if x5 < (zqc.length : Int) then (if 0 ≤ x5 then (if ((xH zqc x5).f0).toList = x1.toList then (some true) else (vN.l0 k x1 (wrap64 (x5 + 1)) zVu zVA zVB zqc zVC zVD)) else (none)) else (some false)
def vN.f (k : Nat) (zN : ByteArray) (zO : Bool) (zP : Int) (zn : List (qA)) (zD : List (qM)) (zF : List (qH)) (a1 : ByteArray) : Option (Bool) := vN.l0 k a1 0 zN zO zP zn zD zF
set_option maxHeartbeats 8000000 in
set_option maxRecDepth 100000 in
theorem vN.calls (k : Nat) (zN : ByteArray) (zO : Bool) (zP : Int) (qJ : Option Addr) (qZ : Nat) (zn : List (qA)) (qK : Option Addr) (qQ : Nat) (zD : List (qM)) (qY : Option Addr) (qX : Nat) (zF : List (qH)) (a1 : ByteArray) (r : Bool) (w : World) (wY : Kd.C YQ w qJ zn.length zn) (pW : zn.length ≤ qZ) (pE : Kd.C Yt w qK zD.length zD) (pF : zD.length ≤ qQ) (pG : Kd.C Yu w qY zF.length zF) (pI : zF.length ≤ qX) (h : vN.f k zN zO zP zn zD zF a1 = some r) :
  Calls Tryz.prog 63 #[.agg #[.string zN, .bool zO, .int .i64 zP, .slice qJ zn.length qZ, .slice qK zD.length qQ, .slice qY zF.length qX], .string a1] w fun e w' => e = .returned (.bool r) ∧ Below w.heap.size w w' := by
 have zyw := Tryz.underlying44
 have wS := zk.mk wY
 have Xh := zk.mk pW
 clear wY pW
 have ZB := zk.mk pE
 have Xi := zk.mk pF
 clear pE pF
 have ZC := zk.mk pG
 have Xl := zk.mk pI
 clear pG pI
 have HB := zk.mk (Below.refl w.heap.size w)
 have H : (vN.l0 k a1 0 zN zO zP zn zD zF) = some r := h
 clear h
 have H' := zk.mk H
 clear H
 go_enter Tryz.func63, Tryz.ntmps63
 go_wp2_with (first | ((with_reducible refine xI (N := 2) rfl ?_); refine vJ ?hg (N := 2) ?hd (cs := #[.string zN, .bool zO, .int .i64 zP, .slice qJ zn.length qZ, .slice qK zD.length qQ, .slice qY zF.length qX]) (t := 44) ?hr ?_; (case hd => rfl); (case hg => rfl); (case hr => first | (go_simp; done) | (go_simp; rfl)); intro wG hg w3 vX hb; have zl := zk.mk (yg (yQ HB.out) hb); have zC := zk.mk (vX); have zM := zk.mk ((by rw [hg]; exact (zH (yQ HB.out)) : w.heap.size ≤ wG)); have zT := zk.mk ((by rw [hg]; exact (zH (yQ HB.out)) : w.heap.size ≤ wG)); clear HB; have HB := zl; have uG := zC; have zlL := zM; have zXR := zT; clear zl zC zM zT; clear hb vX hg))
 go_loopg [5] k (fun kq v5 w' => ∃ (kH : Int), v5 = .int .i64 kH ∧ zk (vN.l0 kq a1 kH zN zO zP zn zD zF = some r) ∧ zk (kq ≤ k) ∧ zk (w'.heap[wG]? = some (.cells #[.string zN, .bool zO, .int .i64 zP, (.slice qJ zn.length qZ), (.slice qK zD.length qQ), (.slice qY zF.length qX)] 44 (0, 0))) ∧ zk (Below w.heap.size w w'))
 case atStart => exact ⟨(0), (by first | rfl | (simp; done) | (simp [*]; done)), H', ⟨Nat.le_refl _⟩, ⟨qV uG.out⟩, ⟨yQ HB.out⟩⟩
 case round =>
  clear H'
  try clear p2
  obtain ⟨kH, rfl, HA, jl, uG, HB⟩ := hrel
  cases gk with
  | zero => exact absurd HA.out (by simp [vN.l0])
  | succ k1 =>
   have H := HA.out
   clear HA
   simp only [vN.l0] at H
   by_cases c4 : kH < (zn.length : Int)
   ·rw [if_pos c4] at H
    have JD : decide (kH < (zn.length : Int)) = true := decide_eq_true c4
    clear c4
    by_cases c5 : 0 ≤ kH
    ·rw [if_pos c5] at H
     have VB : decide (0 ≤ kH) = true := decide_eq_true c5
     clear c5
     by_cases c6 : ((xH zn kH).f0).toList = a1.toList
     ·rw [if_pos c6] at H
      have Zf : (((xH zn kH).f0).toList == a1.toList) = true := beq_iff_eq.mpr c6
      have UK : (((xH zn kH).f0).toList != a1.toList) = false := bne_eq_false_iff_eq.mpr c6
      clear c6
      obtain rfl := Option.some.inj H
      have zKL : wr.cell? ⟨wG, 0, none⟩ = some (.string zN) := (zx uG.out 0).trans rfl
      have zKM : wr.cell? ⟨wG, 1, none⟩ = some (.bool zO) := (zx uG.out 1).trans rfl
      have zKN : wr.cell? ⟨wG, 2, none⟩ = some (.int .i64 zP) := (zx uG.out 2).trans rfl
      have zKO : wr.cell? ⟨wG, 3, none⟩ = some (.slice qJ zn.length qZ) := (zx uG.out 3).trans rfl
      have zKP : wr.cell? ⟨wG, 4, none⟩ = some (.slice qK zD.length qQ) := (zx uG.out 4).trans rfl
      have zKR : wr.cell? ⟨wG, 5, none⟩ = some (.slice qY zF.length qX) := (zx uG.out 5).trans rfl
      have zKS := zw uG.out 0
      have zKT := zw uG.out 1
      have zKU := zw uG.out 2
      have zK0 := zw uG.out 3
      have zK1 := zw uG.out 4
      have zK2 := zw uG.out 5
      have lI : 0 ≤ (kH : Int) := of_decide_eq_true (by first | (with_reducible assumption) | assumption)
      have lM : kH < (zn.length : Int) := of_decide_eq_true (by first | (with_reducible assumption) | assumption)
      obtain ⟨zbd, zQa, JZ, JQ⟩ := VA wS.out kH lI lM
      cases zQa
      replace JZ := (HB.out.cell (World.block_lt_of_cell? w _ JZ)).trans JZ
      replace JQ := (HB.out.cell (World.block_lt_of_cell? w _ JQ)).trans JQ
      replace lI := eq_true lI
      replace lM := eq_true lM
      go_wp2
      go_ret
      exact ⟨by first | rfl | (simp [yw, yZ] <;> rfl) | (simp [*, yw, yZ] <;> rfl), by repeat (first | (with_reducible first | exact HB.out | apply yS | apply yx | apply yD | refine qh ?_ zXR.out) | exact HB.out)⟩
     ·rw [if_neg c6] at H
      have Zf : (((xH zn kH).f0).toList == a1.toList) = false := beq_eq_false_iff_ne.mpr c6
      have UK : (((xH zn kH).f0).toList != a1.toList) = true := bne_iff_ne.mpr c6
      have H' := zk.mk H
      clear H
      have ziE : wr.cell? ⟨wG, 0, none⟩ = some (.string zN) := (zx uG.out 0).trans rfl
      have ziF : wr.cell? ⟨wG, 1, none⟩ = some (.bool zO) := (zx uG.out 1).trans rfl
      have ziG : wr.cell? ⟨wG, 2, none⟩ = some (.int .i64 zP) := (zx uG.out 2).trans rfl
      have ziH : wr.cell? ⟨wG, 3, none⟩ = some (.slice qJ zn.length qZ) := (zx uG.out 3).trans rfl
      have ziI : wr.cell? ⟨wG, 4, none⟩ = some (.slice qK zD.length qQ) := (zx uG.out 4).trans rfl
      have ziL : wr.cell? ⟨wG, 5, none⟩ = some (.slice qY zF.length qX) := (zx uG.out 5).trans rfl
      have ziM := zw uG.out 0
      have ziN := zw uG.out 1
      have ziO := zw uG.out 2
      have ziP := zw uG.out 3
      have ziR := zw uG.out 4
      have ziS := zw uG.out 5
      have lI : 0 ≤ (kH : Int) := of_decide_eq_true (by first | (with_reducible assumption) | assumption)
      have lM : kH < (zn.length : Int) := of_decide_eq_true (by first | (with_reducible assumption) | assumption)
      obtain ⟨zbd, zQa, JZ, JQ⟩ := VA wS.out kH lI lM
      cases zQa
      replace JZ := (HB.out.cell (World.block_lt_of_cell? w _ JZ)).trans JZ
      replace JQ := (HB.out.cell (World.block_lt_of_cell? w _ JQ)).trans JQ
      replace lI := eq_true lI
      replace lM := eq_true lM
      go_wp2
      go_roundg k1
      case measure => have := jl.out; omega
      case rel => exact ⟨(wrap64 (kH + 1)), (by first | rfl | (simp; done) | (simp [*]; done)), H', ⟨by have := jl.out; omega⟩, ⟨qV uG.out⟩, ⟨yQ HB.out⟩⟩
    ·rw [if_neg c5] at H
     exact absurd H (by simp)
   ·rw [if_neg c4] at H
    have JD : decide (kH < (zn.length : Int)) = false := decide_eq_false c4
    clear c4
    obtain rfl := Option.some.inj H
    have Qj : wr.cell? ⟨wG, 0, none⟩ = some (.string zN) := (zx uG.out 0).trans rfl
    have Qv : wr.cell? ⟨wG, 1, none⟩ = some (.bool zO) := (zx uG.out 1).trans rfl
    have Qk : wr.cell? ⟨wG, 2, none⟩ = some (.int .i64 zP) := (zx uG.out 2).trans rfl
    have Qy : wr.cell? ⟨wG, 3, none⟩ = some (.slice qJ zn.length qZ) := (zx uG.out 3).trans rfl
    have Qw : wr.cell? ⟨wG, 4, none⟩ = some (.slice qK zD.length qQ) := (zx uG.out 4).trans rfl
    have QZ : wr.cell? ⟨wG, 5, none⟩ = some (.slice qY zF.length qX) := (zx uG.out 5).trans rfl
    have QX := zw uG.out 0
    have QJ := zw uG.out 1
    have QV := zw uG.out 2
    have QK := zw uG.out 3
    have QY := zw uG.out 4
    have QW := zw uG.out 5
    go_wp2
    go_ret
    exact ⟨by first | rfl | (simp [yw, yZ] <;> rfl) | (simp [*, yw, yZ] <;> rfl), by repeat (first | (with_reducible first | exact HB.out | apply yS | apply yx | apply yD | refine qh ?_ zXR.out) | exact HB.out)⟩
end Go.Proofs.YtaifemkokfoadaaGreatDoor.PX
namespace Go.Proofs.YtaifemkokfoadaaGreatDoor.PX
open Go.RowKit Go.Proofs.zy.zK Go.Proofs.zy.yt Go.Proofs.zy.yV
attribute [local go_sem] xX xJ xP xR qD qE xV xK   -- for this text's walks alone
set_option linter.unusedVariables false
set_option linter.unusedSimpArgs false
def Yz.f (a0 : ByteArray) (a1 : ByteArray) (a2 : ByteArray) (a3 : ByteArray) : Option (Bool) := if (Op.bytesLess a0.toList a2.toList) = true then (some true) else (if a0.toList = a2.toList then (some (Op.bytesLess a1.toList a3.toList)) else (some false))
set_option maxHeartbeats 8000000 in
set_option maxRecDepth 100000 in
theorem Yz.calls (a0 : ByteArray) (a1 : ByteArray) (a2 : ByteArray) (a3 : ByteArray) (r : Bool) (w : World) (h : Yz.f a0 a1 a2 a3 = some r) :
  Calls Tryz.prog 106 #[.string a0, .string a1, .string a2, .string a3] w fun e w' => e = .returned (.bool r) ∧ qy w w' := by
 have H : (if (Op.bytesLess a0.toList a2.toList) = true then (some true) else (if a0.toList = a2.toList then (some (Op.bytesLess a1.toList a3.toList)) else (some false))) = some r := h
 clear h
 by_cases c5 : (Op.bytesLess a0.toList a2.toList) = true
 ·rw [if_pos c5] at H
  have VB : (Op.bytesLess a0.toList a2.toList) = true := c5
  have zde : (!(Op.bytesLess a2.toList a0.toList || a2.toList == a0.toList)) = true := (Kj _ _).trans (c5)
  have zdf : (a0.toList == a2.toList) = false := zkO (c5)
  have zdg : (a2.toList == a0.toList) = false := zxl (c5)
  have zm1 : Op.bytesLess a2.toList a0.toList = false := zzR (c5)
  clear c5
  obtain rfl := Option.some.inj H
  go_enter Tryz.func106, Tryz.ntmps106
  go_wp2
  go_ret
  exact ⟨by first | rfl | (simp; done) | (simp [*]; done), by repeat (first | exact qy.refl _ | apply qy.step)⟩
 ·rw [if_neg c5] at H
  have VB : (Op.bytesLess a0.toList a2.toList) = false := by simpa using c5
  have zde : (!(Op.bytesLess a2.toList a0.toList || a2.toList == a0.toList)) = false := (Kj _ _).trans (by simpa using c5)
  try have zdf : (a0.toList == a2.toList) = true := tT (x := a0.toList) (y := a2.toList) (by assumption) (by assumption)
  try have zdg : (a2.toList == a0.toList) = true := tT (x := a2.toList) (y := a0.toList) (by assumption) (by assumption)
  clear c5
  by_cases c6 : a0.toList = a2.toList
  ·rw [if_pos c6] at H
   have Zf : (a0.toList == a2.toList) = true := beq_iff_eq.mpr c6
   have UK : (a0.toList != a2.toList) = false := bne_eq_false_iff_eq.mpr c6
   clear c6
   obtain rfl := Option.some.inj H
   go_enter Tryz.func106, Tryz.ntmps106
   go_wp2
   go_ret
   exact ⟨by first | rfl | (simp; done) | (simp [*]; done), by repeat (first | exact qy.refl _ | apply qy.step)⟩
  ·rw [if_neg c6] at H
   have Zf : (a0.toList == a2.toList) = false := beq_eq_false_iff_ne.mpr c6
   have UK : (a0.toList != a2.toList) = true := bne_iff_ne.mpr c6
   obtain rfl := Option.some.inj H
   go_enter Tryz.func106, Tryz.ntmps106
   go_wp2
   go_ret
   exact ⟨by first | rfl | (simp; done) | (simp [*]; done), by repeat (first | exact qy.refl _ | apply qy.step)⟩
end Go.Proofs.YtaifemkokfoadaaGreatDoor.PX
namespace Go.Proofs.YtaifemkokfoadaaGreatDoor
open Go.RowKit Go.Proofs.zy.zK Go.Proofs.zy.yt Go.Proofs.zy.yV Go.Proofs.YtaifemkokfoadaaGreatDoor.PX
set_option linter.unusedSimpArgs false
set_option linter.unusedVariables false
def jL (l : List qA) (n : ByteArray) : Bool := l.any fun x => x.f0.toList == n.toList
def Qd (a b c d : ByteArray) : Bool := Op.bytesLess a.toList c.toList || (a.toList == c.toList && Op.bytesLess b.toList d.toList)
def kR (n : Int) : Bool := decide (n < 0) || decide (3000 < n)
def X5 (l : List qA) (i : Nat) : Bool := pK (xH l (i : Int)).f0.data.toList && (!kR (xH l (i : Int)).f1 && (decide (i = 0) || Op.bytesLess (xH l ((i : Int) - 1)).f0.toList (xH l (i : Int)).f0.toList))
def X6 (l3 : List qA) (l : List qM) (i : Nat) : Bool := jL l3 (xY l (i : Int)).f0 && (jL l3 (xY l (i : Int)).f1 && (jL l3 (xY l (i : Int)).f2 && (decide (i = 0) || Qd (xY l ((i : Int) - 1)).f0 (xY l ((i : Int) - 1)).f1 (xY l (i : Int)).f0 (xY l (i : Int)).f1)))
def Xa (l3 : List qA) (l : List qH) (i : Nat) : Bool := jL l3 (qC l (i : Int)).f0 && (jL l3 (qC l (i : Int)).f1 && (!decide ((qC l (i : Int)).f2 = 0) && (!decide ((qC l (i : Int)).f2 < -500) && (!decide (500 < (qC l (i : Int)).f2) && (decide (i = 0) || Qd (qC l ((i : Int) - 1)).f0 (qC l ((i : Int) - 1)).f1 (qC l (i : Int)).f0 (qC l (i : Int)).f1)))))
def Zc (a : ByteArray) (c : Int) (l3 : List qA) (l4 : List qM) (l5 : List qH) : Bool :=
 (Ze a.data.toList && (!kR c && (decide (l3.length ≤ 400) && (decide (l4.length ≤ 50) && decide (l5.length ≤ 500))))) && ((List.range l3.length).all (X5 l3) && ((List.range l4.length).all (X6 l3 l4) && (List.range l5.length).all (Xa l3 l5)))
theorem lN {f : Nat → Bool} {n : Nat} (h : ∀ i, i < n → f i = true) : (List.range n).all f = true := List.all_eq_true.2 fun i hi => h i (List.mem_range.1 hi)
theorem uf {f : Nat → Bool} {n i : Nat} (hi : i < n) (h : f i = false) : (List.range n).all f = false := by
 cases e : (List.range n).all f with
 | false => rfl
 | true => exact absurd (List.all_eq_true.1 e i (List.mem_range.2 hi)) (by rw [h]; simp)
theorem hasL (a : ByteArray) (b : Bool) (c : Int) (l : List qA) (l4 : List qM) (l5 : List qH) (n : ByteArray) (hl : l.length ≤ 1000000000) : ∀ d i, l.length - i = d → i ≤ l.length → Ev (fun k => vN.l0 k n (i : Int) a b c l l4 l5) (jL (l.drop i) n) := by
 intro d
 induction d with
 | zero =>
  intro i hd hi
  rw [List.drop_eq_nil_of_le (by omega)]
  refine KN (r := false) rfl (Ev.step (fun k => by rw [vN.l0]) (xA (by omega) (Ev.now _)))
 | succ d ih =>
  intro i hd hi
  have h1 : i < l.length := by omega
  have q0 : (0 : Int) ≤ (i : Int) := by omega
  have q1 : (i : Int) < (l.length : Int) := by omega
  have hw : wrap64 ((i : Int) + 1) = ((i + 1 : Nat) : Int) := (XR (by omega) (by omega)).trans (by omega)
  have hr := ih (i + 1) (by omega) (by omega)
  have e : xH l (i : Int) = l[i] := by simp [xH, List.getD_eq_getElem?_getD, h1]
  rw [List.drop_eq_getElem_cons h1]
  unfold jL
  rw [List.any_cons]
  refine Ev.step (fun k => by rw [vN.l0, hw, e]) (yJ q1 (yJ q0 ?_))
  by_cases hx : l[i].f0.toList = n.toList
  ·refine yJ hx (KN ?_ (Ev.now _))
   rw [beq_iff_eq.2 hx, Bool.true_or]
  ·refine xA hx (KN ?_ hr)
   rw [beq_eq_false_iff_ne.2 hx, Bool.false_or]; rfl
theorem zxq (a : ByteArray) (b : Bool) (c : Int) (A3 : Option Addr) (c3 : Nat) (l3 : List qA) (A4 : Option Addr) (c4 : Nat) (l4 : List qM) (A5 : Option Addr) (c5 : Nat) (l5 : List qH) (n : ByteArray) (w : World) (h3 : Kd.C YQ w A3 l3.length l3) (g3 : l3.length ≤ c3) (h4 : Kd.C Yt w A4 l4.length l4) (g4 : l4.length ≤ c4) (h5 : Kd.C Yu w A5 l5.length l5) (g5 : l5.length ≤ c5) (hl3 : l3.length ≤ 1000000000) :
  Calls Tryz.prog 63 #[.agg #[.string a, .bool b, .int .i64 c, .slice A3 l3.length c3, .slice A4 l4.length c4, .slice A5 l5.length c5], .string n] w fun e w' => e = .returned (.bool (jL l3 n)) ∧ Below w.heap.size w w' := by
 have h1 : Ev (fun k => vN.l0 k n 0 a b c l3 l4 l5) _ := hasL a b c l3 l4 l5 n hl3 _ 0 rfl (Nat.zero_le _)
 have h2 : Ev (fun k => vN.f k a b c l3 l4 l5 n) (jL l3 n) := Ev.congr (fun k => by rw [vN.f]) h1
 obtain ⟨k, hk⟩ := h2.rounds
 exact vN.calls k a b c A3 c3 l3 A4 c4 l4 A5 c5 l5 n _ w h3 g3 h4 g4 h5 g5 hk
theorem zv1 (a b c d : ByteArray) (w : World) : Calls Tryz.prog 106 #[.string a, .string b, .string c, .string d] w fun e w' => e = .returned (.bool (Qd a b c d)) ∧ qy w w' := by
 refine Yz.calls a b c d _ w ?_
 unfold Yz.f Qd
 by_cases h1 : Op.bytesLess a.toList c.toList = true
 ·rw [if_pos h1, h1, Bool.true_or]
 ·rw [if_neg h1]
  by_cases h2 : a.toList = c.toList
  ·rw [if_pos h2, (by simpa using h1 : Op.bytesLess a.toList c.toList = false), beq_iff_eq.2 h2, Bool.false_or, Bool.true_and]
  ·rw [if_neg h2, (by simpa using h1 : Op.bytesLess a.toList c.toList = false), beq_eq_false_iff_ne.2 h2, Bool.false_or, Bool.false_and]
theorem jN {w w' : World} (h : qy w w') : Below w.heap.size w w' := by
 obtain ⟨⟨n, rfl⟩⟩ := h
 exact yx (Below.refl _ _) n
end Go.Proofs.YtaifemkokfoadaaGreatDoor
namespace Go.Proofs.YtaifemkokfoadaaGreatDoor
open Go.RowKit Go.Proofs.zy.zK Go.Proofs.zy.yV Go.Proofs.YtaifemkokfoadaaGreatDoor.PX
set_option linter.unusedSimpArgs false
set_option linter.unusedVariables false
theorem Jt (a b : ByteArray) : Op.bytesLess a.toList b.toList = true ↔ a.toList < b.toList := by rw [Go.Proofs.bytesLess_eq]; exact decide_eq_true_iff
theorem Qp {a b : ByteArray} : uX a b < 0 ↔ a.toList < b.toList := by
 rw [← Jt]
 unfold uX
 by_cases h1 : Op.bytesLess a.toList b.toList = true
 ·simp [h1]
 ·by_cases h2 : Op.bytesLess b.toList a.toList = true <;> simp [h1, h2]
theorem W9 {a b : ByteArray} : a.toList = b.toList ↔ a = b := by
 constructor
 ·intro h
  rw [Lib.toList_data, Lib.toList_data] at h
  exact ByteArray.ext (Array.toList_inj.1 h)
 ·rintro rfl
  rfl
theorem sG (a : ByteArray) : uX a a = 0 := by
 unfold uX
 have h : ¬ Op.bytesLess a.toList a.toList = true := by rw [Jt]; exact List.lt_irrefl _
 rw [if_neg h, if_neg h]
theorem zqP {a b : ByteArray} : uX a b = 0 ↔ a = b := by
 constructor
 ·intro h
  unfold uX at h
  by_cases h1 : Op.bytesLess a.toList b.toList = true
  ·rw [if_pos h1] at h; cases h
  ·rw [if_neg h1] at h
   by_cases h2 : Op.bytesLess b.toList a.toList = true
   ·rw [if_pos h2] at h; cases h
   ·rw [Jt] at h1 h2
    exact W9.1 (List.le_antisymm (List.not_lt.1 h2) (List.not_lt.1 h1))
 ·rintro rfl
  exact sG a
theorem Pz (l : List qB) (i : Nat) (h : i < l.length) : qI l (i : Int) = l[i] := by simp [qI, List.getD_eq_getElem?_getD, h]
def Asc (l : List qB) : Prop := ∀ (i j : Nat) (hi : i < l.length) (hj : j < l.length), i < j → l[i].f0.toList < l[j].f0.toList
theorem zw9 {l : List qB} (h : pY (fun i j => Qo (qI l (i : Int)) (qI l (j : Int))) l.length = true) : Asc l := by
 have h1 : ∀ (i : Nat) (hi : i + 1 < l.length), l[i].f0.toList < l[i + 1].f0.toList := by
  intro i hi
  have h2 := List.all_eq_true.1 h i (List.mem_range.2 (by omega))
  rw [decide_eq_true_iff] at h2
  have h2 : Qo (qI l (i : Int)) (qI l ((i + 1 : Nat) : Int)) < 0 := h2
  rw [Pz l i (by omega), Pz l (i + 1) hi] at h2
  exact Qp.1 h2
 have h3 : ∀ (d i : Nat) (hi : i + d + 1 < l.length), l[i].f0.toList < l[i + d + 1].f0.toList := by
  intro d
  induction d with
  | zero => intro i hi; exact h1 i hi
  | succ d ih => intro i hi; exact List.lt_trans (ih i (by omega)) (h1 (i + d + 1) hi)
 intro i j hi hj hij
 have h4 := h3 (j - i - 1) i (by omega)
 have e : i + (j - i - 1) + 1 = j := by omega
 simpa only [e] using h4
theorem zQb (l : List qB) (n : ByteArray) (ha : Asc l) (i j : Nat) (hij : i ≤ j) (hj : j ≤ l.length) (h1 : ∀ (m : Nat) (hm : m < l.length), m < i → l[m].f0.toList < n.toList) (h2 : ∀ (m : Nat) (hm : m < l.length), j ≤ m → ¬ l[m].f0.toList < n.toList) :
  (∀ (m : Nat) (hm : m < l.length), m < Jl l n i j → l[m].f0.toList < n.toList) ∧ (∀ (m : Nat) (hm : m < l.length), Jl l n i j ≤ m → ¬ l[m].f0.toList < n.toList) := by
 fun_induction Jl l n i j with
 | case1 i j hlt hc ih =>
  have hm : (i + j) / 2 < l.length := by omega
  rw [Pz l _ hm, Qp] at hc
  refine ih (by omega) hj (fun m hml hmi => ?_) h2
  by_cases he : m = (i + j) / 2
  ·subst he; exact hc
  ·exact List.lt_trans (ha m _ hml hm (by omega)) hc
 | case2 i j hlt hc ih =>
  have hm : (i + j) / 2 < l.length := by omega
  rw [Pz l _ hm, Qp] at hc
  refine ih (by omega) (by omega) h1 (fun m hml hmi hlt' => ?_)
  by_cases he : m = (i + j) / 2
  ·subst he; exact hc hlt'
  ·exact hc (List.lt_trans (ha _ m hm hml (by omega)) hlt')
 | case3 i j hlt =>
  obtain rfl : i = j := by omega
  exact ⟨h1, h2⟩
theorem zVE (l : List qB) (ha : Asc l) (m : Nat) (hm : m < l.length) : ZR l l[m].f0 = ((m : Int), true) := by
 obtain ⟨h1, h2⟩ := zQb l l[m].f0 ha 0 l.length (Nat.zero_le _) (Nat.le_refl _) (fun m _ h => absurd h (Nat.not_lt_zero _)) (fun m hm h => absurd hm (by omega))
 have e : Jl l l[m].f0 0 l.length = m := by
  rcases Nat.lt_trichotomy (Jl l l[m].f0 0 l.length) m with h | h | h
  ·exact absurd (ha _ m (by omega) hm h) (h2 _ (by omega) (Nat.le_refl _))
  ·exact h
  ·exact absurd (h1 m hm h) (List.lt_irrefl _)
 unfold ZR
 simp only [e, decide_eq_true hm, Bool.true_and, Pz l m hm]
 rw [sG]
 rfl
theorem zVF (l : List qB) (n : ByteArray) (h : ∀ x ∈ l, x.f0 ≠ n) : (ZR l n).2 = false := by
 unfold ZR
 simp only
 by_cases hi : Jl l n 0 l.length < l.length
 ·rw [Pz l _ hi]
  have : ¬ uX l[Jl l n 0 l.length].f0 n = 0 := fun e => h _ (List.getElem_mem hi) (zqP.1 e)
  rw [decide_eq_false this, Bool.and_false]
 ·rw [decide_eq_false hi, Bool.false_and]
theorem lS (l : List qB) (ha : Asc l) (n : ByteArray) : (ZR l n).2 = l.any fun x => decide (x.f0 = n) := by
 by_cases h : ∃ x ∈ l, x.f0 = n
 ·obtain ⟨x, hx, rfl⟩ := h
  obtain ⟨m, hm, rfl⟩ := List.getElem_of_mem hx
  rw [zVE l ha m hm]
  exact (List.any_eq_true.2 ⟨_, hx, by simp⟩).symm
 ·rw [zVF l n (fun x hx e => h ⟨x, hx, e⟩)]
  refine (List.any_eq_false.2 fun x hx => ?_).symm
  simpa using fun e => h ⟨x, hx, e⟩
end Go.Proofs.YtaifemkokfoadaaGreatDoor
namespace Go.Proofs.YtaifemkokfoadaaGreatDoor
open Go.RowKit Go.Proofs.zy.zK Go.Proofs.zy.yt Go.Proofs.zy.yV Go.Proofs.YtaifemkokfoadaaGreatDoor.PX
set_option linter.unusedSimpArgs false
set_option linter.unusedVariables false
section
variable {α β γ : Type} {dA : Kd α} {eA : TypeId} {dB : Kd β} {eB : TypeId} {dC : Kd γ} {eC tF tX : TypeId} {w : World} {gf gr gx : Nat} {CF : Array Value} {a : ByteArray} {b : Bool} {c : Int} {v3 v4 v5 : Value} {m3 : List α} {m4 : List β} {m5 : List γ} {W : World}
end
end Go.Proofs.YtaifemkokfoadaaGreatDoor
namespace Go.Proofs.YtaifemkokfoadaaGreatDoor
open Go.RowKit Go.Proofs.zy.zK Go.Proofs.zy.yt Go.Proofs.zy.yV Go.Proofs.YtaifemkokfoadaaGreatDoor.PX
set_option linter.unusedSimpArgs false
set_option linter.unusedVariables false
def p9 (x : qB) : qA := ⟨x.f0, x.f1⟩
def Vp.T5 : Bool × List (List Nat × List Nat) := (true, [([], []), ([0], [0]), ([], []), ([2], [2]), ([], []), ([3, 4], [3, 4]), ([5], [5]), ([6], [6]), ([], []), ([8], [8]), ([], []), ([9, 10], [9, 10]), ([11], [11]), ([12], [12]), ([7, 13], [7, 13]), ([14], [14]), ([1, 15], [1, 15]), ([0, 1, 2, 3, 4, 5, 6, 7, 8, 9, 10, 11, 12, 13, 14, 15, 16], []), ([17, 16, 16, 0, 1, 2, 3, 4, 5, 6, 7, 8, 9, 10, 11, 12, 13, 14, 15, 16], [16, 17])])
def Vp.B5 : List Nat := [0, 1, 0, 4, 0, 28, 60, 124, 0, 256, 0, 1792, 3840, 7936, 16380, 32764, 65535, 131071, 262143]
theorem Vp.mJ : uz .any (opsOf Tryz.f16 5) = Vp.T5 := by kernel_rfl
theorem Vp.mI : uZ Vp.T5.2 Vp.B5 = true := by kernel_rfl
def YP (x : xC) : qM := ⟨x.f0, x.f1, x.f2⟩
def Vp.T9 : Bool × List (List Nat × List Nat) := (true, [([], []), ([0], [0]), ([], []), ([2], [2]), ([], []), ([3, 4], [3, 4]), ([5], [5]), ([6], [6]), ([], []), ([8], [8]), ([], []), ([9, 10], [9, 10]), ([11], [11]), ([12], [12]), ([], []), ([14], [14]), ([], []), ([15, 16], [15, 16]), ([17], [17]), ([18], [18]), ([7, 13, 19], [7, 13, 19]), ([20], [20]), ([1, 21], [1, 21]), ([0, 1, 2, 3, 4, 5, 6, 7, 8, 9, 10, 11, 12, 13, 14, 15, 16, 17, 18, 19, 20, 21, 22], []), ([23, 22, 22, 0, 1, 2, 3, 4, 5, 6, 7, 8, 9, 10, 11, 12, 13, 14, 15, 16, 17, 18, 19, 20, 21, 22], [22, 23])])
def Vp.B9 : List Nat := [0, 1, 0, 4, 0, 28, 60, 124, 0, 256, 0, 1792, 3840, 7936, 0, 16384, 0, 114688, 245760, 507904, 1048572, 2097148, 4194303, 8388607, 16777215]
theorem Vp.zZ8 : uz .any (opsOf Tryz.f16 9) = Vp.T9 := by kernel_rfl
theorem Vp.zyQ : uZ Vp.T9.2 Vp.B9 = true := by kernel_rfl
def YR (x : xS) : qH := ⟨x.f0, x.f1, x.f2⟩
def Vp.Wu : Bool × List (List Nat × List Nat) := (true, [([], []), ([0], [0]), ([], []), ([2], [2]), ([], []), ([3, 4], [3, 4]), ([5], [5]), ([6], [6]), ([], []), ([8], [8]), ([], []), ([9, 10], [9, 10]), ([11], [11]), ([12], [12]), ([], []), ([14], [14]), ([], []), ([15, 16], [15, 16]), ([17], [17]), ([18], [18]), ([7, 13, 19], [7, 13, 19]), ([20], [20]), ([1, 21], [1, 21]), ([0, 1, 2, 3, 4, 5, 6, 7, 8, 9, 10, 11, 12, 13, 14, 15, 16, 17, 18, 19, 20, 21, 22], []), ([23, 22, 22, 0, 1, 2, 3, 4, 5, 6, 7, 8, 9, 10, 11, 12, 13, 14, 15, 16, 17, 18, 19, 20, 21, 22], [22, 23])])
def Vp.B13 : List Nat := [0, 1, 0, 4, 0, 28, 60, 124, 0, 256, 0, 1792, 3840, 7936, 0, 16384, 0, 114688, 245760, 507904, 1048572, 2097148, 4194303, 8388607, 16777215]
theorem Vp.YI : uz .any (opsOf Tryz.f16 13) = Vp.Wu := by kernel_rfl
theorem Vp.Zl : uZ Vp.Wu.2 Vp.B13 = true := by kernel_rfl
end Go.Proofs.YtaifemkokfoadaaGreatDoor
namespace Go.Proofs.YtaifemkokfoadaaGreatDoor
open Go.RowKit Go.Shelf Go.Proofs.zy.zK Go.Proofs.zy.yt Go.Proofs.zy.yV Go.Proofs.YtaifemkokfoadaaGreatDoor.PX
def VR (l : List qB) (n : ByteArray) : Bool := l.any fun x => x.f0.toList == n.toList
end Go.Proofs.YtaifemkokfoadaaGreatDoor
namespace Go.Proofs.YtaifemkokfoadaaGreatDoor
open Go.RowKit Go.Proofs.zy.zK Go.Proofs.zy.yV Go.Proofs.YtaifemkokfoadaaGreatDoor.PX
set_option linter.unusedSimpArgs false
set_option linter.unusedVariables false
theorem zjQ (l : List qB) (i : Nat) (h : i < l.length) : xH (l.map p9) (i : Int) = p9 l[i] := by simp [xH, List.getD_eq_getElem?_getD, h]
theorem zjX (l : List xC) (i : Nat) (h : i < l.length) : xY (l.map YP) (i : Int) = YP l[i] := by simp [xY, List.getD_eq_getElem?_getD, h]
theorem zjJ (l : List xS) (i : Nat) (h : i < l.length) : qC (l.map YR) (i : Int) = YR l[i] := by simp [qC, List.getD_eq_getElem?_getD, h]
theorem zyp (l : List xC) (i : Nat) (h : i < l.length) : xB l (i : Int) = l[i] := by simp [xB, List.getD_eq_getElem?_getD, h]
theorem zyr (l : List xS) (i : Nat) (h : i < l.length) : xE l (i : Int) = l[i] := by simp [xE, List.getD_eq_getElem?_getD, h]
theorem JX (l : List qB) (n : ByteArray) : jL (l.map p9) n = VR l n := by
 unfold jL VR
 rw [List.any_map]; rfl
theorem Wy (l : List qB) (ha : Asc l) (n : ByteArray) : VR l n = (ZR l n).2 := by
 rw [lS l ha n]
 unfold VR
 refine List.any_congr rfl (fun x => ?_)
 by_cases h : x.f0 = n
 ·rw [h]; simp
 ·rw [decide_eq_false h]
  exact beq_eq_false_iff_ne.2 (fun e => h (W9.1 e))
theorem WE (a b c d : ByteArray) : Qd a b c d = true ↔ o9 (uX a c) (uX b d) < 0 := by
 unfold Qd o9
 by_cases h0 : a = c
 ·subst h0
  have h1 : ¬ Op.bytesLess a.toList a.toList = true := by rw [Jt]; exact List.lt_irrefl _
  have h2 : Op.bytesLess a.toList a.toList = false := by simpa using h1
  rw [sG, if_pos rfl, h2, Bool.false_or, beq_self_eq_true, Bool.true_and, Qp, Jt]
 ·rw [if_neg (fun e => h0 (zqP.1 e)), Qp, ← Jt]
  have h1 : (a.toList == c.toList) = false := beq_eq_false_iff_ne.2 (fun e => h0 (W9.1 e))
  rw [h1, Bool.false_and, Bool.or_false]
theorem sH {α : Type} (l : List α) (P : α → Prop) : (∀ x ∈ l, P x) ↔ ∀ (i : Nat) (h : i < l.length), P l[i] := by
 constructor
 ·intro h i hi; exact h _ (List.getElem_mem hi)
 ·intro h x hx
  obtain ⟨i, hi, rfl⟩ := List.getElem_of_mem hx
  exact h i hi
theorem VT {f : Nat → Bool} {n : Nat} : (List.range n).all f = true ↔ ∀ i, i < n → f i = true := by
 rw [List.all_eq_true]
 exact ⟨fun h i hi => h i (List.mem_range.2 hi), fun h i hi => h i (List.mem_range.1 hi)⟩
theorem zqd {c : Nat → Nat → Int} {n : Nat} : pY c n = true ↔ ∀ i, i + 1 < n → c i (i + 1) < 0 := by
 unfold pY
 rw [VT]
 exact ⟨fun h i hi => of_decide_eq_true (h i (by omega)), fun h i hi => decide_eq_true (h i (by omega))⟩
theorem zv2 (l : List qB) : (List.range l.length).all (X5 (l.map p9)) = true ↔ l.any Uz = false ∧ pY (fun i j => Qo (qI l (i : Int)) (qI l (j : Int))) l.length = true := by
 rw [VT, zqd, List.any_eq_false, sH]
 constructor
 ·intro h
  refine ⟨fun i hi => ?_, fun i hi => ?_⟩
  ·have h1 := h i hi
   unfold X5 at h1
   rw [zjQ l i hi] at h1
   simp only [Bool.and_eq_true, Bool.not_eq_true'] at h1
   unfold Uz
   have e : Xv l[i].f1 = kR (p9 l[i]).f1 := rfl
   rw [e, h1.2.1, Bool.or_false]
   have e2 : pK l[i].f0.data.toList = true := h1.1
   rw [e2]; simp
  ·have h1 := h (i + 1) hi
   unfold X5 at h1
   rw [zjQ l (i + 1) hi, show (((i + 1 : Nat) : Int) - 1) = (i : Int) by omega, zjQ l i (by omega), decide_eq_false (by omega : ¬ i + 1 = 0), Bool.false_or] at h1
   simp only [Bool.and_eq_true] at h1
   show uX _ _ < 0
   rw [Pz l i (by omega), Pz l (i + 1) hi, Qp, ← Jt]
   exact h1.2.2
 ·rintro ⟨h1, h2⟩ i hi
  unfold X5
  have h3 := h1 i hi
  unfold Uz at h3
  simp only [Bool.or_eq_true, not_or, Bool.not_eq_true, Bool.not_eq_false'] at h3
  rw [zjQ l i hi]
  have e2 : pK (p9 l[i]).f0.data.toList = true := h3.1
  have e3 : kR (p9 l[i]).f1 = false := h3.2
  rw [e2, e3, Bool.true_and, Bool.not_false, Bool.true_and]
  cases i with
  | zero => rfl
  | succ m =>
   have h4 : uX _ _ < 0 := h2 m hi
   rw [Pz l m (by omega), Pz l (m + 1) hi, Qp, ← Jt] at h4
   rw [decide_eq_false (by omega : ¬ m + 1 = 0), Bool.false_or, show (((m + 1 : Nat) : Int) - 1) = (m : Int) by omega, zjQ l m (by omega)]
   exact h4
theorem zv3 (l3 : List qB) (ha : Asc l3) (l : List xC) : (List.range l.length).all (X6 (l3.map p9) (l.map YP)) = true ↔ l.any (K8 l3) = false ∧ pY (fun i j => cmpL (xB l (i : Int)) (xB l (j : Int))) l.length = true := by
 have hb : ∀ x : xC, K8 l3 x = false ↔ VR l3 x.f0 = true ∧ VR l3 x.f1 = true ∧ VR l3 x.f2 = true := by
  intro x
  unfold K8 Uq
  rw [Wy l3 ha, Wy l3 ha, Wy l3 ha]
  simp
 rw [VT, zqd, List.any_eq_false, sH]
 constructor
 ·intro h
  refine ⟨fun i hi => ?_, fun i hi => ?_⟩
  ·have h1 := h i hi
   unfold X6 at h1
   rw [zjX l i hi] at h1
   simp only [Bool.and_eq_true, JX] at h1
   rw [Bool.not_eq_true]
   exact (hb l[i]).2 ⟨h1.1, h1.2.1, h1.2.2.1⟩
  ·have h1 := h (i + 1) hi
   unfold X6 at h1
   rw [zjX l (i + 1) hi, show (((i + 1 : Nat) : Int) - 1) = (i : Int) by omega, zjX l i (by omega), decide_eq_false (by omega : ¬ i + 1 = 0), Bool.false_or] at h1
   simp only [Bool.and_eq_true] at h1
   have h2 := (WE _ _ _ _).1 h1.2.2.2
   rw [zyp l i (by omega), zyp l (i + 1) hi]
   exact h2
 ·rintro ⟨h1, h2⟩ i hi
  unfold X6
  have h3 := (hb l[i]).1 (by simpa using h1 i hi)
  rw [zjX l i hi, JX, JX, JX]
  have e0 : VR l3 (YP l[i]).f0 = true := h3.1
  have e1 : VR l3 (YP l[i]).f1 = true := h3.2.1
  have e2 : VR l3 (YP l[i]).f2 = true := h3.2.2
  rw [e0, e1, e2, Bool.true_and, Bool.true_and, Bool.true_and]
  cases i with
  | zero => rfl
  | succ m =>
   have h4 := h2 m hi
   rw [zyp l m (by omega), zyp l (m + 1) hi] at h4
   rw [decide_eq_false (by omega : ¬ m + 1 = 0), Bool.false_or, show (((m + 1 : Nat) : Int) - 1) = (m : Int) by omega, zjX l m (by omega)]
   exact (WE _ _ _ _).2 h4
theorem zVG (l3 : List qB) (ha : Asc l3) (l : List xS) : (List.range l.length).all (Xa (l3.map p9) (l.map YR)) = true ↔ l.any (X4 l3) = false ∧ pY (fun i j => JE (xE l (i : Int)) (xE l (j : Int))) l.length = true := by
 have hb : ∀ x : xS, X4 l3 x = false ↔ VR l3 x.f0 = true ∧ VR l3 x.f1 = true ∧ ¬ x.f2 = 0 ∧ ¬ x.f2 < -500 ∧ ¬ 500 < x.f2 := by
  intro x
  unfold X4 Uq
  rw [Wy l3 ha, Wy l3 ha]
  simp only [Bool.or_eq_false_iff, decide_eq_false_iff_not, Bool.not_eq_false', List.all_cons, List.all_nil, Bool.and_true, Bool.and_eq_true]
  constructor
  ·rintro ⟨p1, p2, p3, p4, p5⟩; exact ⟨p4, p5, p1, p2, p3⟩
  ·rintro ⟨p4, p5, p1, p2, p3⟩; exact ⟨p1, p2, p3, p4, p5⟩
 rw [VT, zqd, List.any_eq_false, sH]
 constructor
 ·intro h
  refine ⟨fun i hi => ?_, fun i hi => ?_⟩
  ·have h1 := h i hi
   unfold Xa at h1
   rw [zjJ l i hi] at h1
   simp only [Bool.and_eq_true, JX, Bool.not_eq_true', decide_eq_false_iff_not] at h1
   rw [Bool.not_eq_true]
   exact (hb l[i]).2 ⟨h1.1, h1.2.1, h1.2.2.1, h1.2.2.2.1, h1.2.2.2.2.1⟩
  ·have h1 := h (i + 1) hi
   unfold Xa at h1
   rw [zjJ l (i + 1) hi, show (((i + 1 : Nat) : Int) - 1) = (i : Int) by omega, zjJ l i (by omega), decide_eq_false (by omega : ¬ i + 1 = 0), Bool.false_or] at h1
   simp only [Bool.and_eq_true] at h1
   have h2 := (WE _ _ _ _).1 h1.2.2.2.2.2
   rw [zyr l i (by omega), zyr l (i + 1) hi]
   exact h2
 ·rintro ⟨h1, h2⟩ i hi
  unfold Xa
  have h3 := (hb l[i]).1 (by simpa using h1 i hi)
  rw [zjJ l i hi, JX, JX]
  have e0 : VR l3 (YR l[i]).f0 = true := h3.1
  have e1 : VR l3 (YR l[i]).f1 = true := h3.2.1
  have e2 : decide ((YR l[i]).f2 = 0) = false := decide_eq_false h3.2.2.1
  have e3 : decide ((YR l[i]).f2 < -500) = false := decide_eq_false h3.2.2.2.1
  have e4 : decide (500 < (YR l[i]).f2) = false := decide_eq_false h3.2.2.2.2
  rw [e0, e1, e2, e3, e4, Bool.true_and, Bool.true_and, Bool.not_false, Bool.true_and, Bool.true_and, Bool.true_and]
  cases i with
  | zero => rfl
  | succ m =>
   have h4 := h2 m hi
   rw [zyr l m (by omega), zyr l (m + 1) hi] at h4
   rw [decide_eq_false (by omega : ¬ m + 1 = 0), Bool.false_or, show (((m + 1 : Nat) : Int) - 1) = (m : Int) by omega, zjJ l m (by omega)]
   exact (WE _ _ _ _).2 h4
theorem zys (a : ByteArray) (c : Int) (l3 : List qB) (l4 : List xC) (l5 : List xS) : Zc a c (l3.map p9) (l4.map YP) (l5.map YR) = jy a c l3 l4 l5 := by
 unfold Zc jy
 rw [List.length_map, List.length_map, List.length_map]
 have e0 : kR c = Xv c := rfl
 by_cases h0 : (!Ze a.data.toList || (Xv c || (decide (400 < l3.length) || (decide (50 < l4.length) || decide (500 < l5.length))))) = true
 ·rw [if_pos h0, e0]
  simp only [Bool.or_eq_true, Bool.not_eq_true', decide_eq_true_eq] at h0
  rcases h0 with h | h | h | h | h
  ·rw [h]; rfl
  ·rw [h]; simp
  ·simp [show ¬ l3.length ≤ 400 by omega]
  ·simp [show ¬ l4.length ≤ 50 by omega]
  ·simp [show ¬ l5.length ≤ 500 by omega]
 ·rw [if_neg h0, e0]
  simp only [Bool.or_eq_true, Bool.not_eq_true', decide_eq_true_eq, not_or, Bool.not_eq_false, Bool.not_eq_true] at h0
  rw [h0.1, h0.2.1, decide_eq_true (by omega : l3.length ≤ 400), decide_eq_true (by omega : l4.length ≤ 50), decide_eq_true (by omega : l5.length ≤ 500), Bool.not_false, Bool.true_and, Bool.true_and, Bool.true_and, Bool.true_and, Bool.true_and]
  by_cases h1 : (l3.any Uz || !pY (fun i j => Qo (qI l3 (i : Int)) (qI l3 (j : Int))) l3.length) = true
  ·rw [if_pos h1]
   have : ¬ (List.range l3.length).all (X5 (l3.map p9)) = true := by
    rw [zv2]
    rintro ⟨p, q⟩
    rw [p, q] at h1; cases h1
   rw [Bool.not_eq_true] at this
   rw [this, Bool.false_and]
  ·rw [if_neg h1]
   simp only [Bool.or_eq_true, Bool.not_eq_true', not_or, Bool.not_eq_true, Bool.not_eq_false] at h1
   rw [(zv2 l3).2 h1, Bool.true_and]
   have ha := zw9 h1.2
   by_cases h2 : (l4.any (K8 l3) || !pY (fun i j => cmpL (xB l4 (i : Int)) (xB l4 (j : Int))) l4.length) = true
   ·rw [if_pos h2]
    have : ¬ (List.range l4.length).all (X6 (l3.map p9) (l4.map YP)) = true := by
     rw [zv3 l3 ha]
     rintro ⟨p, q⟩
     rw [p, q] at h2; cases h2
    rw [Bool.not_eq_true] at this
    rw [this, Bool.false_and]
   ·rw [if_neg h2]
    simp only [Bool.or_eq_true, Bool.not_eq_true', not_or, Bool.not_eq_true, Bool.not_eq_false] at h2
    rw [(zv3 l3 ha l4).2 h2, Bool.true_and, Bool.eq_iff_iff, zVG l3 ha l5, Bool.and_eq_true, Bool.not_eq_true']
end Go.Proofs.YtaifemkokfoadaaGreatDoor
namespace Go.Proofs.YtaifemkokfoadaaGreatDoor.PX
open Go.RowKit Go.Proofs.zy.zK Go.Proofs.zy.yt Go.Proofs.zy.yV
attribute [local go_sem] xX xJ xP xR qD qE xV xK   -- for this text's walks alone
set_option linter.unusedVariables false
set_option linter.unusedSimpArgs false
end Go.Proofs.YtaifemkokfoadaaGreatDoor.PX
namespace Go.Proofs.YtaifemkokfoadaaGreatDoor.PX
open Go.RowKit Go.Proofs.zy.zK Go.Proofs.zy.yt Go.Proofs.zy.yV
attribute [local go_sem] xX xJ xP xR qD qE xV xK   -- for this text's walks alone
set_option linter.unusedVariables false
set_option linter.unusedSimpArgs false
end Go.Proofs.YtaifemkokfoadaaGreatDoor.PX
namespace Go.Proofs.YtaifemkokfoadaaGreatDoor.PX
open Go.RowKit Go.Proofs.zy.zK Go.Proofs.zy.yt Go.Proofs.zy.yV
attribute [local go_sem] xX xJ xP xR qD qE xV xK   -- for this text's walks alone
set_option linter.unusedVariables false
set_option linter.unusedSimpArgs false
end Go.Proofs.YtaifemkokfoadaaGreatDoor.PX
namespace Go.Proofs.YtaifemkokfoadaaGreatDoor.PX
open Go.RowKit Go.Proofs.zy.zK Go.Proofs.zy.yt Go.Proofs.zy.yV
attribute [local go_sem] xX xJ xP xR qD qE xV xK   -- for this text's walks alone
set_option linter.unusedVariables false
set_option linter.unusedSimpArgs false
end Go.Proofs.YtaifemkokfoadaaGreatDoor.PX
namespace Go.Proofs.YtaifemkokfoadaaGreatDoor.PX
open Go.RowKit Go.Proofs.zy.zK Go.Proofs.zy.yt Go.Proofs.zy.yV
attribute [local go_sem] xX xJ xP xR qD qE xV xK   -- for this text's walks alone
set_option linter.unusedVariables false
set_option linter.unusedSimpArgs false
namespace SQ
abbrev BA := ByteArray
end SQ
open SQ
end Go.Proofs.YtaifemkokfoadaaGreatDoor.PX
namespace Go.Proofs.YtaifemkokfoadaaGreatDoor
open Go.RowKit Go.Proofs.zy.zK Go.Proofs.zy.yt Go.Proofs.zy.yV Go.Proofs.YtaifemkokfoadaaGreatDoor.PX
set_option linter.unusedSimpArgs false
set_option linter.unusedVariables false
def zYY (x : qA) : qB := ⟨x.f0, x.f1⟩
def Vr.T5 : Bool × List (List Nat × List Nat) := (true, [([], []), ([0], [0]), ([], []), ([2], [2]), ([], []), ([3, 4], [3, 4]), ([5], [5]), ([6], [6]), ([], []), ([8], [8]), ([], []), ([9, 10], [9, 10]), ([11], [11]), ([12], [12]), ([7, 13], [7, 13]), ([14], [14]), ([1, 15], [1, 15]), ([0, 1, 2, 3, 4, 5, 6, 7, 8, 9, 10, 11, 12, 13, 14, 15, 16], []), ([17, 16, 16, 0, 1, 2, 3, 4, 5, 6, 7, 8, 9, 10, 11, 12, 13, 14, 15, 16], [16, 17])])
def Vr.B5 : List Nat := [0, 1, 0, 4, 0, 28, 60, 124, 0, 256, 0, 1792, 3840, 7936, 16380, 32764, 65535, 131071, 262143]
theorem Vr.mJ : uz .any (opsOf Tryz.f19 5) = Vr.T5 := by kernel_rfl
theorem Vr.mI : uZ Vr.T5.2 Vr.B5 = true := by kernel_rfl
def zYW (x : qM) : xC := ⟨x.f0, x.f1, x.f2⟩
def Vr.T9 : Bool × List (List Nat × List Nat) := (true, [([], []), ([0], [0]), ([], []), ([2], [2]), ([], []), ([3, 4], [3, 4]), ([5], [5]), ([6], [6]), ([], []), ([8], [8]), ([], []), ([9, 10], [9, 10]), ([11], [11]), ([12], [12]), ([], []), ([14], [14]), ([], []), ([15, 16], [15, 16]), ([17], [17]), ([18], [18]), ([7, 13, 19], [7, 13, 19]), ([20], [20]), ([1, 21], [1, 21]), ([0, 1, 2, 3, 4, 5, 6, 7, 8, 9, 10, 11, 12, 13, 14, 15, 16, 17, 18, 19, 20, 21, 22], []), ([23, 22, 22, 0, 1, 2, 3, 4, 5, 6, 7, 8, 9, 10, 11, 12, 13, 14, 15, 16, 17, 18, 19, 20, 21, 22], [22, 23])])
def Vr.B9 : List Nat := [0, 1, 0, 4, 0, 28, 60, 124, 0, 256, 0, 1792, 3840, 7936, 0, 16384, 0, 114688, 245760, 507904, 1048572, 2097148, 4194303, 8388607, 16777215]
theorem Vr.zZ8 : uz .any (opsOf Tryz.f19 9) = Vr.T9 := by kernel_rfl
theorem Vr.zyQ : uZ Vr.T9.2 Vr.B9 = true := by kernel_rfl
def zYa (x : qH) : xS := ⟨x.f0, x.f1, x.f2⟩
def Vr.Wu : Bool × List (List Nat × List Nat) := (true, [([], []), ([0], [0]), ([], []), ([2], [2]), ([], []), ([3, 4], [3, 4]), ([5], [5]), ([6], [6]), ([], []), ([8], [8]), ([], []), ([9, 10], [9, 10]), ([11], [11]), ([12], [12]), ([], []), ([14], [14]), ([], []), ([15, 16], [15, 16]), ([17], [17]), ([18], [18]), ([7, 13, 19], [7, 13, 19]), ([20], [20]), ([1, 21], [1, 21]), ([0, 1, 2, 3, 4, 5, 6, 7, 8, 9, 10, 11, 12, 13, 14, 15, 16, 17, 18, 19, 20, 21, 22], []), ([23, 22, 22, 0, 1, 2, 3, 4, 5, 6, 7, 8, 9, 10, 11, 12, 13, 14, 15, 16, 17, 18, 19, 20, 21, 22], [22, 23])])
def Vr.B13 : List Nat := [0, 1, 0, 4, 0, 28, 60, 124, 0, 256, 0, 1792, 3840, 7936, 0, 16384, 0, 114688, 245760, 507904, 1048572, 2097148, 4194303, 8388607, 16777215]
theorem Vr.YI : uz .any (opsOf Tryz.f19 13) = Vr.Wu := by kernel_rfl
theorem Vr.Zl : uZ Vr.Wu.2 Vr.B13 = true := by kernel_rfl
end Go.Proofs.YtaifemkokfoadaaGreatDoor
namespace Go.Proofs.YtaifemkokfoadaaGreatDoor.PX
open Go.RowKit Go.Proofs.zy.zK Go.Proofs.zy.yt Go.Proofs.zy.yV
set_option linter.unusedVariables false
end Go.Proofs.YtaifemkokfoadaaGreatDoor.PX
namespace Go.Proofs.YtaifemkokfoadaaGreatDoor.PX
open Go.RowKit Go.Proofs.zy.zK Go.Proofs.zy.yt Go.Proofs.zy.yV
attribute [local go_sem] xX xJ xP xR qD qE xV xK   -- for this text's walks alone
set_option linter.unusedVariables false
set_option linter.unusedSimpArgs false
end Go.Proofs.YtaifemkokfoadaaGreatDoor.PX
namespace Go.Proofs.YtaifemkokfoadaaGreatDoor
open Go.RowKit Go.Proofs.zy.zK Go.Proofs.zy.yV Go.Proofs.YtaifemkokfoadaaGreatDoor.PX
set_option maxRecDepth 100000
set_option linter.unusedVariables false
end Go.Proofs.YtaifemkokfoadaaGreatDoor
namespace Go.Proofs.YtaifemkokfoadaaGreatDoor
open Go.RowKit Go.Shelf Go.Proofs.zy.zK Go.Proofs.zy.yt Go.Proofs.zy.yV Go.Proofs.YtaifemkokfoadaaGreatDoor.PX
set_option linter.unusedSimpArgs false
set_option linter.unusedVariables false
theorem zqR {a : ByteArray} {c : Int} {l3 : List qB} {l4 : List xC} {l5 : List xS} (h : jy a c l3 l4 l5 = true) : l3.length ≤ 400 ∧ l4.length ≤ 50 ∧ l5.length ≤ 500 := by
 unfold jy at h
 split at h
 ·cases h
 ·rename_i q1
  simp only [Bool.or_eq_true, not_or, decide_eq_true_eq] at q1
  omega
theorem zqS {a : ByteArray} {c : Int} {l3 : List qB} {l4 : List xC} {l5 : List xS} (h : jy a c l3 l4 l5 = true) : Asc l3 := by
 unfold jy at h
 split at h
 ·cases h
 ·split at h
  ·cases h
  ·rename_i q2
   simp only [Bool.or_eq_true, not_or, Bool.not_eq_true, Bool.not_eq_false'] at q2
   exact zw9 q2.2
theorem zyt {a : ByteArray} {c : Int} {l3 : List qB} {l4 : List xC} {l5 : List xS} (h : jy a c l3 l4 l5 = true) : ∀ x ∈ l3, 0 ≤ x.f1 ∧ x.f1 ≤ 3000 := by
 unfold jy at h
 split at h
 ·cases h
 ·split at h
  ·cases h
  ·rename_i q2
   intro x hx
   simp only [Bool.or_eq_true, not_or, Bool.not_eq_true, Bool.not_eq_false'] at q2
   have h1 := List.any_eq_false.1 q2.1 x hx
   unfold Uz Xv at h1
   simp only [Bool.or_eq_true, not_or, decide_eq_true_eq] at h1
   omega
end Go.Proofs.YtaifemkokfoadaaGreatDoor
namespace Go.Proofs.YtaifemkokfoadaaGreatDoor.PX
open Go.RowKit Go.Proofs.zy.zK Go.Proofs.zy.yt Go.Proofs.zy.yV
attribute [local go_sem] xX xJ xP xR qD qE xV xK   -- for this text's walks alone
set_option linter.unusedVariables false
set_option linter.unusedSimpArgs false
end Go.Proofs.YtaifemkokfoadaaGreatDoor.PX
namespace Go.Proofs.YtaifemkokfoadaaGreatDoor.PX
open Go.RowKit Go.Proofs.zy.zK Go.Proofs.zy.yt Go.Proofs.zy.yV
attribute [local go_sem] xX xJ xP xR qD qE xV xK   -- for this text's walks alone
set_option linter.unusedVariables false
set_option linter.unusedSimpArgs false
end Go.Proofs.YtaifemkokfoadaaGreatDoor.PX
namespace Go.Proofs.YtaifemkokfoadaaGreatDoor.PX
open Go.RowKit Go.Proofs.zy.zK Go.Proofs.zy.yt Go.Proofs.zy.yV
attribute [local go_sem] xX xJ xP xR qD qE xV xK   -- for this text's walks alone
set_option linter.unusedVariables false
set_option linter.unusedSimpArgs false
end Go.Proofs.YtaifemkokfoadaaGreatDoor.PX
