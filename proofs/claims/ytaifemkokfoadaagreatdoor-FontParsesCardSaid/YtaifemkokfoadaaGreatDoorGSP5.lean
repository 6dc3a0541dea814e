/-
  Texts that lean on one another, laid in one file. No condition.
-/
import Derived.Test.YtaifemkokfoadaaGreatDoorGSP1
import Derived.Test.YtaifemkokfoadaaGreatDoorGSP3
import Derived.Test.YtaifemkokfoadaaGreatDoorGSP4
import Derived.RangeFuncNested
import Derived.RangeFuncBound
import Derived.RangeFuncCalls
import Derived.RangeFuncLeaves

namespace Go.Proofs.YtaifemkokfoadaaGreatDoor.PX
open Go.RowKit Go.Proofs.zy.zK Go.Proofs.zy.yt Go.Proofs.zy.yV
attribute [local go_sem] xX xJ xP xR qD qE xV xK   -- for this text's walks alone
set_option linter.unusedVariables false
set_option linter.unusedSimpArgs false
namespace zYb
abbrev BA := ByteArray
end zYb
open zYb
mutual
def zZ.l0 : Nat → BA → List BA → Int → BA → Bool → Int → List (qA) → List (qM) → List (qH) → Option (BA × Bool × Int × (List (qA)) × (List (qM)) × (List (qH)) × Int)
 | 0, _, _, _, _, _, _, _, _, _ => none
 | k + 1, x0, x5, x6, jo, jr, jA, jq, jv, jk => if (wrap64 (x6 + 1)) < (x5.length : Int) then (if 0 ≤ x6 then (if x6 < (x5.length : Int) then ((qF.f k (yM ByteArray.empty x5 x6) 32).bind fun za => (if x6 = 0 then (if 0 < (za.length : Int) then (if (yM ByteArray.empty za 0).toList = ([102, 111, 110, 116] : List UInt8) then (if (za.length : Int) = 2 then (zZ.j1 k x0 x5 x6 za true jo jr jA jq jv jk) else (if (za.length : Int) = 3 then (if 2 < (za.length : Int) then (zZ.j1 k x0 x5 x6 za ((yM ByteArray.empty za 2).toList == ([115, 112, 101, 99, 105, 97, 108] : List UInt8)) jo jr jA jq jv jk) else (none)) else (zZ.j1 k x0 x5 x6 za false jo jr jA jq jv jk))) else (zZ.j1 k x0 x5 x6 za false jo jr jA jq jv jk)) else (none)) else (if x6 = 1 then (if 0 < (za.length : Int) then (if (yM ByteArray.empty za 0).toList = ([115, 112, 97, 99, 101] : List UInt8) then (zZ.j2 k x0 x5 x6 za ((za.length : Int) == 2) jo jr jA jq jv jk) else (zZ.j2 k x0 x5 x6 za false jo jr jA jq jv jk)) else (none)) else (if 0 < (za.length : Int) then (if (yM ByteArray.empty za 0).toList = ([103] : List UInt8) then (zZ.j3 k x0 x5 x6 za true ((za.length : Int) == 3) jo jr jA jq jv jk) else (zZ.j3 k x0 x5 x6 za true false jo jr jA jq jv jk)) else (none))))) else (none)) else (none)) else ((uK.f jo jr jA jq jv jk).bind fun zXT => (if zXT.2 = 0 then (if zXT.1.toList = x0.toList then (some (jo, jr, jA, jq, jv, jk, 0)) else (some ((⟨#[]⟩ : BA), false, 0, ([] : List (qA)), ([] : List (qM)), ([] : List (qH)), 4))) else (some ((⟨#[]⟩ : BA), false, 0, ([] : List (qA)), ([] : List (qM)), ([] : List (qH)), 4))))
def zZ.j1 : Nat → BA → List BA → Int → List BA → Bool → BA → Bool → Int → List (qA) → List (qM) → List (qH) → Option (BA × Bool × Int × (List (qA)) × (List (qM)) × (List (qH)) × Int)
 | 0, _, _, _, _, _, _, _, _, _, _, _ => none
 | k + 1, x0, x5, x6, x7, x8, jo, jr, jA, jq, jv, jk => if x8 = true then (if 1 < (x7.length : Int) then (zZ.l0 k x0 x5 (wrap64 (x6 + 1)) (yM ByteArray.empty x7 1) ((x7.length : Int) == 3) jA jq jv jk) else (none)) else (some ((⟨#[]⟩ : BA), false, 0, ([] : List (qA)), ([] : List (qM)), ([] : List (qH)), 4))
def zZ.j2 : Nat → BA → List BA → Int → List BA → Bool → BA → Bool → Int → List (qA) → List (qM) → List (qH) → Option (BA × Bool × Int × (List (qA)) × (List (qM)) × (List (qH)) × Int)
 | 0, _, _, _, _, _, _, _, _, _, _, _ => none
 | k + 1, x0, x5, x6, x7, x8, jo, jr, jA, jq, jv, jk => if x8 = true then (if 1 < (x7.length : Int) then ((zI.f k (yM ByteArray.empty x7 1)).bind fun zzg => (if zzg.2 = true then (zZ.l0 k x0 x5 (wrap64 (x6 + 1)) jo jr zzg.1 jq jv jk) else (some ((⟨#[]⟩ : BA), false, 0, ([] : List (qA)), ([] : List (qM)), ([] : List (qH)), 4)))) else (none)) else (some ((⟨#[]⟩ : BA), false, 0, ([] : List (qA)), ([] : List (qM)), ([] : List (qH)), 4))
def zZ.j3 : Nat → BA → List BA → Int → List BA → Bool → Bool → BA → Bool → Int → List (qA) → List (qM) → List (qH) → Option (BA × Bool × Int × (List (qA)) × (List (qM)) × (List (qH)) × Int)
 | 0, _, _, _, _, _, _, _, _, _, _, _, _ => none
 | k + 1, x0, x5, x6, x7, x8, x82, jo, jr, jA, jq, jv, jk => if x82 = true then (if 2 < (x7.length : Int) then ((zI.f k (yM ByteArray.empty x7 2)).bind fun zzh => (if 1 < (x7.length : Int) then (if jq.length < 5864062014805 then (if zzh.2 = true then (zZ.l0 k x0 x5 (wrap64 (x6 + 1)) jo jr jA (jq ++ [(⟨yM ByteArray.empty x7 1, zzh.1⟩ : qA)]) jv jk) else (some ((⟨#[]⟩ : BA), false, 0, ([] : List (qA)), ([] : List (qM)), ([] : List (qH)), 4))) else (none)) else (none))) else (none)) else (if 0 < (x7.length : Int) then (if (yM ByteArray.empty x7 0).toList = ([108] : List UInt8) then (zZ.j4 k x0 x5 x6 x7 x8 ((x7.length : Int) == 4) jo jr jA jq jv jk) else (zZ.j4 k x0 x5 x6 x7 x8 false jo jr jA jq jv jk)) else (none))
def zZ.j4 : Nat → BA → List BA → Int → List BA → Bool → Bool → BA → Bool → Int → List (qA) → List (qM) → List (qH) → Option (BA × Bool × Int × (List (qA)) × (List (qM)) × (List (qH)) × Int)
 | 0, _, _, _, _, _, _, _, _, _, _, _, _ => none
 | k + 1, x0, x5, x6, x7, x8, zdh, jo, jr, jA, jq, jv, jk => if zdh = true then (if 1 < (x7.length : Int) then (if 2 < (x7.length : Int) then (if 3 < (x7.length : Int) then (if jv.length < 2932031007402 then (if x8 = true then (zZ.l0 k x0 x5 (wrap64 (x6 + 1)) jo jr jA jq (jv ++ [(⟨yM ByteArray.empty x7 1, yM ByteArray.empty x7 2, yM ByteArray.empty x7 3⟩ : qM)]) jk) else (some ((⟨#[]⟩ : BA), false, 0, ([] : List (qA)), ([] : List (qM)), ([] : List (qH)), 4))) else (none)) else (none)) else (none)) else (none)) else (if 0 < (x7.length : Int) then (if (yM ByteArray.empty x7 0).toList = ([107] : List UInt8) then (zZ.j5 k x0 x5 x6 x7 ((x7.length : Int) == 4) jo jr jA jq jv jk) else (zZ.j5 k x0 x5 x6 x7 false jo jr jA jq jv jk)) else (none))
def zZ.j5 : Nat → BA → List BA → Int → List BA → Bool → BA → Bool → Int → List (qA) → List (qM) → List (qH) → Option (BA × Bool × Int × (List (qA)) × (List (qM)) × (List (qH)) × Int)
 | 0, _, _, _, _, _, _, _, _, _, _, _ => none
 | k + 1, x0, x5, x6, x7, zdi, jo, jr, jA, jq, jv, jk => if zdi = true then (if 3 < (x7.length : Int) then ((zI.f k (yM ByteArray.empty x7 3)).bind fun zzi => (if 1 < (x7.length : Int) then (if 2 < (x7.length : Int) then (if jk.length < 3518437208883 then (if zzi.2 = true then (zZ.l0 k x0 x5 (wrap64 (x6 + 1)) jo jr jA jq jv (jk ++ [(⟨yM ByteArray.empty x7 1, yM ByteArray.empty x7 2, zzi.1⟩ : qH)])) else (some ((⟨#[]⟩ : BA), false, 0, ([] : List (qA)), ([] : List (qM)), ([] : List (qH)), 4))) else (none)) else (none)) else (none))) else (none)) else (some ((⟨#[]⟩ : BA), false, 0, ([] : List (qA)), ([] : List (qM)), ([] : List (qH)), 4))
end
def zZ.f (k : Nat) (a0 : BA) : Option (BA × Bool × Int × (List (qA)) × (List (qM)) × (List (qH)) × Int) := (qF.f k a0 10).bind fun vH => (zZ.l0 k a0 vH 0 (⟨#[]⟩ : BA) false 0 ([] : List (qA)) ([] : List (qM)) ([] : List (qH)))
def zZ.T20 : Bool × List (List Nat × List Nat) := (true, [([], []), ([0], [0]), ([], []), ([2], [2]), ([3], [3]), ([], []), ([4, 5], [4, 5]), ([6], [6]), ([1, 7], [1, 7]), ([0, 1, 2, 3, 4, 5, 6, 7, 8], []), ([9, 8, 8, 0, 1, 2, 3, 4, 5, 6, 7, 8], [8, 9])])
def zZ.B20 : List Nat := [0, 1, 0, 4, 12, 0, 60, 124, 255, 511, 1023]
theorem zZ.zXU : uz .any (opsOf Tryz.f23 20) = zZ.T20 := by kernel_rfl
theorem zZ.zZq : uZ zZ.T20.2 zZ.B20 = true := by kernel_rfl
def zZ.T22 : Bool × List (List Nat × List Nat) := (true, [([], []), ([0], [0]), ([], []), ([2], [2]), ([3], [3]), ([], []), ([5], [5]), ([6], [6]), ([], []), ([8], [8]), ([9], [9]), ([4, 7, 10], [4, 7, 10]), ([11], [11]), ([1, 12], [1, 12]), ([0, 1, 2, 3, 4, 5, 6, 7, 8, 9, 10, 11, 12, 13], []), ([14, 13, 13, 0, 1, 2, 3, 4, 5, 6, 7, 8, 9, 10, 11, 12, 13], [13, 14])])
def zZ.B22 : List Nat := [0, 1, 0, 4, 12, 0, 32, 96, 0, 256, 768, 2044, 4092, 8191, 16383, 32767]
theorem zZ.zbe : uz .any (opsOf Tryz.f23 22) = zZ.T22 := by kernel_rfl
theorem zZ.zYc : uZ zZ.T22.2 zZ.B22 = true := by kernel_rfl
def zZ.T26 : Bool × List (List Nat × List Nat) := (true, [([], []), ([0], [0]), ([], []), ([2], [2]), ([3], [3]), ([], []), ([5], [5]), ([6], [6]), ([], []), ([4, 7, 8], [4, 7, 8]), ([9], [9]), ([1, 10], [1, 10]), ([0, 1, 2, 3, 4, 5, 6, 7, 8, 9, 10, 11], []), ([12, 11, 11, 0, 1, 2, 3, 4, 5, 6, 7, 8, 9, 10, 11], [11, 12])])
def zZ.B26 : List Nat := [0, 1, 0, 4, 12, 0, 32, 96, 0, 508, 1020, 2047, 4095, 8191]
theorem zZ.zX0 : uz .any (opsOf Tryz.f23 26) = zZ.T26 := by kernel_rfl
theorem zZ.zZx : uZ zZ.T26.2 zZ.B26 = true := by kernel_rfl
set_option maxHeartbeats 60000000 in
set_option maxRecDepth 100000 in
theorem zZ.calls (k : Nat) (a0 : BA) (r1 : BA) (r2 : Bool) (r3 : Int) (r4 : List (qA)) (r5 : List (qM)) (r6 : List (qH)) (r7 : Int) (w : World) (h : zZ.f k a0 = some (r1, r2, r3, r4, r5, r6, r7)) :
  Calls Tryz.prog 23 #[.string a0] w fun e w' => ∃ v3_ v4_ v5_ : Value, e = .returned (.tuple #[.agg #[.string r1, .bool r2, .int .i64 r3, v3_, v4_, v5_], .int .i64 r7]) ∧ Kd.R YQ 81 w' w.heap.size (fun _ => True) v3_ r4 ∧ Kd.R Yt 83 w' w.heap.size (fun _ => True) v4_ r5 ∧ Kd.R Yu 84 w' w.heap.size (fun _ => True) v5_ r6 ∧ Below w.heap.size w w' := by
 have zyw := Tryz.underlying44
 have zK6 := Tryz.underlying81
 have zK7 := Tryz.underlying83
 have zK8 := Tryz.underlying84
 have HB := zk.mk (Below.refl w.heap.size w)
 have H : ((qF.f k a0 10).bind fun vH => (zZ.l0 k a0 vH 0 (⟨#[]⟩ : BA) false 0 ([] : List (qA)) ([] : List (qM)) ([] : List (qH)))) = some (r1, r2, r3, r4, r5, r6, r7) := h
 clear h
 replace H := Option.bind_eq_some_iff.mp H
 obtain ⟨vH, A20, H⟩ := H
 replace H : (zZ.l0 k a0 vH 0 (⟨#[]⟩ : BA) false 0 ([] : List (qA)) ([] : List (qM)) ([] : List (qH))) = some (r1, r2, r3, r4, r5, r6, r7) := H
 have A2 := zk.mk A20
 clear A20
 have H' := zk.mk H
 clear H
 go_enter Tryz.func23, Tryz.ntmps23
 go_wp2_with (first | ((with_reducible refine xI (N := 2) rfl ?_); (try (refine ZP (by rfl) ?_; dsimp only)); refine vJ ?hg (N := 2) ?hd (cs := #[.string (⟨#[]⟩ : BA), .bool false, .int .i64 0, .slice none 0 0, .slice none 0 0, .slice none 0 0]) (t := 44) ?hr ?_; (case hd => rfl); (case hg => rfl); (case hr => first | (go_simp; done) | (go_simp; rfl)); intro yR hg w3 vX hb; have zl := zk.mk (yg (yQ HB.out) hb); have zC := zk.mk (vX); have zM := zk.mk ((by rw [hg]; exact (zH (yQ HB.out)) : w.heap.size ≤ yR)); have zT := zk.mk ((by rw [hg]; exact (zH (yQ HB.out)) : w.heap.size ≤ yR)); clear HB; have HB := zl; have zh := zC; have zlM := zM; have J5 := zT; clear zl zC zM zT; clear hb vX hg) | ((with_reducible refine xI (N := 4) rfl ?_); (try (refine ZP (by rfl) ?_; dsimp only)); refine vJ ?hg (N := 4) ?hd (cs := #[.string (⟨#[]⟩ : BA), .bool false, .int .i64 0, .slice none 0 0, .slice none 0 0, .slice none 0 0]) (t := 44) ?hr ?_; (case hd => rfl); (case hg => rfl); (case hr => first | (go_simp; done) | (go_simp; rfl)); intro yB hg w4 vX hb; have zl := zk.mk (zo (g := yR) (o := .cells #[.string (⟨#[]⟩ : BA), .bool false, .int .i64 0, .slice none 0 0, .slice none 0 0, .slice none 0 0] 44 (0, 0)) (qV zh.out) hb); have zC := zk.mk (yg (yQ HB.out) hb); have zM := zk.mk (vX); have zT := zk.mk ((by rw [hg]; exact (zH (yQ HB.out)) : w.heap.size ≤ yB)); have yL := zk.mk ((by rw [hg]; exact (zH (yQ HB.out)) : w.heap.size ≤ yB)); have y9 := zk.mk ((by rw [hg]; exact Nat.ne_of_lt (uM (g := yR) (o := .cells #[.string (⟨#[]⟩ : BA), .bool false, .int .i64 0, .slice none 0 0, .slice none 0 0, .slice none 0 0] 44 (0, 0)) (qV zh.out)) : yR ≠ yB)); have qw := zk.mk ((by rw [hg]; exact Nat.ne_of_gt (uM (g := yR) (o := .cells #[.string (⟨#[]⟩ : BA), .bool false, .int .i64 0, .slice none 0 0, .slice none 0 0, .slice none 0 0] 44 (0, 0)) (qV zh.out)) : yB ≠ yR)); clear zh; clear HB; have zh := zl; have HB := zC; have zJ := zM; have zlN := zT; have J6 := yL; have jw := y9; have jO := qw; clear zl zC zM zT yL y9 qw; clear hb vX hg) | ((with_reducible refine y7 (f := 80) rfl ?_); refine jP (some 16) Tryz.func80 #[.string a0, .int .u8 10] ?_; (with_reducible refine (qF.calls k a0 10 vH _ A2.out).mono ?_); rintro e w5 ⟨zdl, rfl, ho0, hb⟩; refine ⟨_, rfl, ?_⟩; have zl := zk.mk (Kd.vB ho0 (zH (yQ HB.out))); have zC := zk.mk (zo (g := yR) (o := .cells #[.string (⟨#[]⟩ : BA), .bool false, .int .i64 0, .slice none 0 0, .slice none 0 0, .slice none 0 0] 44 (0, 0)) (qV zh.out) hb); have zM := zk.mk (zo (g := yB) (o := .cells #[.string (⟨#[]⟩ : BA), .bool false, .int .i64 0, .slice none 0 0, .slice none 0 0, .slice none 0 0] 44 (0, 0)) (qV zJ.out) hb); have zT := zk.mk (yg (yQ HB.out) hb); clear zh; clear zJ; clear HB; have zbf := zl; have zh := zC; have zJ := zM; have HB := zT; clear zl zC zM zT; (try clear hb); (try clear hb2); (try clear hk); (try clear hi); (try clear ho0)))
 go_loopg [6] k (fun kq v6 w' => ∃ (qP : Int) (qm : BA) (qz : Bool) (yG : Int) (zR : BA) (zS : Bool) (zU : Int) (yH : List (qA)) (yP : List (qM)) (yN : List (qH)) (qU : Value) (xu : Value) (q9 : Value), v6 = .int .i64 qP ∧ zk (zZ.l0 kq a0 vH qP zR zS zU yH yP yN = some (r1, r2, r3, r4, r5, r6, r7)) ∧ zk (kq ≤ k) ∧ zk (Kd.R Kd.string 9 w' w.heap.size (fun _ => True) zdl vH) ∧ zk (Kd.R YQ 81 w' w.heap.size (fun _ => True) qU yH) ∧ zk (Kd.R Yt 83 w' w.heap.size (fun _ => True) xu yP) ∧ zk (Kd.R Yu 84 w' w.heap.size (fun _ => True) q9 yN) ∧ zk (w'.heap[yR]? = some (.cells #[.string qm, .bool qz, .int .i64 yG, (.slice none 0 0), (.slice none 0 0), (.slice none 0 0)] 44 (0, 0))) ∧ zk (w'.heap[yB]? = some (.cells #[.string zR, .bool zS, .int .i64 zU, qU, xu, q9] 44 (0, 0))) ∧ zk (Below w.heap.size w w'))
 case atStart => exact ⟨(0), ((⟨#[]⟩ : BA)), (false), (0), ((⟨#[]⟩ : BA)), (false), (0), (([] : List (qA))), (([] : List (qM))), (([] : List (qH))), (.slice none 0 0), (.slice none 0 0), (.slice none 0 0), (by first | rfl | (simp; done) | (simp [*]; done)), H', ⟨Nat.le_refl _⟩, ⟨yK zbf.out⟩, ⟨by first | exact Kd.vD _ _ _ _ _ | exact Kd.jG _ _ _ _ _ | exact Kd.jH _ _ _ _ _ | exact Kd.jE _ _ _ _ _ | exact Kd.jF _ _ _ _ _⟩, ⟨by first | exact Kd.vD _ _ _ _ _ | exact Kd.jG _ _ _ _ _ | exact Kd.jH _ _ _ _ _ | exact Kd.jE _ _ _ _ _ | exact Kd.jF _ _ _ _ _⟩, ⟨by first | exact Kd.vD _ _ _ _ _ | exact Kd.jG _ _ _ _ _ | exact Kd.jH _ _ _ _ _ | exact Kd.jE _ _ _ _ _ | exact Kd.jF _ _ _ _ _⟩, ⟨qV zh.out⟩, ⟨qV zJ.out⟩, ⟨yQ HB.out⟩⟩
 case round =>
  clear H'
  try clear c2
  try clear p2
  obtain ⟨qP, qm, qz, yG, zR, zS, zU, yH, yP, yN, qU, xu, q9, rfl, HA, jl, qd, zA, zG, zB, zh, zJ, HB⟩ := hrel
  cases gk with
  | zero => exact absurd HA.out (by simp [zZ.l0])
  | succ k1 =>
   have H := HA.out
   clear HA
   simp only [zZ.l0] at H
   by_cases c6 : (wrap64 (qP + 1)) < (vH.length : Int)
   ·rw [if_pos c6] at H
    have Zf : decide ((wrap64 (qP + 1)) < (vH.length : Int)) = true := decide_eq_true c6
    clear c6
    by_cases c7 : 0 ≤ qP
    ·rw [if_pos c7] at H
     have VI : decide (0 ≤ qP) = true := decide_eq_true c7
     clear c7
     by_cases c8 : qP < (vH.length : Int)
     ·rw [if_pos c8] at H
      have KO : decide (qP < (vH.length : Int)) = true := decide_eq_true c8
      clear c8
      replace H := Option.bind_eq_some_iff.mp H
      obtain ⟨za, A90, H⟩ := H
      replace H : (if qP = 0 then (if 0 < (za.length : Int) then (if (yM ByteArray.empty za 0).toList = ([102, 111, 110, 116] : List UInt8) then (if (za.length : Int) = 2 then (zZ.j1 k1 a0 vH qP za true zR zS zU yH yP yN) else (if (za.length : Int) = 3 then (if 2 < (za.length : Int) then (zZ.j1 k1 a0 vH qP za ((yM ByteArray.empty za 2).toList == ([115, 112, 101, 99, 105, 97, 108] : List UInt8)) zR zS zU yH yP yN) else (none)) else (zZ.j1 k1 a0 vH qP za false zR zS zU yH yP yN))) else (zZ.j1 k1 a0 vH qP za false zR zS zU yH yP yN)) else (none)) else (if qP = 1 then (if 0 < (za.length : Int) then (if (yM ByteArray.empty za 0).toList = ([115, 112, 97, 99, 101] : List UInt8) then (zZ.j2 k1 a0 vH qP za ((za.length : Int) == 2) zR zS zU yH yP yN) else (zZ.j2 k1 a0 vH qP za false zR zS zU yH yP yN)) else (none)) else (if 0 < (za.length : Int) then (if (yM ByteArray.empty za 0).toList = ([103] : List UInt8) then (zZ.j3 k1 a0 vH qP za true ((za.length : Int) == 3) zR zS zU yH yP yN) else (zZ.j3 k1 a0 vH qP za true false zR zS zU yH yP yN)) else (none)))) = some (r1, r2, r3, r4, r5, r6, r7) := H
      have A9 := zk.mk A90
      clear A90
      by_cases c10 : qP = 0
      ·rw [if_pos c10] at H
       have J3 : (qP == 0) = true := beq_iff_eq.mpr c10
       have zzK : (qP != 0) = false := bne_eq_false_iff_eq.mpr c10
       clear c10
       have zQe := zk.mk H
       clear H
       obtain ⟨zm2, zYd, zdm⟩ := Kd.yA qd.out
       subst zdm
       have Qr : 0 ≤ (qP : Int) := of_decide_eq_true (by first | (with_reducible assumption) | assumption)
       have Qs : qP < (vH.length : Int) := of_decide_eq_true (by first | (with_reducible assumption) | assumption)
       obtain ⟨Qg, zjK, KC⟩ := Kd.xO (Kd.yc qd.out).2.2 qP Qr Qs
       cases zjK
       replace Qr := eq_true Qr
       replace Qs := eq_true Qs
       go_upto_region 10 with (first | ((with_reducible refine y7 (f := 80) rfl ?_); refine jP (some 28) Tryz.func80 #[.string (yM ByteArray.empty vH qP), .int .u8 32] ?_; (with_reducible refine (qF.calls k1 (yM ByteArray.empty vH qP) 32 za _ A9.out).mono ?_); rintro e KT ⟨JH, rfl, ho0, hb⟩; refine ⟨_, rfl, ?_⟩; have zl := zk.mk (Kd.YE (yK qd.out) (Kd.Vt ho0) hb); have zC := zk.mk (Kd.zf (yK zA.out) hb); have zM := zk.mk (Kd.zf (yK zG.out) hb); have zT := zk.mk (Kd.zf (yK zB.out) hb); have yL := zk.mk (Kd.vB (Kd.Vu ho0 (Kd.gM (yK qd.out))) (zH (yQ HB.out))); have y9 := zk.mk (zo (g := yR) (o := .cells #[.string qm, .bool qz, .int .i64 yG, .slice none 0 0, .slice none 0 0, .slice none 0 0] 44 (0, 0)) (qV zh.out) hb); have qw := zk.mk (zo (g := yB) (o := .cells #[.string zR, .bool zS, .int .i64 zU, qU, xu, q9] 44 (0, 0)) (qV zJ.out) hb); have xg := zk.mk (yg (yQ HB.out) hb); clear qd; clear zA; clear zG; clear zB; clear zh; clear zJ; clear HB; have qd := zl; have zA := zC; have zG := zM; have zB := zT; have kX := yL; have zh := y9; have zJ := qw; have HB := xg; clear zl zC zM zT yL y9 qw xg; (try clear hb); (try clear hb2); (try clear hk); (try clear hi); (try clear ho0)))
       (try simp only [Act.put, List.setIfInBounds_toArray, List.set_cons_zero, List.set_cons_succ])
       go_cut [8] (fun v8 wc => ∃ (kq : Nat) (zxx : Bool), v8 = .bool zxx ∧ zk (zZ.j1 kq a0 vH qP za zxx zR zS zU yH yP yN = some (r1, r2, r3, r4, r5, r6, r7)) ∧ zk (kq ≤ k1) ∧ zk (Kd.R Kd.string 9 wc w.heap.size (fun k_ => some k_ ≠ (JH : Value).ownBlock) (.slice (some Qg) vH.length zYd) vH) ∧ zk (Kd.R Kd.string 9 wc w.heap.size (fun k_ => some k_ ≠ ((.slice (some Qg) vH.length zYd) : Value).ownBlock) JH za) ∧ zk (Kd.R YQ 81 wc w.heap.size (fun _ => True) qU yH) ∧ zk (Kd.R Yt 83 wc w.heap.size (fun _ => True) xu yP) ∧ zk (Kd.R Yu 84 wc w.heap.size (fun _ => True) q9 yN) ∧ zk (wc.heap[yR]? = some (.cells #[.string qm, .bool qz, .int .i64 yG, (.slice none 0 0), (.slice none 0 0), (.slice none 0 0)] 44 (0, 0))) ∧ zk (wc.heap[yB]? = some (.cells #[.string zR, .bool zS, .int .i64 zU, qU, xu, q9] 44 (0, 0))) ∧ zk (Below w.heap.size w wc))
       case first =>
        have H := zQe.out
        clear zQe
        by_cases c14 : 0 < (za.length : Int)
        ·rw [if_pos c14] at H
         have mR : decide (0 < (za.length : Int)) = true := decide_eq_true c14
         have zyE : decide (0 < za.length) = true := decide_eq_true (by omega)
         clear c14
         (first | rw [mR] | (simp only [vZ, vQ]; rw [mR]) | skip)
         by_cases c15 : (yM ByteArray.empty za 0).toList = ([102, 111, 110, 116] : List UInt8)
         ·rw [if_pos c15] at H
          have zxj : ((yM ByteArray.empty za 0).toList == ([102, 111, 110, 116] : List UInt8)) = true := beq_iff_eq.mpr c15
          have zxv : ((yM ByteArray.empty za 0).toList != ([102, 111, 110, 116] : List UInt8)) = false := bne_eq_false_iff_eq.mpr c15
          clear c15
          by_cases c16 : (za.length : Int) = 2
          ·rw [if_pos c16] at H
           have iq : ((za.length : Int) == 2) = true := beq_iff_eq.mpr c16
           have iy : ((za.length : Int) != 2) = false := bne_eq_false_iff_eq.mpr c16
           clear c16
           as_aux_lemma =>
            have H' := zk.mk H
            clear H
            obtain ⟨Qt, Qu, zQf⟩ := Kd.yA kX.out
            subst zQf
            have YS : 0 ≤ (0 : Int) := (by omega)
            have YT : 0 < (za.length : Int) := of_decide_eq_true (by first | (with_reducible assumption) | assumption)
            obtain ⟨zxk, lT, wu⟩ := Kd.xO (Kd.yc kX.out).2.2 0 YS YT
            cases lT
            have zyF : (0 < za.length) = True := eq_true (by omega)
            (try rw [show ((0 : Int)).toNat = 0 from rfl] at wu)
            (try rw [Addr.add_zero'] at wu)
            replace YS := eq_true YS
            replace YT := eq_true YT
            go_wp2
            go_meet
            case rel => exact ⟨_, (true), (by first | rfl | (simp; done) | (simp [*]; done)), H', ⟨by have := jl.out; first | omega | exact Nat.le_refl _⟩, ⟨by (with_reducible repeat (first | apply Kd.yT | apply Kd.yU | apply Kd.yj)); exact Kd.yh qd.out (fun _ hk => hk.2)⟩, ⟨by (with_reducible repeat (first | apply Kd.yT | apply Kd.yU | apply Kd.yj)); exact Kd.yh kX.out (fun _ hk => hk.2)⟩, ⟨yK zA.out⟩, ⟨yK zG.out⟩, ⟨yK zB.out⟩, ⟨qV zh.out⟩, ⟨qV zJ.out⟩, ⟨yQ HB.out⟩⟩
          ·rw [if_neg c16] at H
           have iq : ((za.length : Int) == 2) = false := beq_eq_false_iff_ne.mpr c16
           have iy : ((za.length : Int) != 2) = true := bne_iff_ne.mpr c16
           by_cases c18 : (za.length : Int) = 3
           ·rw [if_pos c18] at H
            have zxy : ((za.length : Int) == 3) = true := beq_iff_eq.mpr c18
            have zxw : ((za.length : Int) != 3) = false := bne_eq_false_iff_eq.mpr c18
            clear c18
            by_cases c19 : 2 < (za.length : Int)
            ·rw [if_pos c19] at H
             have zyG : decide (2 < (za.length : Int)) = true := decide_eq_true c19
             have zyH : decide (2 < za.length) = true := decide_eq_true (by omega)
             clear c19
             as_aux_lemma =>
              have H' := zk.mk H
              clear H
              obtain ⟨zm3, zm4, zdn⟩ := Kd.yA kX.out
              subst zdn
              have YS : 0 ≤ (0 : Int) := (by omega)
              have YT : 0 < (za.length : Int) := of_decide_eq_true (by first | (with_reducible assumption) | assumption)
              obtain ⟨zxk, lT, wu⟩ := Kd.xO (Kd.yc kX.out).2.2 0 YS YT
              cases lT
              have zyF : (0 < za.length) = True := eq_true (by omega)
              (try rw [show ((0 : Int)).toNat = 0 from rfl] at wu)
              (try rw [Addr.add_zero'] at wu)
              replace YS := eq_true YS
              replace YT := eq_true YT
              have lU : 0 ≤ (2 : Int) := (by omega)
              have l6 : 2 < (za.length : Int) := of_decide_eq_true (by first | (with_reducible assumption) | assumption)
              obtain ⟨zbg, zdo, KD⟩ := Kd.xO (Kd.yc kX.out).2.2 2 lU l6
              obtain rfl : zxk = zbg := (by injection zdo)
              (try simp only [show (2 : Int).toNat = 2 from rfl, Nat.reduceMul, Nat.reduceEqDiff, Go.Addr.add, ↓reduceIte] at KD)
              have zlO : (2 < za.length) = True := eq_true (by omega)
              (try rw [show ((2 : Int)).toNat = 2 from rfl] at KD)
              replace lU := eq_true lU
              replace l6 := eq_true l6
              go_wp2
              go_meet
              case rel => exact ⟨_, (((yM ByteArray.empty za 2).toList == ([115, 112, 101, 99, 105, 97, 108] : List UInt8))), (by first | rfl | (simp; done) | (simp [*]; done)), H', ⟨by have := jl.out; first | omega | exact Nat.le_refl _⟩, ⟨by (with_reducible repeat (first | apply Kd.yT | apply Kd.yU | apply Kd.yj)); exact Kd.yh qd.out (fun _ hk => hk.2)⟩, ⟨by (with_reducible repeat (first | apply Kd.yT | apply Kd.yU | apply Kd.yj)); exact Kd.yh kX.out (fun _ hk => hk.2)⟩, ⟨yK zA.out⟩, ⟨yK zG.out⟩, ⟨yK zB.out⟩, ⟨qV zh.out⟩, ⟨qV zJ.out⟩, ⟨yQ HB.out⟩⟩
            ·rw [if_neg c19] at H
             exact absurd H (by simp)
           ·rw [if_neg c18] at H
            have zxy : ((za.length : Int) == 3) = false := beq_eq_false_iff_ne.mpr c18
            have zxw : ((za.length : Int) != 3) = true := bne_iff_ne.mpr c18
            as_aux_lemma =>
             have H' := zk.mk H
             clear H
             obtain ⟨zm5, zm6, zdp⟩ := Kd.yA kX.out
             subst zdp
             have YS : 0 ≤ (0 : Int) := (by omega)
             have YT : 0 < (za.length : Int) := of_decide_eq_true (by first | (with_reducible assumption) | assumption)
             obtain ⟨zxk, lT, wu⟩ := Kd.xO (Kd.yc kX.out).2.2 0 YS YT
             cases lT
             have zyF : (0 < za.length) = True := eq_true (by omega)
             (try rw [show ((0 : Int)).toNat = 0 from rfl] at wu)
             (try rw [Addr.add_zero'] at wu)
             replace YS := eq_true YS
             replace YT := eq_true YT
             go_wp2
             go_meet
             case rel => exact ⟨_, (false), (by first | rfl | (simp; done) | (simp [*]; done)), H', ⟨by have := jl.out; first | omega | exact Nat.le_refl _⟩, ⟨by (with_reducible repeat (first | apply Kd.yT | apply Kd.yU | apply Kd.yj)); exact Kd.yh qd.out (fun _ hk => hk.2)⟩, ⟨by (with_reducible repeat (first | apply Kd.yT | apply Kd.yU | apply Kd.yj)); exact Kd.yh kX.out (fun _ hk => hk.2)⟩, ⟨yK zA.out⟩, ⟨yK zG.out⟩, ⟨yK zB.out⟩, ⟨qV zh.out⟩, ⟨qV zJ.out⟩, ⟨yQ HB.out⟩⟩
         ·rw [if_neg c15] at H
          have zxj : ((yM ByteArray.empty za 0).toList == ([102, 111, 110, 116] : List UInt8)) = false := beq_eq_false_iff_ne.mpr c15
          have zxv : ((yM ByteArray.empty za 0).toList != ([102, 111, 110, 116] : List UInt8)) = true := bne_iff_ne.mpr c15
          as_aux_lemma =>
           have H' := zk.mk H
           clear H
           obtain ⟨wM, wN, zQg⟩ := Kd.yA kX.out
           subst zQg
           have YS : 0 ≤ (0 : Int) := (by omega)
           have YT : 0 < (za.length : Int) := of_decide_eq_true (by first | (with_reducible assumption) | assumption)
           obtain ⟨zxk, lT, wu⟩ := Kd.xO (Kd.yc kX.out).2.2 0 YS YT
           cases lT
           have zyF : (0 < za.length) = True := eq_true (by omega)
           (try rw [show ((0 : Int)).toNat = 0 from rfl] at wu)
           (try rw [Addr.add_zero'] at wu)
           replace YS := eq_true YS
           replace YT := eq_true YT
           go_wp2
           go_meet
           case rel => exact ⟨_, (false), (by first | rfl | (simp; done) | (simp [*]; done)), H', ⟨by have := jl.out; first | omega | exact Nat.le_refl _⟩, ⟨by (with_reducible repeat (first | apply Kd.yT | apply Kd.yU | apply Kd.yj)); exact Kd.yh qd.out (fun _ hk => hk.2)⟩, ⟨by (with_reducible repeat (first | apply Kd.yT | apply Kd.yU | apply Kd.yj)); exact Kd.yh kX.out (fun _ hk => hk.2)⟩, ⟨yK zA.out⟩, ⟨yK zG.out⟩, ⟨yK zB.out⟩, ⟨qV zh.out⟩, ⟨qV zJ.out⟩, ⟨yQ HB.out⟩⟩
        ·rw [if_neg c14] at H
         exact absurd H (by simp)
       case rest =>
        clear zQe
        try clear c1
        try clear c2
        try clear p2
        try clear p5
        try clear q5
        try clear hx5
        try clear qi5
        try clear c6
        try clear Zf
        try clear p6
        try clear c7
        try clear VI
        try clear c8
        try clear KO
        try clear c10
        try clear J3
        try clear zzK
        try clear c14
        try clear mR
        try clear zyE
        try clear c15
        try clear zxj
        try clear zxv
        try clear c16
        try clear iq
        try clear iy
        try clear c18
        try clear zxy
        try clear zxw
        try clear c19
        try clear zyG
        try clear zyH
        try clear KC
        try clear wu
        try clear KD
        try clear p2
        try clear Qr
        try clear YS
        try clear lU
        try clear Qs
        try clear YT
        try clear l6
        obtain ⟨kq, zxx, rfl, HA, zYe, qd, qR, zA, zG, zB, zh, zJ, HB⟩ := hcut
        cases kq with
        | zero => exact absurd HA.out (by simp [zZ.j1])
        | succ zYf =>
         have H := HA.out
         clear HA
         simp only [zZ.j1] at H
         by_cases c23 : zxx = true
         ·subst c23
          have H1 : (if 1 < (za.length : Int) then (zZ.l0 zYf a0 vH (wrap64 (qP + 1)) (yM ByteArray.empty za 1) ((za.length : Int) == 3) zU yH yP yN) else (none)) = some (r1, r2, r3, r4, r5, r6, r7) := by rw [if_pos rfl] at H; exact H
          clear H
          have H := H1
          clear H1
          by_cases c24 : 1 < (za.length : Int)
          ·rw [if_pos c24] at H
           have zq9 : decide (1 < (za.length : Int)) = true := decide_eq_true c24
           have zX1 : decide (1 < za.length) = true := decide_eq_true (by omega)
           clear c24
           as_aux_lemma =>
            have H' := zk.mk H
            clear H
            obtain ⟨zm7, zm8, zdr⟩ := Kd.yA qR.out
            subst zdr
            have zqe : 0 ≤ (1 : Int) := (by omega)
            have zqf : 1 < (za.length : Int) := of_decide_eq_true (by first | (with_reducible assumption) | assumption)
            obtain ⟨zlP, zds, gV⟩ := Kd.xO (Kd.yc qR.out).2.2 1 zqe zqf
            cases zds
            (try simp only [show (1 : Int).toNat = 1 from rfl, Nat.reduceMul, Nat.reduceEqDiff, Go.Addr.add, ↓reduceIte] at gV)
            have zlR : (1 < za.length) = True := eq_true (by omega)
            (try rw [show ((1 : Int)).toNat = 1 from rfl] at gV)
            replace zqe := eq_true zqe
            replace zqf := eq_true zqf
            have zXn := jO.out
            have zXo := jw.out
            have UG : wc.cell? ⟨yB, 0, none⟩ = some (.string zR) := (zx zJ.out 0).trans rfl
            have UH : wc.cell? ⟨yB, 1, none⟩ = some (.bool zS) := (zx zJ.out 1).trans rfl
            have UL : wc.cell? ⟨yB, 2, none⟩ = some (.int .i64 zU) := (zx zJ.out 2).trans rfl
            have UM : wc.cell? ⟨yB, 3, none⟩ = some (qU) := (zx zJ.out 3).trans rfl
            have UN : wc.cell? ⟨yB, 4, none⟩ = some (xu) := (zx zJ.out 4).trans rfl
            have UO : wc.cell? ⟨yB, 5, none⟩ = some (q9) := (zx zJ.out 5).trans rfl
            have QM := zw zJ.out 0
            have QN := zw zJ.out 1
            have QO := zw zJ.out 2
            have QS := zw zJ.out 3
            have QT := zw zJ.out 4
            have QU := zw zJ.out 5
            go_wp2
            go_roundg zYf
            case measure => have := jl.out; have := zYe.out; omega
            case rel => exact ⟨(wrap64 (qP + 1)), (qm), (qz), (yG), (yM ByteArray.empty za 1), (((za.length : Int) == 3)), (zU), (yH), (yP), (yN), (qU), (xu), (q9), (by first | rfl | (simp; done) | (simp [*]; done)), H', ⟨by have := jl.out; have := zYe.out; omega⟩, ⟨by (with_reducible repeat (first | apply Kd.yT | apply Kd.yU | apply Kd.yj)); exact Kd.yh (Kd.zW (p := ⟨yB, 1, none⟩) (Kd.zW (p := ⟨yB, 0, none⟩) (Kd.qg qd.out zJ.out (by decide)) (fun _ hk => hk.2) (.string (yM ByteArray.empty za 1))) (fun _ hk => hk.2) (.bool ((za.length : Int) == 3))) (fun _ hk => trivial)⟩, ⟨by (with_reducible repeat (first | apply Kd.yT | apply Kd.yU | apply Kd.yj)); exact Kd.yh (Kd.zW (p := ⟨yB, 1, none⟩) (Kd.zW (p := ⟨yB, 0, none⟩) (Kd.qg zA.out zJ.out (by decide)) (fun _ hk => hk.2) (.string (yM ByteArray.empty za 1))) (fun _ hk => hk.2) (.bool ((za.length : Int) == 3))) (fun _ hk => trivial)⟩, ⟨by (with_reducible repeat (first | apply Kd.yT | apply Kd.yU | apply Kd.yj)); exact Kd.yh (Kd.zW (p := ⟨yB, 1, none⟩) (Kd.zW (p := ⟨yB, 0, none⟩) (Kd.qg zG.out zJ.out (by decide)) (fun _ hk => hk.2) (.string (yM ByteArray.empty za 1))) (fun _ hk => hk.2) (.bool ((za.length : Int) == 3))) (fun _ hk => trivial)⟩, ⟨by (with_reducible repeat (first | apply Kd.yT | apply Kd.yU | apply Kd.yj)); exact Kd.yh (Kd.zW (p := ⟨yB, 1, none⟩) (Kd.zW (p := ⟨yB, 0, none⟩) (Kd.qg zB.out zJ.out (by decide)) (fun _ hk => hk.2) (.string (yM ByteArray.empty za 1))) (fun _ hk => hk.2) (.bool ((za.length : Int) == 3))) (fun _ hk => trivial)⟩, ⟨JO zh.out⟩, ⟨by (with_reducible repeat (first | refine zY ?_ _ | refine zV ?_ | refine zQ ?_ _)); refine zi (cs := #[.string (yM ByteArray.empty za 1), .bool zS, .int .i64 zU, qU, xu, q9]) ?_ 1 _ rfl; (with_reducible repeat (first | refine zY ?_ _ | refine zV ?_ | refine zQ ?_ _)); refine zi (cs := #[.string zR, .bool zS, .int .i64 zU, qU, xu, q9]) ?_ 0 _ rfl; (with_reducible repeat (first | refine zY ?_ _ | refine zV ?_ | refine zQ ?_ _)); exact zJ.out⟩, ⟨yQ HB.out⟩⟩
          ·rw [if_neg c24] at H
           exact absurd H (by simp)
         ·replace c23 := Bool.eq_false_iff.mpr c23
          subst c23
          have H1 : (some ((⟨#[]⟩ : BA), false, 0, ([] : List (qA)), ([] : List (qM)), ([] : List (qH)), 4)) = some (r1, r2, r3, r4, r5, r6, r7) := by rw [if_neg (show ¬ (false = true) by decide)] at H; exact H
          clear H
          have H := H1
          clear H1
          as_aux_lemma =>
           simp only [Option.some.injEq, Prod.mk.injEq] at H
           obtain ⟨rfl, rfl, rfl, rfl, rfl, rfl, rfl⟩ := H
           have zlS := jw.out
           have zlT := jO.out
           have zv4 : wc.cell? ⟨yR, 0, none⟩ = some (.string qm) := (zx zh.out 0).trans rfl
           have zv5 : wc.cell? ⟨yR, 1, none⟩ = some (.bool qz) := (zx zh.out 1).trans rfl
           have zv6 : wc.cell? ⟨yR, 2, none⟩ = some (.int .i64 yG) := (zx zh.out 2).trans rfl
           have zqg : wc.cell? ⟨yR, 3, none⟩ = some (.slice none 0 0) := (zx zh.out 3).trans rfl
           have zqh : wc.cell? ⟨yR, 4, none⟩ = some (.slice none 0 0) := (zx zh.out 4).trans rfl
           have zqi : wc.cell? ⟨yR, 5, none⟩ = some (.slice none 0 0) := (zx zh.out 5).trans rfl
           have zql := zw zh.out 0
           have zqm := zw zh.out 1
           have zqn := zw zh.out 2
           have zqo := zw zh.out 3
           have zqp := zw zh.out 4
           have zqr := zw zh.out 5
           go_wp2
           refine bodyPost_ret (pV rfl _ _ yR 44 #[.string (⟨#[]⟩ : BA), .bool false, .int .i64 0, .slice none 0 0, .slice none 0 0, .slice none 0 0] (0, 0) _ rfl (by (with_reducible repeat (first | refine zY ?_ _ | refine zV ?_ | refine zQ ?_ _)); refine zi (cs := #[.string (⟨#[]⟩ : BA), .bool false, .int .i64 0, .slice none 0 0, .slice none 0 0, .slice none 0 0]) ?_ 5 _ rfl; (with_reducible repeat (first | refine zY ?_ _ | refine zV ?_ | refine zQ ?_ _)); refine zi (cs := #[.string (⟨#[]⟩ : BA), .bool false, .int .i64 0, .slice none 0 0, .slice none 0 0, .slice none 0 0]) ?_ 4 _ rfl; (with_reducible repeat (first | refine zY ?_ _ | refine zV ?_ | refine zQ ?_ _)); refine zi (cs := #[.string (⟨#[]⟩ : BA), .bool false, .int .i64 0, .slice none 0 0, .slice none 0 0, .slice none 0 0]) ?_ 3 _ rfl; (with_reducible repeat (first | refine zY ?_ _ | refine zV ?_ | refine zQ ?_ _)); refine zi (cs := #[.string (⟨#[]⟩ : BA), .bool false, .int .i64 yG, .slice none 0 0, .slice none 0 0, .slice none 0 0]) ?_ 2 _ rfl; (with_reducible repeat (first | refine zY ?_ _ | refine zV ?_ | refine zQ ?_ _)); refine zi (cs := #[.string (⟨#[]⟩ : BA), .bool qz, .int .i64 yG, .slice none 0 0, .slice none 0 0, .slice none 0 0]) ?_ 1 _ rfl; (with_reducible repeat (first | refine zY ?_ _ | refine zV ?_ | refine zQ ?_ _)); refine zi (cs := #[.string qm, .bool qz, .int .i64 yG, .slice none 0 0, .slice none 0 0, .slice none 0 0]) ?_ 0 _ rfl; (with_reducible repeat (first | refine zY ?_ _ | refine zV ?_ | refine zQ ?_ _)); exact zh.out) Tryz.underlying44 rfl (by kernel_rfl)) rfl ?_
           exact ⟨_, _, _, by first | rfl | (simp [yw, yZ] <;> rfl) | (simp [*, yw, yZ] <;> rfl), by first | exact Kd.vD _ _ _ _ _ | exact Kd.jG _ _ _ _ _ | exact Kd.jH _ _ _ _ _ | exact Kd.jE _ _ _ _ _ | exact Kd.jF _ _ _ _ _, by first | exact Kd.vD _ _ _ _ _ | exact Kd.jG _ _ _ _ _ | exact Kd.jH _ _ _ _ _ | exact Kd.jE _ _ _ _ _ | exact Kd.jF _ _ _ _ _, by first | exact Kd.vD _ _ _ _ _ | exact Kd.jG _ _ _ _ _ | exact Kd.jH _ _ _ _ _ | exact Kd.jE _ _ _ _ _ | exact Kd.jF _ _ _ _ _, by repeat (first | (with_reducible first | exact HB.out | apply yS | apply yx | apply yD | refine qh ?_ J5.out | refine qh ?_ J6.out) | exact HB.out)⟩
      ·rw [if_neg c10] at H
       have J3 : (qP == 0) = false := beq_eq_false_iff_ne.mpr c10
       have zzK : (qP != 0) = true := bne_iff_ne.mpr c10
       by_cases V4 : qP = 1
       ·rw [if_pos V4] at H
        have mD : (qP == 1) = true := beq_iff_eq.mpr V4
        have zyI : (qP != 1) = false := bne_eq_false_iff_eq.mpr V4
        clear V4
        have zQh := zk.mk H
        clear H
        obtain ⟨zm9, zYg, zdu⟩ := Kd.yA qd.out
        subst zdu
        have Qr : 0 ≤ (qP : Int) := of_decide_eq_true (by first | (with_reducible assumption) | assumption)
        have Qs : qP < (vH.length : Int) := of_decide_eq_true (by first | (with_reducible assumption) | assumption)
        obtain ⟨Qg, zjK, KC⟩ := Kd.xO (Kd.yc qd.out).2.2 qP Qr Qs
        cases zjK
        replace Qr := eq_true Qr
        replace Qs := eq_true Qs
        go_upto_region 14 with (first | ((with_reducible refine y7 (f := 80) rfl ?_); refine jP (some 28) Tryz.func80 #[.string (yM ByteArray.empty vH qP), .int .u8 32] ?_; (with_reducible refine (qF.calls k1 (yM ByteArray.empty vH qP) 32 za _ A9.out).mono ?_); rintro e w33 ⟨JH, rfl, ho0, hb⟩; refine ⟨_, rfl, ?_⟩; have zl := zk.mk (Kd.YE (yK qd.out) (Kd.Vt ho0) hb); have zC := zk.mk (Kd.zf (yK zA.out) hb); have zM := zk.mk (Kd.zf (yK zG.out) hb); have zT := zk.mk (Kd.zf (yK zB.out) hb); have yL := zk.mk (Kd.vB (Kd.Vu ho0 (Kd.gM (yK qd.out))) (zH (yQ HB.out))); have y9 := zk.mk (zo (g := yR) (o := .cells #[.string qm, .bool qz, .int .i64 yG, .slice none 0 0, .slice none 0 0, .slice none 0 0] 44 (0, 0)) (qV zh.out) hb); have qw := zk.mk (zo (g := yB) (o := .cells #[.string zR, .bool zS, .int .i64 zU, qU, xu, q9] 44 (0, 0)) (qV zJ.out) hb); have xg := zk.mk (yg (yQ HB.out) hb); clear qd; clear zA; clear zG; clear zB; clear zh; clear zJ; clear HB; have qd := zl; have zA := zC; have zG := zM; have zB := zT; have kX := yL; have zh := y9; have zJ := qw; have HB := xg; clear zl zC zM zT yL y9 qw xg; (try clear hb); (try clear hb2); (try clear hk); (try clear hi); (try clear ho0)))
        (try simp only [Act.put, List.setIfInBounds_toArray, List.set_cons_zero, List.set_cons_succ])
        go_cut [8] (fun v8 wc => ∃ (kq : Nat) (zxZ : Bool), v8 = .bool zxZ ∧ zk (zZ.j2 kq a0 vH qP za zxZ zR zS zU yH yP yN = some (r1, r2, r3, r4, r5, r6, r7)) ∧ zk (kq ≤ k1) ∧ zk (Kd.R Kd.string 9 wc w.heap.size (fun k_ => some k_ ≠ (JH : Value).ownBlock) (.slice (some Qg) vH.length zYg) vH) ∧ zk (Kd.R Kd.string 9 wc w.heap.size (fun k_ => some k_ ≠ ((.slice (some Qg) vH.length zYg) : Value).ownBlock) JH za) ∧ zk (Kd.R YQ 81 wc w.heap.size (fun _ => True) qU yH) ∧ zk (Kd.R Yt 83 wc w.heap.size (fun _ => True) xu yP) ∧ zk (Kd.R Yu 84 wc w.heap.size (fun _ => True) q9 yN) ∧ zk (wc.heap[yR]? = some (.cells #[.string qm, .bool qz, .int .i64 yG, (.slice none 0 0), (.slice none 0 0), (.slice none 0 0)] 44 (0, 0))) ∧ zk (wc.heap[yB]? = some (.cells #[.string zR, .bool zS, .int .i64 zU, qU, xu, q9] 44 (0, 0))) ∧ zk (Below w.heap.size w wc))
        case first =>
         have H := zQh.out
         clear zQh
         by_cases c34 : 0 < (za.length : Int)
         ·rw [if_pos c34] at H
          have zxQ : decide (0 < (za.length : Int)) = true := decide_eq_true c34
          have zX2 : decide (0 < za.length) = true := decide_eq_true (by omega)
          clear c34
          (first | rw [zxQ] | (simp only [vZ, vQ]; rw [zxQ]) | skip)
          by_cases c35 : (yM ByteArray.empty za 0).toList = ([115, 112, 97, 99, 101] : List UInt8)
          ·rw [if_pos c35] at H
           have zyL : ((yM ByteArray.empty za 0).toList == ([115, 112, 97, 99, 101] : List UInt8)) = true := beq_iff_eq.mpr c35
           have zyM : ((yM ByteArray.empty za 0).toList != ([115, 112, 97, 99, 101] : List UInt8)) = false := bne_eq_false_iff_eq.mpr c35
           clear c35
           as_aux_lemma =>
            have H' := zk.mk H
            clear H
            obtain ⟨X7, X8, zQi⟩ := Kd.yA kX.out
            subst zQi
            have Px : 0 ≤ (0 : Int) := (by omega)
            have Pj : 0 < (za.length : Int) := of_decide_eq_true (by first | (with_reducible assumption) | assumption)
            obtain ⟨zbh, zQl, Vs⟩ := Kd.xO (Kd.yc kX.out).2.2 0 Px Pj
            cases zQl
            have zbi : (0 < za.length) = True := eq_true (by omega)
            (try rw [show ((0 : Int)).toNat = 0 from rfl] at Vs)
            (try rw [Addr.add_zero'] at Vs)
            replace Px := eq_true Px
            replace Pj := eq_true Pj
            go_wp2
            go_meet
            case rel => exact ⟨_, (((za.length : Int) == 2)), (by first | rfl | (simp; done) | (simp [*]; done)), H', ⟨by have := jl.out; first | omega | exact Nat.le_refl _⟩, ⟨by (with_reducible repeat (first | apply Kd.yT | apply Kd.yU | apply Kd.yj)); exact Kd.yh qd.out (fun _ hk => hk.2)⟩, ⟨by (with_reducible repeat (first | apply Kd.yT | apply Kd.yU | apply Kd.yj)); exact Kd.yh kX.out (fun _ hk => hk.2)⟩, ⟨yK zA.out⟩, ⟨yK zG.out⟩, ⟨yK zB.out⟩, ⟨qV zh.out⟩, ⟨qV zJ.out⟩, ⟨yQ HB.out⟩⟩
          ·rw [if_neg c35] at H
           have zyL : ((yM ByteArray.empty za 0).toList == ([115, 112, 97, 99, 101] : List UInt8)) = false := beq_eq_false_iff_ne.mpr c35
           have zyM : ((yM ByteArray.empty za 0).toList != ([115, 112, 97, 99, 101] : List UInt8)) = true := bne_iff_ne.mpr c35
           as_aux_lemma =>
            have H' := zk.mk H
            clear H
            obtain ⟨QA, QB, zQm⟩ := Kd.yA kX.out
            subst zQm
            have Px : 0 ≤ (0 : Int) := (by omega)
            have Pj : 0 < (za.length : Int) := of_decide_eq_true (by first | (with_reducible assumption) | assumption)
            obtain ⟨zbh, zQl, Vs⟩ := Kd.xO (Kd.yc kX.out).2.2 0 Px Pj
            cases zQl
            have zbi : (0 < za.length) = True := eq_true (by omega)
            (try rw [show ((0 : Int)).toNat = 0 from rfl] at Vs)
            (try rw [Addr.add_zero'] at Vs)
            replace Px := eq_true Px
            replace Pj := eq_true Pj
            go_wp2
            go_meet
            case rel => exact ⟨_, (false), (by first | rfl | (simp; done) | (simp [*]; done)), H', ⟨by have := jl.out; first | omega | exact Nat.le_refl _⟩, ⟨by (with_reducible repeat (first | apply Kd.yT | apply Kd.yU | apply Kd.yj)); exact Kd.yh qd.out (fun _ hk => hk.2)⟩, ⟨by (with_reducible repeat (first | apply Kd.yT | apply Kd.yU | apply Kd.yj)); exact Kd.yh kX.out (fun _ hk => hk.2)⟩, ⟨yK zA.out⟩, ⟨yK zG.out⟩, ⟨yK zB.out⟩, ⟨qV zh.out⟩, ⟨qV zJ.out⟩, ⟨yQ HB.out⟩⟩
         ·rw [if_neg c34] at H
          exact absurd H (by simp)
        case rest =>
         clear zQh
         try clear c1
         try clear c2
         try clear p2
         try clear c3
         try clear p5
         try clear q5
         try clear hx5
         try clear qi5
         try clear c6
         try clear Zf
         try clear p6
         try clear c7
         try clear VI
         try clear c8
         try clear KO
         try clear c10
         try clear J3
         try clear zzK
         try clear c14
         try clear mR
         try clear zyE
         try clear c15
         try clear zxj
         try clear zxv
         try clear c16
         try clear iq
         try clear iy
         try clear c18
         try clear zxy
         try clear zxw
         try clear c19
         try clear zyG
         try clear zyH
         try clear c23
         try clear c24
         try clear zq9
         try clear zX1
         try clear c26
         try clear c28
         try clear V4
         try clear mD
         try clear zyI
         try clear c34
         try clear zxQ
         try clear zX2
         try clear c35
         try clear zyL
         try clear zyM
         try clear UG
         try clear UH
         try clear UL
         try clear UM
         try clear UN
         try clear UO
         try clear zv4
         try clear zv5
         try clear zv6
         try clear zqg
         try clear zqh
         try clear zqi
         try clear QM
         try clear QN
         try clear QO
         try clear QS
         try clear QT
         try clear QU
         try clear zql
         try clear zqm
         try clear zqn
         try clear zqo
         try clear zqp
         try clear zqr
         try clear KC
         try clear wu
         try clear KD
         try clear gV
         try clear Vs
         try clear p2
         try clear p5
         try clear Qr
         try clear YS
         try clear lU
         try clear zqe
         try clear Px
         try clear p6
         try clear q5
         try clear Qs
         try clear YT
         try clear l6
         try clear zqf
         try clear Pj
         obtain ⟨kq, zxZ, rfl, HA, zYh, qd, qR, zA, zG, zB, zh, zJ, HB⟩ := hcut
         cases kq with
         | zero => exact absurd HA.out (by simp [zZ.j2])
         | succ l7 =>
          have H := HA.out
          clear HA
          simp only [zZ.j2] at H
          by_cases iE : zxZ = true
          ·subst iE
           have H1 : (if 1 < (za.length : Int) then ((zI.f l7 (yM ByteArray.empty za 1)).bind fun zzg => (if zzg.2 = true then (zZ.l0 l7 a0 vH (wrap64 (qP + 1)) zR zS zzg.1 yH yP yN) else (some ((⟨#[]⟩ : BA), false, 0, ([] : List (qA)), ([] : List (qM)), ([] : List (qH)), 4)))) else (none)) = some (r1, r2, r3, r4, r5, r6, r7) := by rw [if_pos rfl] at H; exact H
           clear H
           have H := H1
           clear H1
           by_cases c39 : 1 < (za.length : Int)
           ·rw [if_pos c39] at H
            have zbl : decide (1 < (za.length : Int)) = true := decide_eq_true c39
            have zbm : decide (1 < za.length) = true := decide_eq_true (by omega)
            clear c39
            replace H := Option.bind_eq_some_iff.mp H
            obtain ⟨⟨nX, zYi⟩, zYl, H⟩ := H
            replace H : (if zYi = true then (zZ.l0 l7 a0 vH (wrap64 (qP + 1)) zR zS nX yH yP yN) else (some ((⟨#[]⟩ : BA), false, 0, ([] : List (qA)), ([] : List (qM)), ([] : List (qH)), 4))) = some (r1, r2, r3, r4, r5, r6, r7) := H
            have rD := zk.mk zYl
            clear zYl
            by_cases c41 : zYi = true
            ·subst c41
             have H1 : (zZ.l0 l7 a0 vH (wrap64 (qP + 1)) zR zS nX yH yP yN) = some (r1, r2, r3, r4, r5, r6, r7) := by rw [if_pos rfl] at H; exact H
             clear H
             have H := H1
             clear H1
             as_aux_lemma =>
              have H' := zk.mk H
              clear H
              obtain ⟨znz, znq, zdA⟩ := Kd.yA qR.out
              subst zdA
              have nJ : 0 ≤ (1 : Int) := (by omega)
              have nV : 1 < (za.length : Int) := of_decide_eq_true (by first | (with_reducible assumption) | assumption)
              obtain ⟨zbn, zQn, JJ⟩ := Kd.xO (Kd.yc qR.out).2.2 1 nJ nV
              cases zQn
              (try simp only [show (1 : Int).toNat = 1 from rfl, Nat.reduceMul, Nat.reduceEqDiff, Go.Addr.add, ↓reduceIte] at JJ)
              have zbo : (1 < za.length) = True := eq_true (by omega)
              (try rw [show ((1 : Int)).toNat = 1 from rfl] at JJ)
              replace nJ := eq_true nJ
              replace nV := eq_true nV
              go_wp2_with (first | ((with_reducible refine y7 (f := 81) rfl ?_); refine jP (some 78) Tryz.func81 #[.string (yM ByteArray.empty za 1)] ?_; (with_reducible refine (zI.calls l7 (yM ByteArray.empty za 1) nX true _ rD.out).mono ?_); rintro e w43 ⟨rfl, hb⟩; refine ⟨_, rfl, ?_⟩; have zl := zk.mk (Kd.zf (yK qd.out) hb); have zC := zk.mk (Kd.zf (yK qR.out) hb); have zM := zk.mk (Kd.zf (yK zA.out) hb); have zT := zk.mk (Kd.zf (yK zG.out) hb); have yL := zk.mk (Kd.zf (yK zB.out) hb); have y9 := zk.mk (zo (g := yR) (o := .cells #[.string qm, .bool qz, .int .i64 yG, .slice none 0 0, .slice none 0 0, .slice none 0 0] 44 (0, 0)) (qV zh.out) hb); have qw := zk.mk (zo (g := yB) (o := .cells #[.string zR, .bool zS, .int .i64 zU, qU, xu, q9] 44 (0, 0)) (qV zJ.out) hb); have xg := zk.mk (yg (yQ HB.out) hb); clear qd; clear qR; clear zA; clear zG; clear zB; clear zh; clear zJ; clear HB; have qd := zl; have qR := zC; have zA := zM; have zG := zT; have zB := yL; have zh := y9; have zJ := qw; have HB := xg; clear zl zC zM zT yL y9 qw xg; (try clear hb); (try clear hb2); (try clear hk); (try clear hi); have zlU := jO.out; have zl0 := jw.out; have zv7 : w43.cell? ⟨yB, 0, none⟩ = some (.string zR) := (zx zJ.out 0).trans rfl; have zv8 : w43.cell? ⟨yB, 1, none⟩ = some (.bool zS) := (zx zJ.out 1).trans rfl; have zv9 : w43.cell? ⟨yB, 2, none⟩ = some (.int .i64 zU) := (zx zJ.out 2).trans rfl; have zkz : w43.cell? ⟨yB, 3, none⟩ = some (qU) := (zx zJ.out 3).trans rfl; have zkq : w43.cell? ⟨yB, 4, none⟩ = some (xu) := (zx zJ.out 4).trans rfl; have zkx : w43.cell? ⟨yB, 5, none⟩ = some (q9) := (zx zJ.out 5).trans rfl; have zkj := zw zJ.out 0; have zkv := zw zJ.out 1; have zkk := zw zJ.out 2; have zky := zw zJ.out 3; have zkw := zw zJ.out 4; have zkZ := zw zJ.out 5))
              go_roundg l7
              case measure => have := jl.out; have := zYh.out; omega
              case rel => exact ⟨(wrap64 (qP + 1)), (qm), (qz), (yG), (zR), (zS), (nX), (yH), (yP), (yN), (qU), (xu), (q9), (by first | rfl | (simp; done) | (simp [*]; done)), H', ⟨by have := jl.out; have := zYh.out; omega⟩, ⟨by (with_reducible repeat (first | apply Kd.yT | apply Kd.yU | apply Kd.yj)); exact Kd.yh (Kd.zW (p := ⟨yB, 2, none⟩) (Kd.qg qd.out zJ.out (by decide)) (fun _ hk => hk.2) (.int .i64 nX)) (fun _ hk => trivial)⟩, ⟨by (with_reducible repeat (first | apply Kd.yT | apply Kd.yU | apply Kd.yj)); exact Kd.yh (Kd.zW (p := ⟨yB, 2, none⟩) (Kd.qg zA.out zJ.out (by decide)) (fun _ hk => hk.2) (.int .i64 nX)) (fun _ hk => trivial)⟩, ⟨by (with_reducible repeat (first | apply Kd.yT | apply Kd.yU | apply Kd.yj)); exact Kd.yh (Kd.zW (p := ⟨yB, 2, none⟩) (Kd.qg zG.out zJ.out (by decide)) (fun _ hk => hk.2) (.int .i64 nX)) (fun _ hk => trivial)⟩, ⟨by (with_reducible repeat (first | apply Kd.yT | apply Kd.yU | apply Kd.yj)); exact Kd.yh (Kd.zW (p := ⟨yB, 2, none⟩) (Kd.qg zB.out zJ.out (by decide)) (fun _ hk => hk.2) (.int .i64 nX)) (fun _ hk => trivial)⟩, ⟨JO zh.out⟩, ⟨by (with_reducible repeat (first | refine zY ?_ _ | refine zV ?_ | refine zQ ?_ _)); refine zi (cs := #[.string zR, .bool zS, .int .i64 zU, qU, xu, q9]) ?_ 2 _ rfl; (with_reducible repeat (first | refine zY ?_ _ | refine zV ?_ | refine zQ ?_ _)); exact zJ.out⟩, ⟨yQ HB.out⟩⟩
            ·replace c41 := Bool.eq_false_iff.mpr c41
             subst c41
             have H1 : (some ((⟨#[]⟩ : BA), false, 0, ([] : List (qA)), ([] : List (qM)), ([] : List (qH)), 4)) = some (r1, r2, r3, r4, r5, r6, r7) := by rw [if_neg (show ¬ (false = true) by decide)] at H; exact H
             clear H
             have H := H1
             clear H1
             as_aux_lemma =>
              simp only [Option.some.injEq, Prod.mk.injEq] at H
              obtain ⟨rfl, rfl, rfl, rfl, rfl, rfl, rfl⟩ := H
              obtain ⟨znx, znj, zdB⟩ := Kd.yA qR.out
              subst zdB
              have nJ : 0 ≤ (1 : Int) := (by omega)
              have nV : 1 < (za.length : Int) := of_decide_eq_true (by first | (with_reducible assumption) | assumption)
              obtain ⟨zbn, zQn, JJ⟩ := Kd.xO (Kd.yc qR.out).2.2 1 nJ nV
              cases zQn
              (try simp only [show (1 : Int).toNat = 1 from rfl, Nat.reduceMul, Nat.reduceEqDiff, Go.Addr.add, ↓reduceIte] at JJ)
              have zbo : (1 < za.length) = True := eq_true (by omega)
              (try rw [show ((1 : Int)).toNat = 1 from rfl] at JJ)
              replace nJ := eq_true nJ
              replace nV := eq_true nV
              go_wp2_with (first | ((with_reducible refine y7 (f := 81) rfl ?_); refine jP (some 78) Tryz.func81 #[.string (yM ByteArray.empty za 1)] ?_; (with_reducible refine (zI.calls l7 (yM ByteArray.empty za 1) nX false _ rD.out).mono ?_); rintro e gK ⟨rfl, hb⟩; refine ⟨_, rfl, ?_⟩; have zl := zk.mk (Kd.zf (yK qd.out) hb); have zC := zk.mk (Kd.zf (yK qR.out) hb); have zM := zk.mk (Kd.zf (yK zA.out) hb); have zT := zk.mk (Kd.zf (yK zG.out) hb); have yL := zk.mk (Kd.zf (yK zB.out) hb); have y9 := zk.mk (zo (g := yR) (o := .cells #[.string qm, .bool qz, .int .i64 yG, .slice none 0 0, .slice none 0 0, .slice none 0 0] 44 (0, 0)) (qV zh.out) hb); have qw := zk.mk (zo (g := yB) (o := .cells #[.string zR, .bool zS, .int .i64 zU, qU, xu, q9] 44 (0, 0)) (qV zJ.out) hb); have xg := zk.mk (yg (yQ HB.out) hb); clear qd; clear qR; clear zA; clear zG; clear zB; clear zh; clear zJ; clear HB; have qd := zl; have qR := zC; have zA := zM; have zG := zT; have zB := yL; have zh := y9; have zJ := qw; have HB := xg; clear zl zC zM zT yL y9 qw xg; (try clear hb); (try clear hb2); (try clear hk); (try clear hi); have zl1 := jO.out; have zl2 := jw.out; have zkQ : gK.cell? ⟨yB, 0, none⟩ = some (.string zR) := (zx zJ.out 0).trans rfl; have zkX : gK.cell? ⟨yB, 1, none⟩ = some (.bool zS) := (zx zJ.out 1).trans rfl; have zkJ : gK.cell? ⟨yB, 2, none⟩ = some (.int .i64 zU) := (zx zJ.out 2).trans rfl; have zkV : gK.cell? ⟨yB, 3, none⟩ = some (qU) := (zx zJ.out 3).trans rfl; have zkK : gK.cell? ⟨yB, 4, none⟩ = some (xu) := (zx zJ.out 4).trans rfl; have zkY : gK.cell? ⟨yB, 5, none⟩ = some (q9) := (zx zJ.out 5).trans rfl; have zkW := zw zJ.out 0; have zka := zw zJ.out 1; have zkb := zw zJ.out 2; have zkc := zw zJ.out 3; have zkd := zw zJ.out 4; have zke := zw zJ.out 5; have dK : gK.cell? ⟨yR, 0, none⟩ = some (.string qm) := (zx zh.out 0).trans rfl; have dY : gK.cell? ⟨yR, 1, none⟩ = some (.bool qz) := (zx zh.out 1).trans rfl; have dW : gK.cell? ⟨yR, 2, none⟩ = some (.int .i64 yG) := (zx zh.out 2).trans rfl; have dh : gK.cell? ⟨yR, 3, none⟩ = some (.slice none 0 0) := (zx zh.out 3).trans rfl; have dn : gK.cell? ⟨yR, 4, none⟩ = some (.slice none 0 0) := (zx zh.out 4).trans rfl; have dD : gK.cell? ⟨yR, 5, none⟩ = some (.slice none 0 0) := (zx zh.out 5).trans rfl; have dF := zw zh.out 0; have dG := zw zh.out 1; have dH := zw zh.out 2; have dI := zw zh.out 3; have dL := zw zh.out 4; have dM := zw zh.out 5))
              refine bodyPost_ret (pV rfl _ _ yR 44 #[.string (⟨#[]⟩ : BA), .bool false, .int .i64 0, .slice none 0 0, .slice none 0 0, .slice none 0 0] (0, 0) _ rfl (by (with_reducible repeat (first | refine zY ?_ _ | refine zV ?_ | refine zQ ?_ _)); refine zi (cs := #[.string (⟨#[]⟩ : BA), .bool false, .int .i64 0, .slice none 0 0, .slice none 0 0, .slice none 0 0]) ?_ 5 _ rfl; (with_reducible repeat (first | refine zY ?_ _ | refine zV ?_ | refine zQ ?_ _)); refine zi (cs := #[.string (⟨#[]⟩ : BA), .bool false, .int .i64 0, .slice none 0 0, .slice none 0 0, .slice none 0 0]) ?_ 4 _ rfl; (with_reducible repeat (first | refine zY ?_ _ | refine zV ?_ | refine zQ ?_ _)); refine zi (cs := #[.string (⟨#[]⟩ : BA), .bool false, .int .i64 0, .slice none 0 0, .slice none 0 0, .slice none 0 0]) ?_ 3 _ rfl; (with_reducible repeat (first | refine zY ?_ _ | refine zV ?_ | refine zQ ?_ _)); refine zi (cs := #[.string (⟨#[]⟩ : BA), .bool false, .int .i64 yG, .slice none 0 0, .slice none 0 0, .slice none 0 0]) ?_ 2 _ rfl; (with_reducible repeat (first | refine zY ?_ _ | refine zV ?_ | refine zQ ?_ _)); refine zi (cs := #[.string (⟨#[]⟩ : BA), .bool qz, .int .i64 yG, .slice none 0 0, .slice none 0 0, .slice none 0 0]) ?_ 1 _ rfl; (with_reducible repeat (first | refine zY ?_ _ | refine zV ?_ | refine zQ ?_ _)); refine zi (cs := #[.string qm, .bool qz, .int .i64 yG, .slice none 0 0, .slice none 0 0, .slice none 0 0]) ?_ 0 _ rfl; (with_reducible repeat (first | refine zY ?_ _ | refine zV ?_ | refine zQ ?_ _)); refine uo ?_ jw.out _; (with_reducible repeat (first | refine zY ?_ _ | refine zV ?_ | refine zQ ?_ _)); exact zh.out) Tryz.underlying44 rfl (by kernel_rfl)) rfl ?_
              exact ⟨_, _, _, by first | rfl | (simp [yw, yZ] <;> rfl) | (simp [*, yw, yZ] <;> rfl), by first | exact Kd.vD _ _ _ _ _ | exact Kd.jG _ _ _ _ _ | exact Kd.jH _ _ _ _ _ | exact Kd.jE _ _ _ _ _ | exact Kd.jF _ _ _ _ _, by first | exact Kd.vD _ _ _ _ _ | exact Kd.jG _ _ _ _ _ | exact Kd.jH _ _ _ _ _ | exact Kd.jE _ _ _ _ _ | exact Kd.jF _ _ _ _ _, by first | exact Kd.vD _ _ _ _ _ | exact Kd.jG _ _ _ _ _ | exact Kd.jH _ _ _ _ _ | exact Kd.jE _ _ _ _ _ | exact Kd.jF _ _ _ _ _, by repeat (first | (with_reducible first | exact HB.out | apply yS | apply yx | apply yD | refine qh ?_ J5.out | refine qh ?_ J6.out) | exact HB.out)⟩
           ·rw [if_neg c39] at H
            exact absurd H (by simp)
          ·replace iE := Bool.eq_false_iff.mpr iE
           subst iE
           have H1 : (some ((⟨#[]⟩ : BA), false, 0, ([] : List (qA)), ([] : List (qM)), ([] : List (qH)), 4)) = some (r1, r2, r3, r4, r5, r6, r7) := by rw [if_neg (show ¬ (false = true) by decide)] at H; exact H
           clear H
           have H := H1
           clear H1
           as_aux_lemma =>
            simp only [Option.some.injEq, Prod.mk.injEq] at H
            obtain ⟨rfl, rfl, rfl, rfl, rfl, rfl, rfl⟩ := H
            have zl3 := jw.out
            have zl4 := jO.out
            have zkf : wc.cell? ⟨yR, 0, none⟩ = some (.string qm) := (zx zh.out 0).trans rfl
            have zkg : wc.cell? ⟨yR, 1, none⟩ = some (.bool qz) := (zx zh.out 1).trans rfl
            have zkh : wc.cell? ⟨yR, 2, none⟩ = some (.int .i64 yG) := (zx zh.out 2).trans rfl
            have zki : wc.cell? ⟨yR, 3, none⟩ = some (.slice none 0 0) := (zx zh.out 3).trans rfl
            have zkl : wc.cell? ⟨yR, 4, none⟩ = some (.slice none 0 0) := (zx zh.out 4).trans rfl
            have zkm : wc.cell? ⟨yR, 5, none⟩ = some (.slice none 0 0) := (zx zh.out 5).trans rfl
            have zkn := zw zh.out 0
            have zko := zw zh.out 1
            have zkp := zw zh.out 2
            have zkr := zw zh.out 3
            have zks := zw zh.out 4
            have zkt := zw zh.out 5
            go_wp2
            refine bodyPost_ret (pV rfl _ _ yR 44 #[.string (⟨#[]⟩ : BA), .bool false, .int .i64 0, .slice none 0 0, .slice none 0 0, .slice none 0 0] (0, 0) _ rfl (by (with_reducible repeat (first | refine zY ?_ _ | refine zV ?_ | refine zQ ?_ _)); refine zi (cs := #[.string (⟨#[]⟩ : BA), .bool false, .int .i64 0, .slice none 0 0, .slice none 0 0, .slice none 0 0]) ?_ 5 _ rfl; (with_reducible repeat (first | refine zY ?_ _ | refine zV ?_ | refine zQ ?_ _)); refine zi (cs := #[.string (⟨#[]⟩ : BA), .bool false, .int .i64 0, .slice none 0 0, .slice none 0 0, .slice none 0 0]) ?_ 4 _ rfl; (with_reducible repeat (first | refine zY ?_ _ | refine zV ?_ | refine zQ ?_ _)); refine zi (cs := #[.string (⟨#[]⟩ : BA), .bool false, .int .i64 0, .slice none 0 0, .slice none 0 0, .slice none 0 0]) ?_ 3 _ rfl; (with_reducible repeat (first | refine zY ?_ _ | refine zV ?_ | refine zQ ?_ _)); refine zi (cs := #[.string (⟨#[]⟩ : BA), .bool false, .int .i64 yG, .slice none 0 0, .slice none 0 0, .slice none 0 0]) ?_ 2 _ rfl; (with_reducible repeat (first | refine zY ?_ _ | refine zV ?_ | refine zQ ?_ _)); refine zi (cs := #[.string (⟨#[]⟩ : BA), .bool qz, .int .i64 yG, .slice none 0 0, .slice none 0 0, .slice none 0 0]) ?_ 1 _ rfl; (with_reducible repeat (first | refine zY ?_ _ | refine zV ?_ | refine zQ ?_ _)); refine zi (cs := #[.string qm, .bool qz, .int .i64 yG, .slice none 0 0, .slice none 0 0, .slice none 0 0]) ?_ 0 _ rfl; (with_reducible repeat (first | refine zY ?_ _ | refine zV ?_ | refine zQ ?_ _)); exact zh.out) Tryz.underlying44 rfl (by kernel_rfl)) rfl ?_
            exact ⟨_, _, _, by first | rfl | (simp [yw, yZ] <;> rfl) | (simp [*, yw, yZ] <;> rfl), by first | exact Kd.vD _ _ _ _ _ | exact Kd.jG _ _ _ _ _ | exact Kd.jH _ _ _ _ _ | exact Kd.jE _ _ _ _ _ | exact Kd.jF _ _ _ _ _, by first | exact Kd.vD _ _ _ _ _ | exact Kd.jG _ _ _ _ _ | exact Kd.jH _ _ _ _ _ | exact Kd.jE _ _ _ _ _ | exact Kd.jF _ _ _ _ _, by first | exact Kd.vD _ _ _ _ _ | exact Kd.jG _ _ _ _ _ | exact Kd.jH _ _ _ _ _ | exact Kd.jE _ _ _ _ _ | exact Kd.jF _ _ _ _ _, by repeat (first | (with_reducible first | exact HB.out | apply yS | apply yx | apply yD | refine qh ?_ J5.out | refine qh ?_ J6.out) | exact HB.out)⟩
       ·rw [if_neg V4] at H
        have mD : (qP == 1) = false := beq_eq_false_iff_ne.mpr V4
        have zyI : (qP != 1) = true := bne_iff_ne.mpr V4
        have zQo := zk.mk H
        clear H
        obtain ⟨zjq, Wq, zQw⟩ := Kd.yA qd.out
        subst zQw
        have Qr : 0 ≤ (qP : Int) := of_decide_eq_true (by first | (with_reducible assumption) | assumption)
        have Qs : qP < (vH.length : Int) := of_decide_eq_true (by first | (with_reducible assumption) | assumption)
        obtain ⟨Qg, zjK, KC⟩ := Kd.xO (Kd.yc qd.out).2.2 qP Qr Qs
        cases zjK
        replace Qr := eq_true Qr
        replace Qs := eq_true Qs
        go_upto_region 17 with (first | ((with_reducible refine y7 (f := 80) rfl ?_); refine jP (some 28) Tryz.func80 #[.string (yM ByteArray.empty vH qP), .int .u8 32] ?_; (with_reducible refine (qF.calls k1 (yM ByteArray.empty vH qP) 32 za _ A9.out).mono ?_); rintro e w55 ⟨JH, rfl, ho0, hb⟩; refine ⟨_, rfl, ?_⟩; have zl := zk.mk (Kd.YE (yK qd.out) (Kd.Vt ho0) hb); have zC := zk.mk (Kd.zf (yK zA.out) hb); have zM := zk.mk (Kd.zf (yK zG.out) hb); have zT := zk.mk (Kd.zf (yK zB.out) hb); have yL := zk.mk (Kd.vB (Kd.Vu ho0 (Kd.gM (yK qd.out))) (zH (yQ HB.out))); have y9 := zk.mk (zo (g := yR) (o := .cells #[.string qm, .bool qz, .int .i64 yG, .slice none 0 0, .slice none 0 0, .slice none 0 0] 44 (0, 0)) (qV zh.out) hb); have qw := zk.mk (zo (g := yB) (o := .cells #[.string zR, .bool zS, .int .i64 zU, qU, xu, q9] 44 (0, 0)) (qV zJ.out) hb); have xg := zk.mk (yg (yQ HB.out) hb); clear qd; clear zA; clear zG; clear zB; clear zh; clear zJ; clear HB; have qd := zl; have zA := zC; have zG := zM; have zB := zT; have kX := yL; have zh := y9; have zJ := qw; have HB := xg; clear zl zC zM zT yL y9 qw xg; (try clear hb); (try clear hb2); (try clear hk); (try clear hi); (try clear ho0)))
        (try simp only [Act.put, List.setIfInBounds_toArray, List.set_cons_zero, List.set_cons_succ])
        go_cut [82] (fun v82 wc => ∃ (kq : Nat) (zzl : Bool), v82 = .bool zzl ∧ zk (zZ.j3 kq a0 vH qP za true zzl zR zS zU yH yP yN = some (r1, r2, r3, r4, r5, r6, r7)) ∧ zk (kq ≤ k1) ∧ zk (Kd.R Kd.string 9 wc w.heap.size (fun k_ => some k_ ≠ (JH : Value).ownBlock) (.slice (some Qg) vH.length Wq) vH) ∧ zk (Kd.R Kd.string 9 wc w.heap.size (fun k_ => some k_ ≠ ((.slice (some Qg) vH.length Wq) : Value).ownBlock) JH za) ∧ zk (Kd.R YQ 81 wc w.heap.size (fun _ => True) qU yH) ∧ zk (Kd.R Yt 83 wc w.heap.size (fun _ => True) xu yP) ∧ zk (Kd.R Yu 84 wc w.heap.size (fun _ => True) q9 yN) ∧ zk (wc.heap[yR]? = some (.cells #[.string qm, .bool qz, .int .i64 yG, (.slice none 0 0), (.slice none 0 0), (.slice none 0 0)] 44 (0, 0))) ∧ zk (wc.heap[yB]? = some (.cells #[.string zR, .bool zS, .int .i64 zU, qU, xu, q9] 44 (0, 0))) ∧ zk (Below w.heap.size w wc))
        case first =>
         have H := zQo.out
         clear zQo
         by_cases iD : 0 < (za.length : Int)
         ·rw [if_pos iD] at H
          have zq7 : decide (0 < (za.length : Int)) = true := decide_eq_true iD
          have zbp : decide (0 < za.length) = true := decide_eq_true (by omega)
          clear iD
          (first | rw [zq7] | (simp only [vZ, vQ]; rw [zq7]) | skip)
          by_cases Wz : (yM ByteArray.empty za 0).toList = ([103] : List UInt8)
          ·rw [if_pos Wz] at H
           have zq8 : ((yM ByteArray.empty za 0).toList == ([103] : List UInt8)) = true := beq_iff_eq.mpr Wz
           have zX3 : ((yM ByteArray.empty za 0).toList != ([103] : List UInt8)) = false := bne_eq_false_iff_eq.mpr Wz
           clear Wz
           as_aux_lemma =>
            have H' := zk.mk H
            clear H
            obtain ⟨Pv, Pk, zQp⟩ := Kd.yA kX.out
            subst zQp
            have nK : 0 ≤ (0 : Int) := (by omega)
            have nY : 0 < (za.length : Int) := of_decide_eq_true (by first | (with_reducible assumption) | assumption)
            obtain ⟨zbr, zQr, JV⟩ := Kd.xO (Kd.yc kX.out).2.2 0 nK nY
            cases zQr
            have zbs : (0 < za.length) = True := eq_true (by omega)
            (try rw [show ((0 : Int)).toNat = 0 from rfl] at JV)
            (try rw [Addr.add_zero'] at JV)
            replace nK := eq_true nK
            replace nY := eq_true nY
            go_wp2
            go_meet
            case rel => exact ⟨_, (((za.length : Int) == 3)), (by first | rfl | (simp; done) | (simp [*]; done)), H', ⟨by have := jl.out; first | omega | exact Nat.le_refl _⟩, ⟨by (with_reducible repeat (first | apply Kd.yT | apply Kd.yU | apply Kd.yj)); exact Kd.yh qd.out (fun _ hk => hk.2)⟩, ⟨by (with_reducible repeat (first | apply Kd.yT | apply Kd.yU | apply Kd.yj)); exact Kd.yh kX.out (fun _ hk => hk.2)⟩, ⟨yK zA.out⟩, ⟨yK zG.out⟩, ⟨yK zB.out⟩, ⟨qV zh.out⟩, ⟨qV zJ.out⟩, ⟨yQ HB.out⟩⟩
          ·rw [if_neg Wz] at H
           have zq8 : ((yM ByteArray.empty za 0).toList == ([103] : List UInt8)) = false := beq_eq_false_iff_ne.mpr Wz
           have zX3 : ((yM ByteArray.empty za 0).toList != ([103] : List UInt8)) = true := bne_iff_ne.mpr Wz
           as_aux_lemma =>
            have H' := zk.mk H
            clear H
            obtain ⟨znv, znk, zdC⟩ := Kd.yA kX.out
            subst zdC
            have nK : 0 ≤ (0 : Int) := (by omega)
            have nY : 0 < (za.length : Int) := of_decide_eq_true (by first | (with_reducible assumption) | assumption)
            obtain ⟨zbr, zQr, JV⟩ := Kd.xO (Kd.yc kX.out).2.2 0 nK nY
            cases zQr
            have zbs : (0 < za.length) = True := eq_true (by omega)
            (try rw [show ((0 : Int)).toNat = 0 from rfl] at JV)
            (try rw [Addr.add_zero'] at JV)
            replace nK := eq_true nK
            replace nY := eq_true nY
            go_wp2
            go_meet
            case rel => exact ⟨_, (false), (by first | rfl | (simp; done) | (simp [*]; done)), H', ⟨by have := jl.out; first | omega | exact Nat.le_refl _⟩, ⟨by (with_reducible repeat (first | apply Kd.yT | apply Kd.yU | apply Kd.yj)); exact Kd.yh qd.out (fun _ hk => hk.2)⟩, ⟨by (with_reducible repeat (first | apply Kd.yT | apply Kd.yU | apply Kd.yj)); exact Kd.yh kX.out (fun _ hk => hk.2)⟩, ⟨yK zA.out⟩, ⟨yK zG.out⟩, ⟨yK zB.out⟩, ⟨qV zh.out⟩, ⟨qV zJ.out⟩, ⟨yQ HB.out⟩⟩
         ·rw [if_neg iD] at H
          exact absurd H (by simp)
        case rest =>
         clear zQo
         try clear c1
         try clear c2
         try clear p2
         try clear c3
         try clear c4
         try clear c5
         try clear p5
         try clear q5
         try clear hx5
         try clear qi5
         try clear c6
         try clear Zf
         try clear p6
         try clear c7
         try clear VI
         try clear c8
         try clear KO
         try clear c10
         try clear J3
         try clear zzK
         try clear c14
         try clear mR
         try clear zyE
         try clear c15
         try clear zxj
         try clear zxv
         try clear c16
         try clear iq
         try clear iy
         try clear c18
         try clear zxy
         try clear zxw
         try clear c19
         try clear zyG
         try clear zyH
         try clear c23
         try clear c24
         try clear zq9
         try clear zX1
         try clear c26
         try clear c28
         try clear V4
         try clear mD
         try clear zyI
         try clear c34
         try clear zxQ
         try clear zX2
         try clear c35
         try clear zyL
         try clear zyM
         try clear iE
         try clear c39
         try clear zbl
         try clear zbm
         try clear c41
         try clear c44
         try clear c48
         try clear c51
         try clear iD
         try clear zq7
         try clear zbp
         try clear Wz
         try clear zq8
         try clear zX3
         try clear p57
         try clear q57
         try clear zdD
         try clear p58
         try clear q58
         try clear zdE
         try clear zny
         try clear UG
         try clear UH
         try clear UL
         try clear UM
         try clear UN
         try clear UO
         try clear zv4
         try clear zv5
         try clear zv6
         try clear zqg
         try clear zqh
         try clear zqi
         try clear zv7
         try clear zv8
         try clear zv9
         try clear zkz
         try clear zkq
         try clear zkx
         try clear zkQ
         try clear zkX
         try clear zkJ
         try clear zkV
         try clear zkK
         try clear zkY
         try clear dK
         try clear dY
         try clear dW
         try clear dh
         try clear dn
         try clear dD
         try clear zkf
         try clear zkg
         try clear zkh
         try clear zki
         try clear zkl
         try clear zkm
         try clear QM
         try clear QN
         try clear QO
         try clear QS
         try clear QT
         try clear QU
         try clear zql
         try clear zqm
         try clear zqn
         try clear zqo
         try clear zqp
         try clear zqr
         try clear zkj
         try clear zkv
         try clear zkk
         try clear zky
         try clear zkw
         try clear zkZ
         try clear zkW
         try clear zka
         try clear zkb
         try clear zkc
         try clear zkd
         try clear zke
         try clear dF
         try clear dG
         try clear dH
         try clear dI
         try clear dL
         try clear dM
         try clear zkn
         try clear zko
         try clear zkp
         try clear zkr
         try clear zks
         try clear zkt
         try clear KC
         try clear wu
         try clear KD
         try clear gV
         try clear Vs
         try clear JJ
         try clear JV
         try clear p2
         try clear p5
         try clear Qr
         try clear YS
         try clear lU
         try clear zqe
         try clear Px
         try clear nJ
         try clear nK
         try clear p6
         try clear q5
         try clear Qs
         try clear YT
         try clear l6
         try clear zqf
         try clear Pj
         try clear nV
         try clear nY
         obtain ⟨kq, zzl, rfl, HA, Py, qd, qR, zA, zG, zB, zh, zJ, HB⟩ := hcut
         cases kq with
         | zero => exact absurd HA.out (by simp [zZ.j3])
         | succ WQ =>
          have H := HA.out
          clear HA
          simp only [zZ.j3] at H
          by_cases c60 : zzl = true
          ·subst c60
           have H1 : (if 2 < (za.length : Int) then ((zI.f WQ (yM ByteArray.empty za 2)).bind fun zzh => (if 1 < (za.length : Int) then (if yH.length < 5864062014805 then (if zzh.2 = true then (zZ.l0 WQ a0 vH (wrap64 (qP + 1)) zR zS zU (yH ++ [(⟨yM ByteArray.empty za 1, zzh.1⟩ : qA)]) yP yN) else (some ((⟨#[]⟩ : BA), false, 0, ([] : List (qA)), ([] : List (qM)), ([] : List (qH)), 4))) else (none)) else (none))) else (none)) = some (r1, r2, r3, r4, r5, r6, r7) := by rw [if_pos rfl] at H; exact H
           clear H
           have H := H1
           clear H1
           by_cases c61 : 2 < (za.length : Int)
           ·rw [if_pos c61] at H
            have zbt : decide (2 < (za.length : Int)) = true := decide_eq_true c61
            have zbu : decide (2 < za.length) = true := decide_eq_true (by omega)
            clear c61
            replace H := Option.bind_eq_some_iff.mp H
            obtain ⟨⟨Pw, zQs⟩, zYm, H⟩ := H
            replace H : (if 1 < (za.length : Int) then (if yH.length < 5864062014805 then (if zQs = true then (zZ.l0 WQ a0 vH (wrap64 (qP + 1)) zR zS zU (yH ++ [(⟨yM ByteArray.empty za 1, Pw⟩ : qA)]) yP yN) else (some ((⟨#[]⟩ : BA), false, 0, ([] : List (qA)), ([] : List (qM)), ([] : List (qH)), 4))) else (none)) else (none)) = some (r1, r2, r3, r4, r5, r6, r7) := H
            have A62 := zk.mk zYm
            clear zYm
            by_cases c63 : 1 < (za.length : Int)
            ·rw [if_pos c63] at H
             have zbA : decide (1 < (za.length : Int)) = true := decide_eq_true c63
             have zbB : decide (1 < za.length) = true := decide_eq_true (by omega)
             clear c63
             by_cases c64 : yH.length < 5864062014805
             ·rw [if_pos c64] at H
              have zX4 := zk.mk c64
              clear c64
              obtain ⟨sN, zzm⟩ : ∃ y_ : List (qA), y_ = (yH ++ [(⟨yM ByteArray.empty za 1, Pw⟩ : qA)]) := ⟨_, rfl⟩
              replace H : (if zQs = true then (zZ.l0 WQ a0 vH (wrap64 (qP + 1)) zR zS zU sN yP yN) else (some ((⟨#[]⟩ : BA), false, 0, ([] : List (qA)), ([] : List (qM)), ([] : List (qH)), 4))) = some (r1, r2, r3, r4, r5, r6, r7) := by first | (rw [zzm]; with_reducible exact H) | (have jR := (Option.bind_some _ _).symm.trans H; rw [zzm]; with_reducible exact jR) | (have jR := (Option.bind_some _ _).symm.trans H; with_reducible exact jR) | with_reducible exact H | (rw [zzm]; exact H) | exact H
              have zX5 := zk.mk zzm
              clear zzm
              by_cases c65 : zQs = true
              ·subst c65
               have H1 : (zZ.l0 WQ a0 vH (wrap64 (qP + 1)) zR zS zU sN yP yN) = some (r1, r2, r3, r4, r5, r6, r7) := by rw [if_pos rfl] at H; exact H
               clear H
               have H := H1
               clear H1
               as_aux_lemma =>
                have H' := zk.mk H
                clear H
                obtain ⟨znw, znZ, zdF⟩ := Kd.yA qR.out
                subst zdF
                have sO : 0 ≤ (2 : Int) := (by omega)
                have sP : 2 < (za.length : Int) := of_decide_eq_true (by first | (with_reducible assumption) | assumption)
                obtain ⟨nW, zQt, KE⟩ := Kd.xO (Kd.yc qR.out).2.2 2 sO sP
                cases zQt
                (try simp only [show (2 : Int).toNat = 2 from rfl, Nat.reduceMul, Nat.reduceEqDiff, Go.Addr.add, ↓reduceIte] at KE)
                have zbC : (2 < za.length) = True := eq_true (by omega)
                (try rw [show ((2 : Int)).toNat = 2 from rfl] at KE)
                replace sO := eq_true sO
                replace sP := eq_true sP
                try go_wp2_with (first | ((with_reducible refine y7 (f := 81) rfl ?_); refine jP (some 96) Tryz.func81 #[.string (yM ByteArray.empty za 2)] ?_; (with_reducible refine (zI.calls WQ (yM ByteArray.empty za 2) Pw true _ A62.out).mono ?_); rintro e w67 ⟨rfl, hb⟩; refine ⟨_, rfl, ?_⟩; have zl := zk.mk (Kd.zf (yK qd.out) hb); have zC := zk.mk (Kd.zf (yK qR.out) hb); have zM := zk.mk (Kd.zf (yK zA.out) hb); have zT := zk.mk (Kd.zf (yK zG.out) hb); have yL := zk.mk (Kd.zf (yK zB.out) hb); have y9 := zk.mk (zo (g := yR) (o := .cells #[.string qm, .bool qz, .int .i64 yG, .slice none 0 0, .slice none 0 0, .slice none 0 0] 44 (0, 0)) (qV zh.out) hb); have qw := zk.mk (zo (g := yB) (o := .cells #[.string zR, .bool zS, .int .i64 zU, qU, xu, q9] 44 (0, 0)) (qV zJ.out) hb); have xg := zk.mk (yg (yQ HB.out) hb); clear qd; clear qR; clear zA; clear zG; clear zB; clear zh; clear zJ; clear HB; have qd := zl; have qR := zC; have zA := zM; have zG := zT; have zB := yL; have zh := y9; have zJ := qw; have HB := xg; clear zl zC zM zT yL y9 qw xg; (try clear hb); (try clear hb2); (try clear hk); (try clear hi)))
                have zl := zk.mk (Kd.yj qd.out)
                have zC := zk.mk (Kd.yj qR.out)
                have zM := zk.mk (Kd.yj zA.out)
                have zT := zk.mk (Kd.yj zG.out)
                have yL := zk.mk (Kd.yj zB.out)
                have y9 := zk.mk (zV zh.out)
                have qw := zk.mk (zV zJ.out)
                have xg := zk.mk (yD HB.out)
                clear qd qR zA zG zB zh zJ HB
                have qd := zl
                have qR := zC
                have zA := zM
                have zG := zT
                have zB := yL
                have zh := y9
                have zJ := qw
                have HB := xg
                clear zl zC zM zT yL y9 qw xg
                have sS : 0 ≤ (1 : Int) := (by omega)
                have sU : 1 < (za.length : Int) := of_decide_eq_true (by first | (with_reducible assumption) | assumption)
                obtain ⟨zyN, zQu, Xz⟩ := Kd.xO (Kd.yc qR.out).2.2 1 sS sU
                obtain rfl : nW = zyN := (by injection zQu)
                (try simp only [show (1 : Int).toNat = 1 from rfl, Nat.reduceMul, Nat.reduceEqDiff, Go.Addr.add, ↓reduceIte] at Xz)
                have zbD : (1 < za.length) = True := eq_true (by omega)
                (try rw [show ((1 : Int)).toNat = 1 from rfl] at Xz)
                replace sS := eq_true sS
                replace sU := eq_true sU
                refine wW (n := 11) (S := fun w' => w'.cell? ⟨yB, 0, none⟩ = some (.string zR) ∧ w'.cell? ⟨yB, 1, none⟩ = some (.bool zS) ∧ w'.cell? ⟨yB, 2, none⟩ = some (.int .i64 zU) ∧ w'.cell? ⟨yB, 3, none⟩ = some (qU) ∧ w'.cell? ⟨yB, 4, none⟩ = some (xu) ∧ w'.cell? ⟨yB, 5, none⟩ = some (q9) ∧ w'.cell? ⟨nW.block, nW.off + 1, none⟩ = some (.string (yM ByteArray.empty za 1))) (ds := [8, 10]) #[false, false, false, false, false, false, false, false, false, false, false] (by kernel_rfl) rfl rfl ⟨(zx zJ.out 0).trans rfl, (zx zJ.out 1).trans rfl, (zx zJ.out 2).trans rfl, (zx zJ.out 3).trans rfl, (zx zJ.out 4).trans rfl, (zx zJ.out 5).trans rfl, Xz⟩ (fun hHeld => ?_); refine wI zZ.zXU zZ.zZq (fun yY jT => ?_)
                generalize w67.drew = w68 at qd qR zA zG zB zh zJ HB Xz hHeld ⊢
                refine uj 0 (some 100) yY ?_
                refine uj 2 (some 102) yY ?_
                refine uj 3 (some 103) yY ?_
                refine uj 5 (some 105) yY ?_
                refine pQ 1 (some 101) yY jT hHeld ?_
                refine pQ 4 (some 104) yY jT hHeld ?_
                refine uj 6 (some 106) yY ?_
                refine ru 7 (some 107) yY (fun K hK => ?_)
                refine vaS ?_
                refine hK.out _ _ ⟨(zx (zQ zJ.out _) 0).trans rfl, (zx (zQ zJ.out _) 1).trans rfl, (zx (zQ zJ.out _) 2).trans rfl, (zx (zQ zJ.out _) 3).trans rfl, (zx (zQ zJ.out _) 4).trans rfl, (zx (zQ zJ.out _) 5).trans rfl, (World.cell?_alloc_lt _ _ _ (World.block_lt_of_cell? _ _ (hHeld.2.2.2.2.2.2))).trans (hHeld.2.2.2.2.2.2)⟩ (fun hHeld => ?_)
                clear hK K
                refine JN (some 107) ?_
                refine ZA (i := 8) (N := some 108) #[true, true, true, true, true, true, true, true, true, false, false] rfl rfl (uw yY.out (by kernel_rfl)) (by decide) (fun K hK => ?_)
                refine Kd.u7 YQ (w0 := w) w.heap.size (by rfl) (.tmp 101) (.tmp 107) 40 81 (.agg #[(.string ⟨#[]⟩), (.int .i64 0)]) 24 rfl Tryz.underlying40 zxd rfl (by decide) (by omega) qU yH (⟨yM ByteArray.empty za 1, Pw⟩ : qA) [.string (yM ByteArray.empty za 1), .int .i64 Pw] (fun _ => True) (fun _ => False) rfl rfl ?aP (fun _ hk => hk.elim) ?aF ?aO ?aB ?aS ?aL ?_
                (case aP => exact zzO _ _ _ (⟨yM ByteArray.empty za 1, Pw⟩ : qA))
                (case aB => exact (yQ HB.out))
                (case aF => exact (fun _ _ => trivial))
                (case aO => exact (yK zA.out))
                (case aS => exact (zH (yQ HB.out)))
                (case aL => have := zX4.out; omega)
                intro zdG w69 ho hb hg hat
                rw [← zX5.out] at ho
                have zl := zk.mk (Kd.ji (yK qd.out) (Kd.jh (yK zA.out)) (by decide) hg)
                have zC := zk.mk (Kd.ji (yK qR.out) (Kd.jh (yK zA.out)) (by decide) hg)
                have zM := zk.mk (Kd.ji (yK zG.out) (Kd.jh (yK zA.out)) (by decide) hg)
                have zT := zk.mk (Kd.ji (yK zB.out) (Kd.jh (yK zA.out)) (by decide) hg)
                have yL := zk.mk (vk (g := yR) (o := .cells #[.string qm, .bool qz, .int .i64 yG, .slice none 0 0, .slice none 0 0, .slice none 0 0] 44 (0, 0)) (qV zh.out) hg (Kd.kT zA.out zh.out (by decide)))
                have y9 := zk.mk (vk (g := yB) (o := .cells #[.string zR, .bool zS, .int .i64 zU, qU, xu, q9] 44 (0, 0)) (qV zJ.out) hg (Kd.kT zA.out zJ.out (by decide)))
                have qw := zk.mk (hb)
                have xg := zk.mk (ho)
                clear qd qR zG zB zh zJ HB zA
                have qd := zl
                have qR := zC
                have zG := zM
                have zB := zT
                have zh := yL
                have zJ := y9
                have HB := qw
                have zxX := xg
                clear zl zC zM zT yL y9 qw xg ho hb hg hat
                obtain ⟨zjY, zjW, zYn⟩ := Kd.yA zxX.out
                (first | subst zYn | (injection zYn with kW Z4 kg; have Z5 := kW.symm; have Z6 := kg.symm; clear kW Z4 kg; subst Z5; subst Z6))
                refine hK.out _ _ ?_
                clear hK K
                refine JN (some 108) ?_
                refine uj 9 (some 109) yY ?_
                refine ZA (i := 10) (N := none) #[true, true, true, true, true, true, true, true, true, true, true] rfl rfl (uw yY.out (by kernel_rfl)) (by decide) (fun K hK => ?_)
                have znQ : w69.cell? ⟨yB, 3, none⟩ = some (qU) := (zx zJ.out 3).trans rfl
                have zl5 := zw zJ.out 3
                have ziy := jw.out
                have ziw := jO.out
                refine Xd (w1 := ?_) (by rfl) rfl ?_ ?_
                rotate_left
                ·go_simp
                 rfl
                refine hK.out _ _ ?_
                clear hK K
                refine uh (vC yY.out (by kernel_rfl)) ?_
                try go_wp2
                go_roundg WQ
                case measure => have := jl.out; have := Py.out; omega
                case rel => exact ⟨(wrap64 (qP + 1)), (qm), (qz), (yG), (zR), (zS), (zU), (sN), (yP), (yN), (.slice zjY sN.length zjW), (xu), (q9), (by first | rfl | (simp; done) | (simp [*]; done)), H', ⟨by have := jl.out; have := Py.out; omega⟩, ⟨by (with_reducible repeat (first | apply Kd.yT | apply Kd.yU | apply Kd.yj)); exact Kd.yh (Kd.zW (p := ⟨yB, 3, none⟩) (Kd.qg qd.out zJ.out (by decide)) (fun _ hk => hk.2) (.slice zjY sN.length zjW)) (fun _ hk => trivial)⟩, ⟨by (with_reducible repeat (first | apply Kd.yT | apply Kd.yU | apply Kd.yj)); exact Kd.yh (Kd.zW (p := ⟨yB, 3, none⟩) (Kd.qg zxX.out zJ.out (by decide)) (fun _ hk => hk.2) (.slice zjY sN.length zjW)) (fun _ hk => trivial)⟩, ⟨by (with_reducible repeat (first | apply Kd.yT | apply Kd.yU | apply Kd.yj)); exact Kd.yh (Kd.zW (p := ⟨yB, 3, none⟩) (Kd.qg zG.out zJ.out (by decide)) (fun _ hk => hk.2) (.slice zjY sN.length zjW)) (fun _ hk => trivial)⟩, ⟨by (with_reducible repeat (first | apply Kd.yT | apply Kd.yU | apply Kd.yj)); exact Kd.yh (Kd.zW (p := ⟨yB, 3, none⟩) (Kd.qg zB.out zJ.out (by decide)) (fun _ hk => hk.2) (.slice zjY sN.length zjW)) (fun _ hk => trivial)⟩, ⟨JO zh.out⟩, ⟨by (with_reducible repeat (first | refine zY ?_ _ | refine zV ?_ | refine zQ ?_ _)); refine zi (cs := #[.string zR, .bool zS, .int .i64 zU, qU, xu, q9]) ?_ 3 _ rfl; (with_reducible repeat (first | refine zY ?_ _ | refine zV ?_ | refine zQ ?_ _)); exact zJ.out⟩, ⟨yQ HB.out⟩⟩
              ·replace c65 := Bool.eq_false_iff.mpr c65
               subst c65
               have H1 : (some ((⟨#[]⟩ : BA), false, 0, ([] : List (qA)), ([] : List (qM)), ([] : List (qH)), 4)) = some (r1, r2, r3, r4, r5, r6, r7) := by rw [if_neg (show ¬ (false = true) by decide)] at H; exact H
               clear H
               have H := H1
               clear H1
               as_aux_lemma =>
                simp only [Option.some.injEq, Prod.mk.injEq] at H
                obtain ⟨rfl, rfl, rfl, rfl, rfl, rfl, rfl⟩ := H
                obtain ⟨znX, znJ, zdH⟩ := Kd.yA qR.out
                subst zdH
                have sO : 0 ≤ (2 : Int) := (by omega)
                have sP : 2 < (za.length : Int) := of_decide_eq_true (by first | (with_reducible assumption) | assumption)
                obtain ⟨nW, zQt, KE⟩ := Kd.xO (Kd.yc qR.out).2.2 2 sO sP
                cases zQt
                (try simp only [show (2 : Int).toNat = 2 from rfl, Nat.reduceMul, Nat.reduceEqDiff, Go.Addr.add, ↓reduceIte] at KE)
                have zbC : (2 < za.length) = True := eq_true (by omega)
                (try rw [show ((2 : Int)).toNat = 2 from rfl] at KE)
                replace sO := eq_true sO
                replace sP := eq_true sP
                try go_wp2_with (first | ((with_reducible refine y7 (f := 81) rfl ?_); refine jP (some 96) Tryz.func81 #[.string (yM ByteArray.empty za 2)] ?_; (with_reducible refine (zI.calls WQ (yM ByteArray.empty za 2) Pw false _ A62.out).mono ?_); rintro e w73 ⟨rfl, hb⟩; refine ⟨_, rfl, ?_⟩; have zl := zk.mk (Kd.zf (yK qd.out) hb); have zC := zk.mk (Kd.zf (yK qR.out) hb); have zM := zk.mk (Kd.zf (yK zA.out) hb); have zT := zk.mk (Kd.zf (yK zG.out) hb); have yL := zk.mk (Kd.zf (yK zB.out) hb); have y9 := zk.mk (zo (g := yR) (o := .cells #[.string qm, .bool qz, .int .i64 yG, .slice none 0 0, .slice none 0 0, .slice none 0 0] 44 (0, 0)) (qV zh.out) hb); have qw := zk.mk (zo (g := yB) (o := .cells #[.string zR, .bool zS, .int .i64 zU, qU, xu, q9] 44 (0, 0)) (qV zJ.out) hb); have xg := zk.mk (yg (yQ HB.out) hb); clear qd; clear qR; clear zA; clear zG; clear zB; clear zh; clear zJ; clear HB; have qd := zl; have qR := zC; have zA := zM; have zG := zT; have zB := yL; have zh := y9; have zJ := qw; have HB := xg; clear zl zC zM zT yL y9 qw xg; (try clear hb); (try clear hb2); (try clear hk); (try clear hi)))
                have zl := zk.mk (Kd.yj qd.out)
                have zC := zk.mk (Kd.yj qR.out)
                have zM := zk.mk (Kd.yj zA.out)
                have zT := zk.mk (Kd.yj zG.out)
                have yL := zk.mk (Kd.yj zB.out)
                have y9 := zk.mk (zV zh.out)
                have qw := zk.mk (zV zJ.out)
                have xg := zk.mk (yD HB.out)
                clear qd qR zA zG zB zh zJ HB
                have qd := zl
                have qR := zC
                have zA := zM
                have zG := zT
                have zB := yL
                have zh := y9
                have zJ := qw
                have HB := xg
                clear zl zC zM zT yL y9 qw xg
                have sS : 0 ≤ (1 : Int) := (by omega)
                have sU : 1 < (za.length : Int) := of_decide_eq_true (by first | (with_reducible assumption) | assumption)
                obtain ⟨zyN, zQu, Xz⟩ := Kd.xO (Kd.yc qR.out).2.2 1 sS sU
                obtain rfl : nW = zyN := (by injection zQu)
                (try simp only [show (1 : Int).toNat = 1 from rfl, Nat.reduceMul, Nat.reduceEqDiff, Go.Addr.add, ↓reduceIte] at Xz)
                have zbD : (1 < za.length) = True := eq_true (by omega)
                (try rw [show ((1 : Int)).toNat = 1 from rfl] at Xz)
                replace sS := eq_true sS
                replace sU := eq_true sU
                refine wW (n := 11) (S := fun w' => w'.cell? ⟨yB, 0, none⟩ = some (.string zR) ∧ w'.cell? ⟨yB, 1, none⟩ = some (.bool zS) ∧ w'.cell? ⟨yB, 2, none⟩ = some (.int .i64 zU) ∧ w'.cell? ⟨yB, 3, none⟩ = some (qU) ∧ w'.cell? ⟨yB, 4, none⟩ = some (xu) ∧ w'.cell? ⟨yB, 5, none⟩ = some (q9) ∧ w'.cell? ⟨nW.block, nW.off + 1, none⟩ = some (.string (yM ByteArray.empty za 1))) (ds := [8, 10]) #[false, false, false, false, false, false, false, false, false, false, false] (by kernel_rfl) rfl rfl ⟨(zx zJ.out 0).trans rfl, (zx zJ.out 1).trans rfl, (zx zJ.out 2).trans rfl, (zx zJ.out 3).trans rfl, (zx zJ.out 4).trans rfl, (zx zJ.out 5).trans rfl, Xz⟩ (fun hHeld => ?_); refine wI zZ.zXU zZ.zZq (fun yY jT => ?_)
                generalize w73.drew = w74 at qd qR zA zG zB zh zJ HB Xz hHeld ⊢
                refine uj 0 (some 100) yY ?_
                refine uj 2 (some 102) yY ?_
                refine uj 3 (some 103) yY ?_
                refine uj 5 (some 105) yY ?_
                refine pQ 1 (some 101) yY jT hHeld ?_
                refine pQ 4 (some 104) yY jT hHeld ?_
                refine uj 6 (some 106) yY ?_
                refine ru 7 (some 107) yY (fun K hK => ?_)
                refine vaS ?_
                refine hK.out _ _ ⟨(zx (zQ zJ.out _) 0).trans rfl, (zx (zQ zJ.out _) 1).trans rfl, (zx (zQ zJ.out _) 2).trans rfl, (zx (zQ zJ.out _) 3).trans rfl, (zx (zQ zJ.out _) 4).trans rfl, (zx (zQ zJ.out _) 5).trans rfl, (World.cell?_alloc_lt _ _ _ (World.block_lt_of_cell? _ _ (hHeld.2.2.2.2.2.2))).trans (hHeld.2.2.2.2.2.2)⟩ (fun hHeld => ?_)
                clear hK K
                refine JN (some 107) ?_
                refine ZA (i := 8) (N := some 108) #[true, true, true, true, true, true, true, true, true, false, false] rfl rfl (uw yY.out (by kernel_rfl)) (by decide) (fun K hK => ?_)
                refine Kd.u7 YQ (w0 := w) w.heap.size (by rfl) (.tmp 101) (.tmp 107) 40 81 (.agg #[(.string ⟨#[]⟩), (.int .i64 0)]) 24 rfl Tryz.underlying40 zxd rfl (by decide) (by omega) qU yH (⟨yM ByteArray.empty za 1, Pw⟩ : qA) [.string (yM ByteArray.empty za 1), .int .i64 Pw] (fun _ => True) (fun _ => False) rfl rfl ?aP (fun _ hk => hk.elim) ?aF ?aO ?aB ?aS ?aL ?_
                (case aP => exact zzO _ _ _ (⟨yM ByteArray.empty za 1, Pw⟩ : qA))
                (case aB => exact (yQ HB.out))
                (case aF => exact (fun _ _ => trivial))
                (case aO => exact (yK zA.out))
                (case aS => exact (zH (yQ HB.out)))
                (case aL => have := zX4.out; omega)
                intro zdG w75 ho hb hg hat
                rw [← zX5.out] at ho
                have zl := zk.mk (Kd.ji (yK qd.out) (Kd.jh (yK zA.out)) (by decide) hg)
                have zC := zk.mk (Kd.ji (yK qR.out) (Kd.jh (yK zA.out)) (by decide) hg)
                have zM := zk.mk (Kd.ji (yK zG.out) (Kd.jh (yK zA.out)) (by decide) hg)
                have zT := zk.mk (Kd.ji (yK zB.out) (Kd.jh (yK zA.out)) (by decide) hg)
                have yL := zk.mk (vk (g := yR) (o := .cells #[.string qm, .bool qz, .int .i64 yG, .slice none 0 0, .slice none 0 0, .slice none 0 0] 44 (0, 0)) (qV zh.out) hg (Kd.kT zA.out zh.out (by decide)))
                have y9 := zk.mk (vk (g := yB) (o := .cells #[.string zR, .bool zS, .int .i64 zU, qU, xu, q9] 44 (0, 0)) (qV zJ.out) hg (Kd.kT zA.out zJ.out (by decide)))
                have qw := zk.mk (hb)
                have xg := zk.mk (ho)
                clear qd qR zG zB zh zJ HB zA
                have qd := zl
                have qR := zC
                have zG := zM
                have zB := zT
                have zh := yL
                have zJ := y9
                have HB := qw
                have zxX := xg
                clear zl zC zM zT yL y9 qw xg ho hb hg hat
                obtain ⟨znV, znK, zYo⟩ := Kd.yA zxX.out
                (first | subst zYo | (injection zYo with kW Z4 kg; have Z5 := kW.symm; have Z6 := kg.symm; clear kW Z4 kg; subst Z5; subst Z6))
                refine hK.out _ _ ?_
                clear hK K
                refine JN (some 108) ?_
                refine uj 9 (some 109) yY ?_
                refine ZA (i := 10) (N := none) #[true, true, true, true, true, true, true, true, true, true, true] rfl rfl (uw yY.out (by kernel_rfl)) (by decide) (fun K hK => ?_)
                have znY : w75.cell? ⟨yB, 3, none⟩ = some (qU) := (zx zJ.out 3).trans rfl
                have zl6 := zw zJ.out 3
                have ziZ := jw.out
                have ziQ := jO.out
                refine Xd (w1 := ?_) (by rfl) rfl ?_ ?_
                rotate_left
                ·go_simp
                 rfl
                refine hK.out _ _ ?_
                clear hK K
                refine uh (vC yY.out (by kernel_rfl)) ?_
                have zl7 := jw.out
                have zl8 := jO.out
                have zVH : w75.cell? ⟨yR, 0, none⟩ = some (.string qm) := (zx zh.out 0).trans rfl
                have zVI : w75.cell? ⟨yR, 1, none⟩ = some (.bool qz) := (zx zh.out 1).trans rfl
                have zVL : w75.cell? ⟨yR, 2, none⟩ = some (.int .i64 yG) := (zx zh.out 2).trans rfl
                have zVM : w75.cell? ⟨yR, 3, none⟩ = some (.slice none 0 0) := (zx zh.out 3).trans rfl
                have zVN : w75.cell? ⟨yR, 4, none⟩ = some (.slice none 0 0) := (zx zh.out 4).trans rfl
                have zVO : w75.cell? ⟨yR, 5, none⟩ = some (.slice none 0 0) := (zx zh.out 5).trans rfl
                have zVP := zw zh.out 0
                have zVR := zw zh.out 1
                have zVS := zw zh.out 2
                have zVT := zw zh.out 3
                have zVU := zw zh.out 4
                have zV0 := zw zh.out 5
                try go_wp2
                refine bodyPost_ret (pV rfl _ _ yR 44 #[.string (⟨#[]⟩ : BA), .bool false, .int .i64 0, .slice none 0 0, .slice none 0 0, .slice none 0 0] (0, 0) _ rfl (by (with_reducible repeat (first | refine zY ?_ _ | refine zV ?_ | refine zQ ?_ _)); refine zi (cs := #[.string (⟨#[]⟩ : BA), .bool false, .int .i64 0, .slice none 0 0, .slice none 0 0, .slice none 0 0]) ?_ 5 _ rfl; (with_reducible repeat (first | refine zY ?_ _ | refine zV ?_ | refine zQ ?_ _)); refine zi (cs := #[.string (⟨#[]⟩ : BA), .bool false, .int .i64 0, .slice none 0 0, .slice none 0 0, .slice none 0 0]) ?_ 4 _ rfl; (with_reducible repeat (first | refine zY ?_ _ | refine zV ?_ | refine zQ ?_ _)); refine zi (cs := #[.string (⟨#[]⟩ : BA), .bool false, .int .i64 0, .slice none 0 0, .slice none 0 0, .slice none 0 0]) ?_ 3 _ rfl; (with_reducible repeat (first | refine zY ?_ _ | refine zV ?_ | refine zQ ?_ _)); refine zi (cs := #[.string (⟨#[]⟩ : BA), .bool false, .int .i64 yG, .slice none 0 0, .slice none 0 0, .slice none 0 0]) ?_ 2 _ rfl; (with_reducible repeat (first | refine zY ?_ _ | refine zV ?_ | refine zQ ?_ _)); refine zi (cs := #[.string (⟨#[]⟩ : BA), .bool qz, .int .i64 yG, .slice none 0 0, .slice none 0 0, .slice none 0 0]) ?_ 1 _ rfl; (with_reducible repeat (first | refine zY ?_ _ | refine zV ?_ | refine zQ ?_ _)); refine zi (cs := #[.string qm, .bool qz, .int .i64 yG, .slice none 0 0, .slice none 0 0, .slice none 0 0]) ?_ 0 _ rfl; (with_reducible repeat (first | refine zY ?_ _ | refine zV ?_ | refine zQ ?_ _)); refine uo ?_ jw.out _; (with_reducible repeat (first | refine zY ?_ _ | refine zV ?_ | refine zQ ?_ _)); exact zh.out) Tryz.underlying44 rfl (by kernel_rfl)) rfl ?_
                exact ⟨_, _, _, by first | rfl | (simp [yw, yZ] <;> rfl) | (simp [*, yw, yZ] <;> rfl), by first | exact Kd.vD _ _ _ _ _ | exact Kd.jG _ _ _ _ _ | exact Kd.jH _ _ _ _ _ | exact Kd.jE _ _ _ _ _ | exact Kd.jF _ _ _ _ _, by first | exact Kd.vD _ _ _ _ _ | exact Kd.jG _ _ _ _ _ | exact Kd.jH _ _ _ _ _ | exact Kd.jE _ _ _ _ _ | exact Kd.jF _ _ _ _ _, by first | exact Kd.vD _ _ _ _ _ | exact Kd.jG _ _ _ _ _ | exact Kd.jH _ _ _ _ _ | exact Kd.jE _ _ _ _ _ | exact Kd.jF _ _ _ _ _, by repeat (first | (with_reducible first | exact HB.out | apply yS | apply yx | apply yD | refine qh ?_ J5.out | refine qh ?_ J6.out) | exact HB.out)⟩
             ·rw [if_neg c64] at H
              exact absurd H (by simp)
            ·rw [if_neg c63] at H
             exact absurd H (by simp)
           ·rw [if_neg c61] at H
            exact absurd H (by simp)
          ·replace c60 := Bool.eq_false_iff.mpr c60
           subst c60
           have H1 : (if 0 < (za.length : Int) then (if (yM ByteArray.empty za 0).toList = ([108] : List UInt8) then (zZ.j4 WQ a0 vH qP za true ((za.length : Int) == 4) zR zS zU yH yP yN) else (zZ.j4 WQ a0 vH qP za true false zR zS zU yH yP yN)) else (none)) = some (r1, r2, r3, r4, r5, r6, r7) := by rw [if_neg (show ¬ (false = true) by decide)] at H; exact H
           clear H
           have H := H1
           clear H1
           have zQA := zk.mk H
           clear H
           go_upto_region 21 with (fail)
           go_cut [110] (fun zdI wc => ∃ (kq : Nat) (iw : Bool), zdI = .bool iw ∧ zk (zZ.j4 kq a0 vH qP za true iw zR zS zU yH yP yN = some (r1, r2, r3, r4, r5, r6, r7)) ∧ zk (kq ≤ WQ) ∧ zk (Kd.R Kd.string 9 wc w.heap.size (fun k_ => some k_ ≠ (JH : Value).ownBlock) (.slice (some Qg) vH.length Wq) vH) ∧ zk (Kd.R Kd.string 9 wc w.heap.size (fun k_ => some k_ ≠ ((.slice (some Qg) vH.length Wq) : Value).ownBlock) JH za) ∧ zk (Kd.R YQ 81 wc w.heap.size (fun _ => True) qU yH) ∧ zk (Kd.R Yt 83 wc w.heap.size (fun _ => True) xu yP) ∧ zk (Kd.R Yu 84 wc w.heap.size (fun _ => True) q9 yN) ∧ zk (wc.heap[yR]? = some (.cells #[.string qm, .bool qz, .int .i64 yG, (.slice none 0 0), (.slice none 0 0), (.slice none 0 0)] 44 (0, 0))) ∧ zk (wc.heap[yB]? = some (.cells #[.string zR, .bool zS, .int .i64 zU, qU, xu, q9] 44 (0, 0))) ∧ zk (Below w.heap.size w wc))
           case first =>
            have H := zQA.out
            clear zQA
            by_cases c81 : 0 < (za.length : Int)
            ·rw [if_pos c81] at H
             have zyO : decide (0 < (za.length : Int)) = true := decide_eq_true c81
             have zbE : decide (0 < za.length) = true := decide_eq_true (by omega)
             clear c81
             (first | rw [zyO] | (simp only [vZ, vQ]; rw [zyO]) | skip)
             by_cases c82 : (yM ByteArray.empty za 0).toList = ([108] : List UInt8)
             ·rw [if_pos c82] at H
              have zX6 : ((yM ByteArray.empty za 0).toList == ([108] : List UInt8)) = true := beq_iff_eq.mpr c82
              have zX7 : ((yM ByteArray.empty za 0).toList != ([108] : List UInt8)) = false := bne_eq_false_iff_eq.mpr c82
              clear c82
              as_aux_lemma =>
               have H' := zk.mk H
               clear H
               obtain ⟨znW, zna, zdL⟩ := Kd.yA qR.out
               subst zdL
               have tq : 0 ≤ (0 : Int) := (by omega)
               have tZ : 0 < (za.length : Int) := of_decide_eq_true (by first | (with_reducible assumption) | assumption)
               obtain ⟨zbF, zQB, KF⟩ := Kd.xO (Kd.yc qR.out).2.2 0 tq tZ
               cases zQB
               have zbG : (0 < za.length) = True := eq_true (by omega)
               (try rw [show ((0 : Int)).toNat = 0 from rfl] at KF)
               (try rw [Addr.add_zero'] at KF)
               replace tq := eq_true tq
               replace tZ := eq_true tZ
               go_wp2
               go_meet
               case rel => exact ⟨_, (((za.length : Int) == 4)), (by first | rfl | (simp; done) | (simp [*]; done)), H', ⟨by have := jl.out; have := Py.out; first | omega | exact Nat.le_refl _⟩, ⟨yK qd.out⟩, ⟨yK qR.out⟩, ⟨yK zA.out⟩, ⟨yK zG.out⟩, ⟨yK zB.out⟩, ⟨qV zh.out⟩, ⟨qV zJ.out⟩, ⟨yQ HB.out⟩⟩
             ·rw [if_neg c82] at H
              have zX6 : ((yM ByteArray.empty za 0).toList == ([108] : List UInt8)) = false := beq_eq_false_iff_ne.mpr c82
              have zX7 : ((yM ByteArray.empty za 0).toList != ([108] : List UInt8)) = true := bne_iff_ne.mpr c82
              as_aux_lemma =>
               have H' := zk.mk H
               clear H
               obtain ⟨znb, znc, zdM⟩ := Kd.yA qR.out
               subst zdM
               have tq : 0 ≤ (0 : Int) := (by omega)
               have tZ : 0 < (za.length : Int) := of_decide_eq_true (by first | (with_reducible assumption) | assumption)
               obtain ⟨zbF, zQB, KF⟩ := Kd.xO (Kd.yc qR.out).2.2 0 tq tZ
               cases zQB
               have zbG : (0 < za.length) = True := eq_true (by omega)
               (try rw [show ((0 : Int)).toNat = 0 from rfl] at KF)
               (try rw [Addr.add_zero'] at KF)
               replace tq := eq_true tq
               replace tZ := eq_true tZ
               go_wp2
               go_meet
               case rel => exact ⟨_, (false), (by first | rfl | (simp; done) | (simp [*]; done)), H', ⟨by have := jl.out; have := Py.out; first | omega | exact Nat.le_refl _⟩, ⟨yK qd.out⟩, ⟨yK qR.out⟩, ⟨yK zA.out⟩, ⟨yK zG.out⟩, ⟨yK zB.out⟩, ⟨qV zh.out⟩, ⟨qV zJ.out⟩, ⟨yQ HB.out⟩⟩
            ·rw [if_neg c81] at H
             exact absurd H (by simp)
           case rest =>
            clear zQA
            try clear p2
            try clear p5
            try clear q5
            try clear hx5
            try clear qi5
            try clear c6
            try clear p6
            try clear c7
            try clear c8
            try clear p57
            try clear q57
            try clear zdD
            try clear p58
            try clear q58
            try clear zdE
            try clear p59
            try clear q59
            try clear zdN
            try clear zdO
            try clear c60
            try clear c61
            try clear zbt
            try clear zbu
            try clear c63
            try clear zbA
            try clear zbB
            try clear c64
            try clear p64
            try clear c65
            try clear c78
            try clear c81
            try clear zyO
            try clear zbE
            try clear c82
            try clear zX6
            try clear zX7
            try clear zqg
            try clear zqh
            try clear zqi
            try clear zv7
            try clear zv8
            try clear zv9
            try clear zkz
            try clear zkq
            try clear zkx
            try clear zkQ
            try clear zkX
            try clear zkJ
            try clear zkV
            try clear zkK
            try clear zkY
            try clear dK
            try clear dY
            try clear dW
            try clear dh
            try clear dn
            try clear dD
            try clear zkf
            try clear zkg
            try clear zkh
            try clear zki
            try clear zkl
            try clear zkm
            try clear zVH
            try clear zVI
            try clear zVL
            try clear zVM
            try clear zVN
            try clear zVO
            try clear QM
            try clear QN
            try clear QO
            try clear QS
            try clear QT
            try clear QU
            try clear zql
            try clear zqm
            try clear zqn
            try clear zqo
            try clear zqp
            try clear zqr
            try clear zkj
            try clear zkv
            try clear zkk
            try clear zky
            try clear zkw
            try clear zkZ
            try clear zkW
            try clear zka
            try clear zkb
            try clear zkc
            try clear zkd
            try clear zke
            try clear dF
            try clear dG
            try clear dH
            try clear dI
            try clear dL
            try clear dM
            try clear zkn
            try clear zko
            try clear zkp
            try clear zkr
            try clear zks
            try clear zkt
            try clear zVP
            try clear zVR
            try clear zVS
            try clear zVT
            try clear zVU
            try clear zV0
            try clear KC
            try clear wu
            try clear KD
            try clear gV
            try clear Vs
            try clear JJ
            try clear JV
            try clear KE
            try clear Xz
            try clear KF
            try clear p2
            try clear p5
            try clear Qr
            try clear YS
            try clear lU
            try clear zqe
            try clear Px
            try clear nJ
            try clear nK
            try clear sO
            try clear sS
            try clear tq
            try clear p6
            try clear q5
            try clear Qs
            try clear YT
            try clear l6
            try clear zqf
            try clear Pj
            try clear nV
            try clear nY
            try clear sP
            try clear sU
            try clear tZ
            obtain ⟨kq, iw, rfl, HA, zqs, qd, qR, zA, zG, zB, zh, zJ, HB⟩ := hcut
            cases kq with
            | zero => exact absurd HA.out (by simp [zZ.j4])
            | succ l8 =>
             have H := HA.out
             clear HA
             simp only [zZ.j4] at H
             by_cases c85 : iw = true
             ·subst c85
              have H1 : (if 1 < (za.length : Int) then (if 2 < (za.length : Int) then (if 3 < (za.length : Int) then (if yP.length < 2932031007402 then (if true = true then (zZ.l0 l8 a0 vH (wrap64 (qP + 1)) zR zS zU yH (yP ++ [(⟨yM ByteArray.empty za 1, yM ByteArray.empty za 2, yM ByteArray.empty za 3⟩ : qM)]) yN) else (some ((⟨#[]⟩ : BA), false, 0, ([] : List (qA)), ([] : List (qM)), ([] : List (qH)), 4))) else (none)) else (none)) else (none)) else (none)) = some (r1, r2, r3, r4, r5, r6, r7) := by rw [if_pos rfl] at H; exact H
              clear H
              have H := H1
              clear H1
              by_cases c86 : 1 < (za.length : Int)
              ·rw [if_pos c86] at H
               have zbH : decide (1 < (za.length : Int)) = true := decide_eq_true c86
               have zbI : decide (1 < za.length) = true := decide_eq_true (by omega)
               clear c86
               by_cases c87 : 2 < (za.length : Int)
               ·rw [if_pos c87] at H
                have zbL : decide (2 < (za.length : Int)) = true := decide_eq_true c87
                have zbM : decide (2 < za.length) = true := decide_eq_true (by omega)
                clear c87
                by_cases c88 : 3 < (za.length : Int)
                ·rw [if_pos c88] at H
                 have zbN : decide (3 < (za.length : Int)) = true := decide_eq_true c88
                 have zbO : decide (3 < za.length) = true := decide_eq_true (by omega)
                 clear c88
                 by_cases c89 : yP.length < 2932031007402
                 ·rw [if_pos c89] at H
                  have zbP := zk.mk c89
                  clear c89
                  obtain ⟨tQ, zzn⟩ : ∃ y_ : List (qM), y_ = (yP ++ [(⟨yM ByteArray.empty za 1, yM ByteArray.empty za 2, yM ByteArray.empty za 3⟩ : qM)]) := ⟨_, rfl⟩
                  replace H : (if true = true then (zZ.l0 l8 a0 vH (wrap64 (qP + 1)) zR zS zU yH tQ yN) else (some ((⟨#[]⟩ : BA), false, 0, ([] : List (qA)), ([] : List (qM)), ([] : List (qH)), 4))) = some (r1, r2, r3, r4, r5, r6, r7) := by first | (rw [zzn]; with_reducible exact H) | (have jR := (Option.bind_some _ _).symm.trans H; rw [zzn]; with_reducible exact jR) | (have jR := (Option.bind_some _ _).symm.trans H; with_reducible exact jR) | with_reducible exact H | (rw [zzn]; exact H) | exact H
                  have zbR := zk.mk zzn
                  clear zzn
                  by_cases c90 : true = true
                  ·clear c90
                   have H1 : (zZ.l0 l8 a0 vH (wrap64 (qP + 1)) zR zS zU yH tQ yN) = some (r1, r2, r3, r4, r5, r6, r7) := by rw [if_pos rfl] at H; exact H
                   clear H
                   have H := H1
                   clear H1
                   as_aux_lemma =>
                    have H' := zk.mk H
                    clear H
                    try go_wp2
                    have zl := zk.mk (Kd.yj qd.out)
                    have zC := zk.mk (Kd.yj qR.out)
                    have zM := zk.mk (Kd.yj zA.out)
                    have zT := zk.mk (Kd.yj zG.out)
                    have yL := zk.mk (Kd.yj zB.out)
                    have y9 := zk.mk (zV zh.out)
                    have qw := zk.mk (zV zJ.out)
                    have xg := zk.mk (yD HB.out)
                    clear qd qR zA zG zB zh zJ HB
                    have qd := zl
                    have qR := zC
                    have zA := zM
                    have zG := zT
                    have zB := yL
                    have zh := y9
                    have zJ := qw
                    have HB := xg
                    clear zl zC zM zT yL y9 qw xg
                    obtain ⟨znd, zne, zYp⟩ := Kd.yA qR.out
                    (first | subst zYp | (injection zYp with kW Z4 kg; have Z5 := kW.symm; have Z6 := kg.symm; clear kW Z4 kg; subst Z5; subst Z6))
                    have zyP : 0 ≤ (1 : Int) := (by omega)
                    have zyR : 1 < (za.length : Int) := of_decide_eq_true (by first | (with_reducible assumption) | assumption)
                    obtain ⟨WG, zdP, gY⟩ := Kd.xO (Kd.yc qR.out).2.2 1 zyP zyR
                    cases zdP
                    (try simp only [show (1 : Int).toNat = 1 from rfl, Nat.reduceMul, Nat.reduceEqDiff, Go.Addr.add, ↓reduceIte] at gY)
                    have zl9 : (1 < za.length) = True := eq_true (by omega)
                    (try rw [show ((1 : Int)).toNat = 1 from rfl] at gY)
                    replace zyP := eq_true zyP
                    replace zyR := eq_true zyR
                    have zyS : 0 ≤ (2 : Int) := (by omega)
                    have zyT : 2 < (za.length : Int) := of_decide_eq_true (by first | (with_reducible assumption) | assumption)
                    obtain ⟨zbS, zdR, gW⟩ := Kd.xO (Kd.yc qR.out).2.2 2 zyS zyT
                    obtain rfl : WG = zbS := (by injection zdR)
                    (try simp only [show (2 : Int).toNat = 2 from rfl, Nat.reduceMul, Nat.reduceEqDiff, Go.Addr.add, ↓reduceIte] at gW)
                    have zmz : (2 < za.length) = True := eq_true (by omega)
                    (try rw [show ((2 : Int)).toNat = 2 from rfl] at gW)
                    replace zyS := eq_true zyS
                    replace zyT := eq_true zyT
                    have zyU : 0 ≤ (3 : Int) := (by omega)
                    have zy0 : 3 < (za.length : Int) := of_decide_eq_true (by first | (with_reducible assumption) | assumption)
                    obtain ⟨zbT, zdS, gu⟩ := Kd.xO (Kd.yc qR.out).2.2 3 zyU zy0
                    obtain rfl : WG = zbT := (by injection zdS)
                    (try simp only [show (3 : Int).toNat = 3 from rfl, Nat.reduceMul, Nat.reduceEqDiff, Go.Addr.add, ↓reduceIte] at gu)
                    have zmq : (3 < za.length) = True := eq_true (by omega)
                    (try rw [show ((3 : Int)).toNat = 3 from rfl] at gu)
                    replace zyU := eq_true zyU
                    replace zy0 := eq_true zy0
                    refine wW (n := 16) (S := fun w' => w'.cell? ⟨yB, 0, none⟩ = some (.string zR) ∧ w'.cell? ⟨yB, 1, none⟩ = some (.bool zS) ∧ w'.cell? ⟨yB, 2, none⟩ = some (.int .i64 zU) ∧ w'.cell? ⟨yB, 3, none⟩ = some (qU) ∧ w'.cell? ⟨yB, 4, none⟩ = some (xu) ∧ w'.cell? ⟨yB, 5, none⟩ = some (q9) ∧ w'.cell? ⟨WG.block, WG.off + 1, none⟩ = some (.string (yM ByteArray.empty za 1)) ∧ w'.cell? ⟨WG.block, WG.off + 2, none⟩ = some (.string (yM ByteArray.empty za 2)) ∧ w'.cell? ⟨WG.block, WG.off + 3, none⟩ = some (.string (yM ByteArray.empty za 3))) (ds := [13, 15]) #[false, false, false, false, false, false, false, false, false, false, false, false, false, false, false, false] (by kernel_rfl) rfl rfl ⟨(zx zJ.out 0).trans rfl, (zx zJ.out 1).trans rfl, (zx zJ.out 2).trans rfl, (zx zJ.out 3).trans rfl, (zx zJ.out 4).trans rfl, (zx zJ.out 5).trans rfl, gY, gW, gu⟩ (fun hHeld => ?_); refine wI zZ.zbe zZ.zYc (fun yY jT => ?_)
                    generalize wc.drew = w91 at qd qR zA zG zB zh zJ HB gY gW gu hHeld ⊢
                    refine uj 0 (some 120) yY ?_
                    refine uj 2 (some 122) yY ?_
                    refine uj 3 (some 123) yY ?_
                    refine uj 5 (some 125) yY ?_
                    refine uj 6 (some 126) yY ?_
                    refine uj 8 (some 128) yY ?_
                    refine uj 9 (some 129) yY ?_
                    refine pQ 1 (some 121) yY jT hHeld ?_
                    refine pQ 4 (some 124) yY jT hHeld ?_
                    refine pQ 7 (some 127) yY jT hHeld ?_
                    refine pQ 10 (some 130) yY jT hHeld ?_
                    refine uj 11 (some 131) yY ?_
                    refine ru 12 (some 132) yY (fun K hK => ?_)
                    refine vaS ?_
                    refine hK.out _ _ ⟨(zx (zQ zJ.out _) 0).trans rfl, (zx (zQ zJ.out _) 1).trans rfl, (zx (zQ zJ.out _) 2).trans rfl, (zx (zQ zJ.out _) 3).trans rfl, (zx (zQ zJ.out _) 4).trans rfl, (zx (zQ zJ.out _) 5).trans rfl, (World.cell?_alloc_lt _ _ _ (World.block_lt_of_cell? _ _ (hHeld.2.2.2.2.2.2.1))).trans (hHeld.2.2.2.2.2.2.1), (World.cell?_alloc_lt _ _ _ (World.block_lt_of_cell? _ _ (hHeld.2.2.2.2.2.2.2.1))).trans (hHeld.2.2.2.2.2.2.2.1), (World.cell?_alloc_lt _ _ _ (World.block_lt_of_cell? _ _ (hHeld.2.2.2.2.2.2.2.2))).trans (hHeld.2.2.2.2.2.2.2.2)⟩ (fun hHeld => ?_)
                    clear hK K
                    refine JN (some 132) ?_
                    refine ZA (i := 13) (N := some 133) #[true, true, true, true, true, true, true, true, true, true, true, true, true, true, false, false] rfl rfl (uw yY.out (by kernel_rfl)) (by decide) (fun K hK => ?_)
                    refine Kd.u7 Yt (w0 := w) w.heap.size (by rfl) (.tmp 121) (.tmp 132) 41 83 (.agg #[(.string ⟨#[]⟩), (.string ⟨#[]⟩), (.string ⟨#[]⟩)]) 48 rfl Tryz.underlying41 zws rfl (by decide) (by omega) xu yP (⟨yM ByteArray.empty za 1, yM ByteArray.empty za 2, yM ByteArray.empty za 3⟩ : qM) [.string (yM ByteArray.empty za 1), .string (yM ByteArray.empty za 2), .string (yM ByteArray.empty za 3)] (fun _ => True) (fun _ => False) rfl rfl ?aP (fun _ hk => hk.elim) ?aF ?aO ?aB ?aS ?aL ?_
                    (case aP => exact zjL _ _ _ (⟨yM ByteArray.empty za 1, yM ByteArray.empty za 2, yM ByteArray.empty za 3⟩ : qM))
                    (case aB => exact (yQ HB.out))
                    (case aF => exact (fun _ _ => trivial))
                    (case aO => exact (yK zG.out))
                    (case aS => exact (zH (yQ HB.out)))
                    (case aL => have := zbP.out; omega)
                    intro znf w93 ho hb hg hat
                    rw [← zbR.out] at ho
                    have zl := zk.mk (Kd.ji (yK qd.out) (Kd.jh (yK zG.out)) (by decide) hg)
                    have zC := zk.mk (Kd.ji (yK qR.out) (Kd.jh (yK zG.out)) (by decide) hg)
                    have zM := zk.mk (Kd.ji (yK zA.out) (Kd.jh (yK zG.out)) (by decide) hg)
                    have zT := zk.mk (Kd.ji (yK zB.out) (Kd.jh (yK zG.out)) (by decide) hg)
                    have yL := zk.mk (vk (g := yR) (o := .cells #[.string qm, .bool qz, .int .i64 yG, .slice none 0 0, .slice none 0 0, .slice none 0 0] 44 (0, 0)) (qV zh.out) hg (Kd.kT zG.out zh.out (by decide)))
                    have y9 := zk.mk (vk (g := yB) (o := .cells #[.string zR, .bool zS, .int .i64 zU, qU, xu, q9] 44 (0, 0)) (qV zJ.out) hg (Kd.kT zG.out zJ.out (by decide)))
                    have qw := zk.mk (hb)
                    have xg := zk.mk (ho)
                    clear qd qR zA zB zh zJ HB zG
                    have qd := zl
                    have qR := zC
                    have zA := zM
                    have zB := zT
                    have zh := yL
                    have zJ := y9
                    have HB := qw
                    have zX8 := xg
                    clear zl zC zM zT yL y9 qw xg ho hb hg hat
                    obtain ⟨zja, zjb, zYr⟩ := Kd.yA zX8.out
                    (first | subst zYr | (injection zYr with kW Z4 kg; have Z5 := kW.symm; have Z6 := kg.symm; clear kW Z4 kg; subst Z5; subst Z6))
                    refine hK.out _ _ ?_
                    clear hK K
                    refine JN (some 133) ?_
                    refine uj 14 (some 134) yY ?_
                    refine ZA (i := 15) (N := none) #[true, true, true, true, true, true, true, true, true, true, true, true, true, true, true, true] rfl rfl (uw yY.out (by kernel_rfl)) (by decide) (fun K hK => ?_)
                    have zng : w93.cell? ⟨yB, 4, none⟩ = some (xu) := (zx zJ.out 4).trans rfl
                    have zmx := zw zJ.out 4
                    have ziX := jw.out
                    have ziJ := jO.out
                    refine Xd (w1 := ?_) (by rfl) rfl ?_ ?_
                    rotate_left
                    ·go_simp
                     rfl
                    refine hK.out _ _ ?_
                    clear hK K
                    refine uh (vC yY.out (by kernel_rfl)) ?_
                    try go_wp2
                    go_roundg l8
                    case measure => have := jl.out; have := Py.out; have := zqs.out; omega
                    case rel => exact ⟨(wrap64 (qP + 1)), (qm), (qz), (yG), (zR), (zS), (zU), (yH), (tQ), (yN), (qU), (.slice zja tQ.length zjb), (q9), (by first | rfl | (simp; done) | (simp [*]; done)), H', ⟨by have := jl.out; have := Py.out; have := zqs.out; omega⟩, ⟨by (with_reducible repeat (first | apply Kd.yT | apply Kd.yU | apply Kd.yj)); exact Kd.yh (Kd.zW (p := ⟨yB, 4, none⟩) (Kd.qg qd.out zJ.out (by decide)) (fun _ hk => hk.2) (.slice zja tQ.length zjb)) (fun _ hk => trivial)⟩, ⟨by (with_reducible repeat (first | apply Kd.yT | apply Kd.yU | apply Kd.yj)); exact Kd.yh (Kd.zW (p := ⟨yB, 4, none⟩) (Kd.qg zA.out zJ.out (by decide)) (fun _ hk => hk.2) (.slice zja tQ.length zjb)) (fun _ hk => trivial)⟩, ⟨by (with_reducible repeat (first | apply Kd.yT | apply Kd.yU | apply Kd.yj)); exact Kd.yh (Kd.zW (p := ⟨yB, 4, none⟩) (Kd.qg zX8.out zJ.out (by decide)) (fun _ hk => hk.2) (.slice zja tQ.length zjb)) (fun _ hk => trivial)⟩, ⟨by (with_reducible repeat (first | apply Kd.yT | apply Kd.yU | apply Kd.yj)); exact Kd.yh (Kd.zW (p := ⟨yB, 4, none⟩) (Kd.qg zB.out zJ.out (by decide)) (fun _ hk => hk.2) (.slice zja tQ.length zjb)) (fun _ hk => trivial)⟩, ⟨JO zh.out⟩, ⟨by (with_reducible repeat (first | refine zY ?_ _ | refine zV ?_ | refine zQ ?_ _)); refine zi (cs := #[.string zR, .bool zS, .int .i64 zU, qU, xu, q9]) ?_ 4 _ rfl; (with_reducible repeat (first | refine zY ?_ _ | refine zV ?_ | refine zQ ?_ _)); exact zJ.out⟩, ⟨yQ HB.out⟩⟩
                  ·exact absurd rfl c90
                 ·rw [if_neg c89] at H
                  exact absurd H (by simp)
                ·rw [if_neg c88] at H
                 exact absurd H (by simp)
               ·rw [if_neg c87] at H
                exact absurd H (by simp)
              ·rw [if_neg c86] at H
               exact absurd H (by simp)
             ·replace c85 := Bool.eq_false_iff.mpr c85
              subst c85
              have H1 : (if 0 < (za.length : Int) then (if (yM ByteArray.empty za 0).toList = ([107] : List UInt8) then (zZ.j5 l8 a0 vH qP za ((za.length : Int) == 4) zR zS zU yH yP yN) else (zZ.j5 l8 a0 vH qP za false zR zS zU yH yP yN)) else (none)) = some (r1, r2, r3, r4, r5, r6, r7) := by rw [if_neg (show ¬ (false = true) by decide)] at H; exact H
              clear H
              have H := H1
              clear H1
              have zy1 := zk.mk H
              clear H
              go_upto_region 23 with (fail)
              go_cut [135] (fun zdT wc => ∃ (kq : Nat) (ni : Bool), zdT = .bool ni ∧ zk (zZ.j5 kq a0 vH qP za ni zR zS zU yH yP yN = some (r1, r2, r3, r4, r5, r6, r7)) ∧ zk (kq ≤ l8) ∧ zk (Kd.R Kd.string 9 wc w.heap.size (fun k_ => some k_ ≠ (JH : Value).ownBlock) (.slice (some Qg) vH.length Wq) vH) ∧ zk (Kd.R Kd.string 9 wc w.heap.size (fun k_ => some k_ ≠ ((.slice (some Qg) vH.length Wq) : Value).ownBlock) JH za) ∧ zk (Kd.R YQ 81 wc w.heap.size (fun _ => True) qU yH) ∧ zk (Kd.R Yt 83 wc w.heap.size (fun _ => True) xu yP) ∧ zk (Kd.R Yu 84 wc w.heap.size (fun _ => True) q9 yN) ∧ zk (wc.heap[yR]? = some (.cells #[.string qm, .bool qz, .int .i64 yG, (.slice none 0 0), (.slice none 0 0), (.slice none 0 0)] 44 (0, 0))) ∧ zk (wc.heap[yB]? = some (.cells #[.string zR, .bool zS, .int .i64 zU, qU, xu, q9] 44 (0, 0))) ∧ zk (Below w.heap.size w wc))
              case first =>
               have H := zy1.out
               clear zy1
               by_cases zjc : 0 < (za.length : Int)
               ·rw [if_pos zjc] at H
                have zjd : decide (0 < (za.length : Int)) = true := decide_eq_true zjc
                have zYs : decide (0 < za.length) = true := decide_eq_true (by omega)
                clear zjc
                (first | rw [zjd] | (simp only [vZ, vQ]; rw [zjd]) | skip)
                by_cases c105 : (yM ByteArray.empty za 0).toList = ([107] : List UInt8)
                ·rw [if_pos c105] at H
                 have zZj : ((yM ByteArray.empty za 0).toList == ([107] : List UInt8)) = true := beq_iff_eq.mpr c105
                 have zZv : ((yM ByteArray.empty za 0).toList != ([107] : List UInt8)) = false := bne_eq_false_iff_eq.mpr c105
                 clear c105
                 as_aux_lemma =>
                  have H' := zk.mk H
                  clear H
                  obtain ⟨zmj, zmv, zbU⟩ := Kd.yA qR.out
                  subst zbU
                  have tJ : 0 ≤ (0 : Int) := (by omega)
                  have tV : 0 < (za.length : Int) := of_decide_eq_true (by first | (with_reducible assumption) | assumption)
                  obtain ⟨zb0, zQC, KG⟩ := Kd.xO (Kd.yc qR.out).2.2 0 tJ tV
                  cases zQC
                  have zb1 : (0 < za.length) = True := eq_true (by omega)
                  (try rw [show ((0 : Int)).toNat = 0 from rfl] at KG)
                  (try rw [Addr.add_zero'] at KG)
                  replace tJ := eq_true tJ
                  replace tV := eq_true tV
                  go_wp2
                  go_meet
                  case rel => exact ⟨_, (((za.length : Int) == 4)), (by first | rfl | (simp; done) | (simp [*]; done)), H', ⟨by have := jl.out; have := Py.out; have := zqs.out; first | omega | exact Nat.le_refl _⟩, ⟨yK qd.out⟩, ⟨yK qR.out⟩, ⟨yK zA.out⟩, ⟨yK zG.out⟩, ⟨yK zB.out⟩, ⟨qV zh.out⟩, ⟨qV zJ.out⟩, ⟨yQ HB.out⟩⟩
                ·rw [if_neg c105] at H
                 have zZj : ((yM ByteArray.empty za 0).toList == ([107] : List UInt8)) = false := beq_eq_false_iff_ne.mpr c105
                 have zZv : ((yM ByteArray.empty za 0).toList != ([107] : List UInt8)) = true := bne_iff_ne.mpr c105
                 as_aux_lemma =>
                  have H' := zk.mk H
                  clear H
                  obtain ⟨zmk, zmy, zb2⟩ := Kd.yA qR.out
                  subst zb2
                  have tJ : 0 ≤ (0 : Int) := (by omega)
                  have tV : 0 < (za.length : Int) := of_decide_eq_true (by first | (with_reducible assumption) | assumption)
                  obtain ⟨zb0, zQC, KG⟩ := Kd.xO (Kd.yc qR.out).2.2 0 tJ tV
                  cases zQC
                  have zb1 : (0 < za.length) = True := eq_true (by omega)
                  (try rw [show ((0 : Int)).toNat = 0 from rfl] at KG)
                  (try rw [Addr.add_zero'] at KG)
                  replace tJ := eq_true tJ
                  replace tV := eq_true tV
                  go_wp2
                  go_meet
                  case rel => exact ⟨_, (false), (by first | rfl | (simp; done) | (simp [*]; done)), H', ⟨by have := jl.out; have := Py.out; have := zqs.out; first | omega | exact Nat.le_refl _⟩, ⟨yK qd.out⟩, ⟨yK qR.out⟩, ⟨yK zA.out⟩, ⟨yK zG.out⟩, ⟨yK zB.out⟩, ⟨qV zh.out⟩, ⟨qV zJ.out⟩, ⟨yQ HB.out⟩⟩
               ·rw [if_neg zjc] at H
                exact absurd H (by simp)
              case rest =>
               clear zy1
               try clear c1
               try clear p2
               try clear p5
               try clear q5
               try clear hx5
               try clear qi5
               try clear p6
               try clear q6
               try clear hx6
               try clear qi6
               try clear c8
               try clear c9
               try clear c10
               try clear p59
               try clear q59
               try clear zdN
               try clear zdO
               try clear p60
               try clear q60
               try clear znh
               try clear zni
               try clear p64
               try clear c85
               try clear c86
               try clear zbH
               try clear zbI
               try clear c87
               try clear zbL
               try clear zbM
               try clear c88
               try clear zbN
               try clear zbO
               try clear c89
               try clear c90
               try clear znl
               try clear zjc
               try clear zjd
               try clear zYs
               try clear c105
               try clear zZj
               try clear zZv
               try clear zdU
               try clear zd0
               try clear zd1
               try clear zd2
               try clear zd3
               try clear zd4
               try clear zd5
               try clear zd6
               try clear zd7
               try clear zd8
               try clear zd9
               try clear zez
               try clear gY
               try clear gW
               try clear gu
               try clear KG
               try clear zyP
               try clear zyS
               try clear zyU
               try clear tJ
               try clear zyR
               try clear zyT
               try clear zy0
               try clear tV
               obtain ⟨kq, ni, rfl, HA, zX9, qd, qR, zA, zG, zB, zh, zJ, HB⟩ := hcut
               cases kq with
               | zero => exact absurd HA.out (by simp [zZ.j5])
               | succ WH =>
                have H := HA.out
                clear HA
                simp only [zZ.j5] at H
                by_cases zy2 : ni = true
                ·subst zy2
                 have H1 : (if 3 < (za.length : Int) then ((zI.f WH (yM ByteArray.empty za 3)).bind fun zzi => (if 1 < (za.length : Int) then (if 2 < (za.length : Int) then (if yN.length < 3518437208883 then (if zzi.2 = true then (zZ.l0 WH a0 vH (wrap64 (qP + 1)) zR zS zU yH yP (yN ++ [(⟨yM ByteArray.empty za 1, yM ByteArray.empty za 2, zzi.1⟩ : qH)])) else (some ((⟨#[]⟩ : BA), false, 0, ([] : List (qA)), ([] : List (qM)), ([] : List (qH)), 4))) else (none)) else (none)) else (none))) else (none)) = some (r1, r2, r3, r4, r5, r6, r7) := by rw [if_pos rfl] at H; exact H
                 clear H
                 have H := H1
                 clear H1
                 by_cases c109 : 3 < (za.length : Int)
                 ·rw [if_pos c109] at H
                  have ziT : decide (3 < (za.length : Int)) = true := decide_eq_true c109
                  have ziU : decide (3 < za.length) = true := decide_eq_true (by omega)
                  clear c109
                  replace H := Option.bind_eq_some_iff.mp H
                  obtain ⟨⟨PZ, zQD⟩, zJz, H⟩ := H
                  replace H : (if 1 < (za.length : Int) then (if 2 < (za.length : Int) then (if yN.length < 3518437208883 then (if zQD = true then (zZ.l0 WH a0 vH (wrap64 (qP + 1)) zR zS zU yH yP (yN ++ [(⟨yM ByteArray.empty za 1, yM ByteArray.empty za 2, PZ⟩ : qH)])) else (some ((⟨#[]⟩ : BA), false, 0, ([] : List (qA)), ([] : List (qM)), ([] : List (qH)), 4))) else (none)) else (none)) else (none)) = some (r1, r2, r3, r4, r5, r6, r7) := H
                  have zje := zk.mk zJz
                  clear zJz
                  by_cases zy3 : 1 < (za.length : Int)
                  ·rw [if_pos zy3] at H
                   have zi0 : decide (1 < (za.length : Int)) = true := decide_eq_true zy3
                   have zi1 : decide (1 < za.length) = true := decide_eq_true (by omega)
                   clear zy3
                   by_cases zy4 : 2 < (za.length : Int)
                   ·rw [if_pos zy4] at H
                    have zi2 : decide (2 < (za.length : Int)) = true := decide_eq_true zy4
                    have zi3 : decide (2 < za.length) = true := decide_eq_true (by omega)
                    clear zy4
                    by_cases zy5 : yN.length < 3518437208883
                    ·rw [if_pos zy5] at H
                     have zZk := zk.mk zy5
                     clear zy5
                     obtain ⟨tK, zzo⟩ : ∃ y_ : List (qH), y_ = (yN ++ [(⟨yM ByteArray.empty za 1, yM ByteArray.empty za 2, PZ⟩ : qH)]) := ⟨_, rfl⟩
                     replace H : (if zQD = true then (zZ.l0 WH a0 vH (wrap64 (qP + 1)) zR zS zU yH yP tK) else (some ((⟨#[]⟩ : BA), false, 0, ([] : List (qA)), ([] : List (qM)), ([] : List (qH)), 4))) = some (r1, r2, r3, r4, r5, r6, r7) := by first | (rw [zzo]; with_reducible exact H) | (have jR := (Option.bind_some _ _).symm.trans H; rw [zzo]; with_reducible exact jR) | (have jR := (Option.bind_some _ _).symm.trans H; with_reducible exact jR) | with_reducible exact H | (rw [zzo]; exact H) | exact H
                     have zJq := zk.mk zzo
                     clear zzo
                     by_cases zy6 : zQD = true
                     ·subst zy6
                      have H1 : (zZ.l0 WH a0 vH (wrap64 (qP + 1)) zR zS zU yH yP tK) = some (r1, r2, r3, r4, r5, r6, r7) := by rw [if_pos rfl] at H; exact H
                      clear H
                      have H := H1
                      clear H1
                      as_aux_lemma =>
                       have H' := zk.mk H
                       clear H
                       obtain ⟨zmw, zmZ, zb3⟩ := Kd.yA qR.out
                       subst zb3
                       have l9 : 0 ≤ (3 : Int) := (by omega)
                       have oz : 3 < (za.length : Int) := of_decide_eq_true (by first | (with_reducible assumption) | assumption)
                       obtain ⟨XM, zQE, gB⟩ := Kd.xO (Kd.yc qR.out).2.2 3 l9 oz
                       cases zQE
                       (try simp only [show (3 : Int).toNat = 3 from rfl, Nat.reduceMul, Nat.reduceEqDiff, Go.Addr.add, ↓reduceIte] at gB)
                       have zb4 : (3 < za.length) = True := eq_true (by omega)
                       (try rw [show ((3 : Int)).toNat = 3 from rfl] at gB)
                       replace l9 := eq_true l9
                       replace oz := eq_true oz
                       try go_wp2_with (first | ((with_reducible refine y7 (f := 81) rfl ?_); refine jP (some 149) Tryz.func81 #[.string (yM ByteArray.empty za 3)] ?_; (with_reducible refine (zI.calls WH (yM ByteArray.empty za 3) PZ true _ zje.out).mono ?_); rintro e zeq ⟨rfl, hb⟩; refine ⟨_, rfl, ?_⟩; have zl := zk.mk (Kd.zf (yK qd.out) hb); have zC := zk.mk (Kd.zf (yK qR.out) hb); have zM := zk.mk (Kd.zf (yK zA.out) hb); have zT := zk.mk (Kd.zf (yK zG.out) hb); have yL := zk.mk (Kd.zf (yK zB.out) hb); have y9 := zk.mk (zo (g := yR) (o := .cells #[.string qm, .bool qz, .int .i64 yG, .slice none 0 0, .slice none 0 0, .slice none 0 0] 44 (0, 0)) (qV zh.out) hb); have qw := zk.mk (zo (g := yB) (o := .cells #[.string zR, .bool zS, .int .i64 zU, qU, xu, q9] 44 (0, 0)) (qV zJ.out) hb); have xg := zk.mk (yg (yQ HB.out) hb); clear qd; clear qR; clear zA; clear zG; clear zB; clear zh; clear zJ; clear HB; have qd := zl; have qR := zC; have zA := zM; have zG := zT; have zB := yL; have zh := y9; have zJ := qw; have HB := xg; clear zl zC zM zT yL y9 qw xg; (try clear hb); (try clear hb2); (try clear hk); (try clear hi)))
                       have zl := zk.mk (Kd.yj qd.out)
                       have zC := zk.mk (Kd.yj qR.out)
                       have zM := zk.mk (Kd.yj zA.out)
                       have zT := zk.mk (Kd.yj zG.out)
                       have yL := zk.mk (Kd.yj zB.out)
                       have y9 := zk.mk (zV zh.out)
                       have qw := zk.mk (zV zJ.out)
                       have xg := zk.mk (yD HB.out)
                       clear qd qR zA zG zB zh zJ HB
                       have qd := zl
                       have qR := zC
                       have zA := zM
                       have zG := zT
                       have zB := yL
                       have zh := y9
                       have zJ := qw
                       have HB := xg
                       clear zl zC zM zT yL y9 qw xg
                       have oq : 0 ≤ (1 : Int) := (by omega)
                       have ow : 1 < (za.length : Int) := of_decide_eq_true (by first | (with_reducible assumption) | assumption)
                       obtain ⟨zy7, zQF, XO⟩ := Kd.xO (Kd.yc qR.out).2.2 1 oq ow
                       obtain rfl : XM = zy7 := (by injection zQF)
                       (try simp only [show (1 : Int).toNat = 1 from rfl, Nat.reduceMul, Nat.reduceEqDiff, Go.Addr.add, ↓reduceIte] at XO)
                       have zb5 : (1 < za.length) = True := eq_true (by omega)
                       (try rw [show ((1 : Int)).toNat = 1 from rfl] at XO)
                       replace oq := eq_true oq
                       replace ow := eq_true ow
                       have oZ : 0 ≤ (2 : Int) := (by omega)
                       have oQ : 2 < (za.length : Int) := of_decide_eq_true (by first | (with_reducible assumption) | assumption)
                       obtain ⟨zy8, zQG, XP⟩ := Kd.xO (Kd.yc qR.out).2.2 2 oZ oQ
                       obtain rfl : XM = zy8 := (by injection zQG)
                       (try simp only [show (2 : Int).toNat = 2 from rfl, Nat.reduceMul, Nat.reduceEqDiff, Go.Addr.add, ↓reduceIte] at XP)
                       have zb6 : (2 < za.length) = True := eq_true (by omega)
                       (try rw [show ((2 : Int)).toNat = 2 from rfl] at XP)
                       replace oZ := eq_true oZ
                       replace oQ := eq_true oQ
                       refine wW (n := 14) (S := fun w' => w'.cell? ⟨yB, 0, none⟩ = some (.string zR) ∧ w'.cell? ⟨yB, 1, none⟩ = some (.bool zS) ∧ w'.cell? ⟨yB, 2, none⟩ = some (.int .i64 zU) ∧ w'.cell? ⟨yB, 3, none⟩ = some (qU) ∧ w'.cell? ⟨yB, 4, none⟩ = some (xu) ∧ w'.cell? ⟨yB, 5, none⟩ = some (q9) ∧ w'.cell? ⟨XM.block, XM.off + 1, none⟩ = some (.string (yM ByteArray.empty za 1)) ∧ w'.cell? ⟨XM.block, XM.off + 2, none⟩ = some (.string (yM ByteArray.empty za 2))) (ds := [11, 13]) #[false, false, false, false, false, false, false, false, false, false, false, false, false, false] (by kernel_rfl) rfl rfl ⟨(zx zJ.out 0).trans rfl, (zx zJ.out 1).trans rfl, (zx zJ.out 2).trans rfl, (zx zJ.out 3).trans rfl, (zx zJ.out 4).trans rfl, (zx zJ.out 5).trans rfl, XO, XP⟩ (fun hHeld => ?_); refine wI zZ.zX0 zZ.zZx (fun yY jT => ?_)
                       generalize zeq.drew = znm at qd qR zA zG zB zh zJ HB XO XP hHeld ⊢
                       refine uj 0 (some 153) yY ?_
                       refine uj 2 (some 155) yY ?_
                       refine uj 3 (some 156) yY ?_
                       refine uj 5 (some 158) yY ?_
                       refine uj 6 (some 159) yY ?_
                       refine uj 8 (some 161) yY ?_
                       refine pQ 1 (some 154) yY jT hHeld ?_
                       refine pQ 4 (some 157) yY jT hHeld ?_
                       refine pQ 7 (some 160) yY jT hHeld ?_
                       refine uj 9 (some 162) yY ?_
                       refine ru 10 (some 163) yY (fun K hK => ?_)
                       refine vaS ?_
                       refine hK.out _ _ ⟨(zx (zQ zJ.out _) 0).trans rfl, (zx (zQ zJ.out _) 1).trans rfl, (zx (zQ zJ.out _) 2).trans rfl, (zx (zQ zJ.out _) 3).trans rfl, (zx (zQ zJ.out _) 4).trans rfl, (zx (zQ zJ.out _) 5).trans rfl, (World.cell?_alloc_lt _ _ _ (World.block_lt_of_cell? _ _ (hHeld.2.2.2.2.2.2.1))).trans (hHeld.2.2.2.2.2.2.1), (World.cell?_alloc_lt _ _ _ (World.block_lt_of_cell? _ _ (hHeld.2.2.2.2.2.2.2))).trans (hHeld.2.2.2.2.2.2.2)⟩ (fun hHeld => ?_)
                       clear hK K
                       refine JN (some 163) ?_
                       refine ZA (i := 11) (N := some 164) #[true, true, true, true, true, true, true, true, true, true, true, true, false, false] rfl rfl (uw yY.out (by kernel_rfl)) (by decide) (fun K hK => ?_)
                       refine Kd.u7 Yu (w0 := w) w.heap.size (by rfl) (.tmp 154) (.tmp 163) 42 84 (.agg #[(.string ⟨#[]⟩), (.string ⟨#[]⟩), (.int .i64 0)]) 40 rfl Tryz.underlying42 zxe rfl (by decide) (by omega) q9 yN (⟨yM ByteArray.empty za 1, yM ByteArray.empty za 2, PZ⟩ : qH) [.string (yM ByteArray.empty za 1), .string (yM ByteArray.empty za 2), .int .i64 PZ] (fun _ => True) (fun _ => False) rfl rfl ?aP (fun _ hk => hk.elim) ?aF ?aO ?aB ?aS ?aL ?_
                       (case aP => exact zzP _ _ _ (⟨yM ByteArray.empty za 1, yM ByteArray.empty za 2, PZ⟩ : qH))
                       (case aB => exact (yQ HB.out))
                       (case aF => exact (fun _ _ => trivial))
                       (case aO => exact (yK zB.out))
                       (case aS => exact (zH (yQ HB.out)))
                       (case aL => have := zZk.out; omega)
                       intro zex zej ho hb hg hat
                       rw [← zJq.out] at ho
                       have zl := zk.mk (Kd.ji (yK qd.out) (Kd.jh (yK zB.out)) (by decide) hg)
                       have zC := zk.mk (Kd.ji (yK qR.out) (Kd.jh (yK zB.out)) (by decide) hg)
                       have zM := zk.mk (Kd.ji (yK zA.out) (Kd.jh (yK zB.out)) (by decide) hg)
                       have zT := zk.mk (Kd.ji (yK zG.out) (Kd.jh (yK zB.out)) (by decide) hg)
                       have yL := zk.mk (vk (g := yR) (o := .cells #[.string qm, .bool qz, .int .i64 yG, .slice none 0 0, .slice none 0 0, .slice none 0 0] 44 (0, 0)) (qV zh.out) hg (Kd.kT zB.out zh.out (by decide)))
                       have y9 := zk.mk (vk (g := yB) (o := .cells #[.string zR, .bool zS, .int .i64 zU, qU, xu, q9] 44 (0, 0)) (qV zJ.out) hg (Kd.kT zB.out zJ.out (by decide)))
                       have qw := zk.mk (hb)
                       have xg := zk.mk (ho)
                       clear qd qR zA zG zh zJ HB zB
                       have qd := zl
                       have qR := zC
                       have zA := zM
                       have zG := zT
                       have zh := yL
                       have zJ := y9
                       have HB := qw
                       have zxJ := xg
                       clear zl zC zM zT yL y9 qw xg ho hb hg hat
                       obtain ⟨zzp, zzr, zJx⟩ := Kd.yA zxJ.out
                       (first | subst zJx | (injection zJx with kW Z4 kg; have Z5 := kW.symm; have Z6 := kg.symm; clear kW Z4 kg; subst Z5; subst Z6))
                       refine hK.out _ _ ?_
                       clear hK K
                       refine JN (some 164) ?_
                       refine uj 12 (some 165) yY ?_
                       refine ZA (i := 13) (N := none) #[true, true, true, true, true, true, true, true, true, true, true, true, true, true] rfl rfl (uw yY.out (by kernel_rfl)) (by decide) (fun K hK => ?_)
                       have zmQ : zej.cell? ⟨yB, 5, none⟩ = some (q9) := (zx zJ.out 5).trans rfl
                       have zi4 := zw zJ.out 5
                       have zev := jw.out
                       have zek := jO.out
                       refine Xd (w1 := ?_) (by rfl) rfl ?_ ?_
                       rotate_left
                       ·go_simp
                        rfl
                       refine hK.out _ _ ?_
                       clear hK K
                       refine uh (vC yY.out (by kernel_rfl)) ?_
                       try go_wp2
                       go_roundg WH
                       case measure => have := jl.out; have := Py.out; have := zqs.out; have := zX9.out; omega
                       case rel => exact ⟨(wrap64 (qP + 1)), (qm), (qz), (yG), (zR), (zS), (zU), (yH), (yP), (tK), (qU), (xu), (.slice zzp tK.length zzr), (by first | rfl | (simp; done) | (simp [*]; done)), H', ⟨by have := jl.out; have := Py.out; have := zqs.out; have := zX9.out; omega⟩, ⟨by (with_reducible repeat (first | apply Kd.yT | apply Kd.yU | apply Kd.yj)); exact Kd.yh (Kd.zW (p := ⟨yB, 5, none⟩) (Kd.qg qd.out zJ.out (by decide)) (fun _ hk => hk.2) (.slice zzp tK.length zzr)) (fun _ hk => trivial)⟩, ⟨by (with_reducible repeat (first | apply Kd.yT | apply Kd.yU | apply Kd.yj)); exact Kd.yh (Kd.zW (p := ⟨yB, 5, none⟩) (Kd.qg zA.out zJ.out (by decide)) (fun _ hk => hk.2) (.slice zzp tK.length zzr)) (fun _ hk => trivial)⟩, ⟨by (with_reducible repeat (first | apply Kd.yT | apply Kd.yU | apply Kd.yj)); exact Kd.yh (Kd.zW (p := ⟨yB, 5, none⟩) (Kd.qg zG.out zJ.out (by decide)) (fun _ hk => hk.2) (.slice zzp tK.length zzr)) (fun _ hk => trivial)⟩, ⟨by (with_reducible repeat (first | apply Kd.yT | apply Kd.yU | apply Kd.yj)); exact Kd.yh (Kd.zW (p := ⟨yB, 5, none⟩) (Kd.qg zxJ.out zJ.out (by decide)) (fun _ hk => hk.2) (.slice zzp tK.length zzr)) (fun _ hk => trivial)⟩, ⟨JO zh.out⟩, ⟨by (with_reducible repeat (first | refine zY ?_ _ | refine zV ?_ | refine zQ ?_ _)); refine zi (cs := #[.string zR, .bool zS, .int .i64 zU, qU, xu, q9]) ?_ 5 _ rfl; (with_reducible repeat (first | refine zY ?_ _ | refine zV ?_ | refine zQ ?_ _)); exact zJ.out⟩, ⟨yQ HB.out⟩⟩
                     ·replace zy6 := Bool.eq_false_iff.mpr zy6
                      subst zy6
                      have H1 : (some ((⟨#[]⟩ : BA), false, 0, ([] : List (qA)), ([] : List (qM)), ([] : List (qH)), 4)) = some (r1, r2, r3, r4, r5, r6, r7) := by rw [if_neg (show ¬ (false = true) by decide)] at H; exact H
                      clear H
                      have H := H1
                      clear H1
                      as_aux_lemma =>
                       simp only [Option.some.injEq, Prod.mk.injEq] at H
                       obtain ⟨rfl, rfl, rfl, rfl, rfl, rfl, rfl⟩ := H
                       obtain ⟨zmX, zmJ, zb7⟩ := Kd.yA qR.out
                       subst zb7
                       have l9 : 0 ≤ (3 : Int) := (by omega)
                       have oz : 3 < (za.length : Int) := of_decide_eq_true (by first | (with_reducible assumption) | assumption)
                       obtain ⟨XM, zQE, gB⟩ := Kd.xO (Kd.yc qR.out).2.2 3 l9 oz
                       cases zQE
                       (try simp only [show (3 : Int).toNat = 3 from rfl, Nat.reduceMul, Nat.reduceEqDiff, Go.Addr.add, ↓reduceIte] at gB)
                       have zb4 : (3 < za.length) = True := eq_true (by omega)
                       (try rw [show ((3 : Int)).toNat = 3 from rfl] at gB)
                       replace l9 := eq_true l9
                       replace oz := eq_true oz
                       try go_wp2_with (first | ((with_reducible refine y7 (f := 81) rfl ?_); refine jP (some 149) Tryz.func81 #[.string (yM ByteArray.empty za 3)] ?_; (with_reducible refine (zI.calls WH (yM ByteArray.empty za 3) PZ false _ zje.out).mono ?_); rintro e zey ⟨rfl, hb⟩; refine ⟨_, rfl, ?_⟩; have zl := zk.mk (Kd.zf (yK qd.out) hb); have zC := zk.mk (Kd.zf (yK qR.out) hb); have zM := zk.mk (Kd.zf (yK zA.out) hb); have zT := zk.mk (Kd.zf (yK zG.out) hb); have yL := zk.mk (Kd.zf (yK zB.out) hb); have y9 := zk.mk (zo (g := yR) (o := .cells #[.string qm, .bool qz, .int .i64 yG, .slice none 0 0, .slice none 0 0, .slice none 0 0] 44 (0, 0)) (qV zh.out) hb); have qw := zk.mk (zo (g := yB) (o := .cells #[.string zR, .bool zS, .int .i64 zU, qU, xu, q9] 44 (0, 0)) (qV zJ.out) hb); have xg := zk.mk (yg (yQ HB.out) hb); clear qd; clear qR; clear zA; clear zG; clear zB; clear zh; clear zJ; clear HB; have qd := zl; have qR := zC; have zA := zM; have zG := zT; have zB := yL; have zh := y9; have zJ := qw; have HB := xg; clear zl zC zM zT yL y9 qw xg; (try clear hb); (try clear hb2); (try clear hk); (try clear hi)))
                       have zl := zk.mk (Kd.yj qd.out)
                       have zC := zk.mk (Kd.yj qR.out)
                       have zM := zk.mk (Kd.yj zA.out)
                       have zT := zk.mk (Kd.yj zG.out)
                       have yL := zk.mk (Kd.yj zB.out)
                       have y9 := zk.mk (zV zh.out)
                       have qw := zk.mk (zV zJ.out)
                       have xg := zk.mk (yD HB.out)
                       clear qd qR zA zG zB zh zJ HB
                       have qd := zl
                       have qR := zC
                       have zA := zM
                       have zG := zT
                       have zB := yL
                       have zh := y9
                       have zJ := qw
                       have HB := xg
                       clear zl zC zM zT yL y9 qw xg
                       have oq : 0 ≤ (1 : Int) := (by omega)
                       have ow : 1 < (za.length : Int) := of_decide_eq_true (by first | (with_reducible assumption) | assumption)
                       obtain ⟨zy7, zQF, XO⟩ := Kd.xO (Kd.yc qR.out).2.2 1 oq ow
                       obtain rfl : XM = zy7 := (by injection zQF)
                       (try simp only [show (1 : Int).toNat = 1 from rfl, Nat.reduceMul, Nat.reduceEqDiff, Go.Addr.add, ↓reduceIte] at XO)
                       have zb5 : (1 < za.length) = True := eq_true (by omega)
                       (try rw [show ((1 : Int)).toNat = 1 from rfl] at XO)
                       replace oq := eq_true oq
                       replace ow := eq_true ow
                       have oZ : 0 ≤ (2 : Int) := (by omega)
                       have oQ : 2 < (za.length : Int) := of_decide_eq_true (by first | (with_reducible assumption) | assumption)
                       obtain ⟨zy8, zQG, XP⟩ := Kd.xO (Kd.yc qR.out).2.2 2 oZ oQ
                       obtain rfl : XM = zy8 := (by injection zQG)
                       (try simp only [show (2 : Int).toNat = 2 from rfl, Nat.reduceMul, Nat.reduceEqDiff, Go.Addr.add, ↓reduceIte] at XP)
                       have zb6 : (2 < za.length) = True := eq_true (by omega)
                       (try rw [show ((2 : Int)).toNat = 2 from rfl] at XP)
                       replace oZ := eq_true oZ
                       replace oQ := eq_true oQ
                       refine wW (n := 14) (S := fun w' => w'.cell? ⟨yB, 0, none⟩ = some (.string zR) ∧ w'.cell? ⟨yB, 1, none⟩ = some (.bool zS) ∧ w'.cell? ⟨yB, 2, none⟩ = some (.int .i64 zU) ∧ w'.cell? ⟨yB, 3, none⟩ = some (qU) ∧ w'.cell? ⟨yB, 4, none⟩ = some (xu) ∧ w'.cell? ⟨yB, 5, none⟩ = some (q9) ∧ w'.cell? ⟨XM.block, XM.off + 1, none⟩ = some (.string (yM ByteArray.empty za 1)) ∧ w'.cell? ⟨XM.block, XM.off + 2, none⟩ = some (.string (yM ByteArray.empty za 2))) (ds := [11, 13]) #[false, false, false, false, false, false, false, false, false, false, false, false, false, false] (by kernel_rfl) rfl rfl ⟨(zx zJ.out 0).trans rfl, (zx zJ.out 1).trans rfl, (zx zJ.out 2).trans rfl, (zx zJ.out 3).trans rfl, (zx zJ.out 4).trans rfl, (zx zJ.out 5).trans rfl, XO, XP⟩ (fun hHeld => ?_); refine wI zZ.zX0 zZ.zZx (fun yY jT => ?_)
                       generalize zey.drew = znn at qd qR zA zG zB zh zJ HB XO XP hHeld ⊢
                       refine uj 0 (some 153) yY ?_
                       refine uj 2 (some 155) yY ?_
                       refine uj 3 (some 156) yY ?_
                       refine uj 5 (some 158) yY ?_
                       refine uj 6 (some 159) yY ?_
                       refine uj 8 (some 161) yY ?_
                       refine pQ 1 (some 154) yY jT hHeld ?_
                       refine pQ 4 (some 157) yY jT hHeld ?_
                       refine pQ 7 (some 160) yY jT hHeld ?_
                       refine uj 9 (some 162) yY ?_
                       refine ru 10 (some 163) yY (fun K hK => ?_)
                       refine vaS ?_
                       refine hK.out _ _ ⟨(zx (zQ zJ.out _) 0).trans rfl, (zx (zQ zJ.out _) 1).trans rfl, (zx (zQ zJ.out _) 2).trans rfl, (zx (zQ zJ.out _) 3).trans rfl, (zx (zQ zJ.out _) 4).trans rfl, (zx (zQ zJ.out _) 5).trans rfl, (World.cell?_alloc_lt _ _ _ (World.block_lt_of_cell? _ _ (hHeld.2.2.2.2.2.2.1))).trans (hHeld.2.2.2.2.2.2.1), (World.cell?_alloc_lt _ _ _ (World.block_lt_of_cell? _ _ (hHeld.2.2.2.2.2.2.2))).trans (hHeld.2.2.2.2.2.2.2)⟩ (fun hHeld => ?_)
                       clear hK K
                       refine JN (some 163) ?_
                       refine ZA (i := 11) (N := some 164) #[true, true, true, true, true, true, true, true, true, true, true, true, false, false] rfl rfl (uw yY.out (by kernel_rfl)) (by decide) (fun K hK => ?_)
                       refine Kd.u7 Yu (w0 := w) w.heap.size (by rfl) (.tmp 154) (.tmp 163) 42 84 (.agg #[(.string ⟨#[]⟩), (.string ⟨#[]⟩), (.int .i64 0)]) 40 rfl Tryz.underlying42 zxe rfl (by decide) (by omega) q9 yN (⟨yM ByteArray.empty za 1, yM ByteArray.empty za 2, PZ⟩ : qH) [.string (yM ByteArray.empty za 1), .string (yM ByteArray.empty za 2), .int .i64 PZ] (fun _ => True) (fun _ => False) rfl rfl ?aP (fun _ hk => hk.elim) ?aF ?aO ?aB ?aS ?aL ?_
                       (case aP => exact zzP _ _ _ (⟨yM ByteArray.empty za 1, yM ByteArray.empty za 2, PZ⟩ : qH))
                       (case aB => exact (yQ HB.out))
                       (case aF => exact (fun _ _ => trivial))
                       (case aO => exact (yK zB.out))
                       (case aS => exact (zH (yQ HB.out)))
                       (case aL => have := zZk.out; omega)
                       intro zex oJ ho hb hg hat
                       rw [← zJq.out] at ho
                       have zl := zk.mk (Kd.ji (yK qd.out) (Kd.jh (yK zB.out)) (by decide) hg)
                       have zC := zk.mk (Kd.ji (yK qR.out) (Kd.jh (yK zB.out)) (by decide) hg)
                       have zM := zk.mk (Kd.ji (yK zA.out) (Kd.jh (yK zB.out)) (by decide) hg)
                       have zT := zk.mk (Kd.ji (yK zG.out) (Kd.jh (yK zB.out)) (by decide) hg)
                       have yL := zk.mk (vk (g := yR) (o := .cells #[.string qm, .bool qz, .int .i64 yG, .slice none 0 0, .slice none 0 0, .slice none 0 0] 44 (0, 0)) (qV zh.out) hg (Kd.kT zB.out zh.out (by decide)))
                       have y9 := zk.mk (vk (g := yB) (o := .cells #[.string zR, .bool zS, .int .i64 zU, qU, xu, q9] 44 (0, 0)) (qV zJ.out) hg (Kd.kT zB.out zJ.out (by decide)))
                       have qw := zk.mk (hb)
                       have xg := zk.mk (ho)
                       clear qd qR zA zG zh zJ HB zB
                       have qd := zl
                       have qR := zC
                       have zA := zM
                       have zG := zT
                       have zh := yL
                       have zJ := y9
                       have HB := qw
                       have zxJ := xg
                       clear zl zC zM zT yL y9 qw xg ho hb hg hat
                       obtain ⟨zmV, zmK, zJj⟩ := Kd.yA zxJ.out
                       (first | subst zJj | (injection zJj with kW Z4 kg; have Z5 := kW.symm; have Z6 := kg.symm; clear kW Z4 kg; subst Z5; subst Z6))
                       refine hK.out _ _ ?_
                       clear hK K
                       refine JN (some 164) ?_
                       refine uj 12 (some 165) yY ?_
                       refine ZA (i := 13) (N := none) #[true, true, true, true, true, true, true, true, true, true, true, true, true, true] rfl rfl (uw yY.out (by kernel_rfl)) (by decide) (fun K hK => ?_)
                       have zmY : oJ.cell? ⟨yB, 5, none⟩ = some (q9) := (zx zJ.out 5).trans rfl
                       have zi5 := zw zJ.out 5
                       have zew := jw.out
                       have zeZ := jO.out
                       refine Xd (w1 := ?_) (by rfl) rfl ?_ ?_
                       rotate_left
                       ·go_simp
                        rfl
                       refine hK.out _ _ ?_
                       clear hK K
                       refine uh (vC yY.out (by kernel_rfl)) ?_
                       have zi6 := jw.out
                       have zi7 := jO.out
                       have zeQ : oJ.cell? ⟨yR, 0, none⟩ = some (.string qm) := (zx zh.out 0).trans rfl
                       have zeX : oJ.cell? ⟨yR, 1, none⟩ = some (.bool qz) := (zx zh.out 1).trans rfl
                       have zeJ : oJ.cell? ⟨yR, 2, none⟩ = some (.int .i64 yG) := (zx zh.out 2).trans rfl
                       have zeV : oJ.cell? ⟨yR, 3, none⟩ = some (.slice none 0 0) := (zx zh.out 3).trans rfl
                       have zeK : oJ.cell? ⟨yR, 4, none⟩ = some (.slice none 0 0) := (zx zh.out 4).trans rfl
                       have zeY : oJ.cell? ⟨yR, 5, none⟩ = some (.slice none 0 0) := (zx zh.out 5).trans rfl
                       have zeW := zw zh.out 0
                       have zea := zw zh.out 1
                       have zeb := zw zh.out 2
                       have zec := zw zh.out 3
                       have zed := zw zh.out 4
                       have zee := zw zh.out 5
                       try go_wp2
                       refine bodyPost_ret (pV rfl _ _ yR 44 #[.string (⟨#[]⟩ : BA), .bool false, .int .i64 0, .slice none 0 0, .slice none 0 0, .slice none 0 0] (0, 0) _ rfl (by (with_reducible repeat (first | refine zY ?_ _ | refine zV ?_ | refine zQ ?_ _)); refine zi (cs := #[.string (⟨#[]⟩ : BA), .bool false, .int .i64 0, .slice none 0 0, .slice none 0 0, .slice none 0 0]) ?_ 5 _ rfl; (with_reducible repeat (first | refine zY ?_ _ | refine zV ?_ | refine zQ ?_ _)); refine zi (cs := #[.string (⟨#[]⟩ : BA), .bool false, .int .i64 0, .slice none 0 0, .slice none 0 0, .slice none 0 0]) ?_ 4 _ rfl; (with_reducible repeat (first | refine zY ?_ _ | refine zV ?_ | refine zQ ?_ _)); refine zi (cs := #[.string (⟨#[]⟩ : BA), .bool false, .int .i64 0, .slice none 0 0, .slice none 0 0, .slice none 0 0]) ?_ 3 _ rfl; (with_reducible repeat (first | refine zY ?_ _ | refine zV ?_ | refine zQ ?_ _)); refine zi (cs := #[.string (⟨#[]⟩ : BA), .bool false, .int .i64 yG, .slice none 0 0, .slice none 0 0, .slice none 0 0]) ?_ 2 _ rfl; (with_reducible repeat (first | refine zY ?_ _ | refine zV ?_ | refine zQ ?_ _)); refine zi (cs := #[.string (⟨#[]⟩ : BA), .bool qz, .int .i64 yG, .slice none 0 0, .slice none 0 0, .slice none 0 0]) ?_ 1 _ rfl; (with_reducible repeat (first | refine zY ?_ _ | refine zV ?_ | refine zQ ?_ _)); refine zi (cs := #[.string qm, .bool qz, .int .i64 yG, .slice none 0 0, .slice none 0 0, .slice none 0 0]) ?_ 0 _ rfl; (with_reducible repeat (first | refine zY ?_ _ | refine zV ?_ | refine zQ ?_ _)); refine uo ?_ jw.out _; (with_reducible repeat (first | refine zY ?_ _ | refine zV ?_ | refine zQ ?_ _)); exact zh.out) Tryz.underlying44 rfl (by kernel_rfl)) rfl ?_
                       exact ⟨_, _, _, by first | rfl | (simp [yw, yZ] <;> rfl) | (simp [*, yw, yZ] <;> rfl), by first | exact Kd.vD _ _ _ _ _ | exact Kd.jG _ _ _ _ _ | exact Kd.jH _ _ _ _ _ | exact Kd.jE _ _ _ _ _ | exact Kd.jF _ _ _ _ _, by first | exact Kd.vD _ _ _ _ _ | exact Kd.jG _ _ _ _ _ | exact Kd.jH _ _ _ _ _ | exact Kd.jE _ _ _ _ _ | exact Kd.jF _ _ _ _ _, by first | exact Kd.vD _ _ _ _ _ | exact Kd.jG _ _ _ _ _ | exact Kd.jH _ _ _ _ _ | exact Kd.jE _ _ _ _ _ | exact Kd.jF _ _ _ _ _, by repeat (first | (with_reducible first | exact HB.out | apply yS | apply yx | apply yD | refine qh ?_ J5.out | refine qh ?_ J6.out) | exact HB.out)⟩
                    ·rw [if_neg zy5] at H
                     exact absurd H (by simp)
                   ·rw [if_neg zy4] at H
                    exact absurd H (by simp)
                  ·rw [if_neg zy3] at H
                   exact absurd H (by simp)
                 ·rw [if_neg c109] at H
                  exact absurd H (by simp)
                ·replace zy2 := Bool.eq_false_iff.mpr zy2
                 subst zy2
                 have H1 : (some ((⟨#[]⟩ : BA), false, 0, ([] : List (qA)), ([] : List (qM)), ([] : List (qH)), 4)) = some (r1, r2, r3, r4, r5, r6, r7) := by rw [if_neg (show ¬ (false = true) by decide)] at H; exact H
                 clear H
                 have H := H1
                 clear H1
                 as_aux_lemma =>
                  simp only [Option.some.injEq, Prod.mk.injEq] at H
                  obtain ⟨rfl, rfl, rfl, rfl, rfl, rfl, rfl⟩ := H
                  have zi8 := jw.out
                  have zi9 := jO.out
                  have zef : wc.cell? ⟨yR, 0, none⟩ = some (.string qm) := (zx zh.out 0).trans rfl
                  have zeg : wc.cell? ⟨yR, 1, none⟩ = some (.bool qz) := (zx zh.out 1).trans rfl
                  have zeh : wc.cell? ⟨yR, 2, none⟩ = some (.int .i64 yG) := (zx zh.out 2).trans rfl
                  have zei : wc.cell? ⟨yR, 3, none⟩ = some (.slice none 0 0) := (zx zh.out 3).trans rfl
                  have zel : wc.cell? ⟨yR, 4, none⟩ = some (.slice none 0 0) := (zx zh.out 4).trans rfl
                  have zem : wc.cell? ⟨yR, 5, none⟩ = some (.slice none 0 0) := (zx zh.out 5).trans rfl
                  have zen := zw zh.out 0
                  have zeo := zw zh.out 1
                  have zep := zw zh.out 2
                  have zer := zw zh.out 3
                  have zes := zw zh.out 4
                  have zet := zw zh.out 5
                  go_wp2
                  refine bodyPost_ret (pV rfl _ _ yR 44 #[.string (⟨#[]⟩ : BA), .bool false, .int .i64 0, .slice none 0 0, .slice none 0 0, .slice none 0 0] (0, 0) _ rfl (by (with_reducible repeat (first | refine zY ?_ _ | refine zV ?_ | refine zQ ?_ _)); refine zi (cs := #[.string (⟨#[]⟩ : BA), .bool false, .int .i64 0, .slice none 0 0, .slice none 0 0, .slice none 0 0]) ?_ 5 _ rfl; (with_reducible repeat (first | refine zY ?_ _ | refine zV ?_ | refine zQ ?_ _)); refine zi (cs := #[.string (⟨#[]⟩ : BA), .bool false, .int .i64 0, .slice none 0 0, .slice none 0 0, .slice none 0 0]) ?_ 4 _ rfl; (with_reducible repeat (first | refine zY ?_ _ | refine zV ?_ | refine zQ ?_ _)); refine zi (cs := #[.string (⟨#[]⟩ : BA), .bool false, .int .i64 0, .slice none 0 0, .slice none 0 0, .slice none 0 0]) ?_ 3 _ rfl; (with_reducible repeat (first | refine zY ?_ _ | refine zV ?_ | refine zQ ?_ _)); refine zi (cs := #[.string (⟨#[]⟩ : BA), .bool false, .int .i64 yG, .slice none 0 0, .slice none 0 0, .slice none 0 0]) ?_ 2 _ rfl; (with_reducible repeat (first | refine zY ?_ _ | refine zV ?_ | refine zQ ?_ _)); refine zi (cs := #[.string (⟨#[]⟩ : BA), .bool qz, .int .i64 yG, .slice none 0 0, .slice none 0 0, .slice none 0 0]) ?_ 1 _ rfl; (with_reducible repeat (first | refine zY ?_ _ | refine zV ?_ | refine zQ ?_ _)); refine zi (cs := #[.string qm, .bool qz, .int .i64 yG, .slice none 0 0, .slice none 0 0, .slice none 0 0]) ?_ 0 _ rfl; (with_reducible repeat (first | refine zY ?_ _ | refine zV ?_ | refine zQ ?_ _)); exact zh.out) Tryz.underlying44 rfl (by kernel_rfl)) rfl ?_
                  exact ⟨_, _, _, by first | rfl | (simp [yw, yZ] <;> rfl) | (simp [*, yw, yZ] <;> rfl), by first | exact Kd.vD _ _ _ _ _ | exact Kd.jG _ _ _ _ _ | exact Kd.jH _ _ _ _ _ | exact Kd.jE _ _ _ _ _ | exact Kd.jF _ _ _ _ _, by first | exact Kd.vD _ _ _ _ _ | exact Kd.jG _ _ _ _ _ | exact Kd.jH _ _ _ _ _ | exact Kd.jE _ _ _ _ _ | exact Kd.jF _ _ _ _ _, by first | exact Kd.vD _ _ _ _ _ | exact Kd.jG _ _ _ _ _ | exact Kd.jH _ _ _ _ _ | exact Kd.jE _ _ _ _ _ | exact Kd.jF _ _ _ _ _, by repeat (first | (with_reducible first | exact HB.out | apply yS | apply yx | apply yD | refine qh ?_ J5.out | refine qh ?_ J6.out) | exact HB.out)⟩
     ·rw [if_neg c8] at H
      exact absurd H (by simp)
    ·rw [if_neg c7] at H
     exact absurd H (by simp)
   ·rw [if_neg c6] at H
    have Zf : decide ((wrap64 (qP + 1)) < (vH.length : Int)) = false := decide_eq_false c6
    clear c6
    replace H := Option.bind_eq_some_iff.mp H
    obtain ⟨⟨nA, nC⟩, zJv, H⟩ := H
    replace H : (if nC = 0 then (if nA.toList = a0.toList then (some (zR, zS, zU, yH, yP, yN, 0)) else (some ((⟨#[]⟩ : BA), false, 0, ([] : List (qA)), ([] : List (qM)), ([] : List (qH)), 4))) else (some ((⟨#[]⟩ : BA), false, 0, ([] : List (qA)), ([] : List (qM)), ([] : List (qH)), 4))) = some (r1, r2, r3, r4, r5, r6, r7) := H
    have zQH := zk.mk zJv
    clear zJv
    by_cases oV : nC = 0
    ·rw [if_pos oV] at H
     have zYt : (nC == 0) = true := beq_iff_eq.mpr oV
     have zYu : (nC != 0) = false := bne_eq_false_iff_eq.mpr oV
     clear oV
     by_cases oK : nA.toList = a0.toList
     ·rw [if_pos oK] at H
      have zYA : (nA.toList == a0.toList) = true := beq_iff_eq.mpr oK
      have zYB : (nA.toList != a0.toList) = false := bne_eq_false_iff_eq.mpr oK
      clear oK
      as_aux_lemma =>
       simp only [Option.some.injEq, Prod.mk.injEq] at H
       obtain ⟨rfl, rfl, rfl, rfl, rfl, rfl, rfl⟩ := H
       obtain ⟨zmW, zma, zb8⟩ := Kd.yA qd.out
       subst zb8
       have zlz := jO.out
       have zlq := jw.out
       have zeu : wr.cell? ⟨yB, 0, none⟩ = some (.string zR) := (zx zJ.out 0).trans rfl
       have zeA : wr.cell? ⟨yB, 1, none⟩ = some (.bool zS) := (zx zJ.out 1).trans rfl
       have zeB : wr.cell? ⟨yB, 2, none⟩ = some (.int .i64 zU) := (zx zJ.out 2).trans rfl
       have zeC : wr.cell? ⟨yB, 3, none⟩ = some (qU) := (zx zJ.out 3).trans rfl
       have zeD : wr.cell? ⟨yB, 4, none⟩ = some (xu) := (zx zJ.out 4).trans rfl
       have zeE : wr.cell? ⟨yB, 5, none⟩ = some (q9) := (zx zJ.out 5).trans rfl
       have zeF := zw zJ.out 0
       have zeG := zw zJ.out 1
       have zeH := zw zJ.out 2
       have zeI := zw zJ.out 3
       have zeL := zw zJ.out 4
       have zeM := zw zJ.out 5
       obtain ⟨J7, J8, zb9⟩ := Kd.yA zA.out
       subst zb9
       obtain ⟨WI, WL, zcz⟩ := Kd.yA zG.out
       subst zcz
       obtain ⟨nD, nE, zcq⟩ := Kd.yA zB.out
       subst zcq
       go_wp2_with (first | ((with_reducible refine y7 (f := 75) rfl ?_); refine jP (some 171) Tryz.func75 #[.agg #[.string zR, .bool zS, .int .i64 zU, .slice J7 yH.length J8, .slice WI yP.length WL, .slice nD yN.length nE]] ?_; (with_reducible refine (uK.calls zR zS zU _ _ yH _ _ yP _ _ yN nA nC _ ?vR ?jK ?jY ?jW ?jc ?jd zQH.out).mono ?_); (case vR => repeat (first | exact (Kd.yc zA.out).2.2 | (with_reducible refine Kd.qx ?_ _) | (with_reducible refine Kd.qj ?_ _) | (with_reducible refine Kd.qo ?_))); (case jK => exact (Kd.yc zA.out).2.1); (case jY => repeat (first | exact (Kd.yc zG.out).2.2 | (with_reducible refine Kd.qx ?_ _) | (with_reducible refine Kd.qj ?_ _) | (with_reducible refine Kd.qo ?_))); (case jW => exact (Kd.yc zG.out).2.1); (case jc => repeat (first | exact (Kd.yc zB.out).2.2 | (with_reducible refine Kd.qx ?_ _) | (with_reducible refine Kd.qj ?_ _) | (with_reducible refine Kd.qo ?_))); (case jd => exact (Kd.yc zB.out).2.1); rintro e JI ⟨rfl, hb⟩; refine ⟨_, rfl, ?_⟩; have zl := zk.mk (Kd.zf (yK qd.out) hb); have zC := zk.mk (Kd.zf (yK zA.out) hb); have zM := zk.mk (Kd.zf (yK zG.out) hb); have zT := zk.mk (Kd.zf (yK zB.out) hb); have yL := zk.mk (zo (g := yR) (o := .cells #[.string qm, .bool qz, .int .i64 yG, .slice none 0 0, .slice none 0 0, .slice none 0 0] 44 (0, 0)) (qV zh.out) hb); have y9 := zk.mk (zo (g := yB) (o := .cells #[.string zR, .bool zS, .int .i64 zU, .slice J7 yH.length J8, .slice WI yP.length WL, .slice nD yN.length nE] 44 (0, 0)) (qV zJ.out) hb); have qw := zk.mk (yg (yQ HB.out) hb); clear qd; clear zA; clear zG; clear zB; clear zh; clear zJ; clear HB; have qd := zl; have zA := zC; have zG := zM; have zB := zT; have zh := yL; have zJ := y9; have HB := qw; clear zl zC zM zT yL y9 qw; (try clear hb); (try clear hb2); (try clear hk); (try clear hi); have zeN : JI.cell? ⟨yB, 0, none⟩ = some (.string zR) := (zx zJ.out 0).trans rfl; have zeO : JI.cell? ⟨yB, 1, none⟩ = some (.bool zS) := (zx zJ.out 1).trans rfl; have zeP : JI.cell? ⟨yB, 2, none⟩ = some (.int .i64 zU) := (zx zJ.out 2).trans rfl; have zeR : JI.cell? ⟨yB, 3, none⟩ = some (.slice J7 yH.length J8) := (zx zJ.out 3).trans rfl; have zeS : JI.cell? ⟨yB, 4, none⟩ = some (.slice WI yP.length WL) := (zx zJ.out 4).trans rfl; have zeT : JI.cell? ⟨yB, 5, none⟩ = some (.slice nD yN.length nE) := (zx zJ.out 5).trans rfl; have zeU := zw zJ.out 0; have ze0 := zw zJ.out 1; have ze1 := zw zJ.out 2; have ze2 := zw zJ.out 3; have ze3 := zw zJ.out 4; have ze4 := zw zJ.out 5; have ze5 : JI.cell? ⟨yR, 0, none⟩ = some (.string qm) := (zx zh.out 0).trans rfl; have ze6 : JI.cell? ⟨yR, 1, none⟩ = some (.bool qz) := (zx zh.out 1).trans rfl; have ze7 : JI.cell? ⟨yR, 2, none⟩ = some (.int .i64 yG) := (zx zh.out 2).trans rfl; have ze8 : JI.cell? ⟨yR, 3, none⟩ = some (.slice none 0 0) := (zx zh.out 3).trans rfl; have ze9 : JI.cell? ⟨yR, 4, none⟩ = some (.slice none 0 0) := (zx zh.out 4).trans rfl; have zfz : JI.cell? ⟨yR, 5, none⟩ = some (.slice none 0 0) := (zx zh.out 5).trans rfl; have zfq := zw zh.out 0; have zfx := zw zh.out 1; have zfj := zw zh.out 2; have zfv := zw zh.out 3; have zfk := zw zh.out 4; have zfy := zw zh.out 5))
       refine bodyPost_ret (pV rfl _ _ yR 44 #[.string zR, .bool zS, .int .i64 zU, .slice J7 yH.length J8, .slice WI yP.length WL, .slice nD yN.length nE] (0, 0) _ rfl (by (with_reducible repeat (first | refine zY ?_ _ | refine zV ?_ | refine zQ ?_ _)); refine zi (cs := #[.string zR, .bool zS, .int .i64 zU, .slice J7 yH.length J8, .slice WI yP.length WL, .slice none 0 0]) ?_ 5 _ rfl; (with_reducible repeat (first | refine zY ?_ _ | refine zV ?_ | refine zQ ?_ _)); refine zi (cs := #[.string zR, .bool zS, .int .i64 zU, .slice J7 yH.length J8, .slice none 0 0, .slice none 0 0]) ?_ 4 _ rfl; (with_reducible repeat (first | refine zY ?_ _ | refine zV ?_ | refine zQ ?_ _)); refine zi (cs := #[.string zR, .bool zS, .int .i64 zU, .slice none 0 0, .slice none 0 0, .slice none 0 0]) ?_ 3 _ rfl; (with_reducible repeat (first | refine zY ?_ _ | refine zV ?_ | refine zQ ?_ _)); refine zi (cs := #[.string zR, .bool zS, .int .i64 yG, .slice none 0 0, .slice none 0 0, .slice none 0 0]) ?_ 2 _ rfl; (with_reducible repeat (first | refine zY ?_ _ | refine zV ?_ | refine zQ ?_ _)); refine zi (cs := #[.string zR, .bool qz, .int .i64 yG, .slice none 0 0, .slice none 0 0, .slice none 0 0]) ?_ 1 _ rfl; (with_reducible repeat (first | refine zY ?_ _ | refine zV ?_ | refine zQ ?_ _)); refine zi (cs := #[.string qm, .bool qz, .int .i64 yG, .slice none 0 0, .slice none 0 0, .slice none 0 0]) ?_ 0 _ rfl; (with_reducible repeat (first | refine zY ?_ _ | refine zV ?_ | refine zQ ?_ _)); exact zh.out) Tryz.underlying44 rfl (by kernel_rfl)) rfl ?_
       exact ⟨_, _, _, by first | rfl | (simp [yw, yZ] <;> rfl) | (simp [*, yw, yZ] <;> rfl), by (with_reducible repeat (first | apply Kd.yT | apply Kd.yU | apply Kd.yj)); exact Kd.yh (Kd.zW (p := ⟨yR, 5, none⟩) (Kd.zW (p := ⟨yR, 4, none⟩) (Kd.zW (p := ⟨yR, 3, none⟩) (Kd.zW (p := ⟨yR, 2, none⟩) (Kd.zW (p := ⟨yR, 1, none⟩) (Kd.zW (p := ⟨yR, 0, none⟩) (Kd.qg zA.out zh.out (by decide)) (fun _ hk => hk.2) (.string zR)) (fun _ hk => hk.2) (.bool zS)) (fun _ hk => hk.2) (.int .i64 zU)) (fun _ hk => hk.2) (.slice J7 yH.length J8)) (fun _ hk => hk.2) (.slice WI yP.length WL)) (fun _ hk => hk.2) (.slice nD yN.length nE)) (fun _ hk => trivial), by (with_reducible repeat (first | apply Kd.yT | apply Kd.yU | apply Kd.yj)); exact Kd.yh (Kd.zW (p := ⟨yR, 5, none⟩) (Kd.zW (p := ⟨yR, 4, none⟩) (Kd.zW (p := ⟨yR, 3, none⟩) (Kd.zW (p := ⟨yR, 2, none⟩) (Kd.zW (p := ⟨yR, 1, none⟩) (Kd.zW (p := ⟨yR, 0, none⟩) (Kd.qg zG.out zh.out (by decide)) (fun _ hk => hk.2) (.string zR)) (fun _ hk => hk.2) (.bool zS)) (fun _ hk => hk.2) (.int .i64 zU)) (fun _ hk => hk.2) (.slice J7 yH.length J8)) (fun _ hk => hk.2) (.slice WI yP.length WL)) (fun _ hk => hk.2) (.slice nD yN.length nE)) (fun _ hk => trivial), by (with_reducible repeat (first | apply Kd.yT | apply Kd.yU | apply Kd.yj)); exact Kd.yh (Kd.zW (p := ⟨yR, 5, none⟩) (Kd.zW (p := ⟨yR, 4, none⟩) (Kd.zW (p := ⟨yR, 3, none⟩) (Kd.zW (p := ⟨yR, 2, none⟩) (Kd.zW (p := ⟨yR, 1, none⟩) (Kd.zW (p := ⟨yR, 0, none⟩) (Kd.qg zB.out zh.out (by decide)) (fun _ hk => hk.2) (.string zR)) (fun _ hk => hk.2) (.bool zS)) (fun _ hk => hk.2) (.int .i64 zU)) (fun _ hk => hk.2) (.slice J7 yH.length J8)) (fun _ hk => hk.2) (.slice WI yP.length WL)) (fun _ hk => hk.2) (.slice nD yN.length nE)) (fun _ hk => trivial), by repeat (first | (with_reducible first | exact HB.out | apply yS | apply yx | apply yD | refine qh ?_ J5.out | refine qh ?_ J6.out) | exact HB.out)⟩
     ·rw [if_neg oK] at H
      have zYA : (nA.toList == a0.toList) = false := beq_eq_false_iff_ne.mpr oK
      have zYB : (nA.toList != a0.toList) = true := bne_iff_ne.mpr oK
      as_aux_lemma =>
       simp only [Option.some.injEq, Prod.mk.injEq] at H
       obtain ⟨rfl, rfl, rfl, rfl, rfl, rfl, rfl⟩ := H
       obtain ⟨zmb, zmc, zcx⟩ := Kd.yA qd.out
       subst zcx
       have zlx := jO.out
       have zlj := jw.out
       have zfw : wr.cell? ⟨yB, 0, none⟩ = some (.string zR) := (zx zJ.out 0).trans rfl
       have zfZ : wr.cell? ⟨yB, 1, none⟩ = some (.bool zS) := (zx zJ.out 1).trans rfl
       have zfQ : wr.cell? ⟨yB, 2, none⟩ = some (.int .i64 zU) := (zx zJ.out 2).trans rfl
       have zfX : wr.cell? ⟨yB, 3, none⟩ = some (qU) := (zx zJ.out 3).trans rfl
       have zfJ : wr.cell? ⟨yB, 4, none⟩ = some (xu) := (zx zJ.out 4).trans rfl
       have zfV : wr.cell? ⟨yB, 5, none⟩ = some (q9) := (zx zJ.out 5).trans rfl
       have zfK := zw zJ.out 0
       have zfY := zw zJ.out 1
       have zfW := zw zJ.out 2
       have zfa := zw zJ.out 3
       have zfb := zw zJ.out 4
       have zfc := zw zJ.out 5
       obtain ⟨zJk, zJy, zcj⟩ := Kd.yA zA.out
       subst zcj
       obtain ⟨zJw, zJZ, zcv⟩ := Kd.yA zG.out
       subst zcv
       obtain ⟨zJQ, zJX, zck⟩ := Kd.yA zB.out
       subst zck
       go_wp2_with (first | ((with_reducible refine y7 (f := 75) rfl ?_); refine jP (some 171) Tryz.func75 #[.agg #[.string zR, .bool zS, .int .i64 zU, .slice zJk yH.length zJy, .slice zJw yP.length zJZ, .slice zJQ yN.length zJX]] ?_; (with_reducible refine (uK.calls zR zS zU _ _ yH _ _ yP _ _ yN nA nC _ ?vR ?jK ?jY ?jW ?jc ?jd zQH.out).mono ?_); (case vR => repeat (first | exact (Kd.yc zA.out).2.2 | (with_reducible refine Kd.qx ?_ _) | (with_reducible refine Kd.qj ?_ _) | (with_reducible refine Kd.qo ?_))); (case jK => exact (Kd.yc zA.out).2.1); (case jY => repeat (first | exact (Kd.yc zG.out).2.2 | (with_reducible refine Kd.qx ?_ _) | (with_reducible refine Kd.qj ?_ _) | (with_reducible refine Kd.qo ?_))); (case jW => exact (Kd.yc zG.out).2.1); (case jc => repeat (first | exact (Kd.yc zB.out).2.2 | (with_reducible refine Kd.qx ?_ _) | (with_reducible refine Kd.qj ?_ _) | (with_reducible refine Kd.qo ?_))); (case jd => exact (Kd.yc zB.out).2.1); rintro e zqt ⟨rfl, hb⟩; refine ⟨_, rfl, ?_⟩; have zl := zk.mk (Kd.zf (yK qd.out) hb); have zC := zk.mk (Kd.zf (yK zA.out) hb); have zM := zk.mk (Kd.zf (yK zG.out) hb); have zT := zk.mk (Kd.zf (yK zB.out) hb); have yL := zk.mk (zo (g := yR) (o := .cells #[.string qm, .bool qz, .int .i64 yG, .slice none 0 0, .slice none 0 0, .slice none 0 0] 44 (0, 0)) (qV zh.out) hb); have y9 := zk.mk (zo (g := yB) (o := .cells #[.string zR, .bool zS, .int .i64 zU, .slice zJk yH.length zJy, .slice zJw yP.length zJZ, .slice zJQ yN.length zJX] 44 (0, 0)) (qV zJ.out) hb); have qw := zk.mk (yg (yQ HB.out) hb); clear qd; clear zA; clear zG; clear zB; clear zh; clear zJ; clear HB; have qd := zl; have zA := zC; have zG := zM; have zB := zT; have zh := yL; have zJ := y9; have HB := qw; clear zl zC zM zT yL y9 qw; (try clear hb); (try clear hb2); (try clear hk); (try clear hi); have zfd : zqt.cell? ⟨yR, 0, none⟩ = some (.string qm) := (zx zh.out 0).trans rfl; have zfe : zqt.cell? ⟨yR, 1, none⟩ = some (.bool qz) := (zx zh.out 1).trans rfl; have zff : zqt.cell? ⟨yR, 2, none⟩ = some (.int .i64 yG) := (zx zh.out 2).trans rfl; have zfg : zqt.cell? ⟨yR, 3, none⟩ = some (.slice none 0 0) := (zx zh.out 3).trans rfl; have zfh : zqt.cell? ⟨yR, 4, none⟩ = some (.slice none 0 0) := (zx zh.out 4).trans rfl; have zfi : zqt.cell? ⟨yR, 5, none⟩ = some (.slice none 0 0) := (zx zh.out 5).trans rfl; have zfl := zw zh.out 0; have zfm := zw zh.out 1; have zfn := zw zh.out 2; have zfo := zw zh.out 3; have zfp := zw zh.out 4; have zfr := zw zh.out 5))
       refine bodyPost_ret (pV rfl _ _ yR 44 #[.string (⟨#[]⟩ : BA), .bool false, .int .i64 0, .slice none 0 0, .slice none 0 0, .slice none 0 0] (0, 0) _ rfl (by (with_reducible repeat (first | refine zY ?_ _ | refine zV ?_ | refine zQ ?_ _)); refine zi (cs := #[.string (⟨#[]⟩ : BA), .bool false, .int .i64 0, .slice none 0 0, .slice none 0 0, .slice none 0 0]) ?_ 5 _ rfl; (with_reducible repeat (first | refine zY ?_ _ | refine zV ?_ | refine zQ ?_ _)); refine zi (cs := #[.string (⟨#[]⟩ : BA), .bool false, .int .i64 0, .slice none 0 0, .slice none 0 0, .slice none 0 0]) ?_ 4 _ rfl; (with_reducible repeat (first | refine zY ?_ _ | refine zV ?_ | refine zQ ?_ _)); refine zi (cs := #[.string (⟨#[]⟩ : BA), .bool false, .int .i64 0, .slice none 0 0, .slice none 0 0, .slice none 0 0]) ?_ 3 _ rfl; (with_reducible repeat (first | refine zY ?_ _ | refine zV ?_ | refine zQ ?_ _)); refine zi (cs := #[.string (⟨#[]⟩ : BA), .bool false, .int .i64 yG, .slice none 0 0, .slice none 0 0, .slice none 0 0]) ?_ 2 _ rfl; (with_reducible repeat (first | refine zY ?_ _ | refine zV ?_ | refine zQ ?_ _)); refine zi (cs := #[.string (⟨#[]⟩ : BA), .bool qz, .int .i64 yG, .slice none 0 0, .slice none 0 0, .slice none 0 0]) ?_ 1 _ rfl; (with_reducible repeat (first | refine zY ?_ _ | refine zV ?_ | refine zQ ?_ _)); refine zi (cs := #[.string qm, .bool qz, .int .i64 yG, .slice none 0 0, .slice none 0 0, .slice none 0 0]) ?_ 0 _ rfl; (with_reducible repeat (first | refine zY ?_ _ | refine zV ?_ | refine zQ ?_ _)); exact zh.out) Tryz.underlying44 rfl (by kernel_rfl)) rfl ?_
       exact ⟨_, _, _, by first | rfl | (simp [yw, yZ] <;> rfl) | (simp [*, yw, yZ] <;> rfl), by first | exact Kd.vD _ _ _ _ _ | exact Kd.jG _ _ _ _ _ | exact Kd.jH _ _ _ _ _ | exact Kd.jE _ _ _ _ _ | exact Kd.jF _ _ _ _ _, by first | exact Kd.vD _ _ _ _ _ | exact Kd.jG _ _ _ _ _ | exact Kd.jH _ _ _ _ _ | exact Kd.jE _ _ _ _ _ | exact Kd.jF _ _ _ _ _, by first | exact Kd.vD _ _ _ _ _ | exact Kd.jG _ _ _ _ _ | exact Kd.jH _ _ _ _ _ | exact Kd.jE _ _ _ _ _ | exact Kd.jF _ _ _ _ _, by repeat (first | (with_reducible first | exact HB.out | apply yS | apply yx | apply yD | refine qh ?_ J5.out | refine qh ?_ J6.out) | exact HB.out)⟩
    ·rw [if_neg oV] at H
     have zYt : (nC == 0) = false := beq_eq_false_iff_ne.mpr oV
     have zYu : (nC != 0) = true := bne_iff_ne.mpr oV
     as_aux_lemma =>
      simp only [Option.some.injEq, Prod.mk.injEq] at H
      obtain ⟨rfl, rfl, rfl, rfl, rfl, rfl, rfl⟩ := H
      obtain ⟨zmd, zme, zcy⟩ := Kd.yA qd.out
      subst zcy
      have zlv := jO.out
      have zlk := jw.out
      have zfs : wr.cell? ⟨yB, 0, none⟩ = some (.string zR) := (zx zJ.out 0).trans rfl
      have zft : wr.cell? ⟨yB, 1, none⟩ = some (.bool zS) := (zx zJ.out 1).trans rfl
      have zfu : wr.cell? ⟨yB, 2, none⟩ = some (.int .i64 zU) := (zx zJ.out 2).trans rfl
      have zfA : wr.cell? ⟨yB, 3, none⟩ = some (qU) := (zx zJ.out 3).trans rfl
      have zfB : wr.cell? ⟨yB, 4, none⟩ = some (xu) := (zx zJ.out 4).trans rfl
      have zfC : wr.cell? ⟨yB, 5, none⟩ = some (q9) := (zx zJ.out 5).trans rfl
      have zfD := zw zJ.out 0
      have zfE := zw zJ.out 1
      have zfF := zw zJ.out 2
      have zfG := zw zJ.out 3
      have zfH := zw zJ.out 4
      have zfI := zw zJ.out 5
      obtain ⟨zJJ, zJV, zcw⟩ := Kd.yA zA.out
      subst zcw
      obtain ⟨zJK, zJY, zcZ⟩ := Kd.yA zG.out
      subst zcZ
      obtain ⟨zJW, zJa, zcQ⟩ := Kd.yA zB.out
      subst zcQ
      go_wp2_with (first | ((with_reducible refine y7 (f := 75) rfl ?_); refine jP (some 171) Tryz.func75 #[.agg #[.string zR, .bool zS, .int .i64 zU, .slice zJJ yH.length zJV, .slice zJK yP.length zJY, .slice zJW yN.length zJa]] ?_; (with_reducible refine (uK.calls zR zS zU _ _ yH _ _ yP _ _ yN nA nC _ ?vR ?jK ?jY ?jW ?jc ?jd zQH.out).mono ?_); (case vR => repeat (first | exact (Kd.yc zA.out).2.2 | (with_reducible refine Kd.qx ?_ _) | (with_reducible refine Kd.qj ?_ _) | (with_reducible refine Kd.qo ?_))); (case jK => exact (Kd.yc zA.out).2.1); (case jY => repeat (first | exact (Kd.yc zG.out).2.2 | (with_reducible refine Kd.qx ?_ _) | (with_reducible refine Kd.qj ?_ _) | (with_reducible refine Kd.qo ?_))); (case jW => exact (Kd.yc zG.out).2.1); (case jc => repeat (first | exact (Kd.yc zB.out).2.2 | (with_reducible refine Kd.qx ?_ _) | (with_reducible refine Kd.qj ?_ _) | (with_reducible refine Kd.qo ?_))); (case jd => exact (Kd.yc zB.out).2.1); rintro e zqu ⟨rfl, hb⟩; refine ⟨_, rfl, ?_⟩; have zl := zk.mk (Kd.zf (yK qd.out) hb); have zC := zk.mk (Kd.zf (yK zA.out) hb); have zM := zk.mk (Kd.zf (yK zG.out) hb); have zT := zk.mk (Kd.zf (yK zB.out) hb); have yL := zk.mk (zo (g := yR) (o := .cells #[.string qm, .bool qz, .int .i64 yG, .slice none 0 0, .slice none 0 0, .slice none 0 0] 44 (0, 0)) (qV zh.out) hb); have y9 := zk.mk (zo (g := yB) (o := .cells #[.string zR, .bool zS, .int .i64 zU, .slice zJJ yH.length zJV, .slice zJK yP.length zJY, .slice zJW yN.length zJa] 44 (0, 0)) (qV zJ.out) hb); have qw := zk.mk (yg (yQ HB.out) hb); clear qd; clear zA; clear zG; clear zB; clear zh; clear zJ; clear HB; have qd := zl; have zA := zC; have zG := zM; have zB := zT; have zh := yL; have zJ := y9; have HB := qw; clear zl zC zM zT yL y9 qw; (try clear hb); (try clear hb2); (try clear hk); (try clear hi); have zfL : zqu.cell? ⟨yR, 0, none⟩ = some (.string qm) := (zx zh.out 0).trans rfl; have zfM : zqu.cell? ⟨yR, 1, none⟩ = some (.bool qz) := (zx zh.out 1).trans rfl; have zfN : zqu.cell? ⟨yR, 2, none⟩ = some (.int .i64 yG) := (zx zh.out 2).trans rfl; have zfO : zqu.cell? ⟨yR, 3, none⟩ = some (.slice none 0 0) := (zx zh.out 3).trans rfl; have zfP : zqu.cell? ⟨yR, 4, none⟩ = some (.slice none 0 0) := (zx zh.out 4).trans rfl; have zfR : zqu.cell? ⟨yR, 5, none⟩ = some (.slice none 0 0) := (zx zh.out 5).trans rfl; have zfS := zw zh.out 0; have zfT := zw zh.out 1; have zfU := zw zh.out 2; have zf0 := zw zh.out 3; have zf1 := zw zh.out 4; have zf2 := zw zh.out 5))
      refine bodyPost_ret (pV rfl _ _ yR 44 #[.string (⟨#[]⟩ : BA), .bool false, .int .i64 0, .slice none 0 0, .slice none 0 0, .slice none 0 0] (0, 0) _ rfl (by (with_reducible repeat (first | refine zY ?_ _ | refine zV ?_ | refine zQ ?_ _)); refine zi (cs := #[.string (⟨#[]⟩ : BA), .bool false, .int .i64 0, .slice none 0 0, .slice none 0 0, .slice none 0 0]) ?_ 5 _ rfl; (with_reducible repeat (first | refine zY ?_ _ | refine zV ?_ | refine zQ ?_ _)); refine zi (cs := #[.string (⟨#[]⟩ : BA), .bool false, .int .i64 0, .slice none 0 0, .slice none 0 0, .slice none 0 0]) ?_ 4 _ rfl; (with_reducible repeat (first | refine zY ?_ _ | refine zV ?_ | refine zQ ?_ _)); refine zi (cs := #[.string (⟨#[]⟩ : BA), .bool false, .int .i64 0, .slice none 0 0, .slice none 0 0, .slice none 0 0]) ?_ 3 _ rfl; (with_reducible repeat (first | refine zY ?_ _ | refine zV ?_ | refine zQ ?_ _)); refine zi (cs := #[.string (⟨#[]⟩ : BA), .bool false, .int .i64 yG, .slice none 0 0, .slice none 0 0, .slice none 0 0]) ?_ 2 _ rfl; (with_reducible repeat (first | refine zY ?_ _ | refine zV ?_ | refine zQ ?_ _)); refine zi (cs := #[.string (⟨#[]⟩ : BA), .bool qz, .int .i64 yG, .slice none 0 0, .slice none 0 0, .slice none 0 0]) ?_ 1 _ rfl; (with_reducible repeat (first | refine zY ?_ _ | refine zV ?_ | refine zQ ?_ _)); refine zi (cs := #[.string qm, .bool qz, .int .i64 yG, .slice none 0 0, .slice none 0 0, .slice none 0 0]) ?_ 0 _ rfl; (with_reducible repeat (first | refine zY ?_ _ | refine zV ?_ | refine zQ ?_ _)); exact zh.out) Tryz.underlying44 rfl (by kernel_rfl)) rfl ?_
      exact ⟨_, _, _, by first | rfl | (simp [yw, yZ] <;> rfl) | (simp [*, yw, yZ] <;> rfl), by first | exact Kd.vD _ _ _ _ _ | exact Kd.jG _ _ _ _ _ | exact Kd.jH _ _ _ _ _ | exact Kd.jE _ _ _ _ _ | exact Kd.jF _ _ _ _ _, by first | exact Kd.vD _ _ _ _ _ | exact Kd.jG _ _ _ _ _ | exact Kd.jH _ _ _ _ _ | exact Kd.jE _ _ _ _ _ | exact Kd.jF _ _ _ _ _, by first | exact Kd.vD _ _ _ _ _ | exact Kd.jG _ _ _ _ _ | exact Kd.jH _ _ _ _ _ | exact Kd.jE _ _ _ _ _ | exact Kd.jF _ _ _ _ _, by repeat (first | (with_reducible first | exact HB.out | apply yS | apply yx | apply yD | refine qh ?_ J5.out | refine qh ?_ J6.out) | exact HB.out)⟩
end Go.Proofs.YtaifemkokfoadaaGreatDoor.PX
namespace Go.Proofs.YtaifemkokfoadaaGreatDoor
open Go.RowKit Go.Proofs.zy.zK Go.Proofs.YtaifemkokfoadaaGreatDoor.PX
set_option linter.unusedSimpArgs false
set_option linter.unusedVariables false
structure X0 where
 a : ByteArray
 b : Bool
 c : Int
 l3 : List qA
 l4 : List qM
 l5 : List qH
abbrev JK : ByteArray × Bool × Int × List qA × List qM × List qH × Int := (⟨#[]⟩, false, 0, [], [], [], 4)
abbrev okT (g : X0) : ByteArray × Bool × Int × List qA × List qM × List qH × Int := (g.a, g.b, g.c, g.l3, g.l4, g.l5, 0)
abbrev PL (k : Nat) (s : ByteArray) (ls : List ByteArray) (i : Int) (g : X0) := zZ.l0 k s ls i g.a g.b g.c g.l3 g.l4 g.l5
abbrev W_ (ws : List ByteArray) (i : Int) : ByteArray := yM ByteArray.empty ws i
theorem wi {i : Nat} (h : i ≤ 1000000) : wrap64 ((i : Int) + 1) = ((i + 1 : Nat) : Int) := (XR (by omega) (by omega)).trans (by omega)
section
variable {s : ByteArray} {ls ws : List ByteArray} {i : Nat} {g : X0} {r : ByteArray × Bool × Int × List qA × List qM × List qH × Int}
theorem zjf : Ev (fun k => zZ.j1 k s ls (i : Int) ws false g.a g.b g.c g.l3 g.l4 g.l5) JK := Ev.step (fun k => by rw [zZ.j1]) (xA (by decide) (Ev.now _))
theorem zku (hi : i ≤ 1000000) (h1 : 1 < (ws.length : Int)) (H : Ev (fun k => PL k s ls ((i + 1 : Nat) : Int) { g with a := W_ ws 1, b := ((ws.length : Int) == 3) }) r) : Ev (fun k => zZ.j1 k s ls (i : Int) ws true g.a g.b g.c g.l3 g.l4 g.l5) r :=
 Ev.step (fun k => by rw [zZ.j1, wi hi]) (yJ rfl (yJ h1 H))
theorem zZy : Ev (fun k => zZ.j2 k s ls (i : Int) ws false g.a g.b g.c g.l3 g.l4 g.l5) JK := Ev.step (fun k => by rw [zZ.j2]) (xA (by decide) (Ev.now _))
theorem zV1 (hi : i ≤ 1000000) (h1 : 1 < (ws.length : Int)) (H : (uO (W_ ws 1).data.toList).2 = true → Ev (fun k => PL k s ls ((i + 1 : Nat) : Int) { g with c := (uO (W_ ws 1).data.toList).1 }) r) (E : (uO (W_ ws 1).data.toList).2 = false → r = JK) : Ev (fun k => zZ.j2 k s ls (i : Int) ws true g.a g.b g.c g.l3 g.l4 g.l5) r := by
 refine Ev.step (fun k => by rw [zZ.j2, wi hi]) (yJ rfl (yJ h1 (Ev.bind (su _) ?_)))
 by_cases h : (uO (W_ ws 1).data.toList).2 = true
 ·exact yJ h (H h)
 ·rw [E (by simpa using h)]; exact xA h (Ev.now _)
theorem zZw : Ev (fun k => zZ.j5 k s ls (i : Int) ws false g.a g.b g.c g.l3 g.l4 g.l5) JK := Ev.step (fun k => by rw [zZ.j5]) (xA (by decide) (Ev.now _))
theorem zV2 (hi : i ≤ 1000000) (h1 : (ws.length : Int) = 4) (hl : g.l5.length ≤ 1000000) (H : (uO (W_ ws 3).data.toList).2 = true → Ev (fun k => PL k s ls ((i + 1 : Nat) : Int) { g with l5 := g.l5 ++ [⟨W_ ws 1, W_ ws 2, (uO (W_ ws 3).data.toList).1⟩] }) r) (E : (uO (W_ ws 3).data.toList).2 = false → r = JK) : Ev (fun k => zZ.j5 k s ls (i : Int) ws true g.a g.b g.c g.l3 g.l4 g.l5) r := by
 refine Ev.step (fun k => by rw [zZ.j5, wi hi]) (yJ rfl (yJ (by omega) (Ev.bind (su _) ?_)))
 refine yJ (by omega) ?_
 refine yJ (by omega) ?_
 refine yJ (by omega) ?_
 by_cases h : (uO (W_ ws 3).data.toList).2 = true
 ·exact yJ h (H h)
 ·rw [E (by simpa using h)]; exact xA h (Ev.now _)
theorem zV3 (hi : i ≤ 1000000) (h1 : (ws.length : Int) = 4) (hl : g.l4.length ≤ 1000000) (H : Ev (fun k => PL k s ls ((i + 1 : Nat) : Int) { g with l4 := g.l4 ++ [⟨W_ ws 1, W_ ws 2, W_ ws 3⟩] }) r) : Ev (fun k => zZ.j4 k s ls (i : Int) ws true true g.a g.b g.c g.l3 g.l4 g.l5) r :=
 Ev.step (fun k => by rw [zZ.j4, wi hi]) (yJ rfl (yJ (by omega) (yJ (by omega) (yJ (by omega) (yJ (by omega) (yJ rfl H))))))
theorem zYC (h0 : 0 < (ws.length : Int)) (H : (W_ ws 0).toList = [107] → Ev (fun k => zZ.j5 k s ls (i : Int) ws ((ws.length : Int) == 4) g.a g.b g.c g.l3 g.l4 g.l5) r) (E : ¬ (W_ ws 0).toList = [107] → r = JK) : Ev (fun k => zZ.j4 k s ls (i : Int) ws true false g.a g.b g.c g.l3 g.l4 g.l5) r := by
 refine Ev.step (fun k => by rw [zZ.j4]) (xA (by decide) (yJ h0 ?_))
 by_cases h : (W_ ws 0).toList = [107]
 ·exact yJ h (H h)
 ·rw [E h]; exact xA h zZw
theorem zV4 (hi : i ≤ 1000000) (h1 : (ws.length : Int) = 3) (hl : g.l3.length ≤ 1000000) (H : (uO (W_ ws 2).data.toList).2 = true → Ev (fun k => PL k s ls ((i + 1 : Nat) : Int) { g with l3 := g.l3 ++ [⟨W_ ws 1, (uO (W_ ws 2).data.toList).1⟩] }) r) (E : (uO (W_ ws 2).data.toList).2 = false → r = JK) : Ev (fun k => zZ.j3 k s ls (i : Int) ws true true g.a g.b g.c g.l3 g.l4 g.l5) r := by
 refine Ev.step (fun k => by rw [zZ.j3, wi hi]) (yJ rfl (yJ (by omega) (Ev.bind (su _) ?_)))
 refine yJ (by omega) ?_
 refine yJ (by omega) ?_
 by_cases h : (uO (W_ ws 2).data.toList).2 = true
 ·exact yJ h (H h)
 ·rw [E (by simpa using h)]; exact xA h (Ev.now _)
theorem zYD (h0 : 0 < (ws.length : Int)) (H : (W_ ws 0).toList = [108] → Ev (fun k => zZ.j4 k s ls (i : Int) ws true ((ws.length : Int) == 4) g.a g.b g.c g.l3 g.l4 g.l5) r) (E : ¬ (W_ ws 0).toList = [108] → Ev (fun k => zZ.j4 k s ls (i : Int) ws true false g.a g.b g.c g.l3 g.l4 g.l5) r) : Ev (fun k => zZ.j3 k s ls (i : Int) ws true false g.a g.b g.c g.l3 g.l4 g.l5) r := by
 refine Ev.step (fun k => by rw [zZ.j3]) (xA (by decide) (yJ h0 ?_))
 by_cases h : (W_ ws 0).toList = [108]
 ·exact yJ h (H h)
 ·exact xA h (E h)
end
def Qh (i : Nat) (g : X0) (ws : List ByteArray) : Option X0 :=
 if i = 0 then
  if (W_ ws 0).toList = [102, 111, 110, 116] ∧ (ws.length = 2 ∨ ws.length = 3 ∧ (W_ ws 2).toList = [115, 112, 101, 99, 105, 97, 108]) then some { g with a := W_ ws 1, b := ((ws.length : Int) == 3) } else none
 else if i = 1 then
  if (W_ ws 0).toList = [115, 112, 97, 99, 101] ∧ ws.length = 2 ∧ (uO (W_ ws 1).data.toList).2 = true then some { g with c := (uO (W_ ws 1).data.toList).1 } else none
 else if (W_ ws 0).toList = [103] ∧ ws.length = 3 then
  if (uO (W_ ws 2).data.toList).2 = true then some { g with l3 := g.l3 ++ [⟨W_ ws 1, (uO (W_ ws 2).data.toList).1⟩] } else none
 else if (W_ ws 0).toList = [108] ∧ ws.length = 4 then some { g with l4 := g.l4 ++ [⟨W_ ws 1, W_ ws 2, W_ ws 3⟩] }
 else if (W_ ws 0).toList = [107] ∧ ws.length = 4 then
  if (uO (W_ ws 3).data.toList).2 = true then some { g with l5 := g.l5 ++ [⟨W_ ws 1, W_ ws 2, (uO (W_ ws 3).data.toList).1⟩] } else none
 else none
theorem zqA {s : ByteArray} {ls : List ByteArray} {i : Nat} {g : X0} {r : ByteArray × Bool × Int × List qA × List qM × List qH × Int} {x : ByteArray} (hx : W_ ls (i : Int) = x) (hi : i + 1 < ls.length) (hl : ls.length ≤ 1000000) (hz : x.size ≤ 1000000) (h3 : g.l3.length ≤ 1000000) (h4 : g.l4.length ≤ 1000000) (h5 : g.l5.length ≤ 1000000)
  (H : ∀ g', Qh i g ((uE 32 x.data.toList).map bar) = some g' → Ev (fun k => PL k s ls ((i + 1 : Nat) : Int) g') r) (E : Qh i g ((uE 32 x.data.toList).map bar) = none → r = JK) : Ev (fun k => PL k s ls (i : Int) g) r := by
 have hne : 0 < ((uE 32 x.data.toList).map bar).length := by
  rw [List.length_map]; exact List.length_pos_iff.2 (eU _ _)
 have hc := zqa x 32 hz
 generalize (uE 32 x.data.toList).map bar = ws at H E hne hc
 have h0 : 0 < (ws.length : Int) := by omega
 have hi6 : i ≤ 1000000 := by omega
 show Ev (fun k => zZ.l0 k s ls (i : Int) g.a g.b g.c g.l3 g.l4 g.l5) r
 refine Ev.step (fun k => by rw [zZ.l0, wi hi6]) ?_
 refine yJ (by omega) ?_
 refine yJ (by omega) ?_
 refine yJ (by omega) ?_
 have hxx : yM ByteArray.empty ls (i : Int) = x := hx
 rw [hxx]
 refine Ev.bind hc ?_
 unfold Qh at H E
 by_cases i0 : i = 0
 ·rw [if_pos i0] at H E
  refine yJ (by omega) (yJ h0 ?_)
  by_cases q : (W_ ws 0).toList = [102, 111, 110, 116]
  ·refine yJ q ?_
   by_cases n2 : ws.length = 2
   ·refine yJ (by omega) (zku hi6 (by omega) (H _ (if_pos ⟨q, .inl n2⟩)))
   ·refine xA (by omega) ?_
    by_cases n3 : ws.length = 3
    ·refine yJ (by omega) (yJ (by omega) ?_)
     by_cases q2 : (W_ ws 2).toList = [115, 112, 101, 99, 105, 97, 108]
     ·have e : ((yM ByteArray.empty ws 2).toList == [115, 112, 101, 99, 105, 97, 108]) = true := beq_iff_eq.2 q2
      rw [e]
      exact zku hi6 (by omega) (H _ (if_pos ⟨q, .inr ⟨n3, q2⟩⟩))
     ·have e : ((yM ByteArray.empty ws 2).toList == [115, 112, 101, 99, 105, 97, 108]) = false := beq_eq_false_iff_ne.2 q2
      rw [e, E (if_neg (fun h => by rcases h.2 with h | h; exact n2 h; exact q2 h.2))]
      exact zjf
    ·rw [E (if_neg (fun h => by rcases h.2 with h | h; exact n2 h; exact n3 h.1))]
     exact xA (by omega) zjf
  ·rw [E (if_neg (fun h => q h.1))]
   exact xA q zjf
 ·rw [if_neg i0] at H E
  refine xA (by omega) ?_
  by_cases i1 : i = 1
  ·rw [if_pos i1] at H E
   refine yJ (by omega) (yJ h0 ?_)
   by_cases q : (W_ ws 0).toList = [115, 112, 97, 99, 101]
   ·refine yJ q ?_
    by_cases n2 : ws.length = 2
    ·have e : ((ws.length : Int) == 2) = true := beq_iff_eq.2 (by omega)
     rw [e]
     exact zV1 hi6 (by omega) (fun h => H _ (if_pos ⟨q, n2, h⟩)) (fun h => E (if_neg (fun hh => by rw [h] at hh; exact absurd hh.2.2 (by decide))))
    ·have e : ((ws.length : Int) == 2) = false := beq_eq_false_iff_ne.2 (by omega)
     rw [e, E (if_neg (fun h => n2 h.2.1))]
     exact zZy
   ·rw [E (if_neg (fun h => q h.1))]
    exact xA q zZy
  ·rw [if_neg i1] at H E
   refine xA (by omega) (yJ h0 ?_)
   have rest : ¬ ((W_ ws 0).toList = [103] ∧ ws.length = 3) → Ev (fun k => zZ.j3 k s ls (i : Int) ws true false g.a g.b g.c g.l3 g.l4 g.l5) r := fun ng => by
    rw [if_neg ng] at H E
    have zYE : ¬ ((W_ ws 0).toList = [108] ∧ ws.length = 4) → Ev (fun k => zZ.j4 k s ls (i : Int) ws true false g.a g.b g.c g.l3 g.l4 g.l5) r := fun nl => by
     rw [if_neg nl] at H E
     refine zYC h0 (fun qk => ?_) (fun qk => E (if_neg (fun h => qk h.1)))
     by_cases n4 : ws.length = 4
     ·have e : ((ws.length : Int) == 4) = true := beq_iff_eq.2 (by omega)
      rw [e]
      rw [if_pos ⟨qk, n4⟩] at H E
      exact zV2 hi6 (by omega) h5 (fun h => H _ (if_pos h)) (fun h => E (if_neg (by rw [h]; decide)))
     ·have e : ((ws.length : Int) == 4) = false := beq_eq_false_iff_ne.2 (by omega)
      rw [e, E (if_neg (fun h => n4 h.2))]
      exact zZw
    refine zYD h0 (fun ql => ?_) (fun ql => zYE (fun h => ql h.1))
    by_cases n4 : ws.length = 4
    ·have e : ((ws.length : Int) == 4) = true := beq_iff_eq.2 (by omega)
     rw [e]
     exact zV3 hi6 (by omega) h4 (H _ (if_pos ⟨ql, n4⟩))
    ·have e : ((ws.length : Int) == 4) = false := beq_eq_false_iff_ne.2 (by omega)
     rw [e]
     exact zYE (fun h => n4 h.2)
   by_cases q : (W_ ws 0).toList = [103]
   ·refine yJ q ?_
    by_cases n3 : ws.length = 3
    ·have e : ((ws.length : Int) == 3) = true := beq_iff_eq.2 (by omega)
     rw [e]
     rw [if_pos ⟨q, n3⟩] at H E
     exact zV4 hi6 (by omega) h3 (fun h => H _ (if_pos h)) (fun h => E (if_neg (by rw [h]; decide)))
    ·have e : ((ws.length : Int) == 3) = false := beq_eq_false_iff_ne.2 (by omega)
     rw [e]
     exact rest (fun h => n3 h.2)
   ·exact xA q (rest (fun h => q h.1))
def toP (g : X0) : vI := ⟨g.a, g.b, g.c, g.l3.map zYY, g.l4.map zYW, g.l5.map zYa⟩
def toR (f : vI) : X0 := ⟨f.a, f.b, f.c, f.l3.map p9, f.l4.map YP, f.l5.map YR⟩
theorem zcX (l : List qA) : (l.map zYY).map p9 = l := by rw [List.map_map]; exact (List.map_congr_left (fun x _ => rfl)).trans (List.map_id l)
theorem zcJ (l : List qM) : (l.map zYW).map YP = l := by rw [List.map_map]; exact (List.map_congr_left (fun x _ => rfl)).trans (List.map_id l)
theorem zcV (l : List qH) : (l.map zYa).map YR = l := by rw [List.map_map]; exact (List.map_congr_left (fun x _ => rfl)).trans (List.map_id l)
theorem zkA (g : X0) : toR (toP g) = g := by
 unfold toR toP
 simp only [zcX, zcJ, zcV]
def WX (g : X0) : Bool := Zc g.a g.c g.l3 g.l4 g.l5
def JL (g : X0) : List UInt8 := Yo g.a g.b g.c g.l3 g.l4 g.l5
def zy9 (f : vI) : Bool := jy f.a f.c f.l3 f.l4 f.l5
def zwz (f : vI) : List UInt8 := wL f.a f.b f.c f.l3 f.l4 f.l5
theorem zkB (f : vI) : WX (toR f) = zy9 f := zys f.a f.c f.l3 f.l4 f.l5
theorem zkC (f : vI) : JL (toR f) = zwz f := zyC f.a f.b f.c f.l3 f.l4 f.l5
theorem zkD (g : X0) : zy9 (toP g) = WX g := by rw [← zkB, zkA]
theorem zkE (g : X0) : zwz (toP g) = JL g := by rw [← zkC, zkA]
theorem zQI {g : X0} (h : WX g = true) : (JL g).length ≤ 1000000000 := by
 rw [← zkE]
 rw [← zkD] at h
 exact zqU h
theorem zjg {s : ByteArray} {ls : List ByteArray} {i : Nat} {g : X0} (hi : ¬ i + 1 < ls.length) (hi6 : i ≤ 1000000) (ha : g.a.size ≤ 1000000) (h3 : g.l3.length ≤ 1000000) (h4 : g.l4.length ≤ 1000000) (h5 : g.l5.length ≤ 1000000) (hz : ∀ x ∈ g.l3, x.f0.size ≤ 1000000) :
  Ev (fun k => PL k s ls (i : Int) g) (if WX g = true ∧ JL g = s.data.toList then okT g else JK) := by
 suffices main : ∀ r, (WX g = true ∧ JL g = s.data.toList → r = okT g) → (¬ (WX g = true ∧ JL g = s.data.toList) → r = JK) → Ev (fun k => PL k s ls (i : Int) g) r from main _ (fun h => if_pos h) (fun h => if_neg h)
 intro r ry rn
 show Ev (fun k => zZ.l0 k s ls (i : Int) g.a g.b g.c g.l3 g.l4 g.l5) _
 refine Ev.step (fun k => by rw [zZ.l0, wi hi6]) ?_
 refine xA (by omega) ?_
 have hcond : g.l3.length ≤ 1000000000 ∧ g.l4.length ≤ 1000000000 ∧ g.l5.length ≤ 1000000000 ∧ g.a.size ≤ 140737488355328 ∧ (g.l3.all fun x => decide (x.f0.size ≤ 140737488355328)) = true ∧ (Zc g.a g.c g.l3 g.l4 g.l5 = true → (Yo g.a g.b g.c g.l3 g.l4 g.l5).length ≤ 1000000000) :=
  ⟨by omega, by omega, by omega, by omega, List.all_eq_true.2 (fun x hx => decide_eq_true (Nat.le_trans (hz x hx) (by decide))), fun hv => zQI (g := g) hv⟩
 by_cases hv : WX g = true
 ·have hw : uK.f g.a g.b g.c g.l3 g.l4 g.l5 = some (bar (JL g), 0) := by
   unfold uK.f
   rw [if_pos hcond]
   unfold WX at hv
   rw [if_pos hv]; rfl
  refine oU hw (yJ rfl ?_)
  by_cases ht : JL g = s.data.toList
  ·rw [ry ⟨hv, ht⟩]
   refine yJ ?_ (Ev.now _)
   show (bar (JL g)).toList = s.toList
   rw [ht, ByteArray.toList_eq, ByteArray.toList_eq, wm]
  ·rw [rn (fun h => ht h.2)]
   refine xA ?_ (Ev.now _)
   show ¬ (bar (JL g)).toList = s.toList
   rw [ByteArray.toList_eq, ByteArray.toList_eq, wm]; exact ht
 ·have hw : uK.f g.a g.b g.c g.l3 g.l4 g.l5 = some ((⟨#[]⟩ : ByteArray), 1) := by
   unfold uK.f
   rw [if_pos hcond]
   unfold WX at hv
   rw [if_neg hv]
  rw [rn (fun h => hv h.1)]
  exact oU hw (xA (by decide) (Ev.now _))
def SzR (i : Nat) (g : X0) : Prop := g.a.size ≤ 1000000 ∧ g.l3.length ≤ i ∧ g.l4.length ≤ i ∧ g.l5.length ≤ i ∧ ∀ x ∈ g.l3, x.f0.size ≤ 1000000
theorem zZZ {ws : List ByteArray} {n : Nat} (h : ∀ x ∈ ws, x.size ≤ n) (j : Nat) : (W_ ws (j : Int)).size ≤ n := by
 show (yM ByteArray.empty ws (j : Int)).size ≤ n
 rw [iU, List.getD_eq_getElem?_getD]
 cases hx : ws[j]? with
 | none => exact Nat.zero_le _
 | some x => exact h x (List.mem_of_getElem? hx)
theorem zQL {i : Nat} {g g' : X0} {ws : List ByteArray} (h : Qh i g ws = some g') (hz : ∀ x ∈ ws, x.size ≤ 1000000) (hs : SzR i g) : SzR (i + 1) g' := by
 obtain ⟨s1, s2, s3, s4, s5⟩ := hs
 have hw := zZZ hz 1
 unfold Qh at h
 repeat' split at h
 all_goals first | (cases h; done) | skip
 all_goals
  cases h
  refine ⟨?_, ?_, ?_, ?_, ?_⟩
 all_goals first
  | exact s1
  | exact hw
  | exact s5
  | (simp only [List.length_append, List.length_singleton]; omega)
  | omega
  | (intro x hx; rcases List.mem_append.1 hx with q | q; exact s5 x q; rw [List.mem_singleton.1 q]; exact hw)
theorem zV5 (s : ByteArray) (ls : List ByteArray) (hl : ls.length ≤ 1000000) (hz : ∀ x ∈ ls, x.size ≤ 1000000) : ∀ (d i : Nat) (g : X0), ls.length - i = d → i ≤ 1000000 → SzR i g →
  ∃ r, Ev (fun k => PL k s ls (i : Int) g) r ∧ (r = JK ∨ ∃ g', r = okT g' ∧ WX g' = true ∧ JL g' = s.data.toList) := by
 intro d
 induction d with
 | zero =>
  intro i g hd hi hs
  obtain ⟨s1, s2, s3, s4, s5⟩ := hs
  refine ⟨_, zjg (by omega) hi s1 (by omega) (by omega) (by omega) s5, ?_⟩
  split
  ·rename_i h; exact .inr ⟨g, rfl, h⟩
  ·exact .inl rfl
 | succ d ih =>
  intro i g hd hi hs
  by_cases h1 : i + 1 < ls.length
  ·have hx : (W_ ls (i : Int)).size ≤ 1000000 := zZZ hz i
   have hws : ∀ x ∈ (uE 32 (W_ ls (i : Int)).data.toList).map bar, x.size ≤ 1000000 := fun x hx2 => by
    obtain ⟨p, hp, rfl⟩ := List.mem_map.1 hx2
    have h2 := zjv 32 (W_ ls (i : Int)).data.toList p (by rw [Vn]; exact hp)
    rw [uq]
    have e : (W_ ls (i : Int)).data.toList.length = (W_ ls (i : Int)).size := Array.length_toList
    omega
   obtain ⟨s1, s2, s3, s4, s5⟩ := hs
   cases hr : Qh i g ((uE 32 (W_ ls (i : Int)).data.toList).map bar) with
   | none => exact ⟨JK, zqA rfl h1 hl hx (by omega) (by omega) (by omega) (fun g' h => by rw [hr] at h; cases h) (fun _ => rfl), .inl rfl⟩
   | some g' =>
    obtain ⟨r, h, hp⟩ := ih (i + 1) g' (by omega) (by omega) (zQL hr hws ⟨s1, s2, s3, s4, s5⟩)
    exact ⟨r, zqA rfl h1 hl hx (by omega) (by omega) (by omega) (fun g2 h2 => by rw [hr] at h2; cases h2; exact h) (fun h => by rw [hr] at h; cases h), hp⟩
  ·obtain ⟨s1, s2, s3, s4, s5⟩ := hs
   refine ⟨_, zjg h1 hi s1 (by omega) (by omega) (by omega) s5, ?_⟩
   split
   ·rename_i h; exact .inr ⟨g, rfl, h⟩
   ·exact .inl rfl
theorem zQM (s : ByteArray) (hs : s.size ≤ 100000) : ∃ r, Ev (fun k => zZ.f k s) r ∧ (r = JK ∨ ∃ g', r = okT g' ∧ WX g' = true ∧ JL g' = s.data.toList) := by
 have e : s.data.toList.length = s.size := Array.length_toList
 have hl : ((uE 10 s.data.toList).map bar).length ≤ 1000000 := by
  have := zjj 10 s.data.toList
  rw [Vn] at this
  rw [List.length_map]; omega
 have hz : ∀ x ∈ (uE 10 s.data.toList).map bar, x.size ≤ 1000000 := fun x hx => by
  obtain ⟨p, hp, rfl⟩ := List.mem_map.1 hx
  have := zjv 10 s.data.toList p (by rw [Vn]; exact hp)
  rw [uq]; omega
 obtain ⟨r, h, hp⟩ := zV5 s _ hl hz _ 0 ⟨⟨#[]⟩, false, 0, [], [], []⟩ rfl (by omega) ⟨by decide, Nat.le_refl _, Nat.le_refl _, Nat.le_refl _, fun x hx => by cases hx⟩
 exact ⟨r, Ev.bind (zqa s 10 (by omega)) h, hp⟩
def zZQ (n : Int) : Bool := (uO (Lib.itoa n)).1 == n && (uO (Lib.itoa n)).2
set_option maxRecDepth 100000 in
theorem zQN : zXI.all zZQ = true := by kernel_rfl
theorem WJ (n : Int) (h0 : -500 ≤ n) (h1 : n ≤ 3000) : uO (Lib.itoa n) = (n, true) := by
 have h := List.all_eq_true.1 zQN n (List.mem_map.2 ⟨(n + 500).toNat, List.mem_range.2 (by omega), by omega⟩)
 unfold zZQ at h
 rw [Bool.and_eq_true] at h
 exact Prod.ext (by simpa using h.1) h.2
theorem WM {α : Type} (f g : α → List UInt8) (r : List UInt8) : ∀ l : List α, (∀ x ∈ l, f x = g x ++ [10] ∧ ∀ y ∈ g x, y ≠ 10) → uE 10 ((l.map f).flatten ++ r) = l.map g ++ uE 10 r
 | [], _ => rfl
 | x :: l, h => by
  obtain ⟨h1, h2⟩ := h x (List.mem_cons_self ..)
  rw [List.map_cons, List.flatten_cons, List.append_assoc, h1, List.append_assoc, List.singleton_append, YL _ _ _ h2, WM f g r l (fun y hy => h y (List.mem_cons_of_mem _ hy))]; rfl
theorem zQO (f : vI) (h : zzc f) : uE 10 (WB f) = YX f.a f.b :: XU f.c :: (f.l3.map Z8 ++ (f.l4.map YC ++ (f.l5.map YD ++ [[]]))) := by
 unfold WB
 rw [List.append_assoc, List.singleton_append, YL _ _ _ (zXL _ _ h.na), List.append_assoc, List.singleton_append, YL _ _ _ (zXM _ h.nc.1 h.nc.2)]
 rw [WM _ Z8 _ _ (fun x hx => ⟨rfl, zXN x (h.g x hx).1 (h.g x hx).2.1 (h.g x hx).2.2⟩)]
 rw [WM _ YC _ _ (fun x hx => ⟨rfl, zXO x (h.l x hx).1 (h.l x hx).2.1 (h.l x hx).2.2⟩)]
 have := WM (fun x : xS => YD x ++ [10]) YD [] f.l5 (fun x hx => ⟨rfl, zXP x (h.k x hx).1 (h.k x hx).2.1 (h.k x hx).2.2.1 (h.k x hx).2.2.2⟩)
 rw [List.append_nil] at this
 rw [this]; rfl
theorem zcK {ls P Q : List ByteArray} {x : ByteArray} (h : ls = P ++ x :: Q) : W_ ls (P.length : Int) = x := by
 show yM ByteArray.empty ls (P.length : Int) = x
 rw [iU, h, List.getD_eq_getElem?_getD]; simp
section
variable {s : ByteArray} {ls P Q : List ByteArray} {g g' : X0} {r : ByteArray × Bool × Int × List qA × List qM × List qH × Int}
theorem zzs {t : List UInt8} (hls : ls = P ++ bar t :: Q) (hQ : Q ≠ []) (hl : ls.length ≤ 1000000) (ht : t.length ≤ 1000000) (h3 : g.l3.length ≤ 1000000) (h4 : g.l4.length ≤ 1000000) (h5 : g.l5.length ≤ 1000000) (hr : Qh P.length g ((uE 32 t).map bar) = some g') (H : Ev (fun k => PL k s ls ((P.length + 1 : Nat) : Int) g') r) : Ev (fun k => PL k s ls (P.length : Int) g) r :=
 zqA (zcK hls) (by have := List.length_pos_iff.2 hQ; rw [hls]; simp; omega) hl (by rw [uq]; exact ht) h3 h4 h5 (fun g2 h2 => by rw [wm, hr] at h2; cases h2; exact H) (fun h => by rw [wm, hr] at h; cases h)
end
theorem iN (l : List UInt8) : (bar l).toList = l := Xe l
theorem zYF (s : ByteArray) (ls : List ByteArray) (hl : ls.length ≤ 1000000) (r : ByteArray × Bool × Int × List qA × List qM × List qH × Int) : ∀ (l : List qB) (P Q : List ByteArray) (g : X0), ls = P ++ ((l.map fun x => bar (Z8 x)) ++ Q) → Q ≠ [] → 2 ≤ P.length → (g.l3.length + l.length ≤ 1000 ∧ g.l4.length ≤ 1000 ∧ g.l5.length ≤ 1000) → (∀ x ∈ l, PlainT x.f0.data.toList ∧ 0 ≤ x.f1 ∧ x.f1 ≤ 3000 ∧ x.f0.size ≤ 1000) →
  Ev (fun k => PL k s ls ((P.length + l.length : Nat) : Int) { g with l3 := g.l3 ++ l.map p9 }) r → Ev (fun k => PL k s ls (P.length : Int) g) r
 | [], P, Q, g, _, _, _, _, _, H => by simpa using H
 | x :: l, P, Q, g, hls, hQ, hP, ⟨q3, q4, q5⟩, hx, H => by
  obtain ⟨p, n0, n1, sz⟩ := hx x (List.mem_cons_self ..)
  rw [List.length_cons] at q3
  have ih := zYF s ls hl r l (P ++ [bar (Z8 x)]) Q { g with l3 := g.l3 ++ [p9 x] } (by rw [hls]; simp) hQ (by simp; omega) ⟨by simp; omega, q4, q5⟩ (fun y hy => hx y (List.mem_cons_of_mem _ hy)) (by
   have e : (P ++ [bar (Z8 x)]).length + l.length = P.length + (x :: l).length := by simp; omega
   rw [e]
   simpa using H)
  have hcut : (uE 32 (Z8 x)).map bar = [bar [103], x.f0, bar (Lib.itoa x.f1)] := by
   unfold Z8; rw [zjk _ _ _ (gX 103 (by decide)) p (Z9 _ (by omega) n1)]
   simp [XJ]
  have hlen : (Z8 x).length ≤ 1000000 := by
   have h6 := (gQ x.f1 (by omega) n1).1
   have e : x.f0.data.toList.length = x.f0.size := Array.length_toList
   unfold Z8; simp; omega
  refine zzs (g' := { g with l3 := g.l3 ++ [p9 x] }) (by rw [hls]; rfl) (Q := (l.map fun x => bar (Z8 x)) ++ Q) (fun e => hQ (List.append_eq_nil_iff.1 e).2) hl hlen (by omega) (by omega) (by omega) ?_ ?_
  ·rw [hcut]
   unfold Qh
   rw [if_neg (by omega), if_neg (by omega), if_pos ⟨iN _, rfl⟩]
   have hw : uO (W_ [bar [103], x.f0, bar (Lib.itoa x.f1)] 2).data.toList = (x.f1, true) := WJ x.f1 (by omega) n1
   rw [hw, if_pos rfl]; rfl
  ·have e : (P ++ [bar (Z8 x)]).length = P.length + 1 := by simp
   rw [e] at ih; exact ih
theorem zYG (s : ByteArray) (ls : List ByteArray) (hl : ls.length ≤ 1000000) (r : ByteArray × Bool × Int × List qA × List qM × List qH × Int) : ∀ (l : List xC) (P Q : List ByteArray) (g : X0), ls = P ++ ((l.map fun x => bar (YC x)) ++ Q) → Q ≠ [] → 2 ≤ P.length → (g.l3.length ≤ 1000 ∧ g.l4.length + l.length ≤ 1000 ∧ g.l5.length ≤ 1000) → (∀ x ∈ l, (PlainT x.f0.data.toList ∧ PlainT x.f1.data.toList ∧ PlainT x.f2.data.toList) ∧ x.f0.size ≤ 1000 ∧ x.f1.size ≤ 1000 ∧ x.f2.size ≤ 1000) →
  Ev (fun k => PL k s ls ((P.length + l.length : Nat) : Int) { g with l4 := g.l4 ++ l.map YP }) r → Ev (fun k => PL k s ls (P.length : Int) g) r
 | [], P, Q, g, _, _, _, _, _, H => by simpa using H
 | x :: l, P, Q, g, hls, hQ, hP, ⟨q3, q4, q5⟩, hx, H => by
  obtain ⟨⟨p0, p1, p2⟩, s0, s1, s2⟩ := hx x (List.mem_cons_self ..)
  rw [List.length_cons] at q4
  have ih := zYG s ls hl r l (P ++ [bar (YC x)]) Q { g with l4 := g.l4 ++ [YP x] } (by rw [hls]; simp) hQ (by simp; omega) ⟨q3, by simp; omega, q5⟩ (fun y hy => hx y (List.mem_cons_of_mem _ hy)) (by
   have e : (P ++ [bar (YC x)]).length + l.length = P.length + (x :: l).length := by simp; omega
   rw [e]
   simpa using H)
  have hcut : (uE 32 (YC x)).map bar = [bar [108], x.f0, x.f1, x.f2] := by
   unfold YC; rw [zym _ _ _ _ (gX 108 (by decide)) p0 p1 p2]
   simp [XJ]
  have hlen : (YC x).length ≤ 1000000 := by
   have e0 : x.f0.data.toList.length = x.f0.size := Array.length_toList
   have e1 : x.f1.data.toList.length = x.f1.size := Array.length_toList
   have e2 : x.f2.data.toList.length = x.f2.size := Array.length_toList
   unfold YC; simp; omega
  refine zzs (g' := { g with l4 := g.l4 ++ [YP x] }) (by rw [hls]; rfl) (Q := (l.map fun x => bar (YC x)) ++ Q) (fun e => hQ (List.append_eq_nil_iff.1 e).2) hl hlen (by omega) (by omega) (by omega) ?_ ?_
  ·rw [hcut]
   unfold Qh
   rw [if_neg (by omega), if_neg (by omega), if_neg (fun h => absurd ((iN [108]).symm.trans h.1) (by decide)), if_pos ⟨iN _, rfl⟩]; rfl
  ·have e : (P ++ [bar (YC x)]).length = P.length + 1 := by simp
   rw [e] at ih; exact ih
theorem zYH (s : ByteArray) (ls : List ByteArray) (hl : ls.length ≤ 1000000) (r : ByteArray × Bool × Int × List qA × List qM × List qH × Int) : ∀ (l : List xS) (P Q : List ByteArray) (g : X0), ls = P ++ ((l.map fun x => bar (YD x)) ++ Q) → Q ≠ [] → 2 ≤ P.length → (g.l3.length ≤ 1000 ∧ g.l4.length ≤ 1000 ∧ g.l5.length + l.length ≤ 1000) → (∀ x ∈ l, (PlainT x.f0.data.toList ∧ PlainT x.f1.data.toList ∧ -500 ≤ x.f2 ∧ x.f2 ≤ 500) ∧ x.f0.size ≤ 1000 ∧ x.f1.size ≤ 1000) →
  Ev (fun k => PL k s ls ((P.length + l.length : Nat) : Int) { g with l5 := g.l5 ++ l.map YR }) r → Ev (fun k => PL k s ls (P.length : Int) g) r
 | [], P, Q, g, _, _, _, _, _, H => by simpa using H
 | x :: l, P, Q, g, hls, hQ, hP, ⟨q3, q4, q5⟩, hx, H => by
  obtain ⟨⟨p0, p1, n0, n1⟩, s0, s1⟩ := hx x (List.mem_cons_self ..)
  rw [List.length_cons] at q5
  have ih := zYH s ls hl r l (P ++ [bar (YD x)]) Q { g with l5 := g.l5 ++ [YR x] } (by rw [hls]; simp) hQ (by simp; omega) ⟨q3, q4, by simp; omega⟩ (fun y hy => hx y (List.mem_cons_of_mem _ hy)) (by
   have e : (P ++ [bar (YD x)]).length + l.length = P.length + (x :: l).length := by simp; omega
   rw [e]
   simpa using H)
  have hcut : (uE 32 (YD x)).map bar = [bar [107], x.f0, x.f1, bar (Lib.itoa x.f2)] := by
   unfold YD; rw [zym _ _ _ _ (gX 107 (by decide)) p0 p1 (Z9 _ n0 (by omega))]
   simp [XJ]
  have hlen : (YD x).length ≤ 1000000 := by
   have h6 := (gQ x.f2 n0 (by omega)).1
   have e0 : x.f0.data.toList.length = x.f0.size := Array.length_toList
   have e1 : x.f1.data.toList.length = x.f1.size := Array.length_toList
   unfold YD; simp; omega
  refine zzs (g' := { g with l5 := g.l5 ++ [YR x] }) (by rw [hls]; rfl) (Q := (l.map fun x => bar (YD x)) ++ Q) (fun e => hQ (List.append_eq_nil_iff.1 e).2) hl hlen (by omega) (by omega) (by omega) ?_ ?_
  ·rw [hcut]
   unfold Qh
   rw [if_neg (by omega), if_neg (by omega), if_neg (fun h => absurd ((iN [107]).symm.trans h.1) (by decide)), if_neg (fun h => absurd ((iN [107]).symm.trans h.1) (by decide)), if_pos ⟨iN _, rfl⟩]
   have hw : uO (W_ [bar [107], x.f0, x.f1, bar (Lib.itoa x.f2)] 3).data.toList = (x.f2, true) := WJ x.f2 n0 (by omega)
   rw [hw, if_pos rfl]; rfl
  ·have e : (P ++ [bar (YD x)]).length = P.length + 1 := by simp
   rw [e] at ih; exact ih
theorem zQP (f : vI) (s : ByteArray) (hv : zy9 f = true) (ht : zwz f = s.data.toList) (hs : s.size ≤ 100000) : Ev (fun k => zZ.f k s) (okT (toR f)) := by
 have hF : zzc f := nQ hv
 obtain ⟨na, n3, n4, n5⟩ := iM hv
 have e : s.data.toList.length = s.size := Array.length_toList
 have hl : ((uE 10 s.data.toList).map bar).length ≤ 1000000 := by
  have := zjj 10 s.data.toList
  rw [Vn] at this
  rw [List.length_map]; omega
 refine Ev.bind (zqa s 10 (by omega)) ?_
 have hd : s.data.toList = WB f := by rw [← ht]; exact Pq f
 have hls : (uE 10 s.data.toList).map bar = [] ++ bar (YX f.a f.b) :: (bar (XU f.c) :: ((f.l3.map fun x => bar (Z8 x)) ++ ((f.l4.map fun x => bar (YC x)) ++ ((f.l5.map fun x => bar (YD x)) ++ [bar []])))) := by
  rw [hd, zQO f hF]
  simp [Function.comp_def]
 generalize (uE 10 s.data.toList).map bar = ls at hl hls
 have p1 : PlainT [102, 111, 110, 116] := by unfold PlainT; decide
 have p2 : PlainT [115, 112, 101, 99, 105, 97, 108] := by unfold PlainT; decide
 have p3 : PlainT [115, 112, 97, 99, 101] := by unfold PlainT; decide
 have ea : f.a.data.toList.length = f.a.size := Array.length_toList
 have hc6 := (gQ f.c (by have := hF.nc; omega) hF.nc.2).1
 refine zzs (P := []) (g := ⟨⟨#[]⟩, false, 0, [], [], []⟩) (g' := ⟨f.a, f.b, 0, [], [], []⟩) hls (by simp) hl (by unfold YX; cases f.b <;> simp <;> omega) (by simp) (by simp) (by simp) ?_ ?_
 ·unfold Qh
  rw [if_pos (show ([] : List ByteArray).length = 0 from rfl)]
  cases hb : f.b with
  | true =>
   have hcut : (uE 32 (YX f.a true)).map bar = [bar [102, 111, 110, 116], f.a, bar [115, 112, 101, 99, 105, 97, 108]] := by
    unfold YX; rw [if_pos rfl, zjk _ _ _ p1 hF.na p2]; simp [XJ]
   rw [hcut, if_pos ⟨iN _, .inr ⟨rfl, iN _⟩⟩]; rfl
  | false =>
   have hcut : (uE 32 (YX f.a false)).map bar = [bar [102, 111, 110, 116], f.a] := by
    unfold YX; rw [if_neg (by decide), List.append_nil, zyl _ _ p1 hF.na]; simp [XJ]
   rw [hcut, if_pos ⟨iN _, .inl rfl⟩]; rfl
 refine zzs (P := [bar (YX f.a f.b)]) (g' := ⟨f.a, f.b, f.c, [], [], []⟩) (by rw [hls]; rfl) (by simp) hl (by unfold XU; simp; omega) (by simp) (by simp) (by simp) ?_ ?_
 ·have hcut : (uE 32 (XU f.c)).map bar = [bar [115, 112, 97, 99, 101], bar (Lib.itoa f.c)] := by
   unfold XU; rw [zyl _ _ p3 (Z9 _ (by have := hF.nc; omega) hF.nc.2)]; rfl
  rw [hcut]
  unfold Qh
  have hw : uO (W_ [bar [115, 112, 97, 99, 101], bar (Lib.itoa f.c)] 1).data.toList = (f.c, true) := WJ f.c (by have := hF.nc; omega) hF.nc.2
  rw [if_neg (by simp), if_pos (show [bar (YX f.a f.b)].length = 1 from rfl), hw, if_pos ⟨iN _, rfl, rfl⟩]
 have hn3 := hF.n3
 have hn4 := hF.n4
 have hn5 := hF.n5
 refine zYF s ls hl _ f.l3 [bar (YX f.a f.b), bar (XU f.c)] _ ⟨f.a, f.b, f.c, [], [], []⟩ (by rw [hls]; rfl) (by simp) (by simp) ⟨by simp; omega, by simp, by simp⟩ (fun x hx => ⟨(hF.g x hx).1, (hF.g x hx).2.1, (hF.g x hx).2.2, Nat.le_trans (n3 x hx) (by decide)⟩) ?_
 have H2 := zYG s ls hl (okT (toR f)) f.l4 ([bar (YX f.a f.b), bar (XU f.c)] ++ f.l3.map fun x => bar (Z8 x)) ((f.l5.map fun x => bar (YD x)) ++ [bar []]) ⟨f.a, f.b, f.c, f.l3.map p9, [], []⟩ (by rw [hls]; simp) (by simp) (by simp) ⟨by simp; omega, by simp; omega, by simp⟩ (fun x hx => ⟨hF.l x hx, Nat.le_trans (n4 x hx).1 (by decide), Nat.le_trans (n4 x hx).2.1 (by decide), Nat.le_trans (n4 x hx).2.2 (by decide)⟩)
 have H3 := zYH s ls hl (okT (toR f)) f.l5 (([bar (YX f.a f.b), bar (XU f.c)] ++ f.l3.map fun x => bar (Z8 x)) ++ f.l4.map fun x => bar (YC x)) [bar []] ⟨f.a, f.b, f.c, f.l3.map p9, f.l4.map YP, []⟩ (by rw [hls]; simp) (by simp) (by simp) ⟨by simp; omega, by simp; omega, by simp; omega⟩ (fun x hx => ⟨hF.k x hx, Nat.le_trans (n5 x hx).1 (by decide), Nat.le_trans (n5 x hx).2 (by decide)⟩)
 have hE := zjg (s := s) (ls := ls) (i := (([bar (YX f.a f.b), bar (XU f.c)] ++ f.l3.map fun x => bar (Z8 x)) ++ f.l4.map fun x => bar (YC x)).length + f.l5.length) (g := toR f) (by rw [hls]; simp; omega) (by simp; omega) (by show f.a.size ≤ _; omega) (by simp [toR]; omega) (by simp [toR]; omega) (by simp [toR]; omega) (fun x hx => by
  obtain ⟨y, hy, rfl⟩ := List.mem_map.1 hx
  have := n3 y hy
  show y.f0.size ≤ 1000000
  omega)
 rw [zkB, zkC, if_pos ⟨hv, ht⟩] at hE
 have e1 : ([bar (YX f.a f.b), bar (XU f.c)] ++ f.l3.map fun x => bar (Z8 x)).length = [bar (YX f.a f.b), bar (XU f.c)].length + f.l3.length := by rw [List.length_append, List.length_map]
 have e2 : (([bar (YX f.a f.b), bar (XU f.c)] ++ f.l3.map fun x => bar (Z8 x)) ++ f.l4.map fun x => bar (YC x)).length = ([bar (YX f.a f.b), bar (XU f.c)] ++ f.l3.map fun x => bar (Z8 x)).length + f.l4.length := by rw [List.length_append, List.length_map]
 rw [e1] at H2
 rw [List.nil_append]
 refine H2 ?_
 rw [← e1, ← e2, List.nil_append]
 refine H3 ?_
 rw [List.nil_append]
 exact hE
end Go.Proofs.YtaifemkokfoadaaGreatDoor
namespace Go.Proofs.YtaifemkokfoadaaGreatDoor
open Go.RowKit Go.Proofs.zy.zK Go.Proofs.zy.yt Go.Proofs.zy.yV
set_option linter.unusedSimpArgs false
set_option linter.unusedVariables false
namespace RW
section
variable {P : Program} {ops : Array Oper} {Q : Exit → Act → World → Prop} {md : Region.Mode} {S : World → Prop} {ds : List Nat} {T : Bool × List (List Nat × List Nat)} {oi : Oper} {v : Value} {fuel : Nat} {l : Array Bool} {a a' : Act} {w : World}
theorem rP (i : Nat) (N : Option Tmp) (HT : zk (uz md ops = T)) (h : y8 P md ops Q S ds fuel (l.setIfInBounds i true) a' w)
  (hi : ops[i]? = some oi := by exact rfl) (hN : oi.dst = N := by exact rfl) (hc : iT T l.toList (l.setIfInBounds i true).toList i = true := by kernel_rfl) (hQ : ∀ c a w, Q (.panic c) (a.put oi.dst v) w → Q (.panic c) a w := by exact fun _ _ _ h => h)
  (hg : Region.wanted oi (yielded ops a.tmps) = true := by rfl) (hy : ∀ w, (execOp a.eval oi).run P w = .ok (.value v) w := by intro w'; go_simp; with_reducible rfl) (ha : a.put N v = a' := by simp only [Act.put, List.setIfInBounds_toArray, List.set_cons_zero, List.set_cons_succ, vZ, vQ]; rfl) :
  y8 P md ops Q S ds (fuel + 1) l a w := vw _ hi hN (xk HT.out hc) hQ (Or.inl ⟨hg, hy⟩) ha h
theorem rU (i : Nat) (N : Option Tmp) (HT : zk (uz md ops = T)) (h : y8 P md ops Q S ds fuel (l.setIfInBounds i true) a' w)
  (hi : ops[i]? = some oi := by exact rfl) (hN : oi.dst = N := by exact rfl) (hc : iT T l.toList (l.setIfInBounds i true).toList i = true := by kernel_rfl) (hQ : ∀ c a w, Q (.panic c) (a.put oi.dst undef) w → Q (.panic c) a w := by exact fun _ _ _ h => h)
  (hg : Region.wanted oi (yielded ops a.tmps) = false := by rfl) (ha : a.put N undef = a' := by simp only [Act.put, List.setIfInBounds_toArray, List.set_cons_zero, List.set_cons_succ, vZ, vQ]; rfl) :
  y8 P md ops Q S ds (fuel + 1) l a w := vw _ hi hN (xk HT.out hc) hQ (Or.inr ⟨hg, rfl⟩) ha h
theorem rT {B : List Nat} (i : Nat) (N : Option Tmp) (HT : zk (uz md ops = T)) (HW : zk (uZ T.2 B = true)) (hS : S w) (h : y8 P md ops Q S ds fuel (l.setIfInBounds i true) a' w)
  (hi : ops[i]? = some oi := by exact rfl) (hN : oi.dst = N := by exact rfl) (hc : oL T B ds l.toList (l.setIfInBounds i true).toList i = true := by kernel_rfl) (hQ : ∀ c a w, Q (.panic c) (a.put oi.dst v) w → Q (.panic c) a w := by exact fun _ _ _ h => h)
  (hg : Region.wanted oi (yielded ops a.tmps) = true := by rfl) (hy : ∀ w, S w → (execOp a.eval oi).run P w = .ok (.value v) w := by intro w' hs_; go_simp; with_reducible rfl) (ha : a.put N v = a' := by simp only [Act.put, List.setIfInBounds_toArray, List.set_cons_zero, List.set_cons_succ, vZ, vQ]; rfl) :
  y8 P md ops Q S ds (fuel + 1) l a w := Qf _ hi hN (Qm HT.out HW.out hc) hQ (Or.inl ⟨hg, hy⟩) hS ha h
theorem rS {X : World} {B : List Nat} {n id : Nat} (HS : zk (∀ W, Below X.heap.size X W → S W)) (hT : uz .any ops = T) (hB : uZ T.2 B = true) (hm : P.follows .mixedOrders = true) (hn : ops.size = n) (hl : Array.replicate n false = l)
  (h : ∀ w, zk (Below X.heap.size X w) → zk (uz .any ops = T) → zk (uZ T.2 B = true) → S w → y8 P .any ops Q S [] n l a w) : (Code.region id ops true).wp P Q a X :=
 wW _ hm hn hl (HS.out _ (Below.refl _ _).drew) fun hH => h _ ⟨(Below.refl _ _).drew⟩ ⟨hT⟩ ⟨hB⟩ hH
theorem rSD {X : World} {B : List Nat} {n id : Nat} (ds : List Nat) (HS : zk (∀ W, Below X.heap.size X W → S W)) (hT : uz .any ops = T) (hB : uZ T.2 B = true) (hm : P.follows .mixedOrders = true) (hn : ops.size = n) (hl : Array.replicate n false = l)
  (h : ∀ w, zk (Below X.heap.size X w) → zk (uz .any ops = T) → zk (uZ T.2 B = true) → S w → y8 P .any ops Q S ds n l a w) : (Code.region id ops true).wp P Q a X :=
 wW _ hm hn hl (HS.out _ (Below.refl _ _).drew) fun hH => h _ ⟨(Below.refl _ _).drew⟩ ⟨hT⟩ ⟨hB⟩ hH
theorem rC {X : World} {f : FuncId} {fn : Func} {aps : Array Operand} {ts : Array TypeId} {args : Array Value} (i : Nat) (N : Option Tmp) (HT : zk (uz md ops = T)) (HS : zk (∀ W, Below X.heap.size X W → S W)) (HY : zk (Below X.heap.size X w)) (hf : P.funcs[f]? = some fn)
  (hcall : Calls P f args w fun e w' => e = .returned v ∧ Below w.heap.size w w') (h : ∀ w', zk (Below X.heap.size X w') → S w' → y8 P md ops Q S ds fuel (l.setIfInBounds i true) a' w') (hname : (fn.name == "runtime.NumGoroutine") = false)
  (hi : ops[i]? = some oi := by exact rfl) (hN : oi.dst = N := by exact rfl) (hc : (Jg T.2 l.toList == [i] && l.toList.set i true == (l.setIfInBounds i true).toList) = true := by kernel_rfl) (hd : i ∉ ds := by decide) (hb : fn.body.isSome = true := by exact rfl) (hw : Region.wanted oi (yielded ops a.tmps) = true := by rfl)
  (hop : oi.op = .call { callee := .value (.func f), args := aps, argTypes := ts } := by exact rfl) (hargs : aps.map a.eval = args := by (try simp only [List.map_toArray, List.map_cons, List.map_nil]); first | done | rfl) (ha : a.put N v = a' := by simp only [Act.put, List.setIfInBounds_toArray, List.set_cons_zero, List.set_cons_succ, vZ, vQ]; rfl) :
  y8 P md ops Q S ds (fuel + 1) l a w := by
 refine YF _ hi hN (uw HT.out hc) hd fun K hK => ?_
 refine gP hf hname hb args hw hN hop hargs (hcall.mono ?_)
 rintro e w' ⟨rfl, hk⟩
 have h2 := HY.out.trans (hk.mono HY.out.size)
 refine ⟨_, rfl, hK.out _ _ (HS.out _ h2) fun hH => ?_⟩
 rw [ha]
 exact h _ ⟨h2⟩ hH
end
end RW
end Go.Proofs.YtaifemkokfoadaaGreatDoor
