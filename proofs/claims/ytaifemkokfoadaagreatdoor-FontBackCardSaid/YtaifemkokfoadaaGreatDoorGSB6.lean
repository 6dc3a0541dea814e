/-
  Texts that lean on one another, laid in one file. No condition.
-/
import Derived.Test.YtaifemkokfoadaaGreatDoorGSB1
import Derived.Test.YtaifemkokfoadaaGreatDoorGSB4
import Derived.Test.YtaifemkokfoadaaGreatDoorGSB5
import Derived.RangeFuncNested
import Derived.RangeFuncBound
import Derived.RangeFuncCalls
import Derived.RangeFuncLeaves

namespace Go.Proofs.YtaifemkokfoadaaGreatDoor.PX
open Go.RowKit Go.Proofs.zx.zK Go.Proofs.zx.zU Go.Proofs.zx.zN
attribute [local go_sem] qF qG xC xD qY qW qH qI   -- for this text's walks alone
set_option linter.unusedVariables false
set_option linter.unusedSimpArgs false
namespace zJF
abbrev BA := ByteArray
end zJF
open zJF
mutual
def zZ.l0 : Nat → BA → List BA → Int → BA → Bool → Int → List (qJ) → List (xK) → List (xY) → Option (BA × Bool × Int × (List (qJ)) × (List (xK)) × (List (xY)) × Int)
 | 0, _, _, _, _, _, _, _, _, _ => none
 | k + 1, x0, x5, x6, jw, jZ, jQ, uI, uL, uM => if (wrap64 (x6 + 1)) < (x5.length : Int) then (if 0 ≤ x6 then (if x6 < (x5.length : Int) then ((qg.f k (yG ByteArray.empty x5 x6) 32).bind fun zW => (if x6 = 0 then (if 0 < (zW.length : Int) then (if (yG ByteArray.empty zW 0).toList = ([102, 111, 110, 116] : List UInt8) then (if (zW.length : Int) = 2 then (zZ.j1 k x0 x5 x6 zW true jw jZ jQ uI uL uM) else (if (zW.length : Int) = 3 then (if 2 < (zW.length : Int) then (zZ.j1 k x0 x5 x6 zW ((yG ByteArray.empty zW 2).toList == ([115, 112, 101, 99, 105, 97, 108] : List UInt8)) jw jZ jQ uI uL uM) else (none)) else (zZ.j1 k x0 x5 x6 zW false jw jZ jQ uI uL uM))) else (zZ.j1 k x0 x5 x6 zW false jw jZ jQ uI uL uM)) else (none)) else (if x6 = 1 then (if 0 < (zW.length : Int) then (if (yG ByteArray.empty zW 0).toList = ([115, 112, 97, 99, 101] : List UInt8) then (zZ.j2 k x0 x5 x6 zW ((zW.length : Int) == 2) jw jZ jQ uI uL uM) else (zZ.j2 k x0 x5 x6 zW false jw jZ jQ uI uL uM)) else (none)) else (if 0 < (zW.length : Int) then (if (yG ByteArray.empty zW 0).toList = ([103] : List UInt8) then (zZ.j3 k x0 x5 x6 zW true ((zW.length : Int) == 3) jw jZ jQ uI uL uM) else (zZ.j3 k x0 x5 x6 zW true false jw jZ jQ uI uL uM)) else (none))))) else (none)) else (none)) else ((uj.f jw jZ jQ uI uL uM).bind fun zwd => (if zwd.2 = 0 then (if zwd.1.toList = x0.toList then (some (jw, jZ, jQ, uI, uL, uM, 0)) else (some ((⟨#[]⟩ : BA), false, 0, ([] : List (qJ)), ([] : List (xK)), ([] : List (xY)), 4))) else (some ((⟨#[]⟩ : BA), false, 0, ([] : List (qJ)), ([] : List (xK)), ([] : List (xY)), 4))))
def zZ.j1 : Nat → BA → List BA → Int → List BA → Bool → BA → Bool → Int → List (qJ) → List (xK) → List (xY) → Option (BA × Bool × Int × (List (qJ)) × (List (xK)) × (List (xY)) × Int)
 | 0, _, _, _, _, _, _, _, _, _, _, _ => none
 | k + 1, x0, x5, x6, x7, x8, jw, jZ, jQ, uI, uL, uM => if x8 = true then (if 1 < (x7.length : Int) then (zZ.l0 k x0 x5 (wrap64 (x6 + 1)) (yG ByteArray.empty x7 1) ((x7.length : Int) == 3) jQ uI uL uM) else (none)) else (some ((⟨#[]⟩ : BA), false, 0, ([] : List (qJ)), ([] : List (xK)), ([] : List (xY)), 4))
def zZ.j2 : Nat → BA → List BA → Int → List BA → Bool → BA → Bool → Int → List (qJ) → List (xK) → List (xY) → Option (BA × Bool × Int × (List (qJ)) × (List (xK)) × (List (xY)) × Int)
 | 0, _, _, _, _, _, _, _, _, _, _, _ => none
 | k + 1, x0, x5, x6, x7, x8, jw, jZ, jQ, uI, uL, uM => if x8 = true then (if 1 < (x7.length : Int) then ((zB.f k (yG ByteArray.empty x7 1)).bind fun nG => (if nG.2 = true then (zZ.l0 k x0 x5 (wrap64 (x6 + 1)) jw jZ nG.1 uI uL uM) else (some ((⟨#[]⟩ : BA), false, 0, ([] : List (qJ)), ([] : List (xK)), ([] : List (xY)), 4)))) else (none)) else (some ((⟨#[]⟩ : BA), false, 0, ([] : List (qJ)), ([] : List (xK)), ([] : List (xY)), 4))
def zZ.j3 : Nat → BA → List BA → Int → List BA → Bool → Bool → BA → Bool → Int → List (qJ) → List (xK) → List (xY) → Option (BA × Bool × Int × (List (qJ)) × (List (xK)) × (List (xY)) × Int)
 | 0, _, _, _, _, _, _, _, _, _, _, _, _ => none
 | k + 1, x0, x5, x6, x7, x8, x82, jw, jZ, jQ, uI, uL, uM => if x82 = true then (if 2 < (x7.length : Int) then ((zB.f k (yG ByteArray.empty x7 2)).bind fun nH => (if 1 < (x7.length : Int) then (if uI.length < 5864062014805 then (if nH.2 = true then (zZ.l0 k x0 x5 (wrap64 (x6 + 1)) jw jZ jQ (uI ++ [(⟨yG ByteArray.empty x7 1, nH.1⟩ : qJ)]) uL uM) else (some ((⟨#[]⟩ : BA), false, 0, ([] : List (qJ)), ([] : List (xK)), ([] : List (xY)), 4))) else (none)) else (none))) else (none)) else (if 0 < (x7.length : Int) then (if (yG ByteArray.empty x7 0).toList = ([108] : List UInt8) then (zZ.j4 k x0 x5 x6 x7 x8 ((x7.length : Int) == 4) jw jZ jQ uI uL uM) else (zZ.j4 k x0 x5 x6 x7 x8 false jw jZ jQ uI uL uM)) else (none))
def zZ.j4 : Nat → BA → List BA → Int → List BA → Bool → Bool → BA → Bool → Int → List (qJ) → List (xK) → List (xY) → Option (BA × Bool × Int × (List (qJ)) × (List (xK)) × (List (xY)) × Int)
 | 0, _, _, _, _, _, _, _, _, _, _, _, _ => none
 | k + 1, x0, x5, x6, x7, x8, zaH, jw, jZ, jQ, uI, uL, uM => if zaH = true then (if 1 < (x7.length : Int) then (if 2 < (x7.length : Int) then (if 3 < (x7.length : Int) then (if uL.length < 2932031007402 then (if x8 = true then (zZ.l0 k x0 x5 (wrap64 (x6 + 1)) jw jZ jQ uI (uL ++ [(⟨yG ByteArray.empty x7 1, yG ByteArray.empty x7 2, yG ByteArray.empty x7 3⟩ : xK)]) uM) else (some ((⟨#[]⟩ : BA), false, 0, ([] : List (qJ)), ([] : List (xK)), ([] : List (xY)), 4))) else (none)) else (none)) else (none)) else (none)) else (if 0 < (x7.length : Int) then (if (yG ByteArray.empty x7 0).toList = ([107] : List UInt8) then (zZ.j5 k x0 x5 x6 x7 ((x7.length : Int) == 4) jw jZ jQ uI uL uM) else (zZ.j5 k x0 x5 x6 x7 false jw jZ jQ uI uL uM)) else (none))
def zZ.j5 : Nat → BA → List BA → Int → List BA → Bool → BA → Bool → Int → List (qJ) → List (xK) → List (xY) → Option (BA × Bool × Int × (List (qJ)) × (List (xK)) × (List (xY)) × Int)
 | 0, _, _, _, _, _, _, _, _, _, _, _ => none
 | k + 1, x0, x5, x6, x7, zaI, jw, jZ, jQ, uI, uL, uM => if zaI = true then (if 3 < (x7.length : Int) then ((zB.f k (yG ByteArray.empty x7 3)).bind fun nI => (if 1 < (x7.length : Int) then (if 2 < (x7.length : Int) then (if uM.length < 3518437208883 then (if nI.2 = true then (zZ.l0 k x0 x5 (wrap64 (x6 + 1)) jw jZ jQ uI uL (uM ++ [(⟨yG ByteArray.empty x7 1, yG ByteArray.empty x7 2, nI.1⟩ : xY)])) else (some ((⟨#[]⟩ : BA), false, 0, ([] : List (qJ)), ([] : List (xK)), ([] : List (xY)), 4))) else (none)) else (none)) else (none))) else (none)) else (some ((⟨#[]⟩ : BA), false, 0, ([] : List (qJ)), ([] : List (xK)), ([] : List (xY)), 4))
end
def zZ.f (k : Nat) (a0 : BA) : Option (BA × Bool × Int × (List (qJ)) × (List (xK)) × (List (xY)) × Int) := (qg.f k a0 10).bind fun vv => (zZ.l0 k a0 vv 0 (⟨#[]⟩ : BA) false 0 ([] : List (qJ)) ([] : List (xK)) ([] : List (xY)))
def zZ.T20 : Bool × List (List Nat × List Nat) := (true, [([], []), ([0], [0]), ([], []), ([2], [2]), ([3], [3]), ([], []), ([4, 5], [4, 5]), ([6], [6]), ([1, 7], [1, 7]), ([0, 1, 2, 3, 4, 5, 6, 7, 8], []), ([9, 8, 8, 0, 1, 2, 3, 4, 5, 6, 7, 8], [8, 9])])
def zZ.B20 : List Nat := [0, 1, 0, 4, 12, 0, 60, 124, 255, 511, 1023]
theorem zZ.zwe : vB .any (opsOf Tryz.f23 20) = zZ.T20 := by kernel_rfl
theorem zZ.zvA : vU zZ.T20.2 zZ.B20 = true := by kernel_rfl
def zZ.T22 : Bool × List (List Nat × List Nat) := (true, [([], []), ([0], [0]), ([], []), ([2], [2]), ([3], [3]), ([], []), ([5], [5]), ([6], [6]), ([], []), ([8], [8]), ([9], [9]), ([4, 7, 10], [4, 7, 10]), ([11], [11]), ([1, 12], [1, 12]), ([0, 1, 2, 3, 4, 5, 6, 7, 8, 9, 10, 11, 12, 13], []), ([14, 13, 13, 0, 1, 2, 3, 4, 5, 6, 7, 8, 9, 10, 11, 12, 13], [13, 14])])
def zZ.B22 : List Nat := [0, 1, 0, 4, 12, 0, 32, 96, 0, 256, 768, 2044, 4092, 8191, 16383, 32767]
theorem zZ.zYn : vB .any (opsOf Tryz.f23 22) = zZ.T22 := by kernel_rfl
theorem zZ.zJG : vU zZ.T22.2 zZ.B22 = true := by kernel_rfl
def zZ.T26 : Bool × List (List Nat × List Nat) := (true, [([], []), ([0], [0]), ([], []), ([2], [2]), ([3], [3]), ([], []), ([5], [5]), ([6], [6]), ([], []), ([4, 7, 8], [4, 7, 8]), ([9], [9]), ([1, 10], [1, 10]), ([0, 1, 2, 3, 4, 5, 6, 7, 8, 9, 10, 11], []), ([12, 11, 11, 0, 1, 2, 3, 4, 5, 6, 7, 8, 9, 10, 11], [11, 12])])
def zZ.B26 : List Nat := [0, 1, 0, 4, 12, 0, 32, 96, 0, 508, 1020, 2047, 4095, 8191]
theorem zZ.zwf : vB .any (opsOf Tryz.f23 26) = zZ.T26 := by kernel_rfl
theorem zZ.zvB : vU zZ.T26.2 zZ.B26 = true := by kernel_rfl
set_option maxHeartbeats 60000000 in
set_option maxRecDepth 100000 in
theorem zZ.calls (k : Nat) (a0 : BA) (r1 : BA) (r2 : Bool) (r3 : Int) (r4 : List (qJ)) (r5 : List (xK)) (r6 : List (xY)) (r7 : Int) (w : World) (h : zZ.f k a0 = some (r1, r2, r3, r4, r5, r6, r7)) :
  Calls Tryz.prog 23 #[.string a0] w fun e w' => ∃ Vl Vm Vn : Value, e = .returned (.tuple #[.agg #[.string r1, .bool r2, .int .i64 r3, Vl, Vm, Vn], .int .i64 r7]) ∧ Kd.R jC 81 w' w.heap.size (fun _ => True) Vl r4 ∧ Kd.R kR 83 w' w.heap.size (fun _ => True) Vm r5 ∧ Kd.R kE 84 w' w.heap.size (fun _ => True) Vn r6 ∧ Below w.heap.size w w' := by
 have zXJ := Tryz.underlying44
 have zWp := Tryz.underlying81
 have zWr := Tryz.underlying83
 have zWs := Tryz.underlying84
 have HB := zy.mk (Below.refl w.heap.size w)
 have H : ((qg.f k a0 10).bind fun vv => (zZ.l0 k a0 vv 0 (⟨#[]⟩ : BA) false 0 ([] : List (qJ)) ([] : List (xK)) ([] : List (xY)))) = some (r1, r2, r3, r4, r5, r6, r7) := h
 clear h
 replace H := Option.bind_eq_some_iff.mp H
 obtain ⟨vv, A20, H⟩ := H
 replace H : (zZ.l0 k a0 vv 0 (⟨#[]⟩ : BA) false 0 ([] : List (qJ)) ([] : List (xK)) ([] : List (xY))) = some (r1, r2, r3, r4, r5, r6, r7) := H
 have A2 := zy.mk A20
 clear A20
 have H' := zy.mk H
 clear H
 go_enter Tryz.func23, Tryz.ntmps23
 go_wp2_with (first | ((with_reducible refine xI (N := 2) rfl ?_); (try (refine gN (by rfl) ?_; dsimp only)); refine xR ?hg (N := 2) ?hd (cs := #[.string (⟨#[]⟩ : BA), .bool false, .int .i64 0, .slice none 0 0, .slice none 0 0, .slice none 0 0]) (t := 44) ?hr ?_; (case hd => rfl); (case hg => rfl); (case hr => first | (go_simp; done) | (go_simp; rfl)); intro yM hg w3 xS hb; have zn := zy.mk (yY (yX HB.out) hb); have zA := zy.mk (xS); have zH := zy.mk ((by rw [hg]; exact (zO (yX HB.out)) : w.heap.size ≤ yM)); have zP := zy.mk ((by rw [hg]; exact (zO (yX HB.out)) : w.heap.size ≤ yM)); clear HB; have HB := zn; have ze := zA; have zhO := zH; have V4 := zP; clear zn zA zH zP; clear hb xS hg) | ((with_reducible refine xI (N := 4) rfl ?_); (try (refine gN (by rfl) ?_; dsimp only)); refine xR ?hg (N := 4) ?hd (cs := #[.string (⟨#[]⟩ : BA), .bool false, .int .i64 0, .slice none 0 0, .slice none 0 0, .slice none 0 0]) (t := 44) ?hr ?_; (case hd => rfl); (case hg => rfl); (case hr => first | (go_simp; done) | (go_simp; rfl)); intro yV hg w4 xS hb; have zn := zy.mk (zf (g := yM) (o := .cells #[.string (⟨#[]⟩ : BA), .bool false, .int .i64 0, .slice none 0 0, .slice none 0 0, .slice none 0 0] 44 (0, 0)) (qX ze.out) hb); have zA := zy.mk (yY (yX HB.out) hb); have zH := zy.mk (xS); have zP := zy.mk ((by rw [hg]; exact (zO (yX HB.out)) : w.heap.size ≤ yV)); have qj := zy.mk ((by rw [hg]; exact (zO (yX HB.out)) : w.heap.size ≤ yV)); have xw := zy.mk ((by rw [hg]; exact Nat.ne_of_lt (uS (g := yM) (o := .cells #[.string (⟨#[]⟩ : BA), .bool false, .int .i64 0, .slice none 0 0, .slice none 0 0, .slice none 0 0] 44 (0, 0)) (qX ze.out)) : yM ≠ yV)); have xO := zy.mk ((by rw [hg]; exact Nat.ne_of_gt (uS (g := yM) (o := .cells #[.string (⟨#[]⟩ : BA), .bool false, .int .i64 0, .slice none 0 0, .slice none 0 0, .slice none 0 0] 44 (0, 0)) (qX ze.out)) : yV ≠ yM)); clear ze; clear HB; have ze := zn; have HB := zA; have zY := zH; have zhP := zP; have V5 := qj; have uO := xw; have jo := xO; clear zn zA zH zP qj xw xO; clear hb xS hg) | ((with_reducible refine yI (f := 80) rfl ?_); refine je (some 16) Tryz.func80 #[.string a0, .int .u8 10] ?_; (with_reducible refine (qg.calls k a0 10 vv _ A2.out).mono ?_); rintro e w5 ⟨zaL, rfl, ho0, hb⟩; refine ⟨_, rfl, ?_⟩; have zn := zy.mk (Kd.jk ho0 (zO (yX HB.out))); have zA := zy.mk (zf (g := yM) (o := .cells #[.string (⟨#[]⟩ : BA), .bool false, .int .i64 0, .slice none 0 0, .slice none 0 0, .slice none 0 0] 44 (0, 0)) (qX ze.out) hb); have zH := zy.mk (zf (g := yV) (o := .cells #[.string (⟨#[]⟩ : BA), .bool false, .int .i64 0, .slice none 0 0, .slice none 0 0, .slice none 0 0] 44 (0, 0)) (qX zY.out) hb); have zP := zy.mk (yY (yX HB.out) hb); clear ze; clear zY; clear HB; have zYo := zn; have ze := zA; have zY := zH; have HB := zP; clear zn zA zH zP; (try clear hb); (try clear hb2); (try clear hk); (try clear hi); (try clear ho0)))
 go_loopg [6] k (fun kq v6 w' => ∃ (qL : Int) (qK : BA) (yT : Bool) (yC : Int) (zF : BA) (zG : Bool) (zI : Int) (yD : List (qJ)) (yL : List (xK)) (yH : List (xY)) (qP : Value) (xW : Value) (qR : Value), v6 = .int .i64 qL ∧ zy (zZ.l0 kq a0 vv qL zF zG zI yD yL yH = some (r1, r2, r3, r4, r5, r6, r7)) ∧ zy (kq ≤ k) ∧ zy (Kd.R Kd.string 9 w' w.heap.size (fun _ => True) zaL vv) ∧ zy (Kd.R jC 81 w' w.heap.size (fun _ => True) qP yD) ∧ zy (Kd.R kR 83 w' w.heap.size (fun _ => True) xW yL) ∧ zy (Kd.R kE 84 w' w.heap.size (fun _ => True) qR yH) ∧ zy (w'.heap[yM]? = some (.cells #[.string qK, .bool yT, .int .i64 yC, (.slice none 0 0), (.slice none 0 0), (.slice none 0 0)] 44 (0, 0))) ∧ zy (w'.heap[yV]? = some (.cells #[.string zF, .bool zG, .int .i64 zI, qP, xW, qR] 44 (0, 0))) ∧ zy (Below w.heap.size w w'))
 case atStart => exact ⟨(0), ((⟨#[]⟩ : BA)), (false), (0), ((⟨#[]⟩ : BA)), (false), (0), (([] : List (qJ))), (([] : List (xK))), (([] : List (xY))), (.slice none 0 0), (.slice none 0 0), (.slice none 0 0), (by first | rfl | (simp; done) | (simp [*]; done)), H', ⟨Nat.le_refl _⟩, ⟨yK zYo.out⟩, ⟨by first | exact Kd.xE _ _ _ _ _ | exact Kd.jY _ _ _ _ _ | exact Kd.jW _ _ _ _ _ | exact Kd.jV _ _ _ _ _ | exact Kd.jK _ _ _ _ _⟩, ⟨by first | exact Kd.xE _ _ _ _ _ | exact Kd.jY _ _ _ _ _ | exact Kd.jW _ _ _ _ _ | exact Kd.jV _ _ _ _ _ | exact Kd.jK _ _ _ _ _⟩, ⟨by first | exact Kd.xE _ _ _ _ _ | exact Kd.jY _ _ _ _ _ | exact Kd.jW _ _ _ _ _ | exact Kd.jV _ _ _ _ _ | exact Kd.jK _ _ _ _ _⟩, ⟨qX ze.out⟩, ⟨qX zY.out⟩, ⟨yX HB.out⟩⟩
 case round =>
  clear H'
  try clear c2
  try clear p2
  obtain ⟨qL, qK, yT, yC, zF, zG, zI, yD, yL, yH, qP, xW, qR, rfl, HA, vT, qQ, zl, zu, zm, ze, zY, HB⟩ := hrel
  cases gk with
  | zero => exact absurd HA.out (by simp [zZ.l0])
  | succ k1 =>
   have H := HA.out
   clear HA
   simp only [zZ.l0] at H
   by_cases c6 : (wrap64 (qL + 1)) < (vv.length : Int)
   ·rw [if_pos c6] at H
    have Xf : decide ((wrap64 (qL + 1)) < (vv.length : Int)) = true := decide_eq_true c6
    clear c6
    by_cases c7 : 0 ≤ qL
    ·rw [if_pos c7] at H
     have QN : decide (0 ≤ qL) = true := decide_eq_true c7
     clear c7
     by_cases c8 : qL < (vv.length : Int)
     ·rw [if_pos c8] at H
      have Y0 : decide (qL < (vv.length : Int)) = true := decide_eq_true c8
      clear c8
      replace H := Option.bind_eq_some_iff.mp H
      obtain ⟨zW, A90, H⟩ := H
      replace H : (if qL = 0 then (if 0 < (zW.length : Int) then (if (yG ByteArray.empty zW 0).toList = ([102, 111, 110, 116] : List UInt8) then (if (zW.length : Int) = 2 then (zZ.j1 k1 a0 vv qL zW true zF zG zI yD yL yH) else (if (zW.length : Int) = 3 then (if 2 < (zW.length : Int) then (zZ.j1 k1 a0 vv qL zW ((yG ByteArray.empty zW 2).toList == ([115, 112, 101, 99, 105, 97, 108] : List UInt8)) zF zG zI yD yL yH) else (none)) else (zZ.j1 k1 a0 vv qL zW false zF zG zI yD yL yH))) else (zZ.j1 k1 a0 vv qL zW false zF zG zI yD yL yH)) else (none)) else (if qL = 1 then (if 0 < (zW.length : Int) then (if (yG ByteArray.empty zW 0).toList = ([115, 112, 97, 99, 101] : List UInt8) then (zZ.j2 k1 a0 vv qL zW ((zW.length : Int) == 2) zF zG zI yD yL yH) else (zZ.j2 k1 a0 vv qL zW false zF zG zI yD yL yH)) else (none)) else (if 0 < (zW.length : Int) then (if (yG ByteArray.empty zW 0).toList = ([103] : List UInt8) then (zZ.j3 k1 a0 vv qL zW true ((zW.length : Int) == 3) zF zG zI yD yL yH) else (zZ.j3 k1 a0 vv qL zW true false zF zG zI yD yL yH)) else (none)))) = some (r1, r2, r3, r4, r5, r6, r7) := H
      have A9 := zy.mk A90
      clear A90
      by_cases c10 : qL = 0
      ·rw [if_pos c10] at H
       have VU : (qL == 0) = true := beq_iff_eq.mpr c10
       have nJ : (qL != 0) = false := bne_eq_false_iff_eq.mpr c10
       clear c10
       have zk4 := zy.mk H
       clear H
       obtain ⟨zi5, zJH, zaM⟩ := Kd.yx qQ.out
       subst zaM
       have XT : 0 ≤ (qL : Int) := of_decide_eq_true (by first | (with_reducible assumption) | assumption)
       have XU : qL < (vv.length : Int) := of_decide_eq_true (by first | (with_reducible assumption) | assumption)
       obtain ⟨XE, zzi, Uj⟩ := Kd.xG (Kd.yh qQ.out).2.2 qL XT XU
       cases zzi
       replace XT := eq_true XT
       replace XU := eq_true XU
       go_upto_region 10 with (first | ((with_reducible refine yI (f := 80) rfl ?_); refine je (some 28) Tryz.func80 #[.string (yG ByteArray.empty vv qL), .int .u8 32] ?_; (with_reducible refine (qg.calls k1 (yG ByteArray.empty vv qL) 32 zW _ A9.out).mono ?_); rintro e mF ⟨VN, rfl, ho0, hb⟩; refine ⟨_, rfl, ?_⟩; have zn := zy.mk (Kd.bN (yK qQ.out) (Kd.lV ho0) hb); have zA := zy.mk (Kd.zR (yK zl.out) hb); have zH := zy.mk (Kd.zR (yK zu.out) hb); have zP := zy.mk (Kd.zR (yK zm.out) hb); have qj := zy.mk (Kd.jk (Kd.lY ho0 (Kd.zv5 (yK qQ.out))) (zO (yX HB.out))); have xw := zy.mk (zf (g := yM) (o := .cells #[.string qK, .bool yT, .int .i64 yC, .slice none 0 0, .slice none 0 0, .slice none 0 0] 44 (0, 0)) (qX ze.out) hb); have xO := zy.mk (zf (g := yV) (o := .cells #[.string zF, .bool zG, .int .i64 zI, qP, xW, qR] 44 (0, 0)) (qX zY.out) hb); have ug := zy.mk (yY (yX HB.out) hb); clear qQ; clear zl; clear zu; clear zm; clear ze; clear zY; clear HB; have qQ := zn; have zl := zA; have zu := zH; have zm := zP; have jH := qj; have ze := xw; have zY := xO; have HB := ug; clear zn zA zH zP qj xw xO ug; (try clear hb); (try clear hb2); (try clear hk); (try clear hi); (try clear ho0)))
       (try simp only [Act.put, List.setIfInBounds_toArray, List.set_cons_zero, List.set_cons_succ])
       go_cut [8] (fun v8 wc => ∃ (kq : Nat) (iM : Bool), v8 = .bool iM ∧ zy (zZ.j1 kq a0 vv qL zW iM zF zG zI yD yL yH = some (r1, r2, r3, r4, r5, r6, r7)) ∧ zy (kq ≤ k1) ∧ zy (Kd.R Kd.string 9 wc w.heap.size (fun k_ => some k_ ≠ (VN : Value).ownBlock) (.slice (some XE) vv.length zJH) vv) ∧ zy (Kd.R Kd.string 9 wc w.heap.size (fun k_ => some k_ ≠ ((.slice (some XE) vv.length zJH) : Value).ownBlock) VN zW) ∧ zy (Kd.R jC 81 wc w.heap.size (fun _ => True) qP yD) ∧ zy (Kd.R kR 83 wc w.heap.size (fun _ => True) xW yL) ∧ zy (Kd.R kE 84 wc w.heap.size (fun _ => True) qR yH) ∧ zy (wc.heap[yM]? = some (.cells #[.string qK, .bool yT, .int .i64 yC, (.slice none 0 0), (.slice none 0 0), (.slice none 0 0)] 44 (0, 0))) ∧ zy (wc.heap[yV]? = some (.cells #[.string zF, .bool zG, .int .i64 zI, qP, xW, qR] 44 (0, 0))) ∧ zy (Below w.heap.size w wc))
       case first =>
        have H := zk4.out
        clear zk4
        by_cases c14 : 0 < (zW.length : Int)
        ·rw [if_pos c14] at H
         have Ke : decide (0 < (zW.length : Int)) = true := decide_eq_true c14
         have zjk : decide (0 < zW.length) = true := decide_eq_true (by omega)
         clear c14
         (first | rw [Ke] | (simp only [wJ, wV]; rw [Ke]) | skip)
         by_cases c15 : (yG ByteArray.empty zW 0).toList = ([102, 111, 110, 116] : List UInt8)
         ·rw [if_pos c15] at H
          have iN : ((yG ByteArray.empty zW 0).toList == ([102, 111, 110, 116] : List UInt8)) = true := beq_iff_eq.mpr c15
          have iO : ((yG ByteArray.empty zW 0).toList != ([102, 111, 110, 116] : List UInt8)) = false := bne_eq_false_iff_eq.mpr c15
          clear c15
          by_cases c16 : (zW.length : Int) = 2
          ·rw [if_pos c16] at H
           have P8 : ((zW.length : Int) == 2) = true := beq_iff_eq.mpr c16
           have P9 : ((zW.length : Int) != 2) = false := bne_eq_false_iff_eq.mpr c16
           clear c16
           as_aux_lemma =>
            have H' := zy.mk H
            clear H
            obtain ⟨zi6, zi7, zaN⟩ := Kd.yx jH.out
            subst zaN
            have Yg : 0 ≤ (0 : Int) := (by omega)
            have Yh : 0 < (zW.length : Int) := of_decide_eq_true (by first | (with_reducible assumption) | assumption)
            obtain ⟨iP, dP, wX⟩ := Kd.xG (Kd.yh jH.out).2.2 0 Yg Yh
            cases dP
            have zjy : (0 < zW.length) = True := eq_true (by omega)
            (try rw [show ((0 : Int)).toNat = 0 from rfl] at wX)
            (try rw [Addr.add_zero'] at wX)
            replace Yg := eq_true Yg
            replace Yh := eq_true Yh
            go_wp2
            go_meet
            case rel => exact ⟨_, (true), (by first | rfl | (simp; done) | (simp [*]; done)), H', ⟨by have := vT.out; first | omega | exact Nat.le_refl _⟩, ⟨by (with_reducible repeat (first | apply Kd.qE | apply Kd.qp | apply Kd.yR)); exact Kd.yN qQ.out (fun _ hk => hk.2)⟩, ⟨by (with_reducible repeat (first | apply Kd.qE | apply Kd.qp | apply Kd.yR)); exact Kd.yN jH.out (fun _ hk => hk.2)⟩, ⟨yK zl.out⟩, ⟨yK zu.out⟩, ⟨yK zm.out⟩, ⟨qX ze.out⟩, ⟨qX zY.out⟩, ⟨yX HB.out⟩⟩
          ·rw [if_neg c16] at H
           have P8 : ((zW.length : Int) == 2) = false := beq_eq_false_iff_ne.mpr c16
           have P9 : ((zW.length : Int) != 2) = true := bne_iff_ne.mpr c16
           by_cases c18 : (zW.length : Int) = 3
           ·rw [if_pos c18] at H
            have iR : ((zW.length : Int) == 3) = true := beq_iff_eq.mpr c18
            have iT : ((zW.length : Int) != 3) = false := bne_eq_false_iff_eq.mpr c18
            clear c18
            by_cases c19 : 2 < (zW.length : Int)
            ·rw [if_pos c19] at H
             have zjw : decide (2 < (zW.length : Int)) = true := decide_eq_true c19
             have zjZ : decide (2 < zW.length) = true := decide_eq_true (by omega)
             clear c19
             as_aux_lemma =>
              have H' := zy.mk H
              clear H
              obtain ⟨zkw, zkZ, zxb⟩ := Kd.yx jH.out
              subst zxb
              have Yg : 0 ≤ (0 : Int) := (by omega)
              have Yh : 0 < (zW.length : Int) := of_decide_eq_true (by first | (with_reducible assumption) | assumption)
              obtain ⟨iP, dP, wX⟩ := Kd.xG (Kd.yh jH.out).2.2 0 Yg Yh
              cases dP
              have zjy : (0 < zW.length) = True := eq_true (by omega)
              (try rw [show ((0 : Int)).toNat = 0 from rfl] at wX)
              (try rw [Addr.add_zero'] at wX)
              replace Yg := eq_true Yg
              replace Yh := eq_true Yh
              have dR : 0 ≤ (2 : Int) := (by omega)
              have dS : 2 < (zW.length : Int) := of_decide_eq_true (by first | (with_reducible assumption) | assumption)
              obtain ⟨zYp, zaO, Uv⟩ := Kd.xG (Kd.yh jH.out).2.2 2 dR dS
              obtain rfl : iP = zYp := (by injection zaO)
              (try simp only [show (2 : Int).toNat = 2 from rfl, Nat.reduceMul, Nat.reduceEqDiff, Go.Addr.add, ↓reduceIte] at Uv)
              have zhR : (2 < zW.length) = True := eq_true (by omega)
              (try rw [show ((2 : Int)).toNat = 2 from rfl] at Uv)
              replace dR := eq_true dR
              replace dS := eq_true dS
              go_wp2
              go_meet
              case rel => exact ⟨_, (((yG ByteArray.empty zW 2).toList == ([115, 112, 101, 99, 105, 97, 108] : List UInt8))), (by first | rfl | (simp; done) | (simp [*]; done)), H', ⟨by have := vT.out; first | omega | exact Nat.le_refl _⟩, ⟨by (with_reducible repeat (first | apply Kd.qE | apply Kd.qp | apply Kd.yR)); exact Kd.yN qQ.out (fun _ hk => hk.2)⟩, ⟨by (with_reducible repeat (first | apply Kd.qE | apply Kd.qp | apply Kd.yR)); exact Kd.yN jH.out (fun _ hk => hk.2)⟩, ⟨yK zl.out⟩, ⟨yK zu.out⟩, ⟨yK zm.out⟩, ⟨qX ze.out⟩, ⟨qX zY.out⟩, ⟨yX HB.out⟩⟩
            ·rw [if_neg c19] at H
             exact absurd H (by simp)
           ·rw [if_neg c18] at H
            have iR : ((zW.length : Int) == 3) = false := beq_eq_false_iff_ne.mpr c18
            have iT : ((zW.length : Int) != 3) = true := bne_iff_ne.mpr c18
            as_aux_lemma =>
             have H' := zy.mk H
             clear H
             obtain ⟨zi8, zi9, zaP⟩ := Kd.yx jH.out
             subst zaP
             have Yg : 0 ≤ (0 : Int) := (by omega)
             have Yh : 0 < (zW.length : Int) := of_decide_eq_true (by first | (with_reducible assumption) | assumption)
             obtain ⟨iP, dP, wX⟩ := Kd.xG (Kd.yh jH.out).2.2 0 Yg Yh
             cases dP
             have zjy : (0 < zW.length) = True := eq_true (by omega)
             (try rw [show ((0 : Int)).toNat = 0 from rfl] at wX)
             (try rw [Addr.add_zero'] at wX)
             replace Yg := eq_true Yg
             replace Yh := eq_true Yh
             go_wp2
             go_meet
             case rel => exact ⟨_, (false), (by first | rfl | (simp; done) | (simp [*]; done)), H', ⟨by have := vT.out; first | omega | exact Nat.le_refl _⟩, ⟨by (with_reducible repeat (first | apply Kd.qE | apply Kd.qp | apply Kd.yR)); exact Kd.yN qQ.out (fun _ hk => hk.2)⟩, ⟨by (with_reducible repeat (first | apply Kd.qE | apply Kd.qp | apply Kd.yR)); exact Kd.yN jH.out (fun _ hk => hk.2)⟩, ⟨yK zl.out⟩, ⟨yK zu.out⟩, ⟨yK zm.out⟩, ⟨qX ze.out⟩, ⟨qX zY.out⟩, ⟨yX HB.out⟩⟩
         ·rw [if_neg c15] at H
          have iN : ((yG ByteArray.empty zW 0).toList == ([102, 111, 110, 116] : List UInt8)) = false := beq_eq_false_iff_ne.mpr c15
          have iO : ((yG ByteArray.empty zW 0).toList != ([102, 111, 110, 116] : List UInt8)) = true := bne_iff_ne.mpr c15
          as_aux_lemma =>
           have H' := zy.mk H
           clear H
           obtain ⟨zlz, zlq, zaR⟩ := Kd.yx jH.out
           subst zaR
           have Yg : 0 ≤ (0 : Int) := (by omega)
           have Yh : 0 < (zW.length : Int) := of_decide_eq_true (by first | (with_reducible assumption) | assumption)
           obtain ⟨iP, dP, wX⟩ := Kd.xG (Kd.yh jH.out).2.2 0 Yg Yh
           cases dP
           have zjy : (0 < zW.length) = True := eq_true (by omega)
           (try rw [show ((0 : Int)).toNat = 0 from rfl] at wX)
           (try rw [Addr.add_zero'] at wX)
           replace Yg := eq_true Yg
           replace Yh := eq_true Yh
           go_wp2
           go_meet
           case rel => exact ⟨_, (false), (by first | rfl | (simp; done) | (simp [*]; done)), H', ⟨by have := vT.out; first | omega | exact Nat.le_refl _⟩, ⟨by (with_reducible repeat (first | apply Kd.qE | apply Kd.qp | apply Kd.yR)); exact Kd.yN qQ.out (fun _ hk => hk.2)⟩, ⟨by (with_reducible repeat (first | apply Kd.qE | apply Kd.qp | apply Kd.yR)); exact Kd.yN jH.out (fun _ hk => hk.2)⟩, ⟨yK zl.out⟩, ⟨yK zu.out⟩, ⟨yK zm.out⟩, ⟨qX ze.out⟩, ⟨qX zY.out⟩, ⟨yX HB.out⟩⟩
        ·rw [if_neg c14] at H
         exact absurd H (by simp)
       case rest =>
        clear zk4
        try clear c1
        try clear c2
        try clear p2
        try clear p5
        try clear q5
        try clear hx5
        try clear eU
        try clear c6
        try clear Xf
        try clear p6
        try clear c7
        try clear QN
        try clear c8
        try clear Y0
        try clear c10
        try clear VU
        try clear nJ
        try clear c14
        try clear Ke
        try clear zjk
        try clear c15
        try clear iN
        try clear iO
        try clear c16
        try clear P8
        try clear P9
        try clear c18
        try clear iR
        try clear iT
        try clear c19
        try clear zjw
        try clear zjZ
        try clear Uj
        try clear wX
        try clear Uv
        try clear p2
        try clear XT
        try clear Yg
        try clear dR
        try clear XU
        try clear Yh
        try clear dS
        obtain ⟨kq, iM, rfl, HA, zJI, qQ, qM, zl, zu, zm, ze, zY, HB⟩ := hcut
        cases kq with
        | zero => exact absurd HA.out (by simp [zZ.j1])
        | succ zJL =>
         have H := HA.out
         clear HA
         simp only [zZ.j1] at H
         by_cases c23 : iM = true
         ·subst c23
          have H1 : (if 1 < (zW.length : Int) then (zZ.l0 zJL a0 vv (wrap64 (qL + 1)) (yG ByteArray.empty zW 1) ((zW.length : Int) == 3) zI yD yL yH) else (none)) = some (r1, r2, r3, r4, r5, r6, r7) := by rw [if_pos rfl] at H; exact H
          clear H
          have H := H1
          clear H1
          by_cases c24 : 1 < (zW.length : Int)
          ·rw [if_pos c24] at H
           have zwg : decide (1 < (zW.length : Int)) = true := decide_eq_true c24
           have zwh : decide (1 < zW.length) = true := decide_eq_true (by omega)
           clear c24
           as_aux_lemma =>
            have H' := zy.mk H
            clear H
            obtain ⟨zlx, zlj, zaS⟩ := Kd.yx qM.out
            subst zaS
            have aA : 0 ≤ (1 : Int) := (by omega)
            have aC : 1 < (zW.length : Int) := of_decide_eq_true (by first | (with_reducible assumption) | assumption)
            obtain ⟨zhS, zaT, JF⟩ := Kd.xG (Kd.yh qM.out).2.2 1 aA aC
            cases zaT
            (try simp only [show (1 : Int).toNat = 1 from rfl, Nat.reduceMul, Nat.reduceEqDiff, Go.Addr.add, ↓reduceIte] at JF)
            have zhT : (1 < zW.length) = True := eq_true (by omega)
            (try rw [show ((1 : Int)).toNat = 1 from rfl] at JF)
            replace aA := eq_true aA
            replace aC := eq_true aC
            have zhU := jo.out
            have zh0 := uO.out
            have zqj : wc.cell? ⟨yV, 0, none⟩ = some (.string zF) := (zk zY.out 0).trans rfl
            have zqv : wc.cell? ⟨yV, 1, none⟩ = some (.bool zG) := (zk zY.out 1).trans rfl
            have zqk : wc.cell? ⟨yV, 2, none⟩ = some (.int .i64 zI) := (zk zY.out 2).trans rfl
            have zqy : wc.cell? ⟨yV, 3, none⟩ = some (qP) := (zk zY.out 3).trans rfl
            have zqw : wc.cell? ⟨yV, 4, none⟩ = some (xW) := (zk zY.out 4).trans rfl
            have zqZ : wc.cell? ⟨yV, 5, none⟩ = some (qR) := (zk zY.out 5).trans rfl
            have aD := zw zY.out 0
            have aG := zw zY.out 1
            have aH := zw zY.out 2
            have aI := zw zY.out 3
            have aM := zw zY.out 4
            have aR := zw zY.out 5
            go_wp2
            go_roundg zJL
            case measure => have := vT.out; have := zJI.out; omega
            case rel => exact ⟨(wrap64 (qL + 1)), (qK), (yT), (yC), (yG ByteArray.empty zW 1), (((zW.length : Int) == 3)), (zI), (yD), (yL), (yH), (qP), (xW), (qR), (by first | rfl | (simp; done) | (simp [*]; done)), H', ⟨by have := vT.out; have := zJI.out; omega⟩, ⟨by (with_reducible repeat (first | apply Kd.qE | apply Kd.qp | apply Kd.yR)); exact Kd.yN (Kd.qy (p := ⟨yV, 1, none⟩) (Kd.qy (p := ⟨yV, 0, none⟩) (Kd.vQ qQ.out zY.out (by decide)) (fun _ hk => hk.2) (.string (yG ByteArray.empty zW 1))) (fun _ hk => hk.2) (.bool ((zW.length : Int) == 3))) (fun _ hk => trivial)⟩, ⟨by (with_reducible repeat (first | apply Kd.qE | apply Kd.qp | apply Kd.yR)); exact Kd.yN (Kd.qy (p := ⟨yV, 1, none⟩) (Kd.qy (p := ⟨yV, 0, none⟩) (Kd.vQ zl.out zY.out (by decide)) (fun _ hk => hk.2) (.string (yG ByteArray.empty zW 1))) (fun _ hk => hk.2) (.bool ((zW.length : Int) == 3))) (fun _ hk => trivial)⟩, ⟨by (with_reducible repeat (first | apply Kd.qE | apply Kd.qp | apply Kd.yR)); exact Kd.yN (Kd.qy (p := ⟨yV, 1, none⟩) (Kd.qy (p := ⟨yV, 0, none⟩) (Kd.vQ zu.out zY.out (by decide)) (fun _ hk => hk.2) (.string (yG ByteArray.empty zW 1))) (fun _ hk => hk.2) (.bool ((zW.length : Int) == 3))) (fun _ hk => trivial)⟩, ⟨by (with_reducible repeat (first | apply Kd.qE | apply Kd.qp | apply Kd.yR)); exact Kd.yN (Kd.qy (p := ⟨yV, 1, none⟩) (Kd.qy (p := ⟨yV, 0, none⟩) (Kd.vQ zm.out zY.out (by decide)) (fun _ hk => hk.2) (.string (yG ByteArray.empty zW 1))) (fun _ hk => hk.2) (.bool ((zW.length : Int) == 3))) (fun _ hk => trivial)⟩, ⟨bY ze.out⟩, ⟨by (with_reducible repeat (first | refine zC ?_ _ | refine zo ?_ | refine zV ?_ _)); refine zD (cs := #[.string (yG ByteArray.empty zW 1), .bool zG, .int .i64 zI, qP, xW, qR]) ?_ 1 _ rfl; (with_reducible repeat (first | refine zC ?_ _ | refine zo ?_ | refine zV ?_ _)); refine zD (cs := #[.string zF, .bool zG, .int .i64 zI, qP, xW, qR]) ?_ 0 _ rfl; (with_reducible repeat (first | refine zC ?_ _ | refine zo ?_ | refine zV ?_ _)); exact zY.out⟩, ⟨yX HB.out⟩⟩
          ·rw [if_neg c24] at H
           exact absurd H (by simp)
         ·replace c23 := Bool.eq_false_iff.mpr c23
          subst c23
          have H1 : (some ((⟨#[]⟩ : BA), false, 0, ([] : List (qJ)), ([] : List (xK)), ([] : List (xY)), 4)) = some (r1, r2, r3, r4, r5, r6, r7) := by rw [if_neg (show ¬ (false = true) by decide)] at H; exact H
          clear H
          have H := H1
          clear H1
          as_aux_lemma =>
           simp only [Option.some.injEq, Prod.mk.injEq] at H
           obtain ⟨rfl, rfl, rfl, rfl, rfl, rfl, rfl⟩ := H
           have zYk := uO.out
           have zYy := jo.out
           have aZ : wc.cell? ⟨yM, 0, none⟩ = some (.string qK) := (zk ze.out 0).trans rfl
           have aQ : wc.cell? ⟨yM, 1, none⟩ = some (.bool yT) := (zk ze.out 1).trans rfl
           have aX : wc.cell? ⟨yM, 2, none⟩ = some (.int .i64 yC) := (zk ze.out 2).trans rfl
           have PD : wc.cell? ⟨yM, 3, none⟩ = some (.slice none 0 0) := (zk ze.out 3).trans rfl
           have PE : wc.cell? ⟨yM, 4, none⟩ = some (.slice none 0 0) := (zk ze.out 4).trans rfl
           have PG : wc.cell? ⟨yM, 5, none⟩ = some (.slice none 0 0) := (zk ze.out 5).trans rfl
           have PI := zw ze.out 0
           have PN := zw ze.out 1
           have PO := zw ze.out 2
           have PS := zw ze.out 3
           have PU := zw ze.out 4
           have P5 := zw ze.out 5
           go_wp2
           refine bodyPost_ret (wT rfl _ _ yM 44 #[.string (⟨#[]⟩ : BA), .bool false, .int .i64 0, .slice none 0 0, .slice none 0 0, .slice none 0 0] (0, 0) _ rfl (by (with_reducible repeat (first | refine zC ?_ _ | refine zo ?_ | refine zV ?_ _)); refine zD (cs := #[.string (⟨#[]⟩ : BA), .bool false, .int .i64 0, .slice none 0 0, .slice none 0 0, .slice none 0 0]) ?_ 5 _ rfl; (with_reducible repeat (first | refine zC ?_ _ | refine zo ?_ | refine zV ?_ _)); refine zD (cs := #[.string (⟨#[]⟩ : BA), .bool false, .int .i64 0, .slice none 0 0, .slice none 0 0, .slice none 0 0]) ?_ 4 _ rfl; (with_reducible repeat (first | refine zC ?_ _ | refine zo ?_ | refine zV ?_ _)); refine zD (cs := #[.string (⟨#[]⟩ : BA), .bool false, .int .i64 0, .slice none 0 0, .slice none 0 0, .slice none 0 0]) ?_ 3 _ rfl; (with_reducible repeat (first | refine zC ?_ _ | refine zo ?_ | refine zV ?_ _)); refine zD (cs := #[.string (⟨#[]⟩ : BA), .bool false, .int .i64 yC, .slice none 0 0, .slice none 0 0, .slice none 0 0]) ?_ 2 _ rfl; (with_reducible repeat (first | refine zC ?_ _ | refine zo ?_ | refine zV ?_ _)); refine zD (cs := #[.string (⟨#[]⟩ : BA), .bool yT, .int .i64 yC, .slice none 0 0, .slice none 0 0, .slice none 0 0]) ?_ 1 _ rfl; (with_reducible repeat (first | refine zC ?_ _ | refine zo ?_ | refine zV ?_ _)); refine zD (cs := #[.string qK, .bool yT, .int .i64 yC, .slice none 0 0, .slice none 0 0, .slice none 0 0]) ?_ 0 _ rfl; (with_reducible repeat (first | refine zC ?_ _ | refine zo ?_ | refine zV ?_ _)); exact ze.out) Tryz.underlying44 rfl (by kernel_rfl)) rfl ?_
           exact ⟨_, _, _, by first | rfl | (simp [yZ, yQ] <;> rfl) | (simp [*, yZ, yQ] <;> rfl), by first | exact Kd.xE _ _ _ _ _ | exact Kd.jY _ _ _ _ _ | exact Kd.jW _ _ _ _ _ | exact Kd.jV _ _ _ _ _ | exact Kd.jK _ _ _ _ _, by first | exact Kd.xE _ _ _ _ _ | exact Kd.jY _ _ _ _ _ | exact Kd.jW _ _ _ _ _ | exact Kd.jV _ _ _ _ _ | exact Kd.jK _ _ _ _ _, by first | exact Kd.xE _ _ _ _ _ | exact Kd.jY _ _ _ _ _ | exact Kd.jW _ _ _ _ _ | exact Kd.jV _ _ _ _ _ | exact Kd.jK _ _ _ _ _, by repeat (first | (with_reducible first | exact HB.out | apply yt | apply zM | apply yP | refine qo ?_ V4.out | refine qo ?_ V5.out) | exact HB.out)⟩
      ·rw [if_neg c10] at H
       have VU : (qL == 0) = false := beq_eq_false_iff_ne.mpr c10
       have nJ : (qL != 0) = true := bne_iff_ne.mpr c10
       by_cases nL : qL = 1
       ·rw [if_pos nL] at H
        have zjQ : (qL == 1) = true := beq_iff_eq.mpr nL
        have zjX : (qL != 1) = false := bne_eq_false_iff_eq.mpr nL
        clear nL
        have zk5 := zy.mk H
        clear H
        obtain ⟨zlv, zJM, zaU⟩ := Kd.yx qQ.out
        subst zaU
        have XT : 0 ≤ (qL : Int) := of_decide_eq_true (by first | (with_reducible assumption) | assumption)
        have XU : qL < (vv.length : Int) := of_decide_eq_true (by first | (with_reducible assumption) | assumption)
        obtain ⟨XE, zzi, Uj⟩ := Kd.xG (Kd.yh qQ.out).2.2 qL XT XU
        cases zzi
        replace XT := eq_true XT
        replace XU := eq_true XU
        go_upto_region 14 with (first | ((with_reducible refine yI (f := 80) rfl ?_); refine je (some 28) Tryz.func80 #[.string (yG ByteArray.empty vv qL), .int .u8 32] ?_; (with_reducible refine (qg.calls k1 (yG ByteArray.empty vv qL) 32 zW _ A9.out).mono ?_); rintro e w33 ⟨VN, rfl, ho0, hb⟩; refine ⟨_, rfl, ?_⟩; have zn := zy.mk (Kd.bN (yK qQ.out) (Kd.lV ho0) hb); have zA := zy.mk (Kd.zR (yK zl.out) hb); have zH := zy.mk (Kd.zR (yK zu.out) hb); have zP := zy.mk (Kd.zR (yK zm.out) hb); have qj := zy.mk (Kd.jk (Kd.lY ho0 (Kd.zv5 (yK qQ.out))) (zO (yX HB.out))); have xw := zy.mk (zf (g := yM) (o := .cells #[.string qK, .bool yT, .int .i64 yC, .slice none 0 0, .slice none 0 0, .slice none 0 0] 44 (0, 0)) (qX ze.out) hb); have xO := zy.mk (zf (g := yV) (o := .cells #[.string zF, .bool zG, .int .i64 zI, qP, xW, qR] 44 (0, 0)) (qX zY.out) hb); have ug := zy.mk (yY (yX HB.out) hb); clear qQ; clear zl; clear zu; clear zm; clear ze; clear zY; clear HB; have qQ := zn; have zl := zA; have zu := zH; have zm := zP; have jH := qj; have ze := xw; have zY := xO; have HB := ug; clear zn zA zH zP qj xw xO ug; (try clear hb); (try clear hb2); (try clear hk); (try clear hi); (try clear ho0)))
        (try simp only [Act.put, List.setIfInBounds_toArray, List.set_cons_zero, List.set_cons_succ])
        go_cut [8] (fun v8 wc => ∃ (kq : Nat) (iU : Bool), v8 = .bool iU ∧ zy (zZ.j2 kq a0 vv qL zW iU zF zG zI yD yL yH = some (r1, r2, r3, r4, r5, r6, r7)) ∧ zy (kq ≤ k1) ∧ zy (Kd.R Kd.string 9 wc w.heap.size (fun k_ => some k_ ≠ (VN : Value).ownBlock) (.slice (some XE) vv.length zJM) vv) ∧ zy (Kd.R Kd.string 9 wc w.heap.size (fun k_ => some k_ ≠ ((.slice (some XE) vv.length zJM) : Value).ownBlock) VN zW) ∧ zy (Kd.R jC 81 wc w.heap.size (fun _ => True) qP yD) ∧ zy (Kd.R kR 83 wc w.heap.size (fun _ => True) xW yL) ∧ zy (Kd.R kE 84 wc w.heap.size (fun _ => True) qR yH) ∧ zy (wc.heap[yM]? = some (.cells #[.string qK, .bool yT, .int .i64 yC, (.slice none 0 0), (.slice none 0 0), (.slice none 0 0)] 44 (0, 0))) ∧ zy (wc.heap[yV]? = some (.cells #[.string zF, .bool zG, .int .i64 zI, qP, xW, qR] 44 (0, 0))) ∧ zy (Below w.heap.size w wc))
        case first =>
         have H := zk5.out
         clear zk5
         by_cases c34 : 0 < (zW.length : Int)
         ·rw [if_pos c34] at H
          have lq : decide (0 < (zW.length : Int)) = true := decide_eq_true c34
          have zwi : decide (0 < zW.length) = true := decide_eq_true (by omega)
          clear c34
          (first | rw [lq] | (simp only [wJ, wV]; rw [lq]) | skip)
          by_cases nM : (yG ByteArray.empty zW 0).toList = ([115, 112, 97, 99, 101] : List UInt8)
          ·rw [if_pos nM] at H
           have zjJ : ((yG ByteArray.empty zW 0).toList == ([115, 112, 97, 99, 101] : List UInt8)) = true := beq_iff_eq.mpr nM
           have zjV : ((yG ByteArray.empty zW 0).toList != ([115, 112, 97, 99, 101] : List UInt8)) = false := bne_eq_false_iff_eq.mpr nM
           clear nM
           as_aux_lemma =>
            have H' := zy.mk H
            clear H
            obtain ⟨zlk, zly, za0⟩ := Kd.yx jH.out
            subst za0
            have JX : 0 ≤ (0 : Int) := (by omega)
            have JJ : 0 < (zW.length : Int) := of_decide_eq_true (by first | (with_reducible assumption) | assumption)
            obtain ⟨zYr, zk6, QX⟩ := Kd.xG (Kd.yh jH.out).2.2 0 JX JJ
            cases zk6
            have zYs : (0 < zW.length) = True := eq_true (by omega)
            (try rw [show ((0 : Int)).toNat = 0 from rfl] at QX)
            (try rw [Addr.add_zero'] at QX)
            replace JX := eq_true JX
            replace JJ := eq_true JJ
            go_wp2
            go_meet
            case rel => exact ⟨_, (((zW.length : Int) == 2)), (by first | rfl | (simp; done) | (simp [*]; done)), H', ⟨by have := vT.out; first | omega | exact Nat.le_refl _⟩, ⟨by (with_reducible repeat (first | apply Kd.qE | apply Kd.qp | apply Kd.yR)); exact Kd.yN qQ.out (fun _ hk => hk.2)⟩, ⟨by (with_reducible repeat (first | apply Kd.qE | apply Kd.qp | apply Kd.yR)); exact Kd.yN jH.out (fun _ hk => hk.2)⟩, ⟨yK zl.out⟩, ⟨yK zu.out⟩, ⟨yK zm.out⟩, ⟨qX ze.out⟩, ⟨qX zY.out⟩, ⟨yX HB.out⟩⟩
          ·rw [if_neg nM] at H
           have zjJ : ((yG ByteArray.empty zW 0).toList == ([115, 112, 97, 99, 101] : List UInt8)) = false := beq_eq_false_iff_ne.mpr nM
           have zjV : ((yG ByteArray.empty zW 0).toList != ([115, 112, 97, 99, 101] : List UInt8)) = true := bne_iff_ne.mpr nM
           as_aux_lemma =>
            have H' := zy.mk H
            clear H
            obtain ⟨zlw, zlZ, za1⟩ := Kd.yx jH.out
            subst za1
            have JX : 0 ≤ (0 : Int) := (by omega)
            have JJ : 0 < (zW.length : Int) := of_decide_eq_true (by first | (with_reducible assumption) | assumption)
            obtain ⟨zYr, zk6, QX⟩ := Kd.xG (Kd.yh jH.out).2.2 0 JX JJ
            cases zk6
            have zYs : (0 < zW.length) = True := eq_true (by omega)
            (try rw [show ((0 : Int)).toNat = 0 from rfl] at QX)
            (try rw [Addr.add_zero'] at QX)
            replace JX := eq_true JX
            replace JJ := eq_true JJ
            go_wp2
            go_meet
            case rel => exact ⟨_, (false), (by first | rfl | (simp; done) | (simp [*]; done)), H', ⟨by have := vT.out; first | omega | exact Nat.le_refl _⟩, ⟨by (with_reducible repeat (first | apply Kd.qE | apply Kd.qp | apply Kd.yR)); exact Kd.yN qQ.out (fun _ hk => hk.2)⟩, ⟨by (with_reducible repeat (first | apply Kd.qE | apply Kd.qp | apply Kd.yR)); exact Kd.yN jH.out (fun _ hk => hk.2)⟩, ⟨yK zl.out⟩, ⟨yK zu.out⟩, ⟨yK zm.out⟩, ⟨qX ze.out⟩, ⟨qX zY.out⟩, ⟨yX HB.out⟩⟩
         ·rw [if_neg c34] at H
          exact absurd H (by simp)
        case rest =>
         clear zk5
         try clear c1
         try clear c2
         try clear p2
         try clear c3
         try clear p5
         try clear q5
         try clear hx5
         try clear eU
         try clear c6
         try clear Xf
         try clear p6
         try clear c7
         try clear QN
         try clear c8
         try clear Y0
         try clear c10
         try clear VU
         try clear nJ
         try clear c14
         try clear Ke
         try clear zjk
         try clear c15
         try clear iN
         try clear iO
         try clear c16
         try clear P8
         try clear P9
         try clear c18
         try clear iR
         try clear iT
         try clear c19
         try clear zjw
         try clear zjZ
         try clear c23
         try clear c24
         try clear zwg
         try clear zwh
         try clear c26
         try clear c28
         try clear nL
         try clear zjQ
         try clear zjX
         try clear c34
         try clear lq
         try clear zwi
         try clear nM
         try clear zjJ
         try clear zjV
         try clear zqj
         try clear zqv
         try clear zqk
         try clear zqy
         try clear zqw
         try clear zqZ
         try clear aZ
         try clear aQ
         try clear aX
         try clear PD
         try clear PE
         try clear PG
         try clear aD
         try clear aG
         try clear aH
         try clear aI
         try clear aM
         try clear aR
         try clear PI
         try clear PN
         try clear PO
         try clear PS
         try clear PU
         try clear P5
         try clear Uj
         try clear wX
         try clear Uv
         try clear JF
         try clear QX
         try clear p2
         try clear p5
         try clear XT
         try clear Yg
         try clear dR
         try clear aA
         try clear JX
         try clear p6
         try clear q5
         try clear XU
         try clear Yh
         try clear dS
         try clear aC
         try clear JJ
         obtain ⟨kq, iU, rfl, HA, zJN, qQ, qM, zl, zu, zm, ze, zY, HB⟩ := hcut
         cases kq with
         | zero => exact absurd HA.out (by simp [zZ.j2])
         | succ dU =>
          have H := HA.out
          clear HA
          simp only [zZ.j2] at H
          by_cases WY : iU = true
          ·subst WY
           have H1 : (if 1 < (zW.length : Int) then ((zB.f dU (yG ByteArray.empty zW 1)).bind fun nG => (if nG.2 = true then (zZ.l0 dU a0 vv (wrap64 (qL + 1)) zF zG nG.1 yD yL yH) else (some ((⟨#[]⟩ : BA), false, 0, ([] : List (qJ)), ([] : List (xK)), ([] : List (xY)), 4)))) else (none)) = some (r1, r2, r3, r4, r5, r6, r7) := by rw [if_pos rfl] at H; exact H
           clear H
           have H := H1
           clear H1
           by_cases c39 : 1 < (zW.length : Int)
           ·rw [if_pos c39] at H
            have zYt : decide (1 < (zW.length : Int)) = true := decide_eq_true c39
            have zYu : decide (1 < zW.length) = true := decide_eq_true (by omega)
            clear c39
            replace H := Option.bind_eq_some_iff.mp H
            obtain ⟨⟨Ki, zJO⟩, zJP, H⟩ := H
            replace H : (if zJO = true then (zZ.l0 dU a0 vv (wrap64 (qL + 1)) zF zG Ki yD yL yH) else (some ((⟨#[]⟩ : BA), false, 0, ([] : List (qJ)), ([] : List (xK)), ([] : List (xY)), 4))) = some (r1, r2, r3, r4, r5, r6, r7) := H
            have Wd := zy.mk zJP
            clear zJP
            by_cases c41 : zJO = true
            ·subst c41
             have H1 : (zZ.l0 dU a0 vv (wrap64 (qL + 1)) zF zG Ki yD yL yH) = some (r1, r2, r3, r4, r5, r6, r7) := by rw [if_pos rfl] at H; exact H
             clear H
             have H := H1
             clear H1
             as_aux_lemma =>
              have H' := zy.mk H
              clear H
              obtain ⟨zlQ, zlX, za2⟩ := Kd.yx qM.out
              subst za2
              have Kl : 0 ≤ (1 : Int) := (by omega)
              have Km : 1 < (zW.length : Int) := of_decide_eq_true (by first | (with_reducible assumption) | assumption)
              obtain ⟨zYA, zk7, VJ⟩ := Kd.xG (Kd.yh qM.out).2.2 1 Kl Km
              cases zk7
              (try simp only [show (1 : Int).toNat = 1 from rfl, Nat.reduceMul, Nat.reduceEqDiff, Go.Addr.add, ↓reduceIte] at VJ)
              have zYB : (1 < zW.length) = True := eq_true (by omega)
              (try rw [show ((1 : Int)).toNat = 1 from rfl] at VJ)
              replace Kl := eq_true Kl
              replace Km := eq_true Km
              go_wp2_with (first | ((with_reducible refine yI (f := 81) rfl ?_); refine je (some 78) Tryz.func81 #[.string (yG ByteArray.empty zW 1)] ?_; (with_reducible refine (zB.calls dU (yG ByteArray.empty zW 1) Ki true _ Wd.out).mono ?_); rintro e w43 ⟨rfl, hb⟩; refine ⟨_, rfl, ?_⟩; have zn := zy.mk (Kd.zR (yK qQ.out) hb); have zA := zy.mk (Kd.zR (yK qM.out) hb); have zH := zy.mk (Kd.zR (yK zl.out) hb); have zP := zy.mk (Kd.zR (yK zu.out) hb); have qj := zy.mk (Kd.zR (yK zm.out) hb); have xw := zy.mk (zf (g := yM) (o := .cells #[.string qK, .bool yT, .int .i64 yC, .slice none 0 0, .slice none 0 0, .slice none 0 0] 44 (0, 0)) (qX ze.out) hb); have xO := zy.mk (zf (g := yV) (o := .cells #[.string zF, .bool zG, .int .i64 zI, qP, xW, qR] 44 (0, 0)) (qX zY.out) hb); have ug := zy.mk (yY (yX HB.out) hb); clear qQ; clear qM; clear zl; clear zu; clear zm; clear ze; clear zY; clear HB; have qQ := zn; have qM := zA; have zl := zH; have zu := zP; have zm := qj; have ze := xw; have zY := xO; have HB := ug; clear zn zA zH zP qj xw xO ug; (try clear hb); (try clear hb2); (try clear hk); (try clear hi); have zh1 := jo.out; have zh2 := uO.out; have zqQ : w43.cell? ⟨yV, 0, none⟩ = some (.string zF) := (zk zY.out 0).trans rfl; have zqX : w43.cell? ⟨yV, 1, none⟩ = some (.bool zG) := (zk zY.out 1).trans rfl; have zqJ : w43.cell? ⟨yV, 2, none⟩ = some (.int .i64 zI) := (zk zY.out 2).trans rfl; have zqV : w43.cell? ⟨yV, 3, none⟩ = some (qP) := (zk zY.out 3).trans rfl; have zqK : w43.cell? ⟨yV, 4, none⟩ = some (xW) := (zk zY.out 4).trans rfl; have zqY : w43.cell? ⟨yV, 5, none⟩ = some (qR) := (zk zY.out 5).trans rfl; have zqW := zw zY.out 0; have zqa := zw zY.out 1; have zqb := zw zY.out 2; have zqc := zw zY.out 3; have zqd := zw zY.out 4; have zqe := zw zY.out 5))
              go_roundg dU
              case measure => have := vT.out; have := zJN.out; omega
              case rel => exact ⟨(wrap64 (qL + 1)), (qK), (yT), (yC), (zF), (zG), (Ki), (yD), (yL), (yH), (qP), (xW), (qR), (by first | rfl | (simp; done) | (simp [*]; done)), H', ⟨by have := vT.out; have := zJN.out; omega⟩, ⟨by (with_reducible repeat (first | apply Kd.qE | apply Kd.qp | apply Kd.yR)); exact Kd.yN (Kd.qy (p := ⟨yV, 2, none⟩) (Kd.vQ qQ.out zY.out (by decide)) (fun _ hk => hk.2) (.int .i64 Ki)) (fun _ hk => trivial)⟩, ⟨by (with_reducible repeat (first | apply Kd.qE | apply Kd.qp | apply Kd.yR)); exact Kd.yN (Kd.qy (p := ⟨yV, 2, none⟩) (Kd.vQ zl.out zY.out (by decide)) (fun _ hk => hk.2) (.int .i64 Ki)) (fun _ hk => trivial)⟩, ⟨by (with_reducible repeat (first | apply Kd.qE | apply Kd.qp | apply Kd.yR)); exact Kd.yN (Kd.qy (p := ⟨yV, 2, none⟩) (Kd.vQ zu.out zY.out (by decide)) (fun _ hk => hk.2) (.int .i64 Ki)) (fun _ hk => trivial)⟩, ⟨by (with_reducible repeat (first | apply Kd.qE | apply Kd.qp | apply Kd.yR)); exact Kd.yN (Kd.qy (p := ⟨yV, 2, none⟩) (Kd.vQ zm.out zY.out (by decide)) (fun _ hk => hk.2) (.int .i64 Ki)) (fun _ hk => trivial)⟩, ⟨bY ze.out⟩, ⟨by (with_reducible repeat (first | refine zC ?_ _ | refine zo ?_ | refine zV ?_ _)); refine zD (cs := #[.string zF, .bool zG, .int .i64 zI, qP, xW, qR]) ?_ 2 _ rfl; (with_reducible repeat (first | refine zC ?_ _ | refine zo ?_ | refine zV ?_ _)); exact zY.out⟩, ⟨yX HB.out⟩⟩
            ·replace c41 := Bool.eq_false_iff.mpr c41
             subst c41
             have H1 : (some ((⟨#[]⟩ : BA), false, 0, ([] : List (qJ)), ([] : List (xK)), ([] : List (xY)), 4)) = some (r1, r2, r3, r4, r5, r6, r7) := by rw [if_neg (show ¬ (false = true) by decide)] at H; exact H
             clear H
             have H := H1
             clear H1
             as_aux_lemma =>
              simp only [Option.some.injEq, Prod.mk.injEq] at H
              obtain ⟨rfl, rfl, rfl, rfl, rfl, rfl, rfl⟩ := H
              obtain ⟨zlJ, zlV, za3⟩ := Kd.yx qM.out
              subst za3
              have Kl : 0 ≤ (1 : Int) := (by omega)
              have Km : 1 < (zW.length : Int) := of_decide_eq_true (by first | (with_reducible assumption) | assumption)
              obtain ⟨zYA, zk7, VJ⟩ := Kd.xG (Kd.yh qM.out).2.2 1 Kl Km
              cases zk7
              (try simp only [show (1 : Int).toNat = 1 from rfl, Nat.reduceMul, Nat.reduceEqDiff, Go.Addr.add, ↓reduceIte] at VJ)
              have zYB : (1 < zW.length) = True := eq_true (by omega)
              (try rw [show ((1 : Int)).toNat = 1 from rfl] at VJ)
              replace Kl := eq_true Kl
              replace Km := eq_true Km
              go_wp2_with (first | ((with_reducible refine yI (f := 81) rfl ?_); refine je (some 78) Tryz.func81 #[.string (yG ByteArray.empty zW 1)] ?_; (with_reducible refine (zB.calls dU (yG ByteArray.empty zW 1) Ki false _ Wd.out).mono ?_); rintro e KU ⟨rfl, hb⟩; refine ⟨_, rfl, ?_⟩; have zn := zy.mk (Kd.zR (yK qQ.out) hb); have zA := zy.mk (Kd.zR (yK qM.out) hb); have zH := zy.mk (Kd.zR (yK zl.out) hb); have zP := zy.mk (Kd.zR (yK zu.out) hb); have qj := zy.mk (Kd.zR (yK zm.out) hb); have xw := zy.mk (zf (g := yM) (o := .cells #[.string qK, .bool yT, .int .i64 yC, .slice none 0 0, .slice none 0 0, .slice none 0 0] 44 (0, 0)) (qX ze.out) hb); have xO := zy.mk (zf (g := yV) (o := .cells #[.string zF, .bool zG, .int .i64 zI, qP, xW, qR] 44 (0, 0)) (qX zY.out) hb); have ug := zy.mk (yY (yX HB.out) hb); clear qQ; clear qM; clear zl; clear zu; clear zm; clear ze; clear zY; clear HB; have qQ := zn; have qM := zA; have zl := zH; have zu := zP; have zm := qj; have ze := xw; have zY := xO; have HB := ug; clear zn zA zH zP qj xw xO ug; (try clear hb); (try clear hb2); (try clear hk); (try clear hi); have zh3 := jo.out; have zh4 := uO.out; have zqf : KU.cell? ⟨yV, 0, none⟩ = some (.string zF) := (zk zY.out 0).trans rfl; have zqg : KU.cell? ⟨yV, 1, none⟩ = some (.bool zG) := (zk zY.out 1).trans rfl; have zqh : KU.cell? ⟨yV, 2, none⟩ = some (.int .i64 zI) := (zk zY.out 2).trans rfl; have zqi : KU.cell? ⟨yV, 3, none⟩ = some (qP) := (zk zY.out 3).trans rfl; have zql : KU.cell? ⟨yV, 4, none⟩ = some (xW) := (zk zY.out 4).trans rfl; have zqm : KU.cell? ⟨yV, 5, none⟩ = some (qR) := (zk zY.out 5).trans rfl; have zqn := zw zY.out 0; have zqo := zw zY.out 1; have zqp := zw zY.out 2; have zqr := zw zY.out 3; have zqs := zw zY.out 4; have zqt := zw zY.out 5; have zqu : KU.cell? ⟨yM, 0, none⟩ = some (.string qK) := (zk ze.out 0).trans rfl; have zqA : KU.cell? ⟨yM, 1, none⟩ = some (.bool yT) := (zk ze.out 1).trans rfl; have zqB : KU.cell? ⟨yM, 2, none⟩ = some (.int .i64 yC) := (zk ze.out 2).trans rfl; have zqC : KU.cell? ⟨yM, 3, none⟩ = some (.slice none 0 0) := (zk ze.out 3).trans rfl; have zqD : KU.cell? ⟨yM, 4, none⟩ = some (.slice none 0 0) := (zk ze.out 4).trans rfl; have zqE : KU.cell? ⟨yM, 5, none⟩ = some (.slice none 0 0) := (zk ze.out 5).trans rfl; have zqF := zw ze.out 0; have zqG := zw ze.out 1; have zqH := zw ze.out 2; have zqI := zw ze.out 3; have zqL := zw ze.out 4; have zqM := zw ze.out 5))
              refine bodyPost_ret (wT rfl _ _ yM 44 #[.string (⟨#[]⟩ : BA), .bool false, .int .i64 0, .slice none 0 0, .slice none 0 0, .slice none 0 0] (0, 0) _ rfl (by (with_reducible repeat (first | refine zC ?_ _ | refine zo ?_ | refine zV ?_ _)); refine zD (cs := #[.string (⟨#[]⟩ : BA), .bool false, .int .i64 0, .slice none 0 0, .slice none 0 0, .slice none 0 0]) ?_ 5 _ rfl; (with_reducible repeat (first | refine zC ?_ _ | refine zo ?_ | refine zV ?_ _)); refine zD (cs := #[.string (⟨#[]⟩ : BA), .bool false, .int .i64 0, .slice none 0 0, .slice none 0 0, .slice none 0 0]) ?_ 4 _ rfl; (with_reducible repeat (first | refine zC ?_ _ | refine zo ?_ | refine zV ?_ _)); refine zD (cs := #[.string (⟨#[]⟩ : BA), .bool false, .int .i64 0, .slice none 0 0, .slice none 0 0, .slice none 0 0]) ?_ 3 _ rfl; (with_reducible repeat (first | refine zC ?_ _ | refine zo ?_ | refine zV ?_ _)); refine zD (cs := #[.string (⟨#[]⟩ : BA), .bool false, .int .i64 yC, .slice none 0 0, .slice none 0 0, .slice none 0 0]) ?_ 2 _ rfl; (with_reducible repeat (first | refine zC ?_ _ | refine zo ?_ | refine zV ?_ _)); refine zD (cs := #[.string (⟨#[]⟩ : BA), .bool yT, .int .i64 yC, .slice none 0 0, .slice none 0 0, .slice none 0 0]) ?_ 1 _ rfl; (with_reducible repeat (first | refine zC ?_ _ | refine zo ?_ | refine zV ?_ _)); refine zD (cs := #[.string qK, .bool yT, .int .i64 yC, .slice none 0 0, .slice none 0 0, .slice none 0 0]) ?_ 0 _ rfl; (with_reducible repeat (first | refine zC ?_ _ | refine zo ?_ | refine zV ?_ _)); refine vE ?_ uO.out _; (with_reducible repeat (first | refine zC ?_ _ | refine zo ?_ | refine zV ?_ _)); exact ze.out) Tryz.underlying44 rfl (by kernel_rfl)) rfl ?_
              exact ⟨_, _, _, by first | rfl | (simp [yZ, yQ] <;> rfl) | (simp [*, yZ, yQ] <;> rfl), by first | exact Kd.xE _ _ _ _ _ | exact Kd.jY _ _ _ _ _ | exact Kd.jW _ _ _ _ _ | exact Kd.jV _ _ _ _ _ | exact Kd.jK _ _ _ _ _, by first | exact Kd.xE _ _ _ _ _ | exact Kd.jY _ _ _ _ _ | exact Kd.jW _ _ _ _ _ | exact Kd.jV _ _ _ _ _ | exact Kd.jK _ _ _ _ _, by first | exact Kd.xE _ _ _ _ _ | exact Kd.jY _ _ _ _ _ | exact Kd.jW _ _ _ _ _ | exact Kd.jV _ _ _ _ _ | exact Kd.jK _ _ _ _ _, by repeat (first | (with_reducible first | exact HB.out | apply yt | apply zM | apply yP | refine qo ?_ V4.out | refine qo ?_ V5.out) | exact HB.out)⟩
           ·rw [if_neg c39] at H
            exact absurd H (by simp)
          ·replace WY := Bool.eq_false_iff.mpr WY
           subst WY
           have H1 : (some ((⟨#[]⟩ : BA), false, 0, ([] : List (qJ)), ([] : List (xK)), ([] : List (xY)), 4)) = some (r1, r2, r3, r4, r5, r6, r7) := by rw [if_neg (show ¬ (false = true) by decide)] at H; exact H
           clear H
           have H := H1
           clear H1
           as_aux_lemma =>
            simp only [Option.some.injEq, Prod.mk.injEq] at H
            obtain ⟨rfl, rfl, rfl, rfl, rfl, rfl, rfl⟩ := H
            have zh5 := uO.out
            have zh6 := jo.out
            have zqN : wc.cell? ⟨yM, 0, none⟩ = some (.string qK) := (zk ze.out 0).trans rfl
            have zqO : wc.cell? ⟨yM, 1, none⟩ = some (.bool yT) := (zk ze.out 1).trans rfl
            have zqP : wc.cell? ⟨yM, 2, none⟩ = some (.int .i64 yC) := (zk ze.out 2).trans rfl
            have zqR : wc.cell? ⟨yM, 3, none⟩ = some (.slice none 0 0) := (zk ze.out 3).trans rfl
            have zqS : wc.cell? ⟨yM, 4, none⟩ = some (.slice none 0 0) := (zk ze.out 4).trans rfl
            have zqT : wc.cell? ⟨yM, 5, none⟩ = some (.slice none 0 0) := (zk ze.out 5).trans rfl
            have zqU := zw ze.out 0
            have zq0 := zw ze.out 1
            have zq1 := zw ze.out 2
            have zq2 := zw ze.out 3
            have zq3 := zw ze.out 4
            have zq4 := zw ze.out 5
            go_wp2
            refine bodyPost_ret (wT rfl _ _ yM 44 #[.string (⟨#[]⟩ : BA), .bool false, .int .i64 0, .slice none 0 0, .slice none 0 0, .slice none 0 0] (0, 0) _ rfl (by (with_reducible repeat (first | refine zC ?_ _ | refine zo ?_ | refine zV ?_ _)); refine zD (cs := #[.string (⟨#[]⟩ : BA), .bool false, .int .i64 0, .slice none 0 0, .slice none 0 0, .slice none 0 0]) ?_ 5 _ rfl; (with_reducible repeat (first | refine zC ?_ _ | refine zo ?_ | refine zV ?_ _)); refine zD (cs := #[.string (⟨#[]⟩ : BA), .bool false, .int .i64 0, .slice none 0 0, .slice none 0 0, .slice none 0 0]) ?_ 4 _ rfl; (with_reducible repeat (first | refine zC ?_ _ | refine zo ?_ | refine zV ?_ _)); refine zD (cs := #[.string (⟨#[]⟩ : BA), .bool false, .int .i64 0, .slice none 0 0, .slice none 0 0, .slice none 0 0]) ?_ 3 _ rfl; (with_reducible repeat (first | refine zC ?_ _ | refine zo ?_ | refine zV ?_ _)); refine zD (cs := #[.string (⟨#[]⟩ : BA), .bool false, .int .i64 yC, .slice none 0 0, .slice none 0 0, .slice none 0 0]) ?_ 2 _ rfl; (with_reducible repeat (first | refine zC ?_ _ | refine zo ?_ | refine zV ?_ _)); refine zD (cs := #[.string (⟨#[]⟩ : BA), .bool yT, .int .i64 yC, .slice none 0 0, .slice none 0 0, .slice none 0 0]) ?_ 1 _ rfl; (with_reducible repeat (first | refine zC ?_ _ | refine zo ?_ | refine zV ?_ _)); refine zD (cs := #[.string qK, .bool yT, .int .i64 yC, .slice none 0 0, .slice none 0 0, .slice none 0 0]) ?_ 0 _ rfl; (with_reducible repeat (first | refine zC ?_ _ | refine zo ?_ | refine zV ?_ _)); exact ze.out) Tryz.underlying44 rfl (by kernel_rfl)) rfl ?_
            exact ⟨_, _, _, by first | rfl | (simp [yZ, yQ] <;> rfl) | (simp [*, yZ, yQ] <;> rfl), by first | exact Kd.xE _ _ _ _ _ | exact Kd.jY _ _ _ _ _ | exact Kd.jW _ _ _ _ _ | exact Kd.jV _ _ _ _ _ | exact Kd.jK _ _ _ _ _, by first | exact Kd.xE _ _ _ _ _ | exact Kd.jY _ _ _ _ _ | exact Kd.jW _ _ _ _ _ | exact Kd.jV _ _ _ _ _ | exact Kd.jK _ _ _ _ _, by first | exact Kd.xE _ _ _ _ _ | exact Kd.jY _ _ _ _ _ | exact Kd.jW _ _ _ _ _ | exact Kd.jV _ _ _ _ _ | exact Kd.jK _ _ _ _ _, by repeat (first | (with_reducible first | exact HB.out | apply yt | apply zM | apply yP | refine qo ?_ V4.out | refine qo ?_ V5.out) | exact HB.out)⟩
       ·rw [if_neg nL] at H
        have zjQ : (qL == 1) = false := beq_eq_false_iff_ne.mpr nL
        have zjX : (qL != 1) = true := bne_iff_ne.mpr nL
        have zk8 := zy.mk H
        clear H
        obtain ⟨zlK, aT, za4⟩ := Kd.yx qQ.out
        subst za4
        have XT : 0 ≤ (qL : Int) := of_decide_eq_true (by first | (with_reducible assumption) | assumption)
        have XU : qL < (vv.length : Int) := of_decide_eq_true (by first | (with_reducible assumption) | assumption)
        obtain ⟨XE, zzi, Uj⟩ := Kd.xG (Kd.yh qQ.out).2.2 qL XT XU
        cases zzi
        replace XT := eq_true XT
        replace XU := eq_true XU
        go_upto_region 17 with (first | ((with_reducible refine yI (f := 80) rfl ?_); refine je (some 28) Tryz.func80 #[.string (yG ByteArray.empty vv qL), .int .u8 32] ?_; (with_reducible refine (qg.calls k1 (yG ByteArray.empty vv qL) 32 zW _ A9.out).mono ?_); rintro e l7 ⟨VN, rfl, ho0, hb⟩; refine ⟨_, rfl, ?_⟩; have zn := zy.mk (Kd.bN (yK qQ.out) (Kd.lV ho0) hb); have zA := zy.mk (Kd.zR (yK zl.out) hb); have zH := zy.mk (Kd.zR (yK zu.out) hb); have zP := zy.mk (Kd.zR (yK zm.out) hb); have qj := zy.mk (Kd.jk (Kd.lY ho0 (Kd.zv5 (yK qQ.out))) (zO (yX HB.out))); have xw := zy.mk (zf (g := yM) (o := .cells #[.string qK, .bool yT, .int .i64 yC, .slice none 0 0, .slice none 0 0, .slice none 0 0] 44 (0, 0)) (qX ze.out) hb); have xO := zy.mk (zf (g := yV) (o := .cells #[.string zF, .bool zG, .int .i64 zI, qP, xW, qR] 44 (0, 0)) (qX zY.out) hb); have ug := zy.mk (yY (yX HB.out) hb); clear qQ; clear zl; clear zu; clear zm; clear ze; clear zY; clear HB; have qQ := zn; have zl := zA; have zu := zH; have zm := zP; have jH := qj; have ze := xw; have zY := xO; have HB := ug; clear zn zA zH zP qj xw xO ug; (try clear hb); (try clear hb2); (try clear hk); (try clear hi); (try clear ho0)))
        (try simp only [Act.put, List.setIfInBounds_toArray, List.set_cons_zero, List.set_cons_succ])
        go_cut [82] (fun v82 wc => ∃ (kq : Nat) (nN : Bool), v82 = .bool nN ∧ zy (zZ.j3 kq a0 vv qL zW true nN zF zG zI yD yL yH = some (r1, r2, r3, r4, r5, r6, r7)) ∧ zy (kq ≤ k1) ∧ zy (Kd.R Kd.string 9 wc w.heap.size (fun k_ => some k_ ≠ (VN : Value).ownBlock) (.slice (some XE) vv.length aT) vv) ∧ zy (Kd.R Kd.string 9 wc w.heap.size (fun k_ => some k_ ≠ ((.slice (some XE) vv.length aT) : Value).ownBlock) VN zW) ∧ zy (Kd.R jC 81 wc w.heap.size (fun _ => True) qP yD) ∧ zy (Kd.R kR 83 wc w.heap.size (fun _ => True) xW yL) ∧ zy (Kd.R kE 84 wc w.heap.size (fun _ => True) qR yH) ∧ zy (wc.heap[yM]? = some (.cells #[.string qK, .bool yT, .int .i64 yC, (.slice none 0 0), (.slice none 0 0), (.slice none 0 0)] 44 (0, 0))) ∧ zy (wc.heap[yV]? = some (.cells #[.string zF, .bool zG, .int .i64 zI, qP, xW, qR] 44 (0, 0))) ∧ zy (Below w.heap.size w wc))
        case first =>
         have H := zk8.out
         clear zk8
         by_cases c56 : 0 < (zW.length : Int)
         ·rw [if_pos c56] at H
          have zjK : decide (0 < (zW.length : Int)) = true := decide_eq_true c56
          have zYC : decide (0 < zW.length) = true := decide_eq_true (by omega)
          clear c56
          (first | rw [zjK] | (simp only [wJ, wV]; rw [zjK]) | skip)
          by_cases iK : (yG ByteArray.empty zW 0).toList = ([103] : List UInt8)
          ·rw [if_pos iK] at H
           have zwl : ((yG ByteArray.empty zW 0).toList == ([103] : List UInt8)) = true := beq_iff_eq.mpr iK
           have zwm : ((yG ByteArray.empty zW 0).toList != ([103] : List UInt8)) = false := bne_eq_false_iff_eq.mpr iK
           clear iK
           as_aux_lemma =>
            have H' := zy.mk H
            clear H
            obtain ⟨zlY, zlW, za5⟩ := Kd.yx jH.out
            subst za5
            have Kn : 0 ≤ (0 : Int) := (by omega)
            have Ko : 0 < (zW.length : Int) := of_decide_eq_true (by first | (with_reducible assumption) | assumption)
            obtain ⟨zYD, zk9, VK⟩ := Kd.xG (Kd.yh jH.out).2.2 0 Kn Ko
            cases zk9
            have zYE : (0 < zW.length) = True := eq_true (by omega)
            (try rw [show ((0 : Int)).toNat = 0 from rfl] at VK)
            (try rw [Addr.add_zero'] at VK)
            replace Kn := eq_true Kn
            replace Ko := eq_true Ko
            go_wp2
            go_meet
            case rel => exact ⟨_, (((zW.length : Int) == 3)), (by first | rfl | (simp; done) | (simp [*]; done)), H', ⟨by have := vT.out; first | omega | exact Nat.le_refl _⟩, ⟨by (with_reducible repeat (first | apply Kd.qE | apply Kd.qp | apply Kd.yR)); exact Kd.yN qQ.out (fun _ hk => hk.2)⟩, ⟨by (with_reducible repeat (first | apply Kd.qE | apply Kd.qp | apply Kd.yR)); exact Kd.yN jH.out (fun _ hk => hk.2)⟩, ⟨yK zl.out⟩, ⟨yK zu.out⟩, ⟨yK zm.out⟩, ⟨qX ze.out⟩, ⟨qX zY.out⟩, ⟨yX HB.out⟩⟩
          ·rw [if_neg iK] at H
           have zwl : ((yG ByteArray.empty zW 0).toList == ([103] : List UInt8)) = false := beq_eq_false_iff_ne.mpr iK
           have zwm : ((yG ByteArray.empty zW 0).toList != ([103] : List UInt8)) = true := bne_iff_ne.mpr iK
           as_aux_lemma =>
            have H' := zy.mk H
            clear H
            obtain ⟨zla, zlb, za6⟩ := Kd.yx jH.out
            subst za6
            have Kn : 0 ≤ (0 : Int) := (by omega)
            have Ko : 0 < (zW.length : Int) := of_decide_eq_true (by first | (with_reducible assumption) | assumption)
            obtain ⟨zYD, zk9, VK⟩ := Kd.xG (Kd.yh jH.out).2.2 0 Kn Ko
            cases zk9
            have zYE : (0 < zW.length) = True := eq_true (by omega)
            (try rw [show ((0 : Int)).toNat = 0 from rfl] at VK)
            (try rw [Addr.add_zero'] at VK)
            replace Kn := eq_true Kn
            replace Ko := eq_true Ko
            go_wp2
            go_meet
            case rel => exact ⟨_, (false), (by first | rfl | (simp; done) | (simp [*]; done)), H', ⟨by have := vT.out; first | omega | exact Nat.le_refl _⟩, ⟨by (with_reducible repeat (first | apply Kd.qE | apply Kd.qp | apply Kd.yR)); exact Kd.yN qQ.out (fun _ hk => hk.2)⟩, ⟨by (with_reducible repeat (first | apply Kd.qE | apply Kd.qp | apply Kd.yR)); exact Kd.yN jH.out (fun _ hk => hk.2)⟩, ⟨yK zl.out⟩, ⟨yK zu.out⟩, ⟨yK zm.out⟩, ⟨qX ze.out⟩, ⟨qX zY.out⟩, ⟨yX HB.out⟩⟩
         ·rw [if_neg c56] at H
          exact absurd H (by simp)
        case rest =>
         clear zk8
         try clear c1
         try clear c2
         try clear p2
         try clear c3
         try clear c4
         try clear c5
         try clear p5
         try clear q5
         try clear hx5
         try clear eU
         try clear c6
         try clear Xf
         try clear p6
         try clear c7
         try clear QN
         try clear c8
         try clear Y0
         try clear c10
         try clear VU
         try clear nJ
         try clear c14
         try clear Ke
         try clear zjk
         try clear c15
         try clear iN
         try clear iO
         try clear c16
         try clear P8
         try clear P9
         try clear c18
         try clear iR
         try clear iT
         try clear c19
         try clear zjw
         try clear zjZ
         try clear c23
         try clear c24
         try clear zwg
         try clear zwh
         try clear c26
         try clear c28
         try clear nL
         try clear zjQ
         try clear zjX
         try clear c34
         try clear lq
         try clear zwi
         try clear nM
         try clear zjJ
         try clear zjV
         try clear WY
         try clear c39
         try clear zYt
         try clear zYu
         try clear c41
         try clear c44
         try clear c48
         try clear c51
         try clear c56
         try clear zjK
         try clear zYC
         try clear iK
         try clear zwl
         try clear zwm
         try clear p57
         try clear q57
         try clear za7
         try clear p58
         try clear q58
         try clear za8
         try clear zlc
         try clear zqj
         try clear zqv
         try clear zqk
         try clear zqy
         try clear zqw
         try clear zqZ
         try clear aZ
         try clear aQ
         try clear aX
         try clear PD
         try clear PE
         try clear PG
         try clear zqQ
         try clear zqX
         try clear zqJ
         try clear zqV
         try clear zqK
         try clear zqY
         try clear zqf
         try clear zqg
         try clear zqh
         try clear zqi
         try clear zql
         try clear zqm
         try clear zqu
         try clear zqA
         try clear zqB
         try clear zqC
         try clear zqD
         try clear zqE
         try clear zqN
         try clear zqO
         try clear zqP
         try clear zqR
         try clear zqS
         try clear zqT
         try clear aD
         try clear aG
         try clear aH
         try clear aI
         try clear aM
         try clear aR
         try clear PI
         try clear PN
         try clear PO
         try clear PS
         try clear PU
         try clear P5
         try clear zqW
         try clear zqa
         try clear zqb
         try clear zqc
         try clear zqd
         try clear zqe
         try clear zqn
         try clear zqo
         try clear zqp
         try clear zqr
         try clear zqs
         try clear zqt
         try clear zqF
         try clear zqG
         try clear zqH
         try clear zqI
         try clear zqL
         try clear zqM
         try clear zqU
         try clear zq0
         try clear zq1
         try clear zq2
         try clear zq3
         try clear zq4
         try clear Uj
         try clear wX
         try clear Uv
         try clear JF
         try clear QX
         try clear VJ
         try clear VK
         try clear p2
         try clear p5
         try clear XT
         try clear Yg
         try clear dR
         try clear aA
         try clear JX
         try clear Kl
         try clear Kn
         try clear p6
         try clear q5
         try clear XU
         try clear Yh
         try clear dS
         try clear aC
         try clear JJ
         try clear Km
         try clear Ko
         obtain ⟨kq, nN, rfl, HA, JV, qQ, qM, zl, zu, zm, ze, zY, HB⟩ := hcut
         cases kq with
         | zero => exact absurd HA.out (by simp [zZ.j3])
         | succ Us =>
          have H := HA.out
          clear HA
          simp only [zZ.j3] at H
          by_cases c60 : nN = true
          ·subst c60
           have H1 : (if 2 < (zW.length : Int) then ((zB.f Us (yG ByteArray.empty zW 2)).bind fun nH => (if 1 < (zW.length : Int) then (if yD.length < 5864062014805 then (if nH.2 = true then (zZ.l0 Us a0 vv (wrap64 (qL + 1)) zF zG zI (yD ++ [(⟨yG ByteArray.empty zW 1, nH.1⟩ : qJ)]) yL yH) else (some ((⟨#[]⟩ : BA), false, 0, ([] : List (qJ)), ([] : List (xK)), ([] : List (xY)), 4))) else (none)) else (none))) else (none)) = some (r1, r2, r3, r4, r5, r6, r7) := by rw [if_pos rfl] at H; exact H
           clear H
           have H := H1
           clear H1
           by_cases Jo : 2 < (zW.length : Int)
           ·rw [if_pos Jo] at H
            have zxo : decide (2 < (zW.length : Int)) = true := decide_eq_true Jo
            have zxp : decide (2 < zW.length) = true := decide_eq_true (by omega)
            clear Jo
            replace H := Option.bind_eq_some_iff.mp H
            obtain ⟨⟨JK, zyz⟩, zJR, H⟩ := H
            replace H : (if 1 < (zW.length : Int) then (if yD.length < 5864062014805 then (if zyz = true then (zZ.l0 Us a0 vv (wrap64 (qL + 1)) zF zG zI (yD ++ [(⟨yG ByteArray.empty zW 1, JK⟩ : qJ)]) yL yH) else (some ((⟨#[]⟩ : BA), false, 0, ([] : List (qJ)), ([] : List (xK)), ([] : List (xY)), 4))) else (none)) else (none)) = some (r1, r2, r3, r4, r5, r6, r7) := H
            have A62 := zy.mk zJR
            clear zJR
            by_cases c63 : 1 < (zW.length : Int)
            ·rw [if_pos c63] at H
             have zYF : decide (1 < (zW.length : Int)) = true := decide_eq_true c63
             have zYG : decide (1 < zW.length) = true := decide_eq_true (by omega)
             clear c63
             by_cases c64 : yD.length < 5864062014805
             ·rw [if_pos c64] at H
              have zwn := zy.mk c64
              clear c64
              obtain ⟨WT, nO⟩ : ∃ y_ : List (qJ), y_ = (yD ++ [(⟨yG ByteArray.empty zW 1, JK⟩ : qJ)]) := ⟨_, rfl⟩
              replace H : (if zyz = true then (zZ.l0 Us a0 vv (wrap64 (qL + 1)) zF zG zI WT yL yH) else (some ((⟨#[]⟩ : BA), false, 0, ([] : List (qJ)), ([] : List (xK)), ([] : List (xY)), 4))) = some (r1, r2, r3, r4, r5, r6, r7) := by first | (rw [nO]; with_reducible exact H) | (have uN := (Option.bind_some _ _).symm.trans H; rw [nO]; with_reducible exact uN) | (have uN := (Option.bind_some _ _).symm.trans H; with_reducible exact uN) | with_reducible exact H | (rw [nO]; exact H) | exact H
              have zwo := zy.mk nO
              clear nO
              by_cases c65 : zyz = true
              ·subst c65
               have H1 : (zZ.l0 Us a0 vv (wrap64 (qL + 1)) zF zG zI WT yL yH) = some (r1, r2, r3, r4, r5, r6, r7) := by rw [if_pos rfl] at H; exact H
               clear H
               have H := H1
               clear H1
               as_aux_lemma =>
                have H' := zy.mk H
                clear H
                obtain ⟨l8, l9, zkX⟩ := Kd.yx qM.out
                subst zkX
                have WU : 0 ≤ (2 : Int) := (by omega)
                have W9 : 2 < (zW.length : Int) := of_decide_eq_true (by first | (with_reducible assumption) | assumption)
                obtain ⟨Kt, zyq, Uk⟩ := Kd.xG (Kd.yh qM.out).2.2 2 WU W9
                cases zyq
                (try simp only [show (2 : Int).toNat = 2 from rfl, Nat.reduceMul, Nat.reduceEqDiff, Go.Addr.add, ↓reduceIte] at Uk)
                have zYH : (2 < zW.length) = True := eq_true (by omega)
                (try rw [show ((2 : Int)).toNat = 2 from rfl] at Uk)
                replace WU := eq_true WU
                replace W9 := eq_true W9
                try go_wp2_with (first | ((with_reducible refine yI (f := 81) rfl ?_); refine je (some 96) Tryz.func81 #[.string (yG ByteArray.empty zW 2)] ?_; (with_reducible refine (zB.calls Us (yG ByteArray.empty zW 2) JK true _ A62.out).mono ?_); rintro e w67 ⟨rfl, hb⟩; refine ⟨_, rfl, ?_⟩; have zn := zy.mk (Kd.zR (yK qQ.out) hb); have zA := zy.mk (Kd.zR (yK qM.out) hb); have zH := zy.mk (Kd.zR (yK zl.out) hb); have zP := zy.mk (Kd.zR (yK zu.out) hb); have qj := zy.mk (Kd.zR (yK zm.out) hb); have xw := zy.mk (zf (g := yM) (o := .cells #[.string qK, .bool yT, .int .i64 yC, .slice none 0 0, .slice none 0 0, .slice none 0 0] 44 (0, 0)) (qX ze.out) hb); have xO := zy.mk (zf (g := yV) (o := .cells #[.string zF, .bool zG, .int .i64 zI, qP, xW, qR] 44 (0, 0)) (qX zY.out) hb); have ug := zy.mk (yY (yX HB.out) hb); clear qQ; clear qM; clear zl; clear zu; clear zm; clear ze; clear zY; clear HB; have qQ := zn; have qM := zA; have zl := zH; have zu := zP; have zm := qj; have ze := xw; have zY := xO; have HB := ug; clear zn zA zH zP qj xw xO ug; (try clear hb); (try clear hb2); (try clear hk); (try clear hi)))
                have zn := zy.mk (Kd.yR qQ.out)
                have zA := zy.mk (Kd.yR qM.out)
                have zH := zy.mk (Kd.yR zl.out)
                have zP := zy.mk (Kd.yR zu.out)
                have qj := zy.mk (Kd.yR zm.out)
                have xw := zy.mk (zo ze.out)
                have xO := zy.mk (zo zY.out)
                have ug := zy.mk (yP HB.out)
                clear qQ qM zl zu zm ze zY HB
                have qQ := zn
                have qM := zA
                have zl := zH
                have zu := zP
                have zm := qj
                have ze := xw
                have zY := xO
                have HB := ug
                clear zn zA zH zP qj xw xO ug
                have Pz : 0 ≤ (1 : Int) := (by omega)
                have Pq : 1 < (zW.length : Int) := of_decide_eq_true (by first | (with_reducible assumption) | assumption)
                obtain ⟨zjY, zyx, Yp⟩ := Kd.xG (Kd.yh qM.out).2.2 1 Pz Pq
                obtain rfl : Kt = zjY := (by injection zyx)
                (try simp only [show (1 : Int).toNat = 1 from rfl, Nat.reduceMul, Nat.reduceEqDiff, Go.Addr.add, ↓reduceIte] at Yp)
                have zYI : (1 < zW.length) = True := eq_true (by omega)
                (try rw [show ((1 : Int)).toNat = 1 from rfl] at Yp)
                replace Pz := eq_true Pz
                replace Pq := eq_true Pq
                refine jU (n := 11) (S := fun w' => w'.cell? ⟨yV, 0, none⟩ = some (.string zF) ∧ w'.cell? ⟨yV, 1, none⟩ = some (.bool zG) ∧ w'.cell? ⟨yV, 2, none⟩ = some (.int .i64 zI) ∧ w'.cell? ⟨yV, 3, none⟩ = some (qP) ∧ w'.cell? ⟨yV, 4, none⟩ = some (xW) ∧ w'.cell? ⟨yV, 5, none⟩ = some (qR) ∧ w'.cell? ⟨Kt.block, Kt.off + 1, none⟩ = some (.string (yG ByteArray.empty zW 1))) (ds := [8, 10]) #[false, false, false, false, false, false, false, false, false, false, false] (by kernel_rfl) rfl rfl ⟨(zk zY.out 0).trans rfl, (zk zY.out 1).trans rfl, (zk zY.out 2).trans rfl, (zk zY.out 3).trans rfl, (zk zY.out 4).trans rfl, (zk zY.out 5).trans rfl, Yp⟩ (fun hHeld => ?_); refine jN zZ.zwe zZ.zvA (fun zi vR => ?_)
                generalize w67.drew = w68 at qQ qM zl zu zm ze zY HB Yp hHeld ⊢
                refine qz 0 (some 100) zi ?_
                refine qz 2 (some 102) zi ?_
                refine qz 3 (some 103) zi ?_
                refine qz 5 (some 105) zi ?_
                refine uG 1 (some 101) zi vR hHeld ?_
                refine uG 4 (some 104) zi vR hHeld ?_
                refine qz 6 (some 106) zi ?_
                refine pO 7 (some 107) zi (fun K hK => ?_)
                refine QY ?_
                refine hK.out _ _ ⟨(zk (zV zY.out _) 0).trans rfl, (zk (zV zY.out _) 1).trans rfl, (zk (zV zY.out _) 2).trans rfl, (zk (zV zY.out _) 3).trans rfl, (zk (zV zY.out _) 4).trans rfl, (zk (zV zY.out _) 5).trans rfl, (World.cell?_alloc_lt _ _ _ (World.block_lt_of_cell? _ _ (hHeld.2.2.2.2.2.2))).trans (hHeld.2.2.2.2.2.2)⟩ (fun hHeld => ?_)
                clear hK K
                refine jO (some 107) ?_
                refine kD (i := 8) (N := some 108) #[true, true, true, true, true, true, true, true, true, false, false] rfl rfl (vG zi.out (by kernel_rfl)) (by decide) (fun K hK => ?_)
                refine Kd.vD jC (w0 := w) w.heap.size (by rfl) (.tmp 101) (.tmp 107) 40 81 (.agg #[(.string ⟨#[]⟩), (.int .i64 0)]) 24 rfl Tryz.underlying40 WQ rfl (by decide) (by omega) qP yD (⟨yG ByteArray.empty zW 1, JK⟩ : qJ) [.string (yG ByteArray.empty zW 1), .int .i64 JK] (fun _ => True) (fun _ => False) rfl rfl ?aP (fun _ hk => hk.elim) ?aF ?aO ?aB ?aS ?aL ?_
                (case aP => exact Jh _ _ _ (⟨yG ByteArray.empty zW 1, JK⟩ : qJ))
                (case aB => exact (yX HB.out))
                (case aF => exact (fun _ _ => trivial))
                (case aO => exact (yK zl.out))
                (case aS => exact (zO (yX HB.out)))
                (case aL => have := zwn.out; omega)
                intro za9 w69 ho hb hg hat
                rw [← zwo.out] at ho
                have zn := zy.mk (Kd.vN (yK qQ.out) (Kd.vM (yK zl.out)) (by decide) hg)
                have zA := zy.mk (Kd.vN (yK qM.out) (Kd.vM (yK zl.out)) (by decide) hg)
                have zH := zy.mk (Kd.vN (yK zu.out) (Kd.vM (yK zl.out)) (by decide) hg)
                have zP := zy.mk (Kd.vN (yK zm.out) (Kd.vM (yK zl.out)) (by decide) hg)
                have qj := zy.mk (qx (g := yM) (o := .cells #[.string qK, .bool yT, .int .i64 yC, .slice none 0 0, .slice none 0 0, .slice none 0 0] 44 (0, 0)) (qX ze.out) hg (Kd.uX zl.out ze.out (by decide)))
                have xw := zy.mk (qx (g := yV) (o := .cells #[.string zF, .bool zG, .int .i64 zI, qP, xW, qR] 44 (0, 0)) (qX zY.out) hg (Kd.uX zl.out zY.out (by decide)))
                have xO := zy.mk (hb)
                have ug := zy.mk (ho)
                clear qQ qM zu zm ze zY HB zl
                have qQ := zn
                have qM := zA
                have zu := zH
                have zm := zP
                have ze := qj
                have zY := xw
                have HB := xO
                have lZ := ug
                clear zn zA zH zP qj xw xO ug ho hb hg hat
                obtain ⟨zzl, zzm, zJS⟩ := Kd.yx lZ.out
                (first | subst zJS | (injection zJS with YT Ua YU; have Ub := YT.symm; have Uc := YU.symm; clear YT Ua YU; subst Ub; subst Uc))
                refine hK.out _ _ ?_
                clear hK K
                refine jO (some 108) ?_
                refine qz 9 (some 109) zi ?_
                refine kD (i := 10) (N := none) #[true, true, true, true, true, true, true, true, true, true, true] rfl rfl (vG zi.out (by kernel_rfl)) (by decide) (fun K hK => ?_)
                have zld : w69.cell? ⟨yV, 3, none⟩ = some (qP) := (zk zY.out 3).trans rfl
                have zh7 := zw zY.out 3
                have zgO := uO.out
                have zgP := jo.out
                refine Zy (w1 := ?_) (by rfl) rfl ?_ ?_
                rotate_left
                ·go_simp
                 rfl
                refine hK.out _ _ ?_
                clear hK K
                refine vO (xH zi.out (by kernel_rfl)) ?_
                try go_wp2
                go_roundg Us
                case measure => have := vT.out; have := JV.out; omega
                case rel => exact ⟨(wrap64 (qL + 1)), (qK), (yT), (yC), (zF), (zG), (zI), (WT), (yL), (yH), (.slice zzl WT.length zzm), (xW), (qR), (by first | rfl | (simp; done) | (simp [*]; done)), H', ⟨by have := vT.out; have := JV.out; omega⟩, ⟨by (with_reducible repeat (first | apply Kd.qE | apply Kd.qp | apply Kd.yR)); exact Kd.yN (Kd.qy (p := ⟨yV, 3, none⟩) (Kd.vQ qQ.out zY.out (by decide)) (fun _ hk => hk.2) (.slice zzl WT.length zzm)) (fun _ hk => trivial)⟩, ⟨by (with_reducible repeat (first | apply Kd.qE | apply Kd.qp | apply Kd.yR)); exact Kd.yN (Kd.qy (p := ⟨yV, 3, none⟩) (Kd.vQ lZ.out zY.out (by decide)) (fun _ hk => hk.2) (.slice zzl WT.length zzm)) (fun _ hk => trivial)⟩, ⟨by (with_reducible repeat (first | apply Kd.qE | apply Kd.qp | apply Kd.yR)); exact Kd.yN (Kd.qy (p := ⟨yV, 3, none⟩) (Kd.vQ zu.out zY.out (by decide)) (fun _ hk => hk.2) (.slice zzl WT.length zzm)) (fun _ hk => trivial)⟩, ⟨by (with_reducible repeat (first | apply Kd.qE | apply Kd.qp | apply Kd.yR)); exact Kd.yN (Kd.qy (p := ⟨yV, 3, none⟩) (Kd.vQ zm.out zY.out (by decide)) (fun _ hk => hk.2) (.slice zzl WT.length zzm)) (fun _ hk => trivial)⟩, ⟨bY ze.out⟩, ⟨by (with_reducible repeat (first | refine zC ?_ _ | refine zo ?_ | refine zV ?_ _)); refine zD (cs := #[.string zF, .bool zG, .int .i64 zI, qP, xW, qR]) ?_ 3 _ rfl; (with_reducible repeat (first | refine zC ?_ _ | refine zo ?_ | refine zV ?_ _)); exact zY.out⟩, ⟨yX HB.out⟩⟩
              ·replace c65 := Bool.eq_false_iff.mpr c65
               subst c65
               have H1 : (some ((⟨#[]⟩ : BA), false, 0, ([] : List (qJ)), ([] : List (xK)), ([] : List (xY)), 4)) = some (r1, r2, r3, r4, r5, r6, r7) := by rw [if_neg (show ¬ (false = true) by decide)] at H; exact H
               clear H
               have H := H1
               clear H1
               as_aux_lemma =>
                simp only [Option.some.injEq, Prod.mk.injEq] at H
                obtain ⟨rfl, rfl, rfl, rfl, rfl, rfl, rfl⟩ := H
                obtain ⟨zkJ, zkV, zkK⟩ := Kd.yx qM.out
                subst zkK
                have WU : 0 ≤ (2 : Int) := (by omega)
                have W9 : 2 < (zW.length : Int) := of_decide_eq_true (by first | (with_reducible assumption) | assumption)
                obtain ⟨Kt, zyq, Uk⟩ := Kd.xG (Kd.yh qM.out).2.2 2 WU W9
                cases zyq
                (try simp only [show (2 : Int).toNat = 2 from rfl, Nat.reduceMul, Nat.reduceEqDiff, Go.Addr.add, ↓reduceIte] at Uk)
                have zYH : (2 < zW.length) = True := eq_true (by omega)
                (try rw [show ((2 : Int)).toNat = 2 from rfl] at Uk)
                replace WU := eq_true WU
                replace W9 := eq_true W9
                try go_wp2_with (first | ((with_reducible refine yI (f := 81) rfl ?_); refine je (some 96) Tryz.func81 #[.string (yG ByteArray.empty zW 2)] ?_; (with_reducible refine (zB.calls Us (yG ByteArray.empty zW 2) JK false _ A62.out).mono ?_); rintro e fF ⟨rfl, hb⟩; refine ⟨_, rfl, ?_⟩; have zn := zy.mk (Kd.zR (yK qQ.out) hb); have zA := zy.mk (Kd.zR (yK qM.out) hb); have zH := zy.mk (Kd.zR (yK zl.out) hb); have zP := zy.mk (Kd.zR (yK zu.out) hb); have qj := zy.mk (Kd.zR (yK zm.out) hb); have xw := zy.mk (zf (g := yM) (o := .cells #[.string qK, .bool yT, .int .i64 yC, .slice none 0 0, .slice none 0 0, .slice none 0 0] 44 (0, 0)) (qX ze.out) hb); have xO := zy.mk (zf (g := yV) (o := .cells #[.string zF, .bool zG, .int .i64 zI, qP, xW, qR] 44 (0, 0)) (qX zY.out) hb); have ug := zy.mk (yY (yX HB.out) hb); clear qQ; clear qM; clear zl; clear zu; clear zm; clear ze; clear zY; clear HB; have qQ := zn; have qM := zA; have zl := zH; have zu := zP; have zm := qj; have ze := xw; have zY := xO; have HB := ug; clear zn zA zH zP qj xw xO ug; (try clear hb); (try clear hb2); (try clear hk); (try clear hi)))
                have zn := zy.mk (Kd.yR qQ.out)
                have zA := zy.mk (Kd.yR qM.out)
                have zH := zy.mk (Kd.yR zl.out)
                have zP := zy.mk (Kd.yR zu.out)
                have qj := zy.mk (Kd.yR zm.out)
                have xw := zy.mk (zo ze.out)
                have xO := zy.mk (zo zY.out)
                have ug := zy.mk (yP HB.out)
                clear qQ qM zl zu zm ze zY HB
                have qQ := zn
                have qM := zA
                have zl := zH
                have zu := zP
                have zm := qj
                have ze := xw
                have zY := xO
                have HB := ug
                clear zn zA zH zP qj xw xO ug
                have Pz : 0 ≤ (1 : Int) := (by omega)
                have Pq : 1 < (zW.length : Int) := of_decide_eq_true (by first | (with_reducible assumption) | assumption)
                obtain ⟨zjY, zyx, Yp⟩ := Kd.xG (Kd.yh qM.out).2.2 1 Pz Pq
                obtain rfl : Kt = zjY := (by injection zyx)
                (try simp only [show (1 : Int).toNat = 1 from rfl, Nat.reduceMul, Nat.reduceEqDiff, Go.Addr.add, ↓reduceIte] at Yp)
                have zYI : (1 < zW.length) = True := eq_true (by omega)
                (try rw [show ((1 : Int)).toNat = 1 from rfl] at Yp)
                replace Pz := eq_true Pz
                replace Pq := eq_true Pq
                refine jU (n := 11) (S := fun w' => w'.cell? ⟨yV, 0, none⟩ = some (.string zF) ∧ w'.cell? ⟨yV, 1, none⟩ = some (.bool zG) ∧ w'.cell? ⟨yV, 2, none⟩ = some (.int .i64 zI) ∧ w'.cell? ⟨yV, 3, none⟩ = some (qP) ∧ w'.cell? ⟨yV, 4, none⟩ = some (xW) ∧ w'.cell? ⟨yV, 5, none⟩ = some (qR) ∧ w'.cell? ⟨Kt.block, Kt.off + 1, none⟩ = some (.string (yG ByteArray.empty zW 1))) (ds := [8, 10]) #[false, false, false, false, false, false, false, false, false, false, false] (by kernel_rfl) rfl rfl ⟨(zk zY.out 0).trans rfl, (zk zY.out 1).trans rfl, (zk zY.out 2).trans rfl, (zk zY.out 3).trans rfl, (zk zY.out 4).trans rfl, (zk zY.out 5).trans rfl, Yp⟩ (fun hHeld => ?_); refine jN zZ.zwe zZ.zvA (fun zi vR => ?_)
                generalize fF.drew = w74 at qQ qM zl zu zm ze zY HB Yp hHeld ⊢
                refine qz 0 (some 100) zi ?_
                refine qz 2 (some 102) zi ?_
                refine qz 3 (some 103) zi ?_
                refine qz 5 (some 105) zi ?_
                refine uG 1 (some 101) zi vR hHeld ?_
                refine uG 4 (some 104) zi vR hHeld ?_
                refine qz 6 (some 106) zi ?_
                refine pO 7 (some 107) zi (fun K hK => ?_)
                refine QY ?_
                refine hK.out _ _ ⟨(zk (zV zY.out _) 0).trans rfl, (zk (zV zY.out _) 1).trans rfl, (zk (zV zY.out _) 2).trans rfl, (zk (zV zY.out _) 3).trans rfl, (zk (zV zY.out _) 4).trans rfl, (zk (zV zY.out _) 5).trans rfl, (World.cell?_alloc_lt _ _ _ (World.block_lt_of_cell? _ _ (hHeld.2.2.2.2.2.2))).trans (hHeld.2.2.2.2.2.2)⟩ (fun hHeld => ?_)
                clear hK K
                refine jO (some 107) ?_
                refine kD (i := 8) (N := some 108) #[true, true, true, true, true, true, true, true, true, false, false] rfl rfl (vG zi.out (by kernel_rfl)) (by decide) (fun K hK => ?_)
                refine Kd.vD jC (w0 := w) w.heap.size (by rfl) (.tmp 101) (.tmp 107) 40 81 (.agg #[(.string ⟨#[]⟩), (.int .i64 0)]) 24 rfl Tryz.underlying40 WQ rfl (by decide) (by omega) qP yD (⟨yG ByteArray.empty zW 1, JK⟩ : qJ) [.string (yG ByteArray.empty zW 1), .int .i64 JK] (fun _ => True) (fun _ => False) rfl rfl ?aP (fun _ hk => hk.elim) ?aF ?aO ?aB ?aS ?aL ?_
                (case aP => exact Jh _ _ _ (⟨yG ByteArray.empty zW 1, JK⟩ : qJ))
                (case aB => exact (yX HB.out))
                (case aF => exact (fun _ _ => trivial))
                (case aO => exact (yK zl.out))
                (case aS => exact (zO (yX HB.out)))
                (case aL => have := zwn.out; omega)
                intro za9 w75 ho hb hg hat
                rw [← zwo.out] at ho
                have zn := zy.mk (Kd.vN (yK qQ.out) (Kd.vM (yK zl.out)) (by decide) hg)
                have zA := zy.mk (Kd.vN (yK qM.out) (Kd.vM (yK zl.out)) (by decide) hg)
                have zH := zy.mk (Kd.vN (yK zu.out) (Kd.vM (yK zl.out)) (by decide) hg)
                have zP := zy.mk (Kd.vN (yK zm.out) (Kd.vM (yK zl.out)) (by decide) hg)
                have qj := zy.mk (qx (g := yM) (o := .cells #[.string qK, .bool yT, .int .i64 yC, .slice none 0 0, .slice none 0 0, .slice none 0 0] 44 (0, 0)) (qX ze.out) hg (Kd.uX zl.out ze.out (by decide)))
                have xw := zy.mk (qx (g := yV) (o := .cells #[.string zF, .bool zG, .int .i64 zI, qP, xW, qR] 44 (0, 0)) (qX zY.out) hg (Kd.uX zl.out zY.out (by decide)))
                have xO := zy.mk (hb)
                have ug := zy.mk (ho)
                clear qQ qM zu zm ze zY HB zl
                have qQ := zn
                have qM := zA
                have zu := zH
                have zm := zP
                have ze := qj
                have zY := xw
                have HB := xO
                have lZ := ug
                clear zn zA zH zP qj xw xO ug ho hb hg hat
                obtain ⟨tK, tY, zxr⟩ := Kd.yx lZ.out
                (first | subst zxr | (injection zxr with YT Ua YU; have Ub := YT.symm; have Uc := YU.symm; clear YT Ua YU; subst Ub; subst Uc))
                refine hK.out _ _ ?_
                clear hK K
                refine jO (some 108) ?_
                refine qz 9 (some 109) zi ?_
                refine kD (i := 10) (N := none) #[true, true, true, true, true, true, true, true, true, true, true] rfl rfl (vG zi.out (by kernel_rfl)) (by decide) (fun K hK => ?_)
                have zle : w75.cell? ⟨yV, 3, none⟩ = some (qP) := (zk zY.out 3).trans rfl
                have zh8 := zw zY.out 3
                have zgR := uO.out
                have zgS := jo.out
                refine Zy (w1 := ?_) (by rfl) rfl ?_ ?_
                rotate_left
                ·go_simp
                 rfl
                refine hK.out _ _ ?_
                clear hK K
                refine vO (xH zi.out (by kernel_rfl)) ?_
                have zh9 := uO.out
                have ziz := jo.out
                have zQr : w75.cell? ⟨yM, 0, none⟩ = some (.string qK) := (zk ze.out 0).trans rfl
                have zQs : w75.cell? ⟨yM, 1, none⟩ = some (.bool yT) := (zk ze.out 1).trans rfl
                have zQt : w75.cell? ⟨yM, 2, none⟩ = some (.int .i64 yC) := (zk ze.out 2).trans rfl
                have zQu : w75.cell? ⟨yM, 3, none⟩ = some (.slice none 0 0) := (zk ze.out 3).trans rfl
                have zQA : w75.cell? ⟨yM, 4, none⟩ = some (.slice none 0 0) := (zk ze.out 4).trans rfl
                have zQB : w75.cell? ⟨yM, 5, none⟩ = some (.slice none 0 0) := (zk ze.out 5).trans rfl
                have zQC := zw ze.out 0
                have zQD := zw ze.out 1
                have zQE := zw ze.out 2
                have zQF := zw ze.out 3
                have zQG := zw ze.out 4
                have zQH := zw ze.out 5
                try go_wp2
                refine bodyPost_ret (wT rfl _ _ yM 44 #[.string (⟨#[]⟩ : BA), .bool false, .int .i64 0, .slice none 0 0, .slice none 0 0, .slice none 0 0] (0, 0) _ rfl (by (with_reducible repeat (first | refine zC ?_ _ | refine zo ?_ | refine zV ?_ _)); refine zD (cs := #[.string (⟨#[]⟩ : BA), .bool false, .int .i64 0, .slice none 0 0, .slice none 0 0, .slice none 0 0]) ?_ 5 _ rfl; (with_reducible repeat (first | refine zC ?_ _ | refine zo ?_ | refine zV ?_ _)); refine zD (cs := #[.string (⟨#[]⟩ : BA), .bool false, .int .i64 0, .slice none 0 0, .slice none 0 0, .slice none 0 0]) ?_ 4 _ rfl; (with_reducible repeat (first | refine zC ?_ _ | refine zo ?_ | refine zV ?_ _)); refine zD (cs := #[.string (⟨#[]⟩ : BA), .bool false, .int .i64 0, .slice none 0 0, .slice none 0 0, .slice none 0 0]) ?_ 3 _ rfl; (with_reducible repeat (first | refine zC ?_ _ | refine zo ?_ | refine zV ?_ _)); refine zD (cs := #[.string (⟨#[]⟩ : BA), .bool false, .int .i64 yC, .slice none 0 0, .slice none 0 0, .slice none 0 0]) ?_ 2 _ rfl; (with_reducible repeat (first | refine zC ?_ _ | refine zo ?_ | refine zV ?_ _)); refine zD (cs := #[.string (⟨#[]⟩ : BA), .bool yT, .int .i64 yC, .slice none 0 0, .slice none 0 0, .slice none 0 0]) ?_ 1 _ rfl; (with_reducible repeat (first | refine zC ?_ _ | refine zo ?_ | refine zV ?_ _)); refine zD (cs := #[.string qK, .bool yT, .int .i64 yC, .slice none 0 0, .slice none 0 0, .slice none 0 0]) ?_ 0 _ rfl; (with_reducible repeat (first | refine zC ?_ _ | refine zo ?_ | refine zV ?_ _)); refine vE ?_ uO.out _; (with_reducible repeat (first | refine zC ?_ _ | refine zo ?_ | refine zV ?_ _)); exact ze.out) Tryz.underlying44 rfl (by kernel_rfl)) rfl ?_
                exact ⟨_, _, _, by first | rfl | (simp [yZ, yQ] <;> rfl) | (simp [*, yZ, yQ] <;> rfl), by first | exact Kd.xE _ _ _ _ _ | exact Kd.jY _ _ _ _ _ | exact Kd.jW _ _ _ _ _ | exact Kd.jV _ _ _ _ _ | exact Kd.jK _ _ _ _ _, by first | exact Kd.xE _ _ _ _ _ | exact Kd.jY _ _ _ _ _ | exact Kd.jW _ _ _ _ _ | exact Kd.jV _ _ _ _ _ | exact Kd.jK _ _ _ _ _, by first | exact Kd.xE _ _ _ _ _ | exact Kd.jY _ _ _ _ _ | exact Kd.jW _ _ _ _ _ | exact Kd.jV _ _ _ _ _ | exact Kd.jK _ _ _ _ _, by repeat (first | (with_reducible first | exact HB.out | apply yt | apply zM | apply yP | refine qo ?_ V4.out | refine qo ?_ V5.out) | exact HB.out)⟩
             ·rw [if_neg c64] at H
              exact absurd H (by simp)
            ·rw [if_neg c63] at H
             exact absurd H (by simp)
           ·rw [if_neg Jo] at H
            exact absurd H (by simp)
          ·replace c60 := Bool.eq_false_iff.mpr c60
           subst c60
           have H1 : (if 0 < (zW.length : Int) then (if (yG ByteArray.empty zW 0).toList = ([108] : List UInt8) then (zZ.j4 Us a0 vv qL zW true ((zW.length : Int) == 4) zF zG zI yD yL yH) else (zZ.j4 Us a0 vv qL zW true false zF zG zI yD yL yH)) else (none)) = some (r1, r2, r3, r4, r5, r6, r7) := by rw [if_neg (show ¬ (false = true) by decide)] at H; exact H
           clear H
           have H := H1
           clear H1
           have zyj := zy.mk H
           clear H
           go_upto_region 21 with (fail)
           go_cut [110] (fun zbz wc => ∃ (kq : Nat) (bq : Bool), zbz = .bool bq ∧ zy (zZ.j4 kq a0 vv qL zW true bq zF zG zI yD yL yH = some (r1, r2, r3, r4, r5, r6, r7)) ∧ zy (kq ≤ Us) ∧ zy (Kd.R Kd.string 9 wc w.heap.size (fun k_ => some k_ ≠ (VN : Value).ownBlock) (.slice (some XE) vv.length aT) vv) ∧ zy (Kd.R Kd.string 9 wc w.heap.size (fun k_ => some k_ ≠ ((.slice (some XE) vv.length aT) : Value).ownBlock) VN zW) ∧ zy (Kd.R jC 81 wc w.heap.size (fun _ => True) qP yD) ∧ zy (Kd.R kR 83 wc w.heap.size (fun _ => True) xW yL) ∧ zy (Kd.R kE 84 wc w.heap.size (fun _ => True) qR yH) ∧ zy (wc.heap[yM]? = some (.cells #[.string qK, .bool yT, .int .i64 yC, (.slice none 0 0), (.slice none 0 0), (.slice none 0 0)] 44 (0, 0))) ∧ zy (wc.heap[yV]? = some (.cells #[.string zF, .bool zG, .int .i64 zI, qP, xW, qR] 44 (0, 0))) ∧ zy (Below w.heap.size w wc))
           case first =>
            have H := zyj.out
            clear zyj
            by_cases c81 : 0 < (zW.length : Int)
            ·rw [if_pos c81] at H
             have zjW : decide (0 < (zW.length : Int)) = true := decide_eq_true c81
             have zYL : decide (0 < zW.length) = true := decide_eq_true (by omega)
             clear c81
             (first | rw [zjW] | (simp only [wJ, wV]; rw [zjW]) | skip)
             by_cases iY : (yG ByteArray.empty zW 0).toList = ([108] : List UInt8)
             ·rw [if_pos iY] at H
              have zwp : ((yG ByteArray.empty zW 0).toList == ([108] : List UInt8)) = true := beq_iff_eq.mpr iY
              have zwr : ((yG ByteArray.empty zW 0).toList != ([108] : List UInt8)) = false := bne_eq_false_iff_eq.mpr iY
              clear iY
              as_aux_lemma =>
               have H' := zy.mk H
               clear H
               obtain ⟨zlf, zlg, zbq⟩ := Kd.yx qM.out
               subst zbq
               have Px : 0 ≤ (0 : Int) := (by omega)
               have Pj : 0 < (zW.length : Int) := of_decide_eq_true (by first | (with_reducible assumption) | assumption)
               obtain ⟨zYM, zyv, Uy⟩ := Kd.xG (Kd.yh qM.out).2.2 0 Px Pj
               cases zyv
               have zYN : (0 < zW.length) = True := eq_true (by omega)
               (try rw [show ((0 : Int)).toNat = 0 from rfl] at Uy)
               (try rw [Addr.add_zero'] at Uy)
               replace Px := eq_true Px
               replace Pj := eq_true Pj
               go_wp2
               go_meet
               case rel => exact ⟨_, (((zW.length : Int) == 4)), (by first | rfl | (simp; done) | (simp [*]; done)), H', ⟨by have := vT.out; have := JV.out; first | omega | exact Nat.le_refl _⟩, ⟨yK qQ.out⟩, ⟨yK qM.out⟩, ⟨yK zl.out⟩, ⟨yK zu.out⟩, ⟨yK zm.out⟩, ⟨qX ze.out⟩, ⟨qX zY.out⟩, ⟨yX HB.out⟩⟩
             ·rw [if_neg iY] at H
              have zwp : ((yG ByteArray.empty zW 0).toList == ([108] : List UInt8)) = false := beq_eq_false_iff_ne.mpr iY
              have zwr : ((yG ByteArray.empty zW 0).toList != ([108] : List UInt8)) = true := bne_iff_ne.mpr iY
              as_aux_lemma =>
               have H' := zy.mk H
               clear H
               obtain ⟨zlh, zli, zbx⟩ := Kd.yx qM.out
               subst zbx
               have Px : 0 ≤ (0 : Int) := (by omega)
               have Pj : 0 < (zW.length : Int) := of_decide_eq_true (by first | (with_reducible assumption) | assumption)
               obtain ⟨zYM, zyv, Uy⟩ := Kd.xG (Kd.yh qM.out).2.2 0 Px Pj
               cases zyv
               have zYN : (0 < zW.length) = True := eq_true (by omega)
               (try rw [show ((0 : Int)).toNat = 0 from rfl] at Uy)
               (try rw [Addr.add_zero'] at Uy)
               replace Px := eq_true Px
               replace Pj := eq_true Pj
               go_wp2
               go_meet
               case rel => exact ⟨_, (false), (by first | rfl | (simp; done) | (simp [*]; done)), H', ⟨by have := vT.out; have := JV.out; first | omega | exact Nat.le_refl _⟩, ⟨yK qQ.out⟩, ⟨yK qM.out⟩, ⟨yK zl.out⟩, ⟨yK zu.out⟩, ⟨yK zm.out⟩, ⟨qX ze.out⟩, ⟨qX zY.out⟩, ⟨yX HB.out⟩⟩
            ·rw [if_neg c81] at H
             exact absurd H (by simp)
           case rest =>
            clear zyj
            try clear p2
            try clear p5
            try clear q5
            try clear hx5
            try clear eU
            try clear c6
            try clear p6
            try clear c7
            try clear c8
            try clear p57
            try clear q57
            try clear za7
            try clear p58
            try clear q58
            try clear za8
            try clear p59
            try clear q59
            try clear zbj
            try clear zbv
            try clear c60
            try clear Jo
            try clear zxo
            try clear zxp
            try clear c63
            try clear zYF
            try clear zYG
            try clear c64
            try clear p64
            try clear c65
            try clear c78
            try clear c81
            try clear zjW
            try clear zYL
            try clear iY
            try clear zwp
            try clear zwr
            try clear PD
            try clear PE
            try clear PG
            try clear zqQ
            try clear zqX
            try clear zqJ
            try clear zqV
            try clear zqK
            try clear zqY
            try clear zqf
            try clear zqg
            try clear zqh
            try clear zqi
            try clear zql
            try clear zqm
            try clear zqu
            try clear zqA
            try clear zqB
            try clear zqC
            try clear zqD
            try clear zqE
            try clear zqN
            try clear zqO
            try clear zqP
            try clear zqR
            try clear zqS
            try clear zqT
            try clear zQr
            try clear zQs
            try clear zQt
            try clear zQu
            try clear zQA
            try clear zQB
            try clear aD
            try clear aG
            try clear aH
            try clear aI
            try clear aM
            try clear aR
            try clear PI
            try clear PN
            try clear PO
            try clear PS
            try clear PU
            try clear P5
            try clear zqW
            try clear zqa
            try clear zqb
            try clear zqc
            try clear zqd
            try clear zqe
            try clear zqn
            try clear zqo
            try clear zqp
            try clear zqr
            try clear zqs
            try clear zqt
            try clear zqF
            try clear zqG
            try clear zqH
            try clear zqI
            try clear zqL
            try clear zqM
            try clear zqU
            try clear zq0
            try clear zq1
            try clear zq2
            try clear zq3
            try clear zq4
            try clear zQC
            try clear zQD
            try clear zQE
            try clear zQF
            try clear zQG
            try clear zQH
            try clear Uj
            try clear wX
            try clear Uv
            try clear JF
            try clear QX
            try clear VJ
            try clear VK
            try clear Uk
            try clear Yp
            try clear Uy
            try clear p2
            try clear p5
            try clear XT
            try clear Yg
            try clear dR
            try clear aA
            try clear JX
            try clear Kl
            try clear Kn
            try clear WU
            try clear Pz
            try clear Px
            try clear p6
            try clear q5
            try clear XU
            try clear Yh
            try clear dS
            try clear aC
            try clear JJ
            try clear Km
            try clear Ko
            try clear W9
            try clear Pq
            try clear Pj
            obtain ⟨kq, bq, rfl, HA, aU, qQ, qM, zl, zu, zm, ze, zY, HB⟩ := hcut
            cases kq with
            | zero => exact absurd HA.out (by simp [zZ.j4])
            | succ gq =>
             have H := HA.out
             clear HA
             simp only [zZ.j4] at H
             by_cases c85 : bq = true
             ·subst c85
              have H1 : (if 1 < (zW.length : Int) then (if 2 < (zW.length : Int) then (if 3 < (zW.length : Int) then (if yL.length < 2932031007402 then (if true = true then (zZ.l0 gq a0 vv (wrap64 (qL + 1)) zF zG zI yD (yL ++ [(⟨yG ByteArray.empty zW 1, yG ByteArray.empty zW 2, yG ByteArray.empty zW 3⟩ : xK)]) yH) else (some ((⟨#[]⟩ : BA), false, 0, ([] : List (qJ)), ([] : List (xK)), ([] : List (xY)), 4))) else (none)) else (none)) else (none)) else (none)) = some (r1, r2, r3, r4, r5, r6, r7) := by rw [if_pos rfl] at H; exact H
              clear H
              have H := H1
              clear H1
              by_cases c86 : 1 < (zW.length : Int)
              ·rw [if_pos c86] at H
               have zYO : decide (1 < (zW.length : Int)) = true := decide_eq_true c86
               have zYP : decide (1 < zW.length) = true := decide_eq_true (by omega)
               clear c86
               by_cases c87 : 2 < (zW.length : Int)
               ·rw [if_pos c87] at H
                have zYR : decide (2 < (zW.length : Int)) = true := decide_eq_true c87
                have zYS : decide (2 < zW.length) = true := decide_eq_true (by omega)
                clear c87
                by_cases c88 : 3 < (zW.length : Int)
                ·rw [if_pos c88] at H
                 have zYT : decide (3 < (zW.length : Int)) = true := decide_eq_true c88
                 have zYU : decide (3 < zW.length) = true := decide_eq_true (by omega)
                 clear c88
                 by_cases c89 : yL.length < 2932031007402
                 ·rw [if_pos c89] at H
                  have zY0 := zy.mk c89
                  clear c89
                  obtain ⟨Pv, nP⟩ : ∃ y_ : List (xK), y_ = (yL ++ [(⟨yG ByteArray.empty zW 1, yG ByteArray.empty zW 2, yG ByteArray.empty zW 3⟩ : xK)]) := ⟨_, rfl⟩
                  replace H : (if true = true then (zZ.l0 gq a0 vv (wrap64 (qL + 1)) zF zG zI yD Pv yH) else (some ((⟨#[]⟩ : BA), false, 0, ([] : List (qJ)), ([] : List (xK)), ([] : List (xY)), 4))) = some (r1, r2, r3, r4, r5, r6, r7) := by first | (rw [nP]; with_reducible exact H) | (have uN := (Option.bind_some _ _).symm.trans H; rw [nP]; with_reducible exact uN) | (have uN := (Option.bind_some _ _).symm.trans H; with_reducible exact uN) | with_reducible exact H | (rw [nP]; exact H) | exact H
                  have zY1 := zy.mk nP
                  clear nP
                  by_cases c90 : true = true
                  ·clear c90
                   have H1 : (zZ.l0 gq a0 vv (wrap64 (qL + 1)) zF zG zI yD Pv yH) = some (r1, r2, r3, r4, r5, r6, r7) := by rw [if_pos rfl] at H; exact H
                   clear H
                   have H := H1
                   clear H1
                   as_aux_lemma =>
                    have H' := zy.mk H
                    clear H
                    try go_wp2
                    have zn := zy.mk (Kd.yR qQ.out)
                    have zA := zy.mk (Kd.yR qM.out)
                    have zH := zy.mk (Kd.yR zl.out)
                    have zP := zy.mk (Kd.yR zu.out)
                    have qj := zy.mk (Kd.yR zm.out)
                    have xw := zy.mk (zo ze.out)
                    have xO := zy.mk (zo zY.out)
                    have ug := zy.mk (yP HB.out)
                    clear qQ qM zl zu zm ze zY HB
                    have qQ := zn
                    have qM := zA
                    have zl := zH
                    have zu := zP
                    have zm := qj
                    have ze := xw
                    have zY := xO
                    have HB := ug
                    clear zn zA zH zP qj xw xO ug
                    obtain ⟨zll, zlm, zJT⟩ := Kd.yx qM.out
                    (first | subst zJT | (injection zJT with YT Ua YU; have Ub := YT.symm; have Uc := YU.symm; clear YT Ua YU; subst Ub; subst Uc))
                    have zja : 0 ≤ (1 : Int) := (by omega)
                    have zjb : 1 < (zW.length : Int) := of_decide_eq_true (by first | (with_reducible assumption) | assumption)
                    obtain ⟨U1, zbk, JG⟩ := Kd.xG (Kd.yh qM.out).2.2 1 zja zjb
                    cases zbk
                    (try simp only [show (1 : Int).toNat = 1 from rfl, Nat.reduceMul, Nat.reduceEqDiff, Go.Addr.add, ↓reduceIte] at JG)
                    have ziq : (1 < zW.length) = True := eq_true (by omega)
                    (try rw [show ((1 : Int)).toNat = 1 from rfl] at JG)
                    replace zja := eq_true zja
                    replace zjb := eq_true zjb
                    have zjc : 0 ≤ (2 : Int) := (by omega)
                    have zjd : 2 < (zW.length : Int) := of_decide_eq_true (by first | (with_reducible assumption) | assumption)
                    obtain ⟨zY2, zby, JH⟩ := Kd.xG (Kd.yh qM.out).2.2 2 zjc zjd
                    obtain rfl : U1 = zY2 := (by injection zby)
                    (try simp only [show (2 : Int).toNat = 2 from rfl, Nat.reduceMul, Nat.reduceEqDiff, Go.Addr.add, ↓reduceIte] at JH)
                    have zix : (2 < zW.length) = True := eq_true (by omega)
                    (try rw [show ((2 : Int)).toNat = 2 from rfl] at JH)
                    replace zjc := eq_true zjc
                    replace zjd := eq_true zjd
                    have zje : 0 ≤ (3 : Int) := (by omega)
                    have zjf : 3 < (zW.length : Int) := of_decide_eq_true (by first | (with_reducible assumption) | assumption)
                    obtain ⟨zY3, zbw, JI⟩ := Kd.xG (Kd.yh qM.out).2.2 3 zje zjf
                    obtain rfl : U1 = zY3 := (by injection zbw)
                    (try simp only [show (3 : Int).toNat = 3 from rfl, Nat.reduceMul, Nat.reduceEqDiff, Go.Addr.add, ↓reduceIte] at JI)
                    have zij : (3 < zW.length) = True := eq_true (by omega)
                    (try rw [show ((3 : Int)).toNat = 3 from rfl] at JI)
                    replace zje := eq_true zje
                    replace zjf := eq_true zjf
                    refine jU (n := 16) (S := fun w' => w'.cell? ⟨yV, 0, none⟩ = some (.string zF) ∧ w'.cell? ⟨yV, 1, none⟩ = some (.bool zG) ∧ w'.cell? ⟨yV, 2, none⟩ = some (.int .i64 zI) ∧ w'.cell? ⟨yV, 3, none⟩ = some (qP) ∧ w'.cell? ⟨yV, 4, none⟩ = some (xW) ∧ w'.cell? ⟨yV, 5, none⟩ = some (qR) ∧ w'.cell? ⟨U1.block, U1.off + 1, none⟩ = some (.string (yG ByteArray.empty zW 1)) ∧ w'.cell? ⟨U1.block, U1.off + 2, none⟩ = some (.string (yG ByteArray.empty zW 2)) ∧ w'.cell? ⟨U1.block, U1.off + 3, none⟩ = some (.string (yG ByteArray.empty zW 3))) (ds := [13, 15]) #[false, false, false, false, false, false, false, false, false, false, false, false, false, false, false, false] (by kernel_rfl) rfl rfl ⟨(zk zY.out 0).trans rfl, (zk zY.out 1).trans rfl, (zk zY.out 2).trans rfl, (zk zY.out 3).trans rfl, (zk zY.out 4).trans rfl, (zk zY.out 5).trans rfl, JG, JH, JI⟩ (fun hHeld => ?_); refine jN zZ.zYn zZ.zJG (fun zi vR => ?_)
                    generalize wc.drew = w91 at qQ qM zl zu zm ze zY HB JG JH JI hHeld ⊢
                    refine qz 0 (some 120) zi ?_
                    refine qz 2 (some 122) zi ?_
                    refine qz 3 (some 123) zi ?_
                    refine qz 5 (some 125) zi ?_
                    refine qz 6 (some 126) zi ?_
                    refine qz 8 (some 128) zi ?_
                    refine qz 9 (some 129) zi ?_
                    refine uG 1 (some 121) zi vR hHeld ?_
                    refine uG 4 (some 124) zi vR hHeld ?_
                    refine uG 7 (some 127) zi vR hHeld ?_
                    refine uG 10 (some 130) zi vR hHeld ?_
                    refine qz 11 (some 131) zi ?_
                    refine pO 12 (some 132) zi (fun K hK => ?_)
                    refine QY ?_
                    refine hK.out _ _ ⟨(zk (zV zY.out _) 0).trans rfl, (zk (zV zY.out _) 1).trans rfl, (zk (zV zY.out _) 2).trans rfl, (zk (zV zY.out _) 3).trans rfl, (zk (zV zY.out _) 4).trans rfl, (zk (zV zY.out _) 5).trans rfl, (World.cell?_alloc_lt _ _ _ (World.block_lt_of_cell? _ _ (hHeld.2.2.2.2.2.2.1))).trans (hHeld.2.2.2.2.2.2.1), (World.cell?_alloc_lt _ _ _ (World.block_lt_of_cell? _ _ (hHeld.2.2.2.2.2.2.2.1))).trans (hHeld.2.2.2.2.2.2.2.1), (World.cell?_alloc_lt _ _ _ (World.block_lt_of_cell? _ _ (hHeld.2.2.2.2.2.2.2.2))).trans (hHeld.2.2.2.2.2.2.2.2)⟩ (fun hHeld => ?_)
                    clear hK K
                    refine jO (some 132) ?_
                    refine kD (i := 13) (N := some 133) #[true, true, true, true, true, true, true, true, true, true, true, true, true, true, false, false] rfl rfl (vG zi.out (by kernel_rfl)) (by decide) (fun K hK => ?_)
                    refine Kd.vD kR (w0 := w) w.heap.size (by rfl) (.tmp 121) (.tmp 132) 41 83 (.agg #[(.string ⟨#[]⟩), (.string ⟨#[]⟩), (.string ⟨#[]⟩)]) 48 rfl Tryz.underlying41 lD rfl (by decide) (by omega) xW yL (⟨yG ByteArray.empty zW 1, yG ByteArray.empty zW 2, yG ByteArray.empty zW 3⟩ : xK) [.string (yG ByteArray.empty zW 1), .string (yG ByteArray.empty zW 2), .string (yG ByteArray.empty zW 3)] (fun _ => True) (fun _ => False) rfl rfl ?aP (fun _ hk => hk.elim) ?aF ?aO ?aB ?aS ?aL ?_
                    (case aP => exact rO _ _ _ (⟨yG ByteArray.empty zW 1, yG ByteArray.empty zW 2, yG ByteArray.empty zW 3⟩ : xK))
                    (case aB => exact (yX HB.out))
                    (case aF => exact (fun _ _ => trivial))
                    (case aO => exact (yK zu.out))
                    (case aS => exact (zO (yX HB.out)))
                    (case aL => have := zY0.out; omega)
                    intro zln w93 ho hb hg hat
                    rw [← zY1.out] at ho
                    have zn := zy.mk (Kd.vN (yK qQ.out) (Kd.vM (yK zu.out)) (by decide) hg)
                    have zA := zy.mk (Kd.vN (yK qM.out) (Kd.vM (yK zu.out)) (by decide) hg)
                    have zH := zy.mk (Kd.vN (yK zl.out) (Kd.vM (yK zu.out)) (by decide) hg)
                    have zP := zy.mk (Kd.vN (yK zm.out) (Kd.vM (yK zu.out)) (by decide) hg)
                    have qj := zy.mk (qx (g := yM) (o := .cells #[.string qK, .bool yT, .int .i64 yC, .slice none 0 0, .slice none 0 0, .slice none 0 0] 44 (0, 0)) (qX ze.out) hg (Kd.uX zu.out ze.out (by decide)))
                    have xw := zy.mk (qx (g := yV) (o := .cells #[.string zF, .bool zG, .int .i64 zI, qP, xW, qR] 44 (0, 0)) (qX zY.out) hg (Kd.uX zu.out zY.out (by decide)))
                    have xO := zy.mk (hb)
                    have ug := zy.mk (ho)
                    clear qQ qM zl zm ze zY HB zu
                    have qQ := zn
                    have qM := zA
                    have zl := zH
                    have zm := zP
                    have ze := qj
                    have zY := xw
                    have HB := xO
                    have zws := ug
                    clear zn zA zH zP qj xw xO ug ho hb hg hat
                    obtain ⟨zzn, zzo, zJU⟩ := Kd.yx zws.out
                    (first | subst zJU | (injection zJU with YT Ua YU; have Ub := YT.symm; have Uc := YU.symm; clear YT Ua YU; subst Ub; subst Uc))
                    refine hK.out _ _ ?_
                    clear hK K
                    refine jO (some 133) ?_
                    refine qz 14 (some 134) zi ?_
                    refine kD (i := 15) (N := none) #[true, true, true, true, true, true, true, true, true, true, true, true, true, true, true, true] rfl rfl (vG zi.out (by kernel_rfl)) (by decide) (fun K hK => ?_)
                    have zlo : w93.cell? ⟨yV, 4, none⟩ = some (xW) := (zk zY.out 4).trans rfl
                    have ziv := zw zY.out 4
                    have zgT := uO.out
                    have zgU := jo.out
                    refine Zy (w1 := ?_) (by rfl) rfl ?_ ?_
                    rotate_left
                    ·go_simp
                     rfl
                    refine hK.out _ _ ?_
                    clear hK K
                    refine vO (xH zi.out (by kernel_rfl)) ?_
                    try go_wp2
                    go_roundg gq
                    case measure => have := vT.out; have := JV.out; have := aU.out; omega
                    case rel => exact ⟨(wrap64 (qL + 1)), (qK), (yT), (yC), (zF), (zG), (zI), (yD), (Pv), (yH), (qP), (.slice zzn Pv.length zzo), (qR), (by first | rfl | (simp; done) | (simp [*]; done)), H', ⟨by have := vT.out; have := JV.out; have := aU.out; omega⟩, ⟨by (with_reducible repeat (first | apply Kd.qE | apply Kd.qp | apply Kd.yR)); exact Kd.yN (Kd.qy (p := ⟨yV, 4, none⟩) (Kd.vQ qQ.out zY.out (by decide)) (fun _ hk => hk.2) (.slice zzn Pv.length zzo)) (fun _ hk => trivial)⟩, ⟨by (with_reducible repeat (first | apply Kd.qE | apply Kd.qp | apply Kd.yR)); exact Kd.yN (Kd.qy (p := ⟨yV, 4, none⟩) (Kd.vQ zl.out zY.out (by decide)) (fun _ hk => hk.2) (.slice zzn Pv.length zzo)) (fun _ hk => trivial)⟩, ⟨by (with_reducible repeat (first | apply Kd.qE | apply Kd.qp | apply Kd.yR)); exact Kd.yN (Kd.qy (p := ⟨yV, 4, none⟩) (Kd.vQ zws.out zY.out (by decide)) (fun _ hk => hk.2) (.slice zzn Pv.length zzo)) (fun _ hk => trivial)⟩, ⟨by (with_reducible repeat (first | apply Kd.qE | apply Kd.qp | apply Kd.yR)); exact Kd.yN (Kd.qy (p := ⟨yV, 4, none⟩) (Kd.vQ zm.out zY.out (by decide)) (fun _ hk => hk.2) (.slice zzn Pv.length zzo)) (fun _ hk => trivial)⟩, ⟨bY ze.out⟩, ⟨by (with_reducible repeat (first | refine zC ?_ _ | refine zo ?_ | refine zV ?_ _)); refine zD (cs := #[.string zF, .bool zG, .int .i64 zI, qP, xW, qR]) ?_ 4 _ rfl; (with_reducible repeat (first | refine zC ?_ _ | refine zo ?_ | refine zV ?_ _)); exact zY.out⟩, ⟨yX HB.out⟩⟩
                  ·exact absurd rfl c90
                 ·rw [if_neg c89] at H
                  exact absurd H (by simp)
                ·rw [if_neg c88] at H
                 exact absurd H (by simp)
               ·rw [if_neg c87] at H
                exact absurd H (by simp)
              ·rw [if_neg c86] at H
               exact absurd H (by simp)
             ·replace c85 := Bool.eq_false_iff.mpr c85
              subst c85
              have H1 : (if 0 < (zW.length : Int) then (if (yG ByteArray.empty zW 0).toList = ([107] : List UInt8) then (zZ.j5 gq a0 vv qL zW ((zW.length : Int) == 4) zF zG zI yD yL yH) else (zZ.j5 gq a0 vv qL zW false zF zG zI yD yL yH)) else (none)) = some (r1, r2, r3, r4, r5, r6, r7) := by rw [if_neg (show ¬ (false = true) by decide)] at H; exact H
              clear H
              have H := H1
              clear H1
              have zjg := zy.mk H
              clear H
              go_upto_region 23 with (fail)
              go_cut [135] (fun zbZ wc => ∃ (kq : Nat) (Ku : Bool), zbZ = .bool Ku ∧ zy (zZ.j5 kq a0 vv qL zW Ku zF zG zI yD yL yH = some (r1, r2, r3, r4, r5, r6, r7)) ∧ zy (kq ≤ gq) ∧ zy (Kd.R Kd.string 9 wc w.heap.size (fun k_ => some k_ ≠ (VN : Value).ownBlock) (.slice (some XE) vv.length aT) vv) ∧ zy (Kd.R Kd.string 9 wc w.heap.size (fun k_ => some k_ ≠ ((.slice (some XE) vv.length aT) : Value).ownBlock) VN zW) ∧ zy (Kd.R jC 81 wc w.heap.size (fun _ => True) qP yD) ∧ zy (Kd.R kR 83 wc w.heap.size (fun _ => True) xW yL) ∧ zy (Kd.R kE 84 wc w.heap.size (fun _ => True) qR yH) ∧ zy (wc.heap[yM]? = some (.cells #[.string qK, .bool yT, .int .i64 yC, (.slice none 0 0), (.slice none 0 0), (.slice none 0 0)] 44 (0, 0))) ∧ zy (wc.heap[yV]? = some (.cells #[.string zF, .bool zG, .int .i64 zI, qP, xW, qR] 44 (0, 0))) ∧ zy (Below w.heap.size w wc))
              case first =>
               have H := zjg.out
               clear zjg
               by_cases zzp : 0 < (zW.length : Int)
               ·rw [if_pos zzp] at H
                have zzr : decide (0 < (zW.length : Int)) = true := decide_eq_true zzp
                have zJ0 : decide (0 < zW.length) = true := decide_eq_true (by omega)
                clear zzp
                (first | rw [zzr] | (simp only [wJ, wV]; rw [zzr]) | skip)
                by_cases c105 : (yG ByteArray.empty zW 0).toList = ([107] : List UInt8)
                ·rw [if_pos c105] at H
                 have zvC : ((yG ByteArray.empty zW 0).toList == ([107] : List UInt8)) = true := beq_iff_eq.mpr c105
                 have zvD : ((yG ByteArray.empty zW 0).toList != ([107] : List UInt8)) = false := bne_eq_false_iff_eq.mpr c105
                 clear c105
                 as_aux_lemma =>
                  have H' := zy.mk H
                  clear H
                  obtain ⟨zik, ziy, zY4⟩ := Kd.yx qM.out
                  subst zY4
                  have Pk : 0 ≤ (0 : Int) := (by omega)
                  have Py : 0 < (zW.length : Int) := of_decide_eq_true (by first | (with_reducible assumption) | assumption)
                  obtain ⟨zY5, zyk, Uw⟩ := Kd.xG (Kd.yh qM.out).2.2 0 Pk Py
                  cases zyk
                  have zY6 : (0 < zW.length) = True := eq_true (by omega)
                  (try rw [show ((0 : Int)).toNat = 0 from rfl] at Uw)
                  (try rw [Addr.add_zero'] at Uw)
                  replace Pk := eq_true Pk
                  replace Py := eq_true Py
                  go_wp2
                  go_meet
                  case rel => exact ⟨_, (((zW.length : Int) == 4)), (by first | rfl | (simp; done) | (simp [*]; done)), H', ⟨by have := vT.out; have := JV.out; have := aU.out; first | omega | exact Nat.le_refl _⟩, ⟨yK qQ.out⟩, ⟨yK qM.out⟩, ⟨yK zl.out⟩, ⟨yK zu.out⟩, ⟨yK zm.out⟩, ⟨qX ze.out⟩, ⟨qX zY.out⟩, ⟨yX HB.out⟩⟩
                ·rw [if_neg c105] at H
                 have zvC : ((yG ByteArray.empty zW 0).toList == ([107] : List UInt8)) = false := beq_eq_false_iff_ne.mpr c105
                 have zvD : ((yG ByteArray.empty zW 0).toList != ([107] : List UInt8)) = true := bne_iff_ne.mpr c105
                 as_aux_lemma =>
                  have H' := zy.mk H
                  clear H
                  obtain ⟨ziw, ziZ, zY7⟩ := Kd.yx qM.out
                  subst zY7
                  have Pk : 0 ≤ (0 : Int) := (by omega)
                  have Py : 0 < (zW.length : Int) := of_decide_eq_true (by first | (with_reducible assumption) | assumption)
                  obtain ⟨zY5, zyk, Uw⟩ := Kd.xG (Kd.yh qM.out).2.2 0 Pk Py
                  cases zyk
                  have zY6 : (0 < zW.length) = True := eq_true (by omega)
                  (try rw [show ((0 : Int)).toNat = 0 from rfl] at Uw)
                  (try rw [Addr.add_zero'] at Uw)
                  replace Pk := eq_true Pk
                  replace Py := eq_true Py
                  go_wp2
                  go_meet
                  case rel => exact ⟨_, (false), (by first | rfl | (simp; done) | (simp [*]; done)), H', ⟨by have := vT.out; have := JV.out; have := aU.out; first | omega | exact Nat.le_refl _⟩, ⟨yK qQ.out⟩, ⟨yK qM.out⟩, ⟨yK zl.out⟩, ⟨yK zu.out⟩, ⟨yK zm.out⟩, ⟨qX ze.out⟩, ⟨qX zY.out⟩, ⟨yX HB.out⟩⟩
               ·rw [if_neg zzp] at H
                exact absurd H (by simp)
              case rest =>
               clear zjg
               try clear c1
               try clear p2
               try clear p5
               try clear q5
               try clear hx5
               try clear eU
               try clear p6
               try clear q6
               try clear hx6
               try clear qi6
               try clear c8
               try clear c9
               try clear c10
               try clear p59
               try clear q59
               try clear zbj
               try clear zbv
               try clear p60
               try clear q60
               try clear zlp
               try clear zlr
               try clear p64
               try clear c85
               try clear c86
               try clear zYO
               try clear zYP
               try clear c87
               try clear zYR
               try clear zYS
               try clear c88
               try clear zYT
               try clear zYU
               try clear c89
               try clear c90
               try clear zls
               try clear zzp
               try clear zzr
               try clear zJ0
               try clear c105
               try clear zvC
               try clear zvD
               try clear zbQ
               try clear zbX
               try clear zbJ
               try clear zbV
               try clear zbK
               try clear zbY
               try clear zbW
               try clear zba
               try clear zbb
               try clear zbc
               try clear zbd
               try clear zbe
               try clear JG
               try clear JH
               try clear JI
               try clear Uw
               try clear zja
               try clear zjc
               try clear zje
               try clear Pk
               try clear zjb
               try clear zjd
               try clear zjf
               try clear Py
               obtain ⟨kq, Ku, rfl, HA, zwt, qQ, qM, zl, zu, zm, ze, zY, HB⟩ := hcut
               cases kq with
               | zero => exact absurd HA.out (by simp [zZ.j5])
               | succ U2 =>
                have H := HA.out
                clear HA
                simp only [zZ.j5] at H
                by_cases zjh : Ku = true
                ·subst zjh
                 have H1 : (if 3 < (zW.length : Int) then ((zB.f U2 (yG ByteArray.empty zW 3)).bind fun nI => (if 1 < (zW.length : Int) then (if 2 < (zW.length : Int) then (if yH.length < 3518437208883 then (if nI.2 = true then (zZ.l0 U2 a0 vv (wrap64 (qL + 1)) zF zG zI yD yL (yH ++ [(⟨yG ByteArray.empty zW 1, yG ByteArray.empty zW 2, nI.1⟩ : xY)])) else (some ((⟨#[]⟩ : BA), false, 0, ([] : List (qJ)), ([] : List (xK)), ([] : List (xY)), 4))) else (none)) else (none)) else (none))) else (none)) = some (r1, r2, r3, r4, r5, r6, r7) := by rw [if_pos rfl] at H; exact H
                 clear H
                 have H := H1
                 clear H1
                 by_cases c109 : 3 < (zW.length : Int)
                 ·rw [if_pos c109] at H
                  have zhx : decide (3 < (zW.length : Int)) = true := decide_eq_true c109
                  have zhj : decide (3 < zW.length) = true := decide_eq_true (by omega)
                  clear c109
                  replace H := Option.bind_eq_some_iff.mp H
                  obtain ⟨⟨JY, zyy⟩, zwu, H⟩ := H
                  replace H : (if 1 < (zW.length : Int) then (if 2 < (zW.length : Int) then (if yH.length < 3518437208883 then (if zyy = true then (zZ.l0 U2 a0 vv (wrap64 (qL + 1)) zF zG zI yD yL (yH ++ [(⟨yG ByteArray.empty zW 1, yG ByteArray.empty zW 2, JY⟩ : xY)])) else (some ((⟨#[]⟩ : BA), false, 0, ([] : List (qJ)), ([] : List (xK)), ([] : List (xY)), 4))) else (none)) else (none)) else (none)) = some (r1, r2, r3, r4, r5, r6, r7) := H
                  have lT := zy.mk zwu
                  clear zwu
                  by_cases zji : 1 < (zW.length : Int)
                  ·rw [if_pos zji] at H
                   have zhv : decide (1 < (zW.length : Int)) = true := decide_eq_true zji
                   have zhk : decide (1 < zW.length) = true := decide_eq_true (by omega)
                   clear zji
                   by_cases zjl : 2 < (zW.length : Int)
                   ·rw [if_pos zjl] at H
                    have zhy : decide (2 < (zW.length : Int)) = true := decide_eq_true zjl
                    have zhw : decide (2 < zW.length) = true := decide_eq_true (by omega)
                    clear zjl
                    by_cases zjm : yH.length < 3518437208883
                    ·rw [if_pos zjm] at H
                     have zvE := zy.mk zjm
                     clear zjm
                     obtain ⟨Pw, nR⟩ : ∃ y_ : List (xY), y_ = (yH ++ [(⟨yG ByteArray.empty zW 1, yG ByteArray.empty zW 2, JY⟩ : xY)]) := ⟨_, rfl⟩
                     replace H : (if zyy = true then (zZ.l0 U2 a0 vv (wrap64 (qL + 1)) zF zG zI yD yL Pw) else (some ((⟨#[]⟩ : BA), false, 0, ([] : List (qJ)), ([] : List (xK)), ([] : List (xY)), 4))) = some (r1, r2, r3, r4, r5, r6, r7) := by first | (rw [nR]; with_reducible exact H) | (have uN := (Option.bind_some _ _).symm.trans H; rw [nR]; with_reducible exact uN) | (have uN := (Option.bind_some _ _).symm.trans H; with_reducible exact uN) | with_reducible exact H | (rw [nR]; exact H) | exact H
                     have zwA := zy.mk nR
                     clear nR
                     by_cases zjn : zyy = true
                     ·subst zjn
                      have H1 : (zZ.l0 U2 a0 vv (wrap64 (qL + 1)) zF zG zI yD yL Pw) = some (r1, r2, r3, r4, r5, r6, r7) := by rw [if_pos rfl] at H; exact H
                      clear H
                      have H := H1
                      clear H1
                      as_aux_lemma =>
                       have H' := zy.mk H
                       clear H
                       obtain ⟨ziQ, ziX, zY8⟩ := Kd.yx qM.out
                       subst zY8
                       have gy : 0 ≤ (3 : Int) := (by omega)
                       have gZ : 3 < (zW.length : Int) := of_decide_eq_true (by first | (with_reducible assumption) | assumption)
                       obtain ⟨XV, zyw, JL⟩ := Kd.xG (Kd.yh qM.out).2.2 3 gy gZ
                       cases zyw
                       (try simp only [show (3 : Int).toNat = 3 from rfl, Nat.reduceMul, Nat.reduceEqDiff, Go.Addr.add, ↓reduceIte] at JL)
                       have zY9 : (3 < zW.length) = True := eq_true (by omega)
                       (try rw [show ((3 : Int)).toNat = 3 from rfl] at JL)
                       replace gy := eq_true gy
                       replace gZ := eq_true gZ
                       try go_wp2_with (first | ((with_reducible refine yI (f := 81) rfl ?_); refine je (some 149) Tryz.func81 #[.string (yG ByteArray.empty zW 3)] ?_; (with_reducible refine (zB.calls U2 (yG ByteArray.empty zW 3) JY true _ lT.out).mono ?_); rintro e zbf ⟨rfl, hb⟩; refine ⟨_, rfl, ?_⟩; have zn := zy.mk (Kd.zR (yK qQ.out) hb); have zA := zy.mk (Kd.zR (yK qM.out) hb); have zH := zy.mk (Kd.zR (yK zl.out) hb); have zP := zy.mk (Kd.zR (yK zu.out) hb); have qj := zy.mk (Kd.zR (yK zm.out) hb); have xw := zy.mk (zf (g := yM) (o := .cells #[.string qK, .bool yT, .int .i64 yC, .slice none 0 0, .slice none 0 0, .slice none 0 0] 44 (0, 0)) (qX ze.out) hb); have xO := zy.mk (zf (g := yV) (o := .cells #[.string zF, .bool zG, .int .i64 zI, qP, xW, qR] 44 (0, 0)) (qX zY.out) hb); have ug := zy.mk (yY (yX HB.out) hb); clear qQ; clear qM; clear zl; clear zu; clear zm; clear ze; clear zY; clear HB; have qQ := zn; have qM := zA; have zl := zH; have zu := zP; have zm := qj; have ze := xw; have zY := xO; have HB := ug; clear zn zA zH zP qj xw xO ug; (try clear hb); (try clear hb2); (try clear hk); (try clear hi)))
                       have zn := zy.mk (Kd.yR qQ.out)
                       have zA := zy.mk (Kd.yR qM.out)
                       have zH := zy.mk (Kd.yR zl.out)
                       have zP := zy.mk (Kd.yR zu.out)
                       have qj := zy.mk (Kd.yR zm.out)
                       have xw := zy.mk (zo ze.out)
                       have xO := zy.mk (zo zY.out)
                       have ug := zy.mk (yP HB.out)
                       clear qQ qM zl zu zm ze zY HB
                       have qQ := zn
                       have qM := zA
                       have zl := zH
                       have zu := zP
                       have zm := qj
                       have ze := xw
                       have zY := xO
                       have HB := ug
                       clear zn zA zH zP qj xw xO ug
                       have gQ : 0 ≤ (1 : Int) := (by omega)
                       have gX : 1 < (zW.length : Int) := of_decide_eq_true (by first | (with_reducible assumption) | assumption)
                       obtain ⟨zjo, zyZ, XK⟩ := Kd.xG (Kd.yh qM.out).2.2 1 gQ gX
                       obtain rfl : XV = zjo := (by injection zyZ)
                       (try simp only [show (1 : Int).toNat = 1 from rfl, Nat.reduceMul, Nat.reduceEqDiff, Go.Addr.add, ↓reduceIte] at XK)
                       have zWz : (1 < zW.length) = True := eq_true (by omega)
                       (try rw [show ((1 : Int)).toNat = 1 from rfl] at XK)
                       replace gQ := eq_true gQ
                       replace gX := eq_true gX
                       have gJ : 0 ≤ (2 : Int) := (by omega)
                       have gV : 2 < (zW.length : Int) := of_decide_eq_true (by first | (with_reducible assumption) | assumption)
                       obtain ⟨zjr, zyQ, XY⟩ := Kd.xG (Kd.yh qM.out).2.2 2 gJ gV
                       obtain rfl : XV = zjr := (by injection zyQ)
                       (try simp only [show (2 : Int).toNat = 2 from rfl, Nat.reduceMul, Nat.reduceEqDiff, Go.Addr.add, ↓reduceIte] at XY)
                       have zWq : (2 < zW.length) = True := eq_true (by omega)
                       (try rw [show ((2 : Int)).toNat = 2 from rfl] at XY)
                       replace gJ := eq_true gJ
                       replace gV := eq_true gV
                       refine jU (n := 14) (S := fun w' => w'.cell? ⟨yV, 0, none⟩ = some (.string zF) ∧ w'.cell? ⟨yV, 1, none⟩ = some (.bool zG) ∧ w'.cell? ⟨yV, 2, none⟩ = some (.int .i64 zI) ∧ w'.cell? ⟨yV, 3, none⟩ = some (qP) ∧ w'.cell? ⟨yV, 4, none⟩ = some (xW) ∧ w'.cell? ⟨yV, 5, none⟩ = some (qR) ∧ w'.cell? ⟨XV.block, XV.off + 1, none⟩ = some (.string (yG ByteArray.empty zW 1)) ∧ w'.cell? ⟨XV.block, XV.off + 2, none⟩ = some (.string (yG ByteArray.empty zW 2))) (ds := [11, 13]) #[false, false, false, false, false, false, false, false, false, false, false, false, false, false] (by kernel_rfl) rfl rfl ⟨(zk zY.out 0).trans rfl, (zk zY.out 1).trans rfl, (zk zY.out 2).trans rfl, (zk zY.out 3).trans rfl, (zk zY.out 4).trans rfl, (zk zY.out 5).trans rfl, XK, XY⟩ (fun hHeld => ?_); refine jN zZ.zwf zZ.zvB (fun zi vR => ?_)
                       generalize zbf.drew = zlt at qQ qM zl zu zm ze zY HB XK XY hHeld ⊢
                       refine qz 0 (some 153) zi ?_
                       refine qz 2 (some 155) zi ?_
                       refine qz 3 (some 156) zi ?_
                       refine qz 5 (some 158) zi ?_
                       refine qz 6 (some 159) zi ?_
                       refine qz 8 (some 161) zi ?_
                       refine uG 1 (some 154) zi vR hHeld ?_
                       refine uG 4 (some 157) zi vR hHeld ?_
                       refine uG 7 (some 160) zi vR hHeld ?_
                       refine qz 9 (some 162) zi ?_
                       refine pO 10 (some 163) zi (fun K hK => ?_)
                       refine QY ?_
                       refine hK.out _ _ ⟨(zk (zV zY.out _) 0).trans rfl, (zk (zV zY.out _) 1).trans rfl, (zk (zV zY.out _) 2).trans rfl, (zk (zV zY.out _) 3).trans rfl, (zk (zV zY.out _) 4).trans rfl, (zk (zV zY.out _) 5).trans rfl, (World.cell?_alloc_lt _ _ _ (World.block_lt_of_cell? _ _ (hHeld.2.2.2.2.2.2.1))).trans (hHeld.2.2.2.2.2.2.1), (World.cell?_alloc_lt _ _ _ (World.block_lt_of_cell? _ _ (hHeld.2.2.2.2.2.2.2))).trans (hHeld.2.2.2.2.2.2.2)⟩ (fun hHeld => ?_)
                       clear hK K
                       refine jO (some 163) ?_
                       refine kD (i := 11) (N := some 164) #[true, true, true, true, true, true, true, true, true, true, true, true, false, false] rfl rfl (vG zi.out (by kernel_rfl)) (by decide) (fun K hK => ?_)
                       refine Kd.vD kE (w0 := w) w.heap.size (by rfl) (.tmp 154) (.tmp 163) 42 84 (.agg #[(.string ⟨#[]⟩), (.string ⟨#[]⟩), (.int .i64 0)]) 40 rfl Tryz.underlying42 gT rfl (by decide) (by omega) qR yH (⟨yG ByteArray.empty zW 1, yG ByteArray.empty zW 2, JY⟩ : xY) [.string (yG ByteArray.empty zW 1), .string (yG ByteArray.empty zW 2), .int .i64 JY] (fun _ => True) (fun _ => False) rfl rfl ?aP (fun _ hk => hk.elim) ?aF ?aO ?aB ?aS ?aL ?_
                       (case aP => exact Pb _ _ _ (⟨yG ByteArray.empty zW 1, yG ByteArray.empty zW 2, JY⟩ : xY))
                       (case aB => exact (yX HB.out))
                       (case aF => exact (fun _ _ => trivial))
                       (case aO => exact (yK zm.out))
                       (case aS => exact (zO (yX HB.out)))
                       (case aL => have := zvE.out; omega)
                       intro zbg zbh ho hb hg hat
                       rw [← zwA.out] at ho
                       have zn := zy.mk (Kd.vN (yK qQ.out) (Kd.vM (yK zm.out)) (by decide) hg)
                       have zA := zy.mk (Kd.vN (yK qM.out) (Kd.vM (yK zm.out)) (by decide) hg)
                       have zH := zy.mk (Kd.vN (yK zl.out) (Kd.vM (yK zm.out)) (by decide) hg)
                       have zP := zy.mk (Kd.vN (yK zu.out) (Kd.vM (yK zm.out)) (by decide) hg)
                       have qj := zy.mk (qx (g := yM) (o := .cells #[.string qK, .bool yT, .int .i64 yC, .slice none 0 0, .slice none 0 0, .slice none 0 0] 44 (0, 0)) (qX ze.out) hg (Kd.uX zm.out ze.out (by decide)))
                       have xw := zy.mk (qx (g := yV) (o := .cells #[.string zF, .bool zG, .int .i64 zI, qP, xW, qR] 44 (0, 0)) (qX zY.out) hg (Kd.uX zm.out zY.out (by decide)))
                       have xO := zy.mk (hb)
                       have ug := zy.mk (ho)
                       clear qQ qM zl zu ze zY HB zm
                       have qQ := zn
                       have qM := zA
                       have zl := zH
                       have zu := zP
                       have ze := qj
                       have zY := xw
                       have HB := xO
                       have lQ := ug
                       clear zn zA zH zP qj xw xO ug ho hb hg hat
                       obtain ⟨nS, nT, zwB⟩ := Kd.yx lQ.out
                       (first | subst zwB | (injection zwB with YT Ua YU; have Ub := YT.symm; have Uc := YU.symm; clear YT Ua YU; subst Ub; subst Uc))
                       refine hK.out _ _ ?_
                       clear hK K
                       refine jO (some 164) ?_
                       refine qz 12 (some 165) zi ?_
                       refine kD (i := 13) (N := none) #[true, true, true, true, true, true, true, true, true, true, true, true, true, true] rfl rfl (vG zi.out (by kernel_rfl)) (by decide) (fun K hK => ?_)
                       have ziJ : zbh.cell? ⟨yV, 5, none⟩ = some (qR) := (zk zY.out 5).trans rfl
                       have zhZ := zw zY.out 5
                       have zbi := uO.out
                       have zbl := jo.out
                       refine Zy (w1 := ?_) (by rfl) rfl ?_ ?_
                       rotate_left
                       ·go_simp
                        rfl
                       refine hK.out _ _ ?_
                       clear hK K
                       refine vO (xH zi.out (by kernel_rfl)) ?_
                       try go_wp2
                       go_roundg U2
                       case measure => have := vT.out; have := JV.out; have := aU.out; have := zwt.out; omega
                       case rel => exact ⟨(wrap64 (qL + 1)), (qK), (yT), (yC), (zF), (zG), (zI), (yD), (yL), (Pw), (qP), (xW), (.slice nS Pw.length nT), (by first | rfl | (simp; done) | (simp [*]; done)), H', ⟨by have := vT.out; have := JV.out; have := aU.out; have := zwt.out; omega⟩, ⟨by (with_reducible repeat (first | apply Kd.qE | apply Kd.qp | apply Kd.yR)); exact Kd.yN (Kd.qy (p := ⟨yV, 5, none⟩) (Kd.vQ qQ.out zY.out (by decide)) (fun _ hk => hk.2) (.slice nS Pw.length nT)) (fun _ hk => trivial)⟩, ⟨by (with_reducible repeat (first | apply Kd.qE | apply Kd.qp | apply Kd.yR)); exact Kd.yN (Kd.qy (p := ⟨yV, 5, none⟩) (Kd.vQ zl.out zY.out (by decide)) (fun _ hk => hk.2) (.slice nS Pw.length nT)) (fun _ hk => trivial)⟩, ⟨by (with_reducible repeat (first | apply Kd.qE | apply Kd.qp | apply Kd.yR)); exact Kd.yN (Kd.qy (p := ⟨yV, 5, none⟩) (Kd.vQ zu.out zY.out (by decide)) (fun _ hk => hk.2) (.slice nS Pw.length nT)) (fun _ hk => trivial)⟩, ⟨by (with_reducible repeat (first | apply Kd.qE | apply Kd.qp | apply Kd.yR)); exact Kd.yN (Kd.qy (p := ⟨yV, 5, none⟩) (Kd.vQ lQ.out zY.out (by decide)) (fun _ hk => hk.2) (.slice nS Pw.length nT)) (fun _ hk => trivial)⟩, ⟨bY ze.out⟩, ⟨by (with_reducible repeat (first | refine zC ?_ _ | refine zo ?_ | refine zV ?_ _)); refine zD (cs := #[.string zF, .bool zG, .int .i64 zI, qP, xW, qR]) ?_ 5 _ rfl; (with_reducible repeat (first | refine zC ?_ _ | refine zo ?_ | refine zV ?_ _)); exact zY.out⟩, ⟨yX HB.out⟩⟩
                     ·replace zjn := Bool.eq_false_iff.mpr zjn
                      subst zjn
                      have H1 : (some ((⟨#[]⟩ : BA), false, 0, ([] : List (qJ)), ([] : List (xK)), ([] : List (xY)), 4)) = some (r1, r2, r3, r4, r5, r6, r7) := by rw [if_neg (show ¬ (false = true) by decide)] at H; exact H
                      clear H
                      have H := H1
                      clear H1
                      as_aux_lemma =>
                       simp only [Option.some.injEq, Prod.mk.injEq] at H
                       obtain ⟨rfl, rfl, rfl, rfl, rfl, rfl, rfl⟩ := H
                       obtain ⟨ziV, ziK, zWx⟩ := Kd.yx qM.out
                       subst zWx
                       have gy : 0 ≤ (3 : Int) := (by omega)
                       have gZ : 3 < (zW.length : Int) := of_decide_eq_true (by first | (with_reducible assumption) | assumption)
                       obtain ⟨XV, zyw, JL⟩ := Kd.xG (Kd.yh qM.out).2.2 3 gy gZ
                       cases zyw
                       (try simp only [show (3 : Int).toNat = 3 from rfl, Nat.reduceMul, Nat.reduceEqDiff, Go.Addr.add, ↓reduceIte] at JL)
                       have zY9 : (3 < zW.length) = True := eq_true (by omega)
                       (try rw [show ((3 : Int)).toNat = 3 from rfl] at JL)
                       replace gy := eq_true gy
                       replace gZ := eq_true gZ
                       try go_wp2_with (first | ((with_reducible refine yI (f := 81) rfl ?_); refine je (some 149) Tryz.func81 #[.string (yG ByteArray.empty zW 3)] ?_; (with_reducible refine (zB.calls U2 (yG ByteArray.empty zW 3) JY false _ lT.out).mono ?_); rintro e zbm ⟨rfl, hb⟩; refine ⟨_, rfl, ?_⟩; have zn := zy.mk (Kd.zR (yK qQ.out) hb); have zA := zy.mk (Kd.zR (yK qM.out) hb); have zH := zy.mk (Kd.zR (yK zl.out) hb); have zP := zy.mk (Kd.zR (yK zu.out) hb); have qj := zy.mk (Kd.zR (yK zm.out) hb); have xw := zy.mk (zf (g := yM) (o := .cells #[.string qK, .bool yT, .int .i64 yC, .slice none 0 0, .slice none 0 0, .slice none 0 0] 44 (0, 0)) (qX ze.out) hb); have xO := zy.mk (zf (g := yV) (o := .cells #[.string zF, .bool zG, .int .i64 zI, qP, xW, qR] 44 (0, 0)) (qX zY.out) hb); have ug := zy.mk (yY (yX HB.out) hb); clear qQ; clear qM; clear zl; clear zu; clear zm; clear ze; clear zY; clear HB; have qQ := zn; have qM := zA; have zl := zH; have zu := zP; have zm := qj; have ze := xw; have zY := xO; have HB := ug; clear zn zA zH zP qj xw xO ug; (try clear hb); (try clear hb2); (try clear hk); (try clear hi)))
                       have zn := zy.mk (Kd.yR qQ.out)
                       have zA := zy.mk (Kd.yR qM.out)
                       have zH := zy.mk (Kd.yR zl.out)
                       have zP := zy.mk (Kd.yR zu.out)
                       have qj := zy.mk (Kd.yR zm.out)
                       have xw := zy.mk (zo ze.out)
                       have xO := zy.mk (zo zY.out)
                       have ug := zy.mk (yP HB.out)
                       clear qQ qM zl zu zm ze zY HB
                       have qQ := zn
                       have qM := zA
                       have zl := zH
                       have zu := zP
                       have zm := qj
                       have ze := xw
                       have zY := xO
                       have HB := ug
                       clear zn zA zH zP qj xw xO ug
                       have gQ : 0 ≤ (1 : Int) := (by omega)
                       have gX : 1 < (zW.length : Int) := of_decide_eq_true (by first | (with_reducible assumption) | assumption)
                       obtain ⟨zjo, zyZ, XK⟩ := Kd.xG (Kd.yh qM.out).2.2 1 gQ gX
                       obtain rfl : XV = zjo := (by injection zyZ)
                       (try simp only [show (1 : Int).toNat = 1 from rfl, Nat.reduceMul, Nat.reduceEqDiff, Go.Addr.add, ↓reduceIte] at XK)
                       have zWz : (1 < zW.length) = True := eq_true (by omega)
                       (try rw [show ((1 : Int)).toNat = 1 from rfl] at XK)
                       replace gQ := eq_true gQ
                       replace gX := eq_true gX
                       have gJ : 0 ≤ (2 : Int) := (by omega)
                       have gV : 2 < (zW.length : Int) := of_decide_eq_true (by first | (with_reducible assumption) | assumption)
                       obtain ⟨zjr, zyQ, XY⟩ := Kd.xG (Kd.yh qM.out).2.2 2 gJ gV
                       obtain rfl : XV = zjr := (by injection zyQ)
                       (try simp only [show (2 : Int).toNat = 2 from rfl, Nat.reduceMul, Nat.reduceEqDiff, Go.Addr.add, ↓reduceIte] at XY)
                       have zWq : (2 < zW.length) = True := eq_true (by omega)
                       (try rw [show ((2 : Int)).toNat = 2 from rfl] at XY)
                       replace gJ := eq_true gJ
                       replace gV := eq_true gV
                       refine jU (n := 14) (S := fun w' => w'.cell? ⟨yV, 0, none⟩ = some (.string zF) ∧ w'.cell? ⟨yV, 1, none⟩ = some (.bool zG) ∧ w'.cell? ⟨yV, 2, none⟩ = some (.int .i64 zI) ∧ w'.cell? ⟨yV, 3, none⟩ = some (qP) ∧ w'.cell? ⟨yV, 4, none⟩ = some (xW) ∧ w'.cell? ⟨yV, 5, none⟩ = some (qR) ∧ w'.cell? ⟨XV.block, XV.off + 1, none⟩ = some (.string (yG ByteArray.empty zW 1)) ∧ w'.cell? ⟨XV.block, XV.off + 2, none⟩ = some (.string (yG ByteArray.empty zW 2))) (ds := [11, 13]) #[false, false, false, false, false, false, false, false, false, false, false, false, false, false] (by kernel_rfl) rfl rfl ⟨(zk zY.out 0).trans rfl, (zk zY.out 1).trans rfl, (zk zY.out 2).trans rfl, (zk zY.out 3).trans rfl, (zk zY.out 4).trans rfl, (zk zY.out 5).trans rfl, XK, XY⟩ (fun hHeld => ?_); refine jN zZ.zwf zZ.zvB (fun zi vR => ?_)
                       generalize zbm.drew = zlu at qQ qM zl zu zm ze zY HB XK XY hHeld ⊢
                       refine qz 0 (some 153) zi ?_
                       refine qz 2 (some 155) zi ?_
                       refine qz 3 (some 156) zi ?_
                       refine qz 5 (some 158) zi ?_
                       refine qz 6 (some 159) zi ?_
                       refine qz 8 (some 161) zi ?_
                       refine uG 1 (some 154) zi vR hHeld ?_
                       refine uG 4 (some 157) zi vR hHeld ?_
                       refine uG 7 (some 160) zi vR hHeld ?_
                       refine qz 9 (some 162) zi ?_
                       refine pO 10 (some 163) zi (fun K hK => ?_)
                       refine QY ?_
                       refine hK.out _ _ ⟨(zk (zV zY.out _) 0).trans rfl, (zk (zV zY.out _) 1).trans rfl, (zk (zV zY.out _) 2).trans rfl, (zk (zV zY.out _) 3).trans rfl, (zk (zV zY.out _) 4).trans rfl, (zk (zV zY.out _) 5).trans rfl, (World.cell?_alloc_lt _ _ _ (World.block_lt_of_cell? _ _ (hHeld.2.2.2.2.2.2.1))).trans (hHeld.2.2.2.2.2.2.1), (World.cell?_alloc_lt _ _ _ (World.block_lt_of_cell? _ _ (hHeld.2.2.2.2.2.2.2))).trans (hHeld.2.2.2.2.2.2.2)⟩ (fun hHeld => ?_)
                       clear hK K
                       refine jO (some 163) ?_
                       refine kD (i := 11) (N := some 164) #[true, true, true, true, true, true, true, true, true, true, true, true, false, false] rfl rfl (vG zi.out (by kernel_rfl)) (by decide) (fun K hK => ?_)
                       refine Kd.vD kE (w0 := w) w.heap.size (by rfl) (.tmp 154) (.tmp 163) 42 84 (.agg #[(.string ⟨#[]⟩), (.string ⟨#[]⟩), (.int .i64 0)]) 40 rfl Tryz.underlying42 gT rfl (by decide) (by omega) qR yH (⟨yG ByteArray.empty zW 1, yG ByteArray.empty zW 2, JY⟩ : xY) [.string (yG ByteArray.empty zW 1), .string (yG ByteArray.empty zW 2), .int .i64 JY] (fun _ => True) (fun _ => False) rfl rfl ?aP (fun _ hk => hk.elim) ?aF ?aO ?aB ?aS ?aL ?_
                       (case aP => exact Pb _ _ _ (⟨yG ByteArray.empty zW 1, yG ByteArray.empty zW 2, JY⟩ : xY))
                       (case aB => exact (yX HB.out))
                       (case aF => exact (fun _ _ => trivial))
                       (case aO => exact (yK zm.out))
                       (case aS => exact (zO (yX HB.out)))
                       (case aL => have := zvE.out; omega)
                       intro zbg gK ho hb hg hat
                       rw [← zwA.out] at ho
                       have zn := zy.mk (Kd.vN (yK qQ.out) (Kd.vM (yK zm.out)) (by decide) hg)
                       have zA := zy.mk (Kd.vN (yK qM.out) (Kd.vM (yK zm.out)) (by decide) hg)
                       have zH := zy.mk (Kd.vN (yK zl.out) (Kd.vM (yK zm.out)) (by decide) hg)
                       have zP := zy.mk (Kd.vN (yK zu.out) (Kd.vM (yK zm.out)) (by decide) hg)
                       have qj := zy.mk (qx (g := yM) (o := .cells #[.string qK, .bool yT, .int .i64 yC, .slice none 0 0, .slice none 0 0, .slice none 0 0] 44 (0, 0)) (qX ze.out) hg (Kd.uX zm.out ze.out (by decide)))
                       have xw := zy.mk (qx (g := yV) (o := .cells #[.string zF, .bool zG, .int .i64 zI, qP, xW, qR] 44 (0, 0)) (qX zY.out) hg (Kd.uX zm.out zY.out (by decide)))
                       have xO := zy.mk (hb)
                       have ug := zy.mk (ho)
                       clear qQ qM zl zu ze zY HB zm
                       have qQ := zn
                       have qM := zA
                       have zl := zH
                       have zu := zP
                       have ze := qj
                       have zY := xw
                       have HB := xO
                       have lQ := ug
                       clear zn zA zH zP qj xw xO ug ho hb hg hat
                       obtain ⟨ziY, ziW, zwC⟩ := Kd.yx lQ.out
                       (first | subst zwC | (injection zwC with YT Ua YU; have Ub := YT.symm; have Uc := YU.symm; clear YT Ua YU; subst Ub; subst Uc))
                       refine hK.out _ _ ?_
                       clear hK K
                       refine jO (some 164) ?_
                       refine qz 12 (some 165) zi ?_
                       refine kD (i := 13) (N := none) #[true, true, true, true, true, true, true, true, true, true, true, true, true, true] rfl rfl (vG zi.out (by kernel_rfl)) (by decide) (fun K hK => ?_)
                       have zia : gK.cell? ⟨yV, 5, none⟩ = some (qR) := (zk zY.out 5).trans rfl
                       have zhQ := zw zY.out 5
                       have zbn := uO.out
                       have zbo := jo.out
                       refine Zy (w1 := ?_) (by rfl) rfl ?_ ?_
                       rotate_left
                       ·go_simp
                        rfl
                       refine hK.out _ _ ?_
                       clear hK K
                       refine vO (xH zi.out (by kernel_rfl)) ?_
                       have zhX := uO.out
                       have zhJ := jo.out
                       have zbp : gK.cell? ⟨yM, 0, none⟩ = some (.string qK) := (zk ze.out 0).trans rfl
                       have zbr : gK.cell? ⟨yM, 1, none⟩ = some (.bool yT) := (zk ze.out 1).trans rfl
                       have zbs : gK.cell? ⟨yM, 2, none⟩ = some (.int .i64 yC) := (zk ze.out 2).trans rfl
                       have zbt : gK.cell? ⟨yM, 3, none⟩ = some (.slice none 0 0) := (zk ze.out 3).trans rfl
                       have zbu : gK.cell? ⟨yM, 4, none⟩ = some (.slice none 0 0) := (zk ze.out 4).trans rfl
                       have zbA : gK.cell? ⟨yM, 5, none⟩ = some (.slice none 0 0) := (zk ze.out 5).trans rfl
                       have zbB := zw ze.out 0
                       have zbC := zw ze.out 1
                       have zbD := zw ze.out 2
                       have zbE := zw ze.out 3
                       have zbF := zw ze.out 4
                       have zbG := zw ze.out 5
                       try go_wp2
                       refine bodyPost_ret (wT rfl _ _ yM 44 #[.string (⟨#[]⟩ : BA), .bool false, .int .i64 0, .slice none 0 0, .slice none 0 0, .slice none 0 0] (0, 0) _ rfl (by (with_reducible repeat (first | refine zC ?_ _ | refine zo ?_ | refine zV ?_ _)); refine zD (cs := #[.string (⟨#[]⟩ : BA), .bool false, .int .i64 0, .slice none 0 0, .slice none 0 0, .slice none 0 0]) ?_ 5 _ rfl; (with_reducible repeat (first | refine zC ?_ _ | refine zo ?_ | refine zV ?_ _)); refine zD (cs := #[.string (⟨#[]⟩ : BA), .bool false, .int .i64 0, .slice none 0 0, .slice none 0 0, .slice none 0 0]) ?_ 4 _ rfl; (with_reducible repeat (first | refine zC ?_ _ | refine zo ?_ | refine zV ?_ _)); refine zD (cs := #[.string (⟨#[]⟩ : BA), .bool false, .int .i64 0, .slice none 0 0, .slice none 0 0, .slice none 0 0]) ?_ 3 _ rfl; (with_reducible repeat (first | refine zC ?_ _ | refine zo ?_ | refine zV ?_ _)); refine zD (cs := #[.string (⟨#[]⟩ : BA), .bool false, .int .i64 yC, .slice none 0 0, .slice none 0 0, .slice none 0 0]) ?_ 2 _ rfl; (with_reducible repeat (first | refine zC ?_ _ | refine zo ?_ | refine zV ?_ _)); refine zD (cs := #[.string (⟨#[]⟩ : BA), .bool yT, .int .i64 yC, .slice none 0 0, .slice none 0 0, .slice none 0 0]) ?_ 1 _ rfl; (with_reducible repeat (first | refine zC ?_ _ | refine zo ?_ | refine zV ?_ _)); refine zD (cs := #[.string qK, .bool yT, .int .i64 yC, .slice none 0 0, .slice none 0 0, .slice none 0 0]) ?_ 0 _ rfl; (with_reducible repeat (first | refine zC ?_ _ | refine zo ?_ | refine zV ?_ _)); refine vE ?_ uO.out _; (with_reducible repeat (first | refine zC ?_ _ | refine zo ?_ | refine zV ?_ _)); exact ze.out) Tryz.underlying44 rfl (by kernel_rfl)) rfl ?_
                       exact ⟨_, _, _, by first | rfl | (simp [yZ, yQ] <;> rfl) | (simp [*, yZ, yQ] <;> rfl), by first | exact Kd.xE _ _ _ _ _ | exact Kd.jY _ _ _ _ _ | exact Kd.jW _ _ _ _ _ | exact Kd.jV _ _ _ _ _ | exact Kd.jK _ _ _ _ _, by first | exact Kd.xE _ _ _ _ _ | exact Kd.jY _ _ _ _ _ | exact Kd.jW _ _ _ _ _ | exact Kd.jV _ _ _ _ _ | exact Kd.jK _ _ _ _ _, by first | exact Kd.xE _ _ _ _ _ | exact Kd.jY _ _ _ _ _ | exact Kd.jW _ _ _ _ _ | exact Kd.jV _ _ _ _ _ | exact Kd.jK _ _ _ _ _, by repeat (first | (with_reducible first | exact HB.out | apply yt | apply zM | apply yP | refine qo ?_ V4.out | refine qo ?_ V5.out) | exact HB.out)⟩
                    ·rw [if_neg zjm] at H
                     exact absurd H (by simp)
                   ·rw [if_neg zjl] at H
                    exact absurd H (by simp)
                  ·rw [if_neg zji] at H
                   exact absurd H (by simp)
                 ·rw [if_neg c109] at H
                  exact absurd H (by simp)
                ·replace zjh := Bool.eq_false_iff.mpr zjh
                 subst zjh
                 have H1 : (some ((⟨#[]⟩ : BA), false, 0, ([] : List (qJ)), ([] : List (xK)), ([] : List (xY)), 4)) = some (r1, r2, r3, r4, r5, r6, r7) := by rw [if_neg (show ¬ (false = true) by decide)] at H; exact H
                 clear H
                 have H := H1
                 clear H1
                 as_aux_lemma =>
                  simp only [Option.some.injEq, Prod.mk.injEq] at H
                  obtain ⟨rfl, rfl, rfl, rfl, rfl, rfl, rfl⟩ := H
                  have zhV := uO.out
                  have zhK := jo.out
                  have zbH : wc.cell? ⟨yM, 0, none⟩ = some (.string qK) := (zk ze.out 0).trans rfl
                  have zbI : wc.cell? ⟨yM, 1, none⟩ = some (.bool yT) := (zk ze.out 1).trans rfl
                  have zbL : wc.cell? ⟨yM, 2, none⟩ = some (.int .i64 yC) := (zk ze.out 2).trans rfl
                  have zbM : wc.cell? ⟨yM, 3, none⟩ = some (.slice none 0 0) := (zk ze.out 3).trans rfl
                  have zbN : wc.cell? ⟨yM, 4, none⟩ = some (.slice none 0 0) := (zk ze.out 4).trans rfl
                  have zbO : wc.cell? ⟨yM, 5, none⟩ = some (.slice none 0 0) := (zk ze.out 5).trans rfl
                  have zbP := zw ze.out 0
                  have zbR := zw ze.out 1
                  have zbS := zw ze.out 2
                  have zbT := zw ze.out 3
                  have zbU := zw ze.out 4
                  have zb0 := zw ze.out 5
                  go_wp2
                  refine bodyPost_ret (wT rfl _ _ yM 44 #[.string (⟨#[]⟩ : BA), .bool false, .int .i64 0, .slice none 0 0, .slice none 0 0, .slice none 0 0] (0, 0) _ rfl (by (with_reducible repeat (first | refine zC ?_ _ | refine zo ?_ | refine zV ?_ _)); refine zD (cs := #[.string (⟨#[]⟩ : BA), .bool false, .int .i64 0, .slice none 0 0, .slice none 0 0, .slice none 0 0]) ?_ 5 _ rfl; (with_reducible repeat (first | refine zC ?_ _ | refine zo ?_ | refine zV ?_ _)); refine zD (cs := #[.string (⟨#[]⟩ : BA), .bool false, .int .i64 0, .slice none 0 0, .slice none 0 0, .slice none 0 0]) ?_ 4 _ rfl; (with_reducible repeat (first | refine zC ?_ _ | refine zo ?_ | refine zV ?_ _)); refine zD (cs := #[.string (⟨#[]⟩ : BA), .bool false, .int .i64 0, .slice none 0 0, .slice none 0 0, .slice none 0 0]) ?_ 3 _ rfl; (with_reducible repeat (first | refine zC ?_ _ | refine zo ?_ | refine zV ?_ _)); refine zD (cs := #[.string (⟨#[]⟩ : BA), .bool false, .int .i64 yC, .slice none 0 0, .slice none 0 0, .slice none 0 0]) ?_ 2 _ rfl; (with_reducible repeat (first | refine zC ?_ _ | refine zo ?_ | refine zV ?_ _)); refine zD (cs := #[.string (⟨#[]⟩ : BA), .bool yT, .int .i64 yC, .slice none 0 0, .slice none 0 0, .slice none 0 0]) ?_ 1 _ rfl; (with_reducible repeat (first | refine zC ?_ _ | refine zo ?_ | refine zV ?_ _)); refine zD (cs := #[.string qK, .bool yT, .int .i64 yC, .slice none 0 0, .slice none 0 0, .slice none 0 0]) ?_ 0 _ rfl; (with_reducible repeat (first | refine zC ?_ _ | refine zo ?_ | refine zV ?_ _)); exact ze.out) Tryz.underlying44 rfl (by kernel_rfl)) rfl ?_
                  exact ⟨_, _, _, by first | rfl | (simp [yZ, yQ] <;> rfl) | (simp [*, yZ, yQ] <;> rfl), by first | exact Kd.xE _ _ _ _ _ | exact Kd.jY _ _ _ _ _ | exact Kd.jW _ _ _ _ _ | exact Kd.jV _ _ _ _ _ | exact Kd.jK _ _ _ _ _, by first | exact Kd.xE _ _ _ _ _ | exact Kd.jY _ _ _ _ _ | exact Kd.jW _ _ _ _ _ | exact Kd.jV _ _ _ _ _ | exact Kd.jK _ _ _ _ _, by first | exact Kd.xE _ _ _ _ _ | exact Kd.jY _ _ _ _ _ | exact Kd.jW _ _ _ _ _ | exact Kd.jV _ _ _ _ _ | exact Kd.jK _ _ _ _ _, by repeat (first | (with_reducible first | exact HB.out | apply yt | apply zM | apply yP | refine qo ?_ V4.out | refine qo ?_ V5.out) | exact HB.out)⟩
     ·rw [if_neg c8] at H
      exact absurd H (by simp)
    ·rw [if_neg c7] at H
     exact absurd H (by simp)
   ·rw [if_neg c6] at H
    have Xf : decide ((wrap64 (qL + 1)) < (vv.length : Int)) = false := decide_eq_false c6
    clear c6
    replace H := Option.bind_eq_some_iff.mp H
    obtain ⟨⟨KA, KC⟩, zwD, H⟩ := H
    replace H : (if KC = 0 then (if KA.toList = a0.toList then (some (zF, zG, zI, yD, yL, yH, 0)) else (some ((⟨#[]⟩ : BA), false, 0, ([] : List (qJ)), ([] : List (xK)), ([] : List (xY)), 4))) else (some ((⟨#[]⟩ : BA), false, 0, ([] : List (qJ)), ([] : List (xK)), ([] : List (xY)), 4))) = some (r1, r2, r3, r4, r5, r6, r7) := H
    have zyX := zy.mk zwD
    clear zwD
    by_cases gY : KC = 0
    ·rw [if_pos gY] at H
     have zJ1 : (KC == 0) = true := beq_iff_eq.mpr gY
     have zJ2 : (KC != 0) = false := bne_eq_false_iff_eq.mpr gY
     clear gY
     by_cases gW : KA.toList = a0.toList
     ·rw [if_pos gW] at H
      have zJ3 : (KA.toList == a0.toList) = true := beq_iff_eq.mpr gW
      have zJ4 : (KA.toList != a0.toList) = false := bne_eq_false_iff_eq.mpr gW
      clear gW
      as_aux_lemma =>
       simp only [Option.some.injEq, Prod.mk.injEq] at H
       obtain ⟨rfl, rfl, rfl, rfl, rfl, rfl, rfl⟩ := H
       obtain ⟨zib, zic, zWj⟩ := Kd.yx qQ.out
       subst zWj
       have zhY := jo.out
       have zhW := uO.out
       have zb1 : wr.cell? ⟨yV, 0, none⟩ = some (.string zF) := (zk zY.out 0).trans rfl
       have zb2 : wr.cell? ⟨yV, 1, none⟩ = some (.bool zG) := (zk zY.out 1).trans rfl
       have zb3 : wr.cell? ⟨yV, 2, none⟩ = some (.int .i64 zI) := (zk zY.out 2).trans rfl
       have zb4 : wr.cell? ⟨yV, 3, none⟩ = some (qP) := (zk zY.out 3).trans rfl
       have zb5 : wr.cell? ⟨yV, 4, none⟩ = some (xW) := (zk zY.out 4).trans rfl
       have zb6 : wr.cell? ⟨yV, 5, none⟩ = some (qR) := (zk zY.out 5).trans rfl
       have zb7 := zw zY.out 0
       have zb8 := zw zY.out 1
       have zb9 := zw zY.out 2
       have zcz := zw zY.out 3
       have zcq := zw zY.out 4
       have zcx := zw zY.out 5
       obtain ⟨V6, V7, zWv⟩ := Kd.yx zl.out
       subst zWv
       obtain ⟨U6, U7, zWk⟩ := Kd.yx zu.out
       subst zWk
       obtain ⟨KD, KE, zWy⟩ := Kd.yx zm.out
       subst zWy
       go_wp2_with (first | ((with_reducible refine yI (f := 75) rfl ?_); refine je (some 171) Tryz.func75 #[.agg #[.string zF, .bool zG, .int .i64 zI, .slice V6 yD.length V7, .slice U6 yL.length U7, .slice KD yH.length KE]] ?_; (with_reducible refine (uj.calls zF zG zI _ _ yD _ _ yL _ _ yH KA KC _ ?qd ?qC ?uJ ?uV ?jE ?jF zyX.out).mono ?_); (case qd => repeat (first | exact (Kd.yh zl.out).2.2 | (with_reducible refine Kd.yE ?_ _) | (with_reducible refine Kd.yF ?_ _) | (with_reducible refine Kd.y8 ?_))); (case qC => exact (Kd.yh zl.out).2.1); (case uJ => repeat (first | exact (Kd.yh zu.out).2.2 | (with_reducible refine Kd.yE ?_ _) | (with_reducible refine Kd.yF ?_ _) | (with_reducible refine Kd.y8 ?_))); (case uV => exact (Kd.yh zu.out).2.1); (case jE => repeat (first | exact (Kd.yh zm.out).2.2 | (with_reducible refine Kd.yE ?_ _) | (with_reducible refine Kd.yF ?_ _) | (with_reducible refine Kd.y8 ?_))); (case jF => exact (Kd.yh zm.out).2.1); rintro e VO ⟨rfl, hb⟩; refine ⟨_, rfl, ?_⟩; have zn := zy.mk (Kd.zR (yK qQ.out) hb); have zA := zy.mk (Kd.zR (yK zl.out) hb); have zH := zy.mk (Kd.zR (yK zu.out) hb); have zP := zy.mk (Kd.zR (yK zm.out) hb); have qj := zy.mk (zf (g := yM) (o := .cells #[.string qK, .bool yT, .int .i64 yC, .slice none 0 0, .slice none 0 0, .slice none 0 0] 44 (0, 0)) (qX ze.out) hb); have xw := zy.mk (zf (g := yV) (o := .cells #[.string zF, .bool zG, .int .i64 zI, .slice V6 yD.length V7, .slice U6 yL.length U7, .slice KD yH.length KE] 44 (0, 0)) (qX zY.out) hb); have xO := zy.mk (yY (yX HB.out) hb); clear qQ; clear zl; clear zu; clear zm; clear ze; clear zY; clear HB; have qQ := zn; have zl := zA; have zu := zH; have zm := zP; have ze := qj; have zY := xw; have HB := xO; clear zn zA zH zP qj xw xO; (try clear hb); (try clear hb2); (try clear hk); (try clear hi); have zcj : VO.cell? ⟨yV, 0, none⟩ = some (.string zF) := (zk zY.out 0).trans rfl; have zcv : VO.cell? ⟨yV, 1, none⟩ = some (.bool zG) := (zk zY.out 1).trans rfl; have zck : VO.cell? ⟨yV, 2, none⟩ = some (.int .i64 zI) := (zk zY.out 2).trans rfl; have zcy : VO.cell? ⟨yV, 3, none⟩ = some (.slice V6 yD.length V7) := (zk zY.out 3).trans rfl; have zcw : VO.cell? ⟨yV, 4, none⟩ = some (.slice U6 yL.length U7) := (zk zY.out 4).trans rfl; have zcZ : VO.cell? ⟨yV, 5, none⟩ = some (.slice KD yH.length KE) := (zk zY.out 5).trans rfl; have zcQ := zw zY.out 0; have zcX := zw zY.out 1; have zcJ := zw zY.out 2; have zcV := zw zY.out 3; have zcK := zw zY.out 4; have zcY := zw zY.out 5; have zcW : VO.cell? ⟨yM, 0, none⟩ = some (.string qK) := (zk ze.out 0).trans rfl; have zca : VO.cell? ⟨yM, 1, none⟩ = some (.bool yT) := (zk ze.out 1).trans rfl; have zcb : VO.cell? ⟨yM, 2, none⟩ = some (.int .i64 yC) := (zk ze.out 2).trans rfl; have zcc : VO.cell? ⟨yM, 3, none⟩ = some (.slice none 0 0) := (zk ze.out 3).trans rfl; have zcd : VO.cell? ⟨yM, 4, none⟩ = some (.slice none 0 0) := (zk ze.out 4).trans rfl; have zce : VO.cell? ⟨yM, 5, none⟩ = some (.slice none 0 0) := (zk ze.out 5).trans rfl; have zcf := zw ze.out 0; have zcg := zw ze.out 1; have zch := zw ze.out 2; have zci := zw ze.out 3; have zcl := zw ze.out 4; have zcm := zw ze.out 5))
       refine bodyPost_ret (wT rfl _ _ yM 44 #[.string zF, .bool zG, .int .i64 zI, .slice V6 yD.length V7, .slice U6 yL.length U7, .slice KD yH.length KE] (0, 0) _ rfl (by (with_reducible repeat (first | refine zC ?_ _ | refine zo ?_ | refine zV ?_ _)); refine zD (cs := #[.string zF, .bool zG, .int .i64 zI, .slice V6 yD.length V7, .slice U6 yL.length U7, .slice none 0 0]) ?_ 5 _ rfl; (with_reducible repeat (first | refine zC ?_ _ | refine zo ?_ | refine zV ?_ _)); refine zD (cs := #[.string zF, .bool zG, .int .i64 zI, .slice V6 yD.length V7, .slice none 0 0, .slice none 0 0]) ?_ 4 _ rfl; (with_reducible repeat (first | refine zC ?_ _ | refine zo ?_ | refine zV ?_ _)); refine zD (cs := #[.string zF, .bool zG, .int .i64 zI, .slice none 0 0, .slice none 0 0, .slice none 0 0]) ?_ 3 _ rfl; (with_reducible repeat (first | refine zC ?_ _ | refine zo ?_ | refine zV ?_ _)); refine zD (cs := #[.string zF, .bool zG, .int .i64 yC, .slice none 0 0, .slice none 0 0, .slice none 0 0]) ?_ 2 _ rfl; (with_reducible repeat (first | refine zC ?_ _ | refine zo ?_ | refine zV ?_ _)); refine zD (cs := #[.string zF, .bool yT, .int .i64 yC, .slice none 0 0, .slice none 0 0, .slice none 0 0]) ?_ 1 _ rfl; (with_reducible repeat (first | refine zC ?_ _ | refine zo ?_ | refine zV ?_ _)); refine zD (cs := #[.string qK, .bool yT, .int .i64 yC, .slice none 0 0, .slice none 0 0, .slice none 0 0]) ?_ 0 _ rfl; (with_reducible repeat (first | refine zC ?_ _ | refine zo ?_ | refine zV ?_ _)); exact ze.out) Tryz.underlying44 rfl (by kernel_rfl)) rfl ?_
       exact ⟨_, _, _, by first | rfl | (simp [yZ, yQ] <;> rfl) | (simp [*, yZ, yQ] <;> rfl), by (with_reducible repeat (first | apply Kd.qE | apply Kd.qp | apply Kd.yR)); exact Kd.yN (Kd.qy (p := ⟨yM, 5, none⟩) (Kd.qy (p := ⟨yM, 4, none⟩) (Kd.qy (p := ⟨yM, 3, none⟩) (Kd.qy (p := ⟨yM, 2, none⟩) (Kd.qy (p := ⟨yM, 1, none⟩) (Kd.qy (p := ⟨yM, 0, none⟩) (Kd.vQ zl.out ze.out (by decide)) (fun _ hk => hk.2) (.string zF)) (fun _ hk => hk.2) (.bool zG)) (fun _ hk => hk.2) (.int .i64 zI)) (fun _ hk => hk.2) (.slice V6 yD.length V7)) (fun _ hk => hk.2) (.slice U6 yL.length U7)) (fun _ hk => hk.2) (.slice KD yH.length KE)) (fun _ hk => trivial), by (with_reducible repeat (first | apply Kd.qE | apply Kd.qp | apply Kd.yR)); exact Kd.yN (Kd.qy (p := ⟨yM, 5, none⟩) (Kd.qy (p := ⟨yM, 4, none⟩) (Kd.qy (p := ⟨yM, 3, none⟩) (Kd.qy (p := ⟨yM, 2, none⟩) (Kd.qy (p := ⟨yM, 1, none⟩) (Kd.qy (p := ⟨yM, 0, none⟩) (Kd.vQ zu.out ze.out (by decide)) (fun _ hk => hk.2) (.string zF)) (fun _ hk => hk.2) (.bool zG)) (fun _ hk => hk.2) (.int .i64 zI)) (fun _ hk => hk.2) (.slice V6 yD.length V7)) (fun _ hk => hk.2) (.slice U6 yL.length U7)) (fun _ hk => hk.2) (.slice KD yH.length KE)) (fun _ hk => trivial), by (with_reducible repeat (first | apply Kd.qE | apply Kd.qp | apply Kd.yR)); exact Kd.yN (Kd.qy (p := ⟨yM, 5, none⟩) (Kd.qy (p := ⟨yM, 4, none⟩) (Kd.qy (p := ⟨yM, 3, none⟩) (Kd.qy (p := ⟨yM, 2, none⟩) (Kd.qy (p := ⟨yM, 1, none⟩) (Kd.qy (p := ⟨yM, 0, none⟩) (Kd.vQ zm.out ze.out (by decide)) (fun _ hk => hk.2) (.string zF)) (fun _ hk => hk.2) (.bool zG)) (fun _ hk => hk.2) (.int .i64 zI)) (fun _ hk => hk.2) (.slice V6 yD.length V7)) (fun _ hk => hk.2) (.slice U6 yL.length U7)) (fun _ hk => hk.2) (.slice KD yH.length KE)) (fun _ hk => trivial), by repeat (first | (with_reducible first | exact HB.out | apply yt | apply zM | apply yP | refine qo ?_ V4.out | refine qo ?_ V5.out) | exact HB.out)⟩
     ·rw [if_neg gW] at H
      have zJ3 : (KA.toList == a0.toList) = false := beq_eq_false_iff_ne.mpr gW
      have zJ4 : (KA.toList != a0.toList) = true := bne_iff_ne.mpr gW
      as_aux_lemma =>
       simp only [Option.some.injEq, Prod.mk.injEq] at H
       obtain ⟨rfl, rfl, rfl, rfl, rfl, rfl, rfl⟩ := H
       obtain ⟨zid, zie, zWw⟩ := Kd.yx qQ.out
       subst zWw
       have zha := jo.out
       have zhb := uO.out
       have zcn : wr.cell? ⟨yV, 0, none⟩ = some (.string zF) := (zk zY.out 0).trans rfl
       have zco : wr.cell? ⟨yV, 1, none⟩ = some (.bool zG) := (zk zY.out 1).trans rfl
       have zcp : wr.cell? ⟨yV, 2, none⟩ = some (.int .i64 zI) := (zk zY.out 2).trans rfl
       have zcr : wr.cell? ⟨yV, 3, none⟩ = some (qP) := (zk zY.out 3).trans rfl
       have zcs : wr.cell? ⟨yV, 4, none⟩ = some (xW) := (zk zY.out 4).trans rfl
       have zct : wr.cell? ⟨yV, 5, none⟩ = some (qR) := (zk zY.out 5).trans rfl
       have zcu := zw zY.out 0
       have zcA := zw zY.out 1
       have zcB := zw zY.out 2
       have zcC := zw zY.out 3
       have zcD := zw zY.out 4
       have zcE := zw zY.out 5
       obtain ⟨zwE, zwF, zWZ⟩ := Kd.yx zl.out
       subst zWZ
       obtain ⟨zwG, zwH, zWQ⟩ := Kd.yx zu.out
       subst zWQ
       obtain ⟨zwI, zwL, zWX⟩ := Kd.yx zm.out
       subst zWX
       go_wp2_with (first | ((with_reducible refine yI (f := 75) rfl ?_); refine je (some 171) Tryz.func75 #[.agg #[.string zF, .bool zG, .int .i64 zI, .slice zwE yD.length zwF, .slice zwG yL.length zwH, .slice zwI yH.length zwL]] ?_; (with_reducible refine (uj.calls zF zG zI _ _ yD _ _ yL _ _ yH KA KC _ ?qd ?qC ?uJ ?uV ?jE ?jF zyX.out).mono ?_); (case qd => repeat (first | exact (Kd.yh zl.out).2.2 | (with_reducible refine Kd.yE ?_ _) | (with_reducible refine Kd.yF ?_ _) | (with_reducible refine Kd.y8 ?_))); (case qC => exact (Kd.yh zl.out).2.1); (case uJ => repeat (first | exact (Kd.yh zu.out).2.2 | (with_reducible refine Kd.yE ?_ _) | (with_reducible refine Kd.yF ?_ _) | (with_reducible refine Kd.y8 ?_))); (case uV => exact (Kd.yh zu.out).2.1); (case jE => repeat (first | exact (Kd.yh zm.out).2.2 | (with_reducible refine Kd.yE ?_ _) | (with_reducible refine Kd.yF ?_ _) | (with_reducible refine Kd.y8 ?_))); (case jF => exact (Kd.yh zm.out).2.1); rintro e fq ⟨rfl, hb⟩; refine ⟨_, rfl, ?_⟩; have zn := zy.mk (Kd.zR (yK qQ.out) hb); have zA := zy.mk (Kd.zR (yK zl.out) hb); have zH := zy.mk (Kd.zR (yK zu.out) hb); have zP := zy.mk (Kd.zR (yK zm.out) hb); have qj := zy.mk (zf (g := yM) (o := .cells #[.string qK, .bool yT, .int .i64 yC, .slice none 0 0, .slice none 0 0, .slice none 0 0] 44 (0, 0)) (qX ze.out) hb); have xw := zy.mk (zf (g := yV) (o := .cells #[.string zF, .bool zG, .int .i64 zI, .slice zwE yD.length zwF, .slice zwG yL.length zwH, .slice zwI yH.length zwL] 44 (0, 0)) (qX zY.out) hb); have xO := zy.mk (yY (yX HB.out) hb); clear qQ; clear zl; clear zu; clear zm; clear ze; clear zY; clear HB; have qQ := zn; have zl := zA; have zu := zH; have zm := zP; have ze := qj; have zY := xw; have HB := xO; clear zn zA zH zP qj xw xO; (try clear hb); (try clear hb2); (try clear hk); (try clear hi); have zcF : fq.cell? ⟨yM, 0, none⟩ = some (.string qK) := (zk ze.out 0).trans rfl; have zcG : fq.cell? ⟨yM, 1, none⟩ = some (.bool yT) := (zk ze.out 1).trans rfl; have zcH : fq.cell? ⟨yM, 2, none⟩ = some (.int .i64 yC) := (zk ze.out 2).trans rfl; have zcI : fq.cell? ⟨yM, 3, none⟩ = some (.slice none 0 0) := (zk ze.out 3).trans rfl; have zcL : fq.cell? ⟨yM, 4, none⟩ = some (.slice none 0 0) := (zk ze.out 4).trans rfl; have zcM : fq.cell? ⟨yM, 5, none⟩ = some (.slice none 0 0) := (zk ze.out 5).trans rfl; have zcN := zw ze.out 0; have zcO := zw ze.out 1; have zcP := zw ze.out 2; have zcR := zw ze.out 3; have zcS := zw ze.out 4; have zcT := zw ze.out 5))
       refine bodyPost_ret (wT rfl _ _ yM 44 #[.string (⟨#[]⟩ : BA), .bool false, .int .i64 0, .slice none 0 0, .slice none 0 0, .slice none 0 0] (0, 0) _ rfl (by (with_reducible repeat (first | refine zC ?_ _ | refine zo ?_ | refine zV ?_ _)); refine zD (cs := #[.string (⟨#[]⟩ : BA), .bool false, .int .i64 0, .slice none 0 0, .slice none 0 0, .slice none 0 0]) ?_ 5 _ rfl; (with_reducible repeat (first | refine zC ?_ _ | refine zo ?_ | refine zV ?_ _)); refine zD (cs := #[.string (⟨#[]⟩ : BA), .bool false, .int .i64 0, .slice none 0 0, .slice none 0 0, .slice none 0 0]) ?_ 4 _ rfl; (with_reducible repeat (first | refine zC ?_ _ | refine zo ?_ | refine zV ?_ _)); refine zD (cs := #[.string (⟨#[]⟩ : BA), .bool false, .int .i64 0, .slice none 0 0, .slice none 0 0, .slice none 0 0]) ?_ 3 _ rfl; (with_reducible repeat (first | refine zC ?_ _ | refine zo ?_ | refine zV ?_ _)); refine zD (cs := #[.string (⟨#[]⟩ : BA), .bool false, .int .i64 yC, .slice none 0 0, .slice none 0 0, .slice none 0 0]) ?_ 2 _ rfl; (with_reducible repeat (first | refine zC ?_ _ | refine zo ?_ | refine zV ?_ _)); refine zD (cs := #[.string (⟨#[]⟩ : BA), .bool yT, .int .i64 yC, .slice none 0 0, .slice none 0 0, .slice none 0 0]) ?_ 1 _ rfl; (with_reducible repeat (first | refine zC ?_ _ | refine zo ?_ | refine zV ?_ _)); refine zD (cs := #[.string qK, .bool yT, .int .i64 yC, .slice none 0 0, .slice none 0 0, .slice none 0 0]) ?_ 0 _ rfl; (with_reducible repeat (first | refine zC ?_ _ | refine zo ?_ | refine zV ?_ _)); exact ze.out) Tryz.underlying44 rfl (by kernel_rfl)) rfl ?_
       exact ⟨_, _, _, by first | rfl | (simp [yZ, yQ] <;> rfl) | (simp [*, yZ, yQ] <;> rfl), by first | exact Kd.xE _ _ _ _ _ | exact Kd.jY _ _ _ _ _ | exact Kd.jW _ _ _ _ _ | exact Kd.jV _ _ _ _ _ | exact Kd.jK _ _ _ _ _, by first | exact Kd.xE _ _ _ _ _ | exact Kd.jY _ _ _ _ _ | exact Kd.jW _ _ _ _ _ | exact Kd.jV _ _ _ _ _ | exact Kd.jK _ _ _ _ _, by first | exact Kd.xE _ _ _ _ _ | exact Kd.jY _ _ _ _ _ | exact Kd.jW _ _ _ _ _ | exact Kd.jV _ _ _ _ _ | exact Kd.jK _ _ _ _ _, by repeat (first | (with_reducible first | exact HB.out | apply yt | apply zM | apply yP | refine qo ?_ V4.out | refine qo ?_ V5.out) | exact HB.out)⟩
    ·rw [if_neg gY] at H
     have zJ1 : (KC == 0) = false := beq_eq_false_iff_ne.mpr gY
     have zJ2 : (KC != 0) = true := bne_iff_ne.mpr gY
     as_aux_lemma =>
      simp only [Option.some.injEq, Prod.mk.injEq] at H
      obtain ⟨rfl, rfl, rfl, rfl, rfl, rfl, rfl⟩ := H
      obtain ⟨zif, zih, zWJ⟩ := Kd.yx qQ.out
      subst zWJ
      have zhc := jo.out
      have zhd := uO.out
      have zcU : wr.cell? ⟨yV, 0, none⟩ = some (.string zF) := (zk zY.out 0).trans rfl
      have zc0 : wr.cell? ⟨yV, 1, none⟩ = some (.bool zG) := (zk zY.out 1).trans rfl
      have zc1 : wr.cell? ⟨yV, 2, none⟩ = some (.int .i64 zI) := (zk zY.out 2).trans rfl
      have zc2 : wr.cell? ⟨yV, 3, none⟩ = some (qP) := (zk zY.out 3).trans rfl
      have zc3 : wr.cell? ⟨yV, 4, none⟩ = some (xW) := (zk zY.out 4).trans rfl
      have zc4 : wr.cell? ⟨yV, 5, none⟩ = some (qR) := (zk zY.out 5).trans rfl
      have zc5 := zw zY.out 0
      have zc6 := zw zY.out 1
      have zc7 := zw zY.out 2
      have zc8 := zw zY.out 3
      have zc9 := zw zY.out 4
      have zdz := zw zY.out 5
      obtain ⟨zwM, zwN, zWV⟩ := Kd.yx zl.out
      subst zWV
      obtain ⟨zwO, zwP, zWK⟩ := Kd.yx zu.out
      subst zWK
      obtain ⟨zwR, zwS, zWY⟩ := Kd.yx zm.out
      subst zWY
      go_wp2_with (first | ((with_reducible refine yI (f := 75) rfl ?_); refine je (some 171) Tryz.func75 #[.agg #[.string zF, .bool zG, .int .i64 zI, .slice zwM yD.length zwN, .slice zwO yL.length zwP, .slice zwR yH.length zwS]] ?_; (with_reducible refine (uj.calls zF zG zI _ _ yD _ _ yL _ _ yH KA KC _ ?qd ?qC ?uJ ?uV ?jE ?jF zyX.out).mono ?_); (case qd => repeat (first | exact (Kd.yh zl.out).2.2 | (with_reducible refine Kd.yE ?_ _) | (with_reducible refine Kd.yF ?_ _) | (with_reducible refine Kd.y8 ?_))); (case qC => exact (Kd.yh zl.out).2.1); (case uJ => repeat (first | exact (Kd.yh zu.out).2.2 | (with_reducible refine Kd.yE ?_ _) | (with_reducible refine Kd.yF ?_ _) | (with_reducible refine Kd.y8 ?_))); (case uV => exact (Kd.yh zu.out).2.1); (case jE => repeat (first | exact (Kd.yh zm.out).2.2 | (with_reducible refine Kd.yE ?_ _) | (with_reducible refine Kd.yF ?_ _) | (with_reducible refine Kd.y8 ?_))); (case jF => exact (Kd.yh zm.out).2.1); rintro e fZ ⟨rfl, hb⟩; refine ⟨_, rfl, ?_⟩; have zn := zy.mk (Kd.zR (yK qQ.out) hb); have zA := zy.mk (Kd.zR (yK zl.out) hb); have zH := zy.mk (Kd.zR (yK zu.out) hb); have zP := zy.mk (Kd.zR (yK zm.out) hb); have qj := zy.mk (zf (g := yM) (o := .cells #[.string qK, .bool yT, .int .i64 yC, .slice none 0 0, .slice none 0 0, .slice none 0 0] 44 (0, 0)) (qX ze.out) hb); have xw := zy.mk (zf (g := yV) (o := .cells #[.string zF, .bool zG, .int .i64 zI, .slice zwM yD.length zwN, .slice zwO yL.length zwP, .slice zwR yH.length zwS] 44 (0, 0)) (qX zY.out) hb); have xO := zy.mk (yY (yX HB.out) hb); clear qQ; clear zl; clear zu; clear zm; clear ze; clear zY; clear HB; have qQ := zn; have zl := zA; have zu := zH; have zm := zP; have ze := qj; have zY := xw; have HB := xO; clear zn zA zH zP qj xw xO; (try clear hb); (try clear hb2); (try clear hk); (try clear hi); have zdq : fZ.cell? ⟨yM, 0, none⟩ = some (.string qK) := (zk ze.out 0).trans rfl; have zdx : fZ.cell? ⟨yM, 1, none⟩ = some (.bool yT) := (zk ze.out 1).trans rfl; have zdj : fZ.cell? ⟨yM, 2, none⟩ = some (.int .i64 yC) := (zk ze.out 2).trans rfl; have zdv : fZ.cell? ⟨yM, 3, none⟩ = some (.slice none 0 0) := (zk ze.out 3).trans rfl; have zdk : fZ.cell? ⟨yM, 4, none⟩ = some (.slice none 0 0) := (zk ze.out 4).trans rfl; have zdy : fZ.cell? ⟨yM, 5, none⟩ = some (.slice none 0 0) := (zk ze.out 5).trans rfl; have zdw := zw ze.out 0; have zdZ := zw ze.out 1; have zdQ := zw ze.out 2; have zdX := zw ze.out 3; have zdJ := zw ze.out 4; have zdV := zw ze.out 5))
      refine bodyPost_ret (wT rfl _ _ yM 44 #[.string (⟨#[]⟩ : BA), .bool false, .int .i64 0, .slice none 0 0, .slice none 0 0, .slice none 0 0] (0, 0) _ rfl (by (with_reducible repeat (first | refine zC ?_ _ | refine zo ?_ | refine zV ?_ _)); refine zD (cs := #[.string (⟨#[]⟩ : BA), .bool false, .int .i64 0, .slice none 0 0, .slice none 0 0, .slice none 0 0]) ?_ 5 _ rfl; (with_reducible repeat (first | refine zC ?_ _ | refine zo ?_ | refine zV ?_ _)); refine zD (cs := #[.string (⟨#[]⟩ : BA), .bool false, .int .i64 0, .slice none 0 0, .slice none 0 0, .slice none 0 0]) ?_ 4 _ rfl; (with_reducible repeat (first | refine zC ?_ _ | refine zo ?_ | refine zV ?_ _)); refine zD (cs := #[.string (⟨#[]⟩ : BA), .bool false, .int .i64 0, .slice none 0 0, .slice none 0 0, .slice none 0 0]) ?_ 3 _ rfl; (with_reducible repeat (first | refine zC ?_ _ | refine zo ?_ | refine zV ?_ _)); refine zD (cs := #[.string (⟨#[]⟩ : BA), .bool false, .int .i64 yC, .slice none 0 0, .slice none 0 0, .slice none 0 0]) ?_ 2 _ rfl; (with_reducible repeat (first | refine zC ?_ _ | refine zo ?_ | refine zV ?_ _)); refine zD (cs := #[.string (⟨#[]⟩ : BA), .bool yT, .int .i64 yC, .slice none 0 0, .slice none 0 0, .slice none 0 0]) ?_ 1 _ rfl; (with_reducible repeat (first | refine zC ?_ _ | refine zo ?_ | refine zV ?_ _)); refine zD (cs := #[.string qK, .bool yT, .int .i64 yC, .slice none 0 0, .slice none 0 0, .slice none 0 0]) ?_ 0 _ rfl; (with_reducible repeat (first | refine zC ?_ _ | refine zo ?_ | refine zV ?_ _)); exact ze.out) Tryz.underlying44 rfl (by kernel_rfl)) rfl ?_
      exact ⟨_, _, _, by first | rfl | (simp [yZ, yQ] <;> rfl) | (simp [*, yZ, yQ] <;> rfl), by first | exact Kd.xE _ _ _ _ _ | exact Kd.jY _ _ _ _ _ | exact Kd.jW _ _ _ _ _ | exact Kd.jV _ _ _ _ _ | exact Kd.jK _ _ _ _ _, by first | exact Kd.xE _ _ _ _ _ | exact Kd.jY _ _ _ _ _ | exact Kd.jW _ _ _ _ _ | exact Kd.jV _ _ _ _ _ | exact Kd.jK _ _ _ _ _, by first | exact Kd.xE _ _ _ _ _ | exact Kd.jY _ _ _ _ _ | exact Kd.jW _ _ _ _ _ | exact Kd.jV _ _ _ _ _ | exact Kd.jK _ _ _ _ _, by repeat (first | (with_reducible first | exact HB.out | apply yt | apply zM | apply yP | refine qo ?_ V4.out | refine qo ?_ V5.out) | exact HB.out)⟩
end Go.Proofs.YtaifemkokfoadaaGreatDoor.PX
namespace Go.Proofs.YtaifemkokfoadaaGreatDoor
open Go.RowKit Go.Proofs.zx.zK Go.Proofs.YtaifemkokfoadaaGreatDoor.PX
set_option linter.unusedSimpArgs false
set_option linter.unusedVariables false
structure Xa where
 a : ByteArray
 b : Bool
 c : Int
 l3 : List qJ
 l4 : List xK
 l5 : List xY
abbrev VY : ByteArray × Bool × Int × List qJ × List xK × List xY × Int := (⟨#[]⟩, false, 0, [], [], [], 4)
abbrev okT (g : Xa) : ByteArray × Bool × Int × List qJ × List xK × List xY × Int := (g.a, g.b, g.c, g.l3, g.l4, g.l5, 0)
abbrev PL (k : Nat) (s : ByteArray) (ls : List ByteArray) (i : Int) (g : Xa) := zZ.l0 k s ls i g.a g.b g.c g.l3 g.l4 g.l5
abbrev W_ (ws : List ByteArray) (i : Int) : ByteArray := yG ByteArray.empty ws i
theorem wi {i : Nat} (h : i ≤ 1000000) : wrap64 ((i : Int) + 1) = ((i + 1 : Nat) : Int) := (YA (by omega) (by omega)).trans (by omega)
section
variable {s : ByteArray} {ls ws : List ByteArray} {i : Nat} {g : Xa} {r : ByteArray × Bool × Int × List qJ × List xK × List xY × Int}
theorem zzs : Ev (fun k => zZ.j1 k s ls (i : Int) ws false g.a g.b g.c g.l3 g.l4 g.l5) VY := Ev.step (fun k => by rw [zZ.j1]) (qN (by decide) (Ev.now _))
theorem zq5 (hi : i ≤ 1000000) (h1 : 1 < (ws.length : Int)) (H : Ev (fun k => PL k s ls ((i + 1 : Nat) : Int) { g with a := W_ ws 1, b := ((ws.length : Int) == 3) }) r) : Ev (fun k => zZ.j1 k s ls (i : Int) ws true g.a g.b g.c g.l3 g.l4 g.l5) r :=
 Ev.step (fun k => by rw [zZ.j1, wi hi]) (zL rfl (zL h1 H))
theorem zvF : Ev (fun k => zZ.j2 k s ls (i : Int) ws false g.a g.b g.c g.l3 g.l4 g.l5) VY := Ev.step (fun k => by rw [zZ.j2]) (qN (by decide) (Ev.now _))
theorem zQI (hi : i ≤ 1000000) (h1 : 1 < (ws.length : Int)) (H : (um (W_ ws 1).data.toList).2 = true → Ev (fun k => PL k s ls ((i + 1 : Nat) : Int) { g with c := (um (W_ ws 1).data.toList).1 }) r) (E : (um (W_ ws 1).data.toList).2 = false → r = VY) : Ev (fun k => zZ.j2 k s ls (i : Int) ws true g.a g.b g.c g.l3 g.l4 g.l5) r := by
 refine Ev.step (fun k => by rw [zZ.j2, wi hi]) (zL rfl (zL h1 (Ev.bind (WL _) ?_)))
 by_cases h : (um (W_ ws 1).data.toList).2 = true
 ·exact zL h (H h)
 ·rw [E (by simpa using h)]; exact qN h (Ev.now _)
theorem zvG : Ev (fun k => zZ.j5 k s ls (i : Int) ws false g.a g.b g.c g.l3 g.l4 g.l5) VY := Ev.step (fun k => by rw [zZ.j5]) (qN (by decide) (Ev.now _))
theorem zQL (hi : i ≤ 1000000) (h1 : (ws.length : Int) = 4) (hl : g.l5.length ≤ 1000000) (H : (um (W_ ws 3).data.toList).2 = true → Ev (fun k => PL k s ls ((i + 1 : Nat) : Int) { g with l5 := g.l5 ++ [⟨W_ ws 1, W_ ws 2, (um (W_ ws 3).data.toList).1⟩] }) r) (E : (um (W_ ws 3).data.toList).2 = false → r = VY) : Ev (fun k => zZ.j5 k s ls (i : Int) ws true g.a g.b g.c g.l3 g.l4 g.l5) r := by
 refine Ev.step (fun k => by rw [zZ.j5, wi hi]) (zL rfl (zL (by omega) (Ev.bind (WL _) ?_)))
 refine zL (by omega) ?_
 refine zL (by omega) ?_
 refine zL (by omega) ?_
 by_cases h : (um (W_ ws 3).data.toList).2 = true
 ·exact zL h (H h)
 ·rw [E (by simpa using h)]; exact qN h (Ev.now _)
theorem zQM (hi : i ≤ 1000000) (h1 : (ws.length : Int) = 4) (hl : g.l4.length ≤ 1000000) (H : Ev (fun k => PL k s ls ((i + 1 : Nat) : Int) { g with l4 := g.l4 ++ [⟨W_ ws 1, W_ ws 2, W_ ws 3⟩] }) r) : Ev (fun k => zZ.j4 k s ls (i : Int) ws true true g.a g.b g.c g.l3 g.l4 g.l5) r :=
 Ev.step (fun k => by rw [zZ.j4, wi hi]) (zL rfl (zL (by omega) (zL (by omega) (zL (by omega) (zL (by omega) (zL rfl H))))))
theorem zJ5 (h0 : 0 < (ws.length : Int)) (H : (W_ ws 0).toList = [107] → Ev (fun k => zZ.j5 k s ls (i : Int) ws ((ws.length : Int) == 4) g.a g.b g.c g.l3 g.l4 g.l5) r) (E : ¬ (W_ ws 0).toList = [107] → r = VY) : Ev (fun k => zZ.j4 k s ls (i : Int) ws true false g.a g.b g.c g.l3 g.l4 g.l5) r := by
 refine Ev.step (fun k => by rw [zZ.j4]) (qN (by decide) (zL h0 ?_))
 by_cases h : (W_ ws 0).toList = [107]
 ·exact zL h (H h)
 ·rw [E h]; exact qN h zvG
theorem zQN (hi : i ≤ 1000000) (h1 : (ws.length : Int) = 3) (hl : g.l3.length ≤ 1000000) (H : (um (W_ ws 2).data.toList).2 = true → Ev (fun k => PL k s ls ((i + 1 : Nat) : Int) { g with l3 := g.l3 ++ [⟨W_ ws 1, (um (W_ ws 2).data.toList).1⟩] }) r) (E : (um (W_ ws 2).data.toList).2 = false → r = VY) : Ev (fun k => zZ.j3 k s ls (i : Int) ws true true g.a g.b g.c g.l3 g.l4 g.l5) r := by
 refine Ev.step (fun k => by rw [zZ.j3, wi hi]) (zL rfl (zL (by omega) (Ev.bind (WL _) ?_)))
 refine zL (by omega) ?_
 refine zL (by omega) ?_
 by_cases h : (um (W_ ws 2).data.toList).2 = true
 ·exact zL h (H h)
 ·rw [E (by simpa using h)]; exact qN h (Ev.now _)
theorem zJ6 (h0 : 0 < (ws.length : Int)) (H : (W_ ws 0).toList = [108] → Ev (fun k => zZ.j4 k s ls (i : Int) ws true ((ws.length : Int) == 4) g.a g.b g.c g.l3 g.l4 g.l5) r) (E : ¬ (W_ ws 0).toList = [108] → Ev (fun k => zZ.j4 k s ls (i : Int) ws true false g.a g.b g.c g.l3 g.l4 g.l5) r) : Ev (fun k => zZ.j3 k s ls (i : Int) ws true false g.a g.b g.c g.l3 g.l4 g.l5) r := by
 refine Ev.step (fun k => by rw [zZ.j3]) (qN (by decide) (zL h0 ?_))
 by_cases h : (W_ ws 0).toList = [108]
 ·exact zL h (H h)
 ·exact qN h (E h)
end
def XF (i : Nat) (g : Xa) (ws : List ByteArray) : Option Xa :=
 if i = 0 then
  if (W_ ws 0).toList = [102, 111, 110, 116] ∧ (ws.length = 2 ∨ ws.length = 3 ∧ (W_ ws 2).toList = [115, 112, 101, 99, 105, 97, 108]) then some { g with a := W_ ws 1, b := ((ws.length : Int) == 3) } else none
 else if i = 1 then
  if (W_ ws 0).toList = [115, 112, 97, 99, 101] ∧ ws.length = 2 ∧ (um (W_ ws 1).data.toList).2 = true then some { g with c := (um (W_ ws 1).data.toList).1 } else none
 else if (W_ ws 0).toList = [103] ∧ ws.length = 3 then
  if (um (W_ ws 2).data.toList).2 = true then some { g with l3 := g.l3 ++ [⟨W_ ws 1, (um (W_ ws 2).data.toList).1⟩] } else none
 else if (W_ ws 0).toList = [108] ∧ ws.length = 4 then some { g with l4 := g.l4 ++ [⟨W_ ws 1, W_ ws 2, W_ ws 3⟩] }
 else if (W_ ws 0).toList = [107] ∧ ws.length = 4 then
  if (um (W_ ws 3).data.toList).2 = true then some { g with l5 := g.l5 ++ [⟨W_ ws 1, W_ ws 2, (um (W_ ws 3).data.toList).1⟩] } else none
 else none
theorem fQ {s : ByteArray} {ls : List ByteArray} {i : Nat} {g : Xa} {r : ByteArray × Bool × Int × List qJ × List xK × List xY × Int} {x : ByteArray} (hx : W_ ls (i : Int) = x) (hi : i + 1 < ls.length) (hl : ls.length ≤ 1000000) (hz : x.size ≤ 1000000) (h3 : g.l3.length ≤ 1000000) (h4 : g.l4.length ≤ 1000000) (h5 : g.l5.length ≤ 1000000)
  (H : ∀ g', XF i g ((uW 32 x.data.toList).map bar) = some g' → Ev (fun k => PL k s ls ((i + 1 : Nat) : Int) g') r) (E : XF i g ((uW 32 x.data.toList).map bar) = none → r = VY) : Ev (fun k => PL k s ls (i : Int) g) r := by
 have hne : 0 < ((uW 32 x.data.toList).map bar).length := by
  rw [List.length_map]; exact List.length_pos_iff.2 (P7 _ _)
 have hc := ah x 32 hz
 generalize (uW 32 x.data.toList).map bar = ws at H E hne hc
 have h0 : 0 < (ws.length : Int) := by omega
 have nU : i ≤ 1000000 := by omega
 show Ev (fun k => zZ.l0 k s ls (i : Int) g.a g.b g.c g.l3 g.l4 g.l5) r
 refine Ev.step (fun k => by rw [zZ.l0, wi nU]) ?_
 refine zL (by omega) ?_
 refine zL (by omega) ?_
 refine zL (by omega) ?_
 have hxx : yG ByteArray.empty ls (i : Int) = x := hx
 rw [hxx]
 refine Ev.bind hc ?_
 unfold XF at H E
 by_cases i0 : i = 0
 ·rw [if_pos i0] at H E
  refine zL (by omega) (zL h0 ?_)
  by_cases q : (W_ ws 0).toList = [102, 111, 110, 116]
  ·refine zL q ?_
   by_cases n2 : ws.length = 2
   ·refine zL (by omega) (zq5 nU (by omega) (H _ (if_pos ⟨q, .inl n2⟩)))
   ·refine qN (by omega) ?_
    by_cases n3 : ws.length = 3
    ·refine zL (by omega) (zL (by omega) ?_)
     by_cases q2 : (W_ ws 2).toList = [115, 112, 101, 99, 105, 97, 108]
     ·have e : ((yG ByteArray.empty ws 2).toList == [115, 112, 101, 99, 105, 97, 108]) = true := beq_iff_eq.2 q2
      rw [e]
      exact zq5 nU (by omega) (H _ (if_pos ⟨q, .inr ⟨n3, q2⟩⟩))
     ·have e : ((yG ByteArray.empty ws 2).toList == [115, 112, 101, 99, 105, 97, 108]) = false := beq_eq_false_iff_ne.2 q2
      rw [e, E (if_neg (fun h => by rcases h.2 with h | h; exact n2 h; exact q2 h.2))]
      exact zzs
    ·rw [E (if_neg (fun h => by rcases h.2 with h | h; exact n2 h; exact n3 h.1))]
     exact qN (by omega) zzs
  ·rw [E (if_neg (fun h => q h.1))]
   exact qN q zzs
 ·rw [if_neg i0] at H E
  refine qN (by omega) ?_
  by_cases i1 : i = 1
  ·rw [if_pos i1] at H E
   refine zL (by omega) (zL h0 ?_)
   by_cases q : (W_ ws 0).toList = [115, 112, 97, 99, 101]
   ·refine zL q ?_
    by_cases n2 : ws.length = 2
    ·have e : ((ws.length : Int) == 2) = true := beq_iff_eq.2 (by omega)
     rw [e]
     exact zQI nU (by omega) (fun h => H _ (if_pos ⟨q, n2, h⟩)) (fun h => E (if_neg (fun hh => by rw [h] at hh; exact absurd hh.2.2 (by decide))))
    ·have e : ((ws.length : Int) == 2) = false := beq_eq_false_iff_ne.2 (by omega)
     rw [e, E (if_neg (fun h => n2 h.2.1))]
     exact zvF
   ·rw [E (if_neg (fun h => q h.1))]
    exact qN q zvF
  ·rw [if_neg i1] at H E
   refine qN (by omega) (zL h0 ?_)
   have rest : ¬ ((W_ ws 0).toList = [103] ∧ ws.length = 3) → Ev (fun k => zZ.j3 k s ls (i : Int) ws true false g.a g.b g.c g.l3 g.l4 g.l5) r := fun ng => by
    rw [if_neg ng] at H E
    have zJ7 : ¬ ((W_ ws 0).toList = [108] ∧ ws.length = 4) → Ev (fun k => zZ.j4 k s ls (i : Int) ws true false g.a g.b g.c g.l3 g.l4 g.l5) r := fun nl => by
     rw [if_neg nl] at H E
     refine zJ5 h0 (fun qk => ?_) (fun qk => E (if_neg (fun h => qk h.1)))
     by_cases n4 : ws.length = 4
     ·have e : ((ws.length : Int) == 4) = true := beq_iff_eq.2 (by omega)
      rw [e]
      rw [if_pos ⟨qk, n4⟩] at H E
      exact zQL nU (by omega) h5 (fun h => H _ (if_pos h)) (fun h => E (if_neg (by rw [h]; decide)))
     ·have e : ((ws.length : Int) == 4) = false := beq_eq_false_iff_ne.2 (by omega)
      rw [e, E (if_neg (fun h => n4 h.2))]
      exact zvG
    refine zJ6 h0 (fun ql => ?_) (fun ql => zJ7 (fun h => ql h.1))
    by_cases n4 : ws.length = 4
    ·have e : ((ws.length : Int) == 4) = true := beq_iff_eq.2 (by omega)
     rw [e]
     exact zQM nU (by omega) h4 (H _ (if_pos ⟨ql, n4⟩))
    ·have e : ((ws.length : Int) == 4) = false := beq_eq_false_iff_ne.2 (by omega)
     rw [e]
     exact zJ7 (fun h => n4 h.2)
   by_cases q : (W_ ws 0).toList = [103]
   ·refine zL q ?_
    by_cases n3 : ws.length = 3
    ·have e : ((ws.length : Int) == 3) = true := beq_iff_eq.2 (by omega)
     rw [e]
     rw [if_pos ⟨q, n3⟩] at H E
     exact zQN nU (by omega) h3 (fun h => H _ (if_pos h)) (fun h => E (if_neg (by rw [h]; decide)))
    ·have e : ((ws.length : Int) == 3) = false := beq_eq_false_iff_ne.2 (by omega)
     rw [e]
     exact rest (fun h => n3 h.2)
   ·exact qN q (rest (fun h => q h.1))
def toP (g : Xa) : vZ := ⟨g.a, g.b, g.c, g.l3.map wH, g.l4.map YQ, g.l5.map YX⟩
def toR (f : vZ) : Xa := ⟨f.a, f.b, f.c, f.l3.map jG, f.l4.map kL, f.l5.map kM⟩
theorem zWW (l : List qJ) : (l.map wH).map jG = l := by rw [List.map_map]; exact (List.map_congr_left (fun x _ => rfl)).trans (List.map_id l)
theorem zWa (l : List xK) : (l.map YQ).map kL = l := by rw [List.map_map]; exact (List.map_congr_left (fun x _ => rfl)).trans (List.map_id l)
theorem zWb (l : List xY) : (l.map YX).map kM = l := by rw [List.map_map]; exact (List.map_congr_left (fun x _ => rfl)).trans (List.map_id l)
theorem zq6 (g : Xa) : toR (toP g) = g := by
 unfold toR toP
 simp only [zWW, zWa, zWb]
def Ut (g : Xa) : Bool := pG g.a g.c g.l3 g.l4 g.l5
def VP (g : Xa) : List UInt8 := Yq g.a g.b g.c g.l3 g.l4 g.l5
def zjs (f : vZ) : Bool := uw f.a f.c f.l3 f.l4 f.l5
def zjt (f : vZ) : List UInt8 := jf f.a f.b f.c f.l3 f.l4 f.l5
theorem zq7 (f : vZ) : Ut (toR f) = zjs f := zx2 f.a f.c f.l3 f.l4 f.l5
theorem zq8 (f : vZ) : VP (toR f) = zjt f := zjj f.a f.b f.c f.l3 f.l4 f.l5
theorem zq9 (g : Xa) : zjs (toP g) = Ut g := by rw [← zq7, zq6]
theorem zxz (g : Xa) : zjt (toP g) = VP g := by rw [← zq8, zq6]
theorem zyJ {g : Xa} (h : Ut g = true) : (VP g).length ≤ 1000000000 := by
 rw [← zxz]
 rw [← zq9] at h
 exact iV h
theorem zzt {s : ByteArray} {ls : List ByteArray} {i : Nat} {g : Xa} (hi : ¬ i + 1 < ls.length) (nU : i ≤ 1000000) (ha : g.a.size ≤ 1000000) (h3 : g.l3.length ≤ 1000000) (h4 : g.l4.length ≤ 1000000) (h5 : g.l5.length ≤ 1000000) (hz : ∀ x ∈ g.l3, x.f0.size ≤ 1000000) :
  Ev (fun k => PL k s ls (i : Int) g) (if Ut g = true ∧ VP g = s.data.toList then okT g else VY) := by
 suffices main : ∀ r, (Ut g = true ∧ VP g = s.data.toList → r = okT g) → (¬ (Ut g = true ∧ VP g = s.data.toList) → r = VY) → Ev (fun k => PL k s ls (i : Int) g) r from main _ (fun h => if_pos h) (fun h => if_neg h)
 intro r ry rn
 show Ev (fun k => zZ.l0 k s ls (i : Int) g.a g.b g.c g.l3 g.l4 g.l5) _
 refine Ev.step (fun k => by rw [zZ.l0, wi nU]) ?_
 refine qN (by omega) ?_
 have hcond : g.l3.length ≤ 1000000000 ∧ g.l4.length ≤ 1000000000 ∧ g.l5.length ≤ 1000000000 ∧ g.a.size ≤ 140737488355328 ∧ (g.l3.all fun x => decide (x.f0.size ≤ 140737488355328)) = true ∧ (pG g.a g.c g.l3 g.l4 g.l5 = true → (Yq g.a g.b g.c g.l3 g.l4 g.l5).length ≤ 1000000000) :=
  ⟨by omega, by omega, by omega, by omega, List.all_eq_true.2 (fun x hx => decide_eq_true (Nat.le_trans (hz x hx) (by decide))), fun hv => zyJ (g := g) hv⟩
 by_cases hv : Ut g = true
 ·have hw : uj.f g.a g.b g.c g.l3 g.l4 g.l5 = some (bar (VP g), 0) := by
   unfold uj.f
   rw [if_pos hcond]
   unfold Ut at hv
   rw [if_pos hv]; rfl
  refine mZ hw (zL rfl ?_)
  by_cases ht : VP g = s.data.toList
  ·rw [ry ⟨hv, ht⟩]
   refine zL ?_ (Ev.now _)
   show (bar (VP g)).toList = s.toList
   rw [ht, ByteArray.toList_eq, ByteArray.toList_eq, wz]
  ·rw [rn (fun h => ht h.2)]
   refine qN ?_ (Ev.now _)
   show ¬ (bar (VP g)).toList = s.toList
   rw [ByteArray.toList_eq, ByteArray.toList_eq, wz]; exact ht
 ·have hw : uj.f g.a g.b g.c g.l3 g.l4 g.l5 = some ((⟨#[]⟩ : ByteArray), 1) := by
   unfold uj.f
   rw [if_pos hcond]
   unfold Ut at hv
   rw [if_neg hv]
  rw [rn (fun h => hv h.1)]
  exact mZ hw (qN (by decide) (Ev.now _))
def SzR (i : Nat) (g : Xa) : Prop := g.a.size ≤ 1000000 ∧ g.l3.length ≤ i ∧ g.l4.length ≤ i ∧ g.l5.length ≤ i ∧ ∀ x ∈ g.l3, x.f0.size ≤ 1000000
theorem zvH {ws : List ByteArray} {n : Nat} (h : ∀ x ∈ ws, x.size ≤ n) (j : Nat) : (W_ ws (j : Int)).size ≤ n := by
 show (yG ByteArray.empty ws (j : Int)).size ≤ n
 rw [bR, List.getD_eq_getElem?_getD]
 cases hx : ws[j]? with
 | none => exact Nat.zero_le _
 | some x => exact h x (List.mem_of_getElem? hx)
theorem zyV {i : Nat} {g g' : Xa} {ws : List ByteArray} (h : XF i g ws = some g') (hz : ∀ x ∈ ws, x.size ≤ 1000000) (hs : SzR i g) : SzR (i + 1) g' := by
 obtain ⟨s1, s2, s3, s4, s5⟩ := hs
 have hw := zvH hz 1
 unfold XF at h
 repeat' split at h
 all_goals first | (cases h; done) | skip
 all_goals
  cases h
  refine ⟨?_, ?_, ?_, ?_, ?_⟩
 all_goals first
  | exact s1
  | exact hw
  | exact s5
  | (simp only [List.length_append, List.length_singleton]; omega)
  | omega
  | (intro x hx; rcases List.mem_append.1 hx with q | q; exact s5 x q; rw [List.mem_singleton.1 q]; exact hw)
theorem zQO (s : ByteArray) (ls : List ByteArray) (hl : ls.length ≤ 1000000) (hz : ∀ x ∈ ls, x.size ≤ 1000000) : ∀ (d i : Nat) (g : Xa), ls.length - i = d → i ≤ 1000000 → SzR i g →
  ∃ r, Ev (fun k => PL k s ls (i : Int) g) r ∧ (r = VY ∨ ∃ g', r = okT g' ∧ Ut g' = true ∧ VP g' = s.data.toList) := by
 intro d
 induction d with
 | zero =>
  intro i g hd hi hs
  obtain ⟨s1, s2, s3, s4, s5⟩ := hs
  refine ⟨_, zzt (by omega) hi s1 (by omega) (by omega) (by omega) s5, ?_⟩
  split
  ·rename_i h; exact .inr ⟨g, rfl, h⟩
  ·exact .inl rfl
 | succ d ih =>
  intro i g hd hi hs
  by_cases h1 : i + 1 < ls.length
  ·have hx : (W_ ls (i : Int)).size ≤ 1000000 := zvH hz i
   have hws : ∀ x ∈ (uW 32 (W_ ls (i : Int)).data.toList).map bar, x.size ≤ 1000000 := fun x hx2 => by
    obtain ⟨p, hp, rfl⟩ := List.mem_map.1 hx2
    have h2 := zzc 32 (W_ ls (i : Int)).data.toList p (by rw [Qw]; exact hp)
    rw [vC]
    have e : (W_ ls (i : Int)).data.toList.length = (W_ ls (i : Int)).size := Array.length_toList
    omega
   obtain ⟨s1, s2, s3, s4, s5⟩ := hs
   cases hr : XF i g ((uW 32 (W_ ls (i : Int)).data.toList).map bar) with
   | none => exact ⟨VY, fQ rfl h1 hl hx (by omega) (by omega) (by omega) (fun g' h => by rw [hr] at h; cases h) (fun _ => rfl), .inl rfl⟩
   | some g' =>
    obtain ⟨r, h, hp⟩ := ih (i + 1) g' (by omega) (by omega) (zyV hr hws ⟨s1, s2, s3, s4, s5⟩)
    exact ⟨r, fQ rfl h1 hl hx (by omega) (by omega) (by omega) (fun g2 h2 => by rw [hr] at h2; cases h2; exact h) (fun h => by rw [hr] at h; cases h), hp⟩
  ·obtain ⟨s1, s2, s3, s4, s5⟩ := hs
   refine ⟨_, zzt h1 hi s1 (by omega) (by omega) (by omega) s5, ?_⟩
   split
   ·rename_i h; exact .inr ⟨g, rfl, h⟩
   ·exact .inl rfl
theorem zyK (s : ByteArray) (hs : s.size ≤ 100000) : ∃ r, Ev (fun k => zZ.f k s) r ∧ (r = VY ∨ ∃ g', r = okT g' ∧ Ut g' = true ∧ VP g' = s.data.toList) := by
 have e : s.data.toList.length = s.size := Array.length_toList
 have hl : ((uW 10 s.data.toList).map bar).length ≤ 1000000 := by
  have := zzb 10 s.data.toList
  rw [Qw] at this
  rw [List.length_map]; omega
 have hz : ∀ x ∈ (uW 10 s.data.toList).map bar, x.size ≤ 1000000 := fun x hx => by
  obtain ⟨p, hp, rfl⟩ := List.mem_map.1 hx
  have := zzc 10 s.data.toList p (by rw [Qw]; exact hp)
  rw [vC]; omega
 obtain ⟨r, h, hp⟩ := zQO s _ hl hz _ 0 ⟨⟨#[]⟩, false, 0, [], [], []⟩ rfl (by omega) ⟨by decide, Nat.le_refl _, Nat.le_refl _, Nat.le_refl _, fun x hx => by cases hx⟩
 exact ⟨r, Ev.bind (ah s 10 (by omega)) h, hp⟩
def zvI (n : Int) : Bool := (um (Lib.itoa n)).1 == n && (um (Lib.itoa n)).2
set_option maxRecDepth 100000 in
theorem zyY : zwV.all zvI = true := by kernel_rfl
theorem Uu (n : Int) (h0 : -500 ≤ n) (h1 : n ≤ 3000) : um (Lib.itoa n) = (n, true) := by
 have h := List.all_eq_true.1 zyY n (List.mem_map.2 ⟨(n + 500).toNat, List.mem_range.2 (by omega), by omega⟩)
 unfold zvI at h
 rw [Bool.and_eq_true] at h
 exact Prod.ext (by simpa using h.1) h.2
theorem U8 {α : Type} (f g : α → List UInt8) (r : List UInt8) : ∀ l : List α, (∀ x ∈ l, f x = g x ++ [10] ∧ ∀ y ∈ g x, y ≠ 10) → uW 10 ((l.map f).flatten ++ r) = l.map g ++ uW 10 r
 | [], _ => rfl
 | x :: l, h => by
  obtain ⟨h1, h2⟩ := h x (List.mem_cons_self ..)
  rw [List.map_cons, List.flatten_cons, List.append_assoc, h1, List.append_assoc, List.singleton_append, Yd _ _ _ h2, U8 f g r l (fun y hy => h y (List.mem_cons_of_mem _ hy))]; rfl
theorem zyW (f : vZ) (h : ni f) : uW 10 (Ve f) = ZF f.a f.b :: XW f.c :: (f.l3.map Zr ++ (f.l4.map Yy ++ (f.l5.map Yw ++ [[]]))) := by
 unfold Ve
 rw [List.append_assoc, List.singleton_append, Yd _ _ _ (zwK _ _ h.na), List.append_assoc, List.singleton_append, Yd _ _ _ (zwY _ h.nc.1 h.nc.2)]
 rw [U8 _ Zr _ _ (fun x hx => ⟨rfl, zwW x (h.g x hx).1 (h.g x hx).2.1 (h.g x hx).2.2⟩)]
 rw [U8 _ Yy _ _ (fun x hx => ⟨rfl, zwa x (h.l x hx).1 (h.l x hx).2.1 (h.l x hx).2.2⟩)]
 have := U8 (fun x : xq => Yw x ++ [10]) Yw [] f.l5 (fun x hx => ⟨rfl, zwb x (h.k x hx).1 (h.k x hx).2.1 (h.k x hx).2.2.1 (h.k x hx).2.2.2⟩)
 rw [List.append_nil] at this
 rw [this]; rfl
theorem zWc {ls P Q : List ByteArray} {x : ByteArray} (h : ls = P ++ x :: Q) : W_ ls (P.length : Int) = x := by
 show yG ByteArray.empty ls (P.length : Int) = x
 rw [bR, h, List.getD_eq_getElem?_getD]; simp
section
variable {s : ByteArray} {ls P Q : List ByteArray} {g g' : Xa} {r : ByteArray × Bool × Int × List qJ × List xK × List xY × Int}
theorem rz {t : List UInt8} (hls : ls = P ++ bar t :: Q) (hQ : Q ≠ []) (hl : ls.length ≤ 1000000) (ht : t.length ≤ 1000000) (h3 : g.l3.length ≤ 1000000) (h4 : g.l4.length ≤ 1000000) (h5 : g.l5.length ≤ 1000000) (hr : XF P.length g ((uW 32 t).map bar) = some g') (H : Ev (fun k => PL k s ls ((P.length + 1 : Nat) : Int) g') r) : Ev (fun k => PL k s ls (P.length : Int) g) r :=
 fQ (zWc hls) (by have := List.length_pos_iff.2 hQ; rw [hls]; simp; omega) hl (by rw [vC]; exact ht) h3 h4 h5 (fun g2 h2 => by rw [wz, hr] at h2; cases h2; exact H) (fun h => by rw [wz, hr] at h; cases h)
end
theorem bI (l : List UInt8) : (bar l).toList = l := Zg l
theorem zJ8 (s : ByteArray) (ls : List ByteArray) (hl : ls.length ≤ 1000000) (r : ByteArray × Bool × Int × List qJ × List xK × List xY × Int) : ∀ (l : List qw) (P Q : List ByteArray) (g : Xa), ls = P ++ ((l.map fun x => bar (Zr x)) ++ Q) → Q ≠ [] → 2 ≤ P.length → (g.l3.length + l.length ≤ 1000 ∧ g.l4.length ≤ 1000 ∧ g.l5.length ≤ 1000) → (∀ x ∈ l, PlainT x.f0.data.toList ∧ 0 ≤ x.f1 ∧ x.f1 ≤ 3000 ∧ x.f0.size ≤ 1000) →
  Ev (fun k => PL k s ls ((P.length + l.length : Nat) : Int) { g with l3 := g.l3 ++ l.map jG }) r → Ev (fun k => PL k s ls (P.length : Int) g) r
 | [], P, Q, g, _, _, _, _, _, H => by simpa using H
 | x :: l, P, Q, g, hls, hQ, hP, ⟨q3, q4, q5⟩, hx, H => by
  obtain ⟨p, n0, n1, sz⟩ := hx x (List.mem_cons_self ..)
  rw [List.length_cons] at q3
  have ih := zJ8 s ls hl r l (P ++ [bar (Zr x)]) Q { g with l3 := g.l3 ++ [jG x] } (by rw [hls]; simp) hQ (by simp; omega) ⟨by simp; omega, q4, q5⟩ (fun y hy => hx y (List.mem_cons_of_mem _ hy)) (by
   have e : (P ++ [bar (Zr x)]).length + l.length = P.length + (x :: l).length := by simp; omega
   rw [e]
   simpa using H)
  have hcut : (uW 32 (Zr x)).map bar = [bar [103], x.f0, bar (Lib.itoa x.f1)] := by
   unfold Zr; rw [zzd _ _ _ (JD 103 (by decide)) p (Zt _ (by omega) n1)]
   simp [YN]
  have hlen : (Zr x).length ≤ 1000000 := by
   have h6 := (JC x.f1 (by omega) n1).1
   have e : x.f0.data.toList.length = x.f0.size := Array.length_toList
   unfold Zr; simp; omega
  refine rz (g' := { g with l3 := g.l3 ++ [jG x] }) (by rw [hls]; rfl) (Q := (l.map fun x => bar (Zr x)) ++ Q) (fun e => hQ (List.append_eq_nil_iff.1 e).2) hl hlen (by omega) (by omega) (by omega) ?_ ?_
  ·rw [hcut]
   unfold XF
   rw [if_neg (by omega), if_neg (by omega), if_pos ⟨bI _, rfl⟩]
   have hw : um (W_ [bar [103], x.f0, bar (Lib.itoa x.f1)] 2).data.toList = (x.f1, true) := Uu x.f1 (by omega) n1
   rw [hw, if_pos rfl]; rfl
  ·have e : (P ++ [bar (Zr x)]).length = P.length + 1 := by simp
   rw [e] at ih; exact ih
theorem zJ9 (s : ByteArray) (ls : List ByteArray) (hl : ls.length ≤ 1000000) (r : ByteArray × Bool × Int × List qJ × List xK × List xY × Int) : ∀ (l : List qh) (P Q : List ByteArray) (g : Xa), ls = P ++ ((l.map fun x => bar (Yy x)) ++ Q) → Q ≠ [] → 2 ≤ P.length → (g.l3.length ≤ 1000 ∧ g.l4.length + l.length ≤ 1000 ∧ g.l5.length ≤ 1000) → (∀ x ∈ l, (PlainT x.f0.data.toList ∧ PlainT x.f1.data.toList ∧ PlainT x.f2.data.toList) ∧ x.f0.size ≤ 1000 ∧ x.f1.size ≤ 1000 ∧ x.f2.size ≤ 1000) →
  Ev (fun k => PL k s ls ((P.length + l.length : Nat) : Int) { g with l4 := g.l4 ++ l.map kL }) r → Ev (fun k => PL k s ls (P.length : Int) g) r
 | [], P, Q, g, _, _, _, _, _, H => by simpa using H
 | x :: l, P, Q, g, hls, hQ, hP, ⟨q3, q4, q5⟩, hx, H => by
  obtain ⟨⟨p0, p1, p2⟩, s0, s1, s2⟩ := hx x (List.mem_cons_self ..)
  rw [List.length_cons] at q4
  have ih := zJ9 s ls hl r l (P ++ [bar (Yy x)]) Q { g with l4 := g.l4 ++ [kL x] } (by rw [hls]; simp) hQ (by simp; omega) ⟨q3, by simp; omega, q5⟩ (fun y hy => hx y (List.mem_cons_of_mem _ hy)) (by
   have e : (P ++ [bar (Yy x)]).length + l.length = P.length + (x :: l).length := by simp; omega
   rw [e]
   simpa using H)
  have hcut : (uW 32 (Yy x)).map bar = [bar [108], x.f0, x.f1, x.f2] := by
   unfold Yy; rw [zx8 _ _ _ _ (JD 108 (by decide)) p0 p1 p2]
   simp [YN]
  have hlen : (Yy x).length ≤ 1000000 := by
   have e0 : x.f0.data.toList.length = x.f0.size := Array.length_toList
   have e1 : x.f1.data.toList.length = x.f1.size := Array.length_toList
   have e2 : x.f2.data.toList.length = x.f2.size := Array.length_toList
   unfold Yy; simp; omega
  refine rz (g' := { g with l4 := g.l4 ++ [kL x] }) (by rw [hls]; rfl) (Q := (l.map fun x => bar (Yy x)) ++ Q) (fun e => hQ (List.append_eq_nil_iff.1 e).2) hl hlen (by omega) (by omega) (by omega) ?_ ?_
  ·rw [hcut]
   unfold XF
   rw [if_neg (by omega), if_neg (by omega), if_neg (fun h => absurd ((bI [108]).symm.trans h.1) (by decide)), if_pos ⟨bI _, rfl⟩]; rfl
  ·have e : (P ++ [bar (Yy x)]).length = P.length + 1 := by simp
   rw [e] at ih; exact ih
theorem zVz (s : ByteArray) (ls : List ByteArray) (hl : ls.length ≤ 1000000) (r : ByteArray × Bool × Int × List qJ × List xK × List xY × Int) : ∀ (l : List xq) (P Q : List ByteArray) (g : Xa), ls = P ++ ((l.map fun x => bar (Yw x)) ++ Q) → Q ≠ [] → 2 ≤ P.length → (g.l3.length ≤ 1000 ∧ g.l4.length ≤ 1000 ∧ g.l5.length + l.length ≤ 1000) → (∀ x ∈ l, (PlainT x.f0.data.toList ∧ PlainT x.f1.data.toList ∧ -500 ≤ x.f2 ∧ x.f2 ≤ 500) ∧ x.f0.size ≤ 1000 ∧ x.f1.size ≤ 1000) →
  Ev (fun k => PL k s ls ((P.length + l.length : Nat) : Int) { g with l5 := g.l5 ++ l.map kM }) r → Ev (fun k => PL k s ls (P.length : Int) g) r
 | [], P, Q, g, _, _, _, _, _, H => by simpa using H
 | x :: l, P, Q, g, hls, hQ, hP, ⟨q3, q4, q5⟩, hx, H => by
  obtain ⟨⟨p0, p1, n0, n1⟩, s0, s1⟩ := hx x (List.mem_cons_self ..)
  rw [List.length_cons] at q5
  have ih := zVz s ls hl r l (P ++ [bar (Yw x)]) Q { g with l5 := g.l5 ++ [kM x] } (by rw [hls]; simp) hQ (by simp; omega) ⟨q3, q4, by simp; omega⟩ (fun y hy => hx y (List.mem_cons_of_mem _ hy)) (by
   have e : (P ++ [bar (Yw x)]).length + l.length = P.length + (x :: l).length := by simp; omega
   rw [e]
   simpa using H)
  have hcut : (uW 32 (Yw x)).map bar = [bar [107], x.f0, x.f1, bar (Lib.itoa x.f2)] := by
   unfold Yw; rw [zx8 _ _ _ _ (JD 107 (by decide)) p0 p1 (Zt _ n0 (by omega))]
   simp [YN]
  have hlen : (Yw x).length ≤ 1000000 := by
   have h6 := (JC x.f2 n0 (by omega)).1
   have e0 : x.f0.data.toList.length = x.f0.size := Array.length_toList
   have e1 : x.f1.data.toList.length = x.f1.size := Array.length_toList
   unfold Yw; simp; omega
  refine rz (g' := { g with l5 := g.l5 ++ [kM x] }) (by rw [hls]; rfl) (Q := (l.map fun x => bar (Yw x)) ++ Q) (fun e => hQ (List.append_eq_nil_iff.1 e).2) hl hlen (by omega) (by omega) (by omega) ?_ ?_
  ·rw [hcut]
   unfold XF
   rw [if_neg (by omega), if_neg (by omega), if_neg (fun h => absurd ((bI [107]).symm.trans h.1) (by decide)), if_neg (fun h => absurd ((bI [107]).symm.trans h.1) (by decide)), if_pos ⟨bI _, rfl⟩]
   have hw : um (W_ [bar [107], x.f0, x.f1, bar (Lib.itoa x.f2)] 3).data.toList = (x.f2, true) := Uu x.f2 n0 (by omega)
   rw [hw, if_pos rfl]; rfl
  ·have e : (P ++ [bar (Yw x)]).length = P.length + 1 := by simp
   rw [e] at ih; exact ih
theorem zya (f : vZ) (s : ByteArray) (hv : zjs f = true) (ht : zjt f = s.data.toList) (hs : s.size ≤ 100000) : Ev (fun k => zZ.f k s) (okT (toR f)) := by
 have hF : ni f := Kh hv
 obtain ⟨na, n3, n4, n5⟩ := JQ hv
 have e : s.data.toList.length = s.size := Array.length_toList
 have hl : ((uW 10 s.data.toList).map bar).length ≤ 1000000 := by
  have := zzb 10 s.data.toList
  rw [Qw] at this
  rw [List.length_map]; omega
 refine Ev.bind (ah s 10 (by omega)) ?_
 have hd : s.data.toList = Ve f := by rw [← ht]; exact Vf f
 have hls : (uW 10 s.data.toList).map bar = [] ++ bar (ZF f.a f.b) :: (bar (XW f.c) :: ((f.l3.map fun x => bar (Zr x)) ++ ((f.l4.map fun x => bar (Yy x)) ++ ((f.l5.map fun x => bar (Yw x)) ++ [bar []])))) := by
  rw [hd, zyW f hF]
  simp [Function.comp_def]
 generalize (uW 10 s.data.toList).map bar = ls at hl hls
 have p1 : PlainT [102, 111, 110, 116] := by unfold PlainT; decide
 have p2 : PlainT [115, 112, 101, 99, 105, 97, 108] := by unfold PlainT; decide
 have p3 : PlainT [115, 112, 97, 99, 101] := by unfold PlainT; decide
 have ea : f.a.data.toList.length = f.a.size := Array.length_toList
 have hc6 := (JC f.c (by have := hF.nc; omega) hF.nc.2).1
 refine rz (P := []) (g := ⟨⟨#[]⟩, false, 0, [], [], []⟩) (g' := ⟨f.a, f.b, 0, [], [], []⟩) hls (by simp) hl (by unfold ZF; cases f.b <;> simp <;> omega) (by simp) (by simp) (by simp) ?_ ?_
 ·unfold XF
  rw [if_pos (show ([] : List ByteArray).length = 0 from rfl)]
  cases hb : f.b with
  | true =>
   have hcut : (uW 32 (ZF f.a true)).map bar = [bar [102, 111, 110, 116], f.a, bar [115, 112, 101, 99, 105, 97, 108]] := by
    unfold ZF; rw [if_pos rfl, zzd _ _ _ p1 hF.na p2]; simp [YN]
   rw [hcut, if_pos ⟨bI _, .inr ⟨rfl, bI _⟩⟩]; rfl
  | false =>
   have hcut : (uW 32 (ZF f.a false)).map bar = [bar [102, 111, 110, 116], f.a] := by
    unfold ZF; rw [if_neg (by decide), List.append_nil, zx7 _ _ p1 hF.na]; simp [YN]
   rw [hcut, if_pos ⟨bI _, .inl rfl⟩]; rfl
 refine rz (P := [bar (ZF f.a f.b)]) (g' := ⟨f.a, f.b, f.c, [], [], []⟩) (by rw [hls]; rfl) (by simp) hl (by unfold XW; simp; omega) (by simp) (by simp) (by simp) ?_ ?_
 ·have hcut : (uW 32 (XW f.c)).map bar = [bar [115, 112, 97, 99, 101], bar (Lib.itoa f.c)] := by
   unfold XW; rw [zx7 _ _ p3 (Zt _ (by have := hF.nc; omega) hF.nc.2)]; rfl
  rw [hcut]
  unfold XF
  have hw : um (W_ [bar [115, 112, 97, 99, 101], bar (Lib.itoa f.c)] 1).data.toList = (f.c, true) := Uu f.c (by have := hF.nc; omega) hF.nc.2
  rw [if_neg (by simp), if_pos (show [bar (ZF f.a f.b)].length = 1 from rfl), hw, if_pos ⟨bI _, rfl, rfl⟩]
 have hn3 := hF.n3
 have hn4 := hF.n4
 have hn5 := hF.n5
 refine zJ8 s ls hl _ f.l3 [bar (ZF f.a f.b), bar (XW f.c)] _ ⟨f.a, f.b, f.c, [], [], []⟩ (by rw [hls]; rfl) (by simp) (by simp) ⟨by simp; omega, by simp, by simp⟩ (fun x hx => ⟨(hF.g x hx).1, (hF.g x hx).2.1, (hF.g x hx).2.2, Nat.le_trans (n3 x hx) (by decide)⟩) ?_
 have H2 := zJ9 s ls hl (okT (toR f)) f.l4 ([bar (ZF f.a f.b), bar (XW f.c)] ++ f.l3.map fun x => bar (Zr x)) ((f.l5.map fun x => bar (Yw x)) ++ [bar []]) ⟨f.a, f.b, f.c, f.l3.map jG, [], []⟩ (by rw [hls]; simp) (by simp) (by simp) ⟨by simp; omega, by simp; omega, by simp⟩ (fun x hx => ⟨hF.l x hx, Nat.le_trans (n4 x hx).1 (by decide), Nat.le_trans (n4 x hx).2.1 (by decide), Nat.le_trans (n4 x hx).2.2 (by decide)⟩)
 have H3 := zVz s ls hl (okT (toR f)) f.l5 (([bar (ZF f.a f.b), bar (XW f.c)] ++ f.l3.map fun x => bar (Zr x)) ++ f.l4.map fun x => bar (Yy x)) [bar []] ⟨f.a, f.b, f.c, f.l3.map jG, f.l4.map kL, []⟩ (by rw [hls]; simp) (by simp) (by simp) ⟨by simp; omega, by simp; omega, by simp; omega⟩ (fun x hx => ⟨hF.k x hx, Nat.le_trans (n5 x hx).1 (by decide), Nat.le_trans (n5 x hx).2 (by decide)⟩)
 have hE := zzt (s := s) (ls := ls) (i := (([bar (ZF f.a f.b), bar (XW f.c)] ++ f.l3.map fun x => bar (Zr x)) ++ f.l4.map fun x => bar (Yy x)).length + f.l5.length) (g := toR f) (by rw [hls]; simp; omega) (by simp; omega) (by show f.a.size ≤ _; omega) (by simp [toR]; omega) (by simp [toR]; omega) (by simp [toR]; omega) (fun x hx => by
  obtain ⟨y, hy, rfl⟩ := List.mem_map.1 hx
  have := n3 y hy
  show y.f0.size ≤ 1000000
  omega)
 rw [zq7, zq8, if_pos ⟨hv, ht⟩] at hE
 have e1 : ([bar (ZF f.a f.b), bar (XW f.c)] ++ f.l3.map fun x => bar (Zr x)).length = [bar (ZF f.a f.b), bar (XW f.c)].length + f.l3.length := by rw [List.length_append, List.length_map]
 have e2 : (([bar (ZF f.a f.b), bar (XW f.c)] ++ f.l3.map fun x => bar (Zr x)) ++ f.l4.map fun x => bar (Yy x)).length = ([bar (ZF f.a f.b), bar (XW f.c)] ++ f.l3.map fun x => bar (Zr x)).length + f.l4.length := by rw [List.length_append, List.length_map]
 rw [e1] at H2
 rw [List.nil_append]
 refine H2 ?_
 rw [← e1, ← e2, List.nil_append]
 refine H3 ?_
 rw [List.nil_append]
 exact hE
end Go.Proofs.YtaifemkokfoadaaGreatDoor
